/-
 Parts of the proof: IsK2, IsK3, IsK4. Conditions: none.
-/
import Derived.Test.YtkkjnfappndmpaaGreatDoorQFold
import Derived.Test.YtkkjnfappndmpaaGreatDoorQaa
import Derived.Test.YtkkjnfappndmpaaGreatDoorQao
import Derived.Test.YtkkjnfappndmpaaGreatDoorQad
import Derived.Test.YtkkjnfappndmpaaGreatDoorQaq
import Derived.Test.YtkkjnfappndmpaaGreatDoorQar
import Derived.Test.YtkkjnfappndmpaaGreatDoorQas
import Derived.Test.YtkkjnfappndmpaaGreatDoorQat
import Derived.Test.YtkkjnfappndmpaaGreatDoorQam
import Derived.Test.YtkkjnfappndmpaaGreatDoorQal
set_option linter.unusedVariables false
set_option linter.unusedSimpArgs false
namespace Go.Proofs.YtkkjnfappndmpaaGreatDoor
set_option maxHeartbeats 40000000
open Go.ChangeShapes Go.WideShapes Go.ChangeAt Go.RowKit Go.Deep Go.Joins
open Go.ChangeMaps (open_string shut_string)
set_option maxRecDepth 100000
theorem tyI_of (l : List FNode) (hlen : l.length ≤ 9000000000) (hwl : ∀ x, x ∈ l → x.wt ≤ 9000000000) (h1 : ∀ x, x ∈ l → BlI [x]) (h2 : ∀ x, x ∈ l → BlI x.kids) (h3 : ∀ x, x ∈ l → ∀ y, y ∈ x.kids → BlI [y]) : TyI l := by
 match l, hlen, hwl, h1, h2, h3 with
 | [], _, _, _, _, _ => exact tyI_short _ qae
 | [_], _, _, _, _, _ => exact tyI_short _ qag
 | a :: ⟨b0, b1, b2, b3⟩ :: r, hlen, hwl, h1, h2, h3 =>
  intro u w B hmx hB0 hr
  obtain ⟨A3, c3, rfl⟩ := hr.form
  have ha := h1 a qag
  have hbw := hwl ⟨b0, b1, b2, b3⟩ qag
  rw [FNode.wt_eq] at hbw
  have hz : b2.size ≤ 9223372036854775807 := qaa
  have hb3 : b3.length ≤ 9000000000 := qaa
  cases hav : blF a with
  | false =>
   rw [ty_bad a _ r hav]
   exact ty_A a b0 b1 b2 b3 r false w B _ c3 A3 hmx hB0 hlen rfl hr (ha.val1 hav) rfl
  | true =>
   have ha := ha.val1 hav
   by_cases h44 : b0 = 44
   ·subst h44
    have hfn := fnF_44 (k := 44) qae b1 b2 b3
    by_cases hb1 : b1 = 0
    ·subst hb1
     cases hgo : goodF b2 with
     | false =>
      rw [ty_bad2 a _ r (by rw [ctF_44, hgo]; simp) hfn]
      exact ty_C2 a b2 b3 r w B _ c3 A3 hmx hB0 hlen rfl hr ha hz hb3 hgo
     | true =>
      by_cases hn2 : b3.length = 2
      ·match b3, hn2, hfn, hr, hb3, h2, h3, hwl with
       | [⟨p0, p1, p2, p3⟩, q], _, hfn, hr, hb3, h2, h3, hwl =>
        have hct : ctF ⟨44, 0, b2, [⟨p0, p1, p2, p3⟩, q]⟩ = (varF ⟨p0, p1, p2, p3⟩ && blF q) := by rw [ctF_44, hgo, ctK_2]; rfl
        have hpw : (FNode.mk p0 p1 p2 p3).wt ≤ 9000000000 := by
         have e1 := hwl ⟨44, 0, b2, [⟨p0, p1, p2, p3⟩, q]⟩ qag
         rw [FNode.wt_eq] at e1
         have e2 := FNode.wts_at [⟨p0, p1, p2, p3⟩, q] ⟨p0, p1, p2, p3⟩ qag
         omega
        have hq := h3 ⟨44, 0, b2, [⟨p0, p1, p2, p3⟩, q]⟩ qag q (by simp [FNode.kids])
        cases hp : varF ⟨p0, p1, p2, p3⟩ with
        | false =>
         rw [ty_bad2 a _ r (by rw [hct, hp]; rfl) hfn]
         exact ty_C4 a b2 p0 p1 p2 p3 q r w B _ c3 A3 hmx hB0 hlen rfl hr ha hz hgo (vaV_of hpw hp)
        | true =>
         cases hqv : blF q with
         | false =>
          rw [ty_bad2 a _ r (by rw [hct, hp, hqv]; rfl) hfn]
          exact ty_C5 a b2 p0 p1 p2 p3 q r w B _ c3 A3 hmx hB0 hlen rfl hr ha hz hgo (vaV_of hpw hp) (hq.val1 hqv)
         | true =>
          rw [hp, hqv] at hct
          have hct : ctF ⟨44, 0, b2, [⟨p0, p1, p2, p3⟩, q]⟩ = true := hct
          match r, hlen, hwl, h1, h2, h3, hr with
          | [], hlen, hwl, h1, h2, h3, hr =>
           rw [ty_two, hav, hct]
           exact ty_D0 a b2 p0 p1 p2 p3 q w B _ c3 A3 hmx hB0 hlen rfl hr ha hz hgo (vaV_of hpw hp) (hq.val1 hqv)
          | [⟨f0, f1, f2, f3⟩], hlen, hwl, h1, h2, h3, hr =>
           rw [ty_three, hav, hct, fnF_eq]
           have hfw := hwl ⟨f0, f1, f2, f3⟩ qag
           rw [FNode.wt_eq] at hfw
           exact ty_D1 a b2 p0 p1 p2 p3 q f0 f1 f2 f3 _ w B _ c3 A3 hmx hB0 hlen rfl hr ha hz hgo (vaV_of hpw hp) (hq.val1 hqv) ((h2 ⟨f0, f1, f2, f3⟩ qag).val rfl) qaa
          | ⟨f0, f1, f2, f3⟩ :: g :: r, hlen, hwl, h1, h2, h3, hr =>
           rw [ty_many]
           exact ty_DM a b2 p0 p1 p2 p3 q f0 f1 f2 f3 g r w B _ c3 A3 hmx hB0 hlen rfl hr ha hz hgo (vaV_of hpw hp) (hq.val1 hqv)
      ·rw [ty_bad2 a _ r (by rw [ctF_44, ctK_no _ hn2]; simp) hfn]
       exact ty_C3 a b2 b3 r w B _ c3 A3 hmx hB0 hlen rfl hr ha hz hb3 hgo hn2
    ·rw [ty_bad2 a _ r (by rw [ctF_44, beq_false_of_ne hb1]; rfl) hfn]
     exact ty_C1 a b1 b2 b3 r w B _ c3 A3 hmx hB0 hlen rfl hr ha hz hb3 hb1
   ·have hct := ctF_no h44 b1 b2 b3
    match r, hlen, hwl, h1, h2, h3, hr with
    | [], hlen, hwl, h1, h2, h3, hr =>
     rw [ty_two, hav, hct, fnF_eq]
     exact ty_E0 a b0 b1 b2 b3 _ w B _ c3 A3 hmx hB0 hlen rfl hr ha h44 ((h2 ⟨b0, b1, b2, b3⟩ qag).val rfl) hb3
    | [d], hlen, hwl, h1, h2, h3, hr =>
     rw [ty_three, hct, Bool.false_and, Bool.and_false]
     exact ty_EM a b0 b1 b2 b3 d [] w B _ c3 A3 hmx hB0 hlen rfl hr ha h44
    | d :: e :: r, hlen, hwl, h1, h2, h3, hr =>
     rw [ty_many]
     exact ty_EM a b0 b1 b2 b3 d (e :: r) w B _ c3 A3 hmx hB0 hlen rfl hr ha h44
theorem stI_43 (z1 : Int) (z2 : ByteArray) (z3 : List FNode) (hw : (FNode.mk 43 z1 z2 z3).wt ≤ 9000000000) (hT : TyI z3) : StI (.mk 43 z1 z2 z3) := by
 intro us w B hmx hB0 hr
 obtain ⟨A3, c3, rfl, r3⟩ := hr.node
 rw [FNode.wt_eq] at hw
 have hz : z2.size ≤ 9223372036854775807 := qaa
 have hl : z3.length ≤ 9223372036854775807 := qaa
 have EX := Lib.hid (show stF ⟨43, z1, z2, z3⟩ = (((z1 == 0) && emT z2) && tyK z3) from by rw [stF_mk]; rfl)
 have HB := hbA w 43 z1 z2 (.slice A3 z3.length c3)
 have CALL := Lib.hid (hT _ _ w.heap.size (hmx.below HB.out) HB.out.size ((r3.up hB0).below HB.out nr))
 clear hr r3 hw hT
 by_cases e2 : z1 = 0
 ·subst e2
  go_enter Tryz.func70, Tryz.ntmps70
  go_wp2_with (first | (go_at_call 112; refine CALL.out.mono ?_; rintro e w' ⟨rfl, hb3⟩))
  all_goals exact zz22
 ·
  go_enter Tryz.func70, Tryz.ntmps70
  exact zz176
theorem kid_wt {x y : FNode} (h : y ∈ x.kids) : y.wt ≤ x.wt ∧ x.kids.length ≤ x.wt ∧ x.tx.size ≤ x.wt := by
 obtain ⟨k, n, t, ks⟩ := x
 have := FNode.wts_at ks y h
 rw [FNode.wt_eq]
 refine ⟨?_, ?_, ?_⟩
 ·omega
 ·show ks.length ≤ _
  omega
 ·show t.size ≤ _
  omega
theorem len_wt (x : FNode) : x.kids.length ≤ x.wt ∧ x.tx.size ≤ x.wt := by
 obtain ⟨k, n, t, ks⟩ := x
 rw [FNode.wt_eq]
 refine ⟨?_, ?_⟩
 ·show ks.length ≤ _
  omega
 ·show t.size ≤ _
  omega
theorem is_all : ∀ (N : Nat) (x : FNode), szN x ≤ N → x.wt ≤ 1000000000 → ExI x ∧ StI x
 | 0, x, h, _ => absurd (szN_pos x) qaa
 | N + 1, ⟨k, z1, z2, z3⟩, h, hw => by
  have ih : ∀ y, szN y ≤ N → y.wt ≤ 1000000000 → ExI y ∧ StI y := is_all N
  have hw9 : (FNode.mk k z1 z2 z3).wt ≤ 9000000000 := qaa
  have hz4 : z2.size ≤ 4000000000 := by have := (len_wt ⟨k, z1, z2, z3⟩).2; simp only [FNode.tx] at this; omega
  have hl : z3.length ≤ 1000000000 := by have := (len_wt ⟨k, z1, z2, z3⟩).1; simp only [FNode.kids] at this; omega
  have kw : ∀ y, y ∈ z3 → y.wt ≤ 1000000000 := fun y hy => by have := (kid_wt (x := ⟨k, z1, z2, z3⟩) (y := y) hy).1; omega
  have kE : ∀ y, y ∈ z3 → ExI y ∧ StI y := fun y hy => ih y qau (kw y hy)
  have gE : ∀ x, x ∈ z3 → ∀ y, y ∈ x.kids → ExI y ∧ StI y := fun x hx y hy => ih y (by have := kid_sz (x := ⟨k, z1, z2, z3⟩) (y := x) hx; have := kid_sz hy; omega) (by have := kw x hx; have := (kid_wt hy).1; omega)
  have hA : AlI z3 := alI_of z3 hl fun y hy => (kE y hy).1
  have hI : ∀ x, x ∈ z3 → AlI x.kids := fun x hx => alI_of _ (by have := kw x hx; have := (len_wt x).1; omega) fun y hy => (gE x hx y hy).1
  have hF : FuI true z3 := fuI_of true z3 hl (fun x hx => by have := kw x hx; have := (len_wt x).2; omega) fun y hy => (kE y hy).2
  have hE : ∀ y, y ∈ z3 → ExI y := fun y hy => (kE y hy).1
  have hS : ∀ y, y ∈ z3 → StI y := fun y hy => (kE y hy).2
  have hBt : BlI z3.tail := blI_of _ (by rw [List.length_tail]; omega) fun y hy => hS y (List.mem_of_mem_tail hy)
  have hB1 : ∀ x, x ∈ z3 → BlI [x] := fun x hx => blI_of _ qag fun y hy => by rw [List.mem_singleton.mp hy]; exact hS x hx
  have hTg : ∀ x, x ∈ z3 → TgI x := fun x hx => tgI_of x (by have := kw x hx; omega) (hE x hx)
  have hTy : TyI z3 := tyI_of z3 qaa (fun x hx => by have := kw x hx; omega) hB1
   (fun x hx => blI_of _ (by have := kw x hx; have := (len_wt x).1; omega) fun y hy => (gE x hx y hy).2)
   (fun x hx y hy => blI_of _ qag fun z hz => by rw [List.mem_singleton.mp hz]; exact (gE x hx y hy).2)
  constructor
  ·by_cases n1 : k = 1
   ·subst n1
    exact exI_1 z1 z2 z3 hw9
   by_cases n2 : k = 2
   ·subst n2
    exact exI_2 z1 z2 z3 hw9
   by_cases n3 : k = 3
   ·subst n3
    exact exI_3 z1 z2 z3 hw9
   by_cases n4 : k = 4
   ·subst n4
    exact exI_4 z1 z2 z3 hw9
   by_cases n5 : k = 5
   ·subst n5
    exact exI_5 z1 z2 z3 hw9 hI
   by_cases n7 : k = 7
   ·subst n7
    exact exI_7 z1 z2 z3 hw9 hA
   by_cases n8 : k = 8
   ·subst n8
    exact exI_8 z1 z2 z3 hw9 hA
   by_cases n9 : k = 9
   ·subst n9
    exact exI_9 z1 z2 z3 hw9 hA
   by_cases n10 : k = 10
   ·subst n10
    exact exI_10 z1 z2 z3 hw9 hA
   by_cases n11 : k = 11
   ·subst n11
    exact exI_11 z1 z2 z3 hw9 hA
   by_cases n12 : k = 12
   ·subst n12
    exact exI_12 z1 z2 z3 hw9 hA
   by_cases n13 : k = 13
   ·subst n13
    exact exI_13 z1 z2 z3 hw9 hA
   by_cases n14 : k = 14
   ·subst n14
    exact exI_14 z1 z2 z3 hw9 hA
   by_cases n15 : k = 15
   ·subst n15
    exact exI_15 z1 z2 z3 hw9 hA
   by_cases n16 : k = 16
   ·subst n16
    exact exI_16 z1 z2 z3 hw9 hA
   by_cases n17 : k = 17
   ·subst n17
    exact exI_17 z1 z2 z3 hw9
   by_cases n18 : k = 18
   ·subst n18
    exact exI_18 z1 z2 z3 hw9 hA
   by_cases n19 : k = 19
   ·subst n19
    exact exI_19 z1 z2 z3 hw9 hA
   by_cases n20 : k = 20
   ·subst n20
    exact exI_20 z1 z2 z3 hw9 hA
   by_cases n21 : k = 21
   ·subst n21
    exact exI_21 z1 z2 z3 hw9 hA hz4
   by_cases n22 : k = 22
   ·subst n22
    exact exI_22 z1 z2 z3 hw9 hA
   by_cases n23 : k = 23
   ·subst n23
    exact exI_23 z1 z2 z3 hw9 hF
   exact exI_o k z1 z2 z3 hw9 n1 n2 n3 n4 n5 n7 n8 n9 n10 n11 n12 n13 n14 n15 n16 n17 n18 n19 n20 n21 n22 n23
  ·by_cases n31 : k = 31
   ·subst n31
    exact stI_31 z1 z2 z3 hw9 hz4
   by_cases n32 : k = 32
   ·subst n32
    exact stI_32 z1 z2 z3 hw9 hE
   by_cases n33 : k = 33
   ·subst n33
    exact stI_33 z1 z2 z3 hw9 hE
   by_cases n34 : k = 34
   ·subst n34
    exact stI_34 z1 z2 z3 hw9 hE hBt
   by_cases n35 : k = 35
   ·subst n35
    exact stI_35 z1 z2 z3 hw9 hE hBt
   by_cases n36 : k = 36
   ·subst n36
    exact stI_36 z1 z2 z3 hw9 hE hB1
   by_cases n37 : k = 37
   ·subst n37
    exact stI_37 z1 z2 z3 hw9
   by_cases n38 : k = 38
   ·subst n38
    exact stI_38 z1 z2 z3 hw9
   by_cases n39 : k = 39
   ·subst n39
    exact stI_39 z1 z2 z3 hw9 hA
   by_cases n40 : k = 40
   ·subst n40
    exact stI_40 z1 z2 z3 hw9
   by_cases n41 : k = 41
   ·subst n41
    exact stI_41 z1 z2 z3 hw9 hTg
   by_cases n42 : k = 42
   ·subst n42
    exact stI_42 z1 z2 z3 hw9 hE
   by_cases n43 : k = 43
   ·subst n43
    exact stI_43 z1 z2 z3 hw9 hTy
   by_cases n46 : k = 46
   ·subst n46
    exact stI_46 z1 z2 z3 hw9 hE
   by_cases n47 : k = 47
   ·subst n47
    exact stI_47 z1 z2 z3 hw9
   by_cases n48 : k = 48
   ·subst n48
    exact stI_48 z1 z2 z3 hw9 hS
   exact stI_o k z1 z2 z3 hw9 n31 n32 n33 n34 n35 n36 n37 n38 n39 n40 n41 n42 n43 n46 n47 n48
theorem ex_impl (x : FNode) (hw : x.wt ≤ 1000000000) : ExI x := (is_all _ x nr hw).1
theorem st_impl (x : FNode) (hw : x.wt ≤ 1000000000) : StI x := (is_all _ x nr hw).2
theorem fu_impl (use : Bool) (x : FNode) (hw : x.wt ≤ 1000000000) : FuI use x.kids := by
 have hl := (len_wt x).1
 exact fuI_of use _ qaa (fun y hy => by have := (kid_wt hy).1; have := (len_wt y).2; omega) fun y hy => st_impl y (by have := (kid_wt hy).1; omega)
def oneF (l : List FNode) : Bool := match l with | [y] => inB y.kd 1 3 && exF y | _ => false
def clsP (cl : Bool) : Int → List FNode → Bool
 | _, [] => true
 | p, x :: r => goodF x.tx &&
   (if x.kd = 52 then (cl && (p == 0 && (x.nu == 0 && (x.kids.length == 0 && clsP cl 1 r))))
    else if x.kd = 53 then (decide (p ≤ 1) && (x.nu == 0 && (x.kids.length == 0 && clsP cl 1 r)))
    else if x.kd = 54 then (inB x.nu 0 1 && (oneF x.kids && clsP cl 2 r))
    else if x.kd = 55 then (inB x.nu 0 3 && (usF false x.kids && clsP cl 2 r)) else false)
theorem clsP_eq (cl : Bool) : ∀ (l : List FNode) (sg : Nat) (first : Bool) (p : Int), (p = 0 → sg = 0 ∧ first = true) → (p = 1 → sg ≤ 1 ∧ first = false) → (p = 2 → sg = 2 ∧ first = false) → (p = 0 ∨ p = 1 ∨ p = 2) → clsF cl sg first l = clsP cl p l
 | [], _, _, _, _, _, _, _ => by rw [clsF, clsP]
 | ⟨y0, y1, y2, y3⟩ :: r, sg, first, p, h0, h1, h2, h3 => by
  rw [clsF, clsP]
  have hk : y3.isEmpty = (y3.length == 0) := by cases y3 <;> rfl
  simp only [FNode.kd, FNode.nu, FNode.tx, FNode.kids, hk]
  by_cases e52 : y0 = 52
  ·subst e52
   have ih := clsP_eq cl r 0 false 1 qae qae qae qae
   simp only [↓reduceIte]
   rw [ih]
   have hf : (fN 52 y1 && fT 52 y2) = ((y1 == 0) && goodF y2) := rfl
   rw [hf]
   have hp : (first && (sg == 0)) = (p == 0) := by
    rcases h3 with rfl | rfl | rfl
    ·obtain ⟨rfl, rfl⟩ := h0 rfl; rfl
    ·rw [(h1 rfl).2]; rfl
    ·rw [(h2 rfl).2]; rfl
   rw [← hp]
   cases (y1 == 0) <;> cases goodF y2 <;> cases first <;> cases cl <;> cases (y3.length == 0) <;> cases (sg == 0) <;> simp
  ·simp only [e52, ↓reduceIte]
   by_cases e53 : y0 = 53
   ·subst e53
    have ih := clsP_eq cl r 1 false 1 qae qae qae qae
    simp (decide := true) only [↓reduceIte]
    rw [ih]
    have hf : (fN 53 y1 && fT 53 y2) = ((y1 == 0) && goodF y2) := rfl
    rw [hf]
    have hp : decide (sg ≤ 1) = decide (p ≤ 1) := by
     rcases h3 with rfl | rfl | rfl
     ·rw [(h0 rfl).1]; rfl
     ·have := (h1 rfl).1; rw [decide_eq_true this]; rfl
     ·rw [(h2 rfl).1]; rfl
    rw [hp]
    cases (y1 == 0) <;> cases goodF y2 <;> cases (y3.length == 0) <;> cases decide (p ≤ 1) <;> simp
   ·simp only [e53, ↓reduceIte]
    have ih := clsP_eq cl r 2 false 2 qae qae qae qae
    by_cases e54 : y0 = 54
    ·subst e54
     simp (decide := true) only [↓reduceIte]
     rw [ih]
     have hf : (fN 54 y1 && fT 54 y2) = (inB y1 0 1 && goodF y2) := rfl
     rw [hf]
     clear hk
     match y3 with
     | [] => cases inB y1 0 1 <;> cases goodF y2 <;> simp [oneF]
     | [q] => cases inB y1 0 1 <;> cases goodF y2 <;> simp [oneF, FNode.kd] <;> rfl
     | _ :: _ :: _ => cases inB y1 0 1 <;> cases goodF y2 <;> simp [oneF]
    ·simp only [e54, ↓reduceIte]
     by_cases e55 : y0 = 55
     ·subst e55
      simp (decide := true) only [↓reduceIte]
      rw [ih]
      have hf : (fN 55 y1 && fT 55 y2) = (inB y1 0 3 && goodF y2) := rfl
      rw [hf]
      cases inB y1 0 3 <;> cases goodF y2 <;> simp
     ·simp only [e55, ↓reduceIte, Bool.and_false]
theorem clsP_at (cl : Bool) (p : Int) (l : List FNode) (k : Nat) (y0 y1 : Int) (y2 : ByteArray) (y3 : List FNode) (h : l[k]? = some ⟨y0, y1, y2, y3⟩) :
  clsP cl p (l.drop k) = (goodF y2 &&
   (if y0 = 52 then (cl && (p == 0 && (y1 == 0 && (y3.length == 0 && clsP cl 1 (l.drop (k + 1))))))
    else if y0 = 53 then (decide (p ≤ 1) && (y1 == 0 && (y3.length == 0 && clsP cl 1 (l.drop (k + 1)))))
    else if y0 = 54 then (inB y1 0 1 && (oneF y3 && clsP cl 2 (l.drop (k + 1))))
    else if y0 = 55 then (inB y1 0 3 && (usF false y3 && clsP cl 2 (l.drop (k + 1)))) else false)) := by
 obtain ⟨hk, he⟩ := List.getElem?_eq_some_iff.1 h
 rw [List.drop_eq_getElem_cons hk, he, clsP]
 rfl
theorem one_no (l : List FNode) (h : ¬ l.length = 1) : oneF l = false := by
 match l, h with
 | [], _ => rfl
 | [_], h => simp at h
 | _ :: _ :: _, _ => rfl
theorem one_of {l : List FNode} (h : l.length = 1) : ∃ a, l = [a] := List.length_eq_one_iff.mp h
theorem box_keep {w wr X : World} {v : Value} (h : Below wr.heap.size wr X) (hlt : w.heap.size < wr.heap.size) (hc : wr.cell? ⟨w.heap.size, 0, none⟩ = some v) : X.cell? ⟨w.heap.size, 0, none⟩ = some v ∧ w.heap.size < X.heap.size :=
 ⟨(h.cell (p := ⟨w.heap.size, 0, none⟩) hlt).trans hc, Nat.lt_of_lt_of_le hlt h.size⟩
def tpF (x : FNode) : Bool := (x.nu == 0 && goodF x.tx) && (if x.kd = 49 then usF false x.kids else if x.kd = 50 then clsP true 0 x.kids else if x.kd = 51 then clsP false 0 x.kids else false)
theorem top_n (z0 : Int) (z1 : Int) (z2 : ByteArray) (z3 : List FNode) (hw : (FNode.mk z0 z1 z2 z3).wt ≤ 1000000000) (h1 : ¬ z1 = 0) (us : List Value) (w : World) (B : Nat) (hmx : MaxAt w) (hB0 : B ≤ w.heap.size) (hr : RdVs w B (FNode.mk z0 z1 z2 z3).c us) :
  Calls Tryz.prog 69 #[.agg us.toArray] w fun e w' => e = .returned (.bool (false)) ∧ Below w.heap.size w w' := by
 obtain ⟨A3, c3, rfl, r3⟩ := hr.node
 have hww := hw
 rw [FNode.wt_eq] at hw
 have hz : z2.size ≤ 9223372036854775807 := qaa
 have hl : z3.length ≤ 9223372036854775807 := qaa
 have HB := hbA w z0 z1 z2 (.slice A3 z3.length c3)
 clear hr r3 hw hww
 go_enter Tryz.func69, Tryz.ntmps69
 go_wp2_with (fail)
 all_goals (go_ret; exact ⟨rfl, HB.out⟩)
theorem top_g (z0 : Int) (z2 : ByteArray) (z3 : List FNode) (hw : (FNode.mk z0 0 z2 z3).wt ≤ 1000000000) (hgo : goodF z2 = false) (us : List Value) (w : World) (B : Nat) (hmx : MaxAt w) (hB0 : B ≤ w.heap.size) (hr : RdVs w B (FNode.mk z0 0 z2 z3).c us) :
  Calls Tryz.prog 69 #[.agg us.toArray] w fun e w' => e = .returned (.bool (false)) ∧ Below w.heap.size w w' := by
 exact zz86
theorem top_o (z0 : Int) (z2 : ByteArray) (z3 : List FNode) (hw : (FNode.mk z0 0 z2 z3).wt ≤ 1000000000) (hgo : goodF z2 = true) (n49 : ¬ z0 = 49) (n50 : ¬ z0 = 50) (n51 : ¬ z0 = 51) (us : List Value) (w : World) (B : Nat) (hmx : MaxAt w) (hB0 : B ≤ w.heap.size) (hr : RdVs w B (FNode.mk z0 0 z2 z3).c us) :
  Calls Tryz.prog 69 #[.agg us.toArray] w fun e w' => e = .returned (.bool (false)) ∧ Below w.heap.size w w' := by
 exact zz86
theorem top_49 (z2 : ByteArray) (z3 : List FNode) (hw : (FNode.mk 49 0 z2 z3).wt ≤ 1000000000) (hgo : goodF z2 = true) (us : List Value) (w : World) (B : Nat) (hmx : MaxAt w) (hB0 : B ≤ w.heap.size) (hr : RdVs w B (FNode.mk 49 0 z2 z3).c us) :
  Calls Tryz.prog 69 #[.agg us.toArray] w fun e w' => e = .returned (.bool (usF false z3)) ∧ Below w.heap.size w w' := by
 obtain ⟨A3, c3, rfl, r3⟩ := hr.node
 have hww := hw
 rw [FNode.wt_eq] at hw
 have hz : z2.size ≤ 9223372036854775807 := qaa
 have hl : z3.length ≤ 9223372036854775807 := qaa
 have HB := hbA w 49 0 z2 (.slice A3 z3.length c3)
 have CALL := Lib.hid (fu_impl false ⟨49, 0, z2, z3⟩ hww _ _ w.heap.size (hmx.below HB.out) HB.out.size ((r3.up hB0).below HB.out nr))
 clear hr r3 hw hww
 go_enter Tryz.func69, Tryz.ntmps69
 go_wp2_with (first | (go_at_call 104; refine zkp (GoV _ _ hz hgo _) ?_) | (go_at_call 105; refine CALL.out.mono ?_; rintro e w' ⟨rfl, hb3⟩))
 all_goals (go_ret; exact ⟨rfl, HB.out.trans (Below.mono qad HB.out.size)⟩)
end Go.Proofs.YtkkjnfappndmpaaGreatDoor
