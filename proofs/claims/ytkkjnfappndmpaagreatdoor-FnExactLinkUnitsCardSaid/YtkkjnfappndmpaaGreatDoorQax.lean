/-
 Parts of the proof: ScK. Conditions: none.
-/
import Derived.Test.YtkkjnfappndmpaaGreatDoorQFold
import Derived.Test.YtkkjnfappndmpaaGreatDoorQaw
import Derived.Deep.CutRange
import Derived.Deep.CutBlock
set_option linter.unusedVariables false
set_option linter.unusedSimpArgs false
namespace Go.Proofs.YtkkjnfappndmpaaGreatDoor
set_option maxHeartbeats 40000000
open Lib (hid)
open Go.ChangeShapes Go.WideShapes Go.ChangeAt Go.RowKit Go.Deep Go.Joins
open Go.ChangeMaps (open_string shut_string)
set_option maxRecDepth 100000
def cb (b : Nat → Bool) : Array Value := #[.bool (b 0), .bool (b 1), .bool (b 2), .bool (b 3), .bool (b 4), .bool (b 5)]
theorem cb_ext {f g : Nat → Bool} (h : ∀ r, r ≤ 5 → f r = g r) : cb f = cb g := by
 unfold cb
 rw [h 0 qae, h 1 qae, h 2 qae, h 3 qae, h 4 qae, h 5 qae]
def upb (b : Nat → Bool) (i : Nat) (v : Bool) : Nat → Bool := fun r => if r = i then v else b r
theorem cb_set (b : Nat → Bool) (i : Nat) (v : Bool) (hi : i ≤ 5) : (cb b).setIfInBounds i (.bool v) = cb (upb b i v) := by
 exact zz120
def CkS (w : World) (g : Nat) (z0 z1 : Int) (z2 : ByteArray) (A : Option Addr) (m c : Nat) (b : Nat → Bool) (wx : World) : Prop :=
 Only g (g + 1) w.heap.size w wx ∧ Blk wx g 4 (cb b) ∧ wx.cell? ⟨w.heap.size, 0, none⟩ = some (.int .i64 z0) ∧ wx.cell? ⟨w.heap.size, 1, none⟩ = some (.int .i64 z1) ∧ wx.cell? ⟨w.heap.size, 2, none⟩ = some (.string z2) ∧ wx.cell? ⟨w.heap.size, 3, none⟩ = some (.slice A m c) ∧ w.heap.size < wx.heap.size
section
variable {w wx wy : World} {g : Nat} {z0 z1 : Int} {z2 : ByteArray} {A : Option Addr} {m c : Nat} {b : Nat → Bool}
theorem CkS.call (h : CkS w g z0 z1 z2 A m c b wx) (hb : Below wx.heap.size wx wy) : CkS w g z0 z1 z2 A m c b wy := by
 obtain ⟨h1, h2, h3, h4, h5, h6, h7⟩ := h
 exact ⟨h1.trans (only_of_below (hb.mono h1.size)), h2.below hb nr, (hb.cell (p := ⟨w.heap.size, 0, none⟩) h7).trans h3, (hb.cell (p := ⟨w.heap.size, 1, none⟩) h7).trans h4, (hb.cell (p := ⟨w.heap.size, 2, none⟩) h7).trans h5, (hb.cell (p := ⟨w.heap.size, 3, none⟩) h7).trans h6, Nat.lt_of_lt_of_le h7 hb.size⟩
theorem CkS.put (h : CkS w g z0 z1 z2 A m c b wx) (hg : g < w.heap.size) (i : Nat) (hi : i ≤ 5) (v : Bool) : CkS w g z0 z1 z2 A m c (upb b i v) (wx.setCell ⟨g, i, none⟩ (.bool v)) := by
 obtain ⟨h1, h2, h3, h4, h5, h6, h7⟩ := h
 have hk : ∀ j : Nat, (wx.setCell ⟨g, i, none⟩ (.bool v)).cell? ⟨w.heap.size, j, none⟩ = wx.cell? ⟨w.heap.size, j, none⟩ := fun j => World.cell?_setCell_other _ _ _ _ (fun e => by cases e; omega)
 refine ⟨h1.set (p := ⟨g, i, none⟩) nr (Nat.lt_succ_self _) _, ?_, (hk 0).trans h3, (hk 1).trans h4, (hk 2).trans h5, (hk 3).trans h6, by simpa [World.setCell] using h7⟩
 rw [← cb_set b i v hi]
 exact h2.set_ i _
theorem CkS.gc (h : CkS w g z0 z1 z2 A m c b wx) (i : Nat) (hi : i ≤ 5) : wx.cell? ⟨g, i, none⟩ = some (.bool (b i)) := by
 refine (h.2.1.cell i).trans ?_
 exact zz120
theorem CkS.ext (h : CkS w g z0 z1 z2 A m c b wx) {b' : Nat → Bool} (he : ∀ r, r ≤ 5 → b r = b' r) : CkS w g z0 z1 z2 A m c b' wx := by
 obtain ⟨h1, h2, h3⟩ := h
 exact ⟨h1, cb_ext he ▸ h2, h3⟩
end
/-- Behind the switch. -/
def swB (b : Nat → Bool) (lp ins : Bool) (k : Int) (ks : List FNode) : Nat → Bool := fun r => b r || (if r = 3 then false else bdI r lp ins k ByteArray.empty ks)
def ChI (x : FNode) : Prop := ∀ (us : List Value) (w : World) (B g : Nat) (b : Nat → Bool) (lp ins : Bool), B ≤ g → g < w.heap.size → RdVs w B x.c us → Blk w g 4 (cb b) →
 Calls Tryz.prog 42 #[.agg us.toArray, .bool lp, .bool ins, .slice (some ⟨g, 0, none⟩) 6 6] w fun e w' => e = .returned (.tuple #[]) ∧ Only g (g + 1) w.heap.size w w' ∧ Blk w' g 4 (cb (fun r => b r || brI r lp ins x))
theorem bd_split (b : Nat → Bool) (lp ins : Bool) (k : Int) (t : ByteArray) (ks : List FNode) (r : Nat) (hr : r ≤ 5) : upb (swB b lp ins k ks) 3 (b 3 || thI k t ks) r = (b r || bdI r lp ins k t ks) := by
 unfold upb swB
 match r, hr with
 | 0, _ => simp [bdI]
 | 1, _ => simp [bdI]
 | 2, _ => simp [bdI]
 | 3, _ => simp [bdI]
 | 4, _ => simp [bdI]
 | 5, _ => simp [bdI]
theorem chI_of (z0 z1 : Int) (z2 : ByteArray) (z3 : List FNode) (hw : (FNode.mk z0 z1 z2 z3).wt ≤ 1000000000) (hnd : ndK z0 z3) (hE : ∀ x, x ∈ z3 → ChI x) : ChI ⟨z0, z1, z2, z3⟩ := by
 intro us w B g b lp ins hBg hg hr hbk
 obtain ⟨A3, c3, rfl, r3⟩ := hr.node
 have HTH := hid (th_impl ⟨z0, z1, z2, z3⟩ qaa hnd)
 simp only [FNode.kd, FNode.tx, FNode.kids] at HTH
 have HTX := hid (show ∀ x, x ∈ z3 → x.tx.size ≤ 1000000000 from fun x hx => by have h1 := (kid_wt (x := ⟨z0, z1, z2, z3⟩) (y := x) hx).1; have h2 := (len_wt x).2; omega)
 rw [FNode.wt_eq] at hw
 have hl9 : z3.length ≤ 1000000000 := qaa
 have hB0 : B ≤ w.heap.size := qaa
 have HR := hid r3
 have HE := hid hE
 have X0 : CkS w g z0 z1 z2 A3 z3.length c3 b (w.alloc (.cells #[.int .i64 z0, .int .i64 z1, .string z2, .slice A3 z3.length c3] 44)) := ⟨only_of_below ((Below.refl _ w).alloc nr _), hbk.alloc _, by rw [World.cell?_alloc_new]; rfl, by rw [World.cell?_alloc_new]; rfl, by rw [World.cell?_alloc_new]; rfl, by rw [World.cell?_alloc_new]; rfl, by simp⟩
 clear hr r3 hw hE hnd hbk
 go_enter Tryz.func42, Tryz.ntmps42
 go_upto_block 0 with fail
 generalize w.alloc (.cells #[.int .i64 z0, .int .i64 z1, .string z2, .slice A3 z3.length c3] 44) = w1 at *
 have x_0 := X0.2.2.1; have x_1 := X0.2.2.2.1; have x_2 := X0.2.2.2.2.1; have x_3 := X0.2.2.2.2.2.1; have x_g1 := X0.gc 1 qae; have x_f1 := X0.2.1.frozen 1; have x_g2 := X0.gc 2 qae; have x_f2 := X0.2.1.frozen 2; have x_g3 := X0.gc 3 qae; have x_f3 := X0.2.1.frozen 3; have x_g4 := X0.gc 4 qae; have x_f4 := X0.2.1.frozen 4; have x_g5 := X0.gc 5 qae; have x_f5 := X0.2.1.frozen 5
 go_cut [1, 2] from 10 to 99 (fun l f wx => l = .bool (lpN z0 lp) ∧ f = .bool (inN z0 ins) ∧ CkS w g z0 z1 z2 A3 z3.length c3 (swB b lp ins z0 z3) wx)
 case first =>
  by_cases n37 : z0 = 37
  ·subst n37
   cases lp with
   | false =>
    exact zz75
   | true =>
    exact zz21
  by_cases n38 : z0 = 38
  ·subst n38
   cases lp with
   | false =>
    exact zz75
   | true =>
    exact zz21
  by_cases n46 : z0 = 46
  ·subst n46
   cases ins with
   | false =>
    go_wp2_with ((go_at_call 71; refine zkp (isFn_impl _ _) ?_))
    all_goals (go_meet; refine ⟨?_, ?_, CkS.ext (X0.put hg 2 qae true) ?_⟩; (first | rfl | (simp_all [lpN]; done)); (first | rfl | (simp_all [inN]; done)); intro r hr; match r, hr with | 0, _ => simp [upb, swB, bdI, isFn] | 1, _ => simp [upb, swB, bdI, isFn] | 2, _ => simp [upb, swB, bdI, isFn] | 3, _ => simp [upb, swB, bdI, isFn] | 4, _ => simp_all [upb, swB, bdI, isFn] | 5, _ => simp_all [upb, swB, bdI, isFn])
   | true =>
    exact zz21
  by_cases n49 : z0 = 49
  ·subst n49
   exact zz8
  by_cases n55 : z0 = 55
  ·subst n55
   exact zz8
  by_cases n23 : z0 = 23
  ·subst n23
   exact zz8
  by_cases n45 : z0 = 45
  ·subst n45
   exact zz21
  by_cases n35 : z0 = 35
  ·subst n35
   exact zz21
  by_cases n36 : z0 = 36
  ·subst n36
   exact zz21
  by_cases n56 : z0 = 56
  ·subst n56
   cases hbi : b 5 with
   | true =>
    rw [hbi] at x_g5
    go_wp2_with ((go_at_call 71; refine zkp (isFn_impl _ _) ?_))
    all_goals (go_meet; refine ⟨?_, ?_, CkS.ext (X0.put hg 5 qae true) ?_⟩; (first | rfl | (simp_all [lpN]; done)); (first | rfl | (simp_all [inN]; done)); intro r hr; match r, hr with | 0, _ => simp [upb, swB, bdI, isFn] | 1, _ => simp [upb, swB, bdI, isFn] | 2, _ => simp [upb, swB, bdI, isFn] | 3, _ => simp [upb, swB, bdI, isFn] | 4, _ => simp_all [upb, swB, bdI, isFn] | 5, _ => simp_all [upb, swB, bdI, isFn])
   | false =>
    rw [hbi] at x_g5
    obtain ⟨tv, htv⟩ : ∃ tv, twF 49 49 z3 = tv := ⟨_, rfl⟩
    have HTV := hid htv
    go_wp2_with (first | (go_at_call 71; refine zkp (isFn_impl _ _) ?_) | (go_at_call 72; refine (twice_impl 49 49 z3 hl9 HTX.out (.slice A3 z3.length c3) _ B (Nat.le_trans hB0 X0.1.size) (HR.out.below (X0.1.below hBg hB0) nr)).mono ?_; rw [HTV.out]; rintro e w5 ⟨rfl, hbw5⟩; have Xw5 := X0.call hbw5; have w5_0 := Xw5.2.2.1; have w5_1 := Xw5.2.2.2.1; have w5_2 := Xw5.2.2.2.2.1; have w5_3 := Xw5.2.2.2.2.2.1; have w5_g1 := Xw5.gc 1 qae; have w5_f1 := Xw5.2.1.frozen 1; have w5_g2 := Xw5.gc 2 qae; have w5_f2 := Xw5.2.1.frozen 2; have w5_g3 := Xw5.gc 3 qae; have w5_f3 := Xw5.2.1.frozen 3; have w5_g4 := Xw5.gc 4 qae; have w5_f4 := Xw5.2.1.frozen 4; have w5_g5 := Xw5.gc 5 qae; have w5_f5 := Xw5.2.1.frozen 5))
    all_goals (go_meet; refine ⟨?_, ?_, CkS.ext (Xw5.put hg 5 qae tv) ?_⟩; (first | rfl | (simp_all [lpN]; done)); (first | rfl | (simp_all [inN]; done)); intro r hr; match r, hr with | 0, _ => simp [upb, swB, bdI, isFn] | 1, _ => simp [upb, swB, bdI, isFn] | 2, _ => simp [upb, swB, bdI, isFn] | 3, _ => simp [upb, swB, bdI, isFn] | 4, _ => simp_all [upb, swB, bdI, isFn] | 5, _ => simp_all [upb, swB, bdI, isFn])
  by_cases n50 : z0 = 50
  ·subst n50
   exact zz6
  by_cases n51 : z0 = 51
  ·subst n51
   exact zz6
  have hfn : isFn z0 = false := by unfold isFn; simp [n49, n55, n23]
  have NN := hid (And.intro n37 (And.intro n38 (And.intro n46 (And.intro n49 (And.intro n55 (And.intro n23 (And.intro n45 (And.intro n35 (And.intro n36 (And.intro n56 (And.intro n50 n51)))))))))))
  have q37 : (z0 == 37) = false := beq_false_of_ne n37
  have q38 : (z0 == 38) = false := beq_false_of_ne n38
  have q46 : (z0 == 46) = false := beq_false_of_ne n46
  have q49 : (z0 == 49) = false := beq_false_of_ne n49
  have q55 : (z0 == 55) = false := beq_false_of_ne n55
  have q23 : (z0 == 23) = false := beq_false_of_ne n23
  have q45 : (z0 == 45) = false := beq_false_of_ne n45
  have q35 : (z0 == 35) = false := beq_false_of_ne n35
  have q36 : (z0 == 36) = false := beq_false_of_ne n36
  have q56 : (z0 == 56) = false := beq_false_of_ne n56
  have q50 : (z0 == 50) = false := beq_false_of_ne n50
  have q51 : (z0 == 51) = false := beq_false_of_ne n51
  clear n37 n38 n46 n49 n55 n23 n45 n35 n36 n56 n50 n51
  go_wp2_with (go_at_call 71; refine (isFn_impl _ _).mono ?_; rw [hfn]; rintro e w' ⟨rfl, rfl⟩)
  obtain ⟨n37, n38, n46, n49, n55, n23, n45, n35, n36, n56, n50, n51⟩ := NN.out
  all_goals (go_meet; refine ⟨by unfold lpN; simp [n35, n36, n45, n49, n55, n23], by unfold inN; simp [n49, n55, n23], CkS.ext X0 ?_⟩; intro r hr; match r, hr with | 0, _ => simp [swB, bdI] | 1, _ => simp [swB, bdI, n37, n38] | 2, _ => simp [swB, bdI, n46] | 3, _ => simp [swB, bdI] | 4, _ => simp [swB, bdI, hfn] | 5, _ => simp [swB, bdI, n56, n50, n51])
 case rest =>
  clear X0
  obtain ⟨rfl, rfl, X1⟩ := hcut
  have v_0 := X1.2.2.1; have v_1 := X1.2.2.2.1; have v_2 := X1.2.2.2.2.1; have v_3 := X1.2.2.2.2.2.1; have v_g1 := X1.gc 1 qae; have v_f1 := X1.2.1.frozen 1; have v_g2 := X1.gc 2 qae; have v_f2 := X1.2.1.frozen 2; have v_g3 := X1.gc 3 qae; have v_f3 := X1.2.1.frozen 3; have v_g4 := X1.gc 4 qae; have v_f4 := X1.2.1.frozen 4; have v_g5 := X1.gc 5 qae; have v_f5 := X1.2.1.frozen 5
  have hsw3 : swB b lp ins z0 z3 3 = b 3 := by unfold swB; simp
  rw [hsw3] at v_g3
  cases hb3 : b 3 with
  | true =>
   rw [hb3] at v_g3
   have X3 := hid ((X1.put hg 3 qae true).ext (b' := fun r => b r || bdI r lp ins z0 z2 z3) (fun r hr => by rw [← bd_split b lp ins z0 z2 z3 r hr, hb3]; rfl))
   have fa := X1.2.1.lt
   go_upto_region 18 with fail
   exact zz7
  | false =>
   rw [hb3] at v_g3
   go_upto_region 18 with (go_at_call 73; refine (HTH.out [.int .i64 z0, .int .i64 z1, .string z2, .slice A3 z3.length c3] _ B (Nat.le_trans hB0 X1.1.size) (ndV (HR.out.below (X1.1.below hBg hB0) nr))).mono ?_; rintro e w7 ⟨rfl, hb7⟩; have X7 := X1.call hb7; have u_0 := X7.2.2.1; have u_1 := X7.2.2.2.1; have u_2 := X7.2.2.2.2.1; have u_3 := X7.2.2.2.2.2.1; have u_g1 := X7.gc 1 qae; have u_f1 := X7.2.1.frozen 1; have u_g2 := X7.gc 2 qae; have u_f2 := X7.2.1.frozen 2; have u_g3 := X7.gc 3 qae; have u_f3 := X7.2.1.frozen 3; have u_g4 := X7.gc 4 qae; have u_f4 := X7.2.1.frozen 4; have u_g5 := X7.gc 5 qae; have u_f5 := X7.2.1.frozen 5)
   have X3 := hid ((X7.put hg 3 qae (thI z0 z2 z3)).ext (b' := fun r => b r || bdI r lp ins z0 z2 z3) (fun r hr => by rw [← bd_split b lp ins z0 z2 z3 r hr, hb3]; rfl))
   exact zz7
end Go.Proofs.YtkkjnfappndmpaaGreatDoor
