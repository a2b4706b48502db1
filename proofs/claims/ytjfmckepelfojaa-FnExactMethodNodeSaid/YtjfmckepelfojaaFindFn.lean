/-
  FindFunction of both packages: a copy of the first function of a name, in memory of its own. Conditions: none.
-/
import Derived.Test.YtjfmckepelfojaaFind
import Derived.Test.YtjfmckepelfojaaCopyU
namespace Go.Proofs.Ytjfmckepelfojaa
open Go.ChangeShapes Go.WideShapes Go.ChangeAt Go.RowKit Go.Deep Go.Joins
open Go.ChangeMaps (open_string shut_string)
set_option linter.unusedVariables false
set_option linter.unusedSimpArgs false
set_option maxRecDepth 100000

def FNode.kind : FNode → Int
  | .mk a _ _ _ => a
def FNode.text : FNode → ByteArray
  | .mk _ _ a _ => a
def FNode.kids : FNode → List FNode
  | .mk _ _ _ a => a
def FUnit.kids (u : FUnit) : List FNode := u.a1.kids
/-- Is it a function of that name? -/
def isFn (s : ByteArray) (k : FNode) : Bool := k.kind == 49 && k.text.toList == s.toList
def fnF (l : List FUnit) (s : ByteArray) : Option FNode := l.findSome? fun u => u.kids.find? (isFn s)
def zeroN : FNode := .mk 0 0 ⟨#[]⟩ []
def fnQ (l : List FUnit) (s : ByteArray) : FNode := (fnF l s).getD zeroN
def fnB (l : List FUnit) (s : ByteArray) : Bool := (fnF l s).isSome
theorem findSome_hit {α β : Type} (f : α → Option β) : ∀ (l : List α) (i : Nat) (x : α) (y : β), l[i]? = some x → f x = some y → (∀ (j : Nat) (z : α), j < i → l[j]? = some z → f z = none) → l.findSome? f = some y
  | [], i, x, y, h, _, _ => by simp at h
  | a :: r, 0, x, y, h, hy, _ => by
    obtain rfl : a = x := by simpa using h
    rw [List.findSome?_cons, hy]
  | a :: r, i + 1, x, y, h, hy, hno => by
    rw [List.findSome?_cons, hno 0 a (by omega) rfl]
    exact findSome_hit f r i x y (by simpa using h) hy fun j z hj hz => hno (j + 1) z (by omega) (by simpa using hz)
theorem findSome_miss {α β : Type} (f : α → Option β) (l : List α) (hno : ∀ (j : Nat) (z : α), l[j]? = some z → f z = none) : l.findSome? f = none := by
  rw [List.findSome?_eq_none_iff]
  intro x hx
  obtain ⟨j, hj⟩ := List.mem_iff_getElem?.1 hx
  exact hno j x hj
theorem find_hit {α : Type} (p : α → Bool) : ∀ (l : List α) (i : Nat) (x : α), l[i]? = some x → p x = true → (∀ (j : Nat) (z : α), j < i → l[j]? = some z → p z = false) → l.find? p = some x
  | [], i, x, h, _, _ => by simp at h
  | a :: r, 0, x, h, hy, _ => by
    obtain rfl : a = x := by simpa using h
    rw [List.find?_cons, hy]
  | a :: r, i + 1, x, h, hy, hno => by
    rw [List.find?_cons, hno 0 a (by omega) rfl]
    exact find_hit p r i x (by simpa using h) hy fun j z hj hz => hno (j + 1) z (by omega) (by simpa using hz)
theorem find_miss {α : Type} (p : α → Bool) (l : List α) (hno : ∀ (j : Nat) (z : α), l[j]? = some z → p z = false) : l.find? p = none := by
  rw [List.find?_eq_none]
  intro x hx
  obtain ⟨j, hj⟩ := List.mem_iff_getElem?.1 hx
  rw [hno j x hj]
  simp
theorem fn_hit {l : List FUnit} {s : ByteArray} {i k : Nat} {u : FUnit} {x : FNode} (hu : l[i]? = some u) (hx : u.kids[k]? = some x) (hp : isFn s x = true)
    (hno : ∀ (j : Nat) (z : FNode), j < k → u.kids[j]? = some z → isFn s z = false) (hno2 : ∀ (j : Nat) (z : FUnit), j < i → l[j]? = some z → z.kids.find? (isFn s) = none) : fnQ l s = x ∧ fnB l s = true := by
  have h := findSome_hit (fun u => u.kids.find? (isFn s)) l i u x hu (find_hit _ _ k x hx hp hno) hno2
  unfold fnQ fnB fnF
  rw [h]
  exact ⟨rfl, rfl⟩
theorem fn_miss {l : List FUnit} {s : ByteArray} (hno2 : ∀ (j : Nat) (z : FUnit), l[j]? = some z → z.kids.find? (isFn s) = none) : fnQ l s = zeroN ∧ fnB l s = false := by
  have h := findSome_miss (fun u => u.kids.find? (isFn s)) l hno2
  unfold fnQ fnB fnF
  rw [h]
  exact ⟨rfl, rfl⟩
theorem kids_wt {l : List FUnit} {u : FUnit} {x : FNode} {i k : Nat} (hu : l[i]? = some u) (hx : u.kids[k]? = some x) : u.kids.length ≤ FUnit.wts l ∧ x.wt ≤ FUnit.wts l := by
  have h1 := FUnit.wts_at l u (List.mem_of_getElem? hu)
  obtain ⟨a0, ⟨z0, z1, z2, z3⟩⟩ := u
  have h2 := FNode.wts_at z3 x (List.mem_of_getElem? hx)
  rw [FUnit.wt_eq] at h1
  exact ⟨by show z3.length ≤ _; omega, by omega⟩
theorem kids_len {l : List FUnit} {u : FUnit} {i : Nat} (hu : l[i]? = some u) : u.kids.length ≤ FUnit.wts l := by
  have h1 := FUnit.wts_at l u (List.mem_of_getElem? hu)
  obtain ⟨a0, ⟨z0, z1, z2, z3⟩⟩ := u
  rw [FUnit.wt_eq] at h1
  show z3.length ≤ _
  omega
theorem fnQ_wt (l : List FUnit) (s : ByteArray) : (fnQ l s).wt ≤ FUnit.wts l := by
  unfold fnQ fnF
  cases h : l.findSome? (fun u => u.kids.find? (isFn s)) with
  | none =>
    show zeroN.wt ≤ _
    have : zeroN.wt = 0 := by unfold zeroN; rw [FNode.wt_eq]; rfl
    omega
  | some x =>
    show x.wt ≤ _
    obtain ⟨u, hu, hx⟩ := List.exists_of_findSome?_eq_some h
    obtain ⟨i, hi⟩ := List.mem_iff_getElem?.1 hu
    obtain ⟨k, hk⟩ := List.mem_iff_getElem?.1 (List.mem_of_find?_eq_some hx)
    exact (kids_wt hi hk).2

set_option maxHeartbeats 4000000 in
theorem FindFunction_impl (l : List FUnit) (s : ByteArray) (u : Value) (w : World) (hl : l.length + FUnit.wts l ≤ 1000000000) {B : Nat} (hB0 : B ≤ w.heap.size) (hr0 : RdC w B (.s 65 5 l.length (FUnit.flat l)) u) :
    Calls Try.prog 32 #[u, .string s] w fun e w' => ∃ us, e = .returned (.tuple #[.agg us.toArray, .bool (fnB l s)]) ∧ OwnI w' w.heap.size w'.heap.size (fnQ l s).c us ∧ Below w.heap.size w w' := by
  have hr := hr0.up hB0
  clear hr0
  obtain ⟨A, c, rfl⟩ := hr.form
  have HC := Lib.hid hr
  have hn : l.length ≤ 9223372036854775807 := by omega
  clear hr
  go_enter Try.func32, Try.ntmps32
  go_wp2_with fail
  go_loopw [12] (fun i wr => ∃ k : Nat, k ≤ l.length ∧ i = .int .i64 k ∧ (∀ (j : Nat) (z : FUnit), j < k → l[j]? = some z → z.kids.find? (isFn s) = none) ∧ Blk wr w.heap.size 45 #[.int .i64 0, .int .i64 0, .string ⟨#[]⟩, .slice none 0 0] ∧ Below w.heap.size w wr) (fun i _ => l.length - (intOf i).toNat)
  case atStart => exact ⟨0, Nat.zero_le _, rfl, fun j z hj => absurd hj (by omega), Blk.new _ _ _, (Below.refl _ _).alloc (Nat.le_refl _) _⟩
  case round =>
    obtain ⟨k, hk, rfl, hno, br, hb⟩ := hrel
    have HNO := Lib.hid hno
    clear hno
    by_cases hlt : k < l.length
    · obtain ⟨x, hx⟩ : ∃ x, l[k]? = some x := ⟨_, List.getElem?_eq_getElem hlt⟩
      obtain ⟨bc, offc, rfl, hblc, hcc⟩ := RdC.at_ FUnit.len HC.out hx
      have HX := Lib.hid hx
      have hbs := hb.size
      clear hx
      obtain ⟨y0, ⟨y1, y2, y3, y4⟩⟩ := x
      rw [FUnit.c_eq] at hcc
      obtain ⟨u0, e0, q0⟩ := hcc 0 _ rfl
      obtain rfl := q0.val
      obtain ⟨u1, e1, q1⟩ := hcc 1 _ rfl
      obtain rfl := q1.val
      obtain ⟨u2, e2, q2⟩ := hcc 2 _ rfl
      obtain rfl := q2.val
      obtain ⟨u3, e3, q3⟩ := hcc 3 _ rfl
      obtain rfl := q3.val
      obtain ⟨u4, e4, q4⟩ := hcc 4 _ rfl
      obtain ⟨A4, c4, rfl⟩ := q4.form
      have HK := Lib.hid q4
      have hkl : y4.length ≤ 1000000000 := by have := kids_len HX.out; have e : FUnit.kids ⟨y0, ⟨y1, y2, y3, y4⟩⟩ = y4 := rfl; rw [e] at this; omega
      have hn4 : y4.length ≤ 9223372036854775807 := by omega
      have k0 : wr.cell? ⟨bc, offc + k * 5, none⟩ = some (.string y0) := (hb.cell (p := ⟨bc, _, none⟩) hblc).trans (by simpa using e0)
      have k1 : wr.cell? ⟨bc, offc + k * 5 + 1, none⟩ = some (.int .i64 y1) := (hb.cell (p := ⟨bc, _, none⟩) hblc).trans (by simpa using e1)
      have k2 : wr.cell? ⟨bc, offc + k * 5 + 2, none⟩ = some (.int .i64 y2) := (hb.cell (p := ⟨bc, _, none⟩) hblc).trans (by simpa using e2)
      have k3 : wr.cell? ⟨bc, offc + k * 5 + 3, none⟩ = some (.string y3) := (hb.cell (p := ⟨bc, _, none⟩) hblc).trans (by simpa using e3)
      have k4 : wr.cell? ⟨bc, offc + k * 5 + 4, none⟩ = some (.slice A4 y4.length c4) := (hb.cell (p := ⟨bc, _, none⟩) hblc).trans (by simpa using e4)
      clear hcc e0 e1 e2 e3 e4 q0 q1 q2 q3 q4
      go_wp2_with fail
      obtain ⟨wo, hwo⟩ : ∃ wo : World, wo = wr.alloc (.cells #[.string y0, .int .i64 y1, .int .i64 y2, .string y3, .slice A4 y4.length c4] 65) := ⟨_, rfl⟩
      have bro : Blk wo w.heap.size 45 #[.int .i64 0, .int .i64 0, .string ⟨#[]⟩, .slice none 0 0] := by rw [hwo]; exact br.alloc _
      have hbo : Below w.heap.size w wo := by rw [hwo]; exact hb.alloc hbs _
      rw [← hwo]
      clear hwo k0 k1 k2 k3 k4 br hb
      go_loopw [20] (fun i wi => ∃ m : Nat, m ≤ y4.length ∧ i = .int .i64 m ∧ (∀ (j : Nat) (z : FNode), j < m → y4[j]? = some z → isFn s z = false) ∧ Blk wi w.heap.size 45 #[.int .i64 0, .int .i64 0, .string ⟨#[]⟩, .slice none 0 0] ∧ Below w.heap.size w wi) (fun i _ => y4.length - (intOf i).toNat)
      case atStart => exact ⟨0, Nat.zero_le _, rfl, fun j z hj => absurd hj (by omega), bro, hbo⟩
      case round =>
        obtain ⟨m, hm, rfl, hnk, br, hb⟩ := hrel
        have HNK := Lib.hid hnk
        have hbs2 := hb.size
        clear hnk bro hbo
        by_cases hmt : m < y4.length
        · obtain ⟨x, hx⟩ : ∃ x, y4[m]? = some x := ⟨_, List.getElem?_eq_getElem hmt⟩
          obtain ⟨bd, offd, rfl, hbld, hcc⟩ := RdC.at_ FNode.len HK.out hx
          have HX2 := Lib.hid hx
          have hxw : x.wt ≤ 1000000000 := by have := (kids_wt HX.out (u := ⟨y0, ⟨y1, y2, y3, y4⟩⟩) hx).2; omega
          have HCP := Lib.hid (cpNode_any x hxw)
          clear hx hxw
          obtain ⟨z0, z1, z2, z3⟩ := x
          rw [FNode.c_eq] at hcc
          obtain ⟨u0, e0, q0⟩ := hcc 0 _ rfl
          obtain rfl := q0.val
          obtain ⟨u1, e1, q1⟩ := hcc 1 _ rfl
          obtain rfl := q1.val
          obtain ⟨u2, e2, q2⟩ := hcc 2 _ rfl
          obtain rfl := q2.val
          obtain ⟨u3, e3, q3⟩ := hcc 3 _ rfl
          obtain ⟨A3, c3, rfl⟩ := q3.form
          have Q3 := Lib.hid q3
          have k0 : wr.cell? ⟨bd, offd + m * 4, none⟩ = some (.int .i64 z0) := (hb.cell (p := ⟨bd, _, none⟩) hbld).trans (by simpa using e0)
          have k1 : wr.cell? ⟨bd, offd + m * 4 + 1, none⟩ = some (.int .i64 z1) := (hb.cell (p := ⟨bd, _, none⟩) hbld).trans (by simpa using e1)
          have k2 : wr.cell? ⟨bd, offd + m * 4 + 2, none⟩ = some (.string z2) := (hb.cell (p := ⟨bd, _, none⟩) hbld).trans (by simpa using e2)
          have k3 : wr.cell? ⟨bd, offd + m * 4 + 3, none⟩ = some (.slice A3 z3.length c3) := (hb.cell (p := ⟨bd, _, none⟩) hbld).trans (by simpa using e3)
          clear hcc e0 e1 e2 e3 q0 q1 q2 q3
          by_cases hp : isFn s (.mk z0 z1 z2 z3) = true
          · have hp1 : (z0 == 49) = true := by unfold isFn at hp; simp only [Bool.and_eq_true] at hp; exact hp.1
            have hp2 : (z2.toList == s.toList) = true := by unfold isFn at hp; simp only [Bool.and_eq_true] at hp; exact hp.2
            have HP := Lib.hid hp
            have hz : z0 = 49 := by simpa using hp1
            subst hz
            have HP2 := Lib.hid hp2
            clear hp hp1
            go_wp2_with fail
            refine calls_worldD _ (fun X => Blk X w.heap.size 45 #[.int .i64 0, .int .i64 0, .string ⟨#[]⟩, .slice none 0 0] ∧ Below w.heap.size w X) ⟨br.alloc _, hb.alloc hbs2 _⟩ ?_
            clear br hb k0 k1 k2 k3
            rintro X0 ⟨br, hb⟩
            have s0 := br.lt
            refine (HCP.out [.int .i64 49, .int .i64 z1, .string z2, .slice A3 z3.length c3] _ w.heap.size (by omega) (by rw [FNode.c_eq]; exact RdVs.cons (by unfold RdC; rfl) (RdVs.cons (by unfold RdC; rfl) (RdVs.cons (by unfold RdC; rfl) (RdVs.cons (Q3.out.below hb (Nat.le_refl _)) (RdVs.nil _ _)))))).mono ?_
            rw [FNode.c_eq]
            rintro e w2 ⟨us2, rfl, own2, hb2⟩
            have hv := own2.vs
            obtain ⟨us2_0, rfl, hv_0⟩ := hv.unv
            obtain ⟨us2_1, rfl, hv_1⟩ := hv_0.unv
            obtain ⟨us2_2, rfl, hv_2⟩ := hv_1.unv
            obtain ⟨D3, d3, us2_3, rfl, _, hv_3⟩ := hv_2.uns
            obtain rfl := hv_3.un0
            clear hv hv_0 hv_1 hv_2 hv_3
            replace br := br.below hb2 (Nat.le_refl _)
            replace hb := hb.trans (hb2.mono (by omega))
            have br_0 : w2.cell? ⟨w.heap.size, 0, none⟩ = some (.int .i64 0) := br.cell 0
            have br_1 : w2.cell? ⟨w.heap.size, 1, none⟩ = some (.int .i64 0) := br.cell 1
            have br_2 : w2.cell? ⟨w.heap.size, 2, none⟩ = some (.string ⟨#[]⟩) := br.cell 2
            have br_3 : w2.cell? ⟨w.heap.size, 3, none⟩ = some (.slice none 0 0) := br.cell 3
            have br_l := br.lt
            have br_f := fun i => br.frozen i
            have hs2 : X0.heap.size ≤ w2.heap.size := hb2.size
            have OW := Lib.hid own2
            clear own2 hb2
            go_wp2_with fail
            obtain ⟨f1, f2⟩ := fn_hit HX.out HX2.out HP.out HNK.out HNO.out
            rw [f1, f2, FNode.c_eq]
            refine bodyPost_ret (v := .tuple #[.agg #[.int .i64 49, .int .i64 z1, .string z2, .slice D3 z3.length d3], .bool true]) (by simp [results, Try.results32, go_sem, br_0, br_1, br_2, br_3, br_l, br_f]) rfl ⟨_, rfl, ?_, ?_⟩
            · refine OwnI.wide (lo := X0.heap.size) (hi := w2.heap.size) ?_ (by omega) (by simp)
              repeat (refine OwnI.set ?_ (.inl (by simp; try omega)) _)
              exact OW.out
            · repeat (refine Below.setCell ?_ (by simp) _)
              exact hb
          · have HP := Lib.hid (show isFn s (.mk z0 z1 z2 z3) = false from by simpa using hp)
            by_cases hz : z0 = 49
            · subst hz
              have hp2 : (z2.toList == s.toList) = false := by
                have := HP.out
                unfold isFn at this
                simpa [FNode.kind, FNode.text] using this
              have HP2 := Lib.hid hp2
              clear hp
              go_wp2_with fail
              go_roundw
              case rel =>
                refine ⟨m + 1, by omega, by go_num, fun j z hj hjz => ?_, br.alloc _, hb.alloc hbs2 _⟩
                by_cases e : j = m
                · subst e
                  rw [HX2.out] at hjz
                  injection hjz with hjz
                  subst hjz
                  exact HP.out
                · exact HNK.out j z (by omega) hjz
              case measure => simp [intOf]; omega
            · have hz2 : (z0 == 49) = false := by simpa using hz
              have HZ2 := Lib.hid hz2
              clear hp hz
              go_wp2_with fail
              go_roundw
              case rel =>
                refine ⟨m + 1, by omega, by go_num, fun j z hj hjz => ?_, br.alloc _, hb.alloc hbs2 _⟩
                by_cases e : j = m
                · subst e
                  rw [HX2.out] at hjz
                  injection hjz with hjz
                  subst hjz
                  exact HP.out
                · exact HNK.out j z (by omega) hjz
              case measure => simp [intOf]; omega
        · obtain rfl : m = y4.length := by omega
          clear hmt
          go_wp2_with fail
          go_roundw
          case rel =>
            refine ⟨k + 1, by omega, by go_num, fun j z hj hjz => ?_, br, hb⟩
            by_cases e : j = k
            · subst e
              rw [HX.out] at hjz
              injection hjz with hjz
              subst hjz
              exact find_miss _ _ fun j z hz => HNK.out j z (List.getElem?_eq_some_iff.1 hz).1 hz
            · exact HNO.out j z (by omega) hjz
          case measure => simp [intOf]; omega
    · obtain rfl : k = l.length := by omega
      clear hlt
      have br_0 : wr.cell? ⟨w.heap.size, 0, none⟩ = some (.int .i64 0) := br.cell 0
      have br_1 : wr.cell? ⟨w.heap.size, 1, none⟩ = some (.int .i64 0) := br.cell 1
      have br_2 : wr.cell? ⟨w.heap.size, 2, none⟩ = some (.string ⟨#[]⟩) := br.cell 2
      have br_3 : wr.cell? ⟨w.heap.size, 3, none⟩ = some (.slice none 0 0) := br.cell 3
      have br_l := br.lt
      have br_f := fun i => br.frozen i
      go_wp2_with fail
      obtain ⟨f1, f2⟩ := fn_miss (l := l) (s := s) fun j z hz => HNO.out j z (List.getElem?_eq_some_iff.1 hz).1 hz
      rw [f1, f2]
      refine bodyPost_ret (v := .tuple #[.agg #[.int .i64 0, .int .i64 0, .string ⟨#[]⟩, .slice none 0 0], .bool false]) (by simp [results, Try.results32, go_sem, br_0, br_1, br_2, br_3, br_l, br_f]) rfl ⟨_, rfl, ?_, ?_⟩
      · unfold zeroN
        rw [FNode.c_eq]
        exact OwnI.consv (OwnI.consv (OwnI.consv (by simpa using OwnI.none _ _ _ 45 4) _) _) _
      · repeat (refine Below.setCell ?_ (by simp) _)
        exact hb

set_option maxHeartbeats 4000000 in
theorem l23Function_any (l : List FUnit) (s : ByteArray) (u : Value) (w : World) (hl : l.length + FUnit.wts l ≤ 1000000000) {B : Nat} (hB0 : B ≤ w.heap.size) (hr0 : RdC w B (.s 65 5 l.length (FUnit.flat l)) u) :
    Calls Try.prog 54 #[u, .string s] w fun e w' => ∃ us, e = .returned (.tuple #[.agg us.toArray, .bool (fnB l s)]) ∧ RdVs w' w.heap.size (fnQ l s).c us ∧ Below w.heap.size w w' := by
  have hr := hr0.up hB0
  clear hr0
  obtain ⟨A, c, rfl⟩ := hr.form
  have HC := Lib.hid hr
  have hn : l.length ≤ 9223372036854775807 := by omega
  clear hr
  go_enter Try.func54, Try.ntmps54
  go_wp2_with fail
  go_loopw [6] (fun i wr => ∃ k : Nat, k ≤ l.length ∧ i = .int .i64 k ∧ (∀ (j : Nat) (z : FUnit), j < k → l[j]? = some z → z.kids.find? (isFn s) = none) ∧ Blk wr w.heap.size 45 #[.int .i64 0, .int .i64 0, .string ⟨#[]⟩, .slice none 0 0] ∧ Below w.heap.size w wr) (fun i _ => l.length - (intOf i).toNat)
  case atStart => exact ⟨0, Nat.zero_le _, rfl, fun j z hj => absurd hj (by omega), Blk.new _ _ _, (Below.refl _ _).alloc (Nat.le_refl _) _⟩
  case round =>
    obtain ⟨k, hk, rfl, hno, br, hb⟩ := hrel
    have HNO := Lib.hid hno
    clear hno
    by_cases hlt : k < l.length
    · obtain ⟨x, hx⟩ : ∃ x, l[k]? = some x := ⟨_, List.getElem?_eq_getElem hlt⟩
      obtain ⟨bc, offc, rfl, hblc, hcc⟩ := RdC.at_ FUnit.len HC.out hx
      have HX := Lib.hid hx
      have hbs := hb.size
      clear hx
      obtain ⟨y0, ⟨y1, y2, y3, y4⟩⟩ := x
      rw [FUnit.c_eq] at hcc
      obtain ⟨u0, e0, q0⟩ := hcc 0 _ rfl
      obtain rfl := q0.val
      obtain ⟨u1, e1, q1⟩ := hcc 1 _ rfl
      obtain rfl := q1.val
      obtain ⟨u2, e2, q2⟩ := hcc 2 _ rfl
      obtain rfl := q2.val
      obtain ⟨u3, e3, q3⟩ := hcc 3 _ rfl
      obtain rfl := q3.val
      obtain ⟨u4, e4, q4⟩ := hcc 4 _ rfl
      obtain ⟨A4, c4, rfl⟩ := q4.form
      have HK := Lib.hid q4
      have hkl : y4.length ≤ 1000000000 := by have := kids_len HX.out; have e : FUnit.kids ⟨y0, ⟨y1, y2, y3, y4⟩⟩ = y4 := rfl; rw [e] at this; omega
      have hn4 : y4.length ≤ 9223372036854775807 := by omega
      have HE4 := Lib.hid e4
      clear hcc e0 e1 e2 e3 e4 q0 q1 q2 q3 q4
      go_wp2_with fail
      obtain ⟨wo, hwo⟩ : ∃ wo : World, wo = wr := ⟨_, rfl⟩
      rw [← hwo] at br hb ⊢
      clear hwo hbs
      go_loopw [7] (fun i wi => ∃ m : Nat, m ≤ y4.length ∧ i = .int .i64 m ∧ (∀ (j : Nat) (z : FNode), j < m → y4[j]? = some z → isFn s z = false) ∧ Blk wi w.heap.size 45 #[.int .i64 0, .int .i64 0, .string ⟨#[]⟩, .slice none 0 0] ∧ Below w.heap.size w wi) (fun i _ => y4.length - (intOf i).toNat)
      case atStart => exact ⟨0, Nat.zero_le _, rfl, fun j z hj => absurd hj (by omega), br, hb⟩
      case round =>
        obtain ⟨m, hm, rfl, hnk, br2, hb2⟩ := hrel
        have HNK := Lib.hid hnk
        have hbs2 := hb2.size
        have HBR := Lib.hid br2
        clear hnk br hb br2
        have k4 : wr.cell? ⟨bc, offc + k * 5 + 1 + 3, none⟩ = some (.slice A4 y4.length c4) := (hb2.cell (p := ⟨bc, _, none⟩) hblc).trans (by simpa using HE4.out)
        by_cases hmt : m < y4.length
        · obtain ⟨x, hx⟩ : ∃ x, y4[m]? = some x := ⟨_, List.getElem?_eq_getElem hmt⟩
          obtain ⟨bd, offd, rfl, hbld, hcc⟩ := RdC.at_ FNode.len HK.out hx
          have HX2 := Lib.hid hx
          clear hx
          obtain ⟨z0, z1, z2, z3⟩ := x
          rw [FNode.c_eq] at hcc
          obtain ⟨u0, e0, q0⟩ := hcc 0 _ rfl
          obtain rfl := q0.val
          obtain ⟨u1, e1, q1⟩ := hcc 1 _ rfl
          obtain rfl := q1.val
          obtain ⟨u2, e2, q2⟩ := hcc 2 _ rfl
          obtain rfl := q2.val
          obtain ⟨u3, e3, q3⟩ := hcc 3 _ rfl
          obtain ⟨A3, c3, rfl⟩ := q3.form
          have Q3 := Lib.hid q3
          have k0 : wr.cell? ⟨bd, offd + m * 4, none⟩ = some (.int .i64 z0) := (hb2.cell (p := ⟨bd, _, none⟩) hbld).trans (by simpa using e0)
          have k1 : wr.cell? ⟨bd, offd + m * 4 + 1, none⟩ = some (.int .i64 z1) := (hb2.cell (p := ⟨bd, _, none⟩) hbld).trans (by simpa using e1)
          have k2 : wr.cell? ⟨bd, offd + m * 4 + 2, none⟩ = some (.string z2) := (hb2.cell (p := ⟨bd, _, none⟩) hbld).trans (by simpa using e2)
          have k3 : wr.cell? ⟨bd, offd + m * 4 + 3, none⟩ = some (.slice A3 z3.length c3) := (hb2.cell (p := ⟨bd, _, none⟩) hbld).trans (by simpa using e3)
          clear hcc e0 e1 e2 e3 q0 q1 q2 q3
          by_cases hp : isFn s (.mk z0 z1 z2 z3) = true
          · have hp1 : (z0 == 49) = true := by unfold isFn at hp; simp only [Bool.and_eq_true] at hp; exact hp.1
            have hp2 : (z2.toList == s.toList) = true := by unfold isFn at hp; simp only [Bool.and_eq_true] at hp; exact hp.2
            have HP := Lib.hid hp
            have hz : z0 = 49 := by simpa using hp1
            subst hz
            have HP2 := Lib.hid hp2
            have br_0 : wr.cell? ⟨w.heap.size, 0, none⟩ = some (.int .i64 0) := HBR.out.cell 0
            have br_1 : wr.cell? ⟨w.heap.size, 1, none⟩ = some (.int .i64 0) := HBR.out.cell 1
            have br_2 : wr.cell? ⟨w.heap.size, 2, none⟩ = some (.string ⟨#[]⟩) := HBR.out.cell 2
            have br_3 : wr.cell? ⟨w.heap.size, 3, none⟩ = some (.slice none 0 0) := HBR.out.cell 3
            have br_l := HBR.out.lt
            have br_f := fun i => HBR.out.frozen i
            clear hp hp1
            go_wp2_with fail
            obtain ⟨f1, f2⟩ := fn_hit HX.out HX2.out HP.out HNK.out HNO.out
            rw [f1, f2, FNode.c_eq]
            refine bodyPost_ret (v := .tuple #[.agg #[.int .i64 49, .int .i64 z1, .string z2, .slice A3 z3.length c3], .bool true]) (by simp [results, Try.results54, go_sem, br_0, br_1, br_2, br_3, br_l, br_f]) rfl ⟨_, rfl, ?_, ?_⟩
            · refine RdVs.cons (by unfold RdC; rfl) (RdVs.cons (by unfold RdC; rfl) (RdVs.cons (by unfold RdC; rfl) (RdVs.cons (Q3.out.below (w' := _) (C := w.heap.size) ?_ (Nat.le_refl _)) (RdVs.nil _ _))))
              repeat (first | exact hb2 | (refine Below.setCell ?_ (by simp) _) | (refine Below.alloc ?_ (by simp; omega) _))
            · repeat (first | exact hb2 | (refine Below.setCell ?_ (by simp) _) | (refine Below.alloc ?_ (by simp; omega) _))
          · have HP := Lib.hid (show isFn s (.mk z0 z1 z2 z3) = false from by simpa using hp)
            by_cases hz : z0 = 49
            · subst hz
              have hp2 : (z2.toList == s.toList) = false := by
                have := HP.out
                unfold isFn at this
                simpa [FNode.kind, FNode.text] using this
              have HP2 := Lib.hid hp2
              clear hp
              go_wp2_with fail
              go_roundw
              case rel =>
                refine ⟨m + 1, by omega, by go_num, fun j z hj hjz => ?_, HBR.out.alloc _, hb2.alloc hbs2 _⟩
                by_cases e : j = m
                · subst e
                  rw [HX2.out] at hjz
                  injection hjz with hjz
                  subst hjz
                  exact HP.out
                · exact HNK.out j z (by omega) hjz
              case measure => simp [intOf]; omega
            · have hz2 : (z0 == 49) = false := by simpa using hz
              have HZ2 := Lib.hid hz2
              clear hp hz
              go_wp2_with fail
              go_roundw
              case rel =>
                refine ⟨m + 1, by omega, by go_num, fun j z hj hjz => ?_, HBR.out.alloc _, hb2.alloc hbs2 _⟩
                by_cases e : j = m
                · subst e
                  rw [HX2.out] at hjz
                  injection hjz with hjz
                  subst hjz
                  exact HP.out
                · exact HNK.out j z (by omega) hjz
              case measure => simp [intOf]; omega
        · obtain rfl : m = y4.length := by omega
          clear hmt
          go_wp2_with fail
          go_roundw
          case rel =>
            refine ⟨k + 1, by omega, by go_num, fun j z hj hjz => ?_, HBR.out, hb2⟩
            by_cases e : j = k
            · subst e
              rw [HX.out] at hjz
              injection hjz with hjz
              subst hjz
              exact find_miss _ _ fun j z hz => HNK.out j z (List.getElem?_eq_some_iff.1 hz).1 hz
            · exact HNO.out j z (by omega) hjz
          case measure => simp [intOf]; omega
    · obtain rfl : k = l.length := by omega
      clear hlt
      have br_0 : wr.cell? ⟨w.heap.size, 0, none⟩ = some (.int .i64 0) := br.cell 0
      have br_1 : wr.cell? ⟨w.heap.size, 1, none⟩ = some (.int .i64 0) := br.cell 1
      have br_2 : wr.cell? ⟨w.heap.size, 2, none⟩ = some (.string ⟨#[]⟩) := br.cell 2
      have br_3 : wr.cell? ⟨w.heap.size, 3, none⟩ = some (.slice none 0 0) := br.cell 3
      have br_l := br.lt
      have br_f := fun i => br.frozen i
      go_wp2_with fail
      obtain ⟨f1, f2⟩ := fn_miss (l := l) (s := s) fun j z hz => HNO.out j z (List.getElem?_eq_some_iff.1 hz).1 hz
      rw [f1, f2]
      refine bodyPost_ret (v := .tuple #[.agg #[.int .i64 0, .int .i64 0, .string ⟨#[]⟩, .slice none 0 0], .bool false]) (by simp [results, Try.results54, go_sem, br_0, br_1, br_2, br_3, br_l, br_f]) rfl ⟨_, rfl, ?_, ?_⟩
      · unfold zeroN
        rw [FNode.c_eq]
        exact RdVs.cons (by unfold RdC; rfl) (RdVs.cons (by unfold RdC; rfl) (RdVs.cons (by unfold RdC; rfl) (RdVs.cons (by simpa using RdC.nil (Nat.zero_le _)) (RdVs.nil _ _))))
      · repeat (refine Below.setCell ?_ (by simp) _)
        exact hb
set_option maxHeartbeats 1000000 in
theorem FindFunction_spec (l : List FUnit) (s : ByteArray) (u : Value) (w : World) (hl : l.length + FUnit.wts l ≤ 1000000000) {B : Nat} (hB0 : B ≤ w.heap.size) (hr : RdC w B (.s 65 5 l.length (FUnit.flat l)) u) :
    Calls Try.prog 31 #[u, .string s] w fun e w' => ∃ us, e = .returned (.tuple #[.agg us.toArray, .bool (fnB l s)]) ∧ OwnI w' w.heap.size w'.heap.size (fnQ l s).c us ∧ Below w.heap.size w w' := by
  obtain ⟨A, c, rfl⟩ := hr.form
  have HR := Lib.hid hr
  have hqw : (fnQ l s).wt ≤ 1000000000 := by have := fnQ_wt l s; omega
  have HL := Lib.hid (fun (X : World) (hX : B ≤ X.heap.size) (h : RdC X B (.s 65 5 l.length (FUnit.flat l)) (.slice A l.length c)) => l23Function_any l s _ X hl hX h)
  generalize fnQ l s = q at *
  generalize fnB l s = qb at *
  clear hr
  go_enter Try.func31, Try.ntmps31
  go_wp2_with fail
  refine calls_worldD _ (fun X => Blk X w.heap.size 45 #[.int .i64 0, .int .i64 0, .string ⟨#[]⟩, .slice none 0 0] ∧ Below w.heap.size w X) ⟨Blk.new _ _ _, (Below.refl _ _).alloc (Nat.le_refl _) _⟩ ?_
  rintro X0 ⟨br, hb⟩
  have s0 := br.lt
  refine (HL.out _ (by omega) (HR.out.below hb hB0)).mono ?_
  rintro e w1 ⟨us, rfl, hv, hb1⟩
  have HCP := Lib.hid (cpSpec_any q hqw)
  obtain ⟨z0, z1, z2, z3⟩ := q
  rw [FNode.c_eq] at hv
  obtain ⟨us_0, rfl, hv_0⟩ := hv.unv
  obtain ⟨us_1, rfl, hv_1⟩ := hv_0.unv
  obtain ⟨us_2, rfl, hv_2⟩ := hv_1.unv
  obtain ⟨A3, c3, us_3, rfl, q3, hv_3⟩ := hv_2.uns
  obtain rfl := hv_3.un0
  have Q3 := Lib.hid q3
  clear hv hv_0 hv_1 hv_2 hv_3 q3 hqw
  replace br := br.below hb1 (Nat.le_refl _)
  replace hb := hb.trans (hb1.mono (by omega))
  have s1 : X0.heap.size ≤ w1.heap.size := hb1.size
  clear hb1
  have br_l := br.lt
  go_wp2_with fail
  refine calls_worldD _ (fun X => Blk X w.heap.size 45 #[.int .i64 0, .int .i64 0, .string ⟨#[]⟩, .slice none 0 0] ∧ Below w.heap.size w X ∧ RdC X X0.heap.size (.s 45 4 z3.length (FNode.flat z3)) (.slice A3 z3.length c3) ∧ w1.heap.size ≤ X.heap.size) ⟨br.alloc _, hb.alloc (by omega) _, Q3.out.below ((Below.refl _ _).alloc (Nat.le_refl _) _) s1, by simp⟩ ?_
  clear br hb Q3
  rintro X1 ⟨br, hb, q3, s2⟩
  refine (HCP.out [.int .i64 z0, .int .i64 z1, .string z2, .slice A3 z3.length c3] _ X0.heap.size (by omega) (by rw [FNode.c_eq]; exact RdVs.cons (by unfold RdC; rfl) (RdVs.cons (by unfold RdC; rfl) (RdVs.cons (by unfold RdC; rfl) (RdVs.cons q3 (RdVs.nil _ _)))))).mono ?_
  rw [FNode.c_eq]
  rintro e w2 ⟨us2, rfl, own2, hb2⟩
  have hv := own2.vs
  obtain ⟨us2_0, rfl, hv_0⟩ := hv.unv
  obtain ⟨us2_1, rfl, hv_1⟩ := hv_0.unv
  obtain ⟨us2_2, rfl, hv_2⟩ := hv_1.unv
  obtain ⟨D3, d3, us2_3, rfl, _, hv_3⟩ := hv_2.uns
  obtain rfl := hv_3.un0
  clear hv hv_0 hv_1 hv_2 hv_3
  replace br := br.below hb2 (Nat.le_refl _)
  replace hb := hb.trans (hb2.mono (by omega))
  have br_0 : w2.cell? ⟨w.heap.size, 0, none⟩ = some (.int .i64 0) := br.cell 0
  have br_1 : w2.cell? ⟨w.heap.size, 1, none⟩ = some (.int .i64 0) := br.cell 1
  have br_2 : w2.cell? ⟨w.heap.size, 2, none⟩ = some (.string ⟨#[]⟩) := br.cell 2
  have br_3 : w2.cell? ⟨w.heap.size, 3, none⟩ = some (.slice none 0 0) := br.cell 3
  have br_l := br.lt
  have br_f := fun i => br.frozen i
  have hs2 : X1.heap.size ≤ w2.heap.size := hb2.size
  have OW := Lib.hid own2
  clear own2 hb2
  go_wp2_with fail
  refine bodyPost_ret (v := .tuple #[.agg #[.int .i64 z0, .int .i64 z1, .string z2, .slice D3 z3.length d3], .bool qb]) (by simp [results, Try.results31, go_sem, br_0, br_1, br_2, br_3, br_l, br_f]) rfl ⟨_, rfl, ?_, ?_⟩
  · refine OwnI.wide (lo := X1.heap.size) (hi := w2.heap.size) ?_ (by omega) (by simp)
    repeat (refine OwnI.set ?_ (.inl (by simp; try omega)) _)
    rw [FNode.c_eq]
    exact OW.out
  · repeat (refine Below.setCell ?_ (by simp) _)
    exact hb
end Go.Proofs.Ytjfmckepelfojaa
