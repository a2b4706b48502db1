/-
  FindMethod of both packages: the first method of a name in the first class of a name. Conditions: none.
-/
import Derived.Test.YtphcpllafddpfaaFindC
namespace Go.Proofs.Ytphcpllafddpfaa
open Go.ChangeShapes Go.WideShapes Go.ChangeAt Go.RowKit Go.Deep Go.Joins
open Go.ChangeMaps (open_string shut_string)
set_option linter.unusedVariables false
set_option linter.unusedSimpArgs false
set_option maxRecDepth 100000

def atI {α : Type} (l : List α) (i : Int) : Option α := if 0 ≤ i then l[i.toNat]? else none
theorem atI_neg {α : Type} (l : List α) : atI l (-1) = none := rfl
theorem atI_nat {α : Type} {l : List α} {k : Nat} {x : α} (h : l[k]? = some x) : atI l (k : Int) = some x := by
  unfold atI
  rw [if_pos (by omega), Int.toNat_natCast, h]
theorem atI_some {α : Type} {l : List α} {i : Int} {x : α} (h : atI l i = some x) : x ∈ l := by
  unfold atI at h
  split at h
  · exact List.mem_of_getElem? h
  · cases h
def FMethod.nm : FMethod → ByteArray
  | ⟨z0, _, _, _, _⟩ => z0
theorem methodAt1_any (z0 : ByteArray) (z1 : ByteArray) (z2 : ByteArray) (z3 : Bool) (z4 : Bool)  (s : ByteArray) (b : Nat) (w : World) (hb : b < w.heap.size) (hc : w.cell? ⟨b, 0, none⟩ = some (.string s)) :
    Calls Try.prog 41 #[.agg #[.string z0, .string z1, .string z2, .bool z3, .bool z4], .pointer (some ⟨b, 0, none⟩)] w fun e w' => e = .returned (.bool (z0.toList == s.toList)) ∧ Below w.heap.size w w' := by
  go_enter Try.func41, Try.ntmps41
  go_wp2_with fail
  go_ret
  exact ⟨rfl, (Below.refl _ _).alloc (Nat.le_refl _) _⟩
set_option maxHeartbeats 1000000 in
theorem indexMethod_any (l : List FMethod) (s : ByteArray) (u : Value) (b : Nat) (w : World) (hl : l.length ≤ 1000000000) {B : Nat} (hB0 : B ≤ w.heap.size) (hb0 : b < w.heap.size) (hc : w.cell? ⟨b, 0, none⟩ = some (.string s)) (hr0 : RdC w B (.s 30 5 l.length (FMethod.flat l)) u) :
    Calls Try.prog 40 #[u, .func (Fn.func 41) #[] #[.pointer (some ⟨b, 0, none⟩)]] w fun e w' => e = .returned (.int .i64 (fidx FMethod.nm l s)) ∧ Below w.heap.size w w' := by
  have hr := hr0.up hB0
  clear hr0
  obtain ⟨A, c, rfl⟩ := hr.form
  have HC := Lib.hid hr
  have hn : l.length ≤ 9223372036854775807 := by omega
  have HCC := Lib.hid hc
  clear hr hc
  go_enter Try.func40, Try.ntmps40
  go_wp2_with fail
  go_loopw [8] (fun i wr => ∃ k : Nat, k ≤ l.length ∧ i = .int .i64 k ∧ (∀ (j : Nat) (y : FMethod), j < k → l[j]? = some y → ((FMethod.nm y).toList == s.toList) = false) ∧ Below w.heap.size w wr) (fun i _ => l.length - (intOf i).toNat)
  case atStart => exact ⟨0, Nat.zero_le _, rfl, fun j y hj => absurd hj (by omega), Below.refl _ _⟩
  case round =>
    obtain ⟨k, hk, rfl, hno, hb⟩ := hrel
    have HNO := Lib.hid hno
    clear hno
    by_cases hlt : k < l.length
    · obtain ⟨x, hx⟩ : ∃ x, l[k]? = some x := ⟨_, List.getElem?_eq_getElem hlt⟩
      obtain ⟨bc, offc, rfl, hblc, hcc⟩ := RdC.at_ FMethod.len HC.out hx
      have HX := Lib.hid hx
      have hbs := hb.size
      have HS := Lib.hid ((hb.cell (p := ⟨b, 0, none⟩) hb0).trans HCC.out)
      clear hx
      obtain ⟨z0, z1, z2, z3, z4⟩ := x
      rw [FMethod.c_eq] at hcc
      obtain ⟨u0, e0, q0⟩ := hcc 0 _ rfl
      obtain rfl := q0.val
      have kz_0 : wr.cell? ⟨bc, offc + k * 5, none⟩ = some (.string z0) := (hb.cell (p := ⟨bc, _, none⟩) hblc).trans (by simpa using e0)
      obtain ⟨u1, e1, q1⟩ := hcc 1 _ rfl
      obtain rfl := q1.val
      have kz_1 : wr.cell? ⟨bc, offc + k * 5 + 1, none⟩ = some (.string z1) := (hb.cell (p := ⟨bc, _, none⟩) hblc).trans (by simpa using e1)
      obtain ⟨u2, e2, q2⟩ := hcc 2 _ rfl
      obtain rfl := q2.val
      have kz_2 : wr.cell? ⟨bc, offc + k * 5 + 2, none⟩ = some (.string z2) := (hb.cell (p := ⟨bc, _, none⟩) hblc).trans (by simpa using e2)
      obtain ⟨u3, e3, q3⟩ := hcc 3 _ rfl
      obtain rfl := q3.val
      have kz_3 : wr.cell? ⟨bc, offc + k * 5 + 3, none⟩ = some (.bool z3) := (hb.cell (p := ⟨bc, _, none⟩) hblc).trans (by simpa using e3)
      obtain ⟨u4, e4, q4⟩ := hcc 4 _ rfl
      obtain rfl := q4.val
      have kz_4 : wr.cell? ⟨bc, offc + k * 5 + 4, none⟩ = some (.bool z4) := (hb.cell (p := ⟨bc, _, none⟩) hblc).trans (by simpa using e4)
      clear hcc e0 q0 e1 q1 e2 q2 e3 q3 e4 q4
      go_wp2_with fail
      refine (methodAt1_any z0 z1 z2 z3 z4 s b _ (by omega) HS.out).mono ?_
      by_cases hq : (z0.toList == s.toList) = true
      · have HQ := Lib.hid hq
        rw [hq]
        clear hq
        rintro e w2 ⟨rfl, hb2⟩
        go_wp2_with fail
        go_ret
        exact ⟨ret_int (fidx_hit HX.out HQ.out HNO.out).symm, hb.trans (hb2.mono hbs)⟩
      · have hq' : (z0.toList == s.toList) = false := by simpa using hq
        have HQ := Lib.hid hq'
        rw [hq']
        clear hq hq'
        rintro e w2 ⟨rfl, hb2⟩
        go_wp2_with fail
        go_roundw
        case rel =>
          refine ⟨k + 1, by omega, by go_num, fun j y hj hjy => ?_, hb.trans (hb2.mono hbs)⟩
          by_cases e : j = k
          · subst e
            rw [HX.out] at hjy
            injection hjy with hjy
            subst hjy
            exact HQ.out
          · exact HNO.out j y (by omega) hjy
        case measure => simp [intOf]; omega
    · obtain rfl : k = l.length := by omega
      clear hlt
      go_wp2_with fail
      go_ret
      exact ⟨ret_int (fidx_miss fun j y hy => HNO.out j y (List.getElem?_eq_some_iff.1 hy).1 hy).symm, hb⟩
theorem methodAt_any (l : List FMethod) (s : ByteArray) (u : Value) (w : World) (hl : l.length ≤ 1000000000) {B : Nat} (hB0 : B ≤ w.heap.size) (hr : RdC w B (.s 30 5 l.length (FMethod.flat l)) u) :
    Calls Try.prog 23 #[u, .string s] w fun e w' => e = .returned (.int .i64 (fidx FMethod.nm l s)) ∧ Below w.heap.size w w' := by
  have HR := Lib.hid hr
  clear hr
  go_enter Try.func23, Try.ntmps23
  go_wp2_with fail
  refine (indexMethod_any l s u _ _ hl (B := B) (by simp; omega) (by simp) (World.cell?_alloc_new _ _ _ _) (HR.out.below ((Below.refl _ _).alloc (Nat.le_refl _) _) hB0)).mono ?_
  rintro e w2 ⟨rfl, hb2⟩
  go_wp2_with fail
  go_ret
  exact ⟨rfl, ((Below.refl _ _).alloc (Nat.le_refl _) _).trans (hb2.mono (by simp))⟩

def FClass.methods : FClass → List FMethod
  | ⟨_, _, _, l⟩ => l
def fmO (l : List FClass) (a s : ByteArray) : Option FMethod := (atI l (fidx FClass.nm l a)).bind fun c => atI c.methods (fidx FMethod.nm c.methods s)
def zeroM : FMethod := ⟨⟨#[]⟩, ⟨#[]⟩, ⟨#[]⟩, false, false⟩
def fmQ (l : List FClass) (a s : ByteArray) : FMethod := (fmO l a s).getD zeroM
def fmB (l : List FClass) (a s : ByteArray) : Bool := (fmO l a s).isSome
theorem fm_no1 {l : List FClass} {a s : ByteArray} (h : fidx FClass.nm l a = -1) : fmQ l a s = zeroM ∧ fmB l a s = false := by
  unfold fmQ fmB fmO
  rw [h, atI_neg]
  exact ⟨rfl, rfl⟩
theorem fm_no2 {l : List FClass} {a s : ByteArray} {k : Nat} {x : FClass} (h : fidx FClass.nm l a = k) (hx : l[k]? = some x) (h2 : fidx FMethod.nm x.methods s = -1) : fmQ l a s = zeroM ∧ fmB l a s = false := by
  unfold fmQ fmB fmO
  rw [h, atI_nat hx]
  simp only [Option.bind]
  rw [h2, atI_neg]
  exact ⟨rfl, rfl⟩
theorem fm_yes {l : List FClass} {a s : ByteArray} {k m : Nat} {x : FClass} {y : FMethod} (h : fidx FClass.nm l a = k) (hx : l[k]? = some x) (h2 : fidx FMethod.nm x.methods s = m) (hy : x.methods[m]? = some y) : fmQ l a s = y ∧ fmB l a s = true := by
  unfold fmQ fmB fmO
  rw [h, atI_nat hx]
  simp only [Option.bind]
  rw [h2, atI_nat hy]
  exact ⟨rfl, rfl⟩
theorem methods_wt {l : List FClass} {x : FClass} {k : Nat} (hx : l[k]? = some x) : x.methods.length + FMethod.wts x.methods ≤ FClass.wts l := by
  have h1 := FClass.wts_at l x (List.mem_of_getElem? hx)
  obtain ⟨z0, z1, z2, z3⟩ := x
  rw [FClass.wt_eq] at h1
  show z3.length + FMethod.wts z3 ≤ _
  omega
theorem fmQ_wt (l : List FClass) (a s : ByteArray) : (fmQ l a s).wt ≤ FClass.wts l := by
  unfold fmQ
  cases h : fmO l a s with
  | none =>
    show zeroM.wt ≤ _
    have : zeroM.wt = 0 := by unfold zeroM; rw [FMethod.wt_eq]; rfl
    omega
  | some y =>
    show y.wt ≤ _
    unfold fmO at h
    obtain ⟨c, hc, hy⟩ := Option.bind_eq_some_iff.1 h
    obtain ⟨k, hk⟩ := List.mem_iff_getElem?.1 (atI_some hc)
    have h1 := methods_wt hk
    have h2 := FMethod.wts_at _ y (atI_some hy)
    omega

set_option maxHeartbeats 4000000 in
theorem FindMethod_impl (l : List FClass) (a s : ByteArray) (u : Value) (w : World) (hl : l.length + FClass.wts l ≤ 1000000000) {B : Nat} (hB0 : B ≤ w.heap.size) (hr0 : RdC w B (.s 53 4 l.length (FClass.flat l)) u) :
    Calls Try.prog 12 #[u, .string a, .string s] w fun e w' => ∃ us, e = .returned (.tuple #[.agg us.toArray, .bool (fmB l a s)]) ∧ OwnI w' w.heap.size w'.heap.size (fmQ l a s).c us ∧ Below w.heap.size w w' := by
  have hr := hr0.up hB0
  clear hr0
  obtain ⟨A, c, rfl⟩ := hr.form
  have HC := Lib.hid hr
  have hn : l.length ≤ 9223372036854775807 := by omega
  clear hr
  rcases fidx_lt FClass.nm l a with hi | ⟨k, x, hi, hk, hx⟩
  · have HI := Lib.hid hi
    clear hi
    go_enter Try.func12, Try.ntmps12
    go_wp2_with fail
    refine calls_worldD _ (fun X => Blk X w.heap.size 30 #[.string ⟨#[]⟩, .string ⟨#[]⟩, .string ⟨#[]⟩, .bool false, .bool false] ∧ Below w.heap.size w X) ⟨Blk.new _ _ _, (Below.refl _ _).alloc (Nat.le_refl _) _⟩ ?_
    rintro X0 ⟨br, hb⟩
    have s0 := br.lt
    refine (FindClass_impl l a _ _ (by omega) (B := w.heap.size) (by omega) (HC.out.below hb (Nat.le_refl _))).mono ?_
    rw [HI.out]
    rintro e w1 ⟨rfl, hb1⟩
    replace br := br.below hb1 (Nat.le_refl _)
    replace hb := hb.trans (hb1.mono (by omega))
    clear hb1
    have br_0 : w1.cell? ⟨w.heap.size, 0, none⟩ = some (.string ⟨#[]⟩) := br.cell 0
    have br_1 : w1.cell? ⟨w.heap.size, 1, none⟩ = some (.string ⟨#[]⟩) := br.cell 1
    have br_2 : w1.cell? ⟨w.heap.size, 2, none⟩ = some (.string ⟨#[]⟩) := br.cell 2
    have br_3 : w1.cell? ⟨w.heap.size, 3, none⟩ = some (.bool false) := br.cell 3
    have br_4 : w1.cell? ⟨w.heap.size, 4, none⟩ = some (.bool false) := br.cell 4
    have br_l := br.lt
    have br_f := fun i => br.frozen i
    go_wp2_with fail
    obtain ⟨f1, f2⟩ := fm_no1 (s := s) HI.out
    rw [f1, f2]
    refine bodyPost_ret (v := .tuple #[.agg #[.string ⟨#[]⟩, .string ⟨#[]⟩, .string ⟨#[]⟩, .bool false, .bool false], .bool false]) (by simp [results, Try.results12, go_sem, br_0, br_1, br_2, br_3, br_4, br_l, br_f]) rfl ⟨_, rfl, ?_, ?_⟩
    · unfold zeroM
      rw [FMethod.c_eq]
      exact OwnI.consv (OwnI.consv (OwnI.consv (OwnI.consv (OwnI.consv (OwnI.nil _ _ _) _) _) _) _) _
    · repeat (refine Below.setCell ?_ (by simp) _)
      exact hb
  · have HI := Lib.hid hi
    have HX := Lib.hid hx
    have hmw := methods_wt hx
    obtain ⟨bc, offc, rfl, hblc, hcc⟩ := RdC.at_ FClass.len HC.out hx
    obtain ⟨z0, z1, z2, z3⟩ := x
    rw [FClass.c_eq] at hcc
    obtain ⟨u3, e3, q3⟩ := hcc 3 _ rfl
    obtain ⟨A3, c3, rfl⟩ := q3.form
    have Q3 := Lib.hid q3
    have HE3 := Lib.hid e3
    have hm1 : z3.length ≤ 1000000000 := by have e : FClass.methods ⟨z0, z1, z2, z3⟩ = z3 := rfl; rw [e] at hmw; omega
    have hm2 : z3.length ≤ 9223372036854775807 := by omega
    clear hi hx hcc q3 e3 hmw
    rcases fidx_lt FMethod.nm z3 s with hj | ⟨m, y, hj, hm, hy⟩
    · have HJ := Lib.hid hj
      clear hj
      go_enter Try.func12, Try.ntmps12
      go_wp2_with fail
      refine calls_worldD _ (fun X => Blk X w.heap.size 30 #[.string ⟨#[]⟩, .string ⟨#[]⟩, .string ⟨#[]⟩, .bool false, .bool false] ∧ Below w.heap.size w X) ⟨Blk.new _ _ _, (Below.refl _ _).alloc (Nat.le_refl _) _⟩ ?_
      rintro X0 ⟨br, hb⟩
      have s0 := br.lt
      refine (FindClass_impl l a _ _ (by omega) (B := w.heap.size) (by omega) (HC.out.below hb (Nat.le_refl _))).mono ?_
      rw [HI.out]
      rintro e w1 ⟨rfl, hb1⟩
      replace br := br.below hb1 (Nat.le_refl _)
      replace hb := hb.trans (hb1.mono (by omega))
      clear hb1
      have k3 : w1.cell? ⟨bc, offc + k * 4 + 3, none⟩ = some (.slice A3 z3.length c3) := (hb.cell (p := ⟨bc, _, none⟩) hblc).trans (by simpa using HE3.out)
      go_wp2_with fail
      refine (methodAt_any z3 s _ _ hm1 (B := w.heap.size) (by have := hb.size; omega) (Q3.out.below hb (Nat.le_refl _))).mono ?_
      rw [HJ.out]
      rintro e w2 ⟨rfl, hb2⟩
      replace br := br.below hb2 (Nat.le_refl _)
      have hbs1 := hb.size
      replace hb := hb.trans (hb2.mono (by omega))
      clear hb2 k3
      have br_0 : w2.cell? ⟨w.heap.size, 0, none⟩ = some (.string ⟨#[]⟩) := br.cell 0
      have br_1 : w2.cell? ⟨w.heap.size, 1, none⟩ = some (.string ⟨#[]⟩) := br.cell 1
      have br_2 : w2.cell? ⟨w.heap.size, 2, none⟩ = some (.string ⟨#[]⟩) := br.cell 2
      have br_3 : w2.cell? ⟨w.heap.size, 3, none⟩ = some (.bool false) := br.cell 3
      have br_4 : w2.cell? ⟨w.heap.size, 4, none⟩ = some (.bool false) := br.cell 4
      have br_l := br.lt
      have br_f := fun i => br.frozen i
      go_wp2_with fail
      obtain ⟨f1, f2⟩ := fm_no2 (s := s) HI.out HX.out HJ.out
      rw [f1, f2]
      refine bodyPost_ret (v := .tuple #[.agg #[.string ⟨#[]⟩, .string ⟨#[]⟩, .string ⟨#[]⟩, .bool false, .bool false], .bool false]) (by simp [results, Try.results12, go_sem, br_0, br_1, br_2, br_3, br_4, br_l, br_f]) rfl ⟨_, rfl, ?_, ?_⟩
      · unfold zeroM
        rw [FMethod.c_eq]
        exact OwnI.consv (OwnI.consv (OwnI.consv (OwnI.consv (OwnI.consv (OwnI.nil _ _ _) _) _) _) _) _
      · repeat (refine Below.setCell ?_ (by simp) _)
        exact hb
    · have HJ := Lib.hid hj
      have HY := Lib.hid hy
      obtain ⟨bd, offd, rfl, hbld, hcc⟩ := RdC.at_ FMethod.len Q3.out hy
      clear hj hy
      go_enter Try.func12, Try.ntmps12
      go_wp2_with fail
      refine calls_worldD _ (fun X => Blk X w.heap.size 30 #[.string ⟨#[]⟩, .string ⟨#[]⟩, .string ⟨#[]⟩, .bool false, .bool false] ∧ Below w.heap.size w X) ⟨Blk.new _ _ _, (Below.refl _ _).alloc (Nat.le_refl _) _⟩ ?_
      rintro X0 ⟨br, hb⟩
      have s0 := br.lt
      refine (FindClass_impl l a _ _ (by omega) (B := w.heap.size) (by omega) (HC.out.below hb (Nat.le_refl _))).mono ?_
      rw [HI.out]
      rintro e w1 ⟨rfl, hb1⟩
      replace br := br.below hb1 (Nat.le_refl _)
      replace hb := hb.trans (hb1.mono (by omega))
      clear hb1
      have k3 : w1.cell? ⟨bc, offc + k * 4 + 3, none⟩ = some (.slice (some ⟨bd, offd, none⟩) z3.length c3) := (hb.cell (p := ⟨bc, _, none⟩) hblc).trans (by simpa using HE3.out)
      go_wp2_with fail
      refine (methodAt_any z3 s _ _ hm1 (B := w.heap.size) (by have := hb.size; omega) (Q3.out.below hb (Nat.le_refl _))).mono ?_
      rw [HJ.out]
      rintro e w2 ⟨rfl, hb2⟩
      replace br := br.below hb2 (Nat.le_refl _)
      have hbs1 := hb.size
      replace hb := hb.trans (hb2.mono (by omega))
      clear hb2 k3
      have k3 : w2.cell? ⟨bc, offc + k * 4 + 3, none⟩ = some (.slice (some ⟨bd, offd, none⟩) z3.length c3) := (hb.cell (p := ⟨bc, _, none⟩) hblc).trans (by simpa using HE3.out)
      obtain ⟨y0, y1, y2, y3, y4⟩ := y
      rw [FMethod.c_eq] at hcc
      obtain ⟨u0, e0, q0⟩ := hcc 0 _ rfl
      obtain rfl := q0.val
      have ky_0 : w2.cell? ⟨bd, offd + m * 5, none⟩ = some (.string y0) := (hb.cell (p := ⟨bd, _, none⟩) hbld).trans (by simpa using e0)
      obtain ⟨u1, e1, q1⟩ := hcc 1 _ rfl
      obtain rfl := q1.val
      have ky_1 : w2.cell? ⟨bd, offd + m * 5 + 1, none⟩ = some (.string y1) := (hb.cell (p := ⟨bd, _, none⟩) hbld).trans (by simpa using e1)
      obtain ⟨u2, e2, q2⟩ := hcc 2 _ rfl
      obtain rfl := q2.val
      have ky_2 : w2.cell? ⟨bd, offd + m * 5 + 2, none⟩ = some (.string y2) := (hb.cell (p := ⟨bd, _, none⟩) hbld).trans (by simpa using e2)
      obtain ⟨u3, e3, q3⟩ := hcc 3 _ rfl
      obtain rfl := q3.val
      have ky_3 : w2.cell? ⟨bd, offd + m * 5 + 3, none⟩ = some (.bool y3) := (hb.cell (p := ⟨bd, _, none⟩) hbld).trans (by simpa using e3)
      obtain ⟨u4, e4, q4⟩ := hcc 4 _ rfl
      obtain rfl := q4.val
      have ky_4 : w2.cell? ⟨bd, offd + m * 5 + 4, none⟩ = some (.bool y4) := (hb.cell (p := ⟨bd, _, none⟩) hbld).trans (by simpa using e4)
      clear hcc e0 q0 e1 q1 e2 q2 e3 q3 e4 q4
      have br_0 : w2.cell? ⟨w.heap.size, 0, none⟩ = some (.string ⟨#[]⟩) := br.cell 0
      have br_1 : w2.cell? ⟨w.heap.size, 1, none⟩ = some (.string ⟨#[]⟩) := br.cell 1
      have br_2 : w2.cell? ⟨w.heap.size, 2, none⟩ = some (.string ⟨#[]⟩) := br.cell 2
      have br_3 : w2.cell? ⟨w.heap.size, 3, none⟩ = some (.bool false) := br.cell 3
      have br_4 : w2.cell? ⟨w.heap.size, 4, none⟩ = some (.bool false) := br.cell 4
      have br_l := br.lt
      have br_f := fun i => br.frozen i
      go_wp2_with fail
      obtain ⟨f1, f2⟩ := fm_yes (s := s) HI.out HX.out HJ.out HY.out
      rw [f1, f2]
      refine bodyPost_ret (v := .tuple #[.agg #[.string y0, .string y1, .string y2, .bool y3, .bool y4], .bool true]) (by simp [results, Try.results12, go_sem, br_0, br_1, br_2, br_3, br_4, br_l, br_f]) rfl ⟨_, rfl, ?_, ?_⟩
      · rw [FMethod.c_eq]
        exact OwnI.consv (OwnI.consv (OwnI.consv (OwnI.consv (OwnI.consv (OwnI.nil _ _ _) _) _) _) _) _
      · repeat (refine Below.setCell ?_ (by simp) _)
        exact hb

set_option maxHeartbeats 4000000 in
theorem FindMethod_spec (l : List FClass) (a s : ByteArray) (u : Value) (w : World) (hl : l.length + FClass.wts l ≤ 1000000000) {B : Nat} (hB0 : B ≤ w.heap.size) (hr0 : RdC w B (.s 53 4 l.length (FClass.flat l)) u) :
    Calls Try.prog 11 #[u, .string a, .string s] w fun e w' => ∃ us, e = .returned (.tuple #[.agg us.toArray, .bool (fmB l a s)]) ∧ OwnI w' w.heap.size w'.heap.size (fmQ l a s).c us ∧ Below w.heap.size w w' := by
  have hr := hr0.up hB0
  clear hr0
  obtain ⟨A, c, rfl⟩ := hr.form
  have HC := Lib.hid hr
  have hn : l.length ≤ 9223372036854775807 := by omega
  clear hr
  rcases fidx_lt FClass.nm l a with hi | ⟨k, x, hi, hk, hx⟩
  · have HI := Lib.hid hi
    clear hi
    go_enter Try.func11, Try.ntmps11
    go_wp2_with fail
    refine calls_worldD _ (fun X => Blk X w.heap.size 30 #[.string ⟨#[]⟩, .string ⟨#[]⟩, .string ⟨#[]⟩, .bool false, .bool false] ∧ Below w.heap.size w X) ⟨Blk.new _ _ _, (Below.refl _ _).alloc (Nat.le_refl _) _⟩ ?_
    rintro X0 ⟨br, hb⟩
    have s0 := br.lt
    refine (FindClass_spec l a _ _ (by omega) (B := w.heap.size) (by omega) (HC.out.below hb (Nat.le_refl _))).mono ?_
    rw [HI.out]
    rintro e w1 ⟨rfl, hb1⟩
    replace br := br.below hb1 (Nat.le_refl _)
    replace hb := hb.trans (hb1.mono (by omega))
    clear hb1
    have br_0 : w1.cell? ⟨w.heap.size, 0, none⟩ = some (.string ⟨#[]⟩) := br.cell 0
    have br_1 : w1.cell? ⟨w.heap.size, 1, none⟩ = some (.string ⟨#[]⟩) := br.cell 1
    have br_2 : w1.cell? ⟨w.heap.size, 2, none⟩ = some (.string ⟨#[]⟩) := br.cell 2
    have br_3 : w1.cell? ⟨w.heap.size, 3, none⟩ = some (.bool false) := br.cell 3
    have br_4 : w1.cell? ⟨w.heap.size, 4, none⟩ = some (.bool false) := br.cell 4
    have br_l := br.lt
    have br_f := fun i => br.frozen i
    go_wp2_with fail
    go_loopw [9] (fun i wr => i = .int .i64 0 ∧ wr = w1) (fun i _ => 0)
    case atStart => exact ⟨rfl, rfl⟩
    case round =>
      obtain ⟨rfl, rfl⟩ := hrel
      go_wp2_with fail
      obtain ⟨f1, f2⟩ := fm_no1 (s := s) HI.out
      rw [f1, f2]
      refine bodyPost_ret (v := .tuple #[.agg #[.string ⟨#[]⟩, .string ⟨#[]⟩, .string ⟨#[]⟩, .bool false, .bool false], .bool false]) (by simp [results, Try.results11, go_sem, br_0, br_1, br_2, br_3, br_4, br_l, br_f]) rfl ⟨_, rfl, ?_, ?_⟩
      · unfold zeroM
        rw [FMethod.c_eq]
        exact OwnI.consv (OwnI.consv (OwnI.consv (OwnI.consv (OwnI.consv (OwnI.nil _ _ _) _) _) _) _) _
      · repeat (refine Below.setCell ?_ (by simp) _)
        exact hb
  · have HI := Lib.hid hi
    have HX := Lib.hid hx
    have hmw := methods_wt hx
    obtain ⟨bc, offc, rfl, hblc, hcc⟩ := RdC.at_ FClass.len HC.out hx
    obtain ⟨z0, z1, z2, z3⟩ := x
    rw [FClass.c_eq] at hcc
    obtain ⟨u3, e3, q3⟩ := hcc 3 _ rfl
    obtain ⟨A3, c3, rfl⟩ := q3.form
    have Q3 := Lib.hid q3
    have HE3 := Lib.hid e3
    have hm1 : z3.length ≤ 1000000000 := by have e : FClass.methods ⟨z0, z1, z2, z3⟩ = z3 := rfl; rw [e] at hmw; omega
    have hm2 : z3.length ≤ 9223372036854775807 := by omega
    clear hi hx hcc q3 e3 hmw
    go_enter Try.func11, Try.ntmps11
    go_wp2_with fail
    refine calls_worldD _ (fun X => Blk X w.heap.size 30 #[.string ⟨#[]⟩, .string ⟨#[]⟩, .string ⟨#[]⟩, .bool false, .bool false] ∧ Below w.heap.size w X) ⟨Blk.new _ _ _, (Below.refl _ _).alloc (Nat.le_refl _) _⟩ ?_
    rintro X0 ⟨br, hb⟩
    have s0 := br.lt
    refine (FindClass_spec l a _ _ (by omega) (B := w.heap.size) (by omega) (HC.out.below hb (Nat.le_refl _))).mono ?_
    rw [HI.out]
    rintro e w1 ⟨rfl, hb1⟩
    replace br := br.below hb1 (Nat.le_refl _)
    replace hb := hb.trans (hb1.mono (by omega))
    clear hb1
    have hbs1 := hb.size
    go_wp2_with fail
    obtain ⟨wo, hwo⟩ : ∃ wo : World, wo = w1 := ⟨_, rfl⟩
    rw [← hwo] at br hb hbs1 ⊢
    clear hwo
    go_loopw [9] (fun i wr => ∃ m : Nat, m ≤ z3.length ∧ i = .int .i64 m ∧ (∀ (j : Nat) (y : FMethod), j < m → z3[j]? = some y → ((FMethod.nm y).toList == s.toList) = false) ∧ Blk wr w.heap.size 30 #[.string ⟨#[]⟩, .string ⟨#[]⟩, .string ⟨#[]⟩, .bool false, .bool false] ∧ Below w.heap.size w wr) (fun i _ => z3.length - (intOf i).toNat)
    case atStart => exact ⟨0, Nat.zero_le _, rfl, fun j y hj => absurd hj (by omega), br, hb⟩
    case round =>
      obtain ⟨m, hm, rfl, hno, br2, hb2⟩ := hrel
      have HNO := Lib.hid hno
      clear hno br hb
      have br := br2
      have hb := hb2
      clear br2 hb2
      have k3 : wr.cell? ⟨bc, offc + k * 4 + 3, none⟩ = some (.slice A3 z3.length c3) := (hb.cell (p := ⟨bc, _, none⟩) hblc).trans (by simpa using HE3.out)
      by_cases hmt : m < z3.length
      · obtain ⟨x, hx⟩ : ∃ x, z3[m]? = some x := ⟨_, List.getElem?_eq_getElem hmt⟩
        obtain ⟨bd, offd, rfl, hbld, hcc⟩ := RdC.at_ FMethod.len Q3.out hx
        have HY := Lib.hid hx
        clear hx
        obtain ⟨y0, y1, y2, y3, y4⟩ := x
        rw [FMethod.c_eq] at hcc
        obtain ⟨u0, e0, q0⟩ := hcc 0 _ rfl
        obtain rfl := q0.val
        have ky_0 : wr.cell? ⟨bd, offd + m * 5, none⟩ = some (.string y0) := (hb.cell (p := ⟨bd, _, none⟩) hbld).trans (by simpa using e0)
        obtain ⟨u1, e1, q1⟩ := hcc 1 _ rfl
        obtain rfl := q1.val
        have ky_1 : wr.cell? ⟨bd, offd + m * 5 + 1, none⟩ = some (.string y1) := (hb.cell (p := ⟨bd, _, none⟩) hbld).trans (by simpa using e1)
        obtain ⟨u2, e2, q2⟩ := hcc 2 _ rfl
        obtain rfl := q2.val
        have ky_2 : wr.cell? ⟨bd, offd + m * 5 + 2, none⟩ = some (.string y2) := (hb.cell (p := ⟨bd, _, none⟩) hbld).trans (by simpa using e2)
        obtain ⟨u3, e3, q3⟩ := hcc 3 _ rfl
        obtain rfl := q3.val
        have ky_3 : wr.cell? ⟨bd, offd + m * 5 + 3, none⟩ = some (.bool y3) := (hb.cell (p := ⟨bd, _, none⟩) hbld).trans (by simpa using e3)
        obtain ⟨u4, e4, q4⟩ := hcc 4 _ rfl
        obtain rfl := q4.val
        have ky_4 : wr.cell? ⟨bd, offd + m * 5 + 4, none⟩ = some (.bool y4) := (hb.cell (p := ⟨bd, _, none⟩) hbld).trans (by simpa using e4)
        clear hcc e0 q0 e1 q1 e2 q2 e3 q3 e4 q4
        by_cases hq : (y0.toList == s.toList) = true
        · have HQ := Lib.hid hq
          have br_0 : wr.cell? ⟨w.heap.size, 0, none⟩ = some (.string ⟨#[]⟩) := br.cell 0
          have br_1 : wr.cell? ⟨w.heap.size, 1, none⟩ = some (.string ⟨#[]⟩) := br.cell 1
          have br_2 : wr.cell? ⟨w.heap.size, 2, none⟩ = some (.string ⟨#[]⟩) := br.cell 2
          have br_3 : wr.cell? ⟨w.heap.size, 3, none⟩ = some (.bool false) := br.cell 3
          have br_4 : wr.cell? ⟨w.heap.size, 4, none⟩ = some (.bool false) := br.cell 4
          have br_l := br.lt
          have br_f := fun i => br.frozen i
          go_wp2_with fail
          obtain ⟨f1, f2⟩ := fm_yes (s := s) HI.out HX.out (fidx_hit HY.out HQ.out HNO.out) HY.out
          rw [f1, f2]
          refine bodyPost_ret (v := .tuple #[.agg #[.string y0, .string y1, .string y2, .bool y3, .bool y4], .bool true]) (by simp [results, Try.results11, go_sem, br_0, br_1, br_2, br_3, br_4, br_l, br_f]) rfl ⟨_, rfl, ?_, ?_⟩
          · rw [FMethod.c_eq]
            exact OwnI.consv (OwnI.consv (OwnI.consv (OwnI.consv (OwnI.consv (OwnI.nil _ _ _) _) _) _) _) _
          · repeat (refine Below.setCell ?_ (by simp) _)
            exact hb
        · have hq' : (y0.toList == s.toList) = false := by simpa using hq
          have HQ := Lib.hid hq'
          clear hq
          go_wp2_with fail
          go_roundw
          case rel =>
            refine ⟨m + 1, by omega, by go_num, fun j y hj hjy => ?_, br, hb⟩
            by_cases e : j = m
            · subst e
              rw [HY.out] at hjy
              injection hjy with hjy
              subst hjy
              exact HQ.out
            · exact HNO.out j y (by omega) hjy
          case measure => simp [intOf]; omega
      · obtain rfl : m = z3.length := by omega
        clear hmt
        have br_0 : wr.cell? ⟨w.heap.size, 0, none⟩ = some (.string ⟨#[]⟩) := br.cell 0
        have br_1 : wr.cell? ⟨w.heap.size, 1, none⟩ = some (.string ⟨#[]⟩) := br.cell 1
        have br_2 : wr.cell? ⟨w.heap.size, 2, none⟩ = some (.string ⟨#[]⟩) := br.cell 2
        have br_3 : wr.cell? ⟨w.heap.size, 3, none⟩ = some (.bool false) := br.cell 3
        have br_4 : wr.cell? ⟨w.heap.size, 4, none⟩ = some (.bool false) := br.cell 4
        have br_l := br.lt
        have br_f := fun i => br.frozen i
        go_wp2_with fail
        obtain ⟨f1, f2⟩ := fm_no2 (s := s) HI.out HX.out (fidx_miss fun j y hy => HNO.out j y (List.getElem?_eq_some_iff.1 hy).1 hy)
        rw [f1, f2]
        refine bodyPost_ret (v := .tuple #[.agg #[.string ⟨#[]⟩, .string ⟨#[]⟩, .string ⟨#[]⟩, .bool false, .bool false], .bool false]) (by simp [results, Try.results11, go_sem, br_0, br_1, br_2, br_3, br_4, br_l, br_f]) rfl ⟨_, rfl, ?_, ?_⟩
        · unfold zeroM
          rw [FMethod.c_eq]
          exact OwnI.consv (OwnI.consv (OwnI.consv (OwnI.consv (OwnI.consv (OwnI.nil _ _ _) _) _) _) _) _
        · repeat (refine Below.setCell ?_ (by simp) _)
          exact hb
end Go.Proofs.Ytphcpllafddpfaa
