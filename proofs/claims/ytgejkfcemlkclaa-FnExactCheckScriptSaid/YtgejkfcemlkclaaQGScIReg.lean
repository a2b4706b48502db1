/-
  Parts of the proof: ScI, ScS, Reg. Conditions: none.
-/
import Derived.Test.YtgejkfcemlkclaaQGIsTScQ
import Derived.Deep.LoopGhost
import Derived.Test.YtgejkfcemlkclaaQIsU2
import Derived.Test.YtgejkfcemlkclaaQGSeenIsK6
import Derived.Test.YtgejkfcemlkclaaQGIsK2IsK4
import Derived.Deep.QuietTactic
import Derived.BigQuiet
import Derived.Test.YtgejkfcemlkclaaQGBaseDeepM
import Derived.Deep.RegionHeld3
namespace Go.Proofs.Ytgejkfcemlkclaa
open Go.ChangeShapes Go.WideShapes Go.ChangeAt Go.RowKit Go.Deep Go.Joins
open Go.ChangeMaps (open_string shut_string)
set_option linter.unusedVariables false
set_option linter.unusedSimpArgs false
set_option maxRecDepth 100000
theorem zeroBB (W : World) : (zeroValue 4).run Try.prog W = .ok (.bool false) W := by kernel_rfl
theorem below_grown {B g : Nat} {w a b : World} (h : Below B w a) (hg : a.grownBy b (some g)) (hB : B ≤ g) (hBa : B ≤ a.heap.size) : Below B w b :=
  ⟨hg.os.trans h.os, hg.tape.trans h.tape, hg.output.trans h.output, Nat.le_trans h.size hg.size, fun i hi => (hg.block i (by omega) (by intro e; cases e; omega)).trans (h.block i hi)⟩
theorem isFn_impl (k : Int) (w : World) : Calls Try.prog 42 #[.int .i64 k] w fun e w' => e = .returned (.bool (isFn k)) ∧ w = w' := by
  unfold isFn
  by_cases h1 : k = 49
  · subst h1
    go_enter Try.func42, Try.ntmps42
    go_wp2_with fail
    go_ret
    exact ⟨rfl, rfl⟩
  by_cases h2 : k = 55
  · subst h2
    go_enter Try.func42, Try.ntmps42
    go_wp2_with fail
    go_ret
    exact ⟨rfl, rfl⟩
  rw [beq_false_of_ne h1, beq_false_of_ne h2, Bool.false_or, Bool.false_or]
  go_enter Try.func42, Try.ntmps42
  go_wp2_with fail
  all_goals (go_ret; exact ⟨ret_bool (by first | rfl | (simp_all; done)), rfl⟩)
theorem dup_at {a b : Int} {l : List FNode} {k : Nat} {x : FNode} (hx : l[k]? = some x) : dupAt a b l k = (mtK a b x && (l.take k).any (sameTx a b x)) := by
  unfold dupAt
  rw [hx]
theorem tw_t {a b : Int} {l : List FNode} {k : Nat} {x : FNode} (hx : l[k]? = some x) (h : dupAt a b l k = true) : twF a b l = true := by
  unfold twF
  rw [List.any_eq_true]
  exact ⟨k, List.mem_range.mpr (List.getElem?_eq_some_iff.1 hx).1, h⟩
theorem tw_f {a b : Int} {l : List FNode} (h : ∀ j, j < l.length → dupAt a b l j = false) : twF a b l = false := by
  unfold twF
  rw [List.any_eq_false]
  intro j hj
  rw [h j (List.mem_range.mp hj)]
  simp
def Nms (a b : Int) (l : List FNode) (k : Nat) (S : List (List UInt8)) : Prop := ∀ s, hasS S s = (l.take k).any (fun y => mtK a b y && y.tx.toList == s)
theorem Nms.zero (a b : Int) (l : List FNode) : Nms a b l 0 [] := fun s => rfl
theorem Nms.skip {a b : Int} {l : List FNode} {k : Nat} {S : List (List UInt8)} {x : FNode} (h : Nms a b l k S) (hx : l[k]? = some x) (hm : mtK a b x = false) : Nms a b l (k + 1) S := fun s => by
  rw [h s, List.take_add_one, hx, List.any_append]
  simp [hm]
theorem Nms.put {a b : Int} {l : List FNode} {k : Nat} {S : List (List UInt8)} {x : FNode} (h : Nms a b l k S) (hx : l[k]? = some x) (hm : mtK a b x = true) : Nms a b l (k + 1) (x.tx.toList :: S) := fun s => by
  rw [hasS_cons, h s, List.take_add_one, hx, List.any_append]
  simp only [Option.toList_some, List.any_cons, List.any_nil, Bool.or_false, hm, Bool.true_and]
  rw [Bool.or_comm]
  congr 1
  rw [Bool.eq_iff_iff, beq_iff_eq, beq_iff_eq]
  exact eq_comm
set_option maxHeartbeats 4000000 in
theorem twice_impl (a b : Int) (l : List FNode) (hl : l.length ≤ 1000000000) (hW : ∀ x, x ∈ l → x.tx.size ≤ 1000000000) (u : Value) (w : World) (B : Nat) (hB0 : B ≤ w.heap.size) (hr : RdC w B (.s 29 4 l.length (FNode.flat l)) u) :
    Calls Try.prog 43 #[u, .int .i64 a, .int .i64 b] w fun e w' => e = .returned (.bool (twF a b l)) ∧ Below w.heap.size w w' := by
  obtain ⟨A, c, rfl⟩ := hr.form
  have HC := Lib.hid hr
  have HW := Lib.hid hW
  have hn : l.length ≤ 9223372036854775807 := by omega
  clear hr hW
  have hmm := @run_makeMap Try.prog
  go_enter Try.func43, Try.ntmps43
  go_wp2_with fail
  clear hmm
  go_loopw [13] (fun i wr => ∃ (k n0 : Nat) (S0 : List (List UInt8)), k ≤ l.length ∧ n0 ≤ k ∧ i = .int .i64 k ∧ Hid (∀ j, j < k → dupAt a b l j = false) ∧ Hid (Nms a b l k S0) ∧ Hid (Seen Try.prog 9 4 wr w.heap.size n0 S0) ∧ Below w.heap.size w wr) (fun i _ => l.length - (intOf i).toNat)
  case atStart => exact ⟨0, 0, [], Nat.zero_le _, Nat.le_refl _, rfl, Lib.hid (fun j hj => absurd hj (Nat.not_lt_zero _)), Lib.hid (Nms.zero _ _ _), Lib.hid (Seen.made w), (Below.refl _ _).alloc (Nat.le_refl _) _⟩
  case round =>
    obtain ⟨k, n0, S0, hk, hnk, rfl, HA, HN, SE, hb⟩ := hrel
    have hbs := hb.size
    by_cases hlt : k < l.length
    · skip
      obtain ⟨x, hx⟩ : ∃ x, l[k]? = some x := ⟨_, List.getElem?_eq_getElem hlt⟩
      obtain ⟨bc, offc, rfl, hblc, hcc⟩ := RdC.at_ FNode.len HC.out hx
      have HX := Lib.hid hx
      have HM := Lib.hid (List.mem_of_getElem? hx)
      clear hx
      obtain ⟨y0, y1, y2, y3⟩ := x
      rw [FNode.c_eq] at hcc
      obtain ⟨u0, e0, q0⟩ := hcc 0 _ rfl
      obtain rfl := q0.val
      have c_0 : wr.cell? ⟨bc, offc + k * 4, none⟩ = some (.int .i64 y0) := (hb.cell (p := ⟨bc, _, none⟩) (by show bc < w.heap.size; omega)).trans (by simpa using e0)
      obtain ⟨u1, e1, q1⟩ := hcc 1 _ rfl
      obtain rfl := q1.val
      have c_1 : wr.cell? ⟨bc, offc + k * 4 + 1, none⟩ = some (.int .i64 y1) := (hb.cell (p := ⟨bc, _, none⟩) (by show bc < w.heap.size; omega)).trans (by simpa using e1)
      obtain ⟨u2, e2, q2⟩ := hcc 2 _ rfl
      obtain rfl := q2.val
      have c_2 : wr.cell? ⟨bc, offc + k * 4 + 2, none⟩ = some (.string y2) := (hb.cell (p := ⟨bc, _, none⟩) (by show bc < w.heap.size; omega)).trans (by simpa using e2)
      obtain ⟨u3, e3, q3⟩ := hcc 3 _ rfl
      obtain ⟨D, d, rfl⟩ := q3.form
      have c_3 : wr.cell? ⟨bc, offc + k * 4 + 3, none⟩ = some (.slice D y3.length d) := (hb.cell (p := ⟨bc, _, none⟩) (by show bc < w.heap.size; omega)).trans (by simpa using e3)
      have Q3 := Lib.hid q3
      clear hcc e0 e1 e2 e3 q0 q1 q2 q3
      have hsm : y2.size ≤ maxLen := by have := HW.out _ HM.out; simp only [FNode.tx] at this; unfold maxLen; omega
      have hnm : n0 < maxLen := by unfold maxLen; omega
      have hb2 := Lib.hid (hb.alloc hbs (.cells #[.int .i64 y0, .int .i64 y1, .string y2, .slice D y3.length d] 29))
      have HD := Lib.hid (show dupAt a b l k = (mtK a b ⟨y0, y1, y2, y3⟩ && (l.take k).any (fun y => mtK a b y && y.tx.toList == y2.toList)) from dup_at HX.out)
      cases hya : (y0 == a) with
      | true =>
        have hmt : mtK a b ⟨y0, y1, y2, y3⟩ = true := by
          show (y0 == a || y0 == b) = true
          rw [hya]; rfl
        have HMT := Lib.hid hmt
        rw [hmt, Bool.true_and, ← HN.out] at HD
        clear hmt
        cases hs : hasS S0 y2.toList with
        | true =>
          have HAS := Lib.hid hs
          rw [hs] at HD
          go_wp2_with ((at_lookup; refine wpList_look_seen _ rfl _ _ 51 rfl 9 4 Try.underlying9 Try.underlying4 zeroBB Try.underlying51 w.heap.size n0 S0 rfl (SE.out.alloc _) y2 hsm rfl ?_; rw [HAS.out]))
          go_ret
          exact ⟨ret_bool (tw_t HX.out HD.out).symm, hb2.out⟩
        | false =>
          have HAS := Lib.hid hs
          rw [hs] at HD
          go_wp2_with (first | (at_lookup; refine wpList_look_seen _ rfl _ _ 51 rfl 9 4 Try.underlying9 Try.underlying4 zeroBB Try.underlying51 w.heap.size n0 S0 rfl (SE.out.alloc _) y2 hsm rfl ?_; rw [HAS.out]) | (at_mapUpdate; refine wpList_put_seen _ rfl _ _ _ 51 rfl 9 4 Try.underlying9 Try.underlying4 Try.underlying51 w.heap.size n0 S0 rfl (SE.out.alloc _) hnm y2 hsm rfl rfl ?_; rintro w9 se9 hg9))
          go_roundw
          case rel => exact ⟨k + 1, n0 + 1, _, by omega, by omega, by go_num, Lib.hid (fun j hj => by rcases Nat.lt_succ_iff_lt_or_eq.mp hj with h | h; exact HA.out j h; rw [h]; exact HD.out), Lib.hid (HN.out.put HX.out HMT.out), Lib.hid se9, below_grown hb2.out hg9 (Nat.le_refl _) hb2.out.size⟩
          case measure => simp [intOf]; omega
      | false =>
        cases hyb : (y0 == b) with
        | true =>
          have hmt : mtK a b ⟨y0, y1, y2, y3⟩ = true := by
            show (y0 == a || y0 == b) = true
            rw [hya, hyb]; rfl
          have HMT := Lib.hid hmt
          rw [hmt, Bool.true_and, ← HN.out] at HD
          clear hmt
          cases hs : hasS S0 y2.toList with
          | true =>
            have HAS := Lib.hid hs
            rw [hs] at HD
            go_wp2_with ((at_lookup; refine wpList_look_seen _ rfl _ _ 51 rfl 9 4 Try.underlying9 Try.underlying4 zeroBB Try.underlying51 w.heap.size n0 S0 rfl (SE.out.alloc _) y2 hsm rfl ?_; rw [HAS.out]))
            go_ret
            exact ⟨ret_bool (tw_t HX.out HD.out).symm, hb2.out⟩
          | false =>
            have HAS := Lib.hid hs
            rw [hs] at HD
            go_wp2_with (first | (at_lookup; refine wpList_look_seen _ rfl _ _ 51 rfl 9 4 Try.underlying9 Try.underlying4 zeroBB Try.underlying51 w.heap.size n0 S0 rfl (SE.out.alloc _) y2 hsm rfl ?_; rw [HAS.out]) | (at_mapUpdate; refine wpList_put_seen _ rfl _ _ _ 51 rfl 9 4 Try.underlying9 Try.underlying4 Try.underlying51 w.heap.size n0 S0 rfl (SE.out.alloc _) hnm y2 hsm rfl rfl ?_; rintro w9 se9 hg9))
            go_roundw
            case rel => exact ⟨k + 1, n0 + 1, _, by omega, by omega, by go_num, Lib.hid (fun j hj => by rcases Nat.lt_succ_iff_lt_or_eq.mp hj with h | h; exact HA.out j h; rw [h]; exact HD.out), Lib.hid (HN.out.put HX.out HMT.out), Lib.hid se9, below_grown hb2.out hg9 (Nat.le_refl _) hb2.out.size⟩
            case measure => simp [intOf]; omega
        | false =>
          have hmt : mtK a b ⟨y0, y1, y2, y3⟩ = false := by
            show (y0 == a || y0 == b) = false
            rw [hya, hyb]; rfl
          have HMT := Lib.hid hmt
          rw [hmt, Bool.false_and] at HD
          clear hmt
          go_wp2_with fail
          go_roundw
          case rel => exact ⟨k + 1, n0, S0, by omega, by omega, by go_num, Lib.hid (fun j hj => by rcases Nat.lt_succ_iff_lt_or_eq.mp hj with h | h; exact HA.out j h; rw [h]; exact HD.out), Lib.hid (HN.out.skip HX.out HMT.out), Lib.hid (SE.out.alloc _), hb2.out⟩
          case measure => simp [intOf]; omega
    · obtain rfl : k = l.length := by omega
      clear hlt
      have HF := Lib.hid (tw_f HA.out)
      go_wp2_with fail
      go_ret
      exact ⟨ret_bool HF.out.symm, hb⟩
end Go.Proofs.Ytgejkfcemlkclaa
namespace Go.Proofs.Ytgejkfcemlkclaa
open Go.ChangeShapes Go.WideShapes Go.ChangeAt Go.RowKit Go.Deep Go.Joins
open Go.ChangeMaps (open_string shut_string)
set_option linter.unusedVariables false
set_option linter.unusedSimpArgs false
set_option maxRecDepth 100000
set_option maxHeartbeats 1000000 in
theorem same_this (x : FNode) (hw : x.wt ≤ 9000000000) (us : List Value) (w : World) (B : Nat) (hB0 : B ≤ w.heap.size) (hr : RdVs w B x.c us) :
    Calls Try.prog 72 #[.agg us.toArray, .agg #[.int .i64 4, .int .i64 0, .string ⟨#[116, 104, 105, 115]⟩, .slice none 0 0]] w fun e w' => e = .returned (.bool (smT x)) ∧ Below w.heap.size w w' := by
  obtain ⟨z0, z1, z2, z3⟩ := x
  rw [FNode.c_eq] at hr
  obtain ⟨us0, rfl, hr_0⟩ := hr.unv
  obtain ⟨us1, rfl, hr_1⟩ := hr_0.unv
  obtain ⟨us2, rfl, hr_2⟩ := hr_1.unv
  obtain ⟨A3, c3, us3, rfl, r3, hr_3⟩ := hr_2.uns
  obtain rfl := hr_3.un0
  rw [FNode.wt_eq] at hw
  have hl : z3.length ≤ 9000000000 := by omega
  have HB2 := Lib.hid (((Below.refl w.heap.size w).alloc (Nat.le_refl _) (.cells #[.int .i64 z0, .int .i64 z1, .string z2, .slice A3 z3.length c3] 29)).alloc (by simp) (.cells #[.int .i64 4, .int .i64 0, .string ⟨#[116, 104, 105, 115]⟩, .slice none 0 0] 29))
  have HE := Lib.hid (show smT ⟨z0, z1, z2, z3⟩ = (z0 == 4 && (z1 == 0 && ((z2.toList == [116, 104, 105, 115]) && z3.length == 0))) from rfl)
  obtain ⟨m, hm⟩ : ∃ m, z3.length = m := ⟨_, rfl⟩
  rw [hm] at HB2 HE hl ⊢
  clear hr r3 hr_0 hr_1 hr_2 hr_3 hw hm
  by_cases h0 : z0 = 4
  · subst h0
    by_cases h1 : z1 = 0
    · subst h1
      cases ht : (z2.toList == [116, 104, 105, 115]) with
      | true =>
        by_cases h3 : m = 0
        · subst h3
          have HF := Lib.hid (HE.out.trans (show _ = true from by rw [ht]; rfl))
          go_enter Try.func72, Try.ntmps72
          go_wp2_with fail
          go_loopw [5] (fun i wr => i = .int .i64 0 ∧ wr = (w.alloc (.cells #[.int .i64 4, .int .i64 0, .string z2, .slice A3 0 c3] 29)).alloc (.cells #[.int .i64 4, .int .i64 0, .string ⟨#[116, 104, 105, 115]⟩, .slice none 0 0] 29)) (fun i _ => 0)
          case atStart => exact ⟨rfl, rfl⟩
          case round =>
            obtain ⟨rfl, rfl⟩ := hrel
            go_wp2_with fail
            go_ret
            exact ⟨ret_bool HF.out.symm, HB2.out⟩
        · have HF := Lib.hid (HE.out.trans (show _ = false from by rw [show (m == 0) = false from beq_false_of_ne h3, Bool.and_false, Bool.and_false, Bool.and_false]))
          go_enter Try.func72, Try.ntmps72
          go_wp2_with fail
          all_goals (go_ret; exact ⟨ret_bool HF.out.symm, HB2.out⟩)
      | false =>
        have HF := Lib.hid (HE.out.trans (show _ = false from by rw [ht, Bool.false_and, Bool.and_false, Bool.and_false]))
        go_enter Try.func72, Try.ntmps72
        go_wp2_with fail
        all_goals (go_ret; exact ⟨ret_bool HF.out.symm, HB2.out⟩)
    · have HF := Lib.hid (HE.out.trans (show _ = false from by rw [beq_false_of_ne h1, Bool.false_and, Bool.and_false]))
      go_enter Try.func72, Try.ntmps72
      go_wp2_with fail
      all_goals (go_ret; exact ⟨ret_bool HF.out.symm, HB2.out⟩)
  · have HF := Lib.hid (HE.out.trans (show _ = false from by rw [beq_false_of_ne h0, Bool.false_and]))
    go_enter Try.func72, Try.ntmps72
    go_wp2_with fail
    all_goals (go_ret; exact ⟨ret_bool HF.out.symm, HB2.out⟩)
set_option maxHeartbeats 1000000 in
theorem root_spec (x : FNode) (hw : x.wt ≤ 9000000000) (us : List Value) (w : World) (B : Nat) (hB0 : B ≤ w.heap.size) (hr : RdVs w B x.c us) :
    Calls Try.prog 73 #[.agg us.toArray] w fun e w' => ∃ vs : List Value, e = .returned (.agg vs.toArray) ∧ RdVs w' B (rootF x).c vs ∧ (rootF x).wt ≤ 9000000000 ∧ Below w.heap.size w w' := by
  obtain ⟨z0, z1, z2, z3⟩ := x
  rw [FNode.c_eq] at hr
  obtain ⟨us0, rfl, hr_0⟩ := hr.unv
  obtain ⟨us1, rfl, hr_1⟩ := hr_0.unv
  obtain ⟨us2, rfl, hr_2⟩ := hr_1.unv
  obtain ⟨A3, c3, us3, rfl, r3, hr_3⟩ := hr_2.uns
  obtain rfl := hr_3.un0
  have HR := Lib.hid r3
  have HW := Lib.hid hw
  clear hr r3 hr_0 hr_1 hr_2 hr_3 hw
  go_enter Try.func73, Try.ntmps73
  go_wp2_with fail
  go_loopg [] (szN ⟨z0, z1, z2, z3⟩) (fun k wr => ∃ (y0 y1 : Int) (y2 : ByteArray) (y3 : List FNode) (D : Option Addr) (d m : Nat), wr = (w.alloc (.cells #[.int .i64 y0, .int .i64 y1, .string y2, .slice D m d] 29)).alloc (.cells #[.int .i64 0, .int .i64 0, .string ⟨#[]⟩, .slice none 0 0] 29) ∧ Hid (rootF ⟨y0, y1, y2, y3⟩ = rootF ⟨z0, z1, z2, z3⟩) ∧ Hid (RdC w B (.s 29 4 m (FNode.flat y3)) (.slice D m d)) ∧ Hid (y3.length = m) ∧ Hid (FNode.wt ⟨y0, y1, y2, y3⟩ ≤ 9000000000) ∧ Hid (szN ⟨y0, y1, y2, y3⟩ ≤ k))
  case atStart => exact ⟨_, _, _, _, _, _, _, rfl, Lib.hid rfl, HR, Lib.hid rfl, HW, Lib.hid (Nat.le_refl _)⟩
  case round =>
    obtain ⟨y0, y1, y2, y3, D, d, m, rfl, HT, HQ, HM, HV, HS⟩ := hrel
    have hy : m ≤ 9223372036854775807 := by have := HV.out; rw [FNode.wt_eq] at this; have := HM.out; omega
    have HBX := Lib.hid (((Below.refl w.heap.size w).alloc (Nat.le_refl _) (.cells #[.int .i64 y0, .int .i64 y1, .string y2, .slice D m d] 29)).alloc (by simp) (.cells #[.int .i64 0, .int .i64 0, .string ⟨#[]⟩, .slice none 0 0] 29))
    have HEND : Hid (rootF ⟨y0, y1, y2, y3⟩ = ⟨y0, y1, y2, y3⟩ → (rootF ⟨z0, z1, z2, z3⟩).wt ≤ 9000000000) := Lib.hid (fun h => by rw [← HT.out, h]; exact HV.out)
    by_cases e7 : y0 = 7
    · subst e7
      match y3, HEND with
      | [], HEND =>
        obtain rfl : m = 0 := HM.out.symm
        have HRT := Lib.hid (rootF_7n y1 y2)
        have HFB := Lib.hid (((Below.refl w.heap.size w).alloc (Nat.le_refl _) (.cells #[.int .i64 7, .int .i64 y1, .string y2, .slice D 0 d] 29)).alloc (by simp) (.cells #[.int .i64 7, .int .i64 y1, .string y2, .slice D 0 d] 29))
        go_wp2_with fail
        have bk := Blk.new' (w.alloc (.cells #[.int .i64 7, .int .i64 y1, .string y2, .slice D 0 d] 29)) 29 #[.int .i64 7, .int .i64 y1, .string y2, .slice D 0 d] (w.heap.size + 1) (by simp)
        have bk0 := bk.cell 0
        have bk1 := bk.cell 1
        have bk2 := bk.cell 2
        have bk3 := bk.cell 3
        have bkl := bk.lt
        refine bodyPost_ret (v := .agg #[.int .i64 7, .int .i64 y1, .string y2, .slice D 0 d]) (by simp [results, Try.results73, go_sem, bk0, bk1, bk2, bk3, bkl]) rfl ⟨[.int .i64 7, .int .i64 y1, .string y2, .slice D 0 d], rfl, ?_, HEND.out HRT.out, HFB.out⟩
        rw [← HT.out, HRT.out, FNode.c_eq]
        exact RdVs.cons (by unfold RdC; rfl) (RdVs.cons (by unfold RdC; rfl) (RdVs.cons (by unfold RdC; rfl) (RdVs.cons (HQ.out.below HFB.out hB0) (RdVs.nil _ _))))
      | ⟨a0, a1, a2, a3⟩ :: r, HEND =>
        have hpos : 0 < m := by have := HM.out; simp only [List.length_cons] at this; omega
        have HQ2 : Hid (RdC w B (.s 29 4 (FNode.mk a0 a1 a2 a3 :: r).length (FNode.flat (FNode.mk a0 a1 a2 a3 :: r))) (.slice D (FNode.mk a0 a1 a2 a3 :: r).length d)) := by rw [HM.out]; exact HQ
        obtain ⟨bca, offca, Ea, hblca, hcc⟩ := RdC.at_ (l := (FNode.mk a0 a1 a2 a3 :: r)) FNode.len HQ2.out (i := 0) (x := FNode.mk a0 a1 a2 a3) rfl
        rw [FNode.c_eq] at hcc
        obtain ⟨u0, e0, q0⟩ := hcc 0 _ rfl
        obtain rfl := q0.val
        have ca_0 : w.cell? ⟨bca, offca, none⟩ = some (.int .i64 a0) := ((Below.refl w.heap.size w).cell (p := ⟨bca, _, none⟩) (by show bca < w.heap.size; omega)).trans (by simpa using e0)
        obtain ⟨u1, e1, q1⟩ := hcc 1 _ rfl
        obtain rfl := q1.val
        have ca_1 : w.cell? ⟨bca, offca + 1, none⟩ = some (.int .i64 a1) := ((Below.refl w.heap.size w).cell (p := ⟨bca, _, none⟩) (by show bca < w.heap.size; omega)).trans (by simpa using e1)
        obtain ⟨u2, e2, q2⟩ := hcc 2 _ rfl
        obtain rfl := q2.val
        have ca_2 : w.cell? ⟨bca, offca + 2, none⟩ = some (.string a2) := ((Below.refl w.heap.size w).cell (p := ⟨bca, _, none⟩) (by show bca < w.heap.size; omega)).trans (by simpa using e2)
        obtain ⟨u3, e3, q3⟩ := hcc 3 _ rfl
        obtain ⟨Da, da, rfl⟩ := q3.form
        have ca_3 : w.cell? ⟨bca, offca + 3, none⟩ = some (.slice Da a3.length da) := ((Below.refl w.heap.size w).cell (p := ⟨bca, _, none⟩) (by show bca < w.heap.size; omega)).trans (by simpa using e3)
        have Qa := Lib.hid q3
        clear hcc e0 e1 e2 e3 q0 q1 q2 q3
        have hbl : bca < w.heap.size := Nat.lt_of_lt_of_le hblca hB0
        subst Ea
        have k_a0 := (HBX.out.cell (p := ⟨bca, offca, none⟩) hbl).trans ca_0
        have k_a1 := (HBX.out.cell (p := ⟨bca, offca + 1, none⟩) hbl).trans ca_1
        have k_a2 := (HBX.out.cell (p := ⟨bca, offca + 2, none⟩) hbl).trans ca_2
        have k_a3 := (HBX.out.cell (p := ⟨bca, offca + 3, none⟩) hbl).trans ca_3
        go_wp2_with fail
        go_roundg (szN ⟨a0, a1, a2, a3⟩)
        case rel => exact ⟨_, _, _, _, _, _, _, rfl, Lib.hid (by rw [← HT.out, rootF_7]), Qa, Lib.hid rfl, Lib.hid (by have h1 := HV.out; rw [FNode.wt_eq] at h1; have h2 := FNode.wts_at (FNode.mk a0 a1 a2 a3 :: r) _ (List.mem_cons_self ..); omega), Lib.hid (Nat.le_refl _)⟩
        case measure => exact Nat.lt_of_lt_of_le (szN_7 _ _ _ _ _) HS.out
    · have HRT := Lib.hid (rootF_o e7 y1 y2 y3)
      have HFB := Lib.hid (((Below.refl w.heap.size w).alloc (Nat.le_refl _) (.cells #[.int .i64 y0, .int .i64 y1, .string y2, .slice D m d] 29)).alloc (by simp) (.cells #[.int .i64 y0, .int .i64 y1, .string y2, .slice D m d] 29))
      go_wp2_with fail
      have bk := Blk.new' (w.alloc (.cells #[.int .i64 y0, .int .i64 y1, .string y2, .slice D m d] 29)) 29 #[.int .i64 y0, .int .i64 y1, .string y2, .slice D m d] (w.heap.size + 1) (by simp)
      have bk0 := bk.cell 0
      have bk1 := bk.cell 1
      have bk2 := bk.cell 2
      have bk3 := bk.cell 3
      have bkl := bk.lt
      refine bodyPost_ret (v := .agg #[.int .i64 y0, .int .i64 y1, .string y2, .slice D m d]) (by simp [results, Try.results73, go_sem, bk0, bk1, bk2, bk3, bkl]) rfl ⟨[.int .i64 y0, .int .i64 y1, .string y2, .slice D m d], rfl, ?_, HEND.out HRT.out, HFB.out⟩
      rw [← HT.out, HRT.out, FNode.c_eq, HM.out]
      exact RdVs.cons (by unfold RdC; rfl) (RdVs.cons (by unfold RdC; rfl) (RdVs.cons (by unfold RdC; rfl) (RdVs.cons (HQ.out.below HFB.out hB0) (RdVs.nil _ _))))
theorem l1q (x a b : Int) (v : Bool) (h : inB x a b = v) (W : World) (n : Nat) : Calls Try.prog 64 #[.int .i64 x, .int .i64 a, .int .i64 b] (W.drewN n) fun e w' => e = .returned (.bool v) ∧ ∃ m, w' = W.drewN m :=
  Calls.quiet_of_same ((l1In_any x a b _).mono (by rintro e w' ⟨rfl, rfl⟩; rw [h]; exact ⟨rfl, rfl⟩))
theorem any_take_end {l : List FNode} {p : FNode → Bool} {q : Nat} {y : FNode} (hy : l[q]? = some y) : (l.take (q + 1)).any p = ((l.take q).any p || p y) := by
  rw [List.take_add_one, hy, List.any_append]
  simp
theorem any_take_mono {l : List FNode} {p : FNode → Bool} {q k : Nat} {y : FNode} (hy : l[q]? = some y) (hqk : q < k) (h : p y = true) : (l.take k).any p = true :=
  List.any_eq_true.mpr ⟨y, by rw [List.mem_take_iff_getElem]; exact ⟨q, by have := (List.getElem?_eq_some_iff.1 hy).1; omega, (List.getElem?_eq_some_iff.1 hy).2⟩, h⟩
set_option maxHeartbeats 4000000 in
theorem twice_spec (a b : Int) (hab : ∀ k, inB k a b = (k == a || k == b)) (l : List FNode) (hl : l.length ≤ 1000000000) (u : Value) (w : World) (B : Nat) (hB0 : B ≤ w.heap.size) (hr : RdC w B (.s 29 4 l.length (FNode.flat l)) u) :
    Calls Try.prog 41 #[u, .int .i64 a, .int .i64 b] w fun e w' => e = .returned (.bool (twF a b l)) ∧ Below w.heap.size w w' := by
  obtain ⟨A, c, rfl⟩ := hr.form
  have HC := Lib.hid hr
  have HAB := Lib.hid hab
  have hn : l.length ≤ 9223372036854775807 := by omega
  clear hr hab
  go_enter Try.func41, Try.ntmps41
  go_wp2_with fail
  go_loopw [7] (fun i wr => ∃ k : Nat, k ≤ l.length ∧ i = .int .i64 k ∧ Hid (∀ j, j < k → dupAt a b l j = false) ∧ Below w.heap.size w wr) (fun i _ => l.length - (intOf i).toNat)
  case atStart => exact ⟨0, Nat.zero_le _, rfl, Lib.hid (fun j hj => absurd hj (Nat.not_lt_zero _)), Below.refl _ _⟩
  case round =>
    obtain ⟨k, hk, rfl, HA, hb⟩ := hrel
    have hbs := hb.size
    by_cases hlt : k < l.length
    · skip
      obtain ⟨x, hx⟩ : ∃ x, l[k]? = some x := ⟨_, List.getElem?_eq_getElem hlt⟩
      obtain ⟨bc, offc, rfl, hblc, hcc⟩ := RdC.at_ FNode.len HC.out hx
      have HXK := Lib.hid hx
      have HMK := Lib.hid (List.mem_of_getElem? hx)
      clear hx
      obtain ⟨y0, y1, y2, y3⟩ := x
      rw [FNode.c_eq] at hcc
      obtain ⟨u0, e0, q0⟩ := hcc 0 _ rfl
      obtain rfl := q0.val
      have cw_0 : w.cell? ⟨bc, offc + k * 4, none⟩ = some (.int .i64 y0) := ((Below.refl w.heap.size w).cell (p := ⟨bc, _, none⟩) (by show bc < w.heap.size; omega)).trans (by simpa using e0)
      obtain ⟨u1, e1, q1⟩ := hcc 1 _ rfl
      obtain rfl := q1.val
      have cw_1 : w.cell? ⟨bc, offc + k * 4 + 1, none⟩ = some (.int .i64 y1) := ((Below.refl w.heap.size w).cell (p := ⟨bc, _, none⟩) (by show bc < w.heap.size; omega)).trans (by simpa using e1)
      obtain ⟨u2, e2, q2⟩ := hcc 2 _ rfl
      obtain rfl := q2.val
      have cw_2 : w.cell? ⟨bc, offc + k * 4 + 2, none⟩ = some (.string y2) := ((Below.refl w.heap.size w).cell (p := ⟨bc, _, none⟩) (by show bc < w.heap.size; omega)).trans (by simpa using e2)
      obtain ⟨u3, e3, q3⟩ := hcc 3 _ rfl
      obtain ⟨D, d, rfl⟩ := q3.form
      have cw_3 : w.cell? ⟨bc, offc + k * 4 + 3, none⟩ = some (.slice D y3.length d) := ((Below.refl w.heap.size w).cell (p := ⟨bc, _, none⟩) (by show bc < w.heap.size; omega)).trans (by simpa using e3)
      have Q3 := Lib.hid q3
      clear hcc e0 e1 e2 e3 q0 q1 q2 q3
      have hblw : bc < w.heap.size := Nat.lt_of_lt_of_le hblc hB0
      have HD := Lib.hid (dup_at (a := a) (b := b) HXK.out)
      go_wp2_with fail
      go_loopw [8] (fun i wr => ∃ q : Nat, q ≤ k ∧ i = .int .i64 q ∧ Hid ((mtK a b ⟨y0, y1, y2, y3⟩ && (l.take q).any (sameTx a b ⟨y0, y1, y2, y3⟩)) = false) ∧ Below w.heap.size w wr) (fun i _ => k - (intOf i).toNat)
      case atStart => exact ⟨0, Nat.zero_le _, rfl, Lib.hid (by simp), hb⟩
      case round =>
        obtain ⟨q, hq, rfl, HQA, hb⟩ := hrel
        have hbs := hb.size
        by_cases hqk : q < k
        · have hltq : q < l.length := by omega
          have HCC : Hid (RdC w B (.s 29 4 l.length (FNode.flat l)) (.slice (some ⟨bc, offc, none⟩) l.length c)) := HC
          obtain ⟨x, hx⟩ : ∃ x, l[q]? = some x := ⟨_, List.getElem?_eq_getElem hltq⟩
          obtain ⟨bc2, offc2, EE, hblc2, hcc⟩ := RdC.at_ FNode.len HCC.out hx
          obtain ⟨rfl, rfl⟩ : bc = bc2 ∧ offc = offc2 := by simpa using EE
          have HX := Lib.hid hx
          have HM := Lib.hid (List.mem_of_getElem? hx)
          clear hx
          obtain ⟨v0, v1, v2, v3⟩ := x
          rw [FNode.c_eq] at hcc
          obtain ⟨u0, e0, q0⟩ := hcc 0 _ rfl
          obtain rfl := q0.val
          have c_0 : wr.cell? ⟨bc, offc + q * 4, none⟩ = some (.int .i64 v0) := (hb.cell (p := ⟨bc, _, none⟩) hblw).trans (by simpa using e0)
          obtain ⟨u1, e1, q1⟩ := hcc 1 _ rfl
          obtain rfl := q1.val
          have c_1 : wr.cell? ⟨bc, offc + q * 4 + 1, none⟩ = some (.int .i64 v1) := (hb.cell (p := ⟨bc, _, none⟩) hblw).trans (by simpa using e1)
          obtain ⟨u2, e2, q2⟩ := hcc 2 _ rfl
          obtain rfl := q2.val
          have c_2 : wr.cell? ⟨bc, offc + q * 4 + 2, none⟩ = some (.string v2) := (hb.cell (p := ⟨bc, _, none⟩) hblw).trans (by simpa using e2)
          obtain ⟨u3, e3, q3⟩ := hcc 3 _ rfl
          obtain ⟨D2, d2, rfl⟩ := q3.form
          have c_3 : wr.cell? ⟨bc, offc + q * 4 + 3, none⟩ = some (.slice D2 v3.length d2) := (hb.cell (p := ⟨bc, _, none⟩) hblw).trans (by simpa using e3)
          have Q3 := Lib.hid q3
          clear hcc e0 e1 e2 e3 q0 q1 q2 q3
          have k_0 := (hb.cell (p := ⟨bc, offc + k * 4, none⟩) hblw).trans cw_0
          have k_2 := (hb.cell (p := ⟨bc, offc + k * 4 + 2, none⟩) hblw).trans cw_2
          have HMX0 := Lib.hid (show inB y0 a b = mtK a b ⟨y0, y1, y2, y3⟩ from HAB.out y0)
          have HMY0 := Lib.hid (show inB v0 a b = mtK a b ⟨v0, v1, v2, v3⟩ from HAB.out v0)
          have HST := Lib.hid (show sameTx a b ⟨y0, y1, y2, y3⟩ ⟨v0, v1, v2, v3⟩ = (mtK a b ⟨v0, v1, v2, v3⟩ && (v2.toList == y2.toList)) from rfl)
          have HNX := Lib.hid (any_take_end (p := sameTx a b ⟨y0, y1, y2, y3⟩) HX.out)
          cases hmx : mtK a b ⟨y0, y1, y2, y3⟩ with
          | false =>
            have HMX := Lib.hid (HMX0.out.trans hmx)
            go_wp2_with fail
            go_quiet ((go_at_call 64; exact l1q _ _ _ _ (by first | exact HMX.out) _ _))
            go_wp2_with fail
            go_roundw
            case rel => exact ⟨q + 1, by omega, by go_num, Lib.hid (by first | rfl | (rw [hmx, Bool.false_and])), below_drewN hb _⟩
            case measure => simp [intOf]; omega
          | true =>
            have HMX := Lib.hid (HMX0.out.trans hmx)
            cases hmy : mtK a b ⟨v0, v1, v2, v3⟩ with
            | false =>
              have HMY := Lib.hid (HMY0.out.trans hmy)
              have HNQ := Lib.hid (show (true && (l.take (q + 1)).any (sameTx a b ⟨y0, y1, y2, y3⟩)) = false from by rw [HNX.out, HST.out, hmy, Bool.false_and, Bool.or_false]; first | exact HQA.out | (have hh := HQA.out; rw [hmx] at hh; exact hh))
              go_wp2_with fail
              go_quiet ((go_at_call 64; exact l1q _ _ _ _ (by first | exact HMX.out | exact HMY.out) _ _))
              go_wp2_with fail
              go_roundw
              case rel => exact ⟨q + 1, by omega, by go_num, HNQ, below_drewN hb _⟩
              case measure => simp [intOf]; omega
            | true =>
              have HMY := Lib.hid (HMY0.out.trans hmy)
              cases hte : (y2.toList == v2.toList) with
              | true =>
                have HDT := Lib.hid (show dupAt a b l k = true from by
                  rw [HD.out, hmx, Bool.true_and]
                  refine any_take_mono HX.out hqk ?_
                  rw [HST.out, hmy, Bool.true_and, beq_iff_eq]
                  exact (beq_iff_eq.mp hte).symm)
                go_wp2_with fail
                go_quiet ((go_at_call 64; exact l1q _ _ _ _ (by first | exact HMX.out | exact HMY.out) _ _))
                go_wp2_with fail
                go_ret
                exact ⟨ret_bool (tw_t HXK.out HDT.out).symm, below_drewN hb _⟩
              | false =>
                have HNQ := Lib.hid (show (true && (l.take (q + 1)).any (sameTx a b ⟨y0, y1, y2, y3⟩)) = false from by
                  rw [HNX.out, HST.out, show (v2.toList == y2.toList) = false from by rw [beq_eq_false_iff_ne] at hte ⊢; exact fun e => hte e.symm, Bool.and_false, Bool.or_false]
                  first | exact HQA.out | (have hh := HQA.out; rw [hmx] at hh; exact hh))
                go_wp2_with fail
                go_quiet ((go_at_call 64; exact l1q _ _ _ _ (by first | exact HMX.out | exact HMY.out) _ _))
                go_wp2_with fail
                go_roundw
                case rel => exact ⟨q + 1, by omega, by go_num, HNQ, below_drewN hb _⟩
                case measure => simp [intOf]; omega
        · obtain rfl : q = k := by omega
          clear hqk
          have HDF := Lib.hid (HD.out.trans HQA.out)
          go_wp2_with fail
          go_roundw
          case rel => exact ⟨q + 1, by omega, by go_num, Lib.hid (fun j hj => by rcases Nat.lt_succ_iff_lt_or_eq.mp hj with h | h; exact HA.out j h; rw [h]; exact HDF.out), hb⟩
          case measure => simp [intOf]; omega
    · obtain rfl : k = l.length := by omega
      clear hlt
      have HF := Lib.hid (tw_f HA.out)
      go_wp2_with fail
      go_ret
      exact ⟨ret_bool HF.out.symm, hb⟩
end Go.Proofs.Ytgejkfcemlkclaa
namespace Go.Proofs.Ytgejkfcemlkclaa
set_option linter.unusedVariables false
section
variable {P : Program} {ops : Array Oper} {Q : Exit → Act → World → Prop} {md : Region.Mode} {S : World → Prop} {i fuel : Nat} {d : Tmp} {op : Op} {ty : TypeId} {pos : String} {af : Array Edge} {gd : Option (Nat × Bool)} {v : Value} {listed : Array Bool} {a : Act} {w : World}
theorem regTake (hi : ops[i]? = some ⟨some d, op, ty, pos, af, gd⟩) (hs : Region.noSelect ops = true) (hf : Region.free md ops listed i = true) (hr : (Region.ready md ops listed).contains i = true)
    (hQ : ∀ c a w, Q (.panic c) (a.put (some d) v) w → Q (.panic c) a w) (hw : Region.wanted ⟨some d, op, ty, pos, af, gd⟩ (yielded ops a.tmps) = true)
    (hy : ∀ w, S w → (execOp a.eval ⟨some d, op, ty, pos, af, gd⟩).run P w = .ok (.value v) w) (hS : S w) (h : wpAnyH P md ops Q S fuel (listed.setIfInBounds i true) (a.put (some d) v) w) :
    wpAnyH P md ops Q S (fuel + 1) listed a w := wpAnyH_take hi hs hf hr hQ (Or.inl ⟨hw, hy⟩) hS h
theorem regSkip (hi : ops[i]? = some ⟨some d, op, ty, pos, af, gd⟩) (hs : Region.noSelect ops = true) (hf : Region.free md ops listed i = true) (hr : (Region.ready md ops listed).contains i = true)
    (hQ : ∀ c a w, Q (.panic c) (a.put (some d) undef) w → Q (.panic c) a w) (hw : Region.wanted ⟨some d, op, ty, pos, af, gd⟩ (yielded ops a.tmps) = false)
    (hS : S w) (h : wpAnyH P md ops Q S fuel (listed.setIfInBounds i true) (a.put (some d) undef) w) :
    wpAnyH P md ops Q S (fuel + 1) listed a w := wpAnyH_take hi hs hf hr hQ (Or.inr ⟨hw, rfl⟩) hS h
theorem regCall (hr : Region.ready md ops listed = [i]) (hi : ops[i]? = some ⟨some d, op, ty, pos, af, gd⟩) (hw : Region.wanted ⟨some d, op, ty, pos, af, gd⟩ (yielded ops a.tmps) = true)
    (h : ∀ K' : Act → World → Prop, Shut (∀ a w, S w → (S w → wpAnyH P md ops Q S fuel (listed.setIfInBounds i true) a w) → K' a w) → Oper.wp P ⟨some d, op, ty, pos, af, gd⟩ a w K' Q) :
    wpAnyH P md ops Q S (fuel + 1) listed a w :=
  wpAnyH_ready hr (by simp) (AllReadyH.cons hi (fun K hK => by rw [if_pos hw]; exact h K hK) AllReadyH.nil)
end
end Go.Proofs.Ytgejkfcemlkclaa
