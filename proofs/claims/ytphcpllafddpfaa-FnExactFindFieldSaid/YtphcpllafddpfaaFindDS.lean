/-
  FindField of package spec. Conditions: none.
-/
import Derived.Test.YtphcpllafddpfaaFindD
import Derived.Test.YtphcpllafddpfaaCopyVS
namespace Go.Proofs.Ytphcpllafddpfaa
open Go.ChangeShapes Go.WideShapes Go.ChangeAt Go.RowKit Go.Deep Go.Joins
open Go.ChangeMaps (open_string shut_string)
set_option linter.unusedVariables false
set_option linter.unusedSimpArgs false
set_option maxRecDepth 100000

set_option maxHeartbeats 4000000 in
theorem l19Field_any (l : List FClass) (a s : ByteArray) (u : Value) (w : World) (hl : l.length + FClass.wts l ≤ 1000000000) {B : Nat} (hB0 : B ≤ w.heap.size) (hr0 : RdC w B (.s 53 4 l.length (FClass.flat l)) u) :
    Calls Try.prog 24 #[u, .string a, .string s] w fun e w' => ∃ us, e = .returned (.tuple #[.agg us.toArray, .bool (ffB l a s)]) ∧ RdVs w' w.heap.size (ffQ l a s).c us ∧ Below w.heap.size w w' := by
  have hr := hr0.up hB0
  clear hr0
  obtain ⟨A, c, rfl⟩ := hr.form
  have HC := Lib.hid hr
  have hn : l.length ≤ 9223372036854775807 := by omega
  clear hr
  rcases fidx_lt FClass.nm l a with hi | ⟨k, x, hi, hk, hx⟩
  · have HI := Lib.hid hi
    clear hi
    go_enter Try.func24, Try.ntmps24
    go_wp2_with fail
    refine calls_worldD _ (fun X => Blk X w.heap.size 39 #[.string ⟨#[]⟩, .string ⟨#[]⟩, .bool false, .int .i64 0, .int .i64 0, .string ⟨#[]⟩, .int .i64 0, .slice none 0 0] ∧ Below w.heap.size w X) ⟨Blk.new _ _ _, (Below.refl _ _).alloc (Nat.le_refl _) _⟩ ?_
    rintro X0 ⟨br, hb⟩
    have s0 := br.lt
    refine (FindClass_spec l a _ _ (by omega) (B := w.heap.size) (by omega) (HC.out.below hb (Nat.le_refl _))).mono ?_
    rw [HI.out]
    rintro e w1 ⟨rfl, hb1⟩
    replace br := br.below hb1 (Nat.le_refl _)
    replace hb := hb.trans (hb1.mono (by omega))
    clear hb1
    have br_0 : w1.cell? ⟨w.heap.size, 0, none⟩ = some (.string ⟨#[]⟩) := br.cell 0
    have br_1 : w1.cell? ⟨w.heap.size, 1, none⟩ = some (.string ⟨#[]⟩) := br.cell 1
    have br_2 : w1.cell? ⟨w.heap.size, 2, none⟩ = some (.bool false) := br.cell 2
    have br_3 : w1.cell? ⟨w.heap.size, 3, none⟩ = some (.int .i64 0) := br.cell 3
    have br_4 : w1.cell? ⟨w.heap.size, 4, none⟩ = some (.int .i64 0) := br.cell 4
    have br_5 : w1.cell? ⟨w.heap.size, 5, none⟩ = some (.string ⟨#[]⟩) := br.cell 5
    have br_6 : w1.cell? ⟨w.heap.size, 6, none⟩ = some (.int .i64 0) := br.cell 6
    have br_7 : w1.cell? ⟨w.heap.size, 7, none⟩ = some (.slice none 0 0) := br.cell 7
    have br_l := br.lt
    have br_f := fun i => br.frozen i
    go_wp2_with fail
    go_loopw [9] (fun i wr => i = .int .i64 0 ∧ wr = w1) (fun i _ => 0)
    case atStart => exact ⟨rfl, rfl⟩
    case round =>
      obtain ⟨rfl, rfl⟩ := hrel
      go_wp2_with fail
      obtain ⟨f1, f2⟩ := ff_no1 (s := s) HI.out
      rw [f1, f2]
      refine bodyPost_ret (v := .tuple #[.agg #[.string ⟨#[]⟩, .string ⟨#[]⟩, .bool false, .int .i64 0, .int .i64 0, .string ⟨#[]⟩, .int .i64 0, .slice none 0 0], .bool false]) (by simp [results, Try.results24, go_sem, br_0, br_1, br_2, br_3, br_4, br_5, br_6, br_7, br_l, br_f]) rfl ⟨_, rfl, and_of_below ?_ (fun hbF => rd_field (rd_nilE _ _))⟩
      repeat (refine Below.setCell ?_ (by simp) _)
      exact hb
  · have HI := Lib.hid hi
    have HX := Lib.hid hx
    have hmw := fields_wt hx
    obtain ⟨bc, offc, rfl, hblc, hcc⟩ := RdC.at_ FClass.len HC.out hx
    obtain ⟨z0, z1, z2, z3⟩ := x
    rw [FClass.c_eq] at hcc
    obtain ⟨u2, e2, q2⟩ := hcc 2 _ rfl
    obtain ⟨A2, c2, rfl⟩ := q2.form
    have Q2 := Lib.hid q2
    have HE2 := Lib.hid e2
    have hmz : z2.length + FField.wts z2 ≤ 1000000000 := by have e : FClass.fields ⟨z0, z1, z2, z3⟩ = z2 := rfl; rw [e] at hmw; omega
    have hm1 : z2.length ≤ 1000000000 := by omega
    have hm2 : z2.length ≤ 9223372036854775807 := by omega
    clear hi hx hcc q2 e2 hmw
    go_enter Try.func24, Try.ntmps24
    go_wp2_with fail
    refine calls_worldD _ (fun X => Blk X w.heap.size 39 #[.string ⟨#[]⟩, .string ⟨#[]⟩, .bool false, .int .i64 0, .int .i64 0, .string ⟨#[]⟩, .int .i64 0, .slice none 0 0] ∧ Below w.heap.size w X) ⟨Blk.new _ _ _, (Below.refl _ _).alloc (Nat.le_refl _) _⟩ ?_
    rintro X0 ⟨br, hb⟩
    have s0 := br.lt
    refine (FindClass_spec l a _ _ (by omega) (B := w.heap.size) (by omega) (HC.out.below hb (Nat.le_refl _))).mono ?_
    rw [HI.out]
    rintro e w1 ⟨rfl, hb1⟩
    replace br := br.below hb1 (Nat.le_refl _)
    replace hb := hb.trans (hb1.mono (by omega))
    clear hb1
    have hbs1 := hb.size
    go_wp2_with fail
    obtain ⟨wo, hwo⟩ : ∃ wo : World, wo = w1 := ⟨_, rfl⟩
    rw [← hwo] at br hb hbs1 ⊢
    clear hwo
    go_loopw [9] (fun i wr => ∃ m : Nat, m ≤ z2.length ∧ i = .int .i64 m ∧ (∀ (j : Nat) (y : FField), j < m → z2[j]? = some y → ((FField.nm y).toList == s.toList) = false) ∧ Blk wr w.heap.size 39 #[.string ⟨#[]⟩, .string ⟨#[]⟩, .bool false, .int .i64 0, .int .i64 0, .string ⟨#[]⟩, .int .i64 0, .slice none 0 0] ∧ Below w.heap.size w wr) (fun i _ => z2.length - (intOf i).toNat)
    case atStart => exact ⟨0, Nat.zero_le _, rfl, fun j y hj => absurd hj (by omega), br, hb⟩
    case round =>
      obtain ⟨m, hm, rfl, hno, br2, hb2⟩ := hrel
      have HNO := Lib.hid hno
      clear hno br hb
      have br := br2
      have hb := hb2
      clear br2 hb2
      have k2 : wr.cell? ⟨bc, offc + k * 4 + 2, none⟩ = some (.slice A2 z2.length c2) := (hb.cell (p := ⟨bc, _, none⟩) hblc).trans (by simpa using HE2.out)
      by_cases hmt : m < z2.length
      · obtain ⟨x, hx⟩ : ∃ x, z2[m]? = some x := ⟨_, List.getElem?_eq_getElem hmt⟩
        obtain ⟨bd, offd, rfl, hbld, hcc⟩ := RdC.at_ FField.len Q2.out hx
        have HY := Lib.hid hx
        clear hx
        obtain ⟨y0, y1, y2, ⟨y3, y4, y5, y6, y7⟩⟩ := x
        rw [FField.c_eq] at hcc
        obtain ⟨u0, e0, q0⟩ := hcc 0 _ rfl
        obtain rfl := q0.val
        have ky_0 : wr.cell? ⟨bd, offd + m * 8, none⟩ = some (.string y0) := (hb.cell (p := ⟨bd, _, none⟩) hbld).trans (by simpa using e0)
        obtain ⟨u1, e1, q1⟩ := hcc 1 _ rfl
        obtain rfl := q1.val
        have ky_1 : wr.cell? ⟨bd, offd + m * 8 + 1, none⟩ = some (.string y1) := (hb.cell (p := ⟨bd, _, none⟩) hbld).trans (by simpa using e1)
        obtain ⟨u2, e2, q2⟩ := hcc 2 _ rfl
        obtain rfl := q2.val
        have ky_2 : wr.cell? ⟨bd, offd + m * 8 + 2, none⟩ = some (.bool y2) := (hb.cell (p := ⟨bd, _, none⟩) hbld).trans (by simpa using e2)
        obtain ⟨u3, e3, q3⟩ := hcc 3 _ rfl
        obtain rfl := q3.val
        have ky_3 : wr.cell? ⟨bd, offd + m * 8 + 3, none⟩ = some (.int .i64 y3) := (hb.cell (p := ⟨bd, _, none⟩) hbld).trans (by simpa using e3)
        obtain ⟨u4, e4, q4⟩ := hcc 4 _ rfl
        obtain rfl := q4.val
        have ky_4 : wr.cell? ⟨bd, offd + m * 8 + 4, none⟩ = some (.int .i64 y4) := (hb.cell (p := ⟨bd, _, none⟩) hbld).trans (by simpa using e4)
        obtain ⟨u5, e5, q5⟩ := hcc 5 _ rfl
        obtain rfl := q5.val
        have ky_5 : wr.cell? ⟨bd, offd + m * 8 + 5, none⟩ = some (.string y5) := (hb.cell (p := ⟨bd, _, none⟩) hbld).trans (by simpa using e5)
        obtain ⟨u6, e6, q6⟩ := hcc 6 _ rfl
        obtain rfl := q6.val
        have ky_6 : wr.cell? ⟨bd, offd + m * 8 + 6, none⟩ = some (.int .i64 y6) := (hb.cell (p := ⟨bd, _, none⟩) hbld).trans (by simpa using e6)
        obtain ⟨u7, e7, q7⟩ := hcc 7 _ rfl
        obtain ⟨Ay7, cy7, rfl⟩ := q7.form
        have Qy7 := Lib.hid q7
        have ky_7 : wr.cell? ⟨bd, offd + m * 8 + 7, none⟩ = some (.slice Ay7 y7.length cy7) := (hb.cell (p := ⟨bd, _, none⟩) hbld).trans (by simpa using e7)
        clear hcc e0 q0 e1 q1 e2 q2 e3 q3 e4 q4 e5 q5 e6 q6 e7 q7
        by_cases hq : (y0.toList == s.toList) = true
        · have HQ := Lib.hid hq
          have br_0 : wr.cell? ⟨w.heap.size, 0, none⟩ = some (.string ⟨#[]⟩) := br.cell 0
          have br_1 : wr.cell? ⟨w.heap.size, 1, none⟩ = some (.string ⟨#[]⟩) := br.cell 1
          have br_2 : wr.cell? ⟨w.heap.size, 2, none⟩ = some (.bool false) := br.cell 2
          have br_3 : wr.cell? ⟨w.heap.size, 3, none⟩ = some (.int .i64 0) := br.cell 3
          have br_4 : wr.cell? ⟨w.heap.size, 4, none⟩ = some (.int .i64 0) := br.cell 4
          have br_5 : wr.cell? ⟨w.heap.size, 5, none⟩ = some (.string ⟨#[]⟩) := br.cell 5
          have br_6 : wr.cell? ⟨w.heap.size, 6, none⟩ = some (.int .i64 0) := br.cell 6
          have br_7 : wr.cell? ⟨w.heap.size, 7, none⟩ = some (.slice none 0 0) := br.cell 7
          have br_l := br.lt
          have br_f := fun i => br.frozen i
          go_wp2_with fail
          obtain ⟨f1, f2⟩ := ff_yes (s := s) HI.out HX.out (fidx_hit HY.out HQ.out HNO.out) HY.out
          rw [f1, f2]
          refine bodyPost_ret (v := .tuple #[.agg #[.string y0, .string y1, .bool y2, .int .i64 y3, .int .i64 y4, .string y5, .int .i64 y6, .slice Ay7 y7.length cy7], .bool true]) (by simp [results, Try.results24, go_sem, br_0, br_1, br_2, br_3, br_4, br_5, br_6, br_7, br_l, br_f]) rfl ⟨_, rfl, and_of_below ?_ (fun hbF => rd_field (Qy7.out.below hbF (Nat.le_refl _)))⟩
          repeat (refine Below.setCell ?_ (by simp) _)
          exact hb
        · have hq' : (y0.toList == s.toList) = false := by simpa using hq
          have HQ := Lib.hid hq'
          clear hq
          go_wp2_with fail
          go_roundw
          case rel =>
            refine ⟨m + 1, by omega, by go_num, fun j y hj hjy => ?_, br, hb⟩
            by_cases e : j = m
            · subst e
              rw [HY.out] at hjy
              injection hjy with hjy
              subst hjy
              exact HQ.out
            · exact HNO.out j y (by omega) hjy
          case measure => simp [intOf]; omega
      · obtain rfl : m = z2.length := by omega
        clear hmt
        have br_0 : wr.cell? ⟨w.heap.size, 0, none⟩ = some (.string ⟨#[]⟩) := br.cell 0
        have br_1 : wr.cell? ⟨w.heap.size, 1, none⟩ = some (.string ⟨#[]⟩) := br.cell 1
        have br_2 : wr.cell? ⟨w.heap.size, 2, none⟩ = some (.bool false) := br.cell 2
        have br_3 : wr.cell? ⟨w.heap.size, 3, none⟩ = some (.int .i64 0) := br.cell 3
        have br_4 : wr.cell? ⟨w.heap.size, 4, none⟩ = some (.int .i64 0) := br.cell 4
        have br_5 : wr.cell? ⟨w.heap.size, 5, none⟩ = some (.string ⟨#[]⟩) := br.cell 5
        have br_6 : wr.cell? ⟨w.heap.size, 6, none⟩ = some (.int .i64 0) := br.cell 6
        have br_7 : wr.cell? ⟨w.heap.size, 7, none⟩ = some (.slice none 0 0) := br.cell 7
        have br_l := br.lt
        have br_f := fun i => br.frozen i
        go_wp2_with fail
        obtain ⟨f1, f2⟩ := ff_no2 (s := s) HI.out HX.out (fidx_miss fun j y hy => HNO.out j y (List.getElem?_eq_some_iff.1 hy).1 hy)
        rw [f1, f2]
        refine bodyPost_ret (v := .tuple #[.agg #[.string ⟨#[]⟩, .string ⟨#[]⟩, .bool false, .int .i64 0, .int .i64 0, .string ⟨#[]⟩, .int .i64 0, .slice none 0 0], .bool false]) (by simp [results, Try.results24, go_sem, br_0, br_1, br_2, br_3, br_4, br_5, br_6, br_7, br_l, br_f]) rfl ⟨_, rfl, and_of_below ?_ (fun hbF => rd_field (rd_nilE _ _))⟩
        repeat (refine Below.setCell ?_ (by simp) _)
        exact hb

set_option maxHeartbeats 4000000 in
theorem FindField_spec (l : List FClass) (a s : ByteArray) (u : Value) (w : World) (hl : l.length + FClass.wts l ≤ 1000000000) {B : Nat} (hB0 : B ≤ w.heap.size) (hr0 : RdC w B (.s 53 4 l.length (FClass.flat l)) u) :
    Calls Try.prog 14 #[u, .string a, .string s] w fun e w' => ∃ us, e = .returned (.tuple #[.agg us.toArray, .bool (ffB l a s)]) ∧ OwnI w' w.heap.size w'.heap.size (ffQ l a s).c us ∧ Below w.heap.size w w' := by
  have HC := Lib.hid (hr0.up hB0)
  clear hr0
  have hiw := Nat.le_trans (init_wt (ffQ l a s)) (Nat.le_trans (ffQ_wt l a s) (by omega : _ ≤ 1000000000))
  go_enter Try.func14, Try.ntmps14
  go_wp2_with fail
  refine calls_worldD _ (fun X => Blk X w.heap.size 39 #[.string ⟨#[]⟩, .string ⟨#[]⟩, .bool false, .int .i64 0, .int .i64 0, .string ⟨#[]⟩, .int .i64 0, .slice none 0 0] ∧ Below w.heap.size w X) ⟨Blk.new _ _ _, (Below.refl _ _).alloc (Nat.le_refl _) _⟩ ?_
  rintro X0 ⟨br, hb⟩
  have s0 := br.lt
  refine (l19Field_any l a s _ _ hl (B := w.heap.size) (by omega) (HC.out.below hb (Nat.le_refl _))).mono ?_
  generalize hQ : ffQ l a s = Q at *
  generalize hBq : ffB l a s = bq at *
  have HQ := Lib.hid hQ
  have HBB := Lib.hid hBq
  clear hQ hBq
  obtain ⟨y0, y1, y2, ⟨y3, y4, y5, y6, y7⟩⟩ := Q
  rintro e w1 ⟨us1, rfl, rv, hb1⟩
  rw [FField.c_eq] at rv
  obtain ⟨us1_0, rfl, rv_0⟩ := rv.unv
  obtain ⟨us1_1, rfl, rv_1⟩ := rv_0.unv
  obtain ⟨us1_2, rfl, rv_2⟩ := rv_1.unv
  obtain ⟨us1_3, rfl, rv_3⟩ := rv_2.unv
  obtain ⟨us1_4, rfl, rv_4⟩ := rv_3.unv
  obtain ⟨us1_5, rfl, rv_5⟩ := rv_4.unv
  obtain ⟨us1_6, rfl, rv_6⟩ := rv_5.unv
  obtain ⟨Ay7, cy7, us1_7, rfl, rq, rv_7⟩ := rv_6.uns
  obtain rfl := rv_7.un0
  clear rv rv_0 rv_1 rv_2 rv_3 rv_4 rv_5 rv_6 rv_7
  replace br := br.below hb1 (Nat.le_refl _)
  replace hb := hb.trans (hb1.mono (by omega))
  have rq2 : RdC w1 w1.heap.size (.s 75 8 y7.length (FEntry.flat y7)) (.slice Ay7 y7.length cy7) := rq.up hb1.size
  have QY := Lib.hid rq2
  clear hb1 rq rq2
  go_wp2_with fail
  refine calls_worldD _ (fun X => Blk X w.heap.size 39 #[.string ⟨#[]⟩, .string ⟨#[]⟩, .bool false, .int .i64 0, .int .i64 0, .string ⟨#[]⟩, .int .i64 0, .slice none 0 0] ∧ Blk X w1.heap.size 39 #[.string y0, .string y1, .bool y2, .int .i64 y3, .int .i64 y4, .string y5, .int .i64 y6, .slice Ay7 y7.length cy7] ∧ Below w.heap.size w X ∧ w1.heap.size < X.heap.size ∧ RdC X X.heap.size (.s 75 8 y7.length (FEntry.flat y7)) (.slice Ay7 y7.length cy7)) ⟨br.alloc _, Blk.new _ _ _, hb.alloc (by have := hb.size; omega) _, by simp, (QY.out.below ((Below.refl w1.heap.size w1).alloc (Nat.le_refl _) _) (Nat.le_refl _)).up (by simp)⟩ ?_
  have hbsW := hb.size
  have hrlW := br.lt
  clear br hb 
  rintro X1 ⟨br, bf, hb, hX1, rqx⟩
  have QX := Lib.hid rqx
  clear rqx
  refine (cpValS_any (.mk y3 y4 y5 y6 y7) hiw [.int .i64 y3, .int .i64 y4, .string y5, .int .i64 y6, .slice Ay7 y7.length cy7] X1 X1.heap.size (Nat.le_refl _) (rd_init (QX.out.below (Below.refl _ _) (Nat.le_refl _)))).mono ?_
  rw [FValue.c_eq]
  rintro e w3 ⟨us2, rfl, own2, hb3⟩
  have hv := own2.vs
  obtain ⟨us2_0, rfl, hv_0⟩ := hv.unv
  obtain ⟨us2_1, rfl, hv_1⟩ := hv_0.unv
  obtain ⟨us2_2, rfl, hv_2⟩ := hv_1.unv
  obtain ⟨us2_3, rfl, hv_3⟩ := hv_2.unv
  obtain ⟨D7, d7, us2_4, rfl, _, hv_4⟩ := hv_3.uns
  obtain rfl := hv_4.un0
  clear hv hv_0 hv_1 hv_2 hv_3 hv_4
  have OWN := Lib.hid own2
  clear own2
  replace br := br.below hb3 (Nat.le_refl _)
  replace bf := bf.below hb3 (Nat.le_refl _)
  replace hb := hb.trans (hb3.mono (by omega))
  have hs3 := hb3.size
  clear hb3
  have br_0 : w3.cell? ⟨w.heap.size, 0, none⟩ = some (.string ⟨#[]⟩) := br.cell 0
  have br_1 : w3.cell? ⟨w.heap.size, 1, none⟩ = some (.string ⟨#[]⟩) := br.cell 1
  have br_2 : w3.cell? ⟨w.heap.size, 2, none⟩ = some (.bool false) := br.cell 2
  have br_3 : w3.cell? ⟨w.heap.size, 3, none⟩ = some (.int .i64 0) := br.cell 3
  have br_4 : w3.cell? ⟨w.heap.size, 4, none⟩ = some (.int .i64 0) := br.cell 4
  have br_5 : w3.cell? ⟨w.heap.size, 5, none⟩ = some (.string ⟨#[]⟩) := br.cell 5
  have br_6 : w3.cell? ⟨w.heap.size, 6, none⟩ = some (.int .i64 0) := br.cell 6
  have br_7 : w3.cell? ⟨w.heap.size, 7, none⟩ = some (.slice none 0 0) := br.cell 7
  have br_l := br.lt
  have br_f := fun i => br.frozen i
  have bf_0 : w3.cell? ⟨w1.heap.size, 0, none⟩ = some (.string y0) := bf.cell 0
  have bf_1 : w3.cell? ⟨w1.heap.size, 1, none⟩ = some (.string y1) := bf.cell 1
  have bf_2 : w3.cell? ⟨w1.heap.size, 2, none⟩ = some (.bool y2) := bf.cell 2
  have bf_3 : w3.cell? ⟨w1.heap.size, 3, none⟩ = some (.int .i64 y3) := bf.cell 3
  have bf_4 : w3.cell? ⟨w1.heap.size, 4, none⟩ = some (.int .i64 y4) := bf.cell 4
  have bf_5 : w3.cell? ⟨w1.heap.size, 5, none⟩ = some (.string y5) := bf.cell 5
  have bf_6 : w3.cell? ⟨w1.heap.size, 6, none⟩ = some (.int .i64 y6) := bf.cell 6
  have bf_7 : w3.cell? ⟨w1.heap.size, 7, none⟩ = some (.slice Ay7 y7.length cy7) := bf.cell 7
  have bf_l := bf.lt
  have bf_f := fun i => bf.frozen i
  go_wp2_with fail
  rw [HQ.out, HBB.out]
  refine bodyPost_ret (v := .tuple #[.agg #[.string y0, .string y1, .bool y2, .int .i64 y3, .int .i64 y4, .string y5, .int .i64 y6, .slice D7 y7.length d7], .bool bq]) (by simp [results, Try.results14, go_sem, br_0, br_1, br_2, br_3, br_4, br_5, br_6, br_7, br_l, br_f, bf_0, bf_1, bf_2, bf_3, bf_4, bf_5, bf_6, bf_7, bf_l, bf_f]) rfl ⟨_, rfl, ?_, ?_⟩
  · rw [FField.c_eq]
    refine OwnI.wide (lo := X1.heap.size) (hi := w3.heap.size) ?_ (by omega) (by simp)
    repeat (refine OwnI.set ?_ (.inl (by simp; try omega)) _)
    exact OwnI.consv (OwnI.consv (OwnI.consv OWN.out _) _) _
  · repeat (refine Below.setCell ?_ (by simp; try omega) _)
    exact hb
end Go.Proofs.Ytphcpllafddpfaa
