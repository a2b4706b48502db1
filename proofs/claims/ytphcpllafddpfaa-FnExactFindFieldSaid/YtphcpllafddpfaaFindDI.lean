/-
  FindField of package impl: a copy of the first field of a name in the first class of a name. Conditions: none.
-/
import Derived.Test.YtphcpllafddpfaaFindD
import Derived.Test.YtphcpllafddpfaaCopyVI
namespace Go.Proofs.Ytphcpllafddpfaa
open Go.ChangeShapes Go.WideShapes Go.ChangeAt Go.RowKit Go.Deep Go.Joins
open Go.ChangeMaps (open_string shut_string)
set_option linter.unusedVariables false
set_option linter.unusedSimpArgs false
set_option maxRecDepth 100000

set_option maxHeartbeats 4000000 in
theorem FindField_impl (l : List FClass) (a s : ByteArray) (u : Value) (w : World) (hl : l.length + FClass.wts l ≤ 1000000000) {B : Nat} (hB0 : B ≤ w.heap.size) (hr0 : RdC w B (.s 53 4 l.length (FClass.flat l)) u) :
    Calls Try.prog 15 #[u, .string a, .string s] w fun e w' => ∃ us, e = .returned (.tuple #[.agg us.toArray, .bool (ffB l a s)]) ∧ OwnI w' w.heap.size w'.heap.size (ffQ l a s).c us ∧ Below w.heap.size w w' := by
  have hr := hr0.up hB0
  clear hr0
  obtain ⟨A, c, rfl⟩ := hr.form
  have HC := Lib.hid hr
  have hn : l.length ≤ 9223372036854775807 := by omega
  clear hr
  rcases fidx_lt FClass.nm l a with hi | ⟨k, x, hi, hk, hx⟩
  · have HI := Lib.hid hi
    clear hi
    go_enter Try.func15, Try.ntmps15
    go_wp2_with fail
    refine calls_worldD _ (fun X => Blk X w.heap.size 39 #[.string ⟨#[]⟩, .string ⟨#[]⟩, .bool false, .int .i64 0, .int .i64 0, .string ⟨#[]⟩, .int .i64 0, .slice none 0 0] ∧ Below w.heap.size w X) ⟨Blk.new _ _ _, (Below.refl _ _).alloc (Nat.le_refl _) _⟩ ?_
    rintro X0 ⟨br, hb⟩
    have s0 := br.lt
    refine (FindClass_impl l a _ _ (by omega) (B := w.heap.size) (by omega) (HC.out.below hb (Nat.le_refl _))).mono ?_
    rw [HI.out]
    rintro e w1 ⟨rfl, hb1⟩
    replace br := br.below hb1 (Nat.le_refl _)
    replace hb := hb.trans (hb1.mono (by omega))
    clear hb1
    have br_0 : w1.cell? ⟨w.heap.size, 0, none⟩ = some (.string ⟨#[]⟩) := br.cell 0
    have br_1 : w1.cell? ⟨w.heap.size, 1, none⟩ = some (.string ⟨#[]⟩) := br.cell 1
    have br_2 : w1.cell? ⟨w.heap.size, 2, none⟩ = some (.bool false) := br.cell 2
    have br_3 : w1.cell? ⟨w.heap.size, 3, none⟩ = some (.int .i64 0) := br.cell 3
    have br_4 : w1.cell? ⟨w.heap.size, 4, none⟩ = some (.int .i64 0) := br.cell 4
    have br_5 : w1.cell? ⟨w.heap.size, 5, none⟩ = some (.string ⟨#[]⟩) := br.cell 5
    have br_6 : w1.cell? ⟨w.heap.size, 6, none⟩ = some (.int .i64 0) := br.cell 6
    have br_7 : w1.cell? ⟨w.heap.size, 7, none⟩ = some (.slice none 0 0) := br.cell 7
    have br_l := br.lt
    have br_f := fun i => br.frozen i
    go_wp2_with fail
    obtain ⟨f1, f2⟩ := ff_no1 (s := s) HI.out
    rw [f1, f2]
    refine bodyPost_ret (v := .tuple #[.agg #[.string ⟨#[]⟩, .string ⟨#[]⟩, .bool false, .int .i64 0, .int .i64 0, .string ⟨#[]⟩, .int .i64 0, .slice none 0 0], .bool false]) (by simp [results, Try.results15, go_sem, br_0, br_1, br_2, br_3, br_4, br_5, br_6, br_7, br_l, br_f]) rfl ⟨_, rfl, ?_, ?_⟩
    · unfold zeroF
      rw [FField.c_eq]
      exact OwnI.consv (OwnI.consv (OwnI.consv (OwnI.consv (OwnI.consv (OwnI.consv (OwnI.consv (OwnI.none _ _ _ _ _) _) _) _) _) _) _) _
    · repeat (refine Below.setCell ?_ (by simp) _)
      exact hb
  · have HI := Lib.hid hi
    have HX := Lib.hid hx
    have hmw := fields_wt hx
    obtain ⟨bc, offc, rfl, hblc, hcc⟩ := RdC.at_ FClass.len HC.out hx
    obtain ⟨z0, z1, z2, z3⟩ := x
    rw [FClass.c_eq] at hcc
    obtain ⟨u2, e2, q2⟩ := hcc 2 _ rfl
    obtain ⟨A2, c2, rfl⟩ := q2.form
    have Q2 := Lib.hid q2
    have HE2 := Lib.hid e2
    have hmz : z2.length + FField.wts z2 ≤ 1000000000 := by have e : FClass.fields ⟨z0, z1, z2, z3⟩ = z2 := rfl; rw [e] at hmw; omega
    have hm1 : z2.length ≤ 1000000000 := by omega
    have hm2 : z2.length ≤ 9223372036854775807 := by omega
    clear hi hx hcc q2 e2 hmw
    rcases fidx_lt FField.nm z2 s with hj | ⟨m, y, hj, hm, hy⟩
    · have HJ := Lib.hid hj
      clear hj
      go_enter Try.func15, Try.ntmps15
      go_wp2_with fail
      refine calls_worldD _ (fun X => Blk X w.heap.size 39 #[.string ⟨#[]⟩, .string ⟨#[]⟩, .bool false, .int .i64 0, .int .i64 0, .string ⟨#[]⟩, .int .i64 0, .slice none 0 0] ∧ Below w.heap.size w X) ⟨Blk.new _ _ _, (Below.refl _ _).alloc (Nat.le_refl _) _⟩ ?_
      rintro X0 ⟨br, hb⟩
      have s0 := br.lt
      refine (FindClass_impl l a _ _ (by omega) (B := w.heap.size) (by omega) (HC.out.below hb (Nat.le_refl _))).mono ?_
      rw [HI.out]
      rintro e w1 ⟨rfl, hb1⟩
      replace br := br.below hb1 (Nat.le_refl _)
      replace hb := hb.trans (hb1.mono (by omega))
      clear hb1
      have k2 : w1.cell? ⟨bc, offc + k * 4 + 2, none⟩ = some (.slice A2 z2.length c2) := (hb.cell (p := ⟨bc, _, none⟩) hblc).trans (by simpa using HE2.out)
      go_wp2_with fail
      refine (fieldAt_any z2 s _ _ hm1 (B := w.heap.size) (by have := hb.size; omega) (Q2.out.below hb (Nat.le_refl _))).mono ?_
      rw [HJ.out]
      rintro e w2 ⟨rfl, hb2⟩
      replace br := br.below hb2 (Nat.le_refl _)
      have hbs1 := hb.size
      replace hb := hb.trans (hb2.mono (by omega))
      clear hb2 k2
      have br_0 : w2.cell? ⟨w.heap.size, 0, none⟩ = some (.string ⟨#[]⟩) := br.cell 0
      have br_1 : w2.cell? ⟨w.heap.size, 1, none⟩ = some (.string ⟨#[]⟩) := br.cell 1
      have br_2 : w2.cell? ⟨w.heap.size, 2, none⟩ = some (.bool false) := br.cell 2
      have br_3 : w2.cell? ⟨w.heap.size, 3, none⟩ = some (.int .i64 0) := br.cell 3
      have br_4 : w2.cell? ⟨w.heap.size, 4, none⟩ = some (.int .i64 0) := br.cell 4
      have br_5 : w2.cell? ⟨w.heap.size, 5, none⟩ = some (.string ⟨#[]⟩) := br.cell 5
      have br_6 : w2.cell? ⟨w.heap.size, 6, none⟩ = some (.int .i64 0) := br.cell 6
      have br_7 : w2.cell? ⟨w.heap.size, 7, none⟩ = some (.slice none 0 0) := br.cell 7
      have br_l := br.lt
      have br_f := fun i => br.frozen i
      go_wp2_with fail
      obtain ⟨f1, f2⟩ := ff_no2 (s := s) HI.out HX.out HJ.out
      rw [f1, f2]
      refine bodyPost_ret (v := .tuple #[.agg #[.string ⟨#[]⟩, .string ⟨#[]⟩, .bool false, .int .i64 0, .int .i64 0, .string ⟨#[]⟩, .int .i64 0, .slice none 0 0], .bool false]) (by simp [results, Try.results15, go_sem, br_0, br_1, br_2, br_3, br_4, br_5, br_6, br_7, br_l, br_f]) rfl ⟨_, rfl, ?_, ?_⟩
      · unfold zeroF
        rw [FField.c_eq]
        exact OwnI.consv (OwnI.consv (OwnI.consv (OwnI.consv (OwnI.consv (OwnI.consv (OwnI.consv (OwnI.none _ _ _ _ _) _) _) _) _) _) _) _
      · repeat (refine Below.setCell ?_ (by simp) _)
        exact hb
    · have HJ := Lib.hid hj
      have HY := Lib.hid hy
      have hyw : y.wt ≤ 1000000000 := by have := FField.wts_at z2 y (List.mem_of_getElem? hy); omega
      have hiw := Nat.le_trans (init_wt y) hyw
      obtain ⟨bd, offd, rfl, hbld, hcc⟩ := RdC.at_ FField.len Q2.out hy
      clear hj hy
      go_enter Try.func15, Try.ntmps15
      go_wp2_with fail
      refine calls_worldD _ (fun X => Blk X w.heap.size 39 #[.string ⟨#[]⟩, .string ⟨#[]⟩, .bool false, .int .i64 0, .int .i64 0, .string ⟨#[]⟩, .int .i64 0, .slice none 0 0] ∧ Below w.heap.size w X) ⟨Blk.new _ _ _, (Below.refl _ _).alloc (Nat.le_refl _) _⟩ ?_
      rintro X0 ⟨br, hb⟩
      have s0 := br.lt
      refine (FindClass_impl l a _ _ (by omega) (B := w.heap.size) (by omega) (HC.out.below hb (Nat.le_refl _))).mono ?_
      rw [HI.out]
      rintro e w1 ⟨rfl, hb1⟩
      replace br := br.below hb1 (Nat.le_refl _)
      replace hb := hb.trans (hb1.mono (by omega))
      clear hb1
      have k2 : w1.cell? ⟨bc, offc + k * 4 + 2, none⟩ = some (.slice (some ⟨bd, offd, none⟩) z2.length c2) := (hb.cell (p := ⟨bc, _, none⟩) hblc).trans (by simpa using HE2.out)
      go_wp2_with fail
      refine (fieldAt_any z2 s _ _ hm1 (B := w.heap.size) (by have := hb.size; omega) (Q2.out.below hb (Nat.le_refl _))).mono ?_
      rw [HJ.out]
      rintro e w2 ⟨rfl, hb2⟩
      replace br := br.below hb2 (Nat.le_refl _)
      have hbs1 := hb.size
      replace hb := hb.trans (hb2.mono (by omega))
      clear hb2 k2
      have k2 : w2.cell? ⟨bc, offc + k * 4 + 2, none⟩ = some (.slice (some ⟨bd, offd, none⟩) z2.length c2) := (hb.cell (p := ⟨bc, _, none⟩) hblc).trans (by simpa using HE2.out)
      obtain ⟨y0, y1, y2, ⟨y3, y4, y5, y6, y7⟩⟩ := y
      rw [FField.c_eq] at hcc
      obtain ⟨u0, e0, q0⟩ := hcc 0 _ rfl
      obtain rfl := q0.val
      have ky_0 : w2.cell? ⟨bd, offd + m * 8, none⟩ = some (.string y0) := (hb.cell (p := ⟨bd, _, none⟩) hbld).trans (by simpa using e0)
      obtain ⟨u1, e1, q1⟩ := hcc 1 _ rfl
      obtain rfl := q1.val
      have ky_1 : w2.cell? ⟨bd, offd + m * 8 + 1, none⟩ = some (.string y1) := (hb.cell (p := ⟨bd, _, none⟩) hbld).trans (by simpa using e1)
      obtain ⟨u2, e2, q2⟩ := hcc 2 _ rfl
      obtain rfl := q2.val
      have ky_2 : w2.cell? ⟨bd, offd + m * 8 + 2, none⟩ = some (.bool y2) := (hb.cell (p := ⟨bd, _, none⟩) hbld).trans (by simpa using e2)
      obtain ⟨u3, e3, q3⟩ := hcc 3 _ rfl
      obtain rfl := q3.val
      have ky_3 : w2.cell? ⟨bd, offd + m * 8 + 3, none⟩ = some (.int .i64 y3) := (hb.cell (p := ⟨bd, _, none⟩) hbld).trans (by simpa using e3)
      obtain ⟨u4, e4, q4⟩ := hcc 4 _ rfl
      obtain rfl := q4.val
      have ky_4 : w2.cell? ⟨bd, offd + m * 8 + 4, none⟩ = some (.int .i64 y4) := (hb.cell (p := ⟨bd, _, none⟩) hbld).trans (by simpa using e4)
      obtain ⟨u5, e5, q5⟩ := hcc 5 _ rfl
      obtain rfl := q5.val
      have ky_5 : w2.cell? ⟨bd, offd + m * 8 + 5, none⟩ = some (.string y5) := (hb.cell (p := ⟨bd, _, none⟩) hbld).trans (by simpa using e5)
      obtain ⟨u6, e6, q6⟩ := hcc 6 _ rfl
      obtain rfl := q6.val
      have ky_6 : w2.cell? ⟨bd, offd + m * 8 + 6, none⟩ = some (.int .i64 y6) := (hb.cell (p := ⟨bd, _, none⟩) hbld).trans (by simpa using e6)
      obtain ⟨u7, e7, q7⟩ := hcc 7 _ rfl
      obtain ⟨Ay7, cy7, rfl⟩ := q7.form
      have Qy7 := Lib.hid q7
      have ky_7 : w2.cell? ⟨bd, offd + m * 8 + 7, none⟩ = some (.slice Ay7 y7.length cy7) := (hb.cell (p := ⟨bd, _, none⟩) hbld).trans (by simpa using e7)
      clear hcc e0 q0 e1 q1 e2 q2 e3 q3 e4 q4 e5 q5 e6 q6 e7 q7
      go_wp2_with fail
      refine calls_worldD _ (fun X => Blk X w.heap.size 39 #[.string ⟨#[]⟩, .string ⟨#[]⟩, .bool false, .int .i64 0, .int .i64 0, .string ⟨#[]⟩, .int .i64 0, .slice none 0 0] ∧ Blk X w2.heap.size 39 #[.string y0, .string y1, .bool y2, .int .i64 y3, .int .i64 y4, .string y5, .int .i64 y6, .slice Ay7 y7.length cy7] ∧ Below w.heap.size w X ∧ w2.heap.size < X.heap.size) ⟨br.alloc _, Blk.new _ _ _, hb.alloc (by have := hb.size; omega) _, by simp⟩ ?_
      have hbsW := hb.size
      have hrlW := br.lt
      clear br hb ky_0 ky_1 ky_2 ky_3 ky_4 ky_5 ky_6 ky_7 k2
      rintro X1 ⟨br, bf, hb, hX1⟩
      refine (cpVal_any (.mk y3 y4 y5 y6 y7) hiw [.int .i64 y3, .int .i64 y4, .string y5, .int .i64 y6, .slice Ay7 y7.length cy7] X1 w.heap.size (by omega) (rd_init (Qy7.out.below hb (Nat.le_refl _)))).mono ?_
      rw [FValue.c_eq]
      rintro e w3 ⟨us2, rfl, own2, hb3⟩
      have hv := own2.vs
      obtain ⟨us2_0, rfl, hv_0⟩ := hv.unv
      obtain ⟨us2_1, rfl, hv_1⟩ := hv_0.unv
      obtain ⟨us2_2, rfl, hv_2⟩ := hv_1.unv
      obtain ⟨us2_3, rfl, hv_3⟩ := hv_2.unv
      obtain ⟨D7, d7, us2_4, rfl, _, hv_4⟩ := hv_3.uns
      obtain rfl := hv_4.un0
      clear hv hv_0 hv_1 hv_2 hv_3 hv_4
      have OWN := Lib.hid own2
      clear own2
      replace br := br.below hb3 (Nat.le_refl _)
      replace bf := bf.below hb3 (Nat.le_refl _)
      replace hb := hb.trans (hb3.mono (by omega))
      have hs3 := hb3.size
      clear hb3
      have br_0 : w3.cell? ⟨w.heap.size, 0, none⟩ = some (.string ⟨#[]⟩) := br.cell 0
      have br_1 : w3.cell? ⟨w.heap.size, 1, none⟩ = some (.string ⟨#[]⟩) := br.cell 1
      have br_2 : w3.cell? ⟨w.heap.size, 2, none⟩ = some (.bool false) := br.cell 2
      have br_3 : w3.cell? ⟨w.heap.size, 3, none⟩ = some (.int .i64 0) := br.cell 3
      have br_4 : w3.cell? ⟨w.heap.size, 4, none⟩ = some (.int .i64 0) := br.cell 4
      have br_5 : w3.cell? ⟨w.heap.size, 5, none⟩ = some (.string ⟨#[]⟩) := br.cell 5
      have br_6 : w3.cell? ⟨w.heap.size, 6, none⟩ = some (.int .i64 0) := br.cell 6
      have br_7 : w3.cell? ⟨w.heap.size, 7, none⟩ = some (.slice none 0 0) := br.cell 7
      have br_l := br.lt
      have br_f := fun i => br.frozen i
      have bf_0 : w3.cell? ⟨w2.heap.size, 0, none⟩ = some (.string y0) := bf.cell 0
      have bf_1 : w3.cell? ⟨w2.heap.size, 1, none⟩ = some (.string y1) := bf.cell 1
      have bf_2 : w3.cell? ⟨w2.heap.size, 2, none⟩ = some (.bool y2) := bf.cell 2
      have bf_3 : w3.cell? ⟨w2.heap.size, 3, none⟩ = some (.int .i64 y3) := bf.cell 3
      have bf_4 : w3.cell? ⟨w2.heap.size, 4, none⟩ = some (.int .i64 y4) := bf.cell 4
      have bf_5 : w3.cell? ⟨w2.heap.size, 5, none⟩ = some (.string y5) := bf.cell 5
      have bf_6 : w3.cell? ⟨w2.heap.size, 6, none⟩ = some (.int .i64 y6) := bf.cell 6
      have bf_7 : w3.cell? ⟨w2.heap.size, 7, none⟩ = some (.slice Ay7 y7.length cy7) := bf.cell 7
      have bf_l := bf.lt
      have bf_f := fun i => bf.frozen i
      go_wp2_with fail
      obtain ⟨f1, f2⟩ := ff_yes (s := s) HI.out HX.out HJ.out HY.out
      rw [f1, f2]
      refine bodyPost_ret (v := .tuple #[.agg #[.string y0, .string y1, .bool y2, .int .i64 y3, .int .i64 y4, .string y5, .int .i64 y6, .slice D7 y7.length d7], .bool true]) (by simp [results, Try.results15, go_sem, br_0, br_1, br_2, br_3, br_4, br_5, br_6, br_7, br_l, br_f, bf_0, bf_1, bf_2, bf_3, bf_4, bf_5, bf_6, bf_7, bf_l, bf_f]) rfl ⟨_, rfl, ?_, ?_⟩
      · rw [FField.c_eq]
        refine OwnI.wide (lo := X1.heap.size) (hi := w3.heap.size) ?_ (by omega) (by simp)
        repeat (refine OwnI.set ?_ (.inl (by simp; try omega)) _)
        exact OwnI.consv (OwnI.consv (OwnI.consv OWN.out _) _) _
      · repeat (refine Below.setCell ?_ (by simp; try omega) _)
        exact hb
end Go.Proofs.Ytphcpllafddpfaa
