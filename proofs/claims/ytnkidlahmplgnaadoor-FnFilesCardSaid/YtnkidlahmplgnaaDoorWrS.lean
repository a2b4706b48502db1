/-
  WriteFile of package spec. Conditions: none.
-/
import Derived.Test.YtnkidlahmplgnaaDoorWrB
import Derived.Deep.DeepMust
namespace Go.Proofs.YtnkidlahmplgnaaDoor
open Go.ChangeShapes Go.WideShapes Go.ChangeAt Go.RowKit Go.Deep Go.Joins
open Go.ChangeMaps (open_string shut_string)
set_option linter.unusedVariables false
set_option linter.unusedSimpArgs false
set_option maxRecDepth 100000
set_option maxHeartbeats 8000000 in
theorem WriteFile_spec (l : List FFile) (p s : ByteArray) (u : Value) (w : World) (hp : p.size ≤ 1048576) (hs : s.size ≤ 1048576) (hw : l.length + FFile.wts l ≤ 1048576) {B : Nat} (hB0 : B ≤ w.heap.size) (hr0 : RdC w B (.s 39 3 l.length (FFile.flat l)) u) :
    Calls Tryd.prog 22 #[u, .string p, .string s] w fun e w' => ∃ A c, e = .returned (.tuple #[.slice A (wrO l p s).1.length c, .bool (wrO l p s).2]) ∧ w'.ownsRow w.heap.size 39 3 (.slice A (wrO l p s).1.length c) (wrO l p s).1.length (fvals (wrO l p s).1) ∧ Below w.heap.size w w' := by
  have hr := hr0.up hB0
  clear hr0
  obtain ⟨A, c, rfl⟩ := hr.form
  have HC := Lib.hid hr
  have hl : l.length ≤ 1048576 := by omega
  have hs9 : s.size ≤ 9223372036854775807 := by omega
  have HE := Lib.hid (show ∀ (w' : World) (q : List FFile) (b : Bool), wrO l p s = (q, b) → ∀ (A : Option Addr) (c : Nat), RW w' w.heap.size A c q → Below w.heap.size w w' → ∃ A' c', Ending.returned (.tuple #[.slice A q.length c, .bool b]) = Ending.returned (.tuple #[.slice A' (wrO l p s).1.length c', .bool (wrO l p s).2]) ∧ w'.ownsRow w.heap.size 39 3 (.slice A' (wrO l p s).1.length c') (wrO l p s).1.length (fvals (wrO l p s).1) ∧ Below w.heap.size w w' from by
    intro w' q b h A c h1 h2
    rw [h]
    exact ⟨A, c, rfl, h1, h2⟩)
  have HB1 := Lib.hid ((Below.refl w.heap.size w).alloc (Nat.le_refl _) (.cells #[] 39))
  have HRD := Lib.hid (fvals_rd (hr.on HB1.out (Nat.le_refl _) (Nat.le_refl _)))
  have OW := Lib.hid (own_empty w 39 3)
  clear hr
  obtain ⟨q, hq⟩ : ∃ q, q = fif l p := ⟨_, rfl⟩
  have HQ := Lib.hid hq
  clear hq
  cases h1 : nmOk p with
  | false =>
    have OKP := Lib.hid h1
    have WR := Lib.hid (wr_bad (l := l) (p := p) (s := s) (by rw [h1]; rfl))
    go_enter Tryd.func22, Tryd.ntmps22
    go_wp2_with (first | (at_builtin; go_must (refine wpList_append_rd _ rfl (.tmp 12) (.tmp 13) _ rfl w.heap.size _ _ _ 40 Tryd.underlying31 infoFile rfl (by omega) (.slice (some ⟨w.heap.size, 0, none⟩) 0 0) _ _ rfl OW.out w.heap.size _ l.length _ (fvals l) rfl HRD.out (fvals_one l) (by unfold maxLen; omega) (by omega) (by simp) ?_); intro v2 w1 hown2 hg2 hat2; obtain ⟨A1, c1, rfl⟩ := own_form hown2; have R1 := Lib.hid (show RW w1 w.heap.size A1 c1 l from by simpa only [Nat.zero_add, List.nil_append] using hown2); have B1 := Lib.hid (HB1.out.grown hg2 (by simp) (fun j hj => by have h : w.heap.size = j := Option.some.inj hj; omega)); clear hg2 hat2 hown2) | (go_at_call 33; refine (NormalPath_spec p _ hp).mono ?_; rw [OKP.out]; rintro e w2 ⟨rfl, hb2⟩; have B2 := Lib.hid (B1.out.trans (hb2.mono B1.out.size)); have R2 := Lib.hid (R1.out.keep hb2); clear hb2) | (go_at_call 34; refine (FindFile_spec l p _ _ hp (by omega) (B := w.heap.size) B2.out.size (HC.out.on B2.out (Nat.le_refl _) (Nat.le_refl _))).mono ?_; rw [← HQ.out]; rintro e w3 ⟨rfl, hb⟩; have B3 := Lib.hid (B2.out.trans (hb.mono B2.out.size)); have R3 := Lib.hid (R2.out.keep hb); clear hb))
    go_ret2
    exact HE.out _ l false WR.out _ _ R3.out B3.out
  | true =>
  have OKP := Lib.hid h1
  cases h2 : siF l with
  | false =>
    have SI := Lib.hid h2
    have WR := Lib.hid (wr_bad (l := l) (p := p) (s := s) (by rw [h1, h2]; rfl))
    go_enter Tryd.func22, Tryd.ntmps22
    go_wp2_with (first | (at_builtin; go_must (refine wpList_append_rd _ rfl (.tmp 12) (.tmp 13) _ rfl w.heap.size _ _ _ 40 Tryd.underlying31 infoFile rfl (by omega) (.slice (some ⟨w.heap.size, 0, none⟩) 0 0) _ _ rfl OW.out w.heap.size _ l.length _ (fvals l) rfl HRD.out (fvals_one l) (by unfold maxLen; omega) (by omega) (by simp) ?_); intro v2 w1 hown2 hg2 hat2; obtain ⟨A1, c1, rfl⟩ := own_form hown2; have R1 := Lib.hid (show RW w1 w.heap.size A1 c1 l from by simpa only [Nat.zero_add, List.nil_append] using hown2); have B1 := Lib.hid (HB1.out.grown hg2 (by simp) (fun j hj => by have h : w.heap.size = j := Option.some.inj hj; omega)); clear hg2 hat2 hown2) | (go_at_call 33; refine (NormalPath_spec p _ hp).mono ?_; rw [OKP.out]; rintro e w2 ⟨rfl, hb2⟩; have B2 := Lib.hid (B1.out.trans (hb2.mono B1.out.size)); have R2 := Lib.hid (R1.out.keep hb2); clear hb2) | (go_at_call 34; refine (FindFile_spec l p _ _ hp (by omega) (B := w.heap.size) B2.out.size (HC.out.on B2.out (Nat.le_refl _) (Nat.le_refl _))).mono ?_; rw [← HQ.out]; rintro e w3 ⟨rfl, hb⟩; have B3 := Lib.hid (B2.out.trans (hb.mono B2.out.size)); have R3 := Lib.hid (R2.out.keep hb); clear hb) | (go_at_call 35; refine (IsSite_spec l _ _ hw (B := w.heap.size) B3.out.size (HC.out.on B3.out (Nat.le_refl _) (Nat.le_refl _))).mono ?_; rw [SI.out]; rintro e w4 ⟨rfl, hb⟩; have B4 := Lib.hid (B3.out.trans (hb.mono B3.out.size)); have R4 := Lib.hid (R3.out.keep hb); clear hb))
    go_ret2
    exact HE.out _ l false WR.out _ _ R4.out B4.out
  | true =>
  have SI := Lib.hid h2
  by_cases h3 : s.size ≤ 4000
  case neg =>
    have d3 : decide ((4000 : Int) < (s.size : Int)) = true := decide_eq_true (by omega)
    have WR := Lib.hid (wr_bad (l := l) (p := p) (s := s) (by rw [h1, h2, decide_eq_false h3]; rfl))
    go_enter Tryd.func22, Tryd.ntmps22
    go_wp2_with (first | (at_builtin; go_must (refine wpList_append_rd _ rfl (.tmp 12) (.tmp 13) _ rfl w.heap.size _ _ _ 40 Tryd.underlying31 infoFile rfl (by omega) (.slice (some ⟨w.heap.size, 0, none⟩) 0 0) _ _ rfl OW.out w.heap.size _ l.length _ (fvals l) rfl HRD.out (fvals_one l) (by unfold maxLen; omega) (by omega) (by simp) ?_); intro v2 w1 hown2 hg2 hat2; obtain ⟨A1, c1, rfl⟩ := own_form hown2; have R1 := Lib.hid (show RW w1 w.heap.size A1 c1 l from by simpa only [Nat.zero_add, List.nil_append] using hown2); have B1 := Lib.hid (HB1.out.grown hg2 (by simp) (fun j hj => by have h : w.heap.size = j := Option.some.inj hj; omega)); clear hg2 hat2 hown2) | (go_at_call 33; refine (NormalPath_spec p _ hp).mono ?_; rw [OKP.out]; rintro e w2 ⟨rfl, hb2⟩; have B2 := Lib.hid (B1.out.trans (hb2.mono B1.out.size)); have R2 := Lib.hid (R1.out.keep hb2); clear hb2) | (go_at_call 34; refine (FindFile_spec l p _ _ hp (by omega) (B := w.heap.size) B2.out.size (HC.out.on B2.out (Nat.le_refl _) (Nat.le_refl _))).mono ?_; rw [← HQ.out]; rintro e w3 ⟨rfl, hb⟩; have B3 := Lib.hid (B2.out.trans (hb.mono B2.out.size)); have R3 := Lib.hid (R2.out.keep hb); clear hb) | (go_at_call 35; refine (IsSite_spec l _ _ hw (B := w.heap.size) B3.out.size (HC.out.on B3.out (Nat.le_refl _) (Nat.le_refl _))).mono ?_; rw [SI.out]; rintro e w4 ⟨rfl, hb⟩; have B4 := Lib.hid (B3.out.trans (hb.mono B3.out.size)); have R4 := Lib.hid (R3.out.keep hb); clear hb))
    go_ret2
    exact HE.out _ l false WR.out _ _ R4.out B4.out
  have d3 : decide ((4000 : Int) < (s.size : Int)) = false := decide_eq_false (by omega)
  have GO := Lib.hid (show (nmOk p && (siF l && decide (s.size ≤ 4000))) = true from by rw [h1, h2, decide_eq_true h3]; rfl)
  rcases fif_cases l p with hf | ⟨k, x, hf, hk, hx⟩
  · have hf0 := hf
    rw [← HQ.out] at hf0
    have HF := Lib.hid hf
    have dq : decide (q < 0) = true := decide_eq_true (by omega)
    have dq2 : decide (0 ≤ q) = false := decide_eq_false (by omega)
    clear h1 h2 hf
    by_cases h8 : 8 ≤ l.length
    · have d8 : decide ((8 : Int) ≤ (l.length : Int)) = true := decide_eq_true (by omega)
      have h9 : l.length = 8 := by
        have h := SI.out
        unfold siF at h
        simp only [Bool.and_eq_true, decide_eq_true_eq] at h
        omega
      have d9 : ((l.length : Int) == 8) = true := by rw [h9]; rfl
      clear h9
      have WR := Lib.hid (wr_full GO.out (by rw [HF.out]; decide) h8)
      go_enter Tryd.func22, Tryd.ntmps22
      go_wp2_with (first | (at_builtin; go_must (refine wpList_append_rd _ rfl (.tmp 12) (.tmp 13) _ rfl w.heap.size _ _ _ 40 Tryd.underlying31 infoFile rfl (by omega) (.slice (some ⟨w.heap.size, 0, none⟩) 0 0) _ _ rfl OW.out w.heap.size _ l.length _ (fvals l) rfl HRD.out (fvals_one l) (by unfold maxLen; omega) (by omega) (by simp) ?_); intro v2 w1 hown2 hg2 hat2; obtain ⟨A1, c1, rfl⟩ := own_form hown2; have R1 := Lib.hid (show RW w1 w.heap.size A1 c1 l from by simpa only [Nat.zero_add, List.nil_append] using hown2); have B1 := Lib.hid (HB1.out.grown hg2 (by simp) (fun j hj => by have h : w.heap.size = j := Option.some.inj hj; omega)); clear hg2 hat2 hown2) | (go_at_call 33; refine (NormalPath_spec p _ hp).mono ?_; rw [OKP.out]; rintro e w2 ⟨rfl, hb2⟩; have B2 := Lib.hid (B1.out.trans (hb2.mono B1.out.size)); have R2 := Lib.hid (R1.out.keep hb2); clear hb2) | (go_at_call 35; refine (IsSite_spec l _ _ hw (B := w.heap.size) B3.out.size (HC.out.on B3.out (Nat.le_refl _) (Nat.le_refl _))).mono ?_; rw [SI.out]; rintro e w4 ⟨rfl, hb⟩; have B4 := Lib.hid (B3.out.trans (hb.mono B3.out.size)); have R4 := Lib.hid (R3.out.keep hb); clear hb) | (go_at_call 34; refine (FindFile_spec l p _ _ hp (by omega) (B := w.heap.size) B2.out.size (HC.out.on B2.out (Nat.le_refl _) (Nat.le_refl _))).mono ?_; rw [← HQ.out]; rintro e w3 ⟨rfl, hb⟩; have B3 := Lib.hid (B2.out.trans (hb.mono B2.out.size)); have R3 := Lib.hid (R2.out.keep hb); clear hb))
      go_ret2
      exact HE.out _ l false WR.out _ _ R4.out B4.out
    · have d8 : decide ((8 : Int) ≤ (l.length : Int)) = false := decide_eq_false (by omega)
      have d9 : ((l.length : Int) == 8) = false := by rw [beq_eq_false_iff_ne]; omega
      have WR := Lib.hid (wr_new GO.out (by rw [HF.out]; decide) h8)
      go_enter Tryd.func22, Tryd.ntmps22
      go_wp2_with (at_builtin; go_must (refine wpList_append_rd _ rfl (.tmp 12) (.tmp 13) _ rfl w.heap.size _ _ _ 40 Tryd.underlying31 infoFile rfl (by omega) (.slice (some ⟨w.heap.size, 0, none⟩) 0 0) _ _ rfl OW.out w.heap.size _ l.length _ (fvals l) rfl HRD.out (fvals_one l) (by unfold maxLen; omega) (by omega) (by simp) ?_); intro v2 w1 hown2 hg2 hat2; obtain ⟨A1, c1, rfl⟩ := own_form hown2; have R1 := Lib.hid (show RW w1 w.heap.size A1 c1 l from by simpa only [Nat.zero_add, List.nil_append] using hown2); have B1 := Lib.hid (HB1.out.grown hg2 (by simp) (fun j hj => by have h : w.heap.size = j := Option.some.inj hj; omega)); clear hg2 hat2 hown2)
      refine (NormalPath_spec p _ hp).mono ?_; rw [OKP.out]; rintro e w2 ⟨rfl, hb2⟩; have B2 := Lib.hid (B1.out.trans (hb2.mono B1.out.size)); have R2 := Lib.hid (R1.out.keep hb2); clear hb2
      go_wp2_with (first | (go_at_call 35; refine (IsSite_spec l _ _ hw (B := w.heap.size) B3.out.size (HC.out.on B3.out (Nat.le_refl _) (Nat.le_refl _))).mono ?_; rw [SI.out]; rintro e w4 ⟨rfl, hb⟩; have B4 := Lib.hid (B3.out.trans (hb.mono B3.out.size)); have R4 := Lib.hid (R3.out.keep hb); clear hb) | (go_at_call 34; refine (FindFile_spec l p _ _ hp (by omega) (B := w.heap.size) B2.out.size (HC.out.on B2.out (Nat.le_refl _) (Nat.le_refl _))).mono ?_; rw [← HQ.out]; rintro e w3 ⟨rfl, hb⟩; have B3 := Lib.hid (B2.out.trans (hb.mono B2.out.size)); have R3 := Lib.hid (R2.out.keep hb); clear hb) | (at_builtin; go_must (refine wpList_append_rd _ rfl (.tmp 75) (.tmp 79) _ rfl w.heap.size _ _ _ 40 Tryd.underlying31 infoFile rfl (by omega) (.slice A1 l.length c1) _ _ rfl (World.ownsRow.alloc R4.out _) (w4.heap.size + 1) _ 1 _ [.string (nmS p), .string s, .int .i64 1] rfl (frd_one w4 (nmS p) s 1 39) (by intro u hu; simp only [List.mem_cons, List.not_mem_nil, or_false] at hu; rcases hu with rfl | rfl | rfl <;> rfl) (by unfold maxLen; omega) (by omega) (by have := B4.out.size; simp; omega) ?_); intro v2 w9 hown2 hg2 hat2; obtain ⟨A6, c6, rfl⟩ := own_form hown2; have HG2 := Lib.hid hg2; have HW2 := Lib.hid hown2; clear hg2 hat2 hown2))
      go_ret2
      have hown2 := HW2.out
      have T2 : RW w9 w.heap.size A6 c6 (l ++ [⟨nmS p, s, 1⟩]) := by
        unfold RW
        rw [List.length_append, fvals_app]
        exact hown2
      have h := HE.out w9 _ true WR.out A6 c6 T2 ((B4.out.alloc B4.out.size _).grown HG2.out (by have := B4.out.size; simp; omega) (fun j hj => (own_lt R4.out j hj).1))
      rw [List.length_append] at h
      exact h
  · have hqk : q = (k : Int) := HQ.out.trans hf
    have dq : decide (q < 0) = false := decide_eq_false (by omega)
    have dq2 : decide (0 ≤ q) = true := decide_eq_true (by omega)
    obtain ⟨v1, v2, v3⟩ := siF_ver h2 hx
    obtain ⟨x0, x1, x2⟩ := x
    have HF := Lib.hid hf
    have HX := Lib.hid hx
    obtain ⟨fv0, fv1, fv2⟩ := fvals_at l k _ hx
    have v1' : 1 ≤ x2 := v1
    have v2' : x2 ≤ 1000000000 := v2
    have hk0 : (0 : Int) ≤ (k : Int) := by omega
    have hkl : (k : Int) < (l.length : Int) := by omega
    clear h1 h2 hf v1 v2 hx
    cases hmx : (x2 == 1000000000) with
    | true =>
      have WR := Lib.hid (wr_max GO.out HF.out HX.out (by simpa using hmx))
      obtain ⟨bc, offc, rfl, hblc, hcc⟩ := RdC.at_ FFile.len HC.out HX.out
      rw [FFile.c_eq] at hcc
      obtain ⟨u2, e2, q2⟩ := hcc 2 _ rfl
      obtain rfl := q2.val
      go_enter Tryd.func22, Tryd.ntmps22
      go_wp2_with (at_builtin; go_must (refine wpList_append_rd _ rfl (.tmp 12) (.tmp 13) _ rfl w.heap.size _ _ _ 40 Tryd.underlying31 infoFile rfl (by omega) (.slice (some ⟨w.heap.size, 0, none⟩) 0 0) _ _ rfl OW.out w.heap.size _ l.length _ (fvals l) rfl HRD.out (fvals_one l) (by unfold maxLen; omega) (by omega) (by simp) ?_); intro v2 w1 hown2 hg2 hat2; obtain ⟨A1, c1, rfl⟩ := own_form hown2; have R1 := Lib.hid (show RW w1 w.heap.size A1 c1 l from by simpa only [Nat.zero_add, List.nil_append] using hown2); have B1 := Lib.hid (HB1.out.grown hg2 (by simp) (fun j hj => by have h : w.heap.size = j := Option.some.inj hj; omega)); clear hg2 hat2 hown2)
      refine (NormalPath_spec p _ hp).mono ?_; rw [OKP.out]; rintro e w2 ⟨rfl, hb2⟩; have B2 := Lib.hid (B1.out.trans (hb2.mono B1.out.size)); have R2 := Lib.hid (R1.out.keep hb2); clear hb2
      obtain ⟨g, rfl⟩ := RW.some R2.out (by omega)
      go_wp2_with (first | (go_at_call 34; refine (FindFile_spec l p _ _ hp (by omega) (B := w.heap.size) B2.out.size (HC.out.on B2.out (Nat.le_refl _) (Nat.le_refl _))).mono ?_; rw [← HQ.out]; rintro e w3 ⟨rfl, hb⟩; have B3 := Lib.hid (B2.out.trans (hb.mono B2.out.size)); have R3 := Lib.hid (R2.out.keep hb); clear hb) | (go_at_call 35; refine (IsSite_spec l _ _ hw (B := w.heap.size) B3.out.size (HC.out.on B3.out (Nat.le_refl _) (Nat.le_refl _))).mono ?_; rw [SI.out]; rintro e w4 ⟨rfl, hb⟩; have B4 := Lib.hid (B3.out.trans (hb.mono B3.out.size)); have R4 := Lib.hid (R3.out.keep hb); clear hb; have fc := (World.ownsRow.cellAt R4.out (k * 3 + 2) (by omega)).trans fv2; have fd := (World.ownsRow.cellAt R4.out (k * 3 + 1) (by omega)).trans fv1; have ff1 := World.ownsRow.frozenAt R4.out (k * 3 + 1); have ff2 := World.ownsRow.frozenAt R4.out (k * 3 + 2); have fl := (own_lt R4.out g rfl).2; have sc : w4.cell? ⟨bc, offc + k * 3 + 2, none⟩ = some (.int .i64 x2) := (B4.out.cell (p := ⟨bc, _, none⟩) hblc).trans (by simpa using e2)))
      go_ret2
      exact HE.out _ l false WR.out _ _ R4.out B4.out
    | false =>
      have WR := Lib.hid (wr_put GO.out HF.out HX.out (by simpa using hmx))
      obtain ⟨bc, offc, rfl, hblc, hcc⟩ := RdC.at_ FFile.len HC.out HX.out
      rw [FFile.c_eq] at hcc
      obtain ⟨u2, e2, q2⟩ := hcc 2 _ rfl
      obtain rfl := q2.val
      go_enter Tryd.func22, Tryd.ntmps22
      go_wp2_with (at_builtin; go_must (refine wpList_append_rd _ rfl (.tmp 12) (.tmp 13) _ rfl w.heap.size _ _ _ 40 Tryd.underlying31 infoFile rfl (by omega) (.slice (some ⟨w.heap.size, 0, none⟩) 0 0) _ _ rfl OW.out w.heap.size _ l.length _ (fvals l) rfl HRD.out (fvals_one l) (by unfold maxLen; omega) (by omega) (by simp) ?_); intro v2 w1 hown2 hg2 hat2; obtain ⟨A1, c1, rfl⟩ := own_form hown2; have R1 := Lib.hid (show RW w1 w.heap.size A1 c1 l from by simpa only [Nat.zero_add, List.nil_append] using hown2); have B1 := Lib.hid (HB1.out.grown hg2 (by simp) (fun j hj => by have h : w.heap.size = j := Option.some.inj hj; omega)); clear hg2 hat2 hown2)
      refine (NormalPath_spec p _ hp).mono ?_; rw [OKP.out]; rintro e w2 ⟨rfl, hb2⟩; have B2 := Lib.hid (B1.out.trans (hb2.mono B1.out.size)); have R2 := Lib.hid (R1.out.keep hb2); clear hb2
      obtain ⟨g, rfl⟩ := RW.some R2.out (by omega)
      go_wp2_with (first | (go_at_call 34; refine (FindFile_spec l p _ _ hp (by omega) (B := w.heap.size) B2.out.size (HC.out.on B2.out (Nat.le_refl _) (Nat.le_refl _))).mono ?_; rw [← HQ.out]; rintro e w3 ⟨rfl, hb⟩; have B3 := Lib.hid (B2.out.trans (hb.mono B2.out.size)); have R3 := Lib.hid (R2.out.keep hb); clear hb) | (go_at_call 35; refine (IsSite_spec l _ _ hw (B := w.heap.size) B3.out.size (HC.out.on B3.out (Nat.le_refl _) (Nat.le_refl _))).mono ?_; rw [SI.out]; rintro e w4 ⟨rfl, hb⟩; have B4 := Lib.hid (B3.out.trans (hb.mono B3.out.size)); have R4 := Lib.hid (R3.out.keep hb); clear hb; have fc := (World.ownsRow.cellAt R4.out (k * 3 + 2) (by omega)).trans fv2; have fd := (World.ownsRow.cellAt R4.out (k * 3 + 1) (by omega)).trans fv1; have ff1 := World.ownsRow.frozenAt R4.out (k * 3 + 1); have ff2 := World.ownsRow.frozenAt R4.out (k * 3 + 2); have fl := (own_lt R4.out g rfl).2; have sc : w4.cell? ⟨bc, offc + k * 3 + 2, none⟩ = some (.int .i64 x2) := (B4.out.cell (p := ⟨bc, _, none⟩) hblc).trans (by simpa using e2)))
      go_ret2
      obtain ⟨t1, t2⟩ := RW.put R4.out HX.out s (x2 + 1)
      have h := HE.out _ _ true WR.out _ _ t1 (B4.out.grown t2 B4.out.size (fun j hj => (own_lt R4.out j hj).1))
      rw [List.length_set] at h
      exact h
end Go.Proofs.YtnkidlahmplgnaaDoor
