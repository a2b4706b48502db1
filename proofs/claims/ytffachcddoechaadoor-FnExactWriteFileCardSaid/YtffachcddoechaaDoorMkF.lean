/-
  File: marking and finding the marks. Conditions: none.
-/
import Derived.Test.YtffachcddoechaaDoorDeepM
import Derived.Test.YtffachcddoechaaDoorDataF
namespace Go.Proofs.YtffachcddoechaaDoor
open Go.ChangeShapes Go.WideShapes Go.ChangeAt Go.RowKit Go.Deep Go.Joins
open Go.ChangeMaps (open_string shut_string)
set_option linter.unusedVariables false
set_option linter.unusedSimpArgs false
set_option maxRecDepth 100000
theorem FFile.flat_len (l : List FFile) : (FFile.flat l).length = l.length * 3 := by
  induction l with
  | nil => simp
  | cons x r ih =>
    have e : FFile.flat (x :: r) = x.c ++ FFile.flat r := List.flatMap_cons
    rw [e, List.length_append, ih, FFile.len, List.length_cons]
    omega
theorem FFile.flat_at (l : List FFile) (k : Nat) (x : FFile) (h : l[k]? = some x) : l.drop k = x :: l.drop (k + 1) := by
  have hk := (List.getElem?_eq_some_iff.1 h).1
  rw [List.drop_eq_getElem_cons hk, (List.getElem?_eq_some_iff.1 h).2]
theorem FFile.flat_take (l : List FFile) (k : Nat) (x : FFile) (h : l[k]? = some x) : FFile.flat (l.take (k + 1)) = FFile.flat (l.take k) ++ x.c := by
  rw [List.take_add_one, h]
  simp [FFile.flat]
theorem FFile.flat_split (l : List FFile) (k : Nat) (x : FFile) (h : l[k]? = some x) : FFile.flat l = FFile.flat (l.take k) ++ (x.c ++ FFile.flat (l.drop (k + 1))) := by
  have e : FFile.flat (l.take k ++ l.drop k) = FFile.flat (l.take k) ++ FFile.flat (l.drop k) := List.flatMap_append
  rw [List.take_append_drop] at e
  rw [e, FFile.flat_at l k x h]
  have e2 : FFile.flat (x :: l.drop (k + 1)) = x.c ++ FFile.flat (l.drop (k + 1)) := List.flatMap_cons
  rw [e2]
theorem FFile.cnt_at (l : List FFile) (k : Nat) (x : FFile) (h : l[k]? = some x) : cntL (FFile.flat (l.take k)) + cntL x.c ≤ cntL (FFile.flat l) := by
  rw [FFile.flat_split l k x h, cntL_append, cntL_append]
  omega
theorem FFile.cnt_eq (z0 : ByteArray) (z1 : ByteArray) (z2 : Int) : cntL (FFile.c ⟨z0, z1, z2⟩) = 3 := by
  rw [FFile.c_eq]
  simp only [cntL, Cel.cnt]
  try omega
def MarkFileS (l : List FFile) : Prop := ∀ (u : Value) (k0 : Int) (F : List Nat) (w : World), 1 ≤ k0 → k0 + (cntL (FFile.flat l) : Int) ≤ 1000000000000 → F.Nodup → OwnC w (.s 49 3 l.length (FFile.flat l)) F u → Calls Tryd.prog 28 #[u, .int .i64 k0] w fun e w' => e = .returned (.int .i64 (k0 + (cntL (FFile.flat l) : Int))) ∧ OwnC w' (.s 49 3 l.length (mkL (FFile.flat l) k0)) F u ∧ OnlyF F w w'
def HeldFileS (l : List FFile) : Prop := ∀ (u : Value) (k0 : Int) (w : World), 1 ≤ k0 → k0 + (cntL (FFile.flat l) : Int) ≤ 1000000000000 → RdC w w.heap.size (.s 49 3 l.length (mkL (FFile.flat l) k0)) u → Calls Tryd.prog 29 #[u, .int .i64 k0] w fun e w' => e = .returned (.int .i64 (k0 + (cntL (FFile.flat l) : Int))) ∧ Below w.heap.size w w'
theorem cntb1_File (x : FFile) : cntL x.c ≤ 10 + 10 * x.wt := by
  obtain ⟨z0, z1, z2⟩ := x
  rw [FFile.cnt_eq, FFile.wt_eq]
  omega
theorem cntb_FileS : ∀ l : List FFile, cntL (FFile.flat l) ≤ 10 * (l.length + FFile.wts l)
  | [] => by simp [cntL]
  | x :: r => by
    have e : FFile.flat (x :: r) = x.c ++ FFile.flat r := List.flatMap_cons
    have h1 := cntb1_File x
    have h2 := cntb_FileS r
    rw [e, cntL_append, FFile.wts, List.length_cons]
    omega
theorem cntb_File (x : FFile) : scnt x.c ≤ 10 * x.wt := by
  obtain ⟨z0, z1, z2⟩ := x
  rw [FFile.c_eq, FFile.wt_eq]
  simp only [scnt]
  omega
set_option maxHeartbeats 2000000 in
theorem markFileS_of (l : List FFile) : MarkFileS l := by
  intro u k0 F w h1 h2 hF hO
  obtain ⟨A, c, rfl⟩ := hO.form
  have hcap := hO.read.cap
  have hn : l.length ≤ 9223372036854775807 := by unfold maxLen at hcap; omega
  have HO := Lib.hid hO
  clear hcap
  by_cases hl0 : l.length = 0
  · obtain rfl : l = [] := List.eq_nil_of_length_eq_zero hl0
    clear hO hl0
    go_enter Tryd.func28, Tryd.ntmps28
    go_wp2_with fail
    go_loop [1, 5] (fun kv i => kv = .int .i64 k0 ∧ i = .int .i64 0) (fun _ i => 0)
    case atStart => exact ⟨rfl, rfl⟩
    case round =>
      obtain ⟨rfl, rfl⟩ := hrel
      go_wp2_with fail
      go_ret
      exact ⟨ret_int (by simp [cntL]), by simpa [mkL] using HO.out, OnlyF.refl _ _⟩
  obtain ⟨g, hA, hg⟩ := hO.head (by omega)
  subst hA
  have HG := Lib.hid hg
  clear hO hg hl0
  go_enter Tryd.func28, Tryd.ntmps28
  go_wp2_with fail
  go_loopw [1, 5] (fun kv i wr => ∃ (k : Nat) (kk : Int), k ≤ l.length ∧ i = .int .i64 k ∧ kv = .int .i64 kk ∧ kk = k0 + (cntL (FFile.flat (l.take k)) : Int) ∧ OwnC wr (.s 49 3 l.length (mkL (FFile.flat (l.take k)) k0 ++ FFile.flat (l.drop k))) F (.slice (some ⟨g, 0, none⟩) l.length c) ∧ OnlyF F w wr) (fun _ i _ => l.length - (intOf i).toNat)
  case atStart => exact ⟨0, k0, Nat.zero_le _, rfl, rfl, by simp [cntL], by simpa [mkL] using HO.out, OnlyF.refl _ _⟩
  case round =>
    obtain ⟨k, kk, hk, rfl, rfl, hkk, hO, hG⟩ := hrel
    have HKK := Lib.hid hkk
    have HO1 := Lib.hid hO
    have HGG := Lib.hid hG
    clear hO hG
    by_cases hlt : k < l.length
    · obtain ⟨x, hx⟩ : ∃ x, l[k]? = some x := ⟨_, List.getElem?_eq_getElem hlt⟩
      have HX := Lib.hid hx
      have hca := FFile.cnt_at l k x hx
      have hD0 : (mkL (FFile.flat (l.take k)) k0).length = k * 3 := by rw [mkL_len, FFile.flat_len, List.length_take]; congr 1; omega
      have hO2 := HO1.out
      rw [FFile.flat_at l k x hx] at hO2
      obtain ⟨z0, z1, z2⟩ := x
      rw [show FFile.flat (⟨z0, z1, z2⟩ :: l.drop (k + 1)) = (FFile.c ⟨z0, z1, z2⟩) ++ FFile.flat (l.drop (k + 1)) from List.flatMap_cons, FFile.c_eq] at hO2
      rw [FFile.cnt_eq] at hca
      obtain ⟨D, hDD⟩ : ∃ D, D = mkL (FFile.flat (l.take k)) k0 := ⟨_, rfl⟩
      rw [← hDD] at hD0 hO2
      obtain ⟨R, hRR⟩ : ∃ R, R = FFile.flat (l.drop (k + 1)) := ⟨_, rfl⟩
      rw [← hRR] at hO2
      have HD := Lib.hid hD0
      have HDD := Lib.hid hDD
      have HRR := Lib.hid hRR
      have hkp : 1 ≤ kk := by omega
      generalize hCC : cntL (FFile.flat (l.take k)) = CC at *
      have hkb : kk + ((3 : Nat) : Int) ≤ 1000000000000 := by omega
      have HCC := Lib.hid hCC
      clear hx hD0 hDD hRR hkk hca hCC 
      obtain ⟨f0, hrow0, hnc0, hln0⟩ := hO2.row
      have hkc : k * 3 + 3 ≤ c * 3 := by have := Nat.mul_le_mul_right 3 (show k + 1 ≤ c by omega); rw [Nat.succ_mul] at this; exact this
      have q0 := hrow0.cell (i := k * 3) (by omega)
      have y0 := hrow0.frozen (k * 3)
      have q1 := hrow0.cell (i := k * 3 + 1) (by omega)
      have y1 := hrow0.frozen (k * 3 + 1)
      have q2 := hrow0.cell (i := k * 3 + 2) (by omega)
      have y2 := hrow0.frozen (k * 3 + 2)
      clear hrow0
      go_wp2_with fail
      clear hkc y0 y1 y2 q0 q1 q2
      refine (markText_any _ _ (by omega)).mono ?_
      rintro e w2 ⟨rfl, hb1⟩
      have G1 := Lib.hid (OnlyF.of_below HGG.out hb1)
      have P1 := hO2.below hb1 (Nat.le_refl _)
      clear hO2 hb1
      obtain ⟨f1, hrow1, hnc1, hln1⟩ := P1.row
      have hkc : k * 3 + 3 ≤ c * 3 := by have := Nat.mul_le_mul_right 3 (show k + 1 ≤ c by omega); rw [Nat.succ_mul] at this; exact this
      have q0 := hrow1.cell (i := k * 3) (by omega)
      have y0 := hrow1.frozen (k * 3)
      have q1 := hrow1.cell (i := k * 3 + 1) (by omega)
      have y1 := hrow1.frozen (k * 3 + 1)
      have q2 := hrow1.cell (i := k * 3 + 2) (by omega)
      have y2 := hrow1.frozen (k * 3 + 2)
      clear hrow1
      go_wp2_with fail
      clear hkc y0 y1 y2 q0 q1 q2
      have O1_0 := OwnC.setv (D := D) (y := .string z0) (R := .v (.string z1) :: .v (.int .i64 z2) :: R) (by simp only [List.append_assoc, List.cons_append, List.nil_append] at P1 ⊢; exact P1) hF (.string (mt (kk))) (k * 3) (by simp [HD.out])
      clear P1
      refine (markText_any _ _ (by omega)).mono ?_
      rintro e w3 ⟨rfl, hb2⟩
      have G2 := Lib.hid (OnlyF.of_below (OnlyF.set G1.out (p := ⟨g, k * 3, none⟩) HG.out (.string (mt (kk)))) hb2)
      have P2 := O1_0.below hb2 (Nat.le_refl _)
      clear O1_0 hb2
      obtain ⟨f2, hrow2, hnc2, hln2⟩ := P2.row
      have hkc : k * 3 + 3 ≤ c * 3 := by have := Nat.mul_le_mul_right 3 (show k + 1 ≤ c by omega); rw [Nat.succ_mul] at this; exact this
      have q0 := hrow2.cell (i := k * 3) (by omega)
      have y0 := hrow2.frozen (k * 3)
      have q1 := hrow2.cell (i := k * 3 + 1) (by omega)
      have y1 := hrow2.frozen (k * 3 + 1)
      have q2 := hrow2.cell (i := k * 3 + 2) (by omega)
      have y2 := hrow2.frozen (k * 3 + 2)
      clear hrow2
      go_wp2_with fail
      clear hkc y0 y1 y2 q0 q1 q2
      have O2_1 := OwnC.setv (D := D ++ [.v (.string (mt (kk)))]) (y := .string z1) (R := .v (.int .i64 z2) :: R) (by simp only [List.append_assoc, List.cons_append, List.nil_append] at P2 ⊢; exact P2) hF (.string (mt (kk + 1))) (k * 3 + 1) (by simp [HD.out])
      clear P2
      have O2_2 := OwnC.setv (D := D ++ [.v (.string (mt (kk))), .v (.string (mt (kk + 1)))]) (y := .int .i64 z2) (R := R) (by simp only [List.append_assoc, List.cons_append, List.nil_append] at O2_1 ⊢; exact O2_1) hF (.int .i64 (kk + 1 + 1)) (k * 3 + 2) (by simp [HD.out])
      clear O2_1
      go_roundw
      case rel =>
        have hmk : mkL (FFile.c ⟨z0, z1, z2⟩) kk = [.v (.string (mt (kk))), .v (.string (mt (kk + 1))), .v (.int .i64 (kk + 1 + 1))] := by
          rw [FFile.c_eq]
          rw [mkL_v (kk + 1) (by omega)]
          rw [mkL_v (kk + 1 + 1) (by omega)]
          rw [mkL_v (kk + 1 + 1 + 1) (by omega)]
          rw [mkL_nil]
          rfl
        have hcn : cntL (FFile.flat (l.take (k + 1))) = CC + (3) := by
          rw [FFile.flat_take l k _ HX.out, cntL_append, HCC.out, FFile.cnt_eq]
          try omega
        have hall : mkL (FFile.flat (l.take (k + 1))) k0 = D ++ [.v (.string (mt (kk))), .v (.string (mt (kk + 1))), .v (.int .i64 (kk + 1 + 1))] := by
          rw [FFile.flat_take l k _ HX.out, mkL_append, HCC.out, ← HKK.out, ← HDD.out, hmk]
        refine ⟨k + 1, _, by omega, by go_num, rfl, ?_, ?_, (OnlyF.set (OnlyF.set G2.out (p := ⟨g, k * 3 + 1, none⟩) HG.out (.string (mt (kk + 1)))) (p := ⟨g, k * 3 + 2, none⟩) HG.out (.int .i64 (kk + 1 + 1)))⟩
        · rw [hcn]
          have := HKK.out
          omega
        · rw [hall, ← HRR.out]
          simp only [List.append_assoc, List.cons_append, List.nil_append] at O2_2 ⊢
          exact O2_2
      case measure => simp [intOf]; omega
    · obtain rfl : k = l.length := by omega
      clear hlt
      go_wp2_with fail
      go_ret
      have e := HO1.out
      rw [List.take_length, List.drop_length] at e
      have e2 := HKK.out
      rw [List.take_length] at e2
      exact ⟨ret_int e2, by simpa using e, HGG.out⟩
set_option maxHeartbeats 2000000 in
theorem heldFileS_of (l : List FFile) : HeldFileS l := by
  intro u k0 w h1 h2 hR
  obtain ⟨A, c, rfl⟩ := hR.form
  have hcap := hR.cap
  have hn : l.length ≤ 9223372036854775807 := by unfold maxLen at hcap; omega
  have HR := Lib.hid hR
  clear hR hcap
  go_enter Tryd.func29, Tryd.ntmps29
  go_wp2_with fail
  go_loopw [1, 5] (fun kv i wr => ∃ (k : Nat) (kk : Int), k ≤ l.length ∧ i = .int .i64 k ∧ kv = .int .i64 kk ∧ kk = k0 + (cntL (FFile.flat (l.take k)) : Int) ∧ Below w.heap.size w wr) (fun _ i _ => l.length - (intOf i).toNat)
  case atStart => exact ⟨0, k0, Nat.zero_le _, rfl, rfl, by simp [cntL], Below.refl _ _⟩
  case round =>
    obtain ⟨k, kk, hk, rfl, rfl, hkk, hb⟩ := hrel
    have HKK := Lib.hid hkk
    by_cases hlt : k < l.length
    · obtain ⟨x, hx⟩ : ∃ x, l[k]? = some x := ⟨_, List.getElem?_eq_getElem hlt⟩
      have HX := Lib.hid hx
      have hca := FFile.cnt_at l k x hx
      obtain ⟨bc, offc, rfl, hblc, hcc⟩ := HR.out.cells (by omega)
      have hD0 : (mkL (FFile.flat (l.take k)) k0).length = k * 3 := by rw [mkL_len, FFile.flat_len, List.length_take]; congr 1; omega
      have hsp : mkL (FFile.flat l) k0 = mkL (FFile.flat (l.take k)) k0 ++ (mkL x.c kk ++ mkL (FFile.flat (l.drop (k + 1))) (kk + (cntL x.c : Int))) := by
        rw [FFile.flat_split l k x hx, mkL_append, mkL_append, ← hkk]
      obtain ⟨z0, z1, z2⟩ := x
      rw [FFile.cnt_eq] at hca
      have hmk : mkL (FFile.c ⟨z0, z1, z2⟩) kk = [.v (.string (mt (kk))), .v (.string (mt (kk + 1))), .v (.int .i64 (kk + 1 + 1))] := by
        rw [FFile.c_eq]
        rw [mkL_v (kk + 1) (by omega)]
        rw [mkL_v (kk + 1 + 1) (by omega)]
        rw [mkL_v (kk + 1 + 1 + 1) (by omega)]
        rw [mkL_nil]
        rfl
      rw [hmk] at hsp
      obtain ⟨u0, e0, q0⟩ := hcc (k * 3 + 0) _ (by rw [hsp]; exact mid_get hD0 rfl)
      obtain rfl := q0.val
      clear q0
      have c_0 : wr.cell? ⟨bc, offc + k * 3, none⟩ = some (.string (mt (kk))) := (hb.cell (p := ⟨bc, _, none⟩) hblc).trans (by simpa [Nat.add_assoc] using e0)
      obtain ⟨u1, e1, q1⟩ := hcc (k * 3 + 1) _ (by rw [hsp]; exact mid_get hD0 rfl)
      obtain rfl := q1.val
      clear q1
      have c_1 : wr.cell? ⟨bc, offc + k * 3 + 1, none⟩ = some (.string (mt (kk + 1))) := (hb.cell (p := ⟨bc, _, none⟩) hblc).trans (by simpa [Nat.add_assoc] using e1)
      obtain ⟨u2, e2, q2⟩ := hcc (k * 3 + 2) _ (by rw [hsp]; exact mid_get hD0 rfl)
      obtain rfl := q2.val
      clear q2
      have c_2 : wr.cell? ⟨bc, offc + k * 3 + 2, none⟩ = some (.int .i64 (kk + 1 + 1)) := (hb.cell (p := ⟨bc, _, none⟩) hblc).trans (by simpa [Nat.add_assoc] using e2)
      have hkp : 1 ≤ kk := by omega
      have hkb : kk + ((3 : Nat) : Int) ≤ 1000000000000 := by omega
      clear hcc hsp hD0 hmk hx hca hkk e0 e1 e2 
      have hzb := hb.size
      go_wp2_with fail
      go_region_held3 (fun w_ => w_.cell? ⟨bc, offc + k * 3, none⟩ = some (.string (mt (kk)))) (first | exact c_0 | exact ((bcell hc1).1 _ _ (by simp; omega)).trans c_0) ((first | (go_at_call 36; refine (markText_any _ _ (by omega)).mono ?_; rintro e w2 ⟨rfl, hc1⟩)))
      have B1 : Below w.heap.size w w2 := hb.trans (((Below.refl _ _).drew : Below w.heap.size wr wr.drew).trans (hc1.mono (by simp; omega)))
      have d1_1 := ((bcell hc1).1 bc (offc + k * 3 + 1) (by simp; omega)).trans c_1
      have d1_2 := ((bcell hc1).1 bc (offc + k * 3 + 2) (by simp; omega)).trans c_2
      have hz1 := hc1.size
      simp at hz1
      have hy1 : w.heap.size ≤ w2.heap.size := B1.size
      clear hc1
      go_wp2_with fail
      go_region_held3 (fun w_ => w_.cell? ⟨bc, offc + k * 3 + 1, none⟩ = some (.string (mt (kk + 1)))) (first | exact d1_1 | exact ((bcell hc2).1 _ _ (by simp; omega)).trans d1_1) ((first | (go_at_call 36; refine (markText_any _ _ (by omega)).mono ?_; rintro e w3 ⟨rfl, hc2⟩)))
      have B2 : Below w.heap.size w w3 := B1.trans (((Below.refl _ _).drew : Below w.heap.size w2 w2.drew).trans (hc2.mono (by simp; omega)))
      have d2_2 := ((bcell hc2).1 bc (offc + k * 3 + 2) (by simp; omega)).trans d1_2
      have hz2 := hc2.size
      simp at hz2
      have hy2 : w.heap.size ≤ w3.heap.size := B2.size
      clear hc2
      go_wp2_with fail
      go_roundw
      case rel =>
        have hcn : cntL (FFile.flat (l.take (k + 1))) = cntL (FFile.flat (l.take k)) + (3) := by
          rw [FFile.flat_take l k _ HX.out, cntL_append, FFile.cnt_eq]
          try omega
        refine ⟨k + 1, _, by omega, by go_num, rfl, ?_, B2⟩
        rw [hcn]
        have := HKK.out
        omega
      case measure => simp [intOf]; omega
    · obtain rfl : k = l.length := by omega
      clear hlt
      go_wp2_with fail
      go_ret
      have e2 := HKK.out
      rw [List.take_length] at e2
      exact ⟨ret_int e2, hb⟩
theorem markFileS_any (l : List FFile) : MarkFileS l := markFileS_of l
theorem heldFileS_any (l : List FFile) : HeldFileS l := heldFileS_of l
theorem markFileS_I (l : List FFile) (u : Value) (k0 : Int) (lo hi : Nat) (w : World) (h1 : 1 ≤ k0) (h2 : k0 + (cntL (FFile.flat l) : Int) ≤ 1000000000000) (h : OwnI w lo hi [.s 49 3 l.length (FFile.flat l)] [u]) :
    Calls Tryd.prog 28 #[u, .int .i64 k0] w fun e w' => e = .returned (.int .i64 (k0 + (cntL (FFile.flat l) : Int))) ∧ OwnI w' lo hi [.s 49 3 l.length (mkL (FFile.flat l) k0)] [u] ∧ Only lo hi w.heap.size w w' := by
  obtain ⟨F, a1, a2, a3⟩ := h
  exact (markFileS_any l u k0 F w h1 h2 a2 a1.unone).mono fun e w' ⟨h3, h4, h5⟩ => ⟨h3, own_interval a2 a3 (OwnL.one h4) h5⟩
end Go.Proofs.YtffachcddoechaaDoor
