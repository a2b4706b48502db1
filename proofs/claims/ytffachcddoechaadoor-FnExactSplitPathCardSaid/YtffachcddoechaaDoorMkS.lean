/-
  string: marking and finding the marks. Conditions: none.
-/
import Derived.Test.YtffachcddoechaaDoorDeepM
import Derived.Test.YtffachcddoechaaDoorDataS
namespace Go.Proofs.YtffachcddoechaaDoor
open Go.ChangeShapes Go.WideShapes Go.ChangeAt Go.RowKit Go.Deep Go.Joins
open Go.ChangeMaps (open_string shut_string)
set_option linter.unusedVariables false
set_option linter.unusedSimpArgs false
set_option maxRecDepth 100000
theorem FStr.flat_len (l : List FStr) : (FStr.flat l).length = l.length * 1 := by
  induction l with
  | nil => simp
  | cons x r ih =>
    have e : FStr.flat (x :: r) = x.c ++ FStr.flat r := List.flatMap_cons
    rw [e, List.length_append, ih, FStr.len, List.length_cons]
    omega
theorem FStr.flat_at (l : List FStr) (k : Nat) (x : FStr) (h : l[k]? = some x) : l.drop k = x :: l.drop (k + 1) := by
  have hk := (List.getElem?_eq_some_iff.1 h).1
  rw [List.drop_eq_getElem_cons hk, (List.getElem?_eq_some_iff.1 h).2]
theorem FStr.flat_take (l : List FStr) (k : Nat) (x : FStr) (h : l[k]? = some x) : FStr.flat (l.take (k + 1)) = FStr.flat (l.take k) ++ x.c := by
  rw [List.take_add_one, h]
  simp [FStr.flat]
theorem FStr.flat_split (l : List FStr) (k : Nat) (x : FStr) (h : l[k]? = some x) : FStr.flat l = FStr.flat (l.take k) ++ (x.c ++ FStr.flat (l.drop (k + 1))) := by
  have e : FStr.flat (l.take k ++ l.drop k) = FStr.flat (l.take k) ++ FStr.flat (l.drop k) := List.flatMap_append
  rw [List.take_append_drop] at e
  rw [e, FStr.flat_at l k x h]
  have e2 : FStr.flat (x :: l.drop (k + 1)) = x.c ++ FStr.flat (l.drop (k + 1)) := List.flatMap_cons
  rw [e2]
theorem FStr.cnt_at (l : List FStr) (k : Nat) (x : FStr) (h : l[k]? = some x) : cntL (FStr.flat (l.take k)) + cntL x.c ≤ cntL (FStr.flat l) := by
  rw [FStr.flat_split l k x h, cntL_append, cntL_append]
  omega
theorem FStr.cnt_eq (z0 : ByteArray) : cntL (FStr.c ⟨z0⟩) = 1 := by
  rw [FStr.c_eq]
  simp only [cntL, Cel.cnt]
  try omega
def MarkStringS (l : List FStr) : Prop := ∀ (u : Value) (k0 : Int) (F : List Nat) (w : World), 1 ≤ k0 → k0 + (cntL (FStr.flat l) : Int) ≤ 1000000000000 → F.Nodup → OwnC w (.s 9 1 l.length (FStr.flat l)) F u → Calls Tryd.prog 13 #[u, .int .i64 k0] w fun e w' => e = .returned (.int .i64 (k0 + (cntL (FStr.flat l) : Int))) ∧ OwnC w' (.s 9 1 l.length (mkL (FStr.flat l) k0)) F u ∧ OnlyF F w w'
def HeldStringS (l : List FStr) : Prop := ∀ (u : Value) (k0 : Int) (w : World), 1 ≤ k0 → k0 + (cntL (FStr.flat l) : Int) ≤ 1000000000000 → RdC w w.heap.size (.s 9 1 l.length (mkL (FStr.flat l) k0)) u → Calls Tryd.prog 14 #[u, .int .i64 k0] w fun e w' => e = .returned (.int .i64 (k0 + (cntL (FStr.flat l) : Int))) ∧ Below w.heap.size w w'
theorem cntb1_String (x : FStr) : cntL x.c ≤ 10 + 10 * x.wt := by
  obtain ⟨z0⟩ := x
  rw [FStr.cnt_eq, FStr.wt_eq]
  omega
theorem cntb_StringS : ∀ l : List FStr, cntL (FStr.flat l) ≤ 10 * (l.length + FStr.wts l)
  | [] => by simp [cntL]
  | x :: r => by
    have e : FStr.flat (x :: r) = x.c ++ FStr.flat r := List.flatMap_cons
    have h1 := cntb1_String x
    have h2 := cntb_StringS r
    rw [e, cntL_append, FStr.wts, List.length_cons]
    omega
set_option maxHeartbeats 2000000 in
theorem markStringS_of (l : List FStr) : MarkStringS l := by
  intro u k0 F w h1 h2 hF hO
  obtain ⟨A, c, rfl⟩ := hO.form
  have hcap := hO.read.cap
  have hn : l.length ≤ 9223372036854775807 := by unfold maxLen at hcap; omega
  have HO := Lib.hid hO
  clear hcap
  by_cases hl0 : l.length = 0
  · obtain rfl : l = [] := List.eq_nil_of_length_eq_zero hl0
    clear hO hl0
    go_enter Tryd.func13, Tryd.ntmps13
    go_wp2_with fail
    go_loop [1, 5] (fun kv i => kv = .int .i64 k0 ∧ i = .int .i64 0) (fun _ i => 0)
    case atStart => exact ⟨rfl, rfl⟩
    case round =>
      obtain ⟨rfl, rfl⟩ := hrel
      go_wp2_with fail
      go_ret
      exact ⟨ret_int (by simp [cntL]), by simpa [mkL] using HO.out, OnlyF.refl _ _⟩
  obtain ⟨g, hA, hg⟩ := hO.head (by omega)
  subst hA
  have HG := Lib.hid hg
  clear hO hg hl0
  go_enter Tryd.func13, Tryd.ntmps13
  go_wp2_with fail
  go_loopw [1, 5] (fun kv i wr => ∃ (k : Nat) (kk : Int), k ≤ l.length ∧ i = .int .i64 k ∧ kv = .int .i64 kk ∧ kk = k0 + (cntL (FStr.flat (l.take k)) : Int) ∧ OwnC wr (.s 9 1 l.length (mkL (FStr.flat (l.take k)) k0 ++ FStr.flat (l.drop k))) F (.slice (some ⟨g, 0, none⟩) l.length c) ∧ OnlyF F w wr) (fun _ i _ => l.length - (intOf i).toNat)
  case atStart => exact ⟨0, k0, Nat.zero_le _, rfl, rfl, by simp [cntL], by simpa [mkL] using HO.out, OnlyF.refl _ _⟩
  case round =>
    obtain ⟨k, kk, hk, rfl, rfl, hkk, hO, hG⟩ := hrel
    have HKK := Lib.hid hkk
    have HO1 := Lib.hid hO
    have HGG := Lib.hid hG
    clear hO hG
    by_cases hlt : k < l.length
    · obtain ⟨x, hx⟩ : ∃ x, l[k]? = some x := ⟨_, List.getElem?_eq_getElem hlt⟩
      have HX := Lib.hid hx
      have hca := FStr.cnt_at l k x hx
      have hD0 : (mkL (FStr.flat (l.take k)) k0).length = k * 1 := by rw [mkL_len, FStr.flat_len, List.length_take]; congr 1; omega
      have hO2 := HO1.out
      rw [FStr.flat_at l k x hx] at hO2
      obtain ⟨z0⟩ := x
      rw [show FStr.flat (⟨z0⟩ :: l.drop (k + 1)) = (FStr.c ⟨z0⟩) ++ FStr.flat (l.drop (k + 1)) from List.flatMap_cons, FStr.c_eq] at hO2
      rw [FStr.cnt_eq] at hca
      obtain ⟨D, hDD⟩ : ∃ D, D = mkL (FStr.flat (l.take k)) k0 := ⟨_, rfl⟩
      rw [← hDD] at hD0 hO2
      obtain ⟨R, hRR⟩ : ∃ R, R = FStr.flat (l.drop (k + 1)) := ⟨_, rfl⟩
      rw [← hRR] at hO2
      have HD := Lib.hid hD0
      have HDD := Lib.hid hDD
      have HRR := Lib.hid hRR
      have hkp : 1 ≤ kk := by omega
      generalize hCC : cntL (FStr.flat (l.take k)) = CC at *
      have hkb : kk + ((1 : Nat) : Int) ≤ 1000000000000 := by omega
      have HCC := Lib.hid hCC
      clear hx hD0 hDD hRR hkk hca hCC 
      obtain ⟨f0, hrow0, hnc0, hln0⟩ := hO2.row
      have hkc : k + 1 ≤ c := by omega
      have q0 := hrow0.cell (i := k) (by omega)
      have y0 := hrow0.frozen (k)
      clear hrow0
      go_wp2_with fail
      clear hkc y0 q0
      refine (markText_any _ _ (by omega)).mono ?_
      rintro e w2 ⟨rfl, hb1⟩
      have G1 := Lib.hid (OnlyF.of_below HGG.out hb1)
      have P1 := hO2.below hb1 (Nat.le_refl _)
      clear hO2 hb1
      obtain ⟨f1, hrow1, hnc1, hln1⟩ := P1.row
      have hkc : k + 1 ≤ c := by omega
      have q0 := hrow1.cell (i := k) (by omega)
      have y0 := hrow1.frozen (k)
      clear hrow1
      go_wp2_with fail
      clear hkc y0 q0
      have O1_0 := OwnC.setv (D := D) (y := .string z0) (R := R) (by simp only [List.append_assoc, List.cons_append, List.nil_append] at P1 ⊢; exact P1) hF (.string (mt (kk))) (k) (by simp [HD.out])
      clear P1
      go_roundw
      case rel =>
        have hmk : mkL (FStr.c ⟨z0⟩) kk = [.v (.string (mt (kk)))] := by
          rw [FStr.c_eq]
          rw [mkL_v (kk + 1) (by omega)]
          rw [mkL_nil]
          rfl
        have hcn : cntL (FStr.flat (l.take (k + 1))) = CC + (1) := by
          rw [FStr.flat_take l k _ HX.out, cntL_append, HCC.out, FStr.cnt_eq]
          try omega
        have hall : mkL (FStr.flat (l.take (k + 1))) k0 = D ++ [.v (.string (mt (kk)))] := by
          rw [FStr.flat_take l k _ HX.out, mkL_append, HCC.out, ← HKK.out, ← HDD.out, hmk]
        refine ⟨k + 1, _, by omega, by go_num, rfl, ?_, ?_, (OnlyF.set G1.out (p := ⟨g, k, none⟩) HG.out (.string (mt (kk))))⟩
        · rw [hcn]
          have := HKK.out
          omega
        · rw [hall, ← HRR.out]
          simp only [List.append_assoc, List.cons_append, List.nil_append] at O1_0 ⊢
          exact O1_0
      case measure => simp [intOf]; omega
    · obtain rfl : k = l.length := by omega
      clear hlt
      go_wp2_with fail
      go_ret
      have e := HO1.out
      rw [List.take_length, List.drop_length] at e
      have e2 := HKK.out
      rw [List.take_length] at e2
      exact ⟨ret_int e2, by simpa using e, HGG.out⟩
set_option maxHeartbeats 2000000 in
theorem heldStringS_of (l : List FStr) : HeldStringS l := by
  intro u k0 w h1 h2 hR
  obtain ⟨A, c, rfl⟩ := hR.form
  have hcap := hR.cap
  have hn : l.length ≤ 9223372036854775807 := by unfold maxLen at hcap; omega
  have HR := Lib.hid hR
  clear hR hcap
  go_enter Tryd.func14, Tryd.ntmps14
  go_wp2_with fail
  go_loopw [1, 5] (fun kv i wr => ∃ (k : Nat) (kk : Int), k ≤ l.length ∧ i = .int .i64 k ∧ kv = .int .i64 kk ∧ kk = k0 + (cntL (FStr.flat (l.take k)) : Int) ∧ Below w.heap.size w wr) (fun _ i _ => l.length - (intOf i).toNat)
  case atStart => exact ⟨0, k0, Nat.zero_le _, rfl, rfl, by simp [cntL], Below.refl _ _⟩
  case round =>
    obtain ⟨k, kk, hk, rfl, rfl, hkk, hb⟩ := hrel
    have HKK := Lib.hid hkk
    by_cases hlt : k < l.length
    · obtain ⟨x, hx⟩ : ∃ x, l[k]? = some x := ⟨_, List.getElem?_eq_getElem hlt⟩
      have HX := Lib.hid hx
      have hca := FStr.cnt_at l k x hx
      obtain ⟨bc, offc, rfl, hblc, hcc⟩ := HR.out.cells (by omega)
      have hD0 : (mkL (FStr.flat (l.take k)) k0).length = k * 1 := by rw [mkL_len, FStr.flat_len, List.length_take]; congr 1; omega
      have hsp : mkL (FStr.flat l) k0 = mkL (FStr.flat (l.take k)) k0 ++ (mkL x.c kk ++ mkL (FStr.flat (l.drop (k + 1))) (kk + (cntL x.c : Int))) := by
        rw [FStr.flat_split l k x hx, mkL_append, mkL_append, ← hkk]
      obtain ⟨z0⟩ := x
      rw [FStr.cnt_eq] at hca
      have hmk : mkL (FStr.c ⟨z0⟩) kk = [.v (.string (mt (kk)))] := by
        rw [FStr.c_eq]
        rw [mkL_v (kk + 1) (by omega)]
        rw [mkL_nil]
        rfl
      rw [hmk] at hsp
      obtain ⟨u0, e0, q0⟩ := hcc (k * 1 + 0) _ (by rw [hsp]; exact mid_get hD0 rfl)
      obtain rfl := q0.val
      clear q0
      have c_0 : wr.cell? ⟨bc, offc + k, none⟩ = some (.string (mt (kk))) := (hb.cell (p := ⟨bc, _, none⟩) hblc).trans (by simpa [Nat.add_assoc] using e0)
      have hkp : 1 ≤ kk := by omega
      have hkb : kk + ((1 : Nat) : Int) ≤ 1000000000000 := by omega
      clear hcc hsp hD0 hmk hx hca hkk e0 
      have hzb := hb.size
      go_wp2_with fail
      go_region_held3 (fun w_ => w_.cell? ⟨bc, offc + k, none⟩ = some (.string (mt (kk)))) (first | exact c_0 | exact ((bcell hc1).1 _ _ (by simp; omega)).trans c_0) ((first | (go_at_call 36; refine (markText_any _ _ (by omega)).mono ?_; rintro e w2 ⟨rfl, hc1⟩)))
      have B1 : Below w.heap.size w w2 := hb.trans (((Below.refl _ _).drew : Below w.heap.size wr wr.drew).trans (hc1.mono (by simp; omega)))
      have hz1 := hc1.size
      simp at hz1
      have hy1 : w.heap.size ≤ w2.heap.size := B1.size
      clear hc1
      go_wp2_with fail
      go_roundw
      case rel =>
        have hcn : cntL (FStr.flat (l.take (k + 1))) = cntL (FStr.flat (l.take k)) + (1) := by
          rw [FStr.flat_take l k _ HX.out, cntL_append, FStr.cnt_eq]
          try omega
        refine ⟨k + 1, _, by omega, by go_num, rfl, ?_, B1⟩
        rw [hcn]
        have := HKK.out
        omega
      case measure => simp [intOf]; omega
    · obtain rfl : k = l.length := by omega
      clear hlt
      go_wp2_with fail
      go_ret
      have e2 := HKK.out
      rw [List.take_length] at e2
      exact ⟨ret_int e2, hb⟩
theorem markStringS_any (l : List FStr) : MarkStringS l := markStringS_of l
theorem heldStringS_any (l : List FStr) : HeldStringS l := heldStringS_of l
theorem markStringS_I (l : List FStr) (u : Value) (k0 : Int) (lo hi : Nat) (w : World) (h1 : 1 ≤ k0) (h2 : k0 + (cntL (FStr.flat l) : Int) ≤ 1000000000000) (h : OwnI w lo hi [.s 9 1 l.length (FStr.flat l)] [u]) :
    Calls Tryd.prog 13 #[u, .int .i64 k0] w fun e w' => e = .returned (.int .i64 (k0 + (cntL (FStr.flat l) : Int))) ∧ OwnI w' lo hi [.s 9 1 l.length (mkL (FStr.flat l) k0)] [u] ∧ Only lo hi w.heap.size w w' := by
  obtain ⟨F, a1, a2, a3⟩ := h
  exact (markStringS_any l u k0 F w h1 h2 a2 a1.unone).mono fun e w' ⟨h3, h4, h5⟩ => ⟨h3, own_interval a2 a3 (OwnL.one h4) h5⟩
end Go.Proofs.YtffachcddoechaaDoor
