/-
  File: the sizes that the laws reckon. Conditions: none.
-/
import Derived.Test.YtffachcddoechaaDoorDataF
namespace Go.Proofs.YtffachcddoechaaDoor
open Go.ChangeShapes Go.WideShapes Go.ChangeAt Go.RowKit Go.Deep Go.Joins
open Go.ChangeMaps (open_string shut_string)
set_option linter.unusedVariables false
set_option linter.unusedSimpArgs false
set_option maxRecDepth 100000
def SzFile (x : FFile) : Prop := ∀ (us : List Value) (left : Int) (w : World) (B : Nat), 0 ≤ left → left ≤ 1048576 → B ≤ w.heap.size → RdVs w B x.c us → Calls Tryd.prog 40 #[.agg us.toArray, .int .i64 left] w fun e w' => e = .returned (.int .i64 (bud left x.wt)) ∧ Below w.heap.size w w'
def SzFileS (l : List FFile) : Prop := ∀ (u : Value) (left : Int) (w : World) (B : Nat), 0 ≤ left → left ≤ 1048576 → B ≤ w.heap.size → RdC w B (.s 49 3 l.length (FFile.flat l)) u → Calls Tryd.prog 19 #[u, .int .i64 left] w fun e w' => e = .returned (.int .i64 (bud left (l.length + FFile.wts l))) ∧ Below w.heap.size w w'
set_option maxHeartbeats 1000000 in
theorem szFile_of (z0 : ByteArray) (z1 : ByteArray) (z2 : Int) (hok : FFile.ok ⟨z0, z1, z2⟩)  : SzFile ⟨z0, z1, z2⟩ := by
  intro us left w B hl0 hl1 hB0 hr
  rw [FFile.c_eq] at hr
  rw [FFile.wt_eq]
  rw [FFile.ok_eq] at hok
  obtain ⟨us0, rfl, hr_0⟩ := hr.unv
  obtain ⟨us1, rfl, hr_1⟩ := hr_0.unv
  obtain ⟨us2, rfl, hr_2⟩ := hr_1.unv
  obtain rfl := hr_2.un0
  clear hr hr_0 hr_1 hr_2
  have ks0 := hok.1
  have ks1 := hok.2
  clear hok
  obtain ⟨W, hW⟩ : ∃ W : Nat, W = z0.size + z1.size := ⟨_, rfl⟩
  rw [← hW]
  have HW := Lib.hid hW
  clear hW
  by_cases c0 : left - z0.size < 0
  case pos =>
    go_enter Tryd.func40, Tryd.ntmps40
    go_wp2_with fail
    go_ret
    exact ⟨ret_int (by rw [bud_neg (by have := HW.out; omega)]), (Below.refl _ _).alloc (Nat.le_refl _) _⟩
  by_cases c1 : left - z0.size - z1.size < 0
  case pos =>
    go_enter Tryd.func40, Tryd.ntmps40
    go_wp2_with fail
    go_ret
    exact ⟨ret_int (by rw [bud_neg (by have := HW.out; omega)]), (Below.refl _ _).alloc (Nat.le_refl _) _⟩
  go_enter Tryd.func40, Tryd.ntmps40
  go_wp2_with fail
  go_ret
  exact ⟨ret_int (by have := HW.out; rw [bud_pos (by omega)]; omega), (Below.refl _ _).alloc (Nat.le_refl _) _⟩
set_option maxHeartbeats 1000000 in
theorem szFileS_of (l : List FFile) (he : ∀ x, x ∈ l → SzFile x) : SzFileS l := by
  intro u left w B hl0 hl1 hB0 hr0
  have hr := hr0.up hB0
  clear hr0
  obtain ⟨A, c, rfl⟩ := hr.form
  have HC := Lib.hid hr
  have hcap := hr.cap
  have hcm : l.length ≤ 9223372036854775807 := by unfold maxLen at hcap; omega
  have HE := Lib.hid he
  clear hr hcap he
  by_cases hfit : left - l.length < 0
  · go_enter Tryd.func19, Tryd.ntmps19
    go_wp2_with fail
    go_ret
    exact ⟨ret_int (by rw [bud_neg (by omega)]), Below.refl _ _⟩
  go_enter Tryd.func19, Tryd.ntmps19
  go_wp2_with fail
  go_loopw [1, 5] (fun lv i wr => ∃ k : Nat, k ≤ l.length ∧ i = .int .i64 k ∧ lv = .int .i64 (left - l.length - (FFile.wts (l.take k) : Nat)) ∧ ((FFile.wts (l.take k) : Nat) : Int) ≤ left - l.length ∧ Below w.heap.size w wr) (fun _ i _ => l.length - (intOf i).toNat)
  case atStart => exact ⟨0, Nat.zero_le _, rfl, by simp [FFile.wts], by simp [FFile.wts]; omega, Below.refl _ _⟩
  case round =>
    obtain ⟨k, hk, rfl, rfl, hw, hb⟩ := hrel
    by_cases hlt : k < l.length
    · obtain ⟨x, hx⟩ : ∃ x, l[k]? = some x := ⟨_, List.getElem?_eq_getElem hlt⟩
      obtain ⟨bc, offc, rfl, hblc, hcc⟩ := RdC.at_ FFile.len HC.out hx
      have HZ := Lib.hid (HE.out x (List.mem_of_getElem? hx))
      have HT := Lib.hid (FFile.wts_take l k x hx)
      have HL := Lib.hid (FFile.wts_le l (k + 1))
      clear hx
      obtain ⟨z0, z1, z2⟩ := x
      rw [FFile.c_eq] at hcc
      obtain ⟨u0, e0, q0⟩ := hcc 0 _ rfl
      obtain rfl := q0.val
      clear q0
      have c_0 : wr.cell? ⟨bc, offc + k * 3, none⟩ = some (.string z0) := (hb.cell (p := ⟨bc, _, none⟩) hblc).trans (by simpa using e0)
      obtain ⟨u1, e1, q1⟩ := hcc 1 _ rfl
      obtain rfl := q1.val
      clear q1
      have c_1 : wr.cell? ⟨bc, offc + k * 3 + 1, none⟩ = some (.string z1) := (hb.cell (p := ⟨bc, _, none⟩) hblc).trans (by simpa using e1)
      obtain ⟨u2, e2, q2⟩ := hcc 2 _ rfl
      obtain rfl := q2.val
      clear q2
      have c_2 : wr.cell? ⟨bc, offc + k * 3 + 2, none⟩ = some (.int .i64 z2) := (hb.cell (p := ⟨bc, _, none⟩) hblc).trans (by simpa using e2)
      clear hcc e0 e1 e2
      generalize hu : FFile.wts (l.take k) = U at *
      have HU := Lib.hid hu
      clear hu
      generalize hv : FFile.wt ⟨z0, z1, z2⟩ = V at *
      have HV := Lib.hid hv
      clear hv
      by_cases hf : (V : Int) ≤ left - l.length - U
      · have hbp : 0 ≤ bud (left - l.length - U) V := by rw [bud_pos hf]; omega
        have HBP := Lib.hid (bud_pos hf)
        go_wp2_with fail
        refine (HZ.out [.string z0, .string z1, .int .i64 z2] _ _ w.heap.size (by omega) (by omega) (by have := hb.size; omega) (by rw [FFile.c_eq]; exact (RdVs.cons (by unfold RdC; rfl) (RdVs.cons (by unfold RdC; rfl) (RdVs.cons (by unfold RdC; rfl) (RdVs.nil _ _)))))).mono ?_
        rw [HV.out]
        rintro e w2 ⟨rfl, hb2⟩
        go_wp2_with fail
        go_roundw
        case rel =>
          have e := HT.out
          have e9 := HV.out
          rw [← HU.out] at *
          refine ⟨k + 1, by omega, by go_num, ?_, by rw [e, HU.out]; omega, hb.trans (hb2.mono hb.size)⟩
          rw [HBP.out, e, HU.out]
          congr 1
          omega
        case measure => simp [intOf]; omega
      · have hbp : bud (left - l.length - U) V = -1 := bud_neg hf
        have hbn : bud (left - l.length - U) V < 0 := by rw [hbp]; omega
        clear hbp
        go_wp2_with fail
        refine (HZ.out [.string z0, .string z1, .int .i64 z2] _ _ w.heap.size (by omega) (by omega) (by have := hb.size; omega) (by rw [FFile.c_eq]; exact (RdVs.cons (by unfold RdC; rfl) (RdVs.cons (by unfold RdC; rfl) (RdVs.cons (by unfold RdC; rfl) (RdVs.nil _ _)))))).mono ?_
        rw [HV.out]
        rintro e w2 ⟨rfl, hb2⟩
        go_wp2_with fail
        go_ret
        refine ⟨ret_int ?_, hb.trans (hb2.mono hb.size)⟩
        have e := HT.out
        have e2 := HL.out
        have e3 := HU.out
        have e4 := HV.out
        rw [bud_neg (by omega)]
    · obtain rfl : k = l.length := by omega
      clear hlt
      go_wp2_with fail
      go_ret
      refine ⟨ret_int ?_, hb⟩
      rw [List.take_length] at *
      rw [bud_pos (by omega)]
      omega
theorem szFile_any (x : FFile) (hw : x.ok) : SzFile x := by
  obtain ⟨z0, z1, z2⟩ := x
  have hw2 := hw
  rw [FFile.ok_eq] at hw2
  exact szFile_of z0 z1 z2 hw 
theorem szFileS_any (l : List FFile) (hw : FFile.oks l) : SzFileS l := (szFileS_of l (fun x hx => szFile_any x (FFile.oks_mem l hw x hx)))
end Go.Proofs.YtffachcddoechaaDoor
