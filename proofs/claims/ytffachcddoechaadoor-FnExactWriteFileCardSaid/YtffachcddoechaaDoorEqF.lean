/-
  File: the comparisons of the laws say yes where both read alike. Conditions: none.
-/
import Derived.Test.YtffachcddoechaaDoorDataF
namespace Go.Proofs.YtffachcddoechaaDoor
open Go.ChangeShapes Go.WideShapes Go.ChangeAt Go.RowKit Go.Deep Go.Joins
open Go.ChangeMaps (open_string shut_string)
set_option linter.unusedVariables false
set_option linter.unusedSimpArgs false
set_option maxRecDepth 100000
def EqFile (x : FFile) : Prop := ∀ (us vs : List Value) (w : World), RdVs w w.heap.size x.c us → RdVs w w.heap.size x.c vs → Calls Tryd.prog 42 #[.agg us.toArray, .agg vs.toArray] w fun e w' => e = .returned (.bool true) ∧ Below w.heap.size w w'
def EqFileS (l : List FFile) : Prop := ∀ (u v : Value) (w : World), RdC w w.heap.size (.s 49 3 l.length (FFile.flat l)) u → RdC w w.heap.size (.s 49 3 l.length (FFile.flat l)) v → Calls Tryd.prog 23 #[u, v] w fun e w' => e = .returned (.bool true) ∧ Below w.heap.size w w'
set_option maxHeartbeats 1000000 in
theorem eqFile_of (z0 : ByteArray) (z1 : ByteArray) (z2 : Int)  : EqFile ⟨z0, z1, z2⟩ := by
  intro us vs w hr hs
  rw [FFile.c_eq] at hr hs
  obtain ⟨us0, rfl, hr_0⟩ := hr.unv
  obtain ⟨us1, rfl, hr_1⟩ := hr_0.unv
  obtain ⟨us2, rfl, hr_2⟩ := hr_1.unv
  obtain rfl := hr_2.un0
  obtain ⟨vs0, rfl, hs_0⟩ := hs.unv
  obtain ⟨vs1, rfl, hs_1⟩ := hs_0.unv
  obtain ⟨vs2, rfl, hs_2⟩ := hs_1.unv
  obtain rfl := hs_2.un0
  clear hr hs hr_0 hs_0 hr_1 hs_1 hr_2 hs_2
  go_enter Tryd.func42, Tryd.ntmps42
  go_wp2_with fail
  go_ret
  exact ⟨rfl, by repeat (first | exact Below.refl _ _ | (refine Below.alloc ?_ (by simp; try omega) _))⟩
set_option maxHeartbeats 1000000 in
theorem eqFileS_of (l : List FFile) (hl : l.length ≤ 1000000000) (he : ∀ x, x ∈ l → EqFile x) : EqFileS l := by
  intro u v w hu hv
  obtain ⟨A, c, rfl⟩ := hu.form
  obtain ⟨A', c', rfl⟩ := hv.form
  have HC := Lib.hid hu
  have HD := Lib.hid hv
  have hn : l.length ≤ 9223372036854775807 := by omega
  have HE := Lib.hid he
  clear he
  clear hu hv
  go_enter Tryd.func23, Tryd.ntmps23
  go_wp2
  go_loopw [5] (fun i wr => ∃ k : Nat, k ≤ l.length ∧ i = .int .i64 k ∧ Below w.heap.size w wr) (fun i _ => l.length - (intOf i).toNat)
  case atStart => exact ⟨0, Nat.zero_le _, rfl, Below.refl _ _⟩
  case round =>
    obtain ⟨k, hk, rfl, hb⟩ := hrel
    by_cases hlt : k < l.length
    · obtain ⟨x, hx⟩ : ∃ x, l[k]? = some x := ⟨_, List.getElem?_eq_getElem hlt⟩
      obtain ⟨bc, offc, rfl, hblc, hcc⟩ := RdC.at_ FFile.len HC.out hx
      obtain ⟨bd, offd, rfl, hbld, hcd⟩ := RdC.at_ FFile.len HD.out hx
      have HE2 := Lib.hid (HE.out x (List.mem_of_getElem? hx))
      clear hx
      obtain ⟨z0, z1, z2⟩ := x
      rw [FFile.c_eq] at hcc hcd
      obtain ⟨u0, e0, q0⟩ := hcc 0 _ rfl
      obtain rfl := q0.val
      clear q0
      have c_0 : wr.cell? ⟨bc, offc + k * 3, none⟩ = some (.string z0) := (hb.cell (p := ⟨bc, _, none⟩) hblc).trans (by simpa using e0)
      clear e0
      obtain ⟨u1, e1, q1⟩ := hcc 1 _ rfl
      obtain rfl := q1.val
      clear q1
      have c_1 : wr.cell? ⟨bc, offc + k * 3 + 1, none⟩ = some (.string z1) := (hb.cell (p := ⟨bc, _, none⟩) hblc).trans (by simpa using e1)
      clear e1
      obtain ⟨u2, e2, q2⟩ := hcc 2 _ rfl
      obtain rfl := q2.val
      clear q2
      have c_2 : wr.cell? ⟨bc, offc + k * 3 + 2, none⟩ = some (.int .i64 z2) := (hb.cell (p := ⟨bc, _, none⟩) hblc).trans (by simpa using e2)
      clear e2
      obtain ⟨u0, e0, q0⟩ := hcd 0 _ rfl
      obtain rfl := q0.val
      clear q0
      have d_0 : wr.cell? ⟨bd, offd + k * 3, none⟩ = some (.string z0) := (hb.cell (p := ⟨bd, _, none⟩) hbld).trans (by simpa using e0)
      clear e0
      obtain ⟨u1, e1, q1⟩ := hcd 1 _ rfl
      obtain rfl := q1.val
      clear q1
      have d_1 : wr.cell? ⟨bd, offd + k * 3 + 1, none⟩ = some (.string z1) := (hb.cell (p := ⟨bd, _, none⟩) hbld).trans (by simpa using e1)
      clear e1
      obtain ⟨u2, e2, q2⟩ := hcd 2 _ rfl
      obtain rfl := q2.val
      clear q2
      have d_2 : wr.cell? ⟨bd, offd + k * 3 + 2, none⟩ = some (.int .i64 z2) := (hb.cell (p := ⟨bd, _, none⟩) hbld).trans (by simpa using e2)
      clear e2
      clear hcc hcd
      go_wp2_with fail
      go_still_tail 8, (by kernel_rfl)
      have hbd : Below w.heap.size w wr.drew := hb.drew
      change wpList _ _ _ _ _ wr.drew
      generalize wr.drew = wd at *
      go_wp2_with (go_at_call 42; refine (HE2.out [.string z0, .string z1, .int .i64 z2] [.string z0, .string z1, .int .i64 z2] _ (by rw [FFile.c_eq]; exact (RdVs.cons (by unfold RdC; rfl) (RdVs.cons (by unfold RdC; rfl) (RdVs.cons (by unfold RdC; rfl) (RdVs.nil _ _))))) (by rw [FFile.c_eq]; exact (RdVs.cons (by unfold RdC; rfl) (RdVs.cons (by unfold RdC; rfl) (RdVs.cons (by unfold RdC; rfl) (RdVs.nil _ _)))))).mono ?_; rintro e w2 ⟨rfl, hb2⟩)
      go_roundw
      case rel => exact ⟨k + 1, by omega, by go_num, hbd.trans (hb2.mono hbd.size)⟩
      case measure => simp [intOf]; omega
    · obtain rfl : k = l.length := by omega
      clear hlt
      go_wp2_with fail
      go_ret
      exact ⟨rfl, hb⟩
theorem eqFile_any (x : FFile) (hw : x.wt ≤ 1000000000) : EqFile x := by
  obtain ⟨z0, z1, z2⟩ := x
  exact eqFile_of z0 z1 z2 
theorem eqFileS_any (l : List FFile) (hw : l.length + FFile.wts l ≤ 1000000000) : EqFileS l := (eqFileS_of l (by omega) (fun x hx => eqFile_any x (by have := FFile.wts_at l x hx; omega)))
end Go.Proofs.YtffachcddoechaaDoor
