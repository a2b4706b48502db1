/-
  The length of an output: outputTotal and the reference's l20Total return it. Conditions: none.
-/
import Derived.Test.YtnbedjfmhnpjaaaOutF
namespace Go.Proofs.Ytnbedjfmhnpjaaa
open Go.ChangeShapes Go.WideShapes Go.ChangeAt Go.RowKit Go.Deep Go.Joins
open Go.ChangeMaps (open_string shut_string)
set_option linter.unusedVariables false
set_option linter.unusedSimpArgs false
set_option maxRecDepth 100000

def totF (o : Out) : Nat := o.sent.size + FBuffer.wts o.bufs
theorem total_spec (o : Out) (v : Value) (w : World) (l2 : o.bufs.length ≤ 1048576) (ht : totF o ≤ 1000000000000) {B : Nat} (hB : B ≤ w.heap.size) (hr : OutR w B v o) :
    Calls Try.prog 33 #[v] w fun e w' => e = .returned (.int .i64 (totF o)) ∧ Below w.heap.size w w' := by
  obtain ⟨h1, b1, rfl, r1, r2⟩ := hr
  obtain ⟨A1, c1, rfl⟩ := r1.form
  obtain ⟨A2, c2, rfl, q1, q2, q3, hcell⟩ := r2
  have HC := Lib.hid hcell
  have HT := Lib.hid (show totF o = o.sent.size + FBuffer.wts o.bufs from rfl)
  have HTB := Lib.hid ht
  clear r1 hcell q3 ht
  go_enter Try.func33, Try.ntmps33
  go_wp2_with fail
  have bA := Bx.new w 27 (.string o.sent) (.slice A1 o.heads.length c1) (.slice A2 o.bufs.length c2)
  have BA := Lib.hid bA
  clear bA
  go_loopw [3, 4] (fun n i wr => ∃ k : Nat, k ≤ o.bufs.length ∧ i = .int .i64 k ∧ n = .int .i64 ((o.sent.size + FBuffer.wts (o.bufs.take k) : Nat) : Int) ∧ wr = w.alloc (.cells #[.string o.sent, .slice A1 o.heads.length c1, .slice A2 o.bufs.length c2] 27)) (fun _ i _ => o.bufs.length - (intOf i).toNat)
  case atStart => exact ⟨0, Nat.zero_le _, rfl, by simp [FBuffer.wts], rfl⟩
  case round =>
    obtain ⟨k, hk, rfl, rfl, rfl⟩ := hrel
    by_cases hlt : k < o.bufs.length
    · obtain ⟨x, hx⟩ : ∃ x, o.bufs[k]? = some x := ⟨_, List.getElem?_eq_getElem hlt⟩
      obtain ⟨b, off, rfl, hb, hc⟩ := Rd.at_ FBuffer.len HC.out hx
      have hbw : b < w.heap.size := by omega
      have c1' : w.cell? ⟨b, off + k * 2 + 1, none⟩ = some (.string x.a1) := hc 1 _ rfl
      have WT := Lib.hid (FBuffer.wts_take o.bufs k x hx)
      have hbound : o.sent.size + FBuffer.wts (o.bufs.take k) + x.a1.size ≤ 1000000000000 := by
        have e1 := FBuffer.wts_take o.bufs k x hx
        have e2 := FBuffer.wts_le o.bufs (k + 1)
        have e3 := HTB.out
        have e4 := HT.out
        have e5 : x.wt = x.a1.size := rfl
        omega
      have XW := Lib.hid (show x.wt = x.a1.size from rfl)
      clear hc hx
      generalize hu : FBuffer.wts (o.bufs.take k) = U at *
      have HU := Lib.hid hu
      clear hu
      go_wp2_with fail
      go_roundw
      case rel => exact ⟨k + 1, by omega, by go_num, by rw [WT.out, XW.out]; congr 1; omega, by first | rfl | trivial⟩
      case measure => simp [intOf]; omega
    · obtain rfl : k = o.bufs.length := by omega
      clear hlt
      rw [List.take_length]
      go_wp2_with fail
      go_ret
      exact ⟨ret_int (by rw [HT.out]), (Below.refl _ _).alloc (Nat.le_refl _) _⟩
theorem total_impl (o : Out) (v : Value) (w : World) (l2 : o.bufs.length ≤ 1048576) (ht : totF o ≤ 1000000000000) {B : Nat} (hB : B ≤ w.heap.size) (hr : OutR w B v o) :
    Calls Try.prog 37 #[v] w fun e w' => e = .returned (.int .i64 (totF o)) ∧ Below w.heap.size w w' := by
  obtain ⟨h1, b1, rfl, r1, r2⟩ := hr
  obtain ⟨A1, c1, rfl⟩ := r1.form
  obtain ⟨A2, c2, rfl, q1, q2, q3, hcell⟩ := r2
  have HC := Lib.hid hcell
  have HT := Lib.hid (show totF o = o.sent.size + FBuffer.wts o.bufs from rfl)
  have HTB := Lib.hid ht
  clear r1 hcell q3 ht
  go_enter Try.func37, Try.ntmps37
  go_wp2_with fail
  go_loopw [3, 12] (fun n i wr => ∃ k : Nat, k ≤ o.bufs.length ∧ i = .int .i64 k ∧ n = .int .i64 ((o.sent.size + FBuffer.wts (o.bufs.take k) : Nat) : Int) ∧ Below w.heap.size w wr) (fun _ i _ => o.bufs.length - (intOf i).toNat)
  case atStart => exact ⟨0, Nat.zero_le _, rfl, by simp [FBuffer.wts], (Below.refl _ _).alloc (Nat.le_refl _) _⟩
  case round =>
    obtain ⟨k, hk, rfl, rfl, hb0⟩ := hrel
    by_cases hlt : k < o.bufs.length
    · obtain ⟨x, hx⟩ : ∃ x, o.bufs[k]? = some x := ⟨_, List.getElem?_eq_getElem hlt⟩
      obtain ⟨b, off, rfl, hb, hc⟩ := Rd.at_ FBuffer.len HC.out hx
      have c0' : wr.cell? ⟨b, off + k * 2, none⟩ = some (.int .i64 x.a0) := (((bcell hb0).1 _ _ (by omega))).trans (hc 0 _ rfl)
      have c1' : wr.cell? ⟨b, off + k * 2 + 1, none⟩ = some (.string x.a1) := (((bcell hb0).1 _ _ (by omega))).trans (hc 1 _ rfl)
      have WT := Lib.hid (FBuffer.wts_take o.bufs k x hx)
      have hbound : o.sent.size + FBuffer.wts (o.bufs.take k) + x.a1.size ≤ 1000000000000 := by
        have e1 := FBuffer.wts_take o.bufs k x hx
        have e2 := FBuffer.wts_le o.bufs (k + 1)
        have e3 := HTB.out
        have e4 := HT.out
        have e5 : x.wt = x.a1.size := rfl
        omega
      have XW := Lib.hid (show x.wt = x.a1.size from rfl)
      clear hc hx
      generalize hu : FBuffer.wts (o.bufs.take k) = U at *
      have HU := Lib.hid hu
      clear hu
      go_wp2_with fail
      go_roundw
      case rel => exact ⟨k + 1, by omega, by go_num, by rw [WT.out, XW.out]; congr 1; omega, hb0.alloc hb0.size _⟩
      case measure => simp [intOf]; omega
    · obtain rfl : k = o.bufs.length := by omega
      clear hlt
      rw [List.take_length]
      go_wp2_with fail
      go_ret
      exact ⟨ret_int (by rw [HT.out]), hb0⟩
end Go.Proofs.Ytnbedjfmhnpjaaa
