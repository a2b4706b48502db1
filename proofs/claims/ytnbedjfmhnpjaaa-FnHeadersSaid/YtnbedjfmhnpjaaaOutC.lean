/-
  BufferText of both packages returns what one Lean function says. Conditions: none.
-/
import Derived.Test.YtnbedjfmhnpjaaaOutB
namespace Go.Proofs.Ytnbedjfmhnpjaaa
open Go.ChangeShapes Go.WideShapes Go.ChangeAt Go.RowKit Go.Deep Go.Joins
open Go.ChangeMaps (open_string shut_string)
set_option linter.unusedVariables false
set_option maxRecDepth 100000

def btS (o : Out) : ByteArray := match o.bufs[o.bufs.length - 1]? with | some b => b.a1 | none => ByteArray.empty
def btB (o : Out) : Bool := !o.bufs.isEmpty
theorem btext_impl (o : Out) (v : Value) (w : World) {B : Nat} (hB : B ≤ w.heap.size) (hr : OutR w B v o) (hl : o.bufs.length ≤ 1048576) :
    Calls Try.prog 18 #[v] w fun e w' => e = .returned (.tuple #[.string (btS o), .bool (btB o)]) ∧ Below w.heap.size w w' := by
  obtain ⟨h1, b1, rfl, r1, r2⟩ := hr
  obtain ⟨A1, c1, rfl⟩ := r1.form
  obtain ⟨A2, c2, rfl, q1, q2, q3, hcell⟩ := r2
  clear r1
  by_cases h0 : o.bufs.length = 0
  · have hz : ((o.bufs.length : Int) - 1) < 0 := by omega
    have he : o.bufs = [] := List.eq_nil_of_length_eq_zero h0
    have HS := Lib.hid (show btS o = ByteArray.empty by unfold btS; rw [he]; rfl)
    have HB := Lib.hid (show btB o = false by unfold btB; rw [he]; rfl)
    clear hcell h0 he q3
    go_enter Try.func18, Try.ntmps18
    go_wp2_with fail
    go_ret2
    rw [HS.out, HB.out]
    exact ⟨rfl, (Below.refl _ _).alloc (Nat.le_refl _) _⟩
  · obtain ⟨x, hx⟩ : ∃ x, o.bufs[o.bufs.length - 1]? = some x := ⟨_, List.getElem?_eq_getElem (by omega)⟩
    obtain ⟨b, off, rfl, hb, hc⟩ := Rd.at_ FBuffer.len hcell hx
    have hne : o.bufs.isEmpty = false := by cases h : o.bufs with | nil => rw [h] at h0; exact absurd rfl h0 | cons a r => rfl
    have c1 : w.cell? ⟨b, off + (o.bufs.length - 1) * 2 + 1, none⟩ = some (.string x.a1) := hc 1 _ rfl
    have HS := Lib.hid (show btS o = x.a1 by unfold btS; rw [hx])
    have HB := Lib.hid (show btB o = true by unfold btB; rw [hne]; rfl)
    have hpos : 0 < o.bufs.length := by omega
    have hbw : b < w.heap.size := by omega
    clear hcell hc hx hne q3
    go_enter Try.func18, Try.ntmps18
    go_wp2_with fail
    go_ret2
    rw [HS.out, HB.out]
    exact ⟨rfl, (Below.refl _ _).alloc (Nat.le_refl _) _⟩

theorem three_of {l : List Value} (h : l.length = 3) : ∃ c0 c1 c2, l = [c0, c1, c2] := by
  match l, h with
  | [c0, c1, c2], _ => exact ⟨c0, c1, c2, rfl⟩
theorem small_of_wt {o : Out} (h : ((o.wt : Nat) : Int) ≤ 1048576) : o.small := by unfold Out.wt at h; unfold Out.small; omega
section
variable {H : Type} {enc : TypeId × Value → H}
end
end Go.Proofs.Ytnbedjfmhnpjaaa
