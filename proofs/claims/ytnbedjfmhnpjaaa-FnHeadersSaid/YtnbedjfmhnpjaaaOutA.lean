/-
  Headers and buffers: what the laws' conversions, sizes and comparisons return. Conditions: none.
-/
import Derived.Test.YtnbedjfmhnpjaaaMark
namespace Go.Proofs.Ytnbedjfmhnpjaaa
open Go.ChangeShapes Go.WideShapes Go.ChangeAt Go.RowKit Go.Deep Go.Joins
open Go.ChangeMaps (open_string shut_string)
set_option linter.unusedVariables false

/-! ### Header -/
structure FHeader where
  a0 : ByteArray
  a1 : ByteArray
instance : Inhabited FHeader := ⟨⟨ByteArray.empty, ByteArray.empty⟩⟩
def FHeader.cells (x : FHeader) : List Value := [.string x.a0, .string x.a1]
theorem FHeader.len (x : FHeader) : x.cells.length = 2 := rfl
abbrev FHeader.flat (l : List FHeader) : List Value := l.flatMap FHeader.cells
theorem infoHeader : (Try.prog.info? 35).map (fun i => (i.zero.map Value.cells, i.size, i.bytes)) = some (some #[.string ByteArray.empty, .string ByteArray.empty], 2, 32) := by kernel_rfl
theorem FHeader.one (l : List FHeader) : ∀ u ∈ FHeader.flat l, u.oneCell' = true := by  -- oneFlat
  intro u hu
  obtain ⟨x, _, hx⟩ := List.mem_flatMap.1 hu
  simp only [FHeader.cells, List.mem_cons, List.not_mem_nil, or_false] at hx
  rcases hx with rfl | rfl <;> rfl
set_option maxRecDepth 100000 in
theorem cloneHeader_any (l : List FHeader) (v : Value) (w : World) (hl : l.length ≤ 1048576) {B : Nat} (hB : B ≤ w.heap.size) (hr : Rd w B 2 v l.length (FHeader.flat l)) :
    Calls Try.prog 47 #[v] w fun e w' => ∃ A c, e = .returned (.slice A l.length c) ∧ w'.ownsRow w.heap.size 35 2 (.slice A l.length c) l.length (FHeader.flat l) ∧ Below w.heap.size w w' := by
  obtain ⟨A, c, rfl⟩ := hr.form
  have hnil := fun W => Lib.run_eql_slice_nil (P := Try.prog) W 24 35 A l.length c 0 0 Try.underlying24
  cases A with
  | none =>
    have h0 : l.length = 0 := by
      obtain ⟨A, c', hA, _, _, _, hc⟩ := hr
      rcases Nat.eq_zero_or_pos l.length with h | h
      · exact h
      · obtain ⟨b, off, hb, _⟩ := hc h
        simp only [Value.slice.injEq] at hA
        rw [← hA.1] at hb
        cases hb
    have he : l = [] := List.eq_nil_of_length_eq_zero h0
    clear hr h0
    subst he
    have hnil0 := fun W => Lib.run_eql_slice_nil (P := Try.prog) W 24 35 none 0 c 0 0 Try.underlying24
    clear hnil
    go_enter Try.func47, Try.ntmps47
    go_wp2_with fail
    go_ret
    exact ⟨none, 0, rfl, World.ownsRow_nil _ _ _ _, Below.refl _ _⟩
  | some ad =>
    have HR := Lib.hid hr
    have HL := Lib.hid hl
    clear hr hl
    go_enter Try.func47, Try.ntmps47
    go_wp2_with (at_builtin; refine wpList_append_rd _ rfl _ _ _ rfl w.heap.size _ _ _ 32 Try.underlying24 infoHeader rfl (by omega) (.slice (some ⟨w.heap.size, 0, none⟩) 0 0) 0 [] rfl (own_empty w _ _) B _ l.length _ _ rfl (HR.out.below ((Below.refl _ _).alloc (Nat.le_refl _) _) hB) (FHeader.one l) (by have := HL.out; unfold maxLen; omega) (by have := HL.out; omega) (by simp) ?_; intro v1 w1 hown1 hg1 hat1; obtain ⟨A1, k1, rfl⟩ := own_form hown1; rw [Nat.zero_add, List.nil_append] at hown1)
    go_ret
    exact ⟨A1, k1, by simp, hown1, (((Below.refl w.heap.size w).alloc (Nat.le_refl _) _).grown hg1 (by simp) (fun k hk => Nat.le_of_eq (by simpa [Value.ownBlock] using hk)))⟩
def FHeader.wt (x : FHeader) : Nat := x.a0.size + x.a1.size
def FHeader.wts (l : List FHeader) : Nat := (l.map FHeader.wt).sum
def FHeader.ok (x : FHeader) : Prop := x.a0.size ≤ 9223372036854775807 ∧ x.a1.size ≤ 9223372036854775807
theorem FHeader.wts_take (l : List FHeader) (k : Nat) (x : FHeader) (h : l[k]? = some x) : FHeader.wts (l.take (k + 1)) = FHeader.wts (l.take k) + x.wt := by
  unfold FHeader.wts
  rw [List.take_add_one, h]
  simp
theorem FHeader.wts_le (l : List FHeader) (k : Nat) : FHeader.wts (l.take k) ≤ FHeader.wts l := by
  have : FHeader.wts l = FHeader.wts (l.take k) + FHeader.wts (l.drop k) := by
    unfold FHeader.wts
    rw [← List.sum_append, ← List.map_append, List.take_append_drop]
  omega

/-! ### Buffer -/
structure FBuffer where
  a0 : Int
  a1 : ByteArray
instance : Inhabited FBuffer := ⟨⟨0, ByteArray.empty⟩⟩
def FBuffer.cells (x : FBuffer) : List Value := [.int .i64 x.a0, .string x.a1]
theorem FBuffer.len (x : FBuffer) : x.cells.length = 2 := rfl
abbrev FBuffer.flat (l : List FBuffer) : List Value := l.flatMap FBuffer.cells
theorem infoBuffer : (Try.prog.info? 61).map (fun i => (i.zero.map Value.cells, i.size, i.bytes)) = some (some #[.int .i64 0, .string ByteArray.empty], 2, 24) := by kernel_rfl
theorem FBuffer.one (l : List FBuffer) : ∀ u ∈ FBuffer.flat l, u.oneCell' = true := by  -- oneFlat
  intro u hu
  obtain ⟨x, _, hx⟩ := List.mem_flatMap.1 hu
  simp only [FBuffer.cells, List.mem_cons, List.not_mem_nil, or_false] at hx
  rcases hx with rfl | rfl <;> rfl
set_option maxRecDepth 100000 in
theorem cloneBuffer_any (l : List FBuffer) (v : Value) (w : World) (hl : l.length ≤ 1048576) {B : Nat} (hB : B ≤ w.heap.size) (hr : Rd w B 2 v l.length (FBuffer.flat l)) :
    Calls Try.prog 48 #[v] w fun e w' => ∃ A c, e = .returned (.slice A l.length c) ∧ w'.ownsRow w.heap.size 61 2 (.slice A l.length c) l.length (FBuffer.flat l) ∧ Below w.heap.size w w' := by
  obtain ⟨A, c, rfl⟩ := hr.form
  have hnil := fun W => Lib.run_eql_slice_nil (P := Try.prog) W 25 61 A l.length c 0 0 Try.underlying25
  cases A with
  | none =>
    have h0 : l.length = 0 := by
      obtain ⟨A, c', hA, _, _, _, hc⟩ := hr
      rcases Nat.eq_zero_or_pos l.length with h | h
      · exact h
      · obtain ⟨b, off, hb, _⟩ := hc h
        simp only [Value.slice.injEq] at hA
        rw [← hA.1] at hb
        cases hb
    have he : l = [] := List.eq_nil_of_length_eq_zero h0
    clear hr h0
    subst he
    have hnil0 := fun W => Lib.run_eql_slice_nil (P := Try.prog) W 25 61 none 0 c 0 0 Try.underlying25
    clear hnil
    go_enter Try.func48, Try.ntmps48
    go_wp2_with fail
    go_ret
    exact ⟨none, 0, rfl, World.ownsRow_nil _ _ _ _, Below.refl _ _⟩
  | some ad =>
    have HR := Lib.hid hr
    have HL := Lib.hid hl
    clear hr hl
    go_enter Try.func48, Try.ntmps48
    go_wp2_with (at_builtin; refine wpList_append_rd _ rfl _ _ _ rfl w.heap.size _ _ _ 24 Try.underlying25 infoBuffer rfl (by omega) (.slice (some ⟨w.heap.size, 0, none⟩) 0 0) 0 [] rfl (own_empty w _ _) B _ l.length _ _ rfl (HR.out.below ((Below.refl _ _).alloc (Nat.le_refl _) _) hB) (FBuffer.one l) (by have := HL.out; unfold maxLen; omega) (by have := HL.out; omega) (by simp) ?_; intro v1 w1 hown1 hg1 hat1; obtain ⟨A1, k1, rfl⟩ := own_form hown1; rw [Nat.zero_add, List.nil_append] at hown1)
    go_ret
    exact ⟨A1, k1, by simp, hown1, (((Below.refl w.heap.size w).alloc (Nat.le_refl _) _).grown hg1 (by simp) (fun k hk => Nat.le_of_eq (by simpa [Value.ownBlock] using hk)))⟩
def FBuffer.wt (x : FBuffer) : Nat := x.a1.size
def FBuffer.wts (l : List FBuffer) : Nat := (l.map FBuffer.wt).sum
def FBuffer.ok (x : FBuffer) : Prop := x.a1.size ≤ 9223372036854775807
theorem FBuffer.wts_take (l : List FBuffer) (k : Nat) (x : FBuffer) (h : l[k]? = some x) : FBuffer.wts (l.take (k + 1)) = FBuffer.wts (l.take k) + x.wt := by
  unfold FBuffer.wts
  rw [List.take_add_one, h]
  simp
theorem FBuffer.wts_le (l : List FBuffer) (k : Nat) : FBuffer.wts (l.take k) ≤ FBuffer.wts l := by
  have : FBuffer.wts l = FBuffer.wts (l.take k) + FBuffer.wts (l.drop k) := by
    unfold FBuffer.wts
    rw [← List.sum_append, ← List.map_append, List.take_append_drop]
  omega
end Go.Proofs.Ytnbedjfmhnpjaaa
