/-
  What slices.Sort and slices.Compact leave at a row of numbers that the call owns: the library's contracts laid at this program. Conditions: none.
-/
import Derived.Test.YtlglndcbkhojaaaMem
import Derived.Ground.NamesProg
import Derived.Ground.Names2Prog
import Derived.Shelf.Lay
import Derived.Shelf.Sort.Plain
import Derived.Shelf.Slices.In.CompactI
import Derived.Sort.OwnSorted
import Derived.Sort.Grow
import Derived.Lib.OwnBridge
namespace Go.Proofs.Ytlglndcbkhojaaa
open Go.ChangeShapes Go.WideShapes Go.ChangeAt Go.RowKit Go.Deep Go.Joins Go.Shelf Go.Sort
set_option linter.unusedVariables false
shelf_lay Lays.n189 Nm 189 at Try as laysSortI
shelf_lay Lays2.n20 Nm2 20 at Try as laysCompactI
def srt (l : List Int) : List Int := l.mergeSort fun x y => decide (x ≤ y)
theorem sortInt_any (l : List Int) (w : World) {base g cap : Nat} {e : TypeId} (h : w.ownsRow base e 1 (.slice (some ⟨g, 0, none⟩) l.length cap) l.length (l.map (Value.int .i64))) (hl : l.length ≤ 1000000000) :
    Calls Try.prog 70 #[.slice (some ⟨g, 0, none⟩) l.length cap] w fun r w' => r = .returned (.tuple #[]) ∧ w'.ownsRow base e 1 (.slice (some ⟨g, 0, none⟩) l.length cap) l.length ((srt l).map (Value.int .i64)) ∧ w.grownBy w' (some g) := by
  obtain ⟨g', cap', hv, hbg, hgl, hnc, hcm, hlen, hH⟩ := Lib.holds_of_ownsRow h (by simp)
  injection hv with e1 _ e3
  injection e1 with e1
  injection e1 with e1 _ _
  subst e1 e3
  refine (Any.slices_Sort_int laysSortI g 0 cap l w hH hgl (by omega)).mono ?_
  rintro r w' ⟨rfl, n, os, rfl⟩
  have hr := Lib.ownsRow_putRow (q := n) (k := l.length) (ys := srt l) h (List.length_mergeSort l) (Nat.le_refl _)
  rw [List.take_of_length_le (by rw [srt, List.length_mergeSort]; exact Nat.le_refl _)] at hr
  refine ⟨rfl, own_keep hr fun b hb => heap_grow_old _ _ (own_lt hr b hb).2, rfl, rfl, rfl, by simp, fun k hk hne => ?_⟩
  rw [heap_grow_old _ _ (by simpa using hk)]
  have : g ≠ k := fun e => hne (by rw [e])
  simp [putRow, mapBlock, Sort.ahead, Array.getElem?_modify, this]
theorem compactInt_any (l : List Int) (w : World) {base g cap : Nat} {e : TypeId} (h : w.ownsRow base e 1 (.slice (some ⟨g, 0, none⟩) l.length cap) l.length (l.map (Value.int .i64))) (hl : l.length ≤ 1000000000) :
    Calls Try.prog 71 #[.slice (some ⟨g, 0, none⟩) l.length cap] w fun r w' => r = .returned (.slice (some ⟨g, 0, none⟩) (Lib.compact l).length cap) ∧ w'.ownsRow base e 1 (.slice (some ⟨g, 0, none⟩) (Lib.compact l).length cap) (Lib.compact l).length ((Lib.compact l).map (Value.int .i64)) ∧ w.grownBy w' (some g) := by
  obtain ⟨g', cap', hv, hbg, hgl, hnc, hcm, hlen, hH⟩ := Lib.holds_of_ownsRow h (by simp)
  injection hv with e1 _ e3
  injection e1 with e1
  injection e1 with e1 _ _
  subst e1 e3
  refine (calls_of_every_depth fun D => AnyS.slices_Compact_int_in laysCompactI D g 0 cap l w hH (by omega) (by omega)).mono ?_
  rintro r w' ⟨rfl, q, rfl⟩
  have hle := Lib.compact_length_le l
  have hr := Lib.ownsRow_putRow (q := q) (k := (Lib.compact l).length) (ys := Lib.compact l ++ List.replicate (l.length - (Lib.compact l).length) 0) h (by simp; omega) hle
  rw [List.take_left] at hr
  refine ⟨rfl, hr, rfl, rfl, rfl, by simp [putRow, mapBlock, Sort.ahead], fun k hk hne => ?_⟩
  have : g ≠ k := fun e => hne (by rw [e])
  simp [putRow, mapBlock, Sort.ahead, Array.getElem?_modify, this]
end Go.Proofs.Ytlglndcbkhojaaa
