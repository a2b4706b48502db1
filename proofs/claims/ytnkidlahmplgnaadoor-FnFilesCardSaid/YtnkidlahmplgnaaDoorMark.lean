/-
  markText returns the text of a number, for every number. Conditions: none.
-/
import Derived.Test.YtnkidlahmplgnaaDoorMem
namespace Go.Proofs.YtnkidlahmplgnaaDoor
open Go.ChangeShapes Go.WideShapes Go.ChangeAt Go.RowKit Go.Deep Go.Joins
open Go.ChangeMaps (open_string shut_string)
set_option linter.unusedVariables false
set_option maxRecDepth 100000

/-- The decimal digits of k, the last at the end; f bounds their number. -/
def mtL : Nat → Nat → List UInt8
  | 0, _ => []
  | f + 1, k => if k = 0 then [] else mtL f (k / 10) ++ [UInt8.ofNat (48 + k % 10)]
theorem mtL_fuel : ∀ (f g k : Nat), k ≤ f → k ≤ g → mtL f k = mtL g k
  | 0, g, k, hf, hg => by
    obtain rfl : k = 0 := by omega
    cases g <;> simp [mtL]
  | f + 1, 0, k, hf, hg => by
    obtain rfl : k = 0 := by omega
    simp [mtL]
  | f + 1, g + 1, k, hf, hg => by
    unfold mtL
    by_cases h : k = 0
    · simp [h]
    · rw [if_neg h, if_neg h, mtL_fuel f g (k / 10) (by omega) (by omega)]
theorem mtL_step (k : Nat) (h : 0 < k) : mtL k k = mtL (k / 10) (k / 10) ++ [UInt8.ofNat (48 + k % 10)] := by
  obtain ⟨m, rfl⟩ : ∃ m, k = m + 1 := ⟨k - 1, by omega⟩
  rw [mtL, if_neg (by omega), mtL_fuel m _ _ (by omega) (Nat.le_refl _)]
def mt (k : Int) : ByteArray := if k ≤ 0 then ⟨#[109, 48]⟩ else ⟨(109 :: mtL k.toNat k.toNat).toArray⟩
theorem mtL_len : ∀ (f k n : Nat), k < 10 ^ n → (mtL f k).length ≤ n
  | 0, k, n, h => by simp [mtL]
  | f + 1, k, 0, h => by
    obtain rfl : k = 0 := by simpa using h
    simp [mtL]
  | f + 1, k, n + 1, h => by
    unfold mtL
    split
    · simp
    · rw [List.length_append]
      have := mtL_len f (k / 10) n (by rw [Nat.pow_succ] at h; omega)
      simp only [List.length_cons, List.length_nil]
      omega
end Go.Proofs.YtnkidlahmplgnaaDoor
