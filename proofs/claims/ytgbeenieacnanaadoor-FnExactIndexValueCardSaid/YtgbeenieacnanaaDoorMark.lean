/-
  markText returns the text of a number, for every number. Conditions: none.
-/
import Derived.Test.YtgbeenieacnanaaDoorMem
namespace Go.Proofs.YtgbeenieacnanaaDoor
open Go.ChangeShapes Go.WideShapes Go.ChangeAt Go.RowKit Go.Deep Go.Joins
open Go.ChangeMaps (open_string shut_string)
set_option linter.unusedVariables false
set_option maxRecDepth 100000

/-- The decimal digits of k, the last at the end; f bounds their number. -/
def mtL : Nat → Nat → List UInt8
  | 0, _ => []
  | f + 1, k => if k = 0 then [] else mtL f (k / 10) ++ [UInt8.ofNat (48 + k % 10)]
theorem mtL_fuel : ∀ (f g k : Nat), k ≤ f → k ≤ g → mtL f k = mtL g k
  | 0, g, k, hf, hg => by
    obtain rfl : k = 0 := by omega
    cases g <;> simp [mtL]
  | f + 1, 0, k, hf, hg => by
    obtain rfl : k = 0 := by omega
    simp [mtL]
  | f + 1, g + 1, k, hf, hg => by
    unfold mtL
    by_cases h : k = 0
    · simp [h]
    · rw [if_neg h, if_neg h, mtL_fuel f g (k / 10) (by omega) (by omega)]
theorem mtL_step (k : Nat) (h : 0 < k) : mtL k k = mtL (k / 10) (k / 10) ++ [UInt8.ofNat (48 + k % 10)] := by
  obtain ⟨m, rfl⟩ : ∃ m, k = m + 1 := ⟨k - 1, by omega⟩
  rw [mtL, if_neg (by omega), mtL_fuel m _ _ (by omega) (Nat.le_refl _)]
def mt (k : Int) : ByteArray := if k ≤ 0 then ⟨#[109, 48]⟩ else ⟨(109 :: mtL k.toNat k.toNat).toArray⟩
theorem mtL_len : ∀ (f k n : Nat), k < 10 ^ n → (mtL f k).length ≤ n
  | 0, k, n, h => by simp [mtL]
  | f + 1, k, 0, h => by
    obtain rfl : k = 0 := by simpa using h
    simp [mtL]
  | f + 1, k, n + 1, h => by
    unfold mtL
    split
    · simp
    · rw [List.length_append]
      have := mtL_len f (k / 10) n (by rw [Nat.pow_succ] at h; omega)
      simp only [List.length_cons, List.length_nil]
      omega
theorem markText_any (k : Int) (w : World) (h1 : k ≤ 1000000000000000) : Calls Tryd.prog 50 #[.int .i64 k] w fun e w' => e = .returned (.string (mt k)) ∧ Below w.heap.size w w' := by
  by_cases h0 : k ≤ 0
  · go_enter Tryd.func50, Tryd.ntmps50
    go_wp2
    go_ret
    exact ⟨ret_str (by unfold mt; rw [if_pos h0]), Below.refl _ _⟩
  · obtain ⟨n, rfl⟩ : ∃ n : Nat, k = n := ⟨k.toNat, by omega⟩
    have hn : n ≤ 1000000000000000 := by omega
    have hpos : 0 < n := by omega
    clear h1
    go_enter Tryd.func50, Tryd.ntmps50
    go_wp2
    go_loopw [0, 3] (fun a o wr => ∃ (m : Nat) (t : List UInt8), m ≤ n ∧ a = .int .i64 m ∧ o = .string ⟨t.toArray⟩ ∧ mtL m m ++ t = mtL n n ∧ Below w.heap.size w wr) (fun a _ _ => (intOf a).toNat)
    case atStart => exact ⟨n, [], Nat.le_refl _, rfl, rfl, by simp, Below.refl _ _⟩
    case round =>
      obtain ⟨m, t, hm, rfl, rfl, hmt, hb⟩ := hrel
      have htl : t.length ≤ 16 := by
        have e := congrArg List.length hmt
        rw [List.length_append] at e
        have := mtL_len n n 16 (by omega)
        omega
      have HM := Lib.hid hmt
      clear hmt
      by_cases hm0 : 0 < m
      · have hcv := conv1 (P := Tryd.prog) wr 84 5 9 Tryd.underlying84 Tryd.underlying5 Tryd.underlying9 (48 + (m : Int) % 10) (UInt8.ofNat (48 + m % 10)) (by congr 1)
        go_wp2
        go_roundw
        case rel =>
          refine ⟨m / 10, UInt8.ofNat (48 + m % 10) :: t, by omega, by go_num, ?_, ?_, hb.alloc hb.size _⟩
          · rw [show UInt8.ofNat (48 + m % 10) = 48 + UInt8.ofNat (m % 10) by simp]
            exact congrArg Value.string (str_cons _ t)
          · rw [← HM.out, mtL_step m hm0]
            simp
        case measure => simp [intOf]; omega
      · obtain rfl : m = 0 := by omega
        go_wp2
        go_ret
        refine ⟨ret_str ?_, hb⟩
        unfold mt
        rw [if_neg (by omega), Int.toNat_natCast, ← HM.out]
        rfl
end Go.Proofs.YtgbeenieacnanaaDoor
