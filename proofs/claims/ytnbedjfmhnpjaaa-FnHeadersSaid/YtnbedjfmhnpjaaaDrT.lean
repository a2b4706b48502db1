/-
  l4Text: some short text. Conditions: none.
-/
import Derived.Test.YtnbedjfmhnpjaaaDrw
namespace Go.Proofs.Ytnbedjfmhnpjaaa
open Go.ChangeShapes Go.WideShapes Go.ChangeAt Go.RowKit Go.Deep Go.Joins
open Go.ChangeMaps (open_string shut_string)
set_option linter.unusedVariables false
set_option linter.unusedSimpArgs false
set_option maxRecDepth 100000
/-- One of the strings of a row that lies in a block of its own. -/
theorem l1StrK (g B X m M : Nat) (cs : Array Value) (T : TypeId) (w : World) (h1 : 1 ≤ m) (h2 : m ≤ 256) (hcs : strRowB cs m M = true) (hc : Cur w g B) (hb : Blk w X T cs) (hX : X ≠ g) :
    Calls Try.prog 25 #[.pointer (some ⟨g, 0, none⟩), .slice (some ⟨X, 0, none⟩) m m] w fun e w' => (∃ s : ByteArray, s.size ≤ M ∧ e = .returned (.string s)) ∧ Cur w' g B ∧ Only g (g + 1) w.heap.size w w' := by
  refine (l1Str_any g B X m m (sAt cs) h1 h2 w hc hb.lt hX (fun k hk => (hb.cell k).trans (strRow_at hcs hk).1)).mono ?_
  rintro e w' ⟨⟨k, hk, rfl⟩, hc', ho⟩
  exact ⟨⟨_, (strRow_at hcs hk).2, rfl⟩, hc', ho⟩
set_option maxHeartbeats 2000000 in
theorem l4Text_any (g B : Nat) (w : World) (hc : Cur w g B) : Calls Try.prog 26 #[.pointer (some ⟨g, 0, none⟩)] w fun e w' => (∃ s : ByteArray, s.size ≤ 100 ∧ e = .returned (.string s)) ∧ Cur w' g B ∧ Only g (g + 1) w.heap.size w w' := by
  have HC := Lib.hid hc
  clear hc
  go_enter Try.func26, Try.ntmps26
  go_wp2_with (go_at_call 42; refine (l1Below_any g B 5 (by decide) (by decide) _ HC.out).mono ?_; rintro e w1 ⟨⟨x, hx, rfl⟩, hc1, ho1⟩)
  go_loopw [3, 4] (fun sv kv wr => ∃ (k : Nat) (s : ByteArray), s.size + 6 * k ≤ 30 ∧ sv = .string s ∧ kv = .int .i64 k ∧ Cur wr g B ∧ Only g (g + 1) w.heap.size w wr) (fun _ kv _ => (intOf kv).toNat)
  case atStart => exact ⟨x, ByteArray.empty, by show 0 + _ ≤ _; omega, rfl, rfl, hc1, ho1⟩
  case round =>
    obtain ⟨k, s, hk, rfl, rfl, hcr, hor⟩ := hrel
    have HR := Lib.hid hcr
    have HO := Lib.hid hor
    clear hcr hor hc1 ho1
    have hs : s.size ≤ 30 := by omega
    by_cases h0 : 0 < k
    · have hd : decide ((k : Int) > 0) = true := by simpa using h0
      have hk0 : (k : Int) > 0 := by omega
      go_wp2_with (go_at_call 25; refine (l1StrL g B _ 6 _ _ _ (by decide) (by decide) (by kernel_rfl) HR.out).mono ?_; rintro e w2 ⟨⟨t, ht, rfl⟩, hc2, ho2⟩)
      go_roundw
      case rel => exact ⟨k - 1, s ++ t, by simp; omega, rfl, by go_num, hc2, HO.out.trans (ho2.less HO.out.size)⟩
      case measure => simp [intOf]; omega
    · have hk0 : ¬ (k : Int) > 0 := by omega
      go_wp2_with fail
      go_ret
      exact ⟨⟨s, by omega, rfl⟩, HR.out, HO.out⟩
end Go.Proofs.Ytnbedjfmhnpjaaa
