/-
  TargetsOf: plain; what HasTarget returns. Conditions: none.
-/
import Derived.Test.YtlglndcbkhojaaaTgtP
import Derived.Test.YtlglndcbkhojaaaDataP
import Derived.Test.YtlglndcbkhojaaaDeep
namespace Go.Proofs.Ytlglndcbkhojaaa
open Go.ChangeShapes Go.WideShapes Go.ChangeAt Go.RowKit Go.Deep Go.Joins
open Go.ChangeMaps (open_string shut_string)
set_option linter.unusedVariables false
set_option linter.unusedSimpArgs false
set_option maxRecDepth 100000
def htF (op : Int) : Bool := op == 27 || op == 28 || op == 29 || op == 44 || op == 45 || op == 49 || op == 52
theorem ht_spec (op : Int) (w : World) : Calls Try.prog 58 #[.int .i64 op] w fun e w' => e = .returned (.bool (htF op)) ∧ w = w' := by
  go_enter Try.func58, Try.ntmps58
  go_wp2
  all_goals
    go_ret
    exact ⟨ret_bool (by simp_all [htF]), rfl⟩
theorem ht_impl (op : Int) (w : World) : Calls Try.prog 65 #[.int .i64 op] w fun e w' => e = .returned (.bool (htF op)) ∧ w = w' := by
  go_enter Try.func65, Try.ntmps65
  go_wp2
  all_goals
    go_ret
    exact ⟨ret_bool (by simp_all [htF]), rfl⟩
def tgtOne (n : Nat) (x : FIns) : List Int := if htF x.a0 = true ∧ 0 ≤ x.a1 ∧ x.a1 < (n : Int) then [x.a1] else []
def tgts (l : List FIns) (n k : Nat) : List Int := (l.take k).flatMap (tgtOne n)
theorem tgts_succ (l : List FIns) (n k : Nat) (x : FIns) (h : l[k]? = some x) : tgts l n (k + 1) = tgts l n k ++ tgtOne n x := by
  unfold tgts
  rw [List.take_add_one, h]
  simp
theorem tgtOne_len (n : Nat) (x : FIns) : (tgtOne n x).length ≤ 1 := by
  unfold tgtOne
  split <;> simp
theorem tgts_len (l : List FIns) (n : Nat) : ∀ k, (tgts l n k).length ≤ k
  | 0 => by simp [tgts]
  | k + 1 => by
    have ih := tgts_len l n k
    cases h : l[k]? with
    | none =>
      have e : l.take (k + 1) = l.take k := by rw [List.take_add_one, h]; simp
      unfold tgts at ih ⊢
      rw [e]
      omega
    | some x =>
      rw [tgts_succ l n k x h, List.length_append]
      have := tgtOne_len n x
      omega
def spI (i : Int) (x : FIns) : Bool := htF x.a0 && x.a1 == i
/-- The targets inside the code, each once, in order. -/
def tgF (l : List FIns) : List Int := ((List.range l.length).map (fun (i : Nat) => (i : Int))).filter (fun i => l.any (spI i))
theorem tg_impl (l : List FIns) : Lib.compact (srt (tgts l l.length l.length)) = tgF l := by
  have hm : ∀ x, x ∈ tgts l l.length l.length ↔ (0 ≤ x ∧ x < (l.length : Int)) ∧ l.any (spI x) = true := by
    intro x
    unfold tgts
    rw [List.take_length, List.mem_flatMap, List.any_eq_true]
    constructor
    · rintro ⟨y, hi, hx⟩
      unfold tgtOne at hx
      split at hx
      · rename_i hc
        have e : x = y.a1 := by simpa using hx
        subst e
        exact ⟨hc.2, y, hi, by unfold spI; simp [hc.1]⟩
      · cases hx
    · rintro ⟨hx, y, hi, hs⟩
      unfold spI at hs
      simp at hs
      obtain ⟨h1, rfl⟩ := hs
      exact ⟨y, hi, by unfold tgtOne; rw [if_pos ⟨h1, hx.1, hx.2⟩]; simp⟩
  rw [tgt_law _ l.length fun x hx => ((hm x).1 hx).1]
  unfold below tgF
  refine List.filter_congr fun x hx => ?_
  obtain ⟨i, hi, rfl⟩ := List.mem_map.1 hx
  have hi' := List.mem_range.1 hi
  rw [Bool.eq_iff_iff]
  rw [List.contains_iff_mem, hm]
  constructor
  · exact fun h => h.2
  · exact fun h => ⟨⟨by omega, by omega⟩, h⟩
theorem infoInt : (Try.prog.info? 3).map (fun i => (i.zero.map Value.cells, i.size, i.bytes)) = some (some #[.int .i64 0], 1, 8) := by kernel_rfl
end Go.Proofs.Ytlglndcbkhojaaa
