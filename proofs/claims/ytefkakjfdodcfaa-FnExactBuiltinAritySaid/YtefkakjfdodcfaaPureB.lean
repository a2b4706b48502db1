/-
  BuiltinArity of both packages returns what one Lean function says, for all arguments; and the law about it returns true. Conditions: none.
-/
import Derived.Test.YtefkakjfdodcfaaBase
namespace Go.Proofs.Ytefkakjfdodcfaa
open Go.ChangeShapes Go.WideShapes Go.ChangeAt Go.RowKit Go.Deep Go.Joins
open Go.ChangeMaps (open_string shut_string)
set_option linter.unusedVariables false

def arWords : List (List UInt8 × Int) := [([111, 98, 95, 103, 101, 116], 0), ([111, 98, 95, 101, 110, 100], 0), ([111, 98, 95, 99, 108, 101, 97, 110], 0), ([115, 116, 114, 108, 101, 110], 1), ([117, 112, 112, 101, 114], 1), ([99, 111, 117, 110, 116], 1), ([107, 101, 121, 115], 1), ([118, 97, 108, 117, 101, 115], 1), ([115, 111, 114, 116], 1), ([105, 110, 116, 118, 97, 108], 1), ([115, 116, 114, 118, 97, 108], 1), ([107, 105, 110, 100], 1), ([115, 101, 114, 105, 97, 108, 105, 122, 101], 1), ([117, 110, 115, 101, 114, 105, 97, 108, 105, 122, 101], 1), ([111, 98, 95, 115, 116, 97, 114, 116], 1), ([114, 101, 112, 101, 97, 116], 2), ([101, 115, 99, 97, 112, 101], 2), ([105, 110, 95, 97, 114, 114, 97, 121], 2), ([105, 109, 112, 108, 111, 100, 101], 2), ([114, 97, 110, 103, 101], 2), ([104, 101, 97, 100, 101, 114], 2), ([115, 117, 98, 115, 116, 114], 3)]
def arPick : List (List UInt8 × Int) → List UInt8 → Int
  | [], _ => -1
  | p :: r, s => if s = p.1 then p.2 else arPick r s
def arF (s : List UInt8) : Int := arPick arWords s
theorem arPick_no (l : List (List UInt8 × Int)) (s : List UInt8) (h : ∀ (j : Nat) (p : List UInt8 × Int), l[j]? = some p → (p.1 == s) = false) : arPick l s = -1 := by
  induction l with
  | nil => rfl
  | cons p r ih =>
    have h0 := h 0 p rfl
    rw [beq_eq_false_iff_ne] at h0
    rw [arPick, if_neg (fun e => h0 e.symm)]
    exact ih fun j q hq => h (j + 1) q hq
theorem arPick_yes (l : List (List UInt8 × Int)) (s : List UInt8) (k : Nat) (p : List UInt8 × Int) (hp : l[k]? = some p) (h : ∀ (j : Nat) (q : List UInt8 × Int), j < k → l[j]? = some q → (q.1 == s) = false) (hs : (p.1 == s) = true) : arPick l s = p.2 := by
  induction l generalizing k with
  | nil => simp at hp
  | cons q r ih =>
    cases k with
    | zero =>
      obtain rfl : q = p := by simpa using hp
      rw [arPick, if_pos (beq_iff_eq.1 hs).symm]
    | succ k =>
      have h0 := h 0 q (by omega) rfl
      rw [beq_eq_false_iff_ne] at h0
      rw [arPick, if_neg (fun e => h0 e.symm)]
      exact ih k (by simpa using hp) fun j u hj hu => h (j + 1) u (by omega) (by simpa using hu)
theorem arWords_len : arWords.length = 22 := rfl
def arCells : Array Value := (arWords.map fun l => Value.string ⟨l.1.toArray⟩).toArray
theorem arString_at (k : Nat) (hk : k < 22) : ∃ (x : ByteArray) (r : Int), arCells[k]? = some (.string x) ∧ arWords[k]? = some (x.toList, r) ∧ r = (if k < 3 then 0 else if k < 15 then 1 else if k < 21 then 2 else 3) := by
  have hk' : k < arWords.length := by rw [arWords_len]; exact hk
  refine ⟨⟨(arWords[k]).1.toArray⟩, (arWords[k]).2, ?_, ?_, ?_⟩
  · unfold arCells
    rw [List.getElem?_toArray, List.getElem?_map, List.getElem?_eq_getElem hk']
    rfl
  · rw [List.getElem?_eq_getElem hk', ByteArray.toList_mk]
  · have : ∀ j : Fin 22, (arWords[j.1]'(by rw [arWords_len]; exact j.2)).2 = (if j.1 < 3 then 0 else if j.1 < 15 then 1 else if j.1 < 21 then 2 else 3) := by decide
    exact this ⟨k, hk⟩
set_option maxHeartbeats 2000000 in
theorem ar_impl (s : ByteArray) (w : World) : Calls Try.prog 20 #[.string s] w fun e w' => e = .returned (.int .i64 (arF s.toList)) ∧ w = w' := by
  go_enter Try.func20, Try.ntmps20
  go_wp2
  all_goals
    go_ret
    exact ⟨ret_int (by simp_all [arF, arWords, arPick]), rfl⟩
theorem ar_spec (s : ByteArray) (w : World) : Calls Try.prog 19 #[.string s] w fun e w' => e = .returned (.int .i64 (arF s.toList)) ∧ Below w.heap.size w w' := by
  go_enter Try.func19, Try.ntmps19
  go_wp2
  go_loopw [4] (fun i wr => ∃ k : Nat, k ≤ 22 ∧ i = .int .i64 k ∧ (∀ (j : Nat) (q : List UInt8 × Int), j < k → arWords[j]? = some q → (q.1 == s.toList) = false) ∧ (∀ j, j < 22 → wr.cell? ⟨w.heap.size, j, none⟩ = arCells[j]?) ∧ Below w.heap.size w wr) (fun i _ => 22 - (intOf i).toNat)
  case atStart => exact ⟨0, by omega, rfl, fun j q hj => absurd hj (by omega), fun j hj => World.cell?_alloc_new _ _ _ _, (Below.refl _ _).alloc (Nat.le_refl _) _⟩
  case round =>
    obtain ⟨k, hk, rfl, hno, hcs, hb⟩ := hrel
    by_cases hlt : k < 22
    · obtain ⟨x, r, hx, hxl, hr⟩ := arString_at k hlt
      have hc : wr.cell? ⟨w.heap.size, k, none⟩ = some (.string x) := (hcs k hlt).trans hx
      have HCS := Lib.hid hcs
      have HNO := Lib.hid hno
      have HX := Lib.hid hxl
      have HR := Lib.hid hr
      clear hcs hno hx hxl hr
      by_cases hq : (x.toList == s.toList) = true
      · have HQ := Lib.hid hq
        go_wp2
        all_goals
          go_ret
          refine ⟨ret_int ?_, hb⟩
          unfold arF
          rw [arPick_yes _ _ k _ HX.out HNO.out HQ.out]
          show _ = r
          rw [HR.out]
          first | rw [if_pos (by omega)] | rw [if_neg (by omega), if_pos (by omega)] | rw [if_neg (by omega), if_neg (by omega), if_pos (by omega)] | rw [if_neg (by omega), if_neg (by omega), if_neg (by omega)]
      · have hq' : (x.toList == s.toList) = false := by simpa using hq
        have HQ := Lib.hid hq'
        clear hq
        go_wp2
        go_roundw
        case rel =>
          refine ⟨k + 1, by omega, by go_num, fun j q hj hjq => ?_, HCS.out, hb⟩
          by_cases e : j = k
          · subst e
            rw [HX.out] at hjq
            injection hjq with hjq
            subst hjq
            exact HQ.out
          · exact HNO.out j q (by omega) hjq
        case measure => simp [intOf]; omega
    · obtain rfl : k = 22 := by omega
      have HNO := Lib.hid hno
      clear hno hcs
      go_wp2
      go_ret
      exact ⟨ret_int (arPick_no _ _ fun j q hq => HNO.out j q (by have := (List.getElem?_eq_some_iff.1 hq).1; rw [arWords_len] at this; exact this) hq).symm, hb⟩
section
variable {H : Type} {enc : TypeId × Value → H}
theorem fnExactBuiltinArity_walk (W : World) (base : Nat) (v0 : Value) {d0 : DataW H} {p0 : List MemPlace} (k0 : Value.okWide Try.prog W .any base 9 v0) (h0 : DataW.Trod enc Try.prog W 0 (fun _ => true) true 9 v0 d0 p0) :
    Calls Try.prog 7 #[v0] W fun e w' => e = .returned (.bool true) ∧ Below W.heap.size W w' := by
  obtain ⟨a, rfl, rfl, rfl, ha⟩ := open_string Try.underlying9 k0 h0
  unfold maxLen at ha
  go_enter Try.func7, Try.ntmps7
  go_wp2_with (first | (go_at_call 19; refine (ar_spec _ _).mono ?_; rintro e w1 ⟨rfl, hb1⟩) | (go_at_call 20; refine (ar_impl _ _).mono ?_; rintro e w' ⟨rfl, rfl⟩))
  all_goals
    go_ret
    first | exact ⟨rfl, Below.refl _ _⟩ | exact ⟨rfl, hb1⟩
end
end Go.Proofs.Ytefkakjfdodcfaa
