/-
  Parts of the proof: HtG. Conditions: none.
-/
import Derived.Test.YtdmbhmhfjappcaaGreatDoorQHtD
import Derived.Test.YtdmbhmhfjappcaaGreatDoorQGMemMark
import Derived.Test.YtdmbhmhfjappcaaGreatDoorQGStrName
namespace Go.Proofs.YtdmbhmhfjappcaaGreatDoor
open Go.ChangeShapes Go.WideShapes Go.ChangeAt Go.RowKit Go.Deep Go.Joins
open Go.ChangeMaps (open_string shut_string)
set_option linter.unusedVariables false
set_option linter.unusedSimpArgs false
set_option maxRecDepth 100000
/-- A table of heights in the call's own memory. -/
abbrev Tbl (w : World) (base g c : Nat) (V : List Int) : Prop := w.ownsRow base 3 1 (.slice (some ⟨g, 0, none⟩) V.length c) V.length (V.map (Value.int .i64))
theorem Tbl.at_ {w : World} {base g c : Nat} {V : List Int} (h : Tbl w base g c V) (m : Nat) (hm : m < V.length) : w.cell? ⟨g, m, none⟩ = some (.int .i64 (V.getD m 0)) ∧ w.frozen? ⟨g, m, none⟩ = false := by
  refine ⟨?_, h.frozenAt m⟩
  rw [h.cellAt m (by omega), List.getElem?_map, getD_some hm]
  rfl
theorem Tbl.put {w : World} {base g c : Nat} {V : List Int} (h : Tbl w base g c V) (m : Nat) (n : Int) : Tbl (w.setCell ⟨g, m, none⟩ (.int .i64 n)) base g c (V.set m n) ∧ w.grownBy (w.setCell ⟨g, m, none⟩ (.int .i64 n)) (some g) := by
  obtain ⟨h1, h2⟩ := World.ownsRow.stored h m (.int .i64 n)
  refine ⟨?_, h2⟩
  unfold Tbl
  rw [List.length_set, List.map_set]
  exact h1
theorem giveF_cases {V V' : List Int} {m : Nat} {n : Int} (h : giveF V m n = some V') : m < V.length ∧ 0 ≤ n ∧ n ≤ 500 ∧ (V.getD m 0 < 0 ∨ (0 ≤ V.getD m 0 ∧ V.getD m 0 = n)) ∧ V' = V.set m n := by
  unfold giveF at h
  split at h
  · cases h
  next hc =>
  injection h with h
  rw [Int.toNat_natCast] at hc h
  refine ⟨by omega, by omega, by omega, ?_, h.symm⟩
  by_cases h1 : V.getD m 0 < 0
  · exact .inl h1
  · by_cases h2 : V.getD m 0 = n
    · exact .inr ⟨by omega, h2⟩
    · exact absurd (.inr (.inr (.inr ⟨by omega, h2⟩))) hc
theorem giveF_bad {V : List Int} {m : Nat} {n : Int} (h : giveF V m n = none) : V.length ≤ m ∨ (m < V.length ∧ inB n 0 500 = false) ∨ (m < V.length ∧ inB n 0 500 = true ∧ 0 ≤ V.getD m 0 ∧ V.getD m 0 ≠ n) := by
  unfold giveF at h
  split at h
  case isFalse => cases h
  next hc =>
  rw [Int.toNat_natCast] at hc
  by_cases h1 : V.length ≤ m
  · exact .inl h1
  · by_cases h2 : inB n 0 500 = true
    · right; right
      have h3 : 0 ≤ n ∧ n ≤ 500 := by
        unfold inB at h2
        simpa using h2
      rcases hc with hc | hc | hc | hc
      · omega
      · omega
      · omega
      · exact ⟨by omega, h2, hc.1, hc.2⟩
    · exact .inr (.inl ⟨by omega, by simpa using h2⟩)
set_option maxHeartbeats 2000000 in
theorem give_some (V V' : List Int) (m : Nat) (n : Int) (w : World) {base g c : Nat} (hV : Tbl w base g c V) (hl : V.length ≤ 1000000000) (hg : giveF V m n = some V') :
    Calls Tryz.prog 55 #[.slice (some ⟨g, 0, none⟩) V.length c, .int .i64 m, .int .i64 n] w fun e w' => e = .returned (.tuple #[.bool (decide (V.getD m 0 < 0)), .bool true]) ∧ Tbl w' base g c V' ∧ w.grownBy w' (some g) := by
  obtain ⟨h1, h2, h3, h4, h5⟩ := giveF_cases hg
  obtain ⟨hc, hf⟩ := hV.at_ m h1
  have hb : inB n 0 500 = true := by unfold inB; simp; omega
  have hgl : g < w.heap.size := (own_lt hV g rfl).2
  generalize V.getD m 0 = u at *
  have HP := Lib.hid (hV.put m n)
  rw [← h5] at HP
  have hle : decide ((V.length : Int) ≤ (m : Int)) = false := by simp; omega
  clear hV hg h5
  rcases h4 with h4 | ⟨h4, h6⟩
  · have d1 : decide (0 ≤ u) = false := by simp; omega
    have d2 : decide (u < 0) = true := by simp; omega
    go_enter Tryz.func55, Tryz.ntmps55
    go_wp2_with (go_at_call 28; refine (l1In_any _ _ _ _).mono ?_; rintro e w' ⟨rfl, rfl⟩)
    go_ret2
    rw [d2]
    exact ⟨rfl, HP.out.1, HP.out.2⟩
  · have d1 : decide (0 ≤ u) = true := by simp; omega
    have d2 : decide (u < 0) = false := by simp; omega
    subst h6
    have d3 : (u != u) = false := by simp
    go_enter Tryz.func55, Tryz.ntmps55
    go_wp2_with (go_at_call 28; refine (l1In_any _ _ _ _).mono ?_; rintro e w' ⟨rfl, rfl⟩)
    go_ret2
    simp only [d2]
    exact ⟨rfl, HP.out.1, HP.out.2⟩
set_option maxHeartbeats 2000000 in
theorem give_none (V : List Int) (m : Nat) (n : Int) (w : World) {base g c : Nat} (hV : Tbl w base g c V) (hl : V.length ≤ 1000000000) (hg : giveF V m n = none) (hm : m ≤ 1000000000) :
    Calls Tryz.prog 55 #[.slice (some ⟨g, 0, none⟩) V.length c, .int .i64 m, .int .i64 n] w fun e w' => e = .returned (.tuple #[.bool false, .bool false]) ∧ w = w' := by
  rcases giveF_bad hg with h | ⟨h1, h2⟩ | ⟨h1, h2, h3, h4⟩
  · have hle : decide ((V.length : Int) ≤ (m : Int)) = true := by simp; omega
    clear hg hV
    go_enter Tryz.func55, Tryz.ntmps55
    go_wp2_with (go_at_call 28; refine (l1In_any _ _ _ _).mono ?_; rintro e w' ⟨rfl, rfl⟩)
    go_ret2
    exact ⟨rfl, rfl⟩
  · have hle : decide ((V.length : Int) ≤ (m : Int)) = false := by simp; omega
    clear hg hV
    go_enter Tryz.func55, Tryz.ntmps55
    go_wp2_with (go_at_call 28; refine (l1In_any _ _ _ _).mono ?_; rintro e w' ⟨rfl, rfl⟩)
    go_ret2
    exact ⟨rfl, rfl⟩
  · have hle : decide ((V.length : Int) ≤ (m : Int)) = false := by simp; omega
    obtain ⟨hc, hf⟩ := hV.at_ m h1
    have hgl : g < w.heap.size := (own_lt hV g rfl).2
    generalize V.getD m 0 = u at *
    have d1 : decide (0 ≤ u) = true := by simp; omega
    have d3 : (u != n) = true := by simpa using h4
    clear hg hV
    go_enter Tryz.func55, Tryz.ntmps55
    go_wp2_with (go_at_call 28; refine (l1In_any _ _ _ _).mono ?_; rintro e w' ⟨rfl, rfl⟩)
    go_ret2
    exact ⟨rfl, rfl⟩
theorem give_some' (V V' : List Int) (at_ n : Int) (m : Nat) (w : World) {base g c L : Nat} (hm : at_ = (m : Int)) (hL : V.length = L) (hV : Tbl w base g c V) (hl : L ≤ 1000000000) (hg : giveF V at_ n = some V') :
    Calls Tryz.prog 55 #[.slice (some ⟨g, 0, none⟩) L c, .int .i64 at_, .int .i64 n] w fun e w' => e = .returned (.tuple #[.bool (decide (V.getD at_.toNat 0 < 0)), .bool true]) ∧ Tbl w' base g c V' ∧ w.grownBy w' (some g) := by
  subst hL hm
  exact give_some V V' m n w hV hl hg
theorem give_none' (V : List Int) (at_ n : Int) (m : Nat) (w : World) {base g c L : Nat} (hm : at_ = (m : Int)) (hL : V.length = L) (hV : Tbl w base g c V) (hl : L ≤ 1000000000) (hg : giveF V at_ n = none) (hm1 : m ≤ 1000000000) :
    Calls Tryz.prog 55 #[.slice (some ⟨g, 0, none⟩) L c, .int .i64 at_, .int .i64 n] w fun e w' => e = .returned (.tuple #[.bool false, .bool false]) ∧ w = w' := by
  subst hL hm
  exact give_none V m n w hV hl hg hm1
end Go.Proofs.YtdmbhmhfjappcaaGreatDoor
