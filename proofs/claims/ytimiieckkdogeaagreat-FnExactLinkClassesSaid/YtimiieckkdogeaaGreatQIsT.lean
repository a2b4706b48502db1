/-
  Parts of the proof: IsT. Conditions: none.
-/
import Derived.Test.YtimiieckkdogeaaGreatQGBaseNd
import Derived.Test.YtimiieckkdogeaaGreatQGIsCIsI0
import Derived.Deep.LoopGhost
set_option linter.unusedVariables false
set_option linter.unusedSimpArgs false
namespace Go.Proofs.YtimiieckkdogeaaGreat
set_option maxHeartbeats 40000000
open Lib (hid)
open Go.ChangeShapes Go.WideShapes Go.ChangeAt Go.RowKit Go.Deep Go.Joins
open Go.ChangeMaps (open_string shut_string)
set_option maxRecDepth 100000
def tgW : FNode → Bool
  | .mk k _ _ ks => if k = 7 then (match ks with | [] => false | a :: _ => tgW a) else (k == 4 || k == 8)
theorem tgW_7 (n : Int) (t : ByteArray) (a : FNode) (r : List FNode) : tgW (.mk 7 n t (a :: r)) = tgW a := (tgW.eq_def _).trans (if_pos rfl)
theorem tgW_7n (n : Int) (t : ByteArray) : tgW (.mk 7 n t []) = false := (tgW.eq_def _).trans (if_pos rfl)
theorem tgW_o {k : Int} (h : ¬ k = 7) (n : Int) (t : ByteArray) (r : List FNode) : tgW (.mk k n t r) = (k == 4 || k == 8) := by unfold tgW; exact if_neg h
theorem tgN_o {k : Int} (h : ¬ k = 7) (n : Int) (t : ByteArray) (r : List FNode) : tgN (.mk k n t r) = (k == 4 || k == 8) := by unfold tgN; exact if_neg h
theorem ex_len7 {n : Int} {t : ByteArray} {ks : List FNode} (h : exF (.mk 7 n t ks) = true) : ks.length = 2 ∧ ks.all exF = true := by
  rw [exF_mk] at h
  have h2 : exK 7 ks = true := by
    cases e : exK 7 ks with
    | true => rfl
    | false => rw [e, Bool.and_false] at h; cases h
  have h3 : (ks.length == 2 && ks.all exF) = true := h2
  rw [Bool.and_eq_true] at h3
  exact ⟨by simpa using h3.1, h3.2⟩
theorem tg_eq : ∀ x : FNode, exF x = true → tgW x = tgN x
  | .mk k n t ks, h => by
    by_cases e : k = 7
    · subst e
      obtain ⟨h1, h2⟩ := ex_len7 h
      match ks, h1, h2 with
      | [a, b], _, h2 =>
        rw [tgW_7, tg_eq a (by simp at h2; exact h2.1)]
        simp [tgN]
    · rw [tgW_o e, tgN_o e]
theorem szN_pos : ∀ x : FNode, 1 ≤ szN x
  | .mk _ _ _ _ => by rw [szN]; omega
theorem szN_7 (k n : Int) (t : ByteArray) (a : FNode) (r : List FNode) : szN a < szN (.mk k n t (a :: r)) := by rw [szN, szL]; omega
theorem isT_impl (x : FNode) (hw : x.wt ≤ 9000000000) : SaB 115 x (tgW x) := by
  intro us w B hB0 hr
  obtain ⟨z0, z1, z2, z3⟩ := x
  obtain ⟨A3, c3, rfl, r3⟩ := hr.node
  have HR := hid r3
  have HW := hid hw
  clear hr r3 hw
  go_enter Tryz.func115, Tryz.ntmps115
  go_wp2_with fail
  go_loopg [] (szN ⟨z0, z1, z2, z3⟩) (fun k wr => ∃ (y0 y1 : Int) (y2 : ByteArray) (y3 : List FNode) (D : Option Addr) (d m : Nat), wr = w.alloc (.cells #[.int .i64 y0, .int .i64 y1, .string y2, .slice D m d] 61) ∧ Hid (tgW ⟨y0, y1, y2, y3⟩ = tgW ⟨z0, z1, z2, z3⟩) ∧ Hid (RdC w B (.s 61 4 m (FNode.flat y3)) (.slice D m d)) ∧ Hid (y3.length = m) ∧ Hid (FNode.wt ⟨y0, y1, y2, y3⟩ ≤ 9000000000) ∧ Hid (szN ⟨y0, y1, y2, y3⟩ ≤ k))
  case atStart => exact ⟨_, _, _, _, _, _, _, rfl, hid rfl, HR, hid rfl, HW, hid (Nat.le_refl _)⟩
  case round =>
    obtain ⟨y0, y1, y2, y3, D, d, m, rfl, HT, HQ, HM, HV, HS⟩ := hrel
    have hy : m ≤ 9223372036854775807 := by have := HV.out; rw [FNode.wt_eq] at this; have := HM.out; omega
    have hb2 := hbA w y0 y1 y2 (.slice D m d)
    by_cases e7 : y0 = 7
    · subst e7
      match y3 with
      | [] =>
        obtain rfl : m = 0 := HM.out.symm
        go_wp2_with fail
        go_ret
        refine ⟨ret_bool ?_, hb2.out⟩
        rw [← HT.out, tgW_7n]
      | ⟨a0, a1, a2, a3⟩ :: r =>
        have hpos : 0 < m := by have := HM.out; simp only [List.length_cons] at this; omega
        have HQ2 : Hid (RdC w B (.s 61 4 (FNode.mk a0 a1 a2 a3 :: r).length (FNode.flat (FNode.mk a0 a1 a2 a3 :: r))) (.slice D (FNode.mk a0 a1 a2 a3 :: r).length d)) := by rw [HM.out]; exact HQ
        obtain ⟨bca, offca, Ea, hblca, hcc⟩ := RdC.at_ (l := (FNode.mk a0 a1 a2 a3 :: r)) FNode.len HQ2.out (i := 0) (x := FNode.mk a0 a1 a2 a3) rfl
        obtain ⟨Da, da, ca_0, ca_1, ca_2, ca_3, q3⟩ := opN hb2.out (by omega) hcc (offca) (offca + 1) (offca + 2) (offca + 3) (by omega)
        have Qa := hid q3
        clear hcc q3
        subst Ea
        go_wp2_with fail
        go_roundg (szN ⟨a0, a1, a2, a3⟩)
        case rel => exact ⟨_, _, _, _, _, _, _, rfl, hid (by rw [← HT.out, tgW_7]), Qa, hid rfl, hid (by have h1 := HV.out; rw [FNode.wt_eq] at h1; have h2 := FNode.wts_at (FNode.mk a0 a1 a2 a3 :: r) _ (List.mem_cons_self ..); omega), hid (Nat.le_refl _)⟩
        case measure => exact Nat.lt_of_lt_of_le (szN_7 _ _ _ _ _) HS.out
    · have HE := hid (tgW_o e7 y1 y2 y3)
      by_cases e4 : y0 = 4
      · subst e4
        go_wp2_with fail
        go_ret
        exact ⟨ret_bool (by rw [← HT.out, HE.out]; rfl), hb2.out⟩
      · by_cases e8 : y0 = 8
        · subst e8
          go_wp2_with fail
          go_ret
          exact ⟨ret_bool (by rw [← HT.out, HE.out]; rfl), hb2.out⟩
        · go_wp2_with fail
          go_ret
          exact ⟨ret_bool (by rw [← HT.out, HE.out, beq_false_of_ne e4, beq_false_of_ne e8]), hb2.out⟩
end Go.Proofs.YtimiieckkdogeaaGreat
