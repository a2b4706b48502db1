/-
  The law of CheckScript: in every input the program answers as the reference. Conditions: none.
-/
import Derived.Test.YtgejkfcemlkclaaQScK
import Derived.Test.YtgejkfcemlkclaaQIsK9
import Derived.Test.YtgejkfcemlkclaaQGIsTScQ
import Derived.Test.YtgejkfcemlkclaaQGIsK2IsK4
import Derived.Test.YtgejkfcemlkclaaQGScXScV
import Derived.Test.YtgejkfcemlkclaaQIsU9
import Derived.Test.YtgejkfcemlkclaaQGBaseDeepM
import Derived.HandedShaped
namespace Go.Proofs.Ytgejkfcemlkclaa
open Go.ChangeShapes Go.WideShapes Go.ChangeAt Go.RowKit Go.Deep Go.Joins
open Go.ChangeMaps (open_string shut_string)
set_option linter.unusedVariables false
set_option linter.unusedSimpArgs false
set_option maxRecDepth 100000
theorem chI_all : ∀ (N : Nat) (x : FNode), szN x ≤ N → x.wt ≤ 1000000000 → tkN x → ChI x
  | 0, x, h, _, _ => absurd (szN_pos x) (by omega)
  | N + 1, ⟨k, z1, z2, z3⟩, h, hw, ht => by
    rw [tkN] at ht
    exact chI_of k z1 z2 z3 hw ht.1 fun y hy => chI_all N y (by have := kid_sz (x := ⟨k, z1, z2, z3⟩) (y := y) hy; omega) (by have := (kid_wt (x := ⟨k, z1, z2, z3⟩) (y := y) hy).1; omega) (tkL_mem z3 ht.2 y hy)
theorem csF_hit (F : Nat → Bool) (k : Nat) (h1 : 1 ≤ k) (h5 : k ≤ 5) (hn : ∀ j, 1 ≤ j → j < k → F j = false) (hk : F k = true) : csF F = (k : Int) := by
  unfold csF
  have H : k = 1 ∨ k = 2 ∨ k = 3 ∨ k = 4 ∨ k = 5 := by omega
  rcases H with rfl | rfl | rfl | rfl | rfl
  · rw [hk]; rfl
  · rw [hk, hn 1 (by decide) (by decide)]; rfl
  · rw [hk, hn 1 (by decide) (by decide), hn 2 (by decide) (by decide)]; rfl
  · rw [hk, hn 1 (by decide) (by decide), hn 2 (by decide) (by decide), hn 3 (by decide) (by decide)]; rfl
  · rw [hk, hn 1 (by decide) (by decide), hn 2 (by decide) (by decide), hn 3 (by decide) (by decide), hn 4 (by decide) (by decide)]; rfl
theorem csF_none (F : Nat → Bool) (hn : ∀ j, 1 ≤ j → j < 6 → F j = false) : csF F = 0 := by
  unfold csF
  rw [hn 1 (by decide) (by decide), hn 2 (by decide) (by decide), hn 3 (by decide) (by decide), hn 4 (by decide) (by decide), hn 5 (by decide) (by decide)]
  rfl
theorem blk_gc {w : World} {g : Nat} {b : Nat → Bool} (h : Blk w g 4 (cb b)) (i : Nat) (hi : i ≤ 5) : w.cell? ⟨g, i, none⟩ = some (.bool (b i)) := by
  refine (h.cell i).trans ?_
  match i, hi with
  | 0, _ => rfl
  | 1, _ => rfl
  | 2, _ => rfl
  | 3, _ => rfl
  | 4, _ => rfl
  | 5, _ => rfl
theorem mk6 (w : World) : (Instr.makeSlice 45 (.int .i64 6) (.int .i64 6)).run Try.prog w = .ok (.slice (some ⟨w.heap.size, 0, none⟩) 6 6) (w.alloc (.cells (cb (fun _ => false)) 4)) := by
  have h := make_law (P := Try.prog) 45 4 #[.bool false] 1 1 Try.underlying45 (by kernel_rfl) 6 (by decide) (by decide) w
  rw [show madeCells #[Value.bool false] (6 * 1) = cb (fun _ => false) from by first | kernel_rfl | rfl | (simp [madeCells, cb]; done)] at h
  exact h
set_option maxHeartbeats 4000000 in
theorem check_impl (x : FNode) (hw : x.wt ≤ 1000000000) (htk : scF x = true → tkN x) (us : List Value) (w : World) (B : Nat) (hmx : MaxAt w) (hB0 : B ≤ w.heap.size) (hr : RdVs w B x.c us) :
    Calls Try.prog 8 #[.agg us.toArray] w fun e w' => e = .returned (.int .i64 (csI x)) ∧ Below w.heap.size w w' := by
  have HSC := Lib.hid (script_impl x hw)
  have HCH := Lib.hid (fun h => chI_all _ x (Nat.le_refl _) hw (htk h))
  have EX := Lib.hid (show csI x = if scF x = true then csF (fun r => brI r false false x) else 5 from rfl)
  obtain ⟨z0, z1, z2, z3⟩ := x
  rw [FNode.c_eq] at hr
  obtain ⟨us0, rfl, hr_0⟩ := hr.unv
  obtain ⟨us1, rfl, hr_1⟩ := hr_0.unv
  obtain ⟨us2, rfl, hr_2⟩ := hr_1.unv
  obtain ⟨A3, c3, us3, rfl, r3, hr_3⟩ := hr_2.uns
  obtain rfl := hr_3.un0
  rw [FNode.wt_eq] at hw
  have hz : z2.size ≤ 9223372036854775807 := by omega
  have hl : z3.length ≤ 9223372036854775807 := by omega
  have HR := Lib.hid r3
  have HB := Lib.hid ((Below.refl _ w).alloc (Nat.le_refl _) (.cells #[.int .i64 z0, .int .i64 z1, .string z2, .slice A3 z3.length c3] 29))
  have CALL := Lib.hid (HSC.out [.int .i64 z0, .int .i64 z1, .string z2, .slice A3 z3.length c3] _ w.heap.size (hmx.below HB.out) HB.out.size (by rw [FNode.c_eq]; exact RdVs.cons (by unfold RdC; rfl) (RdVs.cons (by unfold RdC; rfl) (RdVs.cons (by unfold RdC; rfl) (RdVs.cons ((HR.out.up hB0).below HB.out (Nat.le_refl _)) (RdVs.nil _ _))))))
  clear hr r3 hr_0 hr_1 hr_2 hr_3 hw HSC htk
  cases hs : scF ⟨z0, z1, z2, z3⟩ with
  | false =>
    rw [hs] at CALL EX
    go_enter Try.func8, Try.ntmps8
    go_wp2_with (go_at_call 17; refine CALL.out.mono ?_; rintro e w3 ⟨rfl, hb3⟩; have HB3 := Lib.hid (HB.out.trans (hb3.mono HB.out.size)))
    go_ret
    exact ⟨by rw [EX.out]; rfl, HB3.out⟩
  | true =>
    rw [hs, if_pos rfl] at EX
    rw [hs] at CALL
    have HC2 := Lib.hid (HCH.out hs)
    clear HCH
    obtain ⟨F, hF⟩ : ∃ F : Nat → Bool, (fun r => brI r false false ⟨z0, z1, z2, z3⟩) = F := ⟨_, rfl⟩
    rw [hF] at EX
    have HFF := Lib.hid (show ∀ r, brI r false false ⟨z0, z1, z2, z3⟩ = F r from fun r => by rw [← hF])
    clear hF
    have hmk := mk6
    go_enter Try.func8, Try.ntmps8
    go_upto_region 4 with (go_at_call 17; refine CALL.out.mono ?_; rintro e w3 ⟨rfl, hb3⟩; have HB3 := Lib.hid (HB.out.trans (hb3.mono HB.out.size)); have bx_0 : w3.cell? ⟨w.heap.size, 0, none⟩ = some (.int .i64 z0) := (hb3.cell (p := ⟨w.heap.size, 0, none⟩) (by show w.heap.size < _; simp)).trans (by rw [World.cell?_alloc_new]; rfl); have bx_1 : w3.cell? ⟨w.heap.size, 1, none⟩ = some (.int .i64 z1) := (hb3.cell (p := ⟨w.heap.size, 1, none⟩) (by show w.heap.size < _; simp)).trans (by rw [World.cell?_alloc_new]; rfl); have bx_2 : w3.cell? ⟨w.heap.size, 2, none⟩ = some (.string z2) := (hb3.cell (p := ⟨w.heap.size, 2, none⟩) (by show w.heap.size < _; simp)).trans (by rw [World.cell?_alloc_new]; rfl); have bx_3 : w3.cell? ⟨w.heap.size, 3, none⟩ = some (.slice A3 z3.length c3) := (hb3.cell (p := ⟨w.heap.size, 3, none⟩) (by show w.heap.size < _; simp)).trans (by rw [World.cell?_alloc_new]; rfl))
    clear hmk
    have k4 := Lib.hid ((Below.refl w3.heap.size w3).alloc (Nat.le_refl _) (.cells (cb (fun _ => false)) 4))
    have HB4 := Lib.hid (HB3.out.trans (k4.out.mono HB3.out.size))
    have BK4 := Lib.hid (Blk.new w3 4 (cb (fun _ => false)))
    have hg4 : w3.heap.size < (w3.alloc (.cells (cb (fun _ => false)) 4)).heap.size := by simp
    have hw3 : w.heap.size < w3.heap.size := Nat.lt_of_lt_of_le (by simp) hb3.size
    have d_0 := (k4.out.cell (p := ⟨w.heap.size, 0, none⟩) hw3).trans bx_0
    have d_1 := (k4.out.cell (p := ⟨w.heap.size, 1, none⟩) hw3).trans bx_1
    have d_2 := (k4.out.cell (p := ⟨w.heap.size, 2, none⟩) hw3).trans bx_2
    have d_3 := (k4.out.cell (p := ⟨w.heap.size, 3, none⟩) hw3).trans bx_3
    obtain ⟨g, hgg⟩ : ∃ g, w3.heap.size = g := ⟨_, rfl⟩
    rw [hgg] at BK4 hg4
    have HGG := Lib.hid hgg
    go_upto_region 5 with (go_at_call 22; refine (HC2.out [.int .i64 z0, .int .i64 z1, .string z2, .slice A3 z3.length c3] _ w.heap.size g (fun _ => false) false false (by rw [← HGG.out]; exact Nat.le_of_lt hw3) hg4 (by rw [FNode.c_eq]; exact RdVs.cons (by unfold RdC; rfl) (RdVs.cons (by unfold RdC; rfl) (RdVs.cons (by unfold RdC; rfl) (RdVs.cons ((HR.out.up hB0).below HB4.out (Nat.le_refl _)) (RdVs.nil _ _))))) BK4.out).mono ?_; rintro e w5 ⟨rfl, ho5, bk5⟩)
    have BK5 : Blk w5 g 4 (cb F) := by rw [cb_ext (f := F) (g := fun r => (false || brI r false false ⟨z0, z1, z2, z3⟩)) (fun r hr => by rw [Bool.false_or]; exact (HFF.out r).symm)]; exact bk5
    have HB5 := Lib.hid (HB4.out.trans (ho5.below (B := w.heap.size) (by omega) HB4.out.size))
    go_wp2_with fail
    go_loopw [4] (fun i wr => ∃ k : Nat, 1 ≤ k ∧ k ≤ 6 ∧ i = .int .i64 k ∧ Hid (∀ j, 1 ≤ j → j < k → F j = false) ∧ wr = w5) (fun i _ => 6 - (intOf i).toNat)
    case atStart => exact ⟨1, by decide, by decide, rfl, Lib.hid (fun j h1 h2 => absurd h2 (by omega)), rfl⟩
    case round =>
      obtain ⟨k, hk1, hk6, rfl, HA, rfl⟩ := hrel
      by_cases hk5 : k ≤ 5
      · have cg := blk_gc BK5 k hk5
        cases hv : F k with
        | true =>
          rw [hv] at cg
          have HF := Lib.hid (csF_hit F k hk1 hk5 HA.out hv)
          go_wp2_with fail
          go_ret
          exact ⟨by rw [EX.out, HF.out]; rfl, HB5.out⟩
        | false =>
          rw [hv] at cg
          have HV := Lib.hid hv
          clear hv
          go_wp2_with fail
          go_roundw
          case rel => exact ⟨k + 1, by omega, by omega, by go_num, Lib.hid (fun j h1 h2 => by rcases Nat.lt_succ_iff_lt_or_eq.mp h2 with h | h; exact HA.out j h1 h; rw [h]; exact HV.out), by trivial⟩
          case measure => simp [intOf]; omega
      · obtain rfl : k = 6 := by omega
        have HF := Lib.hid (csF_none F HA.out)
        go_wp2_with fail
        go_ret
        exact ⟨by rw [EX.out, HF.out]; rfl, HB5.out⟩
end Go.Proofs.Ytgejkfcemlkclaa
namespace Go.Proofs.Ytgejkfcemlkclaa
open Go.ChangeShapes Go.WideShapes Go.ChangeAt Go.RowKit Go.Deep Go.Joins
set_option linter.unusedVariables false
set_option linter.unusedSimpArgs false
theorem stK_cases {k : Int} {ks : List FNode} (h : stK k ks = true) :
    ((k = 31 ∨ k = 37 ∨ k = 38 ∨ k = 40 ∨ k = 47) ∧ ks = []) ∨ ((k = 32 ∨ k = 33 ∨ k = 42 ∨ k = 39) ∧ ks.all exF = true) ∨ (k = 41 ∧ ks.length = 1 ∧ ks.all exF = true) ∨ (k = 34 ∧ ifK ks = true) ∨ (k = 35 ∧ whK ks = true) ∨ (k = 36 ∧ feK ks = true) ∨
    (k = 46 ∧ ks.all exF = true ∧ (ks.length = 1 ∨ hd4 ks = true)) ∨ (k = 48 ∧ ks.all stF = true) ∨ (k = 43 ∧ tyK ks = true) := by
  unfold stK at h
  split at h
  · next hk => exact .inl ⟨hk, len0 h⟩
  split at h
  · next hk => rw [Bool.and_eq_true] at h; exact .inr (.inl ⟨by omega, h.2⟩)
  split at h
  · next hk => rw [Bool.and_eq_true] at h; exact .inr (.inl ⟨by omega, h.2⟩)
  split at h
  · next hk => rw [Bool.and_eq_true, Bool.and_eq_true, beq_iff_eq] at h; exact .inr (.inr (.inl ⟨hk, h.1, h.2.2⟩))
  split at h
  · next hk => exact .inr (.inr (.inr (.inl ⟨hk, h⟩)))
  split at h
  · next hk => exact .inr (.inr (.inr (.inr (.inl ⟨hk, h⟩))))
  split at h
  · next hk => exact .inr (.inr (.inr (.inr (.inr (.inl ⟨hk, h⟩)))))
  split at h
  · next hk => rw [Bool.and_eq_true, Bool.and_eq_true, Bool.or_eq_true, beq_iff_eq] at h; exact .inr (.inr (.inr (.inr (.inr (.inr (.inl ⟨hk, h.2.1, h.2.2⟩))))))
  split at h
  · next hk => exact .inr (.inr (.inr (.inr (.inr (.inr (.inr (.inl ⟨hk, h⟩)))))))
  split at h
  · next hk => exact .inr (.inr (.inr (.inr (.inr (.inr (.inr (.inr ⟨hk, h⟩)))))))
  · cases h
theorem st_kd {x : FNode} (h : stF x = true) : 31 ≤ x.kd ∧ x.kd ≤ 48 := by
  rcases stK_cases (stK_of h) with ⟨h1, _⟩ | ⟨h1, _⟩ | ⟨h1, _⟩ | ⟨h1, _⟩ | ⟨h1, _⟩ | ⟨h1, _⟩ | ⟨h1, _⟩ | ⟨h1, _⟩ | ⟨h1, _⟩ <;> omega
/-- A kid of a statement. -/
def kidOk (y : FNode) : Prop := exF y = true ∨ stF y = true ∨ ctF y = true ∨ fnF y = true
theorem kidOk.bl {y : FNode} (h : blF y = true) : kidOk y := .inr (.inl (bl_st h).1)
theorem kidOk.gd {y : FNode} (h : kidOk y) : gd y := by
  rcases h with h | h | h | h
  · exact .inl h
  · exact .inr (.inr (.inl h))
  · exact .inr (.inr (.inr (.inl h)))
  · exact .inr (.inr (.inr (.inr (.inl h))))
theorem kidOk.kd {y : FNode} (h : kidOk y) : 1 ≤ y.kd ∧ y.kd ≤ 48 ∧ y.kd ≠ 24 ∧ y.kd ≠ 25 := by
  rcases h with h | h | h | h
  · have := ex_kd h; omega
  · have := st_kd h; omega
  · have := (ct_kd h).1; omega
  · have := (fn_kd h).1; omega
theorem if_mem {ks : List FNode} (h : ifK ks = true) : ∀ y, y ∈ ks → kidOk y := by
  match ks, h with
  | [a, b], h =>
    have h : (exF a && blF b) = true := h
    rw [Bool.and_eq_true] at h
    intro y hy
    simp only [List.mem_cons, List.not_mem_nil, or_false] at hy
    rcases hy with rfl | rfl
    · exact .inl h.1
    · exact .bl h.2
  | [a, b, d], h =>
    have h : (exF a && (blF b && blF d)) = true := h
    rw [Bool.and_eq_true, Bool.and_eq_true] at h
    intro y hy
    simp only [List.mem_cons, List.not_mem_nil, or_false] at hy
    rcases hy with rfl | rfl | rfl
    · exact .inl h.1
    · exact .bl h.2.1
    · exact .bl h.2.2
  | [], h => cases h
  | [_], h => cases h
  | _ :: _ :: _ :: _ :: _, h => cases h
theorem wh_mem {ks : List FNode} (h : whK ks = true) : ∀ y, y ∈ ks → kidOk y := by
  match ks, h with
  | [a, b], h =>
    have h : (exF a && blF b) = true := h
    rw [Bool.and_eq_true] at h
    intro y hy
    simp only [List.mem_cons, List.not_mem_nil, or_false] at hy
    rcases hy with rfl | rfl
    · exact .inl h.1
    · exact .bl h.2
  | [], h => cases h
  | [_], h => cases h
  | _ :: _ :: _ :: _, h => cases h
theorem ty_mem {ks : List FNode} (h : tyK ks = true) : ∀ y, y ∈ ks → kidOk y := by
  match ks, h with
  | [a, b], h =>
    have h : (blF a && (ctF b || fnF b)) = true := h
    rw [Bool.and_eq_true, Bool.or_eq_true] at h
    intro y hy
    simp only [List.mem_cons, List.not_mem_nil, or_false] at hy
    rcases hy with rfl | rfl
    · exact .bl h.1
    · rcases h.2 with h2 | h2
      · exact .inr (.inr (.inl h2))
      · exact .inr (.inr (.inr h2))
  | [a, b, d], h =>
    have h : (blF a && (ctF b && fnF d)) = true := h
    rw [Bool.and_eq_true, Bool.and_eq_true] at h
    intro y hy
    simp only [List.mem_cons, List.not_mem_nil, or_false] at hy
    rcases hy with rfl | rfl | rfl
    · exact .bl h.1
    · exact .inr (.inr (.inl h.2.1))
    · exact .inr (.inr (.inr h.2.2))
  | [], h => cases h
  | [_], h => cases h
  | _ :: _ :: _ :: _ :: _, h => cases h
theorem bl_any {d : FNode} (h : blF d = true) : (d.kd == 4 && isTh d.tx) = false := by
  rw [(bl_st h).2]
  rfl
theorem fe_mem {ks : List FNode} (t : ByteArray) (h : feK ks = true) : (∀ y, y ∈ ks → kidOk y) ∧ (ks.length = 3 ∨ ks.length = 4) ∧ thI 36 t ks = thS 36 t ks := by
  match ks, h with
  | [a, y, d], h =>
    have h : (exF a && (exF y && (y.kd == 4 && blF d))) = true := h
    simp only [Bool.and_eq_true] at h
    refine ⟨fun z hz => ?_, .inl rfl, ?_⟩
    · simp only [List.mem_cons, List.not_mem_nil, or_false] at hz
      rcases hz with rfl | rfl | rfl
      · exact .inl h.1
      · exact .inl h.2.1
      · exact .bl h.2.2.2
    · show ((y.kd == 4 && isTh y.tx) || ((d.kd == 4 && isTh d.tx) || false)) = (smT y || (smT y && false))
      rw [bl_any h.2.2.2, ex4 h.2.1, Bool.and_false, Bool.or_false, Bool.or_false]
  | [a, y, z, e], h =>
    have h : (exF a && (exF y && (exF z && (y.kd == 4 && (z.kd == 4 && blF e))))) = true := h
    simp only [Bool.and_eq_true] at h
    refine ⟨fun q hq => ?_, .inr rfl, ?_⟩
    · simp only [List.mem_cons, List.not_mem_nil, or_false] at hq
      rcases hq with rfl | rfl | rfl | rfl
      · exact .inl h.1
      · exact .inl h.2.1
      · exact .inl h.2.2.1
      · exact .bl h.2.2.2.2.2
    · show ((y.kd == 4 && isTh y.tx) || ((z.kd == 4 && isTh z.tx) || ((e.kd == 4 && isTh e.tx) || false))) = (smT y || (smT z && true))
      rw [bl_any h.2.2.2.2.2, ex4 h.2.1, ex4 h.2.2.1, Bool.and_true, Bool.or_false, Bool.or_false]
  | [], h => cases h
  | [_], h => cases h
  | [_, _], h => cases h
  | _ :: _ :: _ :: _ :: _ :: _, h => cases h
theorem ex_kid {ks : List FNode} (h : ks.all exF = true) : ∀ y, y ∈ ks → kidOk y := fun y hy => .inl (all_mem h y hy)
theorem nd_kids {k : Int} {t : ByteArray} {ks : List FNode} (hm : ∀ y, y ∈ ks → kidOk y) (hK : ndK k ks) (hT : thI k t ks = thS k t ks) : (∀ y, y ∈ ks → gd y) ∧ ndK k ks ∧ ndE k t ks :=
  ⟨fun y hy => (hm y hy).gd, hK, ndE_ex hT fun y hy => (hm y hy).kd⟩
theorem nd_st {x : FNode} (h : stF x = true) : Nd x := by
  have hK := stK_cases (stK_of h)
  obtain ⟨k, n, t, ks⟩ := x
  unfold Nd
  simp only [FNode.kd, FNode.tx, FNode.kids] at *
  rcases hK with ⟨hk, rfl⟩ | ⟨hk, ha⟩ | ⟨rfl, hl, ha⟩ | ⟨rfl, hi⟩ | ⟨rfl, hi⟩ | ⟨rfl, hi⟩ | ⟨rfl, ha, h4⟩ | ⟨rfl, ha⟩ | ⟨rfl, hi⟩
  · exact nd_kids (fun y hy => absurd hy List.not_mem_nil) (ndK_o _ (by omega)) (th_plain _ _ (by omega))
  · exact nd_kids (ex_kid ha) (ndK_o _ (by omega)) (th_plain _ _ (by omega))
  · obtain ⟨h1, h2⟩ := hdR_eq ha
    exact nd_kids (ex_kid ha) ⟨fun _ => by omega, fun e => by omega, fun _ => h2⟩ h1
  · exact nd_kids (if_mem hi) (ndK_o _ (by omega)) (th_plain _ _ (by omega))
  · exact nd_kids (wh_mem hi) (ndK_o _ (by omega)) (th_plain _ _ (by omega))
  · obtain ⟨h1, h2, h3⟩ := fe_mem t hi
    exact nd_kids h1 ⟨fun e => by omega, fun _ => h2, fun e => by omega⟩ h3
  · refine nd_kids (ex_kid ha) ⟨fun e => by omega, fun e => by omega, fun e => by omega⟩ ?_
    show (ks.length == 2 && hdTx ks) = (ks.length == 2 && hdSm ks)
    by_cases h2 : ks.length = 2
    · rw [hd_eq ha (by rcases h4 with h4 | h4; omega; exact h4)]
    · rw [beq_false_of_ne h2, Bool.false_and, Bool.false_and]
  · exact nd_kids (fun y hy => .inr (.inl (all_mem ha y hy))) (ndK_o _ (by omega)) (th_plain _ _ (by omega))
  · exact nd_kids (ty_mem hi) (ndK_o _ (by omega)) (th_plain _ _ (by omega))
theorem nd_it {x : FNode} (h : itF x = true) : Nd x := by
  obtain ⟨h1, h2⟩ := it_kd h
  obtain ⟨k, n, t, ks⟩ := x
  unfold Nd
  simp only [FNode.kd, FNode.tx, FNode.kids] at *
  exact nd_kids (ex_kid h2) (ndK_o _ (by omega)) (th_plain _ _ (by omega))
theorem nd_ct {x : FNode} (h : ctF x = true) : Nd x := by
  obtain ⟨h1, h2⟩ := ct_kd h
  obtain ⟨k, n, t, ks⟩ := x
  unfold Nd
  simp only [FNode.kd, FNode.tx, FNode.kids] at *
  subst h1
  match ks, h2 with
  | [y, b], h2 =>
    have h2 : (y.kd == 4 && (exF y && blF b)) = true := h2
    simp only [Bool.and_eq_true] at h2
    refine nd_kids (fun z hz => ?_) ⟨fun _ => by simp, fun e => by omega, fun e => by omega⟩ ?_
    · simp only [List.mem_cons, List.not_mem_nil, or_false] at hz
      rcases hz with rfl | rfl
      · exact .inl h2.2.1
      · exact .bl h2.2.2
    · show isTh y.tx = smT y
      rw [ex4 h2.2.1, h2.1, Bool.true_and]
  | [], h2 => cases h2
  | [_], h2 => cases h2
  | _ :: _ :: _ :: _, h2 => cases h2
theorem nd_fn {x : FNode} (h : fnF x = true) : Nd x := by
  obtain ⟨h1, h2⟩ := fn_kd h
  obtain ⟨k, n, t, ks⟩ := x
  unfold Nd
  simp only [FNode.kd, FNode.tx, FNode.kids] at *
  subst h1
  match ks, h2 with
  | [b], h2 =>
    refine nd_kids (fun z hz => ?_) (ndK_o _ (by omega)) (th_plain _ _ (by omega))
    rw [List.mem_singleton.mp hz]
    exact .bl h2
  | [], h2 => cases h2
  | _ :: _ :: _, h2 => cases h2
theorem cls_mem (cl : Bool) : ∀ (l : List FNode) (sg : Nat) (first : Bool), clsF cl sg first l = true → ∀ y, y ∈ l → gd y ∧ 52 ≤ y.kd ∧ y.kd ≤ 55
  | [], _, _, _, y, hy => absurd hy List.not_mem_nil
  | x :: r, sg, first, h, y, hy => by
    rw [clsF, Bool.and_eq_true] at h
    obtain ⟨_, h⟩ := h
    have key : (gd x ∧ 52 ≤ x.kd ∧ x.kd ≤ 55) ∧ ∃ sg' first', clsF cl sg' first' r = true := by
      by_cases e52 : x.kd = 52
      · rw [if_pos e52] at h
        simp only [Bool.and_eq_true, List.isEmpty_iff] at h
        exact ⟨⟨.inr (.inr (.inr (.inr (.inr (.inl ⟨by omega, h.2.2.1⟩))))), by omega, by omega⟩, _, _, h.2.2.2.2⟩
      rw [if_neg e52] at h
      by_cases e53 : x.kd = 53
      · rw [if_pos e53] at h
        simp only [Bool.and_eq_true, List.isEmpty_iff] at h
        exact ⟨⟨.inr (.inr (.inr (.inr (.inr (.inl ⟨by omega, h.1⟩))))), by omega, by omega⟩, _, _, h.2.2⟩
      rw [if_neg e53] at h
      by_cases e54 : x.kd = 54
      · rw [if_pos e54, Bool.and_eq_true] at h
        obtain ⟨h1, h2⟩ := h
        refine ⟨⟨?_, by omega, by omega⟩, _, _, h2⟩
        match hk : x.kids with
        | [y] =>
          rw [hk] at h1
          have h3 : (inB y.kd 1 3 && exF y) = true := h1
          rw [Bool.and_eq_true] at h3
          exact .inr (.inr (.inr (.inr (.inr (.inr (.inr (.inr (.inl ⟨e54, y, hk, h3.2⟩))))))))
        | [] => rw [hk] at h1; cases h1
        | _ :: _ :: _ => rw [hk] at h1; cases h1
      rw [if_neg e54] at h
      by_cases e55 : x.kd = 55
      · rw [if_pos e55, Bool.and_eq_true] at h
        exact ⟨⟨.inr (.inr (.inr (.inr (.inr (.inr (.inl ⟨.inr e55, h.1⟩)))))), by omega, by omega⟩, _, _, h.2⟩
      rw [if_neg e55] at h
      cases h
    rcases List.mem_cons.mp hy with rfl | hy
    · exact key.1
    · obtain ⟨sg', f', h2⟩ := key.2
      exact cls_mem cl r sg' f' h2 y hy
theorem top_mem {y : FNode} (h : topF y = true) : gd y ∧ y.kd ≠ 24 ∧ y.kd ≠ 25 ∧ y.kd ≠ 54 ∧ y.kd ≠ 55 := by
  unfold topF at h
  by_cases e49 : y.kd = 49
  · rw [if_pos e49, Bool.and_eq_true] at h
    exact ⟨.inr (.inr (.inr (.inr (.inr (.inr (.inl ⟨.inl e49, h.2⟩)))))), by omega, by omega, by omega, by omega⟩
  rw [if_neg e49] at h
  by_cases e50 : y.kd = 50 ∨ y.kd = 51
  · rw [if_pos e50, Bool.and_eq_true] at h
    exact ⟨.inr (.inr (.inr (.inr (.inr (.inr (.inr (.inl ⟨e50, _, _, h.2⟩))))))), by omega, by omega, by omega, by omega⟩
  rw [if_neg e50] at h
  have := st_kd h
  exact ⟨.inr (.inr (.inl h)), by omega, by omega, by omega, by omega⟩
theorem nd_gd {x : FNode} (h : gd x) : Nd x := by
  rcases h with h | h | h | h | h | ⟨hk, hn⟩ | ⟨hk, hu⟩ | ⟨hk, sg, f, hc⟩ | ⟨hk, y, hy, he⟩ | ⟨hk, ht⟩
  · exact nd_ex h
  · exact nd_it h
  · exact nd_st h
  · exact nd_ct h
  · exact nd_fn h
  · unfold Nd
    rw [hn]
    exact nd_kids (fun y hy => absurd hy List.not_mem_nil) (ndK_o _ (by omega)) (th_plain _ _ (by omega))
  · have hf : isFn x.kd = true := by rcases hk with hk | hk <;> rw [hk] <;> rfl
    exact ⟨fun y hy => (gd_us hu y hy).1, ndK_o _ (by omega), ndE_us hf (th_plain _ _ (by omega)) fun y hy => (gd_us hu y hy).2⟩
  · have hm := cls_mem _ _ _ _ hc
    exact ⟨fun y hy => (hm y hy).1, ndK_o _ (by omega), th_plain _ _ (by omega),
      fun h2 => (tw_false (fun y hy => (by have := hm y hy; exact ⟨by omega, by omega⟩)) h2).elim,
      fun h2 => (tw_false (fun y hy => (by have := hm y hy; exact ⟨by omega, by omega⟩)) h2).elim, fun _ => hk, fun _ => hk⟩
  · unfold Nd
    rw [hy]
    refine nd_kids (fun z hz => ?_) (ndK_o _ (by omega)) (th_plain _ _ (by omega))
    rw [List.mem_singleton.mp hz]
    exact .inl he
  · have hm := all_mem ht
    exact ⟨fun y hy => (top_mem (hm y hy)).1, ndK_o _ (by omega), th_plain _ _ (by omega),
      fun h2 => (tw_false (fun y hy => ⟨(top_mem (hm y hy)).2.1, (top_mem (hm y hy)).2.2.1⟩) h2).elim, fun _ => hk,
      fun h2 => (tw_false (fun y hy => ⟨(top_mem (hm y hy)).2.2.2.1, (top_mem (hm y hy)).2.2.2.1⟩) h2).elim,
      fun h2 => (tw_false (fun y hy => ⟨(top_mem (hm y hy)).2.2.2.2, (top_mem (hm y hy)).2.2.2.2⟩) h2).elim⟩
mutual
theorem tk_gd : ∀ x : FNode, gd x → tkN x
  | .mk k n t ks, h => by
    have hn := nd_gd h
    rw [tkN]
    exact ⟨hn.2.1, tkL_gd ks hn.1⟩
theorem tkL_gd : ∀ l : List FNode, (∀ y, y ∈ l → gd y) → tkL l
  | [], _ => by rw [tkL]; trivial
  | x :: r, h => by
    rw [tkL]
    exact ⟨tk_gd x (h x (List.mem_cons_self ..)), tkL_gd r fun y hy => h y (List.mem_cons_of_mem _ hy)⟩
end
mutual
theorem br_gd (r : Nat) : ∀ (x : FNode) (lp ins : Bool), gd x → brI r lp ins x = brS r lp ins x
  | .mk k n t ks, lp, ins, h => by
    have hn := nd_gd h
    rw [brI, brS, show bdI r lp ins k t ks = bdS r lp ins k t ks from bd_eq hn.2.2 r lp ins, brL_gd r ks _ _ hn.1]
theorem brL_gd (r : Nat) : ∀ (l : List FNode) (lp ins : Bool), (∀ y, y ∈ l → gd y) → brIL r lp ins l = brSL r lp ins l
  | [], _, _, _ => rfl
  | x :: l, lp, ins, h => by
    rw [brIL, brSL, br_gd r x lp ins (h x (List.mem_cons_self ..)), brL_gd r l lp ins fun y hy => h y (List.mem_cons_of_mem _ hy)]
end
theorem sc_gd {x : FNode} (h : scF x = true) : gd x := by
  unfold scF at h
  simp only [Bool.and_eq_true, beq_iff_eq] at h
  exact .inr (.inr (.inr (.inr (.inr (.inr (.inr (.inr (.inr ⟨h.2.1, h.2.2.2.2⟩))))))))
theorem cs_eq (x : FNode) : csI x = csS x := by
  unfold csI csS
  by_cases h : scF x = true
  · rw [if_pos h, if_pos h]
    congr 1
    funext r
    exact br_gd r x false false (sc_gd h)
  · rw [if_neg h, if_neg h]
theorem tk_sc (x : FNode) (h : scF x = true) : tkN x := tk_gd x (sc_gd h)
end Go.Proofs.Ytgejkfcemlkclaa
namespace Go.Proofs.Ytgejkfcemlkclaa
open Go.ChangeShapes Go.WideShapes Go.ChangeAt Go.RowKit Go.Deep Go.Joins
open Go.ChangeMaps (open_string shut_string)
set_option linter.unusedVariables false
set_option linter.unusedSimpArgs false
set_option maxRecDepth 100000
theorem brS_all (r : Nat) (hr1 : 1 ≤ r) (hr5 : r ≤ 5) : ∀ (N : Nat) (x : FNode), szN x ≤ N → x.wt ≤ 1000000000 → tkN x → BrS r x
  | 0, x, h, _, _ => absurd (szN_pos x) (by omega)
  | N + 1, ⟨k, z1, z2, z3⟩, h, hw, ht => by
    rw [tkN] at ht
    exact brS_of r hr1 hr5 k z1 z2 z3 hw ht.1 fun y hy => brS_all r hr1 hr5 N y (by have := kid_sz (x := ⟨k, z1, z2, z3⟩) (y := y) hy; omega) (by have := (kid_wt (x := ⟨k, z1, z2, z3⟩) (y := y) hy).1; omega) (tkL_mem z3 ht.2 y hy)
set_option maxHeartbeats 4000000 in
theorem check_spec (x : FNode) (hw : x.wt ≤ 1000000000) (us : List Value) (w : World) (B : Nat) (hB0 : B ≤ w.heap.size) (hr : RdVs w B x.c us) :
    Calls Try.prog 6 #[.agg us.toArray] w fun e w' => e = .returned (.int .i64 (csS x)) ∧ Below w.heap.size w w' := by
  have HSC := Lib.hid (script_spec x hw)
  have HBR := Lib.hid (fun (h : scF x = true) r h1 h5 => brS_all r h1 h5 _ x (Nat.le_refl _) hw (tk_sc x h))
  have EX := Lib.hid (show csS x = if scF x = true then csF (fun r => brS r false false x) else 5 from rfl)
  obtain ⟨z0, z1, z2, z3⟩ := x
  rw [FNode.c_eq] at hr
  obtain ⟨us0, rfl, hr_0⟩ := hr.unv
  obtain ⟨us1, rfl, hr_1⟩ := hr_0.unv
  obtain ⟨us2, rfl, hr_2⟩ := hr_1.unv
  obtain ⟨A3, c3, us3, rfl, r3, hr_3⟩ := hr_2.uns
  obtain rfl := hr_3.un0
  rw [FNode.wt_eq] at hw
  have hz : z2.size ≤ 9223372036854775807 := by omega
  have hl : z3.length ≤ 9223372036854775807 := by omega
  have HR := Lib.hid r3
  have HB := Lib.hid ((Below.refl _ w).alloc (Nat.le_refl _) (.cells #[.int .i64 z0, .int .i64 z1, .string z2, .slice A3 z3.length c3] 29))
  have CALL := Lib.hid (HSC.out [.int .i64 z0, .int .i64 z1, .string z2, .slice A3 z3.length c3] _ w.heap.size HB.out.size (by rw [FNode.c_eq]; exact RdVs.cons (by unfold RdC; rfl) (RdVs.cons (by unfold RdC; rfl) (RdVs.cons (by unfold RdC; rfl) (RdVs.cons ((HR.out.up hB0).below HB.out (Nat.le_refl _)) (RdVs.nil _ _))))))
  clear hr r3 hr_0 hr_1 hr_2 hr_3 hw HSC
  cases hs : scF ⟨z0, z1, z2, z3⟩ with
  | false =>
    rw [hs] at CALL EX
    go_enter Try.func6, Try.ntmps6
    go_wp2_with (go_at_call 19; refine CALL.out.mono ?_; rintro e w3 ⟨rfl, hb3⟩; have HB3 := Lib.hid (HB.out.trans (hb3.mono HB.out.size)))
    go_ret
    exact ⟨by rw [EX.out]; rfl, HB3.out⟩
  | true =>
    rw [hs, if_pos rfl] at EX
    rw [hs] at CALL
    have HBR := Lib.hid (HBR.out hs)
    obtain ⟨F, hF⟩ : ∃ F : Nat → Bool, (fun r => brS r false false ⟨z0, z1, z2, z3⟩) = F := ⟨_, rfl⟩
    rw [hF] at EX
    have HFF := Lib.hid (show ∀ r, brS r false false ⟨z0, z1, z2, z3⟩ = F r from fun r => by rw [← hF])
    clear hF
    go_enter Try.func6, Try.ntmps6
    go_wp2_with (go_at_call 19; refine CALL.out.mono ?_; rintro e w3 ⟨rfl, hb3⟩; have HB3 := Lib.hid (HB.out.trans (hb3.mono HB.out.size)); have bx_0 : w3.cell? ⟨w.heap.size, 0, none⟩ = some (.int .i64 z0) := (hb3.cell (p := ⟨w.heap.size, 0, none⟩) (by show w.heap.size < _; simp)).trans (by rw [World.cell?_alloc_new]; rfl); have bx_1 : w3.cell? ⟨w.heap.size, 1, none⟩ = some (.int .i64 z1) := (hb3.cell (p := ⟨w.heap.size, 1, none⟩) (by show w.heap.size < _; simp)).trans (by rw [World.cell?_alloc_new]; rfl); have bx_2 : w3.cell? ⟨w.heap.size, 2, none⟩ = some (.string z2) := (hb3.cell (p := ⟨w.heap.size, 2, none⟩) (by show w.heap.size < _; simp)).trans (by rw [World.cell?_alloc_new]; rfl); have bx_3 : w3.cell? ⟨w.heap.size, 3, none⟩ = some (.slice A3 z3.length c3) := (hb3.cell (p := ⟨w.heap.size, 3, none⟩) (by show w.heap.size < _; simp)).trans (by rw [World.cell?_alloc_new]; rfl))
    have HX0 : BkS2 w z0 z1 z2 A3 z3.length c3 w3 := ⟨HB3.out, bx_0, bx_1, bx_2, bx_3, Nat.lt_of_lt_of_le (by simp) hb3.size⟩
    clear bx_0 bx_1 bx_2 bx_3
    go_loopw [3] (fun i wr => ∃ k : Nat, 1 ≤ k ∧ k ≤ 6 ∧ i = .int .i64 k ∧ Hid (∀ j, 1 ≤ j → j < k → F j = false) ∧ BkS2 w z0 z1 z2 A3 z3.length c3 wr) (fun i _ => 6 - (intOf i).toNat)
    case atStart => exact ⟨1, by decide, by decide, rfl, Lib.hid (fun j h1 h2 => absurd h2 (by omega)), HX0⟩
    case round =>
      clear HX0
      obtain ⟨k, hk1, hk6, rfl, HA, HX⟩ := hrel
      have b0 := HX.2.1
      have b1 := HX.2.2.1
      have b2 := HX.2.2.2.1
      have b3 := HX.2.2.2.2.1
      have hlt0 := HX.2.2.2.2.2
      by_cases hk5 : k ≤ 5
      · have CK := Lib.hid (HBR.out k hk1 hk5 [.int .i64 z0, .int .i64 z1, .string z2, .slice A3 z3.length c3] wr w.heap.size false false HX.1.size (by rw [FNode.c_eq]; exact RdVs.cons (by unfold RdC; rfl) (RdVs.cons (by unfold RdC; rfl) (RdVs.cons (by unfold RdC; rfl) (RdVs.cons ((HR.out.up hB0).below HX.1 (Nat.le_refl _)) (RdVs.nil _ _))))))
        rw [HFF.out k] at CK
        cases hv : F k with
        | true =>
          rw [hv] at CK
          have HF := Lib.hid (csF_hit F k hk1 hk5 HA.out hv)
          go_wp2_with (go_at_call 20; refine CK.out.mono ?_; rintro e w5 ⟨rfl, hb5⟩)
          go_ret
          exact ⟨by rw [EX.out, HF.out]; rfl, (HX.call hb5).1⟩
        | false =>
          rw [hv] at CK
          have HV := Lib.hid hv
          clear hv
          go_wp2_with (go_at_call 20; refine CK.out.mono ?_; rintro e w5 ⟨rfl, hb5⟩)
          go_roundw
          case rel => exact ⟨k + 1, by omega, by omega, by go_num, Lib.hid (fun j h1 h2 => by rcases Nat.lt_succ_iff_lt_or_eq.mp h2 with h | h; exact HA.out j h1 h; rw [h]; exact HV.out), HX.call hb5⟩
          case measure => simp [intOf]; omega
      · obtain rfl : k = 6 := by omega
        have HF := Lib.hid (csF_none F HA.out)
        go_wp2_with fail
        go_ret
        exact ⟨by rw [EX.out, HF.out]; rfl, HX.1⟩
end Go.Proofs.Ytgejkfcemlkclaa
namespace Go.Proofs.Ytgejkfcemlkclaa
open Go.ChangeShapes Go.WideShapes Go.ChangeAt Go.RowKit Go.Deep Go.Joins
open Go.ChangeMaps (open_string shut_string)
set_option linter.unusedVariables false
set_option linter.unusedSimpArgs false
set_option maxRecDepth 100000
def SzNode (x : FNode) : Prop := ∀ (us : List Value) (left : Int) (w : World) (B : Nat), 0 ≤ left → left ≤ 1048576 → B ≤ w.heap.size → RdVs w B x.c us → Calls Try.prog 5 #[.agg us.toArray, .int .i64 left] w fun e w' => e = .returned (.int .i64 (bud left x.wt)) ∧ Below w.heap.size w w'
def SzNodeS (l : List FNode) : Prop := ∀ (u : Value) (left : Int) (w : World) (B : Nat), 0 ≤ left → left ≤ 1048576 → B ≤ w.heap.size → RdC w B (.s 29 4 l.length (FNode.flat l)) u → Calls Try.prog 18 #[u, .int .i64 left] w fun e w' => e = .returned (.int .i64 (bud left (l.length + FNode.wts l))) ∧ Below w.heap.size w w'
set_option maxHeartbeats 1000000 in
theorem szNode_of (z0 : Int) (z1 : Int) (z2 : ByteArray) (z3 : List FNode) (hok : FNode.ok ⟨z0, z1, z2, z3⟩) (h3 : SzNodeS z3) : SzNode ⟨z0, z1, z2, z3⟩ := by
  intro us left w B hl0 hl1 hB0 hr
  rw [FNode.c_eq] at hr
  rw [FNode.wt_eq]
  rw [FNode.ok_eq] at hok
  obtain ⟨us0, rfl, hr_0⟩ := hr.unv
  obtain ⟨us1, rfl, hr_1⟩ := hr_0.unv
  obtain ⟨us2, rfl, hr_2⟩ := hr_1.unv
  obtain ⟨A3, c3, us3, rfl, r3, hr_3⟩ := hr_2.uns
  obtain rfl := hr_3.un0
  clear hr hr_0 hr_1 hr_2 hr_3
  have R3 := Lib.hid r3
  clear r3
  have H3 := Lib.hid h3
  clear h3
  have ks2 := hok.1
  clear hok
  obtain ⟨W, hW⟩ : ∃ W : Nat, W = z2.size + (z3.length + FNode.wts z3) := ⟨_, rfl⟩
  rw [← hW]
  have HW := Lib.hid hW
  clear hW
  by_cases c2 : left - z2.size < 0
  case pos =>
    go_enter Try.func5, Try.ntmps5
    go_wp2_with fail
    go_ret
    exact ⟨ret_int (by rw [bud_neg (by have := HW.out; omega)]), (Below.refl _ _).alloc (Nat.le_refl _) _⟩
  go_enter Try.func5, Try.ntmps5
  go_wp2_with fail
  refine calls_worldD _ (fun X => Blk X w.heap.size 24 #[.int .i64 z0, .int .i64 z1, .string z2, .slice A3 z3.length c3] ∧ Below w.heap.size w X) ⟨Blk.new w _ _, (Below.refl _ _).alloc (Nat.le_refl _) _⟩ ?_
  rintro X0 ⟨ba, hB⟩
  have s0 := ba.lt
  refine (H3.out _ _ _ B (by omega) (by omega) (by omega) (R3.out.below hB hB0)).mono ?_
  generalize hq0 : (z3.length + FNode.wts z3 : Nat) = q0 at *
  have Q0 := Lib.hid hq0
  clear hq0
  rintro e Y0 ⟨rfl, hb⟩
  replace ba := ba.below hb (Nat.le_refl _)
  replace hB := hB.trans (hb.mono (by omega))
  clear hb
  by_cases f0 : (q0 : Int) ≤ left - z2.size
  case neg =>
    have e0 := bud_neg f0
    rw [e0]
    clear e0
    have ba_0 : Y0.cell? ⟨w.heap.size, 0, none⟩ = some (.int .i64 z0) := ba.cell 0
    have ba_1 : Y0.cell? ⟨w.heap.size, 1, none⟩ = some (.int .i64 z1) := ba.cell 1
    have ba_2 : Y0.cell? ⟨w.heap.size, 2, none⟩ = some (.string z2) := ba.cell 2
    have ba_3 : Y0.cell? ⟨w.heap.size, 3, none⟩ = some (.slice A3 z3.length c3) := ba.cell 3
    have ba_l := ba.lt
    go_wp2_with fail
    go_ret
    exact ⟨ret_int (by rw [bud_neg (by have := HW.out; have := Q0.out; omega)]), hB⟩
  have e0 := bud_pos f0
  rw [e0]
  clear e0
  have ba_0 : Y0.cell? ⟨w.heap.size, 0, none⟩ = some (.int .i64 z0) := ba.cell 0
  have ba_1 : Y0.cell? ⟨w.heap.size, 1, none⟩ = some (.int .i64 z1) := ba.cell 1
  have ba_2 : Y0.cell? ⟨w.heap.size, 2, none⟩ = some (.string z2) := ba.cell 2
  have ba_3 : Y0.cell? ⟨w.heap.size, 3, none⟩ = some (.slice A3 z3.length c3) := ba.cell 3
  have ba_l := ba.lt
  go_wp2_with fail
  go_ret
  exact ⟨ret_int (by have := HW.out; have := Q0.out; rw [bud_pos (by omega)]; omega), hB⟩
set_option maxHeartbeats 1000000 in
theorem szNodeS_of (l : List FNode) (he : ∀ x, x ∈ l → SzNode x) : SzNodeS l := by
  intro u left w B hl0 hl1 hB0 hr0
  have hr := hr0.up hB0
  clear hr0
  obtain ⟨A, c, rfl⟩ := hr.form
  have HC := Lib.hid hr
  have hcap := hr.cap
  have hcm : l.length ≤ 9223372036854775807 := by unfold maxLen at hcap; omega
  have HE := Lib.hid he
  clear hr hcap he
  by_cases hfit : left - l.length < 0
  · go_enter Try.func18, Try.ntmps18
    go_wp2_with fail
    go_ret
    exact ⟨ret_int (by rw [bud_neg (by omega)]), Below.refl _ _⟩
  go_enter Try.func18, Try.ntmps18
  go_wp2_with fail
  go_loopw [1, 5] (fun lv i wr => ∃ k : Nat, k ≤ l.length ∧ i = .int .i64 k ∧ lv = .int .i64 (left - l.length - (FNode.wts (l.take k) : Nat)) ∧ ((FNode.wts (l.take k) : Nat) : Int) ≤ left - l.length ∧ Below w.heap.size w wr) (fun _ i _ => l.length - (intOf i).toNat)
  case atStart => exact ⟨0, Nat.zero_le _, rfl, by simp [FNode.wts], by simp [FNode.wts]; omega, Below.refl _ _⟩
  case round =>
    obtain ⟨k, hk, rfl, rfl, hw, hb⟩ := hrel
    by_cases hlt : k < l.length
    · obtain ⟨x, hx⟩ : ∃ x, l[k]? = some x := ⟨_, List.getElem?_eq_getElem hlt⟩
      obtain ⟨bc, offc, rfl, hblc, hcc⟩ := RdC.at_ FNode.len HC.out hx
      have HZ := Lib.hid (HE.out x (List.mem_of_getElem? hx))
      have HT := Lib.hid (FNode.wts_take l k x hx)
      have HL := Lib.hid (FNode.wts_le l (k + 1))
      clear hx
      obtain ⟨z0, z1, z2, z3⟩ := x
      rw [FNode.c_eq] at hcc
      obtain ⟨u0, e0, q0⟩ := hcc 0 _ rfl
      obtain rfl := q0.val
      clear q0
      have c_0 : wr.cell? ⟨bc, offc + k * 4, none⟩ = some (.int .i64 z0) := (hb.cell (p := ⟨bc, _, none⟩) hblc).trans (by simpa using e0)
      obtain ⟨u1, e1, q1⟩ := hcc 1 _ rfl
      obtain rfl := q1.val
      clear q1
      have c_1 : wr.cell? ⟨bc, offc + k * 4 + 1, none⟩ = some (.int .i64 z1) := (hb.cell (p := ⟨bc, _, none⟩) hblc).trans (by simpa using e1)
      obtain ⟨u2, e2, q2⟩ := hcc 2 _ rfl
      obtain rfl := q2.val
      clear q2
      have c_2 : wr.cell? ⟨bc, offc + k * 4 + 2, none⟩ = some (.string z2) := (hb.cell (p := ⟨bc, _, none⟩) hblc).trans (by simpa using e2)
      obtain ⟨u3, e3, q3⟩ := hcc 3 _ rfl
      obtain ⟨A3, c3, rfl⟩ := q3.form
      have R3 := Lib.hid q3
      clear q3
      have c_3 : wr.cell? ⟨bc, offc + k * 4 + 3, none⟩ = some (.slice A3 z3.length c3) := (hb.cell (p := ⟨bc, _, none⟩) hblc).trans (by simpa using e3)
      clear hcc e0 e1 e2 e3
      generalize hu : FNode.wts (l.take k) = U at *
      have HU := Lib.hid hu
      clear hu
      generalize hv : FNode.wt ⟨z0, z1, z2, z3⟩ = V at *
      have HV := Lib.hid hv
      clear hv
      by_cases hf : (V : Int) ≤ left - l.length - U
      · have hbp : 0 ≤ bud (left - l.length - U) V := by rw [bud_pos hf]; omega
        have HBP := Lib.hid (bud_pos hf)
        go_wp2_with fail
        refine (HZ.out [.int .i64 z0, .int .i64 z1, .string z2, .slice A3 z3.length c3] _ _ w.heap.size (by omega) (by omega) (by have := hb.size; omega) (by rw [FNode.c_eq]; exact (RdVs.cons (by unfold RdC; rfl) (RdVs.cons (by unfold RdC; rfl) (RdVs.cons (by unfold RdC; rfl) (RdVs.cons (R3.out.below hb (Nat.le_refl _)) (RdVs.nil _ _))))))).mono ?_
        rw [HV.out]
        rintro e w2 ⟨rfl, hb2⟩
        go_wp2_with fail
        go_roundw
        case rel =>
          have e := HT.out
          have e9 := HV.out
          rw [← HU.out] at *
          refine ⟨k + 1, by omega, by go_num, ?_, by rw [e, HU.out]; omega, hb.trans (hb2.mono hb.size)⟩
          rw [HBP.out, e, HU.out]
          congr 1
          omega
        case measure => simp [intOf]; omega
      · have hbp : bud (left - l.length - U) V = -1 := bud_neg hf
        have hbn : bud (left - l.length - U) V < 0 := by rw [hbp]; omega
        clear hbp
        go_wp2_with fail
        refine (HZ.out [.int .i64 z0, .int .i64 z1, .string z2, .slice A3 z3.length c3] _ _ w.heap.size (by omega) (by omega) (by have := hb.size; omega) (by rw [FNode.c_eq]; exact (RdVs.cons (by unfold RdC; rfl) (RdVs.cons (by unfold RdC; rfl) (RdVs.cons (by unfold RdC; rfl) (RdVs.cons (R3.out.below hb (Nat.le_refl _)) (RdVs.nil _ _))))))).mono ?_
        rw [HV.out]
        rintro e w2 ⟨rfl, hb2⟩
        go_wp2_with fail
        go_ret
        refine ⟨ret_int ?_, hb.trans (hb2.mono hb.size)⟩
        have e := HT.out
        have e2 := HL.out
        have e3 := HU.out
        have e4 := HV.out
        rw [bud_neg (by omega)]
    · obtain rfl : k = l.length := by omega
      clear hlt
      go_wp2_with fail
      go_ret
      refine ⟨ret_int ?_, hb⟩
      rw [List.take_length] at *
      rw [bud_pos (by omega)]
      omega
mutual
theorem szNode_any : ∀ (x : FNode), x.ok → SzNode x
  | .mk a0 a1 a2 a3, hw => by
    have hw2 := hw
    unfold FNode.ok at hw2
    exact szNode_of a0 a1 a2 a3 hw (szNodeS_of a3 (szNode_all a3 hw2.2))
theorem szNode_all : ∀ (l : List FNode), FNode.oks l → ∀ x, x ∈ l → SzNode x
  | [], _, x, hx => by cases hx
  | y :: r, hw, x, hx => by
    unfold FNode.oks at hw
    rcases List.mem_cons.1 hx with e | hx
    · rw [e]
      exact szNode_any y hw.1
    · exact szNode_all r hw.2 x hx
end
end Go.Proofs.Ytgejkfcemlkclaa
namespace Go.Proofs.Ytgejkfcemlkclaa
open Go.ChangeShapes Go.WideShapes Go.ChangeAt Go.RowKit Go.Deep Go.Joins
open Go.ChangeMaps (open_string shut_string)
set_option linter.unusedVariables false
set_option linter.unusedSimpArgs false
set_option maxRecDepth 100000

/-- What make lays, as a list of values. -/
def madeL (z : Array Value) (n : Nat) : List Value := (madeCells z n).toList
theorem own_madeL (w : World) (z : Array Value) (n k : Nat) (t : TypeId) (hz : z.size = k) (hk : 0 < k) (hn : n ≤ maxLen) : (w.alloc (.cells (madeCells z (n * k)) t)).ownsRow w.heap.size t k (.slice (some ⟨w.heap.size, 0, none⟩) n n) n ([] ++ madeL z (n * k)) := by
  rw [List.nil_append]
  have hsz : (madeCells z (n * k)).size = n * k := by simp [madeCells]
  refine ⟨by simp [madeL, hsz], .inr ⟨w.heap.size, n, madeCells z (n * k), rfl, Nat.le_refl _, heap_alloc_new w _, Nat.le_refl _, hn, hsz, ?_⟩⟩
  unfold madeL
  rw [List.take_of_length_le (by simp [hsz])]
theorem own_rowf {w : World} {base k n c g : Nat} {e : TypeId} {xs : List Value} (h : w.ownsRow base e k (.slice (some ⟨g, 0, none⟩) n c) n xs) : ∃ (g1 : Nat) (f : Nat → Value), w.rowIs g e (c * k) f := by
  rcases own_row h with ⟨hv, _⟩ | ⟨g1, cap, f, hv, _, _, _, hrow, _⟩
  · cases hv
  · simp only [Value.slice.injEq, Option.some.injEq, Addr.mk.injEq, true_and, and_true] at hv
    obtain ⟨rfl, rfl⟩ := hv
    exact ⟨g, f, hrow⟩
def ToNode (x : FNode) : Prop := ∀ (us : List Value) (w : World) (B : Nat), B ≤ w.heap.size → RdVs w B x.c us → Calls Try.prog 7 #[.agg us.toArray] w fun e w' => ∃ us', e = .returned (.agg us'.toArray) ∧ OwnI w' w.heap.size w'.heap.size x.c us' ∧ Below w.heap.size w w'
def ToNodeS (l : List FNode) : Prop := ∀ (u : Value) (w : World) (B : Nat), B ≤ w.heap.size → RdC w B (.s 29 4 l.length (FNode.flat l)) u → Calls Try.prog 21 #[u] w fun e w' => ∃ A c, e = .returned (.slice A l.length c) ∧ OwnI w' w.heap.size w'.heap.size [.s 29 4 l.length (FNode.flat l)] [.slice A l.length c] ∧ Below w.heap.size w w'
set_option maxHeartbeats 1000000 in
theorem toNode_of (z0 : Int) (z1 : Int) (z2 : ByteArray) (z3 : List FNode) (h3 : ToNodeS z3) : ToNode ⟨z0, z1, z2, z3⟩ := by
  intro us w B hB0 hr
  rw [FNode.c_eq] at hr ⊢
  obtain ⟨us0, rfl, hr_0⟩ := hr.unv
  obtain ⟨us1, rfl, hr_1⟩ := hr_0.unv
  obtain ⟨us2, rfl, hr_2⟩ := hr_1.unv
  obtain ⟨A3, c3, us3, rfl, r3, hr_3⟩ := hr_2.uns
  obtain rfl := hr_3.un0
  have R3 := Lib.hid r3
  clear r3
  have H3 := Lib.hid h3
  clear h3
  go_enter Try.func7, Try.ntmps7
  go_wp2_with fail
  refine calls_worldD _ (fun X => Blk X (w.heap.size) 24 #[.int .i64 z0, .int .i64 z1, .string z2, .slice A3 z3.length c3] ∧ Blk X (w.heap.size + 1) 29 #[.int .i64 0, .int .i64 0, .string ⟨#[]⟩, .slice none 0 0] ∧ Blk X (w.heap.size + 1 + 1) 29 #[.int .i64 z0, .int .i64 z1, .string z2, .slice none 0 0] ∧ Below w.heap.size w X) ⟨((Blk.new w _ _).alloc _).alloc _, (Blk.new' (w.alloc _) _ _ _ (by simp)).alloc _, Blk.new' ((w.alloc _).alloc _) _ _ _ (by simp), ((((Below.refl _ _).alloc (Nat.le_refl _) _).alloc (by simp) _).alloc (by simp; omega) _)⟩ ?_
  rintro X0 ⟨ba, br, bo, hB⟩
  have s0 := bo.lt
  refine (H3.out _ _ B (by omega) (R3.out.below hB hB0)).mono ?_
  rintro e Y0 ⟨D3, d3, rfl, own, hb⟩
  have o3 := own
  clear own
  replace ba := ba.below hb (Nat.le_refl _)
  replace br := br.below hb (Nat.le_refl _)
  replace bo := bo.below hb (Nat.le_refl _)
  replace hB := hB.trans (hb.mono (by omega))
  have t0 : X0.heap.size ≤ Y0.heap.size := hb.size
  clear hb
  have ba_0 : Y0.cell? ⟨w.heap.size, 0, none⟩ = some (.int .i64 z0) := ba.cell 0
  have ba_1 : Y0.cell? ⟨w.heap.size, 1, none⟩ = some (.int .i64 z1) := ba.cell 1
  have ba_2 : Y0.cell? ⟨w.heap.size, 2, none⟩ = some (.string z2) := ba.cell 2
  have ba_3 : Y0.cell? ⟨w.heap.size, 3, none⟩ = some (.slice A3 z3.length c3) := ba.cell 3
  have ba_l := ba.lt
  have ba_f := fun i => ba.frozen i
  have br_0 : Y0.cell? ⟨w.heap.size + 1, 0, none⟩ = some (.int .i64 0) := br.cell 0
  have br_1 : Y0.cell? ⟨w.heap.size + 1, 1, none⟩ = some (.int .i64 0) := br.cell 1
  have br_2 : Y0.cell? ⟨w.heap.size + 1, 2, none⟩ = some (.string ⟨#[]⟩) := br.cell 2
  have br_3 : Y0.cell? ⟨w.heap.size + 1, 3, none⟩ = some (.slice none 0 0) := br.cell 3
  have br_l := br.lt
  have br_f := fun i => br.frozen i
  have bo_0 : Y0.cell? ⟨w.heap.size + 1 + 1, 0, none⟩ = some (.int .i64 z0) := bo.cell 0
  have bo_1 : Y0.cell? ⟨w.heap.size + 1 + 1, 1, none⟩ = some (.int .i64 z1) := bo.cell 1
  have bo_2 : Y0.cell? ⟨w.heap.size + 1 + 1, 2, none⟩ = some (.string z2) := bo.cell 2
  have bo_3 : Y0.cell? ⟨w.heap.size + 1 + 1, 3, none⟩ = some (.slice none 0 0) := bo.cell 3
  have bo_l := bo.lt
  have bo_f := fun i => bo.frozen i
  go_wp2_with fail
  skip
  refine bodyPost_ret (v := .agg #[.int .i64 z0, .int .i64 z1, .string z2, .slice D3 z3.length d3]) (by simp [results, Try.results7, go_sem, br_0, br_1, br_2, br_3, bo_0, bo_1, bo_2, bo_3, br_l, br_f, bo_l, bo_f]) rfl ⟨_, rfl, ?_, ?_⟩
  · refine OwnI.wide (lo := X0.heap.size) (hi := Y0.heap.size) ?_ (by omega) (by simp)
    repeat (refine OwnI.set ?_ (.inl (by simp; omega)) _)
    exact (OwnI.consv (OwnI.consv (OwnI.consv (OwnI.app (m := Y0.heap.size) (hi := Y0.heap.size) o3 (OwnI.wide (lo' := Y0.heap.size) (hi' := Y0.heap.size) (OwnI.nil _ Y0.heap.size Y0.heap.size) (by omega) (by omega)) (Nat.le_refl _) (by omega) (by omega)) _) _) _)
  · repeat (refine Below.setCell ?_ (by simp; try omega) _)
    exact hB
theorem infoNode : (Try.prog.info? 29).map (fun i => (i.zero.map Value.cells, i.size, i.bytes)) = some (some #[.int .i64 0, .int .i64 0, .string ByteArray.empty, .slice none 0 0], 4, 56) := by kernel_rfl
set_option maxHeartbeats 1000000 in
theorem toNodeS_of (l : List FNode) (hl : l.length ≤ 1048576) (he : ∀ x, x ∈ l → ToNode x) : ToNodeS l := by
  intro u w B hB0 hr0
  have hr := hr0.up hB0
  clear hr0
  obtain ⟨A, c, rfl⟩ := hr.form
  have HC := Lib.hid hr
  have hcap := hr.cap
  have hn : l.length ≤ 9223372036854775807 := by omega
  have hmk := fun W => make_law (P := Try.prog) 27 29 _ 4 56 Try.underlying27 infoNode l.length (by omega) hn W
  have HE := Lib.hid he
  clear he
  clear hr hcap
  go_enter Try.func21, Try.ntmps21
  go_wp2
  go_loopw [4] (fun i wr => ∃ k : Nat, k ≤ l.length ∧ i = .int .i64 k ∧ (∃ us zs, us.length = k * 4 ∧ zs.length = (l.length - k) * 4 ∧ wr.ownsRow w.heap.size 29 4 (.slice (some ⟨w.heap.size, 0, none⟩) l.length l.length) l.length (us ++ zs) ∧ OwnI wr (w.heap.size + 1) wr.heap.size (FNode.flat (l.take k)) us) ∧ Below w.heap.size w wr) (fun i _ => l.length - (intOf i).toNat)
  case atStart => exact ⟨0, Nat.zero_le _, rfl, ⟨[], madeL #[.int .i64 0, .int .i64 0, .string ByteArray.empty, .slice none 0 0] (l.length * 4), by simp, by simp [madeL, size_madeCells], own_madeL w _ l.length 4 _ rfl (by omega) (by unfold maxLen; omega), OwnI.nil _ _ _⟩, (Below.refl _ _).alloc (Nat.le_refl _) _⟩
  case round =>
    obtain ⟨k, hk, rfl, ⟨us, zs, hus, hzs, hrow, hown⟩, hb⟩ := hrel
    have HROW := Lib.hid hrow
    have HOWN := Lib.hid hown
    have HUS := Lib.hid hus
    have HZS := Lib.hid hzs
    have hsz : w.heap.size < wr.heap.size := (hrow.lt _ rfl).2
    clear hmk hrow hown hus hzs
    by_cases hlt : k < l.length
    · obtain ⟨x, hx⟩ : ∃ x, l[k]? = some x := ⟨_, List.getElem?_eq_getElem hlt⟩
      obtain ⟨bc, offc, rfl, hblc, hcc⟩ := RdC.at_ FNode.len HC.out hx
      obtain ⟨z0, z1, z2, z3⟩ := x
      rw [FNode.c_eq] at hcc
      obtain ⟨u0, e0, q0⟩ := hcc 0 _ rfl
      obtain rfl := q0.val
      clear q0
      have c_0 : wr.cell? ⟨bc, offc + k * 4, none⟩ = some (.int .i64 z0) := (hb.cell (p := ⟨bc, _, none⟩) hblc).trans (by simpa using e0)
      obtain ⟨u1, e1, q1⟩ := hcc 1 _ rfl
      obtain rfl := q1.val
      clear q1
      have c_1 : wr.cell? ⟨bc, offc + k * 4 + 1, none⟩ = some (.int .i64 z1) := (hb.cell (p := ⟨bc, _, none⟩) hblc).trans (by simpa using e1)
      obtain ⟨u2, e2, q2⟩ := hcc 2 _ rfl
      obtain rfl := q2.val
      clear q2
      have c_2 : wr.cell? ⟨bc, offc + k * 4 + 2, none⟩ = some (.string z2) := (hb.cell (p := ⟨bc, _, none⟩) hblc).trans (by simpa using e2)
      obtain ⟨u3, e3, q3⟩ := hcc 3 _ rfl
      obtain ⟨A3, c3, rfl⟩ := q3.form
      have Q3 := Lib.hid q3
      clear q3
      have c_3 : wr.cell? ⟨bc, offc + k * 4 + 3, none⟩ = some (.slice A3 z3.length c3) := (hb.cell (p := ⟨bc, _, none⟩) hblc).trans (by simpa using e3)
      obtain ⟨g1, f1, hrow1⟩ := own_rowf HROW.out
      have HX := Lib.hid hx
      clear hcc hx e0 e1 e2 e3
      have HT := Lib.hid (HE.out _ (List.mem_of_getElem? HX.out))
      have HV := Lib.hid (show RdVs wr w.heap.size (FNode.c ⟨z0, z1, z2, z3⟩) [.int .i64 z0, .int .i64 z1, .string z2, .slice A3 z3.length c3] from by rw [FNode.c_eq]; exact (RdVs.cons (by unfold RdC; rfl) (RdVs.cons (by unfold RdC; rfl) (RdVs.cons (by unfold RdC; rfl) (RdVs.cons (Q3.out.below hb (Nat.le_refl _)) (RdVs.nil _ _))))))
      go_wp2_with fail
      refine (HT.out _ _ w.heap.size (by omega) HV.out).mono ?_
      rw [FNode.c_eq]
      rintro e w2 ⟨us2, rfl, own2, hb2⟩
      have hv := own2.vs
      obtain ⟨us2_0, rfl, hv_0⟩ := hv.unv
      obtain ⟨us2_1, rfl, hv_1⟩ := hv_0.unv
      obtain ⟨us2_2, rfl, hv_2⟩ := hv_1.unv
      obtain ⟨D3, d3, us2_3, rfl, _, hv_3⟩ := hv_2.uns
      obtain rfl := hv_3.un0
      have OWN2 := Lib.hid own2
      have row2 : w2.rowIs w.heap.size 29 (l.length * 4) f1 := hrow1.of_block (hb2.block _ hrow1.lt)
      have ROW2 := Lib.hid (own_below HROW.out hb2 (Nat.le_refl _))
      have hsz2 : wr.heap.size ≤ w2.heap.size := hb2.size
      have hB2 := hb.trans (hb2.mono hb.size)
      have HOWN2 := Lib.hid (HOWN.out.below hb2 (Nat.le_refl _))
      have r0 := row2.cell (i := k * 4) (by omega)
      have f0_ := row2.frozen (k * 4)
      have r1 := row2.cell (i := k * 4 + 1) (by omega)
      have f1_ := row2.frozen (k * 4 + 1)
      have r2 := row2.cell (i := k * 4 + 2) (by omega)
      have f2_ := row2.frozen (k * 4 + 2)
      have r3 := row2.cell (i := k * 4 + 3) (by omega)
      have f3_ := row2.frozen (k * 4 + 3)
      clear own2 row2 hrow1 c_0 c_1 c_2 c_3
      go_wp2_with fail
      go_roundw
      case rel =>
        have hflat : FNode.flat (l.take (k + 1)) = FNode.flat (l.take k) ++ [.v (.int .i64 z0), .v (.int .i64 z1), .v (.string z2), .s 29 4 z3.length (FNode.flat z3)] := by
          rw [List.take_add_one, HX.out]
          simp [FNode.c_eq]
        have hset := sets_app [.int .i64 z0, .int .i64 z1, .string z2, .slice D3 z3.length d3] us zs (k * 4) HUS.out (by rw [HZS.out]; simp; omega)
        refine ⟨k + 1, by omega, by go_num, ⟨us ++ [.int .i64 z0, .int .i64 z1, .string z2, .slice D3 z3.length d3], zs.drop 4, by simp [HUS.out]; try omega, by rw [List.length_drop, HZS.out]; omega, ?_, ?_⟩, ((((hB2.setCell (by simp) _).setCell (by simp) _).setCell (by simp) _).setCell (by simp) _)⟩
        · have hfin := (own_setC (own_setC (own_setC (own_setC ROW2.out (i := k * 4) (by omega) (.int .i64 z0)) (i := k * 4 + 1) (by omega) (.int .i64 z1)) (i := k * 4 + 2) (by omega) (.string z2)) (i := k * 4 + 3) (by omega) (.slice D3 z3.length d3))
          rw [show us ++ [.int .i64 z0, .int .i64 z1, .string z2, .slice D3 z3.length d3] ++ zs.drop 4 = _ from hset.symm]
          simpa [sets] using hfin
        · rw [hflat]
          have hfin := (OwnI.set (OwnI.set (OwnI.set (OwnI.set (OwnI.app (m := wr.heap.size) (lo' := wr.heap.size) (hi := w2.heap.size) HOWN2.out OWN2.out (Nat.le_refl _) (by omega) (by omega)) (p := ⟨w.heap.size, k * 4, none⟩) (.inl (by simp)) (.int .i64 z0)) (p := ⟨w.heap.size, k * 4 + 1, none⟩) (.inl (by simp)) (.int .i64 z1)) (p := ⟨w.heap.size, k * 4 + 2, none⟩) (.inl (by simp)) (.string z2)) (p := ⟨w.heap.size, k * 4 + 3, none⟩) (.inl (by simp)) (.slice D3 z3.length d3))
          exact hfin.wide (Nat.le_refl _) (by simp)
      case measure => simp [intOf]; omega
    · obtain rfl : k = l.length := by omega
      clear hlt
      go_wp2_with fail
      go_ret
      have hz0 : zs = [] := List.eq_nil_of_length_eq_zero (by rw [HZS.out]; simp)
      have hr1 := HROW.out
      have ho1 := HOWN.out
      rw [hz0, List.append_nil] at hr1
      rw [List.take_length] at ho1
      exact ⟨_, _, rfl, OwnI.mk hr1 ho1 (fun g hg => by have : w.heap.size = g := by simpa [Value.ownBlock] using hg
                                                        omega) (by omega) (Nat.le_refl _), hb⟩
mutual
theorem toNode_any : ∀ (x : FNode), x.wt ≤ 1048576 → ToNode x
  | .mk a0 a1 a2 a3, hw => by
    unfold FNode.wt at hw
    exact toNode_of a0 a1 a2 a3 (toNodeS_of a3 (by omega) (toNode_all a3 (by omega)))
theorem toNode_all : ∀ (l : List FNode), l.length + FNode.wts l ≤ 1048576 → ∀ x, x ∈ l → ToNode x
  | [], _, x, hx => by cases hx
  | y :: r, hw, x, hx => by
    unfold FNode.wts at hw
    simp only [List.length_cons] at hw
    rcases List.mem_cons.1 hx with e | hx
    · rw [e]
      exact toNode_any y (by omega)
    · exact toNode_all r (by omega) x hx
end
end Go.Proofs.Ytgejkfcemlkclaa
namespace Go.Proofs.Ytgejkfcemlkclaa
open Go.ChangeShapes Go.WideShapes Go.ChangeAt Go.RowKit Go.Deep Go.Joins
open Go.ChangeMaps (open_string shut_string)
set_option linter.unusedVariables false
set_option linter.unusedSimpArgs false
set_option maxRecDepth 100000
def EqNode (x : FNode) : Prop := ∀ (us vs : List Value) (w : World), RdVs w w.heap.size x.c us → RdVs w w.heap.size x.c vs → Calls Try.prog 9 #[.agg us.toArray, .agg vs.toArray] w fun e w' => e = .returned (.bool true) ∧ Below w.heap.size w w'
def EqNodeS (l : List FNode) : Prop := ∀ (u v : Value) (w : World), RdC w w.heap.size (.s 29 4 l.length (FNode.flat l)) u → RdC w w.heap.size (.s 29 4 l.length (FNode.flat l)) v → Calls Try.prog 23 #[u, v] w fun e w' => e = .returned (.bool true) ∧ Below w.heap.size w w'
set_option maxHeartbeats 1000000 in
theorem eqNode_of (z0 : Int) (z1 : Int) (z2 : ByteArray) (z3 : List FNode) (h3 : EqNodeS z3) : EqNode ⟨z0, z1, z2, z3⟩ := by
  intro us vs w hr hs
  rw [FNode.c_eq] at hr hs
  obtain ⟨us0, rfl, hr_0⟩ := hr.unv
  obtain ⟨us1, rfl, hr_1⟩ := hr_0.unv
  obtain ⟨us2, rfl, hr_2⟩ := hr_1.unv
  obtain ⟨A3, c3, us3, rfl, r3, hr_3⟩ := hr_2.uns
  obtain rfl := hr_3.un0
  obtain ⟨vs0, rfl, hs_0⟩ := hs.unv
  obtain ⟨vs1, rfl, hs_1⟩ := hs_0.unv
  obtain ⟨vs2, rfl, hs_2⟩ := hs_1.unv
  obtain ⟨B3, d3, vs3, rfl, t3, hs_3⟩ := hs_2.uns
  obtain rfl := hs_3.un0
  clear hr hs hr_0 hs_0 hr_1 hs_1 hr_2 hs_2 hr_3 hs_3
  have R3 := Lib.hid r3
  have T3 := Lib.hid t3
  clear r3 t3
  have H3 := Lib.hid h3
  clear h3
  go_enter Try.func9, Try.ntmps9
  go_wp2_with fail
  refine calls_worldD _ (fun X => Blk X w.heap.size 29 #[.int .i64 z0, .int .i64 z1, .string z2, .slice A3 z3.length c3] ∧ Blk X (w.heap.size + 1) 29 #[.int .i64 z0, .int .i64 z1, .string z2, .slice B3 z3.length d3] ∧ Below w.heap.size w X) ⟨(Blk.new w _ _).alloc _, Blk.new' (w.alloc _) _ _ _ (by simp), ((Below.refl _ _).alloc (Nat.le_refl _) _).alloc (by simp) _⟩ ?_
  rintro X0 ⟨ba, bb, hB⟩
  have s0 := bb.lt
  refine (H3.out _ _ _ (R3.out.on hB (Nat.le_refl _) (by omega)) (T3.out.on hB (Nat.le_refl _) (by omega))).mono ?_
  rintro e Y0 ⟨rfl, hb⟩
  replace ba := ba.below hb (Nat.le_refl _)
  replace bb := bb.below hb (Nat.le_refl _)
  replace hB := hB.trans (hb.mono (by omega))
  clear hb
  have ba_0 : Y0.cell? ⟨w.heap.size, 0, none⟩ = some (.int .i64 z0) := ba.cell 0
  have ba_1 : Y0.cell? ⟨w.heap.size, 1, none⟩ = some (.int .i64 z1) := ba.cell 1
  have ba_2 : Y0.cell? ⟨w.heap.size, 2, none⟩ = some (.string z2) := ba.cell 2
  have ba_3 : Y0.cell? ⟨w.heap.size, 3, none⟩ = some (.slice A3 z3.length c3) := ba.cell 3
  have ba_l := ba.lt
  have bb_0 : Y0.cell? ⟨w.heap.size + 1, 0, none⟩ = some (.int .i64 z0) := bb.cell 0
  have bb_1 : Y0.cell? ⟨w.heap.size + 1, 1, none⟩ = some (.int .i64 z1) := bb.cell 1
  have bb_2 : Y0.cell? ⟨w.heap.size + 1, 2, none⟩ = some (.string z2) := bb.cell 2
  have bb_3 : Y0.cell? ⟨w.heap.size + 1, 3, none⟩ = some (.slice B3 z3.length d3) := bb.cell 3
  have bb_l := bb.lt
  go_wp2_with fail
  go_ret
  exact ⟨rfl, hB⟩
set_option maxHeartbeats 1000000 in
theorem eqNodeS_of (l : List FNode) (hl : l.length ≤ 1000000000) (he : ∀ x, x ∈ l → EqNode x) : EqNodeS l := by
  intro u v w hu hv
  obtain ⟨A, c, rfl⟩ := hu.form
  obtain ⟨A', c', rfl⟩ := hv.form
  have HC := Lib.hid hu
  have HD := Lib.hid hv
  have hn : l.length ≤ 9223372036854775807 := by omega
  have HE := Lib.hid he
  clear he
  clear hu hv
  go_enter Try.func23, Try.ntmps23
  go_wp2
  go_loopw [5] (fun i wr => ∃ k : Nat, k ≤ l.length ∧ i = .int .i64 k ∧ Below w.heap.size w wr) (fun i _ => l.length - (intOf i).toNat)
  case atStart => exact ⟨0, Nat.zero_le _, rfl, Below.refl _ _⟩
  case round =>
    obtain ⟨k, hk, rfl, hb⟩ := hrel
    by_cases hlt : k < l.length
    · obtain ⟨x, hx⟩ : ∃ x, l[k]? = some x := ⟨_, List.getElem?_eq_getElem hlt⟩
      obtain ⟨bc, offc, rfl, hblc, hcc⟩ := RdC.at_ FNode.len HC.out hx
      obtain ⟨bd, offd, rfl, hbld, hcd⟩ := RdC.at_ FNode.len HD.out hx
      have HE2 := Lib.hid (HE.out x (List.mem_of_getElem? hx))
      clear hx
      obtain ⟨z0, z1, z2, z3⟩ := x
      rw [FNode.c_eq] at hcc hcd
      obtain ⟨u0, e0, q0⟩ := hcc 0 _ rfl
      obtain rfl := q0.val
      clear q0
      have c_0 : wr.cell? ⟨bc, offc + k * 4, none⟩ = some (.int .i64 z0) := (hb.cell (p := ⟨bc, _, none⟩) hblc).trans (by simpa using e0)
      clear e0
      obtain ⟨u1, e1, q1⟩ := hcc 1 _ rfl
      obtain rfl := q1.val
      clear q1
      have c_1 : wr.cell? ⟨bc, offc + k * 4 + 1, none⟩ = some (.int .i64 z1) := (hb.cell (p := ⟨bc, _, none⟩) hblc).trans (by simpa using e1)
      clear e1
      obtain ⟨u2, e2, q2⟩ := hcc 2 _ rfl
      obtain rfl := q2.val
      clear q2
      have c_2 : wr.cell? ⟨bc, offc + k * 4 + 2, none⟩ = some (.string z2) := (hb.cell (p := ⟨bc, _, none⟩) hblc).trans (by simpa using e2)
      clear e2
      obtain ⟨u3, e3, q3⟩ := hcc 3 _ rfl
      obtain ⟨A3, c3, rfl⟩ := q3.form
      have R3 := Lib.hid q3
      clear q3
      have c_3 : wr.cell? ⟨bc, offc + k * 4 + 3, none⟩ = some (.slice A3 z3.length c3) := (hb.cell (p := ⟨bc, _, none⟩) hblc).trans (by simpa using e3)
      clear e3
      obtain ⟨u0, e0, q0⟩ := hcd 0 _ rfl
      obtain rfl := q0.val
      clear q0
      have d_0 : wr.cell? ⟨bd, offd + k * 4, none⟩ = some (.int .i64 z0) := (hb.cell (p := ⟨bd, _, none⟩) hbld).trans (by simpa using e0)
      clear e0
      obtain ⟨u1, e1, q1⟩ := hcd 1 _ rfl
      obtain rfl := q1.val
      clear q1
      have d_1 : wr.cell? ⟨bd, offd + k * 4 + 1, none⟩ = some (.int .i64 z1) := (hb.cell (p := ⟨bd, _, none⟩) hbld).trans (by simpa using e1)
      clear e1
      obtain ⟨u2, e2, q2⟩ := hcd 2 _ rfl
      obtain rfl := q2.val
      clear q2
      have d_2 : wr.cell? ⟨bd, offd + k * 4 + 2, none⟩ = some (.string z2) := (hb.cell (p := ⟨bd, _, none⟩) hbld).trans (by simpa using e2)
      clear e2
      obtain ⟨u3, e3, q3⟩ := hcd 3 _ rfl
      obtain ⟨B3, d3, rfl⟩ := q3.form
      have T3 := Lib.hid q3
      clear q3
      have d_3 : wr.cell? ⟨bd, offd + k * 4 + 3, none⟩ = some (.slice B3 z3.length d3) := (hb.cell (p := ⟨bd, _, none⟩) hbld).trans (by simpa using e3)
      clear e3
      clear hcc hcd
      go_wp2_with fail
      go_still_tail 8, (by kernel_rfl)
      have hbd : Below w.heap.size w wr.drew := hb.drew
      change wpList _ _ _ _ _ wr.drew
      generalize wr.drew = wd at *
      go_wp2_with (go_at_call 9; refine (HE2.out [.int .i64 z0, .int .i64 z1, .string z2, .slice A3 z3.length c3] [.int .i64 z0, .int .i64 z1, .string z2, .slice B3 z3.length d3] _ (by rw [FNode.c_eq]; exact (RdVs.cons (by unfold RdC; rfl) (RdVs.cons (by unfold RdC; rfl) (RdVs.cons (by unfold RdC; rfl) (RdVs.cons (R3.out.on hbd (Nat.le_refl _) hbd.size) (RdVs.nil _ _)))))) (by rw [FNode.c_eq]; exact (RdVs.cons (by unfold RdC; rfl) (RdVs.cons (by unfold RdC; rfl) (RdVs.cons (by unfold RdC; rfl) (RdVs.cons (T3.out.on hbd (Nat.le_refl _) hbd.size) (RdVs.nil _ _))))))).mono ?_; rintro e w2 ⟨rfl, hb2⟩)
      go_roundw
      case rel => exact ⟨k + 1, by omega, by go_num, hbd.trans (hb2.mono hbd.size)⟩
      case measure => simp [intOf]; omega
    · obtain rfl : k = l.length := by omega
      clear hlt
      go_wp2_with fail
      go_ret
      exact ⟨rfl, hb⟩
mutual
theorem eqNode_any : ∀ (x : FNode), x.wt ≤ 1000000000 → EqNode x
  | .mk a0 a1 a2 a3, hw => by
    unfold FNode.wt at hw
    exact eqNode_of a0 a1 a2 a3 (eqNodeS_of a3 (by omega) (eqNode_all a3 (by omega)))
theorem eqNode_all : ∀ (l : List FNode), l.length + FNode.wts l ≤ 1000000000 → ∀ x, x ∈ l → EqNode x
  | [], _, x, hx => by cases hx
  | y :: r, hw, x, hx => by
    unfold FNode.wts at hw
    simp only [List.length_cons] at hw
    rcases List.mem_cons.1 hx with e | hx
    · rw [e]
      exact eqNode_any y (by omega)
    · exact eqNode_all r (by omega) x hx
end
end Go.Proofs.Ytgejkfcemlkclaa
namespace Go.Proofs.Ytgejkfcemlkclaa
open Go.ChangeShapes Go.WideShapes Go.ChangeAt Go.RowKit Go.Deep Go.Joins
open Go.ChangeMaps (open_string shut_string)
set_option linter.unusedVariables false
set_option linter.unusedSimpArgs false
set_option maxRecDepth 100000

set_option maxHeartbeats 4000000 in
theorem check_impl2 (x : FNode) (hw : x.wt ≤ 1000000000) (us : List Value) (w : World) (B : Nat) (hmx : MaxAt w) (hB0 : B ≤ w.heap.size) (hr : RdVs w B x.c us) :
    Calls Try.prog 8 #[.agg us.toArray] w fun e w' => e = .returned (.int .i64 (csS x)) ∧ Below w.heap.size w w' := by
  rw [← cs_eq]
  exact check_impl x hw (tk_sc x) us w B hmx hB0 hr
theorem fnExactCheckScript_walk {H : Type} {enc : TypeId × Value → H} (W : World) (base : Nat) (v0 : Value) {d0 : DataW H} {p0 : List MemPlace}
    (k0 : Value.okWide Try.prog W .any base 24 v0)
    (h0 : DataW.Trod enc Try.prog W 0 (fun _ => true) true 24 v0 d0 p0) (hsh : W.ShapedOpen Try.prog) :
    Calls Try.prog 3 #[v0] W fun e w' => e = .returned (.bool true) ∧ Below W.heap.size W w' := by
  obtain ⟨cs0, rfl, hcs0⟩ := okWide_struct (fs := flds Try.prog 24) (by kernel_rfl) k0
  obtain ⟨fu, hfu⟩ := h0
  obtain ⟨x, r, ok⟩ := read_Node fu _ _ hfu
  obtain ⟨z0, z1, z2, z3⟩ := x
  have RV0 := r
  rw [FNode.c_eq] at r
  obtain ⟨us, hus⟩ : ∃ us, us = cs0.toList := ⟨_, rfl⟩
  have hus2 : cs0 = us.toArray := by rw [hus]
  subst hus2
  clear hus
  have r_ : RdVs W W.heap.size [.v (.int .i64 z0), .v (.int .i64 z1), .v (.string z2), .s 29 4 z3.length (FNode.flat z3)] us := by simpa [Value.cells] using r
  have RV1 : RdVs W W.heap.size (FNode.c ⟨z0, z1, z2, z3⟩) us := by simpa [Value.cells] using RV0
  clear r RV0 hfu k0 hcs0
  obtain ⟨us0, rfl, r_0⟩ := r_.unv
  obtain ⟨us1, rfl, r_1⟩ := r_0.unv
  obtain ⟨us2, rfl, r_2⟩ := r_1.unv
  obtain ⟨A3, c3, us3, rfl, _, r_3⟩ := r_2.uns
  obtain rfl := r_3.un0
  clear r_ r_0 r_1 r_2 r_3
  have RV := Lib.hid RV1
  have OK := Lib.hid ok
  clear RV1 ok
  by_cases hn : (((FNode.wt ⟨z0, z1, z2, z3⟩) : Nat) : Int) ≤ 1048576
  case neg =>
    have HP := Lib.hid (bud_neg hn)
    have hp : bud 1048576 (FNode.wt ⟨z0, z1, z2, z3⟩) < 0 := by rw [HP.out]; omega
    go_enter Try.func3, Try.ntmps3
    go_wp2_with fail
    refine calls_worldD _ (fun X => Blk X W.heap.size 24 #[.int .i64 z0, .int .i64 z1, .string z2, .slice A3 z3.length c3] ∧ Below W.heap.size W X ∧ W.heap.size < X.heap.size) ⟨Blk.new _ _ _, (Below.refl _ _).alloc (Nat.le_refl _) _, by simp⟩ ?_
    rintro w0 ⟨bA, hB0, s0⟩
    refine (szNode_any ⟨z0, z1, z2, z3⟩ OK.out [.int .i64 z0, .int .i64 z1, .string z2, .slice A3 z3.length c3] _ _ W.heap.size (by omega) (by omega) (by omega) (RV.out.on hB0 (Nat.le_refl _) (Nat.le_refl _))).mono ?_
    rintro e w1 ⟨rfl, hb⟩
    have hB := hB0.trans (hb.mono (by omega))
    replace bA := bA.below hb (Nat.le_refl _)
    have bA_0 : w1.cell? ⟨W.heap.size, 0, none⟩ = some (.int .i64 z0) := bA.cell 0
    have bA_1 : w1.cell? ⟨W.heap.size, 1, none⟩ = some (.int .i64 z1) := bA.cell 1
    have bA_2 : w1.cell? ⟨W.heap.size, 2, none⟩ = some (.string z2) := bA.cell 2
    have bA_3 : w1.cell? ⟨W.heap.size, 3, none⟩ = some (.slice A3 z3.length c3) := bA.cell 3
    go_wp2_with fail
    go_ret
    exact ⟨rfl, hB⟩
  have hw : (FNode.wt ⟨z0, z1, z2, z3⟩) ≤ 1048576 := by omega
  have HWx := Lib.hid (show (FNode.wt ⟨z0, z1, z2, z3⟩) ≤ 1000000000 by omega)
  have HP := Lib.hid (bud_pos hn)
  have hp : 0 ≤ bud 1048576 (FNode.wt ⟨z0, z1, z2, z3⟩) := by rw [HP.out]; omega
  clear HP
  have HWl := Lib.hid (show (FNode.wt ⟨z0, z1, z2, z3⟩) ≤ 1000000000 from by omega)
  have HMX := Lib.hid (MaxAt.shaped hsh)
  generalize hg0 : csS ⟨z0, z1, z2, z3⟩ = q at *
  have HG0 := Lib.hid hg0
  clear hg0
  go_enter Try.func3, Try.ntmps3
  go_wp2_with fail
  refine calls_worldD _ (fun X => Blk X W.heap.size 24 #[.int .i64 z0, .int .i64 z1, .string z2, .slice A3 z3.length c3] ∧ Below W.heap.size W X ∧ W.heap.size < X.heap.size) ⟨Blk.new _ _ _, (Below.refl _ _).alloc (Nat.le_refl _) _, by simp⟩ ?_
  rintro w0 ⟨bA, hB0, s0⟩
  refine (szNode_any ⟨z0, z1, z2, z3⟩ OK.out [.int .i64 z0, .int .i64 z1, .string z2, .slice A3 z3.length c3] _ _ W.heap.size (by omega) (by omega) (by omega) (RV.out.on hB0 (Nat.le_refl _) (Nat.le_refl _))).mono ?_
  have hB := hB0
  clear hB0
  rintro e w1 ⟨rfl, hb⟩
  replace bA := bA.below hb (Nat.le_refl _)
  replace hB := hB.trans (hb.mono (by omega))
  have s1 : w0.heap.size ≤ w1.heap.size := hb.size
  clear hb
  have bA_0 : w1.cell? ⟨W.heap.size, 0, none⟩ = some (.int .i64 z0) := bA.cell 0
  have bA_1 : w1.cell? ⟨W.heap.size, 1, none⟩ = some (.int .i64 z1) := bA.cell 1
  have bA_2 : w1.cell? ⟨W.heap.size, 2, none⟩ = some (.string z2) := bA.cell 2
  have bA_3 : w1.cell? ⟨W.heap.size, 3, none⟩ = some (.slice A3 z3.length c3) := bA.cell 3
  have bA_l := bA.lt
  go_wp2_with fail
  clear bA_0 bA_1 bA_2 bA_3 bA_l
  refine (toNode_any ⟨z0, z1, z2, z3⟩ hw [.int .i64 z0, .int .i64 z1, .string z2, .slice A3 z3.length c3] _ W.heap.size (by omega) (RV.out.on hB (Nat.le_refl _) (Nat.le_refl _))).mono ?_
  rw [FNode.c_eq]
  rintro e w2 ⟨us, rfl, own, hb⟩
  replace bA := bA.below hb (Nat.le_refl _)
  replace hB := hB.trans (hb.mono (by omega))
  have s2 : w1.heap.size ≤ w2.heap.size := hb.size
  clear hb
  have hv := own.vs
  obtain ⟨us_0, rfl, hv_0⟩ := hv.unv
  obtain ⟨us_1, rfl, hv_1⟩ := hv_0.unv
  obtain ⟨us_2, rfl, hv_2⟩ := hv_1.unv
  obtain ⟨U3, Uc3, us_3, rfl, _, hv_3⟩ := hv_2.uns
  obtain rfl := hv_3.un0
  clear hv hv_0 hv_1 hv_2 hv_3
  have iu := own
  clear own
  have bA_0 : w2.cell? ⟨W.heap.size, 0, none⟩ = some (.int .i64 z0) := bA.cell 0
  have bA_1 : w2.cell? ⟨W.heap.size, 1, none⟩ = some (.int .i64 z1) := bA.cell 1
  have bA_2 : w2.cell? ⟨W.heap.size, 2, none⟩ = some (.string z2) := bA.cell 2
  have bA_3 : w2.cell? ⟨W.heap.size, 3, none⟩ = some (.slice A3 z3.length c3) := bA.cell 3
  have bA_l := bA.lt
  go_wp2_with fail
  clear bA_0 bA_1 bA_2 bA_3 bA_l
  refine (check_spec ⟨z0, z1, z2, z3⟩ HWl.out _ _ (w2.heap.size) (Nat.le_refl _) (by rw [FNode.c_eq]; exact iu.vs)).mono ?_
  rw [HG0.out]
  rintro e w3 ⟨rfl, hb⟩
  replace bA := bA.below hb (Nat.le_refl _)
  replace iu := iu.below hb (Nat.le_refl _)
  replace hB := hB.trans (hb.mono (by omega))
  have s3 : w2.heap.size ≤ w3.heap.size := hb.size
  clear hb
  clear iu
  have bA_0 : w3.cell? ⟨W.heap.size, 0, none⟩ = some (.int .i64 z0) := bA.cell 0
  have bA_1 : w3.cell? ⟨W.heap.size, 1, none⟩ = some (.int .i64 z1) := bA.cell 1
  have bA_2 : w3.cell? ⟨W.heap.size, 2, none⟩ = some (.string z2) := bA.cell 2
  have bA_3 : w3.cell? ⟨W.heap.size, 3, none⟩ = some (.slice A3 z3.length c3) := bA.cell 3
  have bA_l := bA.lt
  go_wp2_with fail
  clear bA_0 bA_1 bA_2 bA_3 bA_l
  refine (toNode_any ⟨z0, z1, z2, z3⟩ hw [.int .i64 z0, .int .i64 z1, .string z2, .slice A3 z3.length c3] _ W.heap.size (by omega) (RV.out.on hB (Nat.le_refl _) (Nat.le_refl _))).mono ?_
  rw [FNode.c_eq]
  rintro e w4 ⟨us, rfl, own, hb⟩
  replace bA := bA.below hb (Nat.le_refl _)
  replace hB := hB.trans (hb.mono (by omega))
  have s4 : w3.heap.size ≤ w4.heap.size := hb.size
  clear hb
  have hv := own.vs
  obtain ⟨us_0, rfl, hv_0⟩ := hv.unv
  obtain ⟨us_1, rfl, hv_1⟩ := hv_0.unv
  obtain ⟨us_2, rfl, hv_2⟩ := hv_1.unv
  obtain ⟨X3, Xc3, us_3, rfl, _, hv_3⟩ := hv_2.uns
  obtain rfl := hv_3.un0
  clear hv hv_0 hv_1 hv_2 hv_3
  have ix := own
  clear own
  have bA_0 : w4.cell? ⟨W.heap.size, 0, none⟩ = some (.int .i64 z0) := bA.cell 0
  have bA_1 : w4.cell? ⟨W.heap.size, 1, none⟩ = some (.int .i64 z1) := bA.cell 1
  have bA_2 : w4.cell? ⟨W.heap.size, 2, none⟩ = some (.string z2) := bA.cell 2
  have bA_3 : w4.cell? ⟨W.heap.size, 3, none⟩ = some (.slice A3 z3.length c3) := bA.cell 3
  have bA_l := bA.lt
  go_wp2_with fail
  clear bA_0 bA_1 bA_2 bA_3 bA_l
  refine calls_worldD _ (fun X => Blk X (W.heap.size) 24 #[.int .i64 z0, .int .i64 z1, .string z2, .slice A3 z3.length c3] ∧ Blk X (w4.heap.size) 29 #[.int .i64 z0, .int .i64 z1, .string z2, .slice X3 z3.length Xc3] ∧ OwnI X (w3.heap.size) (w4.heap.size) [.v (.int .i64 z0), .v (.int .i64 z1), .v (.string z2), .s 29 4 z3.length (FNode.flat z3)] [.int .i64 z0, .int .i64 z1, .string z2, .slice X3 z3.length Xc3] ∧ Below W.heap.size W X ∧ w4.heap.size < X.heap.size) ⟨bA.alloc _, Blk.new _ _ _, ix.alloc _, (hB).alloc (by omega) _, by simp⟩ ?_
  clear bA ix hB
  rintro w5 ⟨bA, bx, ix, hB, s5⟩
  refine (check_impl2 ⟨z0, z1, z2, z3⟩ HWl.out _ _ (w5.heap.size) (HMX.out.below hB) (Nat.le_refl _) (by rw [FNode.c_eq]; exact ix.vs)).mono ?_
  rw [HG0.out]
  rintro e w6 ⟨rfl, hb⟩
  replace bA := bA.below hb (Nat.le_refl _)
  replace bx := bx.below hb (Nat.le_refl _)
  replace ix := ix.below hb (Nat.le_refl _)
  replace hB := hB.trans (hb.mono (by omega))
  have s6 : w5.heap.size ≤ w6.heap.size := hb.size
  clear hb
  have bA_0 : w6.cell? ⟨W.heap.size, 0, none⟩ = some (.int .i64 z0) := bA.cell 0
  have bA_1 : w6.cell? ⟨W.heap.size, 1, none⟩ = some (.int .i64 z1) := bA.cell 1
  have bA_2 : w6.cell? ⟨W.heap.size, 2, none⟩ = some (.string z2) := bA.cell 2
  have bA_3 : w6.cell? ⟨W.heap.size, 3, none⟩ = some (.slice A3 z3.length c3) := bA.cell 3
  have bA_l := bA.lt
  have bx_0 : w6.cell? ⟨w4.heap.size, 0, none⟩ = some (.int .i64 z0) := bx.cell 0
  have bx_1 : w6.cell? ⟨w4.heap.size, 1, none⟩ = some (.int .i64 z1) := bx.cell 1
  have bx_2 : w6.cell? ⟨w4.heap.size, 2, none⟩ = some (.string z2) := bx.cell 2
  have bx_3 : w6.cell? ⟨w4.heap.size, 3, none⟩ = some (.slice X3 z3.length Xc3) := bx.cell 3
  have bx_l := bx.lt
  go_wp2_with fail
  clear bA_0 bA_1 bA_2 bA_3 bA_l
  clear bx_0 bx_1 bx_2 bx_3 bx_l
  have y0 : w6.cell? ⟨w4.heap.size, 0, none⟩ = some (.int .i64 z0) := bx.cell 0
  have y1 : w6.cell? ⟨w4.heap.size, 1, none⟩ = some (.int .i64 z1) := bx.cell 1
  have y2 : w6.cell? ⟨w4.heap.size, 2, none⟩ = some (.string z2) := bx.cell 2
  have y3 : w6.cell? ⟨w4.heap.size, 3, none⟩ = some (.slice X3 z3.length Xc3) := bx.cell 3
  have y4 : w6.cell? ⟨W.heap.size, 0, none⟩ = some (.int .i64 z0) := bA.cell 0
  have y5 : w6.cell? ⟨W.heap.size, 1, none⟩ = some (.int .i64 z1) := bA.cell 1
  have y6 : w6.cell? ⟨W.heap.size, 2, none⟩ = some (.string z2) := bA.cell 2
  have y7 : w6.cell? ⟨W.heap.size, 3, none⟩ = some (.slice A3 z3.length c3) := bA.cell 3
  have t1 : W.heap.size ≤ w6.drew.heap.size := hB.size
  have TV := Lib.hid (show RdVs w6.drew W.heap.size (FNode.c ⟨z0, z1, z2, z3⟩) [.int .i64 z0, .int .i64 z1, .string z2, .slice A3 z3.length c3] from RV.out.on hB.drew (Nat.le_refl _) (Nat.le_refl _))
  have lA := bA.lt
  have lX := bx.lt
  go_region_held3 (fun w_ => w_.cell? ⟨w4.heap.size, 0, none⟩ = some (.int .i64 z0) ∧ w_.cell? ⟨w4.heap.size, 1, none⟩ = some (.int .i64 z1) ∧ w_.cell? ⟨w4.heap.size, 2, none⟩ = some (.string z2) ∧ w_.cell? ⟨w4.heap.size, 3, none⟩ = some (.slice X3 z3.length Xc3) ∧ w_.cell? ⟨W.heap.size, 0, none⟩ = some (.int .i64 z0) ∧ w_.cell? ⟨W.heap.size, 1, none⟩ = some (.int .i64 z1) ∧ w_.cell? ⟨W.heap.size, 2, none⟩ = some (.string z2) ∧ w_.cell? ⟨W.heap.size, 3, none⟩ = some (.slice A3 z3.length c3))
    (first
      | exact ⟨y0, y1, y2, y3, y4, y5, y6, y7⟩
      | exact ⟨((bcell hb1).1 _ _ (by simp; omega)).trans y0, ((bcell hb1).1 _ _ (by simp; omega)).trans y1, ((bcell hb1).1 _ _ (by simp; omega)).trans y2, ((bcell hb1).1 _ _ (by simp; omega)).trans y3, ((bcell hb1).1 _ _ (by simp; omega)).trans y4, ((bcell hb1).1 _ _ (by simp; omega)).trans y5, ((bcell hb1).1 _ _ (by simp; omega)).trans y6, ((bcell hb1).1 _ _ (by simp; omega)).trans y7⟩
      | exact ⟨((bcell hb2).1 _ _ (by omega)).trans (((bcell zb).1 _ _ (by omega)).trans y0), ((bcell hb2).1 _ _ (by omega)).trans (((bcell zb).1 _ _ (by omega)).trans y1), ((bcell hb2).1 _ _ (by omega)).trans (((bcell zb).1 _ _ (by omega)).trans y2), ((bcell hb2).1 _ _ (by omega)).trans (((bcell zb).1 _ _ (by omega)).trans y3), ((bcell hb2).1 _ _ (by omega)).trans (((bcell zb).1 _ _ (by omega)).trans y4), ((bcell hb2).1 _ _ (by omega)).trans (((bcell zb).1 _ _ (by omega)).trans y5), ((bcell hb2).1 _ _ (by omega)).trans (((bcell zb).1 _ _ (by omega)).trans y6), ((bcell hb2).1 _ _ (by omega)).trans (((bcell zb).1 _ _ (by omega)).trans y7)⟩)
    ((first
      | (go_at_call 7
         refine (toNode_any ⟨z0, z1, z2, z3⟩ hw [.int .i64 z0, .int .i64 z1, .string z2, .slice A3 z3.length c3] _ W.heap.size t1 TV.out).mono ?_
         rw [FNode.c_eq]
         rintro e wa ⟨us, rfl, own, hb1⟩
         have hv := own.vs
         obtain ⟨us_0, rfl, hv_0⟩ := hv.unv
         obtain ⟨us_1, rfl, hv_1⟩ := hv_0.unv
         obtain ⟨us_2, rfl, hv_2⟩ := hv_1.unv
         obtain ⟨Z3, Zc3, us_3, rfl, _, hv_3⟩ := hv_2.uns
         obtain rfl := hv_3.un0
         clear hv hv_0 hv_1 hv_2 hv_3
         have O6 := Lib.hid own
         clear own)
      | (go_at_call 9
         have zb : Below w6.heap.size w6 wa := (Below.refl w6.heap.size w6).drew.trans (hb1.mono (by simp))
         have zs := zb.size
         have E1 := Lib.hid (ix.below zb (Nat.le_refl _)).vs
         have E2 := Lib.hid O6.out.vs
         refine (eqNode_any ⟨z0, z1, z2, z3⟩ HWx.out [.int .i64 z0, .int .i64 z1, .string z2, .slice X3 z3.length Xc3] [.int .i64 z0, .int .i64 z1, .string z2, .slice Z3 z3.length Zc3] _ (by rw [FNode.c_eq]; exact E1.out) (by rw [FNode.c_eq]; exact E2.out)).mono ?_
         rintro e wb ⟨rfl, hb2⟩)))
  have hb := zb.trans (hb2.mono zb.size)
  clear hb1 hb2 O6 TV t1 y0 y1 y2 y3 y4 y5 y6 y7
  replace bA := bA.below hb (Nat.le_refl _)
  replace bx := bx.below hb (Nat.le_refl _)
  replace ix := ix.below hb (Nat.le_refl _)
  replace hB := hB.trans (hb.mono (by omega))
  have s7 : w6.heap.size ≤ wb.heap.size := hb.size
  clear hb zb zs E1 E2
  have bA_0 : wb.cell? ⟨W.heap.size, 0, none⟩ = some (.int .i64 z0) := bA.cell 0
  have bA_1 : wb.cell? ⟨W.heap.size, 1, none⟩ = some (.int .i64 z1) := bA.cell 1
  have bA_2 : wb.cell? ⟨W.heap.size, 2, none⟩ = some (.string z2) := bA.cell 2
  have bA_3 : wb.cell? ⟨W.heap.size, 3, none⟩ = some (.slice A3 z3.length c3) := bA.cell 3
  have bA_l := bA.lt
  have bx_0 : wb.cell? ⟨w4.heap.size, 0, none⟩ = some (.int .i64 z0) := bx.cell 0
  have bx_1 : wb.cell? ⟨w4.heap.size, 1, none⟩ = some (.int .i64 z1) := bx.cell 1
  have bx_2 : wb.cell? ⟨w4.heap.size, 2, none⟩ = some (.string z2) := bx.cell 2
  have bx_3 : wb.cell? ⟨w4.heap.size, 3, none⟩ = some (.slice X3 z3.length Xc3) := bx.cell 3
  have bx_l := bx.lt
  go_wp2_with fail
  clear bA_0 bA_1 bA_2 bA_3 bA_l
  clear bx_0 bx_1 bx_2 bx_3 bx_l
  go_ret
  exact ⟨rfl, hB⟩
set_option maxRecDepth 100000 in
theorem fnExactCheckScript_lifted (os : Os) (started : os.Started) (H : Type) (enc : TypeId × Value → H) :
    ReturnsInHanded {} Try.checked os 3 .any (Rows.fnExactCheckScriptSpec.pre6 enc Try.prog Try.f3 Rows.fnExactCheckScriptRow.domain false) (Rows.fnExactCheckScriptSpec.post enc Try.prog Try.f3 false true false false) := by
  refine returnsInHanded_of_change_shaped (C := Try.checked) own started (by kernel_rfl) Try.func3
    (ChangeSpec.witness6 (enc := enc) (C := Try.checked) false ⟨#[], #[.agg #[.int .i64 0, .int .i64 0, .string ByteArray.empty, .slice none 0 0]], []⟩ 8 (by kernel_rfl) (by kernel_rfl) (by kernel_rfl) (by kernel_rfl)) ?_
  intro W base args ds gs before hval0 hW hcnd _ hsh _
  have hval : ∀ (j : Nat) t v, Try.f3.params[j]? = some t → args[j]? = some v → Value.okWide Try.prog W .any base t v := hval0
  have hW' := hW
  obtain ⟨p, q, hA0, hV, rfl, hfz, hnd⟩ := hW
  have hA : DataW.TrodAll enc Try.prog W 0 (fun _ => true) true Try.f3.params.toList args.toList ds p := hA0
  rw [Try.params3] at hA hval
  obtain ⟨v0, vs0, d0, ds0, p0, q0, hargs, rfl, rfl, h0, r0⟩ := trodAll_cons hA
  obtain ⟨rfl, rfl, rfl⟩ := trodAll_nil r0
  obtain rfl : args = #[v0] := by cases args; simp_all
  obtain ⟨rfl, rfl⟩ := trodVars_none hV
  have lt0 : ∀ x ∈ p0, x.block < W.heap.size := by obtain ⟨m, hm⟩ := h0; exact DataW.trod_lt m _ _ _ hm
  have k0 := hval 0 24 v0 rfl rfl
  clear hA0 hval0
  refine (fnExactCheckScript_walk W base v0 k0 h0 hsh).mono fun e W' ⟨he, bel⟩ => ?_
  subst he
  exact ⟨_, rfl, _, _, _, [], _, [], hW', trodAll_mk1 (shut_bool Try.underlying4 _), (trodAll_cons_mk (Below.trod laidOut (by kernel_rfl) (of_decide_eq_true (by kernel_rfl)) h0 bel lt0) trodAll_mk0), rfl, bel.frame _, fun h => by cases h⟩

theorem fnExactCheckScript_holds : Rows.FnExactCheckScriptSaid :=
  OpenClaim.holds_of_wide 3 Try.f3 rfl rfl rfl rfl rfl rfl rfl ⟨rfl, rfl, rfl, rfl, rfl⟩ rfl rfl rfl rfl rfl (by kernel_rfl) Try.func3 (by kernel_rfl)
    (of_decide_eq_true (by kernel_rfl)) (by unfold Func.isWrapper; rw [if_neg (of_decide_eq_false (by kernel_rfl))]; exact ⟨rfl, rfl⟩)
    (fun os started H enc _ => fnExactCheckScript_lifted os started H enc)
#print axioms fnExactCheckScript_holds

end Go.Proofs.Ytgejkfcemlkclaa
