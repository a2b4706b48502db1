/-
  Parts of the proof: IsU4. Conditions: none.
-/
import Derived.Test.YtimiieckkdogeaaGreatQGBaseNd
import Derived.Test.YtimiieckkdogeaaGreatQIsU2
set_option linter.unusedVariables false
set_option linter.unusedSimpArgs false
namespace Go.Proofs.YtimiieckkdogeaaGreat
set_option maxHeartbeats 40000000
open Lib (hid)
open Go.ChangeShapes Go.WideShapes Go.ChangeAt Go.RowKit Go.Deep Go.Joins
open Go.ChangeMaps (open_string shut_string)
set_option maxRecDepth 100000
theorem stS_36 (z1 : Int) (z2 : ByteArray) (z3 : List FNode) (hw : (FNode.mk 36 z1 z2 z3).wt ≤ 9000000000) (hn : fN 36 z1 = true) (ht : fT 36 z2 = true) (hD : EaS z3.dropLast) (hB : ∀ x, x ∈ z3 → BkS x) : SaB 44 (FNode.mk 36 z1 z2 z3) (feK z3) := by
  intro us w B hB0 hr
  have FD := fd_spec _ hw
  obtain ⟨A3, c3, rfl, r3⟩ := hr.node
  rw [FNode.wt_eq] at hw
  have hz : z2.size ≤ 9223372036854775807 := by omega
  have hl : z3.length ≤ 9000000000 := by omega
  have FDC := fdC FD hn ht hB0 r3
  clear FD
  have hpos3 := r3
  obtain ⟨m, hm⟩ : ∃ m, z3.length = m := ⟨_, rfl⟩
  try rw [hm] at hl r3 FDC ⊢
  have HR := hid r3
  have HB := hbA w 36 z1 z2 (.slice A3 m c3)
  clear hr r3 hpos3
  by_cases e3m : m = 3
  · subst e3m
    obtain ⟨⟨y0, y1, y2, y3⟩, ⟨t0, t1, t2, t3⟩, ⟨s0, s1, s2, s3⟩, rfl⟩ := three_of hm
    have Ca : Hid (EaS [FNode.mk y0 y1 y2 y3, FNode.mk t0 t1 t2 t3]) := hid hD
    have Ce := hid (hB ⟨s0, s1, s2, s3⟩ (by simp))
    unfold EaS at Ca
    unfold BkS at Ce
    have hcap : 3 ≤ c3 := cap_of HR.out
    obtain ⟨bcy, offcy, Ey, hblcy, hcc⟩ := RdC.at_ (l := [FNode.mk y0 y1 y2 y3, FNode.mk t0 t1 t2 t3, FNode.mk s0 s1 s2 s3]) FNode.len HR.out (i := 0) (x := FNode.mk y0 y1 y2 y3) rfl
    obtain ⟨Dy, dy, cy_0, cy_1, cy_2, cy_3, q3⟩ := opN (Below.refl w.heap.size w) (by omega) hcc (offcy) (offcy + 1) (offcy + 2) (offcy + 3) (by omega)
    have Qy := hid q3
    clear hcc q3
    obtain ⟨bct, offct, Et, hblct, hcc⟩ := RdC.at_ (l := [FNode.mk y0 y1 y2 y3, FNode.mk t0 t1 t2 t3, FNode.mk s0 s1 s2 s3]) FNode.len HR.out (i := 1) (x := FNode.mk t0 t1 t2 t3) rfl
    obtain ⟨Dt, dt, ct_0, ct_1, ct_2, ct_3, q3⟩ := opN (Below.refl w.heap.size w) (by omega) hcc (offct + 4) (offct + 5) (offct + 6) (offct + 7) (by omega)
    have Qt := hid q3
    clear hcc q3
    obtain ⟨bcs, offcs, Es, hblcs, hcc⟩ := RdC.at_ (l := [FNode.mk y0 y1 y2 y3, FNode.mk t0 t1 t2 t3, FNode.mk s0 s1 s2 s3]) FNode.len HR.out (i := 2) (x := FNode.mk s0 s1 s2 s3) rfl
    obtain ⟨Ds, ds, cs_0, cs_1, cs_2, cs_3, q3⟩ := opN (Below.refl w.heap.size w) (by omega) hcc (offcs + 8) (offcs + 9) (offcs + 10) (offcs + 11) (by omega)
    have Qs := hid q3
    clear hcc q3
    have hbl : bcy < w.heap.size := Nat.lt_of_lt_of_le hblcy hB0
    subst Ey
    obtain ⟨g1, g2⟩ : bcy = bct ∧ offcy = offct := by simpa using Et
    subst g1
    subst g2
    clear Et
    obtain ⟨g1, g2⟩ : bcy = bcs ∧ offcy = offcs := by simpa using Es
    subst g1
    subst g2
    clear Es
    have RT := hid (rd_take (p := [FNode.mk y0 y1 y2 y3, FNode.mk t0 t1 t2 t3]) (l := [FNode.mk s0 s1 s2 s3]) (Nat.zero_lt_succ _) rfl HR.out)
    clear hm hw hD hB
    rw [show feK [FNode.mk y0 y1 y2 y3, FNode.mk t0 t1 t2 t3, FNode.mk s0 s1 s2 s3] = ([FNode.mk y0 y1 y2 y3, FNode.mk t0 t1 t2 t3].all exF && ((t0 == 4) && blF ⟨s0, s1, s2, s3⟩)) from fe3s _ _ _]
    cases hvCa : [FNode.mk y0 y1 y2 y3, FNode.mk t0 t1 t2 t3].all exF with
    | false =>
      rw [hvCa] at Ca
      go_enter Tryz.func44, Tryz.ntmps44
      go_wp2_with (first | (go_at_call 43; refine FDC.out.mono ?_; rintro e w3 ⟨rfl, hb3⟩; have HB3 := hid (HB.out.trans (hb3.mono HB.out.size)); have ⟨bx_w3_0, bx_w3_1, bx_w3_2, bx_w3_3⟩ := box4 hb3; have sz_w3 := szA hb3; have ⟨k_w3_y0, k_w3_y1, k_w3_y2, k_w3_y3⟩ := cell4 HB3.out hbl cy_0 cy_1 cy_2 cy_3; have ⟨k_w3_t0, k_w3_t1, k_w3_t2, k_w3_t3⟩ := cell4 HB3.out hbl ct_0 ct_1 ct_2 ct_3; have ⟨k_w3_s0, k_w3_s1, k_w3_s2, k_w3_s3⟩ := cell4 HB3.out hbl cs_0 cs_1 cs_2 cs_3) | (go_at_call 72; refine (l1In_any _ _ _ _).mono ?_; rintro e w' ⟨rfl, rfl⟩) | (go_at_call 77; refine (Ca.out _ _ w.heap.size HB3.out.size ((RT.out.up hB0).below HB3.out (Nat.le_refl _))).mono ?_; rintro e w4 ⟨rfl, hb_w4⟩; have HB4 := hid (HB3.out.trans (hb_w4.mono HB3.out.size)); have ⟨bx_w4_0, bx_w4_1, bx_w4_2, bx_w4_3⟩ := cell4 hb_w4 sz_w3 bx_w3_0 bx_w3_1 bx_w3_2 bx_w3_3; have sz_w4 := Nat.lt_of_lt_of_le sz_w3 hb_w4.size; have ⟨k_w4_y0, k_w4_y1, k_w4_y2, k_w4_y3⟩ := cell4 HB4.out hbl cy_0 cy_1 cy_2 cy_3; have ⟨k_w4_t0, k_w4_t1, k_w4_t2, k_w4_t3⟩ := cell4 HB4.out hbl ct_0 ct_1 ct_2 ct_3; have ⟨k_w4_s0, k_w4_s1, k_w4_s2, k_w4_s3⟩ := cell4 HB4.out hbl cs_0 cs_1 cs_2 cs_3))
      all_goals (first | (go_ret; exact ⟨ret_bool (by exact fZ), Hid.out (by assumption)⟩))
    | true =>
      rw [hvCa] at Ca
      by_cases e4t : t0 = 4
      · subst e4t
        have tokCe : True := trivial
        go_enter Tryz.func44, Tryz.ntmps44
        go_wp2_with (first | (go_at_call 43; refine FDC.out.mono ?_; rintro e w3 ⟨rfl, hb3⟩; have HB3 := hid (HB.out.trans (hb3.mono HB.out.size)); have ⟨bx_w3_0, bx_w3_1, bx_w3_2, bx_w3_3⟩ := box4 hb3; have sz_w3 := szA hb3; have ⟨k_w3_y0, k_w3_y1, k_w3_y2, k_w3_y3⟩ := cell4 HB3.out hbl cy_0 cy_1 cy_2 cy_3; have ⟨k_w3_t0, k_w3_t1, k_w3_t2, k_w3_t3⟩ := cell4 HB3.out hbl ct_0 ct_1 ct_2 ct_3; have ⟨k_w3_s0, k_w3_s1, k_w3_s2, k_w3_s3⟩ := cell4 HB3.out hbl cs_0 cs_1 cs_2 cs_3) | (go_at_call 72; refine (l1In_any _ _ _ _).mono ?_; rintro e w' ⟨rfl, rfl⟩) | (go_at_call 77; refine (Ca.out _ _ w.heap.size HB3.out.size ((RT.out.up hB0).below HB3.out (Nat.le_refl _))).mono ?_; rintro e w4 ⟨rfl, hb_w4⟩; have HB4 := hid (HB3.out.trans (hb_w4.mono HB3.out.size)); have ⟨bx_w4_0, bx_w4_1, bx_w4_2, bx_w4_3⟩ := cell4 hb_w4 sz_w3 bx_w3_0 bx_w3_1 bx_w3_2 bx_w3_3; have sz_w4 := Nat.lt_of_lt_of_le sz_w3 hb_w4.size; have ⟨k_w4_y0, k_w4_y1, k_w4_y2, k_w4_y3⟩ := cell4 HB4.out hbl cy_0 cy_1 cy_2 cy_3; have ⟨k_w4_t0, k_w4_t1, k_w4_t2, k_w4_t3⟩ := cell4 HB4.out hbl ct_0 ct_1 ct_2 ct_3; have ⟨k_w4_s0, k_w4_s1, k_w4_s2, k_w4_s3⟩ := cell4 HB4.out hbl cs_0 cs_1 cs_2 cs_3) | (go_at_call 79; clear tokCe; refine (Ce.out [.int .i64 s0, .int .i64 s1, .string s2, .slice Ds s3.length ds] _ w.heap.size HB4.out.size (ndV ((Qs.out.up hB0).below HB4.out (Nat.le_refl _)))).mono ?_; rintro e w5 ⟨rfl, hb_w5⟩; have HB5 := hid (HB4.out.trans (hb_w5.mono HB4.out.size)); have ⟨bx_w5_0, bx_w5_1, bx_w5_2, bx_w5_3⟩ := cell4 hb_w5 sz_w4 bx_w4_0 bx_w4_1 bx_w4_2 bx_w4_3; have sz_w5 := Nat.lt_of_lt_of_le sz_w4 hb_w5.size; have ⟨k_w5_y0, k_w5_y1, k_w5_y2, k_w5_y3⟩ := cell4 HB5.out hbl cy_0 cy_1 cy_2 cy_3; have ⟨k_w5_t0, k_w5_t1, k_w5_t2, k_w5_t3⟩ := cell4 HB5.out hbl ct_0 ct_1 ct_2 ct_3; have ⟨k_w5_s0, k_w5_s1, k_w5_s2, k_w5_s3⟩ := cell4 HB5.out hbl cs_0 cs_1 cs_2 cs_3))
        all_goals (first | (go_ret; exact ⟨ret_bool (by exact fZ), Hid.out (by assumption)⟩))
      · skip
        go_enter Tryz.func44, Tryz.ntmps44
        go_wp2_with (first | (go_at_call 43; refine FDC.out.mono ?_; rintro e w3 ⟨rfl, hb3⟩; have HB3 := hid (HB.out.trans (hb3.mono HB.out.size)); have ⟨bx_w3_0, bx_w3_1, bx_w3_2, bx_w3_3⟩ := box4 hb3; have sz_w3 := szA hb3; have ⟨k_w3_y0, k_w3_y1, k_w3_y2, k_w3_y3⟩ := cell4 HB3.out hbl cy_0 cy_1 cy_2 cy_3; have ⟨k_w3_t0, k_w3_t1, k_w3_t2, k_w3_t3⟩ := cell4 HB3.out hbl ct_0 ct_1 ct_2 ct_3; have ⟨k_w3_s0, k_w3_s1, k_w3_s2, k_w3_s3⟩ := cell4 HB3.out hbl cs_0 cs_1 cs_2 cs_3) | (go_at_call 72; refine (l1In_any _ _ _ _).mono ?_; rintro e w' ⟨rfl, rfl⟩) | (go_at_call 77; refine (Ca.out _ _ w.heap.size HB3.out.size ((RT.out.up hB0).below HB3.out (Nat.le_refl _))).mono ?_; rintro e w4 ⟨rfl, hb_w4⟩; have HB4 := hid (HB3.out.trans (hb_w4.mono HB3.out.size)); have ⟨bx_w4_0, bx_w4_1, bx_w4_2, bx_w4_3⟩ := cell4 hb_w4 sz_w3 bx_w3_0 bx_w3_1 bx_w3_2 bx_w3_3; have sz_w4 := Nat.lt_of_lt_of_le sz_w3 hb_w4.size; have ⟨k_w4_y0, k_w4_y1, k_w4_y2, k_w4_y3⟩ := cell4 HB4.out hbl cy_0 cy_1 cy_2 cy_3; have ⟨k_w4_t0, k_w4_t1, k_w4_t2, k_w4_t3⟩ := cell4 HB4.out hbl ct_0 ct_1 ct_2 ct_3; have ⟨k_w4_s0, k_w4_s1, k_w4_s2, k_w4_s3⟩ := cell4 HB4.out hbl cs_0 cs_1 cs_2 cs_3))
        all_goals (first | (go_ret; exact ⟨ret_bool (by exact fZ), Hid.out (by assumption)⟩))
  · skip
    by_cases e4m : m = 4
    · subst e4m
      obtain ⟨⟨y0, y1, y2, y3⟩, ⟨t0, t1, t2, t3⟩, ⟨u0, u1, u2, u3⟩, ⟨s0, s1, s2, s3⟩, rfl⟩ := four_of hm
      have Ca : Hid (EaS [FNode.mk y0 y1 y2 y3, FNode.mk t0 t1 t2 t3, FNode.mk u0 u1 u2 u3]) := hid hD
      have Ce := hid (hB ⟨s0, s1, s2, s3⟩ (by simp))
      unfold EaS at Ca
      unfold BkS at Ce
      have hcap : 4 ≤ c3 := cap_of HR.out
      obtain ⟨bcy, offcy, Ey, hblcy, hcc⟩ := RdC.at_ (l := [FNode.mk y0 y1 y2 y3, FNode.mk t0 t1 t2 t3, FNode.mk u0 u1 u2 u3, FNode.mk s0 s1 s2 s3]) FNode.len HR.out (i := 0) (x := FNode.mk y0 y1 y2 y3) rfl
      obtain ⟨Dy, dy, cy_0, cy_1, cy_2, cy_3, q3⟩ := opN (Below.refl w.heap.size w) (by omega) hcc (offcy) (offcy + 1) (offcy + 2) (offcy + 3) (by omega)
      have Qy := hid q3
      clear hcc q3
      obtain ⟨bct, offct, Et, hblct, hcc⟩ := RdC.at_ (l := [FNode.mk y0 y1 y2 y3, FNode.mk t0 t1 t2 t3, FNode.mk u0 u1 u2 u3, FNode.mk s0 s1 s2 s3]) FNode.len HR.out (i := 1) (x := FNode.mk t0 t1 t2 t3) rfl
      obtain ⟨Dt, dt, ct_0, ct_1, ct_2, ct_3, q3⟩ := opN (Below.refl w.heap.size w) (by omega) hcc (offct + 4) (offct + 5) (offct + 6) (offct + 7) (by omega)
      have Qt := hid q3
      clear hcc q3
      obtain ⟨bcu, offcu, Eu, hblcu, hcc⟩ := RdC.at_ (l := [FNode.mk y0 y1 y2 y3, FNode.mk t0 t1 t2 t3, FNode.mk u0 u1 u2 u3, FNode.mk s0 s1 s2 s3]) FNode.len HR.out (i := 2) (x := FNode.mk u0 u1 u2 u3) rfl
      obtain ⟨Du, du, cu_0, cu_1, cu_2, cu_3, q3⟩ := opN (Below.refl w.heap.size w) (by omega) hcc (offcu + 8) (offcu + 9) (offcu + 10) (offcu + 11) (by omega)
      have Qu := hid q3
      clear hcc q3
      obtain ⟨bcs, offcs, Es, hblcs, hcc⟩ := RdC.at_ (l := [FNode.mk y0 y1 y2 y3, FNode.mk t0 t1 t2 t3, FNode.mk u0 u1 u2 u3, FNode.mk s0 s1 s2 s3]) FNode.len HR.out (i := 3) (x := FNode.mk s0 s1 s2 s3) rfl
      obtain ⟨Ds, ds, cs_0, cs_1, cs_2, cs_3, q3⟩ := opN (Below.refl w.heap.size w) (by omega) hcc (offcs + 12) (offcs + 13) (offcs + 14) (offcs + 15) (by omega)
      have Qs := hid q3
      clear hcc q3
      have hbl : bcy < w.heap.size := Nat.lt_of_lt_of_le hblcy hB0
      subst Ey
      obtain ⟨g1, g2⟩ : bcy = bct ∧ offcy = offct := by simpa using Et
      subst g1
      subst g2
      clear Et
      obtain ⟨g1, g2⟩ : bcy = bcu ∧ offcy = offcu := by simpa using Eu
      subst g1
      subst g2
      clear Eu
      obtain ⟨g1, g2⟩ : bcy = bcs ∧ offcy = offcs := by simpa using Es
      subst g1
      subst g2
      clear Es
      have RT := hid (rd_take (p := [FNode.mk y0 y1 y2 y3, FNode.mk t0 t1 t2 t3, FNode.mk u0 u1 u2 u3]) (l := [FNode.mk s0 s1 s2 s3]) (Nat.zero_lt_succ _) rfl HR.out)
      clear hm hw hD hB
      rw [show feK [FNode.mk y0 y1 y2 y3, FNode.mk t0 t1 t2 t3, FNode.mk u0 u1 u2 u3, FNode.mk s0 s1 s2 s3] = ([FNode.mk y0 y1 y2 y3, FNode.mk t0 t1 t2 t3, FNode.mk u0 u1 u2 u3].all exF && ((t0 == 4) && ((u0 == 4) && blF ⟨s0, s1, s2, s3⟩))) from fe4s _ _ _ _]
      cases hvCa : [FNode.mk y0 y1 y2 y3, FNode.mk t0 t1 t2 t3, FNode.mk u0 u1 u2 u3].all exF with
      | false =>
        rw [hvCa] at Ca
        go_enter Tryz.func44, Tryz.ntmps44
        go_wp2_with (first | (go_at_call 43; refine FDC.out.mono ?_; rintro e w3 ⟨rfl, hb3⟩; have HB3 := hid (HB.out.trans (hb3.mono HB.out.size)); have ⟨bx_w3_0, bx_w3_1, bx_w3_2, bx_w3_3⟩ := box4 hb3; have sz_w3 := szA hb3; have ⟨k_w3_y0, k_w3_y1, k_w3_y2, k_w3_y3⟩ := cell4 HB3.out hbl cy_0 cy_1 cy_2 cy_3; have ⟨k_w3_t0, k_w3_t1, k_w3_t2, k_w3_t3⟩ := cell4 HB3.out hbl ct_0 ct_1 ct_2 ct_3; have ⟨k_w3_u0, k_w3_u1, k_w3_u2, k_w3_u3⟩ := cell4 HB3.out hbl cu_0 cu_1 cu_2 cu_3; have ⟨k_w3_s0, k_w3_s1, k_w3_s2, k_w3_s3⟩ := cell4 HB3.out hbl cs_0 cs_1 cs_2 cs_3) | (go_at_call 72; refine (l1In_any _ _ _ _).mono ?_; rintro e w' ⟨rfl, rfl⟩) | (go_at_call 77; refine (Ca.out _ _ w.heap.size HB3.out.size ((RT.out.up hB0).below HB3.out (Nat.le_refl _))).mono ?_; rintro e w4 ⟨rfl, hb_w4⟩; have HB4 := hid (HB3.out.trans (hb_w4.mono HB3.out.size)); have ⟨bx_w4_0, bx_w4_1, bx_w4_2, bx_w4_3⟩ := cell4 hb_w4 sz_w3 bx_w3_0 bx_w3_1 bx_w3_2 bx_w3_3; have sz_w4 := Nat.lt_of_lt_of_le sz_w3 hb_w4.size; have ⟨k_w4_y0, k_w4_y1, k_w4_y2, k_w4_y3⟩ := cell4 HB4.out hbl cy_0 cy_1 cy_2 cy_3; have ⟨k_w4_t0, k_w4_t1, k_w4_t2, k_w4_t3⟩ := cell4 HB4.out hbl ct_0 ct_1 ct_2 ct_3; have ⟨k_w4_u0, k_w4_u1, k_w4_u2, k_w4_u3⟩ := cell4 HB4.out hbl cu_0 cu_1 cu_2 cu_3; have ⟨k_w4_s0, k_w4_s1, k_w4_s2, k_w4_s3⟩ := cell4 HB4.out hbl cs_0 cs_1 cs_2 cs_3))
        all_goals (first | (go_ret; exact ⟨ret_bool (by exact fZ), Hid.out (by assumption)⟩))
      | true =>
        rw [hvCa] at Ca
        by_cases e4t : t0 = 4
        · subst e4t
          by_cases e4u : u0 = 4
          · subst e4u
            have tokCe : True := trivial
            go_enter Tryz.func44, Tryz.ntmps44
            go_wp2_with (first | (go_at_call 43; refine FDC.out.mono ?_; rintro e w3 ⟨rfl, hb3⟩; have HB3 := hid (HB.out.trans (hb3.mono HB.out.size)); have ⟨bx_w3_0, bx_w3_1, bx_w3_2, bx_w3_3⟩ := box4 hb3; have sz_w3 := szA hb3; have ⟨k_w3_y0, k_w3_y1, k_w3_y2, k_w3_y3⟩ := cell4 HB3.out hbl cy_0 cy_1 cy_2 cy_3; have ⟨k_w3_t0, k_w3_t1, k_w3_t2, k_w3_t3⟩ := cell4 HB3.out hbl ct_0 ct_1 ct_2 ct_3; have ⟨k_w3_u0, k_w3_u1, k_w3_u2, k_w3_u3⟩ := cell4 HB3.out hbl cu_0 cu_1 cu_2 cu_3; have ⟨k_w3_s0, k_w3_s1, k_w3_s2, k_w3_s3⟩ := cell4 HB3.out hbl cs_0 cs_1 cs_2 cs_3) | (go_at_call 72; refine (l1In_any _ _ _ _).mono ?_; rintro e w' ⟨rfl, rfl⟩) | (go_at_call 77; refine (Ca.out _ _ w.heap.size HB3.out.size ((RT.out.up hB0).below HB3.out (Nat.le_refl _))).mono ?_; rintro e w4 ⟨rfl, hb_w4⟩; have HB4 := hid (HB3.out.trans (hb_w4.mono HB3.out.size)); have ⟨bx_w4_0, bx_w4_1, bx_w4_2, bx_w4_3⟩ := cell4 hb_w4 sz_w3 bx_w3_0 bx_w3_1 bx_w3_2 bx_w3_3; have sz_w4 := Nat.lt_of_lt_of_le sz_w3 hb_w4.size; have ⟨k_w4_y0, k_w4_y1, k_w4_y2, k_w4_y3⟩ := cell4 HB4.out hbl cy_0 cy_1 cy_2 cy_3; have ⟨k_w4_t0, k_w4_t1, k_w4_t2, k_w4_t3⟩ := cell4 HB4.out hbl ct_0 ct_1 ct_2 ct_3; have ⟨k_w4_u0, k_w4_u1, k_w4_u2, k_w4_u3⟩ := cell4 HB4.out hbl cu_0 cu_1 cu_2 cu_3; have ⟨k_w4_s0, k_w4_s1, k_w4_s2, k_w4_s3⟩ := cell4 HB4.out hbl cs_0 cs_1 cs_2 cs_3) | (go_at_call 79; clear tokCe; refine (Ce.out [.int .i64 s0, .int .i64 s1, .string s2, .slice Ds s3.length ds] _ w.heap.size HB4.out.size (ndV ((Qs.out.up hB0).below HB4.out (Nat.le_refl _)))).mono ?_; rintro e w5 ⟨rfl, hb_w5⟩; have HB5 := hid (HB4.out.trans (hb_w5.mono HB4.out.size)); have ⟨bx_w5_0, bx_w5_1, bx_w5_2, bx_w5_3⟩ := cell4 hb_w5 sz_w4 bx_w4_0 bx_w4_1 bx_w4_2 bx_w4_3; have sz_w5 := Nat.lt_of_lt_of_le sz_w4 hb_w5.size; have ⟨k_w5_y0, k_w5_y1, k_w5_y2, k_w5_y3⟩ := cell4 HB5.out hbl cy_0 cy_1 cy_2 cy_3; have ⟨k_w5_t0, k_w5_t1, k_w5_t2, k_w5_t3⟩ := cell4 HB5.out hbl ct_0 ct_1 ct_2 ct_3; have ⟨_, _, _, _⟩ := cell4 HB5.out hbl cu_0 cu_1 cu_2 cu_3; have ⟨k_w5_s0, k_w5_s1, k_w5_s2, k_w5_s3⟩ := cell4 HB5.out hbl cs_0 cs_1 cs_2 cs_3))
            all_goals (first | (go_ret; exact ⟨ret_bool (by exact fZ), Hid.out (by assumption)⟩))
          · skip
            go_enter Tryz.func44, Tryz.ntmps44
            go_wp2_with (first | (go_at_call 43; refine FDC.out.mono ?_; rintro e w3 ⟨rfl, hb3⟩; have HB3 := hid (HB.out.trans (hb3.mono HB.out.size)); have ⟨bx_w3_0, bx_w3_1, bx_w3_2, bx_w3_3⟩ := box4 hb3; have sz_w3 := szA hb3; have ⟨k_w3_y0, k_w3_y1, k_w3_y2, k_w3_y3⟩ := cell4 HB3.out hbl cy_0 cy_1 cy_2 cy_3; have ⟨k_w3_t0, k_w3_t1, k_w3_t2, k_w3_t3⟩ := cell4 HB3.out hbl ct_0 ct_1 ct_2 ct_3; have ⟨k_w3_u0, k_w3_u1, k_w3_u2, k_w3_u3⟩ := cell4 HB3.out hbl cu_0 cu_1 cu_2 cu_3; have ⟨k_w3_s0, k_w3_s1, k_w3_s2, k_w3_s3⟩ := cell4 HB3.out hbl cs_0 cs_1 cs_2 cs_3) | (go_at_call 72; refine (l1In_any _ _ _ _).mono ?_; rintro e w' ⟨rfl, rfl⟩) | (go_at_call 77; refine (Ca.out _ _ w.heap.size HB3.out.size ((RT.out.up hB0).below HB3.out (Nat.le_refl _))).mono ?_; rintro e w4 ⟨rfl, hb_w4⟩; have HB4 := hid (HB3.out.trans (hb_w4.mono HB3.out.size)); have ⟨bx_w4_0, bx_w4_1, bx_w4_2, bx_w4_3⟩ := cell4 hb_w4 sz_w3 bx_w3_0 bx_w3_1 bx_w3_2 bx_w3_3; have sz_w4 := Nat.lt_of_lt_of_le sz_w3 hb_w4.size; have ⟨k_w4_y0, k_w4_y1, k_w4_y2, k_w4_y3⟩ := cell4 HB4.out hbl cy_0 cy_1 cy_2 cy_3; have ⟨k_w4_t0, k_w4_t1, k_w4_t2, k_w4_t3⟩ := cell4 HB4.out hbl ct_0 ct_1 ct_2 ct_3; have ⟨k_w4_u0, k_w4_u1, k_w4_u2, k_w4_u3⟩ := cell4 HB4.out hbl cu_0 cu_1 cu_2 cu_3; have ⟨k_w4_s0, k_w4_s1, k_w4_s2, k_w4_s3⟩ := cell4 HB4.out hbl cs_0 cs_1 cs_2 cs_3))
            all_goals (first | (go_ret; exact ⟨ret_bool (by exact fZ), Hid.out (by assumption)⟩))
        · skip
          go_enter Tryz.func44, Tryz.ntmps44
          go_wp2_with (first | (go_at_call 43; refine FDC.out.mono ?_; rintro e w3 ⟨rfl, hb3⟩; have HB3 := hid (HB.out.trans (hb3.mono HB.out.size)); have ⟨bx_w3_0, bx_w3_1, bx_w3_2, bx_w3_3⟩ := box4 hb3; have sz_w3 := szA hb3; have ⟨k_w3_y0, k_w3_y1, k_w3_y2, k_w3_y3⟩ := cell4 HB3.out hbl cy_0 cy_1 cy_2 cy_3; have ⟨k_w3_t0, k_w3_t1, k_w3_t2, k_w3_t3⟩ := cell4 HB3.out hbl ct_0 ct_1 ct_2 ct_3; have ⟨k_w3_u0, k_w3_u1, k_w3_u2, k_w3_u3⟩ := cell4 HB3.out hbl cu_0 cu_1 cu_2 cu_3; have ⟨k_w3_s0, k_w3_s1, k_w3_s2, k_w3_s3⟩ := cell4 HB3.out hbl cs_0 cs_1 cs_2 cs_3) | (go_at_call 72; refine (l1In_any _ _ _ _).mono ?_; rintro e w' ⟨rfl, rfl⟩) | (go_at_call 77; refine (Ca.out _ _ w.heap.size HB3.out.size ((RT.out.up hB0).below HB3.out (Nat.le_refl _))).mono ?_; rintro e w4 ⟨rfl, hb_w4⟩; have HB4 := hid (HB3.out.trans (hb_w4.mono HB3.out.size)); have ⟨bx_w4_0, bx_w4_1, bx_w4_2, bx_w4_3⟩ := cell4 hb_w4 sz_w3 bx_w3_0 bx_w3_1 bx_w3_2 bx_w3_3; have sz_w4 := Nat.lt_of_lt_of_le sz_w3 hb_w4.size; have ⟨k_w4_y0, k_w4_y1, k_w4_y2, k_w4_y3⟩ := cell4 HB4.out hbl cy_0 cy_1 cy_2 cy_3; have ⟨k_w4_t0, k_w4_t1, k_w4_t2, k_w4_t3⟩ := cell4 HB4.out hbl ct_0 ct_1 ct_2 ct_3; have ⟨k_w4_u0, k_w4_u1, k_w4_u2, k_w4_u3⟩ := cell4 HB4.out hbl cu_0 cu_1 cu_2 cu_3; have ⟨k_w4_s0, k_w4_s1, k_w4_s2, k_w4_s3⟩ := cell4 HB4.out hbl cs_0 cs_1 cs_2 cs_3))
          all_goals (first | (go_ret; exact ⟨ret_bool (by exact fZ), Hid.out (by assumption)⟩))
    · skip
      rw [feK_no z3 (by omega)]
      have HIN := hid (show inB (m : Int) 3 4 = false from inB_f (by omega))
      clear hm hw hD hB
      go_enter Tryz.func44, Tryz.ntmps44
      go_wp2_with (first | (go_at_call 43; refine FDC.out.mono ?_; rintro e w3 ⟨rfl, hb3⟩; have HB3 := hid (HB.out.trans (hb3.mono HB.out.size)); have ⟨bx_w3_0, bx_w3_1, bx_w3_2, bx_w3_3⟩ := box4 hb3; have sz_w3 := szA hb3) | (go_at_call 72; refine (l1In_any _ _ _ _).mono ?_; rw [HIN.out]; rintro e w' ⟨rfl, rfl⟩))
      all_goals (first | (go_ret; exact ⟨ret_bool (by exact fZ), Hid.out (by assumption)⟩))
end Go.Proofs.YtimiieckkdogeaaGreat
