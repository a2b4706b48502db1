/-
  IsOutput of package spec. Conditions: none.
-/
import Derived.Test.YtnbedjfmhnpjaaaIsOutA
namespace Go.Proofs.Ytnbedjfmhnpjaaa
open Go.ChangeShapes Go.WideShapes Go.ChangeAt Go.RowKit Go.Deep Go.Joins
open Go.ChangeMaps (open_string shut_string)
set_option linter.unusedVariables false
set_option linter.unusedSimpArgs false
set_option maxRecDepth 100000
set_option maxHeartbeats 4000000 in
theorem isOut_spec (o : Out) (v : Value) (w : World) (l1 : o.heads.length ≤ 1048576) (l2 : o.bufs.length ≤ 1048576) (ht : totF o ≤ 1000000000000) (hsz : ∀ x, x ∈ o.heads → x.a0.size ≤ 1000000000 ∧ x.a1.size ≤ 1000000000) {B : Nat} (hB0 : B ≤ w.heap.size) (hr : OutR w B v o) :
    Calls Try.prog 9 #[v] w fun e w' => e = .returned (.bool (isO o)) ∧ Below w.heap.size w w' := by
  have HR := Lib.hid hr
  obtain ⟨hv_, bv_, rfl, r1, r2⟩ := hr
  obtain ⟨A1, c1, rfl, _, _, _, hch⟩ := r1
  obtain ⟨A2, c2, rfl, _, _, _, hcb⟩ := r2
  have HCH := Lib.hid hch
  have HCB := Lib.hid hcb
  have HSZ := Lib.hid hsz
  clear hch hcb hsz
  by_cases g1 : totF o ≤ 3000
  case neg =>
    have NO := Lib.hid g1
    have z1 : (3000 : Int) < ((totF o : Nat) : Int) := by omega
    clear g1
    go_enter Try.func9, Try.ntmps9
    go_wp2_with fail
    refine calls_world _ (fun X => Bx X w.heap.size 27 (.string o.sent) (.slice A1 o.heads.length c1) (.slice A2 o.bufs.length c2) ∧ Below w.heap.size w X) ⟨Bx.new _ _ _ _ _, (Below.refl _ _).alloc (Nat.le_refl _) _⟩ ?_
    rintro X0 ⟨ba, hB⟩
    have hbs0 := hB.size
    refine (total_spec o _ _ l2 ht (B := B) (by omega) (HR.out.below hB hB0)).mono ?_
    rintro e w1 ⟨rfl, hb1⟩
    replace ba := ba.below hb1 (Nat.le_refl _)
    replace hB := hB.trans (hb1.mono (by omega))
    clear hb1 hbs0
    have ba0 := ba.cell0
    have ba1 := ba.cell1
    have ba2 := ba.cell2
    have bal := ba.lt
    have baf := fun i => ba.frozen i
    go_wp2_with fail
    go_ret
    exact ⟨ret_bool (isO_1 NO.out), hB⟩
  by_cases g2 : o.bufs.length ≤ 5
  case neg =>
    have NO := Lib.hid g2
    have z1 : ¬ (3000 : Int) < ((totF o : Nat) : Int) := by omega
    have z2 : (5 : Int) < (o.bufs.length : Int) := by omega
    clear g2
    go_enter Try.func9, Try.ntmps9
    go_wp2_with fail
    refine calls_world _ (fun X => Bx X w.heap.size 27 (.string o.sent) (.slice A1 o.heads.length c1) (.slice A2 o.bufs.length c2) ∧ Below w.heap.size w X) ⟨Bx.new _ _ _ _ _, (Below.refl _ _).alloc (Nat.le_refl _) _⟩ ?_
    rintro X0 ⟨ba, hB⟩
    have hbs0 := hB.size
    refine (total_spec o _ _ l2 ht (B := B) (by omega) (HR.out.below hB hB0)).mono ?_
    rintro e w1 ⟨rfl, hb1⟩
    replace ba := ba.below hb1 (Nat.le_refl _)
    replace hB := hB.trans (hb1.mono (by omega))
    clear hb1 hbs0
    have ba0 := ba.cell0
    have ba1 := ba.cell1
    have ba2 := ba.cell2
    have bal := ba.lt
    have baf := fun i => ba.frozen i
    go_wp2_with fail
    go_ret
    exact ⟨ret_bool (isO_2 NO.out), hB⟩
  by_cases g3 : o.heads.length ≤ 8
  case neg =>
    have NO := Lib.hid g3
    have z1 : ¬ (3000 : Int) < ((totF o : Nat) : Int) := by omega
    have z2 : ¬ (5 : Int) < (o.bufs.length : Int) := by omega
    have z3 : (8 : Int) < (o.heads.length : Int) := by omega
    clear g3
    go_enter Try.func9, Try.ntmps9
    go_wp2_with fail
    refine calls_world _ (fun X => Bx X w.heap.size 27 (.string o.sent) (.slice A1 o.heads.length c1) (.slice A2 o.bufs.length c2) ∧ Below w.heap.size w X) ⟨Bx.new _ _ _ _ _, (Below.refl _ _).alloc (Nat.le_refl _) _⟩ ?_
    rintro X0 ⟨ba, hB⟩
    have hbs0 := hB.size
    refine (total_spec o _ _ l2 ht (B := B) (by omega) (HR.out.below hB hB0)).mono ?_
    rintro e w1 ⟨rfl, hb1⟩
    replace ba := ba.below hb1 (Nat.le_refl _)
    replace hB := hB.trans (hb1.mono (by omega))
    clear hb1 hbs0
    have ba0 := ba.cell0
    have ba1 := ba.cell1
    have ba2 := ba.cell2
    have bal := ba.lt
    have baf := fun i => ba.frozen i
    go_wp2_with fail
    go_ret
    exact ⟨ret_bool (isO_3 NO.out), hB⟩
  have z1 : ¬ (3000 : Int) < ((totF o : Nat) : Int) := by omega
  have z2 : ¬ (5 : Int) < (o.bufs.length : Int) := by omega
  have z3 : ¬ (8 : Int) < (o.heads.length : Int) := by omega
  go_enter Try.func9, Try.ntmps9
  go_wp2_with fail
  refine calls_world _ (fun X => Bx X w.heap.size 27 (.string o.sent) (.slice A1 o.heads.length c1) (.slice A2 o.bufs.length c2) ∧ Below w.heap.size w X) ⟨Bx.new _ _ _ _ _, (Below.refl _ _).alloc (Nat.le_refl _) _⟩ ?_
  rintro X0 ⟨ba, hB⟩
  have hbs0 := hB.size
  refine (total_spec o _ _ l2 ht (B := B) (by omega) (HR.out.below hB hB0)).mono ?_
  rintro e w1 ⟨rfl, hb1⟩
  replace ba := ba.below hb1 (Nat.le_refl _)
  replace hB := hB.trans (hb1.mono (by omega))
  clear hb1 hbs0
  have ba0 := ba.cell0
  have ba1 := ba.cell1
  have ba2 := ba.cell2
  have bal := ba.lt
  have baf := fun i => ba.frozen i
  go_wp2_with fail
  go_loopw [3] (fun i wr => ∃ k : Nat, k ≤ o.heads.length ∧ i = .int .i64 k ∧ (∀ j, j < k → hdAt o.heads j = true) ∧ Bx wr w.heap.size 27 (.string o.sent) (.slice A1 o.heads.length c1) (.slice A2 o.bufs.length c2) ∧ Below w.heap.size w wr) (fun i _ => o.heads.length - (intOf i).toNat)
  case atStart => exact ⟨0, Nat.zero_le _, rfl, fun j hj => absurd hj (by omega), ba, hB⟩
  case round =>
    clear ba0 ba1 ba2 bal baf ba hB
    obtain ⟨k, hk, rfl, hall, ba, hb⟩ := hrel
    have HALL := Lib.hid hall
    clear hall
    have hbs := hb.size
    by_cases hlt : k < o.heads.length
    · obtain ⟨x, hx⟩ : ∃ x, o.heads[k]? = some x := ⟨_, List.getElem?_eq_getElem hlt⟩
      obtain ⟨b, off, rfl, hbB, hc⟩ := Rd.at_ FHeader.len HCH.out hx
      have hs0 := (HSZ.out x (List.mem_of_getElem? hx)).1
      have hs1 := (HSZ.out x (List.mem_of_getElem? hx)).2
      have HX := Lib.hid hx
      have HC := Lib.hid hc
      clear hx hc
      have hk0 : (0 : Int) ≤ (k : Int) := by omega
      have hkl : (k : Int) < (o.heads.length : Int) := by omega
      have hbw : b < w.heap.size := by omega
      have ba0 := ba.cell0
      have ba1 := ba.cell1
      have ba2 := ba.cell2
      have bal := ba.lt
      have baf := fun i => ba.frozen i
      go_wp2_with fail
      clear ba0 ba1 ba2 bal baf
      obtain ⟨wo, hwo⟩ : ∃ wo : World, wo = wr := ⟨_, rfl⟩
      rw [← hwo] at ba hb hbs ⊢
      clear hwo
      go_loopw [4] (fun i wr => ∃ m : Nat, m ≤ k ∧ i = .int .i64 m ∧ (∀ j, j < m → ∀ y, o.heads[j]? = some y → (y.a0.toList == x.a0.toList) = false) ∧ Bx wr w.heap.size 27 (.string o.sent) (.slice (some ⟨b, off, none⟩) o.heads.length c1) (.slice A2 o.bufs.length c2) ∧ Below w.heap.size w wr) (fun i _ => k - (intOf i).toNat)
      case atStart => exact ⟨0, Nat.zero_le _, rfl, fun j hj => absurd hj (by omega), ba, hb⟩
      case round =>
        clear ba hb hbs
        obtain ⟨m, hm, rfl, hno, ba, hb⟩ := hrel
        have HNO := Lib.hid hno
        clear hno
        have hbs := hb.size
        have g0 : wr.cell? ⟨b, off + k * 2, none⟩ = some (.string x.a0) := (hb.cell (p := ⟨b, _, none⟩) hbw).trans (HC.out 0 _ rfl)
        have g1 : wr.cell? ⟨b, off + k * 2 + 1, none⟩ = some (.string x.a1) := (hb.cell (p := ⟨b, _, none⟩) hbw).trans (HC.out 1 _ rfl)
        have hbr : b < wr.heap.size := by omega
        have ba0 := ba.cell0
        have ba1 := ba.cell1
        have ba2 := ba.cell2
        have bal := ba.lt
        have baf := fun i => ba.frozen i
        by_cases hmk : m < k
        · obtain ⟨y, hy⟩ : ∃ y, o.heads[m]? = some y := ⟨_, List.getElem?_eq_getElem (by omega)⟩
          obtain ⟨b2, off2, he2, hbB2, hc2⟩ := Rd.at_ FHeader.len HCH.out hy
          injection he2 with he2
          injection he2 with he3 he4 _
          subst he3 he4
          have HY := Lib.hid hy
          have h0 : wr.cell? ⟨b, off + m * 2, none⟩ = some (.string y.a0) := (hb.cell (p := ⟨b, _, none⟩) hbw).trans (hc2 0 _ rfl)
          have hm0 : (0 : Int) ≤ (m : Int) := by omega
          have hml : (m : Int) < (o.heads.length : Int) := by omega
          clear hy hc2
          by_cases hq : (y.a0.toList == x.a0.toList) = true
          · have HQ := Lib.hid hq
            go_wp2_with fail
            go_region
            all_goals go_wp2_with fail
            all_goals go_ret
            all_goals exact ⟨ret_bool (isO_h hlt (hd_1 HX.out (nms_yes _ k m y _ hmk HY.out HQ.out))), hb.drew⟩
          · have hq' : (y.a0.toList == x.a0.toList) = false := by simpa using hq
            have HQ := Lib.hid hq'
            clear hq
            go_wp2_with fail
            go_region
            all_goals go_wp2_with fail
            all_goals go_roundw
            case rel => exact ⟨m + 1, by omega, by go_num, all_on HNO.out (fun z hz => by rw [HY.out] at hz; injection hz with hz; subst hz; exact HQ.out), ba, hb.drew⟩
            case measure => simp [intOf]; omega
        · obtain rfl : m = k := by omega
          clear hmk
          have HAS := Lib.hid (nms_no o.heads m x.a0.toList (fun j y hj hy => HNO.out j hj y hy))
          by_cases e2 : hnF x.a0 = true
          case neg =>
            have H2 := Lib.hid (by simpa using e2 : hnF x.a0 = false)
            clear e2
            go_wp2_with (go_at_call 34; refine (hname_spec x.a0 _ (by omega)).mono ?_; rw [H2.out]; rintro e w' ⟨rfl, rfl⟩)
            go_ret
            exact ⟨ret_bool (isO_h hlt (hd_2 HX.out H2.out)), hb⟩
          have H2 := Lib.hid e2
          clear e2
          by_cases e3 : hvF x.a1 = true
          case neg =>
            have H3 := Lib.hid (by simpa using e3 : hvF x.a1 = false)
            clear e3
            go_wp2_with (first | (go_at_call 34; refine (hname_spec x.a0 _ (by omega)).mono ?_; rw [H2.out]; rintro e w' ⟨rfl, rfl⟩) | (go_at_call 35; refine (hval_spec x.a1 _ (by omega)).mono ?_; rw [H3.out]; rintro e w' ⟨rfl, rfl⟩))
            go_ret
            exact ⟨ret_bool (isO_h hlt (hd_3 HX.out H3.out)), hb⟩
          have H3 := Lib.hid e3
          clear e3
          go_wp2_with (first | (go_at_call 34; refine (hname_spec x.a0 _ (by omega)).mono ?_; rw [H2.out]; rintro e w' ⟨rfl, rfl⟩) | (go_at_call 35; refine (hval_spec x.a1 _ (by omega)).mono ?_; rw [H3.out]; rintro e w' ⟨rfl, rfl⟩))
          go_roundw
          case rel => exact ⟨m + 1, by omega, by go_num, all_on HALL.out (hd_t HX.out HAS.out H2.out H3.out), ba, hb⟩
          case measure => simp [intOf]; omega
    · obtain rfl : k = o.heads.length := by omega
      clear hlt
      have HHD := Lib.hid HALL.out
      clear HALL
      have ba0 := ba.cell0
      have ba1 := ba.cell1
      have ba2 := ba.cell2
      have bal := ba.lt
      have baf := fun i => ba.frozen i
      go_wp2_with fail
      obtain ⟨wo, hwo⟩ : ∃ wo : World, wo = wr := ⟨_, rfl⟩
      rw [← hwo] at ba hb hbs ⊢
      clear hwo ba0 ba1 ba2 bal baf
      go_loopw [5] (fun i wr => ∃ k : Nat, k ≤ o.bufs.length ∧ i = .int .i64 k ∧ (∀ j, j < k → ∀ x, o.bufs[j]? = some x → inB x.a0 0 3 = true) ∧ Bx wr w.heap.size 27 (.string o.sent) (.slice A1 o.heads.length c1) (.slice A2 o.bufs.length c2) ∧ Below w.heap.size w wr) (fun i _ => o.bufs.length - (intOf i).toNat)
      case atStart => exact ⟨0, Nat.zero_le _, rfl, fun j hj => absurd hj (by omega), ba, hb⟩
      case round =>
        clear ba hb hbs
        obtain ⟨k, hk, rfl, hall, ba, hb⟩ := hrel
        have HALL := Lib.hid hall
        clear hall
        have hbs := hb.size
        have ba0 := ba.cell0
        have ba1 := ba.cell1
        have ba2 := ba.cell2
        have bal := ba.lt
        have baf := fun i => ba.frozen i
        by_cases hlt : k < o.bufs.length
        · obtain ⟨x, hx⟩ : ∃ x, o.bufs[k]? = some x := ⟨_, List.getElem?_eq_getElem hlt⟩
          obtain ⟨b, off, rfl, hbB, hc⟩ := Rd.at_ FBuffer.len HCB.out hx
          have HX := Lib.hid hx
          clear hx
          have g0 : wr.cell? ⟨b, off + k * 2, none⟩ = some (.int .i64 x.a0) := (hb.cell (p := ⟨b, _, none⟩) (by show b < w.heap.size; omega)).trans (hc 0 _ rfl)
          have hk0 : (0 : Int) ≤ (k : Int) := by omega
          have hkl : (k : Int) < (o.bufs.length : Int) := by omega
          clear hc
          go_wp2_with fail
          refine (l1In_any _ _ _ _).mono ?_
          by_cases hq : inB x.a0 0 3 = true
          · have HQ := Lib.hid hq
            rw [hq]
            clear hq
            rintro e w' ⟨rfl, rfl⟩
            go_wp2_with fail
            go_roundw
            case rel => exact ⟨k + 1, by omega, by go_num, all_on HALL.out (fun y hy => by rw [HX.out] at hy; injection hy with hy; subst hy; exact HQ.out), ba, hb⟩
            case measure => simp [intOf]; omega
          · have hq' : inB x.a0 0 3 = false := by simpa using hq
            have HQ := Lib.hid hq'
            rw [hq']
            clear hq hq'
            rintro e w' ⟨rfl, rfl⟩
            go_wp2_with fail
            go_ret
            exact ⟨ret_bool (isO_b HX.out HQ.out), hb⟩
        · obtain rfl : k = o.bufs.length := by omega
          clear hlt
          go_wp2_with fail
          go_ret
          exact ⟨ret_bool (isO_t g1 g2 g3 (fun j x hj hx => HALL.out j hj x hx) HHD.out), hb⟩
end Go.Proofs.Ytnbedjfmhnpjaaa
