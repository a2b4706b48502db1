/-
  InsLine of the program. Conditions: the two tables.
-/
import Derived.Test.YtiggmjiodbbceaaDoorLnA
import Derived.Deep.CutRange
namespace Go.Proofs.YtiggmjiodbbceaaDoor
open Go.ChangeShapes Go.WideShapes Go.ChangeAt Go.RowKit Go.Deep Go.Joins
open Go.ChangeMaps (open_string shut_string)
set_option linter.unusedVariables false
set_option linter.unusedSimpArgs false
set_option maxRecDepth 100000
set_option maxHeartbeats 40000000 in
theorem Line_impl (op a b : Int) (s t : ByteArray) (a0 : -9223372036854775808 ≤ a) (a1 : a ≤ 9223372036854775807) (b0 : -9223372036854775808 ≤ b) (b1 : b ≤ 9223372036854775807) (hs : s.size ≤ 1000000000) (ht : t.size ≤ 1000000000) (w : World) (hA : TabA w) (hP : TabP w) :
    Calls Tryd.prog 12 #[.agg #[.int .i64 op, .int .i64 a, .int .i64 b, .string s, .string t]] w fun e w' => e = .returned (.string (insLn op a b s t)) ∧ Below w.heap.size w w' := by
  have FN := Lib.hid (fun (W : World) (hb : Below w.heap.size w W) => InsName_impl op W (hA.below hb))
  have FA := Lib.hid (fun (W : World) (hb : Below w.heap.size w W) => Fmt_impl a a0 a1 W (hP.below hb))
  have FB := Lib.hid (fun (W : World) (hb : Below w.heap.size w W) => Fmt_impl b b0 b1 W (hP.below hb))
  have QS := Lib.hid (fun (W : World) => Quote_impl s W (by omega))
  have QT := Lib.hid (fun (W : World) => Quote_impl t W (by omega))
  have sn := insNm_size op
  have sa := itoF_size a a0 a1
  have sb := itoF_size b b0 b1
  have ss := quoF_size s
  have st := quoF_size t
  have HC := Lib.hid (show shA op a = (a != 0 || (op == 2 || (op == 4 || (slotF op || htF op)))) from rfl)
  clear hA hP
  unfold insLn
  generalize insNm op = nm at *
  generalize itoF a = fa at *
  generalize itoF b = fb at *
  generalize quoF s = qs at *
  generalize quoF t = qt at *
  generalize hc_ : shA op a = c at *
  clear hc_
  go_enter Tryd.func12, Tryd.ntmps12
  go_upto_region 2 with (go_at_call 8; refine (FN.out _ ((Below.refl w.heap.size w).alloc (Nat.le_refl _) _)).mono ?_; rintro e w1 ⟨rfl, hb⟩; have bx0 := Blk.new w 28 #[.int .i64 op, .int .i64 a, .int .i64 b, .string s, .string t]; have bx := bx0.below hb (Nat.le_refl _); have HB := ((Below.refl w.heap.size w).alloc (Nat.le_refl _) (.cells #[.int .i64 op, .int .i64 a, .int .i64 b, .string s, .string t] 28)).trans (hb.mono (by simp)); clear bx0 hb; have c0 : w1.cell? ⟨w.heap.size, 0, none⟩ = some (.int .i64 op) := bx.cell 0; have c1 : w1.cell? ⟨w.heap.size, 1, none⟩ = some (.int .i64 a) := bx.cell 1; have c2 : w1.cell? ⟨w.heap.size, 2, none⟩ = some (.int .i64 b) := bx.cell 2; have c3 : w1.cell? ⟨w.heap.size, 3, none⟩ = some (.string s) := bx.cell 3; have c4 : w1.cell? ⟨w.heap.size, 4, none⟩ = some (.string t) := bx.cell 4)
  go_cut [29] from 7 to 29 (fun v wx => v = .bool c ∧ wx = w1)
  case first =>
    have HSL := Lib.hid (show slotF op = slotF op from rfl)
    generalize hsl : slotF op = sl at *
    have HHT := Lib.hid (show htF op = htF op from rfl)
    generalize hht : htF op = ht_ at *
    replace HSL := Lib.hid hsl
    replace HHT := Lib.hid hht
    clear hsl hht
    cases g1 : (a != 0) <;> cases g2 : (op == 2) <;> cases g3 : (op == 4) <;> cases sl <;> cases ht_
    all_goals
      have HC1 := HC.out
      simp only [g1, g2, g3, HSL.out, HHT.out, Bool.or_true, Bool.or_false, Bool.true_or, Bool.false_or] at HC1
      subst HC1
      go_wp2_with (first | (go_at_call 35; refine (slot_impl _ _).mono ?_; rw [HSL.out]; rintro e w' ⟨rfl, rfl⟩) | (go_at_call 19; refine (ht_impl _ _).mono ?_; rw [HHT.out]; rintro e w' ⟨rfl, rfl⟩))
      go_meet
      exact ⟨by first | rfl | (show Value.bool (!(op == 3)) = _; rw [g4]; rfl), rfl⟩
  case rest =>
    obtain ⟨rfl, rfl⟩ := hcut
    clear HC FN
    go_upto_if 29 with fail
    go_cut [3] from 30 to 35 (fun v wx => v = .string (ap c nm ⟨#[32]⟩ fa) ∧ Blk wx w.heap.size 28 #[.int .i64 op, .int .i64 a, .int .i64 b, .string s, .string t] ∧ Below w.heap.size w wx)
    case first =>
      cases c
      all_goals go_wp2_with (go_at_call 36; refine (FA.out _ HB).mono ?_; rintro e w9 ⟨rfl, hb⟩; replace bx := bx.below hb (Nat.le_refl _); replace HB := HB.trans (hb.mono HB.size); clear hb c0 c1 c2 c3 c4; have c0 : w9.cell? ⟨w.heap.size, 0, none⟩ = some (.int .i64 op) := bx.cell 0; have c1 : w9.cell? ⟨w.heap.size, 1, none⟩ = some (.int .i64 a) := bx.cell 1; have c2 : w9.cell? ⟨w.heap.size, 2, none⟩ = some (.int .i64 b) := bx.cell 2; have c3 : w9.cell? ⟨w.heap.size, 3, none⟩ = some (.string s) := bx.cell 3; have c4 : w9.cell? ⟨w.heap.size, 4, none⟩ = some (.string t) := bx.cell 4)
      all_goals
        go_meet
        exact ⟨by first | rfl | (rw [ap_t (by assumption)]) | (rw [ap_f (by assumption)]), bx, HB⟩
    case rest =>
      have sz1 := ap_size c nm ⟨#[32]⟩ fa (by decide)
      generalize hp1 : ap c nm ⟨#[32]⟩ fa = p1 at *
      have HP1 := Lib.hid hp1
      clear hp1 bx HB
      obtain ⟨rfl, bx, HB⟩ := hcut
      clear c0 c1 c2 c3 c4
      have c0 : wc.cell? ⟨w.heap.size, 0, none⟩ = some (.int .i64 op) := bx.cell 0
      have c1 : wc.cell? ⟨w.heap.size, 1, none⟩ = some (.int .i64 a) := bx.cell 1
      have c2 : wc.cell? ⟨w.heap.size, 2, none⟩ = some (.int .i64 b) := bx.cell 2
      have c3 : wc.cell? ⟨w.heap.size, 3, none⟩ = some (.string s) := bx.cell 3
      have c4 : wc.cell? ⟨w.heap.size, 4, none⟩ = some (.string t) := bx.cell 4
      go_upto_if 38 with fail
      go_cut [3] from 36 to 44 (fun v wx => v = .string (ap (b != 0) p1 ⟨#[32, 47]⟩ fb) ∧ Blk wx w.heap.size 28 #[.int .i64 op, .int .i64 a, .int .i64 b, .string s, .string t] ∧ Below w.heap.size w wx)
      case first =>
        go_wp2_with (go_at_call 36; refine (FB.out _ HB).mono ?_; rintro e w9 ⟨rfl, hb⟩; replace bx := bx.below hb (Nat.le_refl _); replace HB := HB.trans (hb.mono HB.size); clear hb c0 c1 c2 c3 c4; have c0 : w9.cell? ⟨w.heap.size, 0, none⟩ = some (.int .i64 op) := bx.cell 0; have c1 : w9.cell? ⟨w.heap.size, 1, none⟩ = some (.int .i64 a) := bx.cell 1; have c2 : w9.cell? ⟨w.heap.size, 2, none⟩ = some (.int .i64 b) := bx.cell 2; have c3 : w9.cell? ⟨w.heap.size, 3, none⟩ = some (.string s) := bx.cell 3; have c4 : w9.cell? ⟨w.heap.size, 4, none⟩ = some (.string t) := bx.cell 4)
        all_goals
          go_meet
          exact ⟨by first | rfl | (rw [ap_t (by assumption)]) | (rw [ap_f (by assumption)]), bx, HB⟩
      case rest =>
        have sz2 := ap_size (b != 0) p1 ⟨#[32, 47]⟩ fb (by decide)
        generalize hp2 : ap (b != 0) p1 ⟨#[32, 47]⟩ fb = p2 at *
        have HP2 := Lib.hid hp2
        clear hp2 bx HB
        obtain ⟨rfl, bx, HB⟩ := hcut
        clear c0 c1 c2 c3 c4
        have c0 : wc.cell? ⟨w.heap.size, 0, none⟩ = some (.int .i64 op) := bx.cell 0
        have c1 : wc.cell? ⟨w.heap.size, 1, none⟩ = some (.int .i64 a) := bx.cell 1
        have c2 : wc.cell? ⟨w.heap.size, 2, none⟩ = some (.int .i64 b) := bx.cell 2
        have c3 : wc.cell? ⟨w.heap.size, 3, none⟩ = some (.string s) := bx.cell 3
        have c4 : wc.cell? ⟨w.heap.size, 4, none⟩ = some (.string t) := bx.cell 4
        go_upto_if 47 with fail
        go_cut [3] from 45 to 53 (fun v wx => v = .string (ap (!s.toList.isEmpty) p2 ⟨#[32]⟩ qs) ∧ Blk wx w.heap.size 28 #[.int .i64 op, .int .i64 a, .int .i64 b, .string s, .string t] ∧ Below w.heap.size w wx)
        case first =>
          go_wp2_with (go_at_call 37; refine (QS.out _).mono ?_; rintro e w9 ⟨rfl, hb⟩; replace bx := bx.below hb (Nat.le_refl _); replace HB := HB.trans (hb.mono HB.size); clear hb c0 c1 c2 c3 c4; have c0 : w9.cell? ⟨w.heap.size, 0, none⟩ = some (.int .i64 op) := bx.cell 0; have c1 : w9.cell? ⟨w.heap.size, 1, none⟩ = some (.int .i64 a) := bx.cell 1; have c2 : w9.cell? ⟨w.heap.size, 2, none⟩ = some (.int .i64 b) := bx.cell 2; have c3 : w9.cell? ⟨w.heap.size, 3, none⟩ = some (.string s) := bx.cell 3; have c4 : w9.cell? ⟨w.heap.size, 4, none⟩ = some (.string t) := bx.cell 4)
          all_goals
            go_meet
            exact ⟨by first | rfl | (rw [ap_t (by assumption)]) | (rw [ap_f (by assumption)]), bx, HB⟩
        case rest =>
          have sz3 := ap_size (!s.toList.isEmpty) p2 ⟨#[32]⟩ qs (by decide)
          generalize hp3 : ap (!s.toList.isEmpty) p2 ⟨#[32]⟩ qs = p3 at *
          have HP3 := Lib.hid hp3
          clear hp3 bx HB
          obtain ⟨rfl, bx, HB⟩ := hcut
          clear c0 c1 c2 c3 c4
          have c0 : wc.cell? ⟨w.heap.size, 0, none⟩ = some (.int .i64 op) := bx.cell 0
          have c1 : wc.cell? ⟨w.heap.size, 1, none⟩ = some (.int .i64 a) := bx.cell 1
          have c2 : wc.cell? ⟨w.heap.size, 2, none⟩ = some (.int .i64 b) := bx.cell 2
          have c3 : wc.cell? ⟨w.heap.size, 3, none⟩ = some (.string s) := bx.cell 3
          have c4 : wc.cell? ⟨w.heap.size, 4, none⟩ = some (.string t) := bx.cell 4
          go_upto_if 56 with fail
          go_cut [3] from 54 to 62 (fun v wx => v = .string (ap (!t.toList.isEmpty) p3 ⟨#[32]⟩ qt) ∧ Blk wx w.heap.size 28 #[.int .i64 op, .int .i64 a, .int .i64 b, .string s, .string t] ∧ Below w.heap.size w wx)
          case first =>
            go_wp2_with (go_at_call 37; refine (QT.out _).mono ?_; rintro e w9 ⟨rfl, hb⟩; replace bx := bx.below hb (Nat.le_refl _); replace HB := HB.trans (hb.mono HB.size); clear hb c0 c1 c2 c3 c4; have c0 : w9.cell? ⟨w.heap.size, 0, none⟩ = some (.int .i64 op) := bx.cell 0; have c1 : w9.cell? ⟨w.heap.size, 1, none⟩ = some (.int .i64 a) := bx.cell 1; have c2 : w9.cell? ⟨w.heap.size, 2, none⟩ = some (.int .i64 b) := bx.cell 2; have c3 : w9.cell? ⟨w.heap.size, 3, none⟩ = some (.string s) := bx.cell 3; have c4 : w9.cell? ⟨w.heap.size, 4, none⟩ = some (.string t) := bx.cell 4)
            all_goals
              go_meet
              exact ⟨by first | rfl | (rw [ap_t (by assumption)]) | (rw [ap_f (by assumption)]), bx, HB⟩
          case rest =>
            have sz4 := ap_size (!t.toList.isEmpty) p3 ⟨#[32]⟩ qt (by decide)
            generalize hp4 : ap (!t.toList.isEmpty) p3 ⟨#[32]⟩ qt = p4 at *
            have HP4 := Lib.hid hp4
            clear hp4 bx HB
            obtain ⟨rfl, bx, HB⟩ := hcut
            clear c0 c1 c2 c3 c4
            have c0 : wc.cell? ⟨w.heap.size, 0, none⟩ = some (.int .i64 op) := bx.cell 0
            have c1 : wc.cell? ⟨w.heap.size, 1, none⟩ = some (.int .i64 a) := bx.cell 1
            have c2 : wc.cell? ⟨w.heap.size, 2, none⟩ = some (.int .i64 b) := bx.cell 2
            have c3 : wc.cell? ⟨w.heap.size, 3, none⟩ = some (.string s) := bx.cell 3
            have c4 : wc.cell? ⟨w.heap.size, 4, none⟩ = some (.string t) := bx.cell 4
            go_wp2_with fail
            go_ret
            exact ⟨ret_str (by unfold lnF; rw [HP1.out, HP2.out, HP3.out, HP4.out]), HB⟩
end Go.Proofs.YtiggmjiodbbceaaDoor
