/-
  l25Ins and DrawIsIns hand out some instruction. Conditions: none.
-/
import Derived.Test.YtiggmjiodbbceaaDoorDrw
import Derived.Test.YtiggmjiodbbceaaDoorLnA
import Derived.Deep.RegionHeld3
import Derived.Deep.CutBlock
namespace Go.Proofs.YtiggmjiodbbceaaDoor
open Go.ChangeShapes Go.WideShapes Go.ChangeAt Go.RowKit Go.Deep Go.Joins
open Go.ChangeMaps (open_string shut_string)
set_option linter.unusedVariables false
set_option linter.unusedSimpArgs false
set_option maxRecDepth 100000
theorem l25Text_any (op : Int) (w : World) : Calls Tryd.prog 44 #[.int .i64 op] w fun e w' => (∃ k : Int, e = .returned (.int .i64 k)) ∧ w = w' := by
  go_enter Tryd.func44, Tryd.ntmps44
  go_wp2
  all_goals
    go_ret
    exact ⟨⟨_, rfl⟩, rfl⟩
/-- An instruction that is being drawn: in block I; block r keeps the place of the result. -/
structure LiS (w : World) (g B r I : Nat) (op a b : Int) (s t : ByteArray) (v : World) : Prop where
  blk : Blk v I 28 #[.int .i64 op, .int .i64 a, .int .i64 b, .string s, .string t]
  res : Blk v r 28 #[.int .i64 0, .int .i64 0, .int .i64 0, .string ⟨#[]⟩, .string ⟨#[]⟩]
  cur : Cur v g B
  onl : Only g (g + 1) w.heap.size w v
  rge : w.heap.size ≤ r
  rI : r < I
  gr : g < r
  op0 : 1 ≤ op ∧ op ≤ 56
  ra : -9223372036854775808 ≤ a ∧ a ≤ 9223372036854775807
  rb : -9223372036854775808 ≤ b ∧ b ≤ 9223372036854775807
  ss : s.size ≤ 100
  st : t.size ≤ 100
section
variable {w : World} {g B r I : Nat} {op a b : Int} {s t : ByteArray} {v v' : World}
theorem LiS.only (h : LiS w g B r I op a b s t v) (hc : Cur v' g B) (ho : Only g (g + 1) v.heap.size v v') : LiS w g B r I op a b s t v' := by
  have h1 := h.gr
  have h2 := h.rI
  have h3 := h.onl.size
  exact ⟨h.blk.only ho (Nat.le_refl _) (.inr (by omega)), h.res.only ho (Nat.le_refl _) (.inr (by omega)), hc, h.onl.trans (ho.less h3), h.rge, h.rI, h.gr, h.op0, h.ra, h.rb, h.ss, h.st⟩
theorem LiS.drew (h : LiS w g B r I op a b s t v) : LiS w g B r I op a b s t v.drew := h.only h.cur.drew ⟨rfl, rfl, rfl, Nat.le_refl _, fun _ _ _ => rfl⟩
theorem LiS.cell0 (h : LiS w g B r I op a b s t v) : v.cell? ⟨I, 0, none⟩ = some (.int .i64 op) := h.blk.cell 0
theorem LiS.setA (h : LiS w g B r I op a b s t v) (x : Int) (hx : -9223372036854775808 ≤ x ∧ x ≤ 9223372036854775807) : LiS w g B r I op x b s t (v.setCell ⟨I, 1, none⟩ (.int .i64 x)) := by
  have h1 := h.gr
  have h2 := h.rI
  have h3 := h.rge
  have h4 := h.cur.le
  exact ⟨h.blk.set_ 1 _, h.res.far (by show r ≠ I; omega) _, h.cur.far (by show I ≠ g; omega) (by show B ≤ I; omega) _, h.onl.trans (only_of_below ((Below.refl _ _).setCell (p := ⟨I, 1, none⟩) (by show w.heap.size ≤ I; omega) _)), h.rge, h.rI, h.gr, h.op0, hx, h.rb, h.ss, h.st⟩
theorem LiS.setB (h : LiS w g B r I op a b s t v) (x : Int) (hx : -9223372036854775808 ≤ x ∧ x ≤ 9223372036854775807) : LiS w g B r I op a x s t (v.setCell ⟨I, 2, none⟩ (.int .i64 x)) := by
  have h1 := h.gr
  have h2 := h.rI
  have h3 := h.rge
  have h4 := h.cur.le
  exact ⟨h.blk.set_ 2 _, h.res.far (by show r ≠ I; omega) _, h.cur.far (by show I ≠ g; omega) (by show B ≤ I; omega) _, h.onl.trans (only_of_below ((Below.refl _ _).setCell (p := ⟨I, 2, none⟩) (by show w.heap.size ≤ I; omega) _)), h.rge, h.rI, h.gr, h.op0, h.ra, hx, h.ss, h.st⟩
theorem LiS.setS (h : LiS w g B r I op a b s t v) (x : ByteArray) (hx : x.size ≤ 100) : LiS w g B r I op a b x t (v.setCell ⟨I, 3, none⟩ (.string x)) := by
  have h1 := h.gr
  have h2 := h.rI
  have h3 := h.rge
  have h4 := h.cur.le
  exact ⟨h.blk.set_ 3 _, h.res.far (by show r ≠ I; omega) _, h.cur.far (by show I ≠ g; omega) (by show B ≤ I; omega) _, h.onl.trans (only_of_below ((Below.refl _ _).setCell (p := ⟨I, 3, none⟩) (by show w.heap.size ≤ I; omega) _)), h.rge, h.rI, h.gr, h.op0, h.ra, h.rb, hx, h.st⟩
theorem LiS.setT (h : LiS w g B r I op a b s t v) (x : ByteArray) (hx : x.size ≤ 100) : LiS w g B r I op a b s x (v.setCell ⟨I, 4, none⟩ (.string x)) := by
  have h1 := h.gr
  have h2 := h.rI
  have h3 := h.rge
  have h4 := h.cur.le
  exact ⟨h.blk.set_ 4 _, h.res.far (by show r ≠ I; omega) _, h.cur.far (by show I ≠ g; omega) (by show B ≤ I; omega) _, h.onl.trans (only_of_below ((Below.refl _ _).setCell (p := ⟨I, 4, none⟩) (by show w.heap.size ≤ I; omega) _)), h.rge, h.rI, h.gr, h.op0, h.ra, h.rb, h.ss, hx⟩
end
set_option maxHeartbeats 4000000 in
theorem l25Ins_any (g B : Nat) (w : World) (hc : Cur w g B) : Calls Tryd.prog 39 #[.pointer (some ⟨g, 0, none⟩)] w fun e w' => (∃ (op a b : Int) (s t : ByteArray), (1 ≤ op ∧ op ≤ 56) ∧ (-9223372036854775808 ≤ a ∧ a ≤ 9223372036854775807) ∧ (-9223372036854775808 ≤ b ∧ b ≤ 9223372036854775807) ∧ s.size ≤ 100 ∧ t.size ≤ 100 ∧ e = .returned (.agg #[.int .i64 op, .int .i64 a, .int .i64 b, .string s, .string t])) ∧ Cur w' g B ∧ Only g (g + 1) w.heap.size w w' := by
  have HC := Lib.hid hc
  have hgl := hc.lt
  clear hc
  go_enter Tryd.func39, Tryd.ntmps39
  go_upto_region 2 with (go_at_call 40; refine (l1Below_any g B 56 (by decide) (by decide) _ (HC.out.alloc _)).mono ?_; rintro e w1 ⟨⟨x, hx, rfl⟩, hc1, ho1⟩)
  have hz1 : w.heap.size + 1 ≤ w1.heap.size := by have := ho1.size; simpa using this
  have S0 : LiS w g B w.heap.size w1.heap.size (1 + (x : Int)) 0 0 ⟨#[]⟩ ⟨#[]⟩ (w1.alloc (.cells #[.int .i64 (1 + (x : Int)), .int .i64 0, .int .i64 0, .string ⟨#[]⟩, .string ⟨#[]⟩] 28)) :=
    ⟨Blk.new _ _ _, ((Blk.new w 28 _).only ho1 (by simp) (.inr (by omega))).alloc _, hc1.alloc _, ((only_of_below ((Below.refl _ _).alloc (Nat.le_refl _) _)).trans (ho1.less (by simp))).trans (only_of_below ((Below.refl _ _).alloc (by omega) _)), Nat.le_refl _, by omega, hgl, by omega, by decide, by decide, by decide, by decide⟩
  clear hc1 ho1
  have hop : 1 ≤ 1 + (x : Int) ∧ 1 + (x : Int) ≤ 56 := by omega
  generalize w1.alloc (.cells #[.int .i64 (1 + (x : Int)), .int .i64 0, .int .i64 0, .string ⟨#[]⟩, .string ⟨#[]⟩] 28) = w2 at *
  generalize 1 + (x : Int) = op at *
  generalize w1.heap.size = I at *
  have S := S0
  clear S0 hz1
  have k0 : w2.cell? ⟨I, 0, none⟩ = some (.int .i64 op) := S.blk.cell 0
  go_cut [20] from 8 to 20 (fun v wx => (∃ c, v = .bool c) ∧ wx = w2)
  case first =>
    have HSL := Lib.hid (show slotF op = slotF op from rfl)
    generalize hsl : slotF op = sl at *
    replace HSL := Lib.hid hsl
    generalize hht : htF op = ht_ at *
    have HHT := Lib.hid hht
    clear hsl hht
    cases sl <;> cases ht_
    all_goals
      go_wp2_with (first | (go_at_call 30; refine (slot_spec _ _).mono ?_; rw [HSL.out]; rintro e w' ⟨rfl, rfl⟩) | (go_at_call 31; refine (ht_spec _ _).mono ?_; rw [HHT.out]; rintro e w' ⟨rfl, rfl⟩))
      go_meet
      exact ⟨⟨_, rfl⟩, rfl⟩
  case rest =>
    obtain ⟨⟨c, rfl⟩, rfl⟩ := hcut
    obtain ⟨a, b, s, t, S⟩ : ∃ (a b : Int) (s t : ByteArray), LiS w g B w.heap.size I op a b s t wc := ⟨_, _, _, _, S⟩
    clear k0
    have k0 : wc.cell? ⟨I, 0, none⟩ = some (.int .i64 op) := S.blk.cell 0
    have k1 : wc.cell? ⟨I, 1, none⟩ = some (.int .i64 a) := S.blk.cell 1
    have k2 : wc.cell? ⟨I, 2, none⟩ = some (.int .i64 b) := S.blk.cell 2
    have k3 : wc.cell? ⟨I, 3, none⟩ = some (.string s) := S.blk.cell 3
    have k4 : wc.cell? ⟨I, 4, none⟩ = some (.string t) := S.blk.cell 4
    have f0 : wc.frozen? ⟨I, 0, none⟩ = false := S.blk.frozen 0
    have f1 : wc.frozen? ⟨I, 1, none⟩ = false := S.blk.frozen 1
    have f2 : wc.frozen? ⟨I, 2, none⟩ = false := S.blk.frozen 2
    have f3 : wc.frozen? ⟨I, 3, none⟩ = false := S.blk.frozen 3
    have f4 : wc.frozen? ⟨I, 4, none⟩ = false := S.blk.frozen 4
    go_upto_if 20 with fail
    go_cut [2] from 20 to 23 (fun v wx => v = .pointer (some ⟨w.heap.size, 0, none⟩) ∧ ∃ (a b : Int) (s t : ByteArray), LiS w g B w.heap.size I op a b s t wx)
    case first =>
      cases c
      · go_wp2_with fail
        go_meet
        exact ⟨rfl, _, _, _, _, S⟩
      · go_wp2_with (go_at_call 40; refine (l1Below_any g B 4 (by decide) (by decide) _ S.cur).mono ?_; rintro e wa ⟨⟨y, hy, rfl⟩, hc1, ho1⟩; replace S := S.only hc1 ho1; clear hc1 ho1; clear k0 k1 k2 k3 k4 f0 f1 f2 f3 f4; have k0 : wa.cell? ⟨I, 0, none⟩ = some (.int .i64 op) := S.blk.cell 0; have k1 : wa.cell? ⟨I, 1, none⟩ = some (.int .i64 a) := S.blk.cell 1; have k2 : wa.cell? ⟨I, 2, none⟩ = some (.int .i64 b) := S.blk.cell 2; have k3 : wa.cell? ⟨I, 3, none⟩ = some (.string s) := S.blk.cell 3; have k4 : wa.cell? ⟨I, 4, none⟩ = some (.string t) := S.blk.cell 4; have f0 : wa.frozen? ⟨I, 0, none⟩ = false := S.blk.frozen 0; have f1 : wa.frozen? ⟨I, 1, none⟩ = false := S.blk.frozen 1; have f2 : wa.frozen? ⟨I, 2, none⟩ = false := S.blk.frozen 2; have f3 : wa.frozen? ⟨I, 3, none⟩ = false := S.blk.frozen 3; have f4 : wa.frozen? ⟨I, 4, none⟩ = false := S.blk.frozen 4)
        go_meet
        exact ⟨rfl, _, _, _, _, S.setA _ (by omega)⟩
    case rest =>
      clear k0 k1 k2 k3 k4 f0 f1 f2 f3 f4
      clear S
      obtain ⟨rfl, a, b, s, t, S⟩ := hcut
      have k0 : wc.cell? ⟨I, 0, none⟩ = some (.int .i64 op) := S.blk.cell 0
      have k1 : wc.cell? ⟨I, 1, none⟩ = some (.int .i64 a) := S.blk.cell 1
      have k2 : wc.cell? ⟨I, 2, none⟩ = some (.int .i64 b) := S.blk.cell 2
      have k3 : wc.cell? ⟨I, 3, none⟩ = some (.string s) := S.blk.cell 3
      have k4 : wc.cell? ⟨I, 4, none⟩ = some (.string t) := S.blk.cell 4
      have f0 : wc.frozen? ⟨I, 0, none⟩ = false := S.blk.frozen 0
      have f1 : wc.frozen? ⟨I, 1, none⟩ = false := S.blk.frozen 1
      have f2 : wc.frozen? ⟨I, 2, none⟩ = false := S.blk.frozen 2
      have f3 : wc.frozen? ⟨I, 3, none⟩ = false := S.blk.frozen 3
      have f4 : wc.frozen? ⟨I, 4, none⟩ = false := S.blk.frozen 4
      go_upto_block 0 with (go_at_call 44; refine (l25Text_any _ _).mono ?_; rintro e w' ⟨⟨k, rfl⟩, rfl⟩)
      go_cut [2] from 27 to 38 (fun v wx => v = .pointer (some ⟨w.heap.size, 0, none⟩) ∧ ∃ (a b : Int) (s t : ByteArray), LiS w g B w.heap.size I op a b s t wx)
      case first =>
        go_wp2_with (go_at_call 61; refine (l1StrL g B _ 100 _ _ _ (by decide) (by decide) (by kernel_rfl) S.cur).mono ?_; rintro e wa ⟨⟨u, hu, rfl⟩, hc1, ho1⟩; replace S := S.only hc1 ho1; clear hc1 ho1; clear k0 k1 k2 k3 k4 f0 f1 f2 f3 f4; have k0 : wa.cell? ⟨I, 0, none⟩ = some (.int .i64 op) := S.blk.cell 0; have k1 : wa.cell? ⟨I, 1, none⟩ = some (.int .i64 a) := S.blk.cell 1; have k2 : wa.cell? ⟨I, 2, none⟩ = some (.int .i64 b) := S.blk.cell 2; have k3 : wa.cell? ⟨I, 3, none⟩ = some (.string s) := S.blk.cell 3; have k4 : wa.cell? ⟨I, 4, none⟩ = some (.string t) := S.blk.cell 4; have f0 : wa.frozen? ⟨I, 0, none⟩ = false := S.blk.frozen 0; have f1 : wa.frozen? ⟨I, 1, none⟩ = false := S.blk.frozen 1; have f2 : wa.frozen? ⟨I, 2, none⟩ = false := S.blk.frozen 2; have f3 : wa.frozen? ⟨I, 3, none⟩ = false := S.blk.frozen 3; have f4 : wa.frozen? ⟨I, 4, none⟩ = false := S.blk.frozen 4)
        all_goals
          go_meet
          first
            | exact ⟨rfl, _, _, _, _, S.setS _ hu⟩
            | exact ⟨rfl, _, _, _, _, S⟩
      case rest =>
        clear k0 k1 k2 k3 k4 f0 f1 f2 f3 f4
        clear S
        obtain ⟨rfl, a, b, s, t, S⟩ := hcut
        have k0 : wc.cell? ⟨I, 0, none⟩ = some (.int .i64 op) := S.blk.cell 0
        have k1 : wc.cell? ⟨I, 1, none⟩ = some (.int .i64 a) := S.blk.cell 1
        have k2 : wc.cell? ⟨I, 2, none⟩ = some (.int .i64 b) := S.blk.cell 2
        have k3 : wc.cell? ⟨I, 3, none⟩ = some (.string s) := S.blk.cell 3
        have k4 : wc.cell? ⟨I, 4, none⟩ = some (.string t) := S.blk.cell 4
        have f0 : wc.frozen? ⟨I, 0, none⟩ = false := S.blk.frozen 0
        have f1 : wc.frozen? ⟨I, 1, none⟩ = false := S.blk.frozen 1
        have f2 : wc.frozen? ⟨I, 2, none⟩ = false := S.blk.frozen 2
        have f3 : wc.frozen? ⟨I, 3, none⟩ = false := S.blk.frozen 3
        have f4 : wc.frozen? ⟨I, 4, none⟩ = false := S.blk.frozen 4
        go_upto_if 41 with fail
        go_cut [2] from 39 to 42 (fun v wx => v = .pointer (some ⟨w.heap.size, 0, none⟩) ∧ ∃ (a b : Int) (s t : ByteArray), LiS w g B w.heap.size I op a b s t wx)
        case first =>
          go_wp2_with fail
          all_goals
            go_meet
            first
              | exact ⟨rfl, _, _, _, _, S.setT _ (by decide)⟩
              | exact ⟨rfl, _, _, _, _, S⟩
        case rest =>
          clear k0 k1 k2 k3 k4 f0 f1 f2 f3 f4
          clear S
          obtain ⟨rfl, a, b, s, t, S⟩ := hcut
          have k0 : wc.cell? ⟨I, 0, none⟩ = some (.int .i64 op) := S.blk.cell 0
          have k1 : wc.cell? ⟨I, 1, none⟩ = some (.int .i64 a) := S.blk.cell 1
          have k2 : wc.cell? ⟨I, 2, none⟩ = some (.int .i64 b) := S.blk.cell 2
          have k3 : wc.cell? ⟨I, 3, none⟩ = some (.string s) := S.blk.cell 3
          have k4 : wc.cell? ⟨I, 4, none⟩ = some (.string t) := S.blk.cell 4
          have f0 : wc.frozen? ⟨I, 0, none⟩ = false := S.blk.frozen 0
          have f1 : wc.frozen? ⟨I, 1, none⟩ = false := S.blk.frozen 1
          have f2 : wc.frozen? ⟨I, 2, none⟩ = false := S.blk.frozen 2
          have f3 : wc.frozen? ⟨I, 3, none⟩ = false := S.blk.frozen 3
          have f4 : wc.frozen? ⟨I, 4, none⟩ = false := S.blk.frozen 4
          go_upto_block 1 with (go_at_call 40; refine (l1Below_any g B 9 (by decide) (by decide) _ S.cur).mono ?_; rintro e wa ⟨⟨y, hy, rfl⟩, hc1, ho1⟩; replace S := S.only hc1 ho1; clear hc1 ho1; clear k0 k1 k2 k3 k4 f0 f1 f2 f3 f4; have k0 : wa.cell? ⟨I, 0, none⟩ = some (.int .i64 op) := S.blk.cell 0; have k1 : wa.cell? ⟨I, 1, none⟩ = some (.int .i64 a) := S.blk.cell 1; have k2 : wa.cell? ⟨I, 2, none⟩ = some (.int .i64 b) := S.blk.cell 2; have k3 : wa.cell? ⟨I, 3, none⟩ = some (.string s) := S.blk.cell 3; have k4 : wa.cell? ⟨I, 4, none⟩ = some (.string t) := S.blk.cell 4; have f0 : wa.frozen? ⟨I, 0, none⟩ = false := S.blk.frozen 0; have f1 : wa.frozen? ⟨I, 1, none⟩ = false := S.blk.frozen 1; have f2 : wa.frozen? ⟨I, 2, none⟩ = false := S.blk.frozen 2; have f3 : wa.frozen? ⟨I, 3, none⟩ = false := S.blk.frozen 3; have f4 : wa.frozen? ⟨I, 4, none⟩ = false := S.blk.frozen 4)
          go_cut [2] from 45 to 69 (fun v wx => v = .pointer (some ⟨w.heap.size, 0, none⟩) ∧ ∃ (a b : Int) (s t : ByteArray), LiS w g B w.heap.size I op a b s t wx)
          case first =>
            go_wp2_with (first | (go_at_call 62; refine (l1Odd_any g B _ S.cur).mono ?_; rintro e wa ⟨⟨y, hy0, hy1, rfl⟩, hc1, ho1⟩; replace S := S.only hc1 ho1; clear hc1 ho1; clear k0 k1 k2 k3 k4 f0 f1 f2 f3 f4; have k0 : wa.cell? ⟨I, 0, none⟩ = some (.int .i64 op) := S.blk.cell 0; have k1 : wa.cell? ⟨I, 1, none⟩ = some (.int .i64 a) := S.blk.cell 1; have k2 : wa.cell? ⟨I, 2, none⟩ = some (.int .i64 b) := S.blk.cell 2; have k3 : wa.cell? ⟨I, 3, none⟩ = some (.string s) := S.blk.cell 3; have k4 : wa.cell? ⟨I, 4, none⟩ = some (.string t) := S.blk.cell 4; have f0 : wa.frozen? ⟨I, 0, none⟩ = false := S.blk.frozen 0; have f1 : wa.frozen? ⟨I, 1, none⟩ = false := S.blk.frozen 1; have f2 : wa.frozen? ⟨I, 2, none⟩ = false := S.blk.frozen 2; have f3 : wa.frozen? ⟨I, 3, none⟩ = false := S.blk.frozen 3; have f4 : wa.frozen? ⟨I, 4, none⟩ = false := S.blk.frozen 4) | (go_at_call 40; refine (l1Below_any g B 4 (by decide) (by decide) _ S.cur).mono ?_; rintro e wa ⟨⟨y, hy, rfl⟩, hc1, ho1⟩; replace S := S.only hc1 ho1; clear hc1 ho1; clear k0 k1 k2 k3 k4 f0 f1 f2 f3 f4; have k0 : wa.cell? ⟨I, 0, none⟩ = some (.int .i64 op) := S.blk.cell 0; have k1 : wa.cell? ⟨I, 1, none⟩ = some (.int .i64 a) := S.blk.cell 1; have k2 : wa.cell? ⟨I, 2, none⟩ = some (.int .i64 b) := S.blk.cell 2; have k3 : wa.cell? ⟨I, 3, none⟩ = some (.string s) := S.blk.cell 3; have k4 : wa.cell? ⟨I, 4, none⟩ = some (.string t) := S.blk.cell 4; have f0 : wa.frozen? ⟨I, 0, none⟩ = false := S.blk.frozen 0; have f1 : wa.frozen? ⟨I, 1, none⟩ = false := S.blk.frozen 1; have f2 : wa.frozen? ⟨I, 2, none⟩ = false := S.blk.frozen 2; have f3 : wa.frozen? ⟨I, 3, none⟩ = false := S.blk.frozen 3; have f4 : wa.frozen? ⟨I, 4, none⟩ = false := S.blk.frozen 4) | (go_at_call 63; refine (l5Word_any g B _ S.cur).mono ?_; rintro e wa ⟨⟨u, hu, rfl⟩, hc1, ho1⟩; replace S := S.only hc1 ho1; clear hc1 ho1; clear k0 k1 k2 k3 k4 f0 f1 f2 f3 f4; have k0 : wa.cell? ⟨I, 0, none⟩ = some (.int .i64 op) := S.blk.cell 0; have k1 : wa.cell? ⟨I, 1, none⟩ = some (.int .i64 a) := S.blk.cell 1; have k2 : wa.cell? ⟨I, 2, none⟩ = some (.int .i64 b) := S.blk.cell 2; have k3 : wa.cell? ⟨I, 3, none⟩ = some (.string s) := S.blk.cell 3; have k4 : wa.cell? ⟨I, 4, none⟩ = some (.string t) := S.blk.cell 4; have f0 : wa.frozen? ⟨I, 0, none⟩ = false := S.blk.frozen 0; have f1 : wa.frozen? ⟨I, 1, none⟩ = false := S.blk.frozen 1; have f2 : wa.frozen? ⟨I, 2, none⟩ = false := S.blk.frozen 2; have f3 : wa.frozen? ⟨I, 3, none⟩ = false := S.blk.frozen 3; have f4 : wa.frozen? ⟨I, 4, none⟩ = false := S.blk.frozen 4))
            all_goals
              go_meet
              first
                | exact ⟨rfl, _, _, _, _, S.setA _ ⟨hy0, hy1⟩⟩
                | exact ⟨rfl, _, _, _, _, S.setB _ ⟨hy0, hy1⟩⟩
                | exact ⟨rfl, _, _, _, _, S.setS _ hu⟩
                | exact ⟨rfl, _, _, _, _, S.setT _ hu⟩
                | exact ⟨rfl, _, _, _, _, S.setB _ (by omega)⟩
                | exact ⟨rfl, _, _, _, _, S⟩
          case rest =>
            clear k0 k1 k2 k3 k4 f0 f1 f2 f3 f4
            clear S
            obtain ⟨rfl, a, b, s, t, S⟩ := hcut
            have k0 : wc.cell? ⟨I, 0, none⟩ = some (.int .i64 op) := S.blk.cell 0
            have k1 : wc.cell? ⟨I, 1, none⟩ = some (.int .i64 a) := S.blk.cell 1
            have k2 : wc.cell? ⟨I, 2, none⟩ = some (.int .i64 b) := S.blk.cell 2
            have k3 : wc.cell? ⟨I, 3, none⟩ = some (.string s) := S.blk.cell 3
            have k4 : wc.cell? ⟨I, 4, none⟩ = some (.string t) := S.blk.cell 4
            have f0 : wc.frozen? ⟨I, 0, none⟩ = false := S.blk.frozen 0
            have f1 : wc.frozen? ⟨I, 1, none⟩ = false := S.blk.frozen 1
            have f2 : wc.frozen? ⟨I, 2, none⟩ = false := S.blk.frozen 2
            have f3 : wc.frozen? ⟨I, 3, none⟩ = false := S.blk.frozen 3
            have f4 : wc.frozen? ⟨I, 4, none⟩ = false := S.blk.frozen 4
            have r0 := S.res.cell 0
            have r1 := S.res.cell 1
            have r2 := S.res.cell 2
            have r3 := S.res.cell 3
            have r4 := S.res.cell 4
            have g0 := S.res.frozen 0
            have g1 := S.res.frozen 1
            have g2 := S.res.frozen 2
            have g3 := S.res.frozen 3
            have g4 := S.res.frozen 4
            have rl := S.res.lt
            have il := S.rI
            go_wp2_with fail
            have hBl := S.cur.le
            have cf : ∀ (V : World) (j : Nat) (u : Value), Cur V g B → Cur (V.setCell ⟨w.heap.size, j, none⟩ u) g B := fun V j u h => h.far (by show w.heap.size ≠ g; omega) (by show B ≤ w.heap.size; omega) u
            have of : ∀ (V : World) (j : Nat) (u : Value), Only g (g + 1) w.heap.size w V → Only g (g + 1) w.heap.size w (V.setCell ⟨w.heap.size, j, none⟩ u) := fun V j u h => h.trans (only_of_below ((Below.refl _ _).setCell (p := ⟨w.heap.size, j, none⟩) (Nat.le_refl _) _))
            have CF := Lib.hid (cf _ 4 (.string t) (cf _ 3 (.string s) (cf _ 2 (.int .i64 b) (cf _ 1 (.int .i64 a) (cf _ 0 (.int .i64 op) S.cur)))))
            have OF := Lib.hid (of _ 4 (.string t) (of _ 3 (.string s) (of _ 2 (.int .i64 b) (of _ 1 (.int .i64 a) (of _ 0 (.int .i64 op) S.onl)))))
            clear cf of
            refine bodyPost_ret (v := .agg #[.int .i64 op, .int .i64 a, .int .i64 b, .string s, .string t]) (by simp [results, Tryd.results39, go_sem, r0, r1, r2, r3, r4, rl]) rfl ⟨⟨op, a, b, s, t, S.op0, S.ra, S.rb, S.ss, S.st, rfl⟩, CF.out, OF.out⟩
/-- Behind the draw of an instruction: it lies in block I; block r keeps the place of the result. -/
structure DiS (w : World) (g r I : Nat) (op a b : Int) (s t : ByteArray) (v : World) : Prop where
  blk : Blk v I 28 #[.int .i64 op, .int .i64 a, .int .i64 b, .string s, .string t]
  res : Blk v r 28 #[.int .i64 0, .int .i64 0, .int .i64 0, .string ⟨#[]⟩, .string ⟨#[]⟩]
  cur : Cur v g w.heap.size
  bel : Below w.heap.size w v
  rge : w.heap.size ≤ r
  rg : r < g
  gI : g < I
theorem DiS.only {w : World} {g r I : Nat} {op a b : Int} {s t : ByteArray} {v v' : World} (h : DiS w g r I op a b s t v) (hc : Cur v' g w.heap.size) (ho : Only g (g + 1) v.heap.size v v') : DiS w g r I op a b s t v' := by
  have h1 := h.rg
  have h2 := h.gI
  have h3 := h.rge
  have h4 := h.bel.size
  exact ⟨h.blk.only ho (Nat.le_refl _) (.inr (by omega)), h.res.only ho (Nat.le_refl _) (.inl (by omega)), hc, h.bel.trans (ho.below (by omega) h4), h.rge, h.rg, h.gI⟩
theorem DiS.drew {w : World} {g r I : Nat} {op a b : Int} {s t : ByteArray} {v : World} (h : DiS w g r I op a b s t v) : DiS w g r I op a b s t v.drew := h.only h.cur.drew ⟨rfl, rfl, rfl, Nat.le_refl _, fun _ _ _ => rfl⟩
set_option maxHeartbeats 4000000 in
theorem DrawIsIns_any (A : Option Addr) (n c : Nat) (w : World) (hy : Byts w w.heap.size A n) : Calls Tryd.prog 14 #[.slice A n c] w fun e w' => (∃ (op a b : Int) (s t : ByteArray) (x y : Nat), (1 ≤ op ∧ op ≤ 56) ∧ (-9223372036854775808 ≤ a ∧ a ≤ 9223372036854775807) ∧ (-9223372036854775808 ≤ b ∧ b ≤ 9223372036854775807) ∧ s.size ≤ 100 ∧ t.size ≤ 100 ∧ x < 5 ∧ y < 6 ∧ e = .returned (.tuple #[.agg #[.int .i64 op, .int .i64 a, .int .i64 b, .string s, .string t], .int .i64 x, .int .i64 y])) ∧ Below w.heap.size w w' := by
  have HY := Lib.hid (hy.keep (w' := w.alloc (.cells #[.int .i64 0, .int .i64 0, .int .i64 0, .string ⟨#[]⟩, .string ⟨#[]⟩] 28)) fun b o hb => World.cell?_alloc_old _ _ _ (by show b ≠ _; omega))
  clear hy
  go_enter Tryd.func14, Tryd.ntmps14
  go_upto_region 2 with (go_at_call 38; refine (l1New_any A n c w.heap.size _ (by simp) HY.out).mono ?_; rintro e w1 ⟨rfl, hc1, hb1⟩)
  have hz : (w.alloc (.cells #[.int .i64 0, .int .i64 0, .int .i64 0, .string ⟨#[]⟩, .string ⟨#[]⟩] 28)).heap.size = w.heap.size + 1 := by simp
  rw [hz] at hc1 hb1
  have br := (Blk.new w 28 #[.int .i64 0, .int .i64 0, .int .i64 0, .string ⟨#[]⟩, .string ⟨#[]⟩]).below hb1 (by simp)
  have hB := ((Below.refl _ _).alloc (Nat.le_refl w.heap.size) (.cells #[.int .i64 0, .int .i64 0, .int .i64 0, .string ⟨#[]⟩, .string ⟨#[]⟩] 28)).trans (hb1.mono (Nat.le_succ _))
  have hgl := hc1.lt
  clear hb1 hz
  go_upto_region 3 with (go_at_call 39; refine (l25Ins_any _ _ _ hc1).mono ?_; rintro e w2 ⟨⟨op, a, b, s, t, h1, h2, h3, h4, h5, rfl⟩, hc2, ho2⟩)
  have S0 : DiS w (w.heap.size + 1) w.heap.size w2.heap.size op a b s t (w2.alloc (.cells #[.int .i64 op, .int .i64 a, .int .i64 b, .string s, .string t] 28)) := by
    have q1 := ho2.size
    have q2 := hB.size
    exact ⟨Blk.new _ _ _, (br.only ho2 (Nat.le_refl _) (.inl (by omega))).alloc _, hc2.alloc _, (hB.trans (ho2.below (by omega) q2)).alloc (by omega) _, Nat.le_refl _, by omega, by omega⟩
  clear hc1 hc2 ho2 br hB HY
  generalize w2.alloc (.cells #[.int .i64 op, .int .i64 a, .int .i64 b, .string s, .string t] 28) = w3 at *
  generalize w2.heap.size = I at *
  have S := Lib.hid S0.drew
  clear S0 hgl
  have x0 : w3.drew.cell? ⟨I, 0, none⟩ = some (.int .i64 op) := S.out.blk.cell 0
  have r0 : w3.drew.cell? ⟨w.heap.size, 0, none⟩ = some (.int .i64 0) := S.out.res.cell 0
  have g0 : w3.drew.frozen? ⟨w.heap.size, 0, none⟩ = false := S.out.res.frozen 0
  have x1 : w3.drew.cell? ⟨I, 1, none⟩ = some (.int .i64 a) := S.out.blk.cell 1
  have r1 : w3.drew.cell? ⟨w.heap.size, 1, none⟩ = some (.int .i64 0) := S.out.res.cell 1
  have g1 : w3.drew.frozen? ⟨w.heap.size, 1, none⟩ = false := S.out.res.frozen 1
  have x2 : w3.drew.cell? ⟨I, 2, none⟩ = some (.int .i64 b) := S.out.blk.cell 2
  have r2 : w3.drew.cell? ⟨w.heap.size, 2, none⟩ = some (.int .i64 0) := S.out.res.cell 2
  have g2 : w3.drew.frozen? ⟨w.heap.size, 2, none⟩ = false := S.out.res.frozen 2
  have x3 : w3.drew.cell? ⟨I, 3, none⟩ = some (.string s) := S.out.blk.cell 3
  have r3 : w3.drew.cell? ⟨w.heap.size, 3, none⟩ = some (.string ⟨#[]⟩) := S.out.res.cell 3
  have g3 : w3.drew.frozen? ⟨w.heap.size, 3, none⟩ = false := S.out.res.frozen 3
  have x4 : w3.drew.cell? ⟨I, 4, none⟩ = some (.string t) := S.out.blk.cell 4
  have r4 : w3.drew.cell? ⟨w.heap.size, 4, none⟩ = some (.string ⟨#[]⟩) := S.out.res.cell 4
  have g4 : w3.drew.frozen? ⟨w.heap.size, 4, none⟩ = false := S.out.res.frozen 4
  have tok1 : True := trivial
  go_region_with (first
    | (go_at_call 40; have _t := tok1; clear tok1; refine (l1BelowZ _ _ _ (by decide) (by decide) _ S.out.cur).mono ?_; rintro e wa ⟨⟨x, hx, rfl⟩, hc1, ho1⟩; replace S := Lib.hid (S.out.only hc1 ho1); clear hc1 ho1; clear x0 r0 g0 x1 r1 g1 x2 r2 g2 x3 r3 g3 x4 r4 g4; have x0 : wa.cell? ⟨I, 0, none⟩ = some (.int .i64 op) := S.out.blk.cell 0; have r0 : wa.cell? ⟨w.heap.size, 0, none⟩ = some (.int .i64 0) := S.out.res.cell 0; have g0 : wa.frozen? ⟨w.heap.size, 0, none⟩ = false := S.out.res.frozen 0; have x1 : wa.cell? ⟨I, 1, none⟩ = some (.int .i64 a) := S.out.blk.cell 1; have r1 : wa.cell? ⟨w.heap.size, 1, none⟩ = some (.int .i64 0) := S.out.res.cell 1; have g1 : wa.frozen? ⟨w.heap.size, 1, none⟩ = false := S.out.res.frozen 1; have x2 : wa.cell? ⟨I, 2, none⟩ = some (.int .i64 b) := S.out.blk.cell 2; have r2 : wa.cell? ⟨w.heap.size, 2, none⟩ = some (.int .i64 0) := S.out.res.cell 2; have g2 : wa.frozen? ⟨w.heap.size, 2, none⟩ = false := S.out.res.frozen 2; have x3 : wa.cell? ⟨I, 3, none⟩ = some (.string s) := S.out.blk.cell 3; have r3 : wa.cell? ⟨w.heap.size, 3, none⟩ = some (.string ⟨#[]⟩) := S.out.res.cell 3; have g3 : wa.frozen? ⟨w.heap.size, 3, none⟩ = false := S.out.res.frozen 3; have x4 : wa.cell? ⟨I, 4, none⟩ = some (.string t) := S.out.blk.cell 4; have r4 : wa.cell? ⟨w.heap.size, 4, none⟩ = some (.string ⟨#[]⟩) := S.out.res.cell 4; have g4 : wa.frozen? ⟨w.heap.size, 4, none⟩ = false := S.out.res.frozen 4)
    | (go_at_call 40; refine (l1BelowZ _ _ _ (by decide) (by decide) _ S.out.cur).mono ?_; rintro e wb ⟨⟨y, hy, rfl⟩, hc1, ho1⟩; replace S := Lib.hid (S.out.only hc1 ho1); clear hc1 ho1; clear x0 r0 g0 x1 r1 g1 x2 r2 g2 x3 r3 g3 x4 r4 g4; have x0 : wb.cell? ⟨I, 0, none⟩ = some (.int .i64 op) := S.out.blk.cell 0; have r0 : wb.cell? ⟨w.heap.size, 0, none⟩ = some (.int .i64 0) := S.out.res.cell 0; have g0 : wb.frozen? ⟨w.heap.size, 0, none⟩ = false := S.out.res.frozen 0; have x1 : wb.cell? ⟨I, 1, none⟩ = some (.int .i64 a) := S.out.blk.cell 1; have r1 : wb.cell? ⟨w.heap.size, 1, none⟩ = some (.int .i64 0) := S.out.res.cell 1; have g1 : wb.frozen? ⟨w.heap.size, 1, none⟩ = false := S.out.res.frozen 1; have x2 : wb.cell? ⟨I, 2, none⟩ = some (.int .i64 b) := S.out.blk.cell 2; have r2 : wb.cell? ⟨w.heap.size, 2, none⟩ = some (.int .i64 0) := S.out.res.cell 2; have g2 : wb.frozen? ⟨w.heap.size, 2, none⟩ = false := S.out.res.frozen 2; have x3 : wb.cell? ⟨I, 3, none⟩ = some (.string s) := S.out.blk.cell 3; have r3 : wb.cell? ⟨w.heap.size, 3, none⟩ = some (.string ⟨#[]⟩) := S.out.res.cell 3; have g3 : wb.frozen? ⟨w.heap.size, 3, none⟩ = false := S.out.res.frozen 3; have x4 : wb.cell? ⟨I, 4, none⟩ = some (.string t) := S.out.blk.cell 4; have r4 : wb.cell? ⟨w.heap.size, 4, none⟩ = some (.string ⟨#[]⟩) := S.out.res.cell 4; have g4 : wb.frozen? ⟨w.heap.size, 4, none⟩ = false := S.out.res.frozen 4))
  all_goals
    clear r0 r1 r2 r3 r4 g0 g1 g2 g3 g4 x0 x1 x2 x3 x4
    have r0 : wb.cell? ⟨w.heap.size, 0, none⟩ = some (.int .i64 0) := S.out.res.cell 0
    have g0 : wb.frozen? ⟨w.heap.size, 0, none⟩ = false := S.out.res.frozen 0
    have r1 : wb.cell? ⟨w.heap.size, 1, none⟩ = some (.int .i64 0) := S.out.res.cell 1
    have g1 : wb.frozen? ⟨w.heap.size, 1, none⟩ = false := S.out.res.frozen 1
    have r2 : wb.cell? ⟨w.heap.size, 2, none⟩ = some (.int .i64 0) := S.out.res.cell 2
    have g2 : wb.frozen? ⟨w.heap.size, 2, none⟩ = false := S.out.res.frozen 2
    have r3 : wb.cell? ⟨w.heap.size, 3, none⟩ = some (.string ⟨#[]⟩) := S.out.res.cell 3
    have g3 : wb.frozen? ⟨w.heap.size, 3, none⟩ = false := S.out.res.frozen 3
    have r4 : wb.cell? ⟨w.heap.size, 4, none⟩ = some (.string ⟨#[]⟩) := S.out.res.cell 4
    have g4 : wb.frozen? ⟨w.heap.size, 4, none⟩ = false := S.out.res.frozen 4
    have rl := S.out.res.lt
    have hbs := S.out.bel
    have bf : ∀ (V : World) (j : Nat) (u : Value), Below w.heap.size w V → Below w.heap.size w (V.setCell ⟨w.heap.size, j, none⟩ u) := fun V j u h => h.setCell (p := ⟨w.heap.size, j, none⟩) (Nat.le_refl _) _
    have BF := Lib.hid (bf _ 4 (.string t) (bf _ 3 (.string s) (bf _ 2 (.int .i64 b) (bf _ 1 (.int .i64 a) (bf _ 0 (.int .i64 op) hbs)))))
    clear bf hbs
    go_wp2_with fail
    refine bodyPost_ret (v := .tuple #[.agg #[.int .i64 op, .int .i64 a, .int .i64 b, .string s, .string t], .int .i64 x, .int .i64 y]) (by simp [results, Tryd.results14, go_sem, r0, r1, r2, r3, r4, rl]) rfl ⟨⟨op, a, b, s, t, x, y, h1, h2, h3, h4, h5, by omega, by omega, rfl⟩, BF.out⟩
end Go.Proofs.YtiggmjiodbbceaaDoor
