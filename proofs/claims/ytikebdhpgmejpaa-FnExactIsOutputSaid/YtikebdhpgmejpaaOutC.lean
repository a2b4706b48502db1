/-
  BufferText of both packages returns what one Lean function says. Conditions: none.
-/
import Derived.Test.YtikebdhpgmejpaaOutB
namespace Go.Proofs.Ytikebdhpgmejpaa
open Go.ChangeShapes Go.WideShapes Go.ChangeAt Go.RowKit Go.Deep Go.Joins
open Go.ChangeMaps (open_string shut_string)
set_option linter.unusedVariables false
set_option maxRecDepth 100000

def btS (o : Out) : ByteArray := match o.bufs[o.bufs.length - 1]? with | some b => b.a1 | none => ByteArray.empty
def btB (o : Out) : Bool := !o.bufs.isEmpty
theorem btext_spec (o : Out) (v : Value) (w : World) {B : Nat} (hB : B ≤ w.heap.size) (hr : OutR w B v o) (hl : o.bufs.length ≤ 1048576) :
    Calls Try.prog 14 #[v] w fun e w' => e = .returned (.tuple #[.string (btS o), .bool (btB o)]) ∧ Below w.heap.size w w' := by
  obtain ⟨h1, b1, rfl, r1, r2⟩ := hr
  obtain ⟨A1, c1, rfl⟩ := r1.form
  obtain ⟨A2, c2, rfl, q1, q2, q3, hcell⟩ := r2
  clear r1
  by_cases h0 : o.bufs.length = 0
  · have hz : ((o.bufs.length : Int) == 0) = true := by rw [h0]; rfl
    have he : o.bufs = [] := List.eq_nil_of_length_eq_zero h0
    have HS := Lib.hid (show btS o = ByteArray.empty by unfold btS; rw [he]; rfl)
    have HB := Lib.hid (show btB o = false by unfold btB; rw [he]; rfl)
    clear hcell h0 he q3
    go_enter Try.func14, Try.ntmps14
    go_wp2_with fail
    go_ret2
    rw [HS.out, HB.out]
    exact ⟨rfl, (Below.refl _ _).alloc (Nat.le_refl _) _⟩
  · have hz : ((o.bufs.length : Int) == 0) = false := by rw [beq_eq_false_iff_ne]; omega
    obtain ⟨x, hx⟩ : ∃ x, o.bufs[o.bufs.length - 1]? = some x := ⟨_, List.getElem?_eq_getElem (by omega)⟩
    obtain ⟨b, off, rfl, hb, hc⟩ := Rd.at_ FBuffer.len hcell hx
    have hne : o.bufs.isEmpty = false := by cases h : o.bufs with | nil => rw [h] at h0; exact absurd rfl h0 | cons a r => rfl
    have c1 : w.cell? ⟨b, off + (o.bufs.length - 1) * 2 + 1, none⟩ = some (.string x.a1) := hc 1 _ rfl
    have HS := Lib.hid (show btS o = x.a1 by unfold btS; rw [hx])
    have HB := Lib.hid (show btB o = true by unfold btB; rw [hne]; rfl)
    have hpos : 0 < o.bufs.length := by omega
    have hbw : b < w.heap.size := by omega
    clear hcell hc hx hne q3
    go_enter Try.func14, Try.ntmps14
    go_wp2_with fail
    go_ret2
    rw [HS.out, HB.out]
    exact ⟨rfl, (Below.refl _ _).alloc (Nat.le_refl _) _⟩
theorem btext_impl (o : Out) (v : Value) (w : World) {B : Nat} (hB : B ≤ w.heap.size) (hr : OutR w B v o) (hl : o.bufs.length ≤ 1048576) :
    Calls Try.prog 16 #[v] w fun e w' => e = .returned (.tuple #[.string (btS o), .bool (btB o)]) ∧ Below w.heap.size w w' := by
  obtain ⟨h1, b1, rfl, r1, r2⟩ := hr
  obtain ⟨A1, c1, rfl⟩ := r1.form
  obtain ⟨A2, c2, rfl, q1, q2, q3, hcell⟩ := r2
  clear r1
  by_cases h0 : o.bufs.length = 0
  · have hz : ((o.bufs.length : Int) - 1) < 0 := by omega
    have he : o.bufs = [] := List.eq_nil_of_length_eq_zero h0
    have HS := Lib.hid (show btS o = ByteArray.empty by unfold btS; rw [he]; rfl)
    have HB := Lib.hid (show btB o = false by unfold btB; rw [he]; rfl)
    clear hcell h0 he q3
    go_enter Try.func16, Try.ntmps16
    go_wp2_with fail
    go_ret2
    rw [HS.out, HB.out]
    exact ⟨rfl, (Below.refl _ _).alloc (Nat.le_refl _) _⟩
  · obtain ⟨x, hx⟩ : ∃ x, o.bufs[o.bufs.length - 1]? = some x := ⟨_, List.getElem?_eq_getElem (by omega)⟩
    obtain ⟨b, off, rfl, hb, hc⟩ := Rd.at_ FBuffer.len hcell hx
    have hne : o.bufs.isEmpty = false := by cases h : o.bufs with | nil => rw [h] at h0; exact absurd rfl h0 | cons a r => rfl
    have c1 : w.cell? ⟨b, off + (o.bufs.length - 1) * 2 + 1, none⟩ = some (.string x.a1) := hc 1 _ rfl
    have HS := Lib.hid (show btS o = x.a1 by unfold btS; rw [hx])
    have HB := Lib.hid (show btB o = true by unfold btB; rw [hne]; rfl)
    have hpos : 0 < o.bufs.length := by omega
    have hbw : b < w.heap.size := by omega
    clear hcell hc hx hne q3
    go_enter Try.func16, Try.ntmps16
    go_wp2_with fail
    go_ret2
    rw [HS.out, HB.out]
    exact ⟨rfl, (Below.refl _ _).alloc (Nat.le_refl _) _⟩

theorem three_of {l : List Value} (h : l.length = 3) : ∃ c0 c1 c2, l = [c0, c1, c2] := by
  match l, h with
  | [c0, c1, c2], _ => exact ⟨c0, c1, c2, rfl⟩
theorem small_of_wt {o : Out} (h : ((o.wt : Nat) : Int) ≤ 1048576) : o.small := by unfold Out.wt at h; unfold Out.small; omega
section
variable {H : Type} {enc : TypeId × Value → H}
theorem open_output {W : World} {base : Nat} {v0 : Value} {d0 : DataW H} {p0 : List MemPlace} (k0 : Value.okWide Try.prog W .any base 25 v0) (h0 : DataW.Trod enc Try.prog W 0 (fun _ => true) true 25 v0 d0 p0) :
    ∃ o, OutR W W.heap.size v0 o ∧ o.ok := by
  obtain ⟨l, n, rfl, hl, hf⟩ := open_aggT (k := 3) (by kernel_rfl) (by kernel_rfl) (by kernel_rfl) (by kernel_rfl) k0 h0
  obtain ⟨u0, y0, e0, t0⟩ := hf 0 9 (by kernel_rfl)
  obtain ⟨u1, y1, e1, t1⟩ := hf 1 22 (by kernel_rfl)
  obtain ⟨u2, y2, e2, t2⟩ := hf 2 23 (by kernel_rfl)
  obtain ⟨s, q0, _, w0⟩ := DataW.trod_string Try.underlying9 t0
  obtain ⟨v1, hs, q1, r1, ok1⟩ := open_HeaderS t1
  obtain ⟨v2, bs, q2, r2, ok2⟩ := open_BufferS t2
  obtain ⟨c0, c1, c2, rfl⟩ := three_of hl
  simp at e0 e1 e2 q0 q1 q2
  subst e0 e1 e2 q0 q1 q2
  exact ⟨⟨s, hs, bs⟩, ⟨_, _, rfl, r1, r2⟩, by unfold maxLen at w0; exact w0, ok1, ok2⟩
theorem fnExactBufferText_walk (W : World) (base : Nat) (v0 : Value) {d0 : DataW H} {p0 : List MemPlace} (k0 : Value.okWide Try.prog W .any base 25 v0) (h0 : DataW.Trod enc Try.prog W 0 (fun _ => true) true 25 v0 d0 p0) :
    Calls Try.prog 3 #[v0] W fun e w' => e = .returned (.bool true) ∧ Below W.heap.size W w' := by
  obtain ⟨o, hr, hok⟩ := open_output k0 h0
  clear k0 h0
  obtain ⟨vh, vb, rfl, r1, r2⟩ := hr
  obtain ⟨A1, c1, rfl⟩ := r1.form
  obtain ⟨A2, c2, rfl⟩ := r2.form
  have HR := Lib.hid (show OutR W W.heap.size (.agg #[.string o.sent, .slice A1 o.heads.length c1, .slice A2 o.bufs.length c2]) o from ⟨_, _, rfl, r1, r2⟩)
  have HOK := Lib.hid hok
  clear r1 r2 hok
  by_cases hn : ((o.wt : Nat) : Int) ≤ 1048576
  · have hsm := small_of_wt hn
    have hlb : o.bufs.length ≤ 1048576 := by unfold Out.small at hsm; omega
    have HS := Lib.hid hsm
    have HP := Lib.hid (bud_pos hn)
    have hp : 0 ≤ bud 1048576 o.wt := by rw [HP.out]; omega
    clear hsm
    go_enter Try.func3, Try.ntmps3
    go_wp2_with fail
    refine (szOutput_any o _ _ _ HOK.out (by omega) (by omega) (B := W.heap.size) (by simp) (HR.out.below ((Below.refl _ _).alloc (Nat.le_refl _) _) (Nat.le_refl _))).mono ?_
    rintro e w1 ⟨rfl, hb1⟩
    obtain ⟨hc1, hf1⟩ := bcell hb1
    have hz1 := hb1.size
    simp at hz1
    have hB1 : Below W.heap.size W w1 := ((Below.refl _ _).alloc (Nat.le_refl _) _).trans (hb1.mono (by simp))
    go_wp2_with fail
    refine (toOutput_any o _ _ HS.out (B := W.heap.size) (by omega) (HR.out.below hB1 (Nat.le_refl _))).mono ?_
    rintro e w2 ⟨u2, rfl, own2, hb2⟩
    obtain ⟨A3, c3, A4, c4, rfl⟩ := own2.form
    have O2 := Lib.hid own2
    have hz2 := hb2.size
    have hB2 : Below (W.heap.size + 1) w1 w2 := hb2.mono hz1
    clear own2
    go_wp2_with fail
    refine (btext_spec o _ _ (B := w2.heap.size) (Nat.le_refl _) O2.out.reads hlb).mono ?_
    rintro e w3 ⟨rfl, hb3⟩
    have hz3 := hb3.size
    have hB3 : Below (W.heap.size + 1) w1 w3 := hB2.trans (hb3.mono (by omega))
    obtain ⟨hc3, hf3⟩ := bcell hB3
    go_wp2_with fail
    refine (toOutput_any o _ _ HS.out (B := W.heap.size) (by omega) (HR.out.below (hB1.trans (hB3.mono (by omega))) (Nat.le_refl _))).mono ?_
    rintro e w4 ⟨u4, rfl, own4, hb4⟩
    obtain ⟨A5, c5, A6, c6, rfl⟩ := own4.form
    have O4 := Lib.hid own4
    have hz4 := hb4.size
    have hB4 : Below (W.heap.size + 1) w1 w4 := hB3.trans (hb4.mono (by omega))
    obtain ⟨hc4, hf4⟩ := bcell hB4
    clear own4 hc3 hf3
    go_wp2_with fail
    refine (btext_impl o _ _ (B := w4.heap.size) (by simp) (O4.out.reads.below ((Below.refl _ _).alloc (Nat.le_refl _) _) (Nat.le_refl _)) hlb).mono ?_
    rintro e w5 ⟨rfl, hb5⟩
    have hz5 := hb5.size
    simp at hz5
    obtain ⟨hc5, hf5⟩ := bcell hb5
    have x0 : w5.cell? ⟨w4.heap.size, 0, none⟩ = some (.string o.sent) := by rw [hc5 _ _ (by simp)]; exact World.cell?_alloc_new _ _ _ _
    have x1 : w5.cell? ⟨w4.heap.size, 1, none⟩ = some (.slice A5 o.heads.length c5) := by rw [hc5 _ _ (by simp)]; exact World.cell?_alloc_new _ _ _ _
    have x2 : w5.cell? ⟨w4.heap.size, 2, none⟩ = some (.slice A6 o.bufs.length c6) := by rw [hc5 _ _ (by simp)]; exact World.cell?_alloc_new _ _ _ _
    have hB5 : Below (W.heap.size + 1) w1 w5 := (hB4.alloc (by omega) _).trans (hb5.mono (by simp; omega))
    have y0 : w5.cell? ⟨W.heap.size, 0, none⟩ = some (.string o.sent) := by rw [(bcell hB5).1 _ _ (by omega), hc1 _ _ (by simp)]; exact World.cell?_alloc_new _ _ _ _
    have y1 : w5.cell? ⟨W.heap.size, 1, none⟩ = some (.slice A1 o.heads.length c1) := by rw [(bcell hB5).1 _ _ (by omega), hc1 _ _ (by simp)]; exact World.cell?_alloc_new _ _ _ _
    have y2 : w5.cell? ⟨W.heap.size, 2, none⟩ = some (.slice A2 o.bufs.length c2) := by rw [(bcell hB5).1 _ _ (by omega), hc1 _ _ (by simp)]; exact World.cell?_alloc_new _ _ _ _
    go_wp2_with fail
    clear hc1 hf1 hc4 hf4 hc5 hf5
    have hB5' : Below W.heap.size W w5 := hB1.trans (hB5.mono (by omega))
    have O4' := Lib.hid (O4.out.reads.below ((Below.refl w4.heap.size w4).alloc (Nat.le_refl _) (.cells #[.string o.sent, .slice A5 o.heads.length c5, .slice A6 o.bufs.length c6] 32) |>.trans (hb5.mono (by simp))) (Nat.le_refl _))
    have s1 : W.heap.size ≤ w5.drew.heap.size := hB5'.size
    have S2 := Lib.hid (show OutR w5.drew W.heap.size _ o from (HR.out.below hB5' (Nat.le_refl _)).keep fun _ _ => rfl)
    go_region_held3 (fun w' => w'.cell? ⟨w4.heap.size, 0, none⟩ = some (.string o.sent) ∧ w'.cell? ⟨w4.heap.size, 1, none⟩ = some (.slice A5 o.heads.length c5) ∧ w'.cell? ⟨w4.heap.size, 2, none⟩ = some (.slice A6 o.bufs.length c6) ∧ w'.cell? ⟨W.heap.size, 0, none⟩ = some (.string o.sent) ∧ w'.cell? ⟨W.heap.size, 1, none⟩ = some (.slice A1 o.heads.length c1) ∧ w'.cell? ⟨W.heap.size, 2, none⟩ = some (.slice A2 o.bufs.length c2) ∧ Below w5.heap.size w5 w')
      (first
        | exact ⟨x0, x1, x2, y0, y1, y2, (Below.refl _ _).drew⟩
        | exact ⟨((bcell hb6).1 _ _ (by simp; omega)).trans x0, ((bcell hb6).1 _ _ (by simp; omega)).trans x1, ((bcell hb6).1 _ _ (by simp; omega)).trans x2, ((bcell hb6).1 _ _ (by simp; omega)).trans y0, ((bcell hb6).1 _ _ (by simp; omega)).trans y1, ((bcell hb6).1 _ _ (by simp; omega)).trans y2, (Below.refl w5.heap.size w5).drew.trans (hb6.mono (by simp))⟩
        | exact ⟨((bcell hb7).1 _ _ (by omega)).trans (((bcell zb).1 _ _ (by omega)).trans x0), ((bcell hb7).1 _ _ (by omega)).trans (((bcell zb).1 _ _ (by omega)).trans x1), ((bcell hb7).1 _ _ (by omega)).trans (((bcell zb).1 _ _ (by omega)).trans x2), ((bcell hb7).1 _ _ (by omega)).trans (((bcell zb).1 _ _ (by omega)).trans y0), ((bcell hb7).1 _ _ (by omega)).trans (((bcell zb).1 _ _ (by omega)).trans y1), ((bcell hb7).1 _ _ (by omega)).trans (((bcell zb).1 _ _ (by omega)).trans y2), zb.trans (hb7.mono zb.size)⟩)
      ((first
        | (go_at_call 15
           refine (toOutput_any o _ _ HS.out s1 S2.out).mono ?_
           rintro e w6 ⟨u6, rfl, own6, hb6⟩
           obtain ⟨A7, c7, A8, c8, rfl⟩ := own6.form
           have O6 := Lib.hid own6
           clear own6)
        | (go_at_call 17
           have zb : Below w5.heap.size w5 w6 := (Below.refl w5.heap.size w5).drew.trans (hb6.mono (by simp))
           have zs := zb.size
           have E1 := Lib.hid ((O4'.out.below zb (by omega)).more (C := w6.heap.size) (by omega))
           have E2 := Lib.hid O6.out.reads
           refine (eqOutput_same o _ _ _ HS.out (Nat.le_refl _) E1.out E2.out).mono ?_
           rintro e w7 ⟨rfl, hb7⟩)))
    go_wp2_with fail
    go_ret
    exact ⟨rfl, (hB5'.trans (zb.mono (by omega))).trans (hb7.mono (by have := zb.size; omega))⟩
  · have HP := Lib.hid (bud_neg hn)
    have hp : bud 1048576 o.wt < 0 := by rw [HP.out]; omega
    go_enter Try.func3, Try.ntmps3
    go_wp2_with fail
    refine (szOutput_any o _ _ _ HOK.out (by omega) (by omega) (B := W.heap.size) (by simp) (HR.out.below ((Below.refl _ _).alloc (Nat.le_refl _) _) (Nat.le_refl _))).mono ?_
    rintro e w1 ⟨rfl, hb1⟩
    go_wp2_with fail
    go_ret
    exact ⟨rfl, ((Below.refl _ _).alloc (Nat.le_refl _) _).trans (hb1.mono (by simp))⟩
end
end Go.Proofs.Ytikebdhpgmejpaa
