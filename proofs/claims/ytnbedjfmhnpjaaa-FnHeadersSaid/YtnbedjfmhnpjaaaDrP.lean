/-
  DrawEcho, DrawSetHeader: some output within bounds and short strings. Conditions: none.
-/
import Derived.Test.YtnbedjfmhnpjaaaDrO
import Derived.Deep.CutBlock
namespace Go.Proofs.Ytnbedjfmhnpjaaa
open Go.ChangeShapes Go.WideShapes Go.ChangeAt Go.RowKit Go.Deep Go.Joins
open Go.ChangeMaps (open_string shut_string)
set_option linter.unusedVariables false
set_option linter.unusedSimpArgs false
set_option maxRecDepth 100000
theorem OutI.set3 {w : World} {lo hi b : Nat} {v : Value} {o : Out} (h : OutI w lo hi v o) (hb : b < lo ∨ hi ≤ b) (x y z : Value) : OutI (((w.setCell ⟨b, 0, none⟩ x).setCell ⟨b, 1, none⟩ y).setCell ⟨b, 2, none⟩ z) lo hi v o := by
  obtain ⟨hv, bv, rfl, h1, h2, h3, h4⟩ := h
  have ne1 : hv.ownBlock ≠ some b := fun e => by have := (h1.lt b e).1; have := h3 b e; omega
  have ne2 : bv.ownBlock ≠ some b := fun e => by have := (h2.lt b e).1; have := h4 b e; omega
  exact ⟨hv, bv, rfl, ownsRow_setCell_ne (ownsRow_setCell_ne (ownsRow_setCell_ne h1 x ne1) y ne1) z ne1, ownsRow_setCell_ne (ownsRow_setCell_ne (ownsRow_setCell_ne h2 x ne2) y ne2) z ne2, h3, h4⟩
/-- The output o lies in the variable in block b; block r keeps the place of the result; its rows lie in [lo, hi). -/
structure DrG (w : World) (g B r b lo hi : Nat) (A1 : Option Addr) (c1 : Nat) (A2 : Option Addr) (c2 : Nat) (o : Out) (X : World) : Prop where
  cur : Cur X g B
  onl : Below w.heap.size w X
  res : Blk X r 27 #[.string ⟨#[]⟩, .slice none 0 0, .slice none 0 0]
  blk : Blk X b 27 #[.string o.sent, .slice A1 o.heads.length c1, .slice A2 o.bufs.length c2]
  own : OutI X lo hi (.agg #[.string o.sent, .slice A1 o.heads.length c1, .slice A2 o.bufs.length c2]) o
  tiny : o.tiny
  gl : g < lo
  rl : r < lo
  bl : b < lo ∨ hi ≤ b
  gr : g ≠ r
  gb : g ≠ b
  rb : r ≠ b
  gw : w.heap.size ≤ g
  rw_ : w.heap.size ≤ r
  bw : w.heap.size ≤ b
  Bw : B ≤ w.heap.size
section
variable {w X X' : World} {g B r b lo hi c1 c2 c3 c4 : Nat} {A1 A2 A3 A4 : Option Addr} {o o2 : Out}
theorem DrG.only (h : DrG w g B r b lo hi A1 c1 A2 c2 o X) (hc : Cur X' g B) (ho : Only g (g + 1) X.heap.size X X') : DrG w g B r b lo hi A1 c1 A2 c2 o X' := by
  have h1 := h.gr
  have h2 := h.gb
  have h3 := h.gl
  exact ⟨hc, h.onl.trans (ho.below (B := w.heap.size) h.gw h.onl.size), h.res.only ho (Nat.le_refl _) (by omega), h.blk.only ho (Nat.le_refl _) (by omega), h.own.only ho (Nat.le_refl _) (.inr (by omega)), h.tiny, h.gl, h.rl, h.bl, h.gr, h.gb, h.rb, h.gw, h.rw_, h.bw, h.Bw⟩
theorem DrG.below (h : DrG w g B r b lo hi A1 c1 A2 c2 o X) (hb : Below X.heap.size X X') : DrG w g B r b lo hi A1 c1 A2 c2 o X' := h.only (h.cur.below hb) (only_of_below hb)
theorem DrG.drew (h : DrG w g B r b lo hi A1 c1 A2 c2 o X) : DrG w g B r b lo hi A1 c1 A2 c2 o X.drew := h.below (Below.refl _ _).drew
theorem DrG.put (h : DrG w g B r b lo hi A1 c1 A2 c2 o X) (M : Nat) (hM : g < M ∧ r < M ∧ b < M) (ho : OutO X M (.agg #[.string o2.sent, .slice A3 o2.heads.length c3, .slice A4 o2.bufs.length c4]) o2) (ht : o2.tiny) :
    DrG w g B r b M X.heap.size A3 c3 A4 c4 o2 (((X.setCell ⟨b, 0, none⟩ (.string o2.sent)).setCell ⟨b, 1, none⟩ (.slice A3 o2.heads.length c3)).setCell ⟨b, 2, none⟩ (.slice A4 o2.bufs.length c4)) := by
  have h1 := h.gb
  have h2 := h.rb
  have h3 := h.bw
  have h4 := h.Bw
  refine ⟨?_, ?_, ?_, ?_, ?_, ht, hM.1, hM.2.1, .inl hM.2.2, h.gr, h.gb, h.rb, h.gw, h.rw_, h.bw, h.Bw⟩
  · exact ((h.cur.far (by show b ≠ g; omega) (by show B ≤ b; omega) _).far (by show b ≠ g; omega) (by show B ≤ b; omega) _).far (by show b ≠ g; omega) (by show B ≤ b; omega) _
  · exact ((h.onl.setCell (p := ⟨b, 0, none⟩) h3 _).setCell (p := ⟨b, 1, none⟩) h3 _).setCell (p := ⟨b, 2, none⟩) h3 _
  · exact ((h.res.far (by show r ≠ b; omega) _).far (by show r ≠ b; omega) _).far (by show r ≠ b; omega) _
  · exact ((h.blk.set_ 0 _).set_ 1 _).set_ 2 _
  · exact ho.inI.set3 (.inl hM.2.2) _ _ _
theorem DrG.out (h : DrG w g B r b lo hi A1 c1 A2 c2 o X) (x y z : Value) :
    OutO (((X.setCell ⟨r, 0, none⟩ x).setCell ⟨r, 1, none⟩ y).setCell ⟨r, 2, none⟩ z) lo (.agg #[.string o.sent, .slice A1 o.heads.length c1, .slice A2 o.bufs.length c2]) o ∧ Below w.heap.size w (((X.setCell ⟨r, 0, none⟩ x).setCell ⟨r, 1, none⟩ y).setCell ⟨r, 2, none⟩ z) :=
  ⟨(h.own.set3 (.inl h.rl) _ _ _).inO, ((h.onl.setCell (p := ⟨r, 0, none⟩) h.rw_ _).setCell (p := ⟨r, 1, none⟩) h.rw_ _).setCell (p := ⟨r, 2, none⟩) h.rw_ _⟩
end
set_option maxHeartbeats 2000000 in
theorem DrawEcho_any (A : Option Addr) (n c : Nat) (w : World) (hy : Byts w w.heap.size A n) : Calls Try.prog 11 #[.slice A n c] w fun e w' => (∃ (o : Out) (u : Value) (s : ByteArray), o.tiny ∧ s.size ≤ 100 ∧ e = .returned (.tuple #[u, .string s]) ∧ OutO w' w.heap.size u o) ∧ Below w.heap.size w w' := by
  have HY := Lib.hid hy
  clear hy
  go_enter Try.func11, Try.ntmps11
  go_upto_region 2 with (go_at_call 20; refine (l1New_any A n c w.heap.size _ (by simp) (HY.out.keep fun b o hb => World.cell?_alloc_old _ _ _ (by show b ≠ _; omega))).mono ?_; rintro e w1 ⟨rfl, hc1, hb1⟩)
  have BZ := Lib.hid ((Blk.new w 27 #[.string ⟨#[]⟩, .slice none 0 0, .slice none 0 0]).below hb1 (Nat.le_refl _))
  have HB1 := Lib.hid (((Below.refl w.heap.size w).alloc (Nat.le_refl _) (.cells #[.string ⟨#[]⟩, .slice none 0 0, .slice none 0 0] 27)).trans (hb1.mono (by simp)))
  clear hb1
  have hge : (w.alloc (.cells #[.string ⟨#[]⟩, .slice none 0 0, .slice none 0 0] 27)).heap.size = w.heap.size + 1 := by simp
  rw [hge] at hc1
  clear hge
  have hg : w.heap.size < w.heap.size + 1 := by omega
  generalize w.heap.size + 1 = g at *
  go_wp2_with (first
    | (go_at_call 21; refine (l20Draw_any g w.heap.size w1 hc1).mono ?_; rintro e w2 ⟨⟨o, u, ht, rfl, own⟩, hc2, ho2⟩; have hl1 := hc1.lt; have hrl : w.heap.size < w1.heap.size := BZ.out.lt; obtain ⟨A1, c1, A2, c2, rfl⟩ := own.form; have BZ2 := Lib.hid (BZ.out.only ho2 (Nat.le_refl _) (.inl hg)); have HB2 := Lib.hid (HB1.out.trans (ho2.below (B := w.heap.size) (by omega) (by omega))); have hs1 := ho2.size; have OWN := Lib.hid own; clear own ho2 BZ HB1)
    | (go_at_call 26; refine (l4Text_any g w.heap.size w2 hc2).mono ?_; rintro e w3 ⟨⟨s, hs, rfl⟩, hc3, ho3⟩; have hl2 := hc2.lt; have OWN3 := Lib.hid (OWN.out.only ho3 (Nat.le_refl _) (by omega)); have HB3 := Lib.hid (HB2.out.trans (ho3.below (B := w.heap.size) (by omega) (by omega))); have BZ3 := Lib.hid (BZ2.out.only ho3 (Nat.le_refl _) (.inl hg)); have r0 : w3.cell? ⟨w.heap.size, 0, none⟩ = some (.string ⟨#[]⟩) := BZ3.out.cell 0; have r1 : w3.cell? ⟨w.heap.size, 1, none⟩ = some (.slice none 0 0) := BZ3.out.cell 1; have r2 : w3.cell? ⟨w.heap.size, 2, none⟩ = some (.slice none 0 0) := BZ3.out.cell 2; have g0 : w3.frozen? ⟨w.heap.size, 0, none⟩ = false := BZ3.out.frozen 0; have g1 : w3.frozen? ⟨w.heap.size, 1, none⟩ = false := BZ3.out.frozen 1; have g2 : w3.frozen? ⟨w.heap.size, 2, none⟩ = false := BZ3.out.frozen 2; have rl := BZ3.out.lt; clear ho3 OWN HB2 BZ2))
  refine bodyPost_ret (v := .tuple #[.agg #[.string o.sent, .slice A1 o.heads.length c1, .slice A2 o.bufs.length c2], .string s]) (by simp [results, Try.results11, go_sem, r0, r1, r2, g0, g1, g2, rl]) rfl ⟨⟨o, _, s, ht, hs, rfl, ?_⟩, ?_⟩
  · exact (OWN3.out.le (C := w.heap.size + 1) (by omega) |>.set3 (by omega) _ _ _).le (by omega)
  · exact ((HB3.out.setCell (p := ⟨w.heap.size, 0, none⟩) (Nat.le_refl _) _).setCell (p := ⟨w.heap.size, 1, none⟩) (Nat.le_refl _) _).setCell (p := ⟨w.heap.size, 2, none⟩) (Nat.le_refl _) _
set_option maxHeartbeats 1000000 in
theorem at1_any (A : Option Addr) (n c : Nat) (w : World) (hn : n ≤ 1048576) (hy : Byts w w.heap.size A n) : Calls Try.prog 12 #[.slice A n c, .int .i64 1] w fun e w' => (∃ z : Int, 0 ≤ z ∧ z ≤ 255 ∧ e = .returned (.int .i64 z)) ∧ w = w' := by
  by_cases h1 : 1 < n
  · obtain ⟨b, o, rfl, hb, hc⟩ := hy.2 (by omega)
    obtain ⟨x, hx, c1⟩ := hc 1 h1
    clear hc hy
    have d1 : decide ((1 : Int) < (n : Int)) = true := by simp; omega
    have hx0 : (0 : Int) ≤ (x : Int) := by omega
    have hx1 : (x : Int) ≤ 255 := by omega
    go_enter Try.func12, Try.ntmps12
    go_wp2
    go_ret
    exact ⟨⟨_, by omega, by omega, rfl⟩, rfl⟩
  · have d1 : ¬ (1 : Int) < (n : Int) := by omega
    have d2 : decide ((1 : Int) < (n : Int)) = false := by simp; omega
    clear hy
    go_enter Try.func12, Try.ntmps12
    go_wp2
    go_ret
    exact ⟨⟨_, by omega, by omega, rfl⟩, rfl⟩
end Go.Proofs.Ytnbedjfmhnpjaaa
