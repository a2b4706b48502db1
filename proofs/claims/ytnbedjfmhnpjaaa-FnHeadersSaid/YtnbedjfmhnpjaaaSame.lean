/-
  sameHeaders and sameOutput at two outputs that read alike: true. Conditions: none.
-/
import Derived.Test.YtnbedjfmhnpjaaaOutB
import Derived.Test.YtnbedjfmhnpjaaaDeep
import Derived.Deep.CutRange
import Derived.Deep.QuietTactic
import Derived.BigQuiet
namespace Go.Proofs.Ytnbedjfmhnpjaaa
open Go.ChangeShapes Go.WideShapes Go.ChangeAt Go.RowKit Go.Deep Go.Joins
open Go.ChangeMaps (open_string shut_string)
set_option linter.unusedVariables false
set_option linter.unusedSimpArgs false
set_option maxRecDepth 100000
set_option maxHeartbeats 2000000 in
theorem sameHeaders_same (l : List FHeader) (u v : Value) (w : World) (hl : l.length ≤ 1048576) (hu : Rd w w.heap.size 2 u l.length (FHeader.flat l)) (hv : Rd w w.heap.size 2 v l.length (FHeader.flat l)) :
    Calls Try.prog 32 #[u, v] w fun e w' => e = .returned (.bool true) ∧ Below w.heap.size w w' := by
  obtain ⟨A, c, rfl, hc1, hc2, _, hcell⟩ := hu
  obtain ⟨A', c', rfl, hc1', hc2', _, hcell'⟩ := hv
  have HC := Lib.hid hcell
  have HC' := Lib.hid hcell'
  have hn : l.length ≤ 9223372036854775807 := by omega
  clear hcell hcell' hc2 hc2'
  go_enter Try.func32, Try.ntmps32
  go_wp2
  go_loopw [5] (fun i wr => ∃ k : Nat, k ≤ l.length ∧ i = .int .i64 k ∧ Below w.heap.size w wr) (fun i _ => l.length - (intOf i).toNat)
  case atStart => exact ⟨0, Nat.zero_le _, rfl, Below.refl _ _⟩
  case round =>
    obtain ⟨k, hk, rfl, hb⟩ := hrel
    by_cases hlt : k < l.length
    · obtain ⟨x, hx⟩ : ∃ x, l[k]? = some x := ⟨_, List.getElem?_eq_getElem hlt⟩
      obtain ⟨bc, offc, rfl, hblc, hcc⟩ := Rd.at_ FHeader.len HC.out hx
      obtain ⟨bd, offd, rfl, hbld, hcd⟩ := Rd.at_ FHeader.len HC'.out hx
      have c0 : wr.cell? ⟨bc, offc + k * 2, none⟩ = some (.string x.a0) := (hb.cell hblc).trans (hcc 0 _ rfl)
      have c1 : wr.cell? ⟨bc, offc + k * 2 + 1, none⟩ = some (.string x.a1) := (hb.cell hblc).trans (hcc 1 _ rfl)
      have d0 : wr.cell? ⟨bd, offd + k * 2, none⟩ = some (.string x.a0) := (hb.cell hbld).trans (hcd 0 _ rfl)
      have d1 : wr.cell? ⟨bd, offd + k * 2 + 1, none⟩ = some (.string x.a1) := (hb.cell hbld).trans (hcd 1 _ rfl)
      have hk0 : (0 : Int) ≤ (k : Int) := by omega
      have hkl : (k : Int) < (l.length : Int) := by omega
      clear hcc hcd hx
      go_wp2_with fail
      go_quiet (fail)
      go_wp2_with fail
      go_roundw
      case rel => exact ⟨k + 1, by omega, by go_num, ⟨hb.os, hb.tape, hb.output, hb.size, hb.block⟩⟩
      case measure => simp [intOf]; omega
    · obtain rfl : k = l.length := by omega
      clear hlt
      go_wp2_with fail
      go_ret
      exact ⟨rfl, hb⟩
set_option maxHeartbeats 4000000 in
theorem sameOutput_same (o : Out) (u v : Value) (w : World) (l1 : o.heads.length ≤ 1048576) (l2 : o.bufs.length ≤ 1048576) {B : Nat} (hB : B ≤ w.heap.size) (hu : OutR w B u o) (hv : OutR w B v o) :
    Calls Try.prog 8 #[u, v] w fun e w' => e = .returned (.bool true) ∧ Below w.heap.size w w' := by
  obtain ⟨h1, b1, rfl, r1, s1⟩ := hu
  obtain ⟨h2, b2, rfl, r2, s2⟩ := hv
  obtain ⟨A1, c1, rfl⟩ := r1.form
  obtain ⟨A2, c2, rfl⟩ := s1.form
  obtain ⟨A3, c3, rfl⟩ := r2.form
  obtain ⟨A4, c4, rfl⟩ := s2.form
  have R1 := Lib.hid r1
  have R2 := Lib.hid r2
  have S1 := Lib.hid s1
  have S2 := Lib.hid s2
  clear r1 r2 s1 s2
  have hq : (o.sent.toList != o.sent.toList) = false := by simp
  have hn : o.bufs.length ≤ 9223372036854775807 := by omega
  go_enter Try.func8, Try.ntmps8
  have hB0 : Below w.heap.size w ((w.alloc (.cells #[.string o.sent, .slice A1 o.heads.length c1, .slice A2 o.bufs.length c2] 27)).alloc (.cells #[.string o.sent, .slice A3 o.heads.length c3, .slice A4 o.bufs.length c4] 27)) := ((Below.refl _ _).alloc (Nat.le_refl _) _).alloc (by simp) _
  go_wp2_with (go_at_call 32; refine (sameHeaders_same o.heads _ _ _ l1 ((R1.out.below hB0 hB).more (by simp; omega)) ((R2.out.below hB0 hB).more (by simp; omega))).mono ?_; rintro e w1 ⟨rfl, hb1⟩; have BX := Lib.hid (show Blk w1 w.heap.size 27 #[.string o.sent, .slice A1 o.heads.length c1, .slice A2 o.bufs.length c2] from ((Blk.new _ _ _).alloc _).below hb1 (Nat.le_refl _)); have BY := Lib.hid (show Blk w1 (w.heap.size + 1) 27 #[.string o.sent, .slice A3 o.heads.length c3, .slice A4 o.bufs.length c4] from (Blk.new' _ _ _ _ (by simp)).below hb1 (Nat.le_refl _)); have HB1 := Lib.hid (hB0.trans (hb1.mono (by simp; omega))); have x2 : w1.cell? ⟨w.heap.size, 2, none⟩ = some (.slice A2 o.bufs.length c2) := BX.out.cell 2; have y2 : w1.cell? ⟨w.heap.size + 1, 2, none⟩ = some (.slice A4 o.bufs.length c4) := BY.out.cell 2; clear hb1 hB0)
  go_loopw [5] (fun i wr => ∃ k : Nat, k ≤ o.bufs.length ∧ i = .int .i64 k ∧ Below w1.heap.size w1 wr) (fun i _ => o.bufs.length - (intOf i).toNat)
  case atStart => exact ⟨0, Nat.zero_le _, rfl, Below.refl _ _⟩
  case round =>
    obtain ⟨k, hk, rfl, hb⟩ := hrel
    have bx := BX.out.below hb (Nat.le_refl _)
    have by_ := BY.out.below hb (Nat.le_refl _)
    clear x2 y2
    have x2 : wr.cell? ⟨w.heap.size, 2, none⟩ = some (.slice A2 o.bufs.length c2) := bx.cell 2
    have y2 : wr.cell? ⟨w.heap.size + 1, 2, none⟩ = some (.slice A4 o.bufs.length c4) := by_.cell 2
    clear bx by_
    by_cases hlt : k < o.bufs.length
    · obtain ⟨x, hx⟩ : ∃ x, o.bufs[k]? = some x := ⟨_, List.getElem?_eq_getElem hlt⟩
      have hb0 := HB1.out.trans (hb.mono HB1.out.size)
      obtain ⟨A, c, he, hc1, hc2, _, hcell⟩ := (S1.out.below hb0 hB).more (B' := wr.heap.size) (by have := hb0.size; omega)
      obtain ⟨A', c', he', hc1', hc2', _, hcell'⟩ := (S2.out.below hb0 hB).more (B' := wr.heap.size) (by have := hb0.size; omega)
      injection he with e1 e2 e3
      subst e1 e3
      injection he' with e1 e2 e3
      subst e1 e3
      obtain ⟨bc, offc, rfl, hblc, hcc⟩ := Rd.at_ FBuffer.len hcell hx
      obtain ⟨bd, offd, rfl, hbld, hcd⟩ := Rd.at_ FBuffer.len hcell' hx
      have c0 : wr.cell? ⟨bc, offc + k * 2, none⟩ = some (.int .i64 x.a0) := hcc 0 _ rfl
      have c1 : wr.cell? ⟨bc, offc + k * 2 + 1, none⟩ = some (.string x.a1) := hcc 1 _ rfl
      have d0 : wr.cell? ⟨bd, offd + k * 2, none⟩ = some (.int .i64 x.a0) := hcd 0 _ rfl
      have d1 : wr.cell? ⟨bd, offd + k * 2 + 1, none⟩ = some (.string x.a1) := hcd 1 _ rfl
      have hk0 : (0 : Int) ≤ (k : Int) := by omega
      have hkl : (k : Int) < (o.bufs.length : Int) := by omega
      clear hcc hcd hx hcell hcell' hb0
      go_wp2_with fail
      go_quiet (fail)
      go_wp2_with fail
      go_roundw
      case rel => exact ⟨k + 1, by omega, by go_num, ⟨hb.os, hb.tape, hb.output, hb.size, hb.block⟩⟩
      case measure => simp [intOf]; omega
    · obtain rfl : k = o.bufs.length := by omega
      clear hlt
      go_wp2_with fail
      go_ret
      exact ⟨rfl, HB1.out.trans (hb.mono HB1.out.size)⟩
end Go.Proofs.Ytnbedjfmhnpjaaa
