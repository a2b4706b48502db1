/-
  The law 'FnExactFindField' returns true for every input and leaves its arguments as they read. Conditions: none.
-/
import Derived.Test.YtphcpllafddpfaaFindDI
import Derived.Test.YtphcpllafddpfaaFindDS
import Derived.Test.YtphcpllafddpfaaToC
import Derived.Test.YtphcpllafddpfaaSzC
import Derived.Test.YtphcpllafddpfaaEqC
import Derived.Test.YtphcpllafddpfaaMkC
namespace Go.Proofs.Ytphcpllafddpfaa
open Go.ChangeShapes Go.WideShapes Go.ChangeAt Go.RowKit Go.Deep Go.Joins
open Go.ChangeMaps (open_string shut_string)
set_option linter.unusedVariables false
set_option linter.unusedSimpArgs false
set_option maxRecDepth 100000

set_option maxHeartbeats 4000000 in
theorem fnExactFindField_walk {H : Type} {enc : TypeId × Value → H} (W : World) (base : Nat) (v0 v1 v2 : Value) {d0 : DataW H} {p0 : List MemPlace} {d1 : DataW H} {p1 : List MemPlace} {d2 : DataW H} {p2 : List MemPlace}
    (k0 : Value.okWide Try.prog W .any base 22 v0) (k1 : Value.okWide Try.prog W .any base 9 v1) (k2 : Value.okWide Try.prog W .any base 9 v2)
    (h0 : DataW.Trod enc Try.prog W 0 (fun _ => true) true 22 v0 d0 p0) (h1 : DataW.Trod enc Try.prog W 0 (fun _ => true) true 9 v1 d1 p1) (h2 : DataW.Trod enc Try.prog W 0 (fun _ => true) true 9 v2 d2 p2) :
    Calls Try.prog 5 #[v0, v1, v2] W fun e w' => e = .returned (.bool true) ∧ Below W.heap.size W w' := by
  obtain ⟨A0, le0, c0, rfl⟩ := okWide_slice Try.underlying22 k0
  obtain ⟨fu0, hfu0⟩ := h0
  obtain ⟨v0, l0, ev0, r0, ok0⟩ := open_deep (ok := FClass.ok) 53 FClass.len (by omega) Try.underlying22 (by kernel_rfl) (fun m cs1 y1 _ h1 => read_Class m cs1 y1 h1) hfu0
  obtain rfl : Value.slice A0 le0 c0 = v0 := by simpa [Value.cells] using ev0
  obtain ⟨A0', c0', ef0⟩ := r0.form
  simp only [Value.slice.injEq] at ef0
  obtain ⟨rfl, rfl, rfl⟩ := ef0
  have R0 := Lib.hid r0
  have OK0 := Lib.hid (FClass.oks_of l0 ok0)
  clear r0 ok0 ev0 hfu0 k0
  obtain ⟨n1, rfl, rfl, rfl, sz1⟩ := open_string Try.underlying9 k1 h1
  unfold maxLen at sz1
  clear k1 h1
  obtain ⟨n2, rfl, rfl, rfl, sz2⟩ := open_string Try.underlying9 k2 h2
  unfold maxLen at sz2
  clear k2 h2
  have R := R0
  have OK := OK0
  clear R0 OK0
  by_cases big1 : (1048576 : Int) < (n1.size : Int)
  case pos =>
    go_enter Try.func5, Try.ntmps5
    go_wp2_with fail
    go_ret
    exact ⟨rfl, Below.refl _ _⟩
  by_cases big2 : (1048576 : Int) < (n2.size : Int)
  case pos =>
    go_enter Try.func5, Try.ntmps5
    go_wp2_with fail
    go_ret
    exact ⟨rfl, Below.refl _ _⟩
  by_cases hn : (((l0.length + FClass.wts l0) : Nat) : Int) ≤ 1048576
  case neg =>
    have HP := Lib.hid (bud_neg hn)
    have hp : bud 1048576 (l0.length + FClass.wts l0) < 0 := by rw [HP.out]; omega
    go_enter Try.func5, Try.ntmps5
    go_wp2_with fail
    have hB0 := Below.refl W.heap.size W
    refine (szClassS_any l0 OK.out _ _ _ W.heap.size (by omega) (by omega) (by omega) (R.out.below hB0 (Nat.le_refl _))).mono ?_
    rintro e w1 ⟨rfl, hb⟩
    have hB := hB0.trans (hb.mono (by omega))
    go_wp2_with fail
    go_ret
    exact ⟨rfl, hB⟩
  have hw : (l0.length + FClass.wts l0) ≤ 1048576 := by omega
  have HWx := Lib.hid (show (l0.length + FClass.wts l0) ≤ 1000000000 by omega)
  have HP := Lib.hid (bud_pos hn)
  have hp : 0 ≤ bud 1048576 (l0.length + FClass.wts l0) := by rw [HP.out]; omega
  clear HP
  generalize hg0 : ffB l0 n1 n2 = gb at *
  have HG0 := Lib.hid hg0
  clear hg0
  have hqw0 : (ffQ l0 n1 n2).wt ≤ 1000000000 := (by have := ffQ_wt l0 n1 n2; omega)
  have hqc0 := cntb_Field (ffQ l0 n1 n2)
  generalize hq0 : ffQ l0 n1 n2 = q0 at *
  have HQ0 := Lib.hid hq0
  clear hq0
  obtain ⟨y0_0, y0_1, y0_2, ⟨y0_3, y0_4, y0_5, y0_6, y0_7⟩⟩ := q0
  have HW0 := Lib.hid hqw0
  have hxc := cntb_ClassS l0
  obtain ⟨kx, hskx⟩ : ∃ k : Int, k = 1 + (cntL (FClass.flat l0) : Int) := ⟨_, rfl⟩
  have hkkx : kx = 1 + (cntL (FClass.flat l0) : Int) := hskx
  have npkx : 1 ≤ kx := by omega
  have nkkx : ¬ kx < 0 := by omega
  have dkkx : decide (kx < 0) = false := by simpa using nkkx
  have nbkx : kx ≤ 1000000000000 := by omega
  have HSkx := Lib.hid hskx
  have HKkx := Lib.hid hkkx
  clear hskx hkkx
  obtain ⟨m0, hsm0⟩ : ∃ k : Int, k = 1 + (scnt (FField.c ⟨y0_0, y0_1, y0_2, ⟨y0_3, y0_4, y0_5, y0_6, y0_7⟩⟩) : Int) := ⟨_, rfl⟩
  have hkm0 : m0 = 1 + (scnt (FField.c ⟨y0_0, y0_1, y0_2, ⟨y0_3, y0_4, y0_5, y0_6, y0_7⟩⟩) : Int) := hsm0
  have npm0 : 1 ≤ m0 := by omega
  have nkm0 : ¬ m0 < 0 := by omega
  have dkm0 : decide (m0 < 0) = false := by simpa using nkm0
  have nbm0 : m0 ≤ 1000000000000 := by omega
  have HSm0 := Lib.hid hsm0
  have HKm0 := Lib.hid hkm0
  clear hsm0 hkm0
  go_enter Try.func5, Try.ntmps5
  go_wp2_with fail
  have hB0 := Below.refl W.heap.size W
  refine (szClassS_any l0 OK.out _ _ _ W.heap.size (by omega) (by omega) (by omega) (R.out.below hB0 (Nat.le_refl _))).mono ?_
  clear hB0
  rintro e w1 ⟨rfl, hb⟩
  have hB := hb
  have s1 : W.heap.size ≤ w1.heap.size := hb.size
  clear hb
  go_wp2_with fail
  refine (toClassS_any l0 hw _ _ W.heap.size (by omega) (R.out.below hB (Nat.le_refl _))).mono ?_
  rintro e w2 ⟨U0, Uc0, rfl, own, hb⟩
  replace hB := hB.trans (hb.mono (by omega))
  have s2 : w1.heap.size ≤ w2.heap.size := hb.size
  clear hb
  have iu := own
  clear own
  go_wp2_with fail
  refine (FindField_spec l0 n1 n2 _ _ (by omega) (B := w2.heap.size) (Nat.le_refl _) iu.read).mono ?_
  rw [HG0.out]
  rw [HQ0.out]
  rw [FField.c_eq]
  rintro e w3 ⟨us0, rfl, own0, hb⟩
  replace iu := iu.below hb (Nat.le_refl _)
  replace hB := hB.trans (hb.mono (by omega))
  have s3 : w2.heap.size ≤ w3.heap.size := hb.size
  clear hb
  have hv := own0.vs
  obtain ⟨us_0, rfl, hv_0⟩ := hv.unv
  obtain ⟨us_1, rfl, hv_1⟩ := hv_0.unv
  obtain ⟨us_2, rfl, hv_2⟩ := hv_1.unv
  obtain ⟨us_3, rfl, hv_3⟩ := hv_2.unv
  obtain ⟨us_4, rfl, hv_4⟩ := hv_3.unv
  obtain ⟨us_5, rfl, hv_5⟩ := hv_4.unv
  obtain ⟨us_6, rfl, hv_6⟩ := hv_5.unv
  obtain ⟨G0_7, Gc0_7, us_7, rfl, _, hv_7⟩ := hv_6.uns
  obtain rfl := hv_7.un0
  clear hv hv_0 hv_1 hv_2 hv_3 hv_4 hv_5 hv_6 hv_7
  have iw0 := own0
  clear own0
  clear iu
  go_wp2_with fail
  refine calls_worldD _ (fun X => Blk X (w3.heap.size) 39 #[.string y0_0, .string y0_1, .bool y0_2, .int .i64 y0_3, .int .i64 y0_4, .string y0_5, .int .i64 y0_6, .slice G0_7 y0_7.length Gc0_7] ∧ OwnI X (w2.heap.size) (w3.heap.size) [.v (.string y0_0), .v (.string y0_1), .v (.bool y0_2), .v (.int .i64 y0_3), .v (.int .i64 y0_4), .v (.string y0_5), .v (.int .i64 y0_6), .s 75 8 y0_7.length (FEntry.flat y0_7)] [.string y0_0, .string y0_1, .bool y0_2, .int .i64 y0_3, .int .i64 y0_4, .string y0_5, .int .i64 y0_6, .slice G0_7 y0_7.length Gc0_7] ∧ Below W.heap.size W X ∧ w3.heap.size < X.heap.size) ⟨Blk.new _ _ _, iw0.alloc _, (hB).alloc (by omega) _, by simp⟩ ?_
  clear iw0 hB
  rintro w4 ⟨bw0, iw0, hB, s4⟩
  refine (toClassS_any l0 hw _ _ W.heap.size (by omega) (R.out.below hB (Nat.le_refl _))).mono ?_
  rintro e w5 ⟨X0, Xc0, rfl, own, hb⟩
  replace bw0 := bw0.below hb (Nat.le_refl _)
  replace iw0 := iw0.below hb (Nat.le_refl _)
  replace hB := hB.trans (hb.mono (by omega))
  have s5 : w4.heap.size ≤ w5.heap.size := hb.size
  clear hb
  have ix := own
  clear own
  have bw0_0 : w5.cell? ⟨w3.heap.size, 0, none⟩ = some (.string y0_0) := bw0.cell 0
  have bw0_1 : w5.cell? ⟨w3.heap.size, 1, none⟩ = some (.string y0_1) := bw0.cell 1
  have bw0_2 : w5.cell? ⟨w3.heap.size, 2, none⟩ = some (.bool y0_2) := bw0.cell 2
  have bw0_3 : w5.cell? ⟨w3.heap.size, 3, none⟩ = some (.int .i64 y0_3) := bw0.cell 3
  have bw0_4 : w5.cell? ⟨w3.heap.size, 4, none⟩ = some (.int .i64 y0_4) := bw0.cell 4
  have bw0_5 : w5.cell? ⟨w3.heap.size, 5, none⟩ = some (.string y0_5) := bw0.cell 5
  have bw0_6 : w5.cell? ⟨w3.heap.size, 6, none⟩ = some (.int .i64 y0_6) := bw0.cell 6
  have bw0_7 : w5.cell? ⟨w3.heap.size, 7, none⟩ = some (.slice G0_7 y0_7.length Gc0_7) := bw0.cell 7
  have bw0_l := bw0.lt
  go_wp2_with fail
  clear bw0_0 bw0_1 bw0_2 bw0_3 bw0_4 bw0_5 bw0_6 bw0_7 bw0_l
  refine (FindField_impl l0 n1 n2 _ _ (by omega) (B := w5.heap.size) (Nat.le_refl _) ix.read).mono ?_
  rw [HG0.out]
  rw [HQ0.out]
  rw [FField.c_eq]
  rintro e w6 ⟨us0, rfl, own0, hb⟩
  replace bw0 := bw0.below hb (Nat.le_refl _)
  replace iw0 := iw0.below hb (Nat.le_refl _)
  replace ix := ix.below hb (Nat.le_refl _)
  replace hB := hB.trans (hb.mono (by omega))
  have s6 : w5.heap.size ≤ w6.heap.size := hb.size
  clear hb
  have hv := own0.vs
  obtain ⟨us_0, rfl, hv_0⟩ := hv.unv
  obtain ⟨us_1, rfl, hv_1⟩ := hv_0.unv
  obtain ⟨us_2, rfl, hv_2⟩ := hv_1.unv
  obtain ⟨us_3, rfl, hv_3⟩ := hv_2.unv
  obtain ⟨us_4, rfl, hv_4⟩ := hv_3.unv
  obtain ⟨us_5, rfl, hv_5⟩ := hv_4.unv
  obtain ⟨us_6, rfl, hv_6⟩ := hv_5.unv
  obtain ⟨Y0_7, Yc0_7, us_7, rfl, _, hv_7⟩ := hv_6.uns
  obtain rfl := hv_7.un0
  clear hv hv_0 hv_1 hv_2 hv_3 hv_4 hv_5 hv_6 hv_7
  have ig0 := own0
  clear own0
  have bw0_0 : w6.cell? ⟨w3.heap.size, 0, none⟩ = some (.string y0_0) := bw0.cell 0
  have bw0_1 : w6.cell? ⟨w3.heap.size, 1, none⟩ = some (.string y0_1) := bw0.cell 1
  have bw0_2 : w6.cell? ⟨w3.heap.size, 2, none⟩ = some (.bool y0_2) := bw0.cell 2
  have bw0_3 : w6.cell? ⟨w3.heap.size, 3, none⟩ = some (.int .i64 y0_3) := bw0.cell 3
  have bw0_4 : w6.cell? ⟨w3.heap.size, 4, none⟩ = some (.int .i64 y0_4) := bw0.cell 4
  have bw0_5 : w6.cell? ⟨w3.heap.size, 5, none⟩ = some (.string y0_5) := bw0.cell 5
  have bw0_6 : w6.cell? ⟨w3.heap.size, 6, none⟩ = some (.int .i64 y0_6) := bw0.cell 6
  have bw0_7 : w6.cell? ⟨w3.heap.size, 7, none⟩ = some (.slice G0_7 y0_7.length Gc0_7) := bw0.cell 7
  have bw0_l := bw0.lt
  go_wp2_with fail
  clear bw0_0 bw0_1 bw0_2 bw0_3 bw0_4 bw0_5 bw0_6 bw0_7 bw0_l
  refine calls_worldD _ (fun X => Blk X (w3.heap.size) 39 #[.string y0_0, .string y0_1, .bool y0_2, .int .i64 y0_3, .int .i64 y0_4, .string y0_5, .int .i64 y0_6, .slice G0_7 y0_7.length Gc0_7] ∧ Blk X (w6.heap.size) 39 #[.string y0_0, .string y0_1, .bool y0_2, .int .i64 y0_3, .int .i64 y0_4, .string y0_5, .int .i64 y0_6, .slice Y0_7 y0_7.length Yc0_7] ∧ OwnI X (w2.heap.size) (w3.heap.size) [.v (.string y0_0), .v (.string y0_1), .v (.bool y0_2), .v (.int .i64 y0_3), .v (.int .i64 y0_4), .v (.string y0_5), .v (.int .i64 y0_6), .s 75 8 y0_7.length (FEntry.flat y0_7)] [.string y0_0, .string y0_1, .bool y0_2, .int .i64 y0_3, .int .i64 y0_4, .string y0_5, .int .i64 y0_6, .slice G0_7 y0_7.length Gc0_7] ∧ OwnI X (w4.heap.size) (w5.heap.size) [.s 53 4 l0.length (FClass.flat l0)] [.slice X0 l0.length Xc0] ∧ OwnI X (w5.heap.size) (w6.heap.size) [.v (.string y0_0), .v (.string y0_1), .v (.bool y0_2), .v (.int .i64 y0_3), .v (.int .i64 y0_4), .v (.string y0_5), .v (.int .i64 y0_6), .s 75 8 y0_7.length (FEntry.flat y0_7)] [.string y0_0, .string y0_1, .bool y0_2, .int .i64 y0_3, .int .i64 y0_4, .string y0_5, .int .i64 y0_6, .slice Y0_7 y0_7.length Yc0_7] ∧ Below W.heap.size W X ∧ w6.heap.size < X.heap.size) ⟨bw0.alloc _, Blk.new _ _ _, iw0.alloc _, ix.alloc _, ig0.alloc _, (hB).alloc (by omega) _, by simp⟩ ?_
  clear bw0 iw0 ix ig0 hB
  rintro w7 ⟨bw0, bg0, iw0, ix, ig0, hB, s7⟩
  refine (eqField_any ⟨y0_0, y0_1, y0_2, ⟨y0_3, y0_4, y0_5, y0_6, y0_7⟩⟩ HW0.out [.string y0_0, .string y0_1, .bool y0_2, .int .i64 y0_3, .int .i64 y0_4, .string y0_5, .int .i64 y0_6, .slice Y0_7 y0_7.length Yc0_7] [.string y0_0, .string y0_1, .bool y0_2, .int .i64 y0_3, .int .i64 y0_4, .string y0_5, .int .i64 y0_6, .slice G0_7 y0_7.length Gc0_7] _ (by rw [FField.c_eq]; exact ig0.vs) (by rw [FField.c_eq]; exact iw0.vs)).mono ?_
  rintro e w8 ⟨rfl, hb⟩
  replace bw0 := bw0.below hb (Nat.le_refl _)
  replace bg0 := bg0.below hb (Nat.le_refl _)
  replace iw0 := iw0.below hb (Nat.le_refl _)
  replace ix := ix.below hb (Nat.le_refl _)
  replace ig0 := ig0.below hb (Nat.le_refl _)
  replace hB := hB.trans (hb.mono (by omega))
  have s8 : w7.heap.size ≤ w8.heap.size := hb.size
  clear hb
  have bw0_0 : w8.cell? ⟨w3.heap.size, 0, none⟩ = some (.string y0_0) := bw0.cell 0
  have bw0_1 : w8.cell? ⟨w3.heap.size, 1, none⟩ = some (.string y0_1) := bw0.cell 1
  have bw0_2 : w8.cell? ⟨w3.heap.size, 2, none⟩ = some (.bool y0_2) := bw0.cell 2
  have bw0_3 : w8.cell? ⟨w3.heap.size, 3, none⟩ = some (.int .i64 y0_3) := bw0.cell 3
  have bw0_4 : w8.cell? ⟨w3.heap.size, 4, none⟩ = some (.int .i64 y0_4) := bw0.cell 4
  have bw0_5 : w8.cell? ⟨w3.heap.size, 5, none⟩ = some (.string y0_5) := bw0.cell 5
  have bw0_6 : w8.cell? ⟨w3.heap.size, 6, none⟩ = some (.int .i64 y0_6) := bw0.cell 6
  have bw0_7 : w8.cell? ⟨w3.heap.size, 7, none⟩ = some (.slice G0_7 y0_7.length Gc0_7) := bw0.cell 7
  have bw0_l := bw0.lt
  have bg0_0 : w8.cell? ⟨w6.heap.size, 0, none⟩ = some (.string y0_0) := bg0.cell 0
  have bg0_1 : w8.cell? ⟨w6.heap.size, 1, none⟩ = some (.string y0_1) := bg0.cell 1
  have bg0_2 : w8.cell? ⟨w6.heap.size, 2, none⟩ = some (.bool y0_2) := bg0.cell 2
  have bg0_3 : w8.cell? ⟨w6.heap.size, 3, none⟩ = some (.int .i64 y0_3) := bg0.cell 3
  have bg0_4 : w8.cell? ⟨w6.heap.size, 4, none⟩ = some (.int .i64 y0_4) := bg0.cell 4
  have bg0_5 : w8.cell? ⟨w6.heap.size, 5, none⟩ = some (.string y0_5) := bg0.cell 5
  have bg0_6 : w8.cell? ⟨w6.heap.size, 6, none⟩ = some (.int .i64 y0_6) := bg0.cell 6
  have bg0_7 : w8.cell? ⟨w6.heap.size, 7, none⟩ = some (.slice Y0_7 y0_7.length Yc0_7) := bg0.cell 7
  have bg0_l := bg0.lt
  go_wp2_with fail
  clear bw0_0 bw0_1 bw0_2 bw0_3 bw0_4 bw0_5 bw0_6 bw0_7 bw0_l
  clear bg0_0 bg0_1 bg0_2 bg0_3 bg0_4 bg0_5 bg0_6 bg0_7 bg0_l
  refine (toClassS_any l0 hw _ _ W.heap.size (by omega) (R.out.below hB (Nat.le_refl _))).mono ?_
  rintro e w9 ⟨Z0, Zc0, rfl, own, hb⟩
  replace bw0 := bw0.below hb (Nat.le_refl _)
  replace bg0 := bg0.below hb (Nat.le_refl _)
  replace iw0 := iw0.below hb (Nat.le_refl _)
  replace ix := ix.below hb (Nat.le_refl _)
  replace ig0 := ig0.below hb (Nat.le_refl _)
  replace hB := hB.trans (hb.mono (by omega))
  have s9 : w8.heap.size ≤ w9.heap.size := hb.size
  clear hb
  have iz := own
  clear own
  have bw0_0 : w9.cell? ⟨w3.heap.size, 0, none⟩ = some (.string y0_0) := bw0.cell 0
  have bw0_1 : w9.cell? ⟨w3.heap.size, 1, none⟩ = some (.string y0_1) := bw0.cell 1
  have bw0_2 : w9.cell? ⟨w3.heap.size, 2, none⟩ = some (.bool y0_2) := bw0.cell 2
  have bw0_3 : w9.cell? ⟨w3.heap.size, 3, none⟩ = some (.int .i64 y0_3) := bw0.cell 3
  have bw0_4 : w9.cell? ⟨w3.heap.size, 4, none⟩ = some (.int .i64 y0_4) := bw0.cell 4
  have bw0_5 : w9.cell? ⟨w3.heap.size, 5, none⟩ = some (.string y0_5) := bw0.cell 5
  have bw0_6 : w9.cell? ⟨w3.heap.size, 6, none⟩ = some (.int .i64 y0_6) := bw0.cell 6
  have bw0_7 : w9.cell? ⟨w3.heap.size, 7, none⟩ = some (.slice G0_7 y0_7.length Gc0_7) := bw0.cell 7
  have bw0_l := bw0.lt
  have bg0_0 : w9.cell? ⟨w6.heap.size, 0, none⟩ = some (.string y0_0) := bg0.cell 0
  have bg0_1 : w9.cell? ⟨w6.heap.size, 1, none⟩ = some (.string y0_1) := bg0.cell 1
  have bg0_2 : w9.cell? ⟨w6.heap.size, 2, none⟩ = some (.bool y0_2) := bg0.cell 2
  have bg0_3 : w9.cell? ⟨w6.heap.size, 3, none⟩ = some (.int .i64 y0_3) := bg0.cell 3
  have bg0_4 : w9.cell? ⟨w6.heap.size, 4, none⟩ = some (.int .i64 y0_4) := bg0.cell 4
  have bg0_5 : w9.cell? ⟨w6.heap.size, 5, none⟩ = some (.string y0_5) := bg0.cell 5
  have bg0_6 : w9.cell? ⟨w6.heap.size, 6, none⟩ = some (.int .i64 y0_6) := bg0.cell 6
  have bg0_7 : w9.cell? ⟨w6.heap.size, 7, none⟩ = some (.slice Y0_7 y0_7.length Yc0_7) := bg0.cell 7
  have bg0_l := bg0.lt
  go_wp2_with fail
  clear bw0_0 bw0_1 bw0_2 bw0_3 bw0_4 bw0_5 bw0_6 bw0_7 bw0_l
  clear bg0_0 bg0_1 bg0_2 bg0_3 bg0_4 bg0_5 bg0_6 bg0_7 bg0_l
  refine (eqClassS_any l0 HWx.out _ _ _ ix.read iz.read).mono ?_
  rintro e w10 ⟨rfl, hb⟩
  replace bw0 := bw0.below hb (Nat.le_refl _)
  replace bg0 := bg0.below hb (Nat.le_refl _)
  replace iw0 := iw0.below hb (Nat.le_refl _)
  replace ix := ix.below hb (Nat.le_refl _)
  replace ig0 := ig0.below hb (Nat.le_refl _)
  replace iz := iz.below hb (Nat.le_refl _)
  replace hB := hB.trans (hb.mono (by omega))
  have s10 : w9.heap.size ≤ w10.heap.size := hb.size
  clear hb
  clear iz
  have bw0_0 : w10.cell? ⟨w3.heap.size, 0, none⟩ = some (.string y0_0) := bw0.cell 0
  have bw0_1 : w10.cell? ⟨w3.heap.size, 1, none⟩ = some (.string y0_1) := bw0.cell 1
  have bw0_2 : w10.cell? ⟨w3.heap.size, 2, none⟩ = some (.bool y0_2) := bw0.cell 2
  have bw0_3 : w10.cell? ⟨w3.heap.size, 3, none⟩ = some (.int .i64 y0_3) := bw0.cell 3
  have bw0_4 : w10.cell? ⟨w3.heap.size, 4, none⟩ = some (.int .i64 y0_4) := bw0.cell 4
  have bw0_5 : w10.cell? ⟨w3.heap.size, 5, none⟩ = some (.string y0_5) := bw0.cell 5
  have bw0_6 : w10.cell? ⟨w3.heap.size, 6, none⟩ = some (.int .i64 y0_6) := bw0.cell 6
  have bw0_7 : w10.cell? ⟨w3.heap.size, 7, none⟩ = some (.slice G0_7 y0_7.length Gc0_7) := bw0.cell 7
  have bw0_l := bw0.lt
  have bg0_0 : w10.cell? ⟨w6.heap.size, 0, none⟩ = some (.string y0_0) := bg0.cell 0
  have bg0_1 : w10.cell? ⟨w6.heap.size, 1, none⟩ = some (.string y0_1) := bg0.cell 1
  have bg0_2 : w10.cell? ⟨w6.heap.size, 2, none⟩ = some (.bool y0_2) := bg0.cell 2
  have bg0_3 : w10.cell? ⟨w6.heap.size, 3, none⟩ = some (.int .i64 y0_3) := bg0.cell 3
  have bg0_4 : w10.cell? ⟨w6.heap.size, 4, none⟩ = some (.int .i64 y0_4) := bg0.cell 4
  have bg0_5 : w10.cell? ⟨w6.heap.size, 5, none⟩ = some (.string y0_5) := bg0.cell 5
  have bg0_6 : w10.cell? ⟨w6.heap.size, 6, none⟩ = some (.int .i64 y0_6) := bg0.cell 6
  have bg0_7 : w10.cell? ⟨w6.heap.size, 7, none⟩ = some (.slice Y0_7 y0_7.length Yc0_7) := bg0.cell 7
  have bg0_l := bg0.lt
  go_wp2_with fail
  clear bw0_0 bw0_1 bw0_2 bw0_3 bw0_4 bw0_5 bw0_6 bw0_7 bw0_l
  clear bg0_0 bg0_1 bg0_2 bg0_3 bg0_4 bg0_5 bg0_6 bg0_7 bg0_l
  have hcall := markClassS_I l0 _ 1 _ _ w10 (by omega) (by rw [← HKkx.out]; omega) ix
  rw [← HSkx.out] at hcall
  refine hcall.mono ?_
  clear hcall
  rintro e w11 ⟨rfl, im, hb⟩
  replace bw0 := bw0.only hb (Nat.le_refl _) (by omega)
  replace bg0 := bg0.only hb (Nat.le_refl _) (by omega)
  replace iw0 := iw0.only hb (Nat.le_refl _) (by omega)
  replace ig0 := ig0.only hb (Nat.le_refl _) (by omega)
  replace hB := hB.trans (hb.below (by omega) (by omega))
  have s11 : w10.heap.size ≤ w11.heap.size := hb.size
  clear hb
  clear ix
  have ix := im
  clear im
  have bw0_0 : w11.cell? ⟨w3.heap.size, 0, none⟩ = some (.string y0_0) := bw0.cell 0
  have bw0_1 : w11.cell? ⟨w3.heap.size, 1, none⟩ = some (.string y0_1) := bw0.cell 1
  have bw0_2 : w11.cell? ⟨w3.heap.size, 2, none⟩ = some (.bool y0_2) := bw0.cell 2
  have bw0_3 : w11.cell? ⟨w3.heap.size, 3, none⟩ = some (.int .i64 y0_3) := bw0.cell 3
  have bw0_4 : w11.cell? ⟨w3.heap.size, 4, none⟩ = some (.int .i64 y0_4) := bw0.cell 4
  have bw0_5 : w11.cell? ⟨w3.heap.size, 5, none⟩ = some (.string y0_5) := bw0.cell 5
  have bw0_6 : w11.cell? ⟨w3.heap.size, 6, none⟩ = some (.int .i64 y0_6) := bw0.cell 6
  have bw0_7 : w11.cell? ⟨w3.heap.size, 7, none⟩ = some (.slice G0_7 y0_7.length Gc0_7) := bw0.cell 7
  have bw0_l := bw0.lt
  have bg0_0 : w11.cell? ⟨w6.heap.size, 0, none⟩ = some (.string y0_0) := bg0.cell 0
  have bg0_1 : w11.cell? ⟨w6.heap.size, 1, none⟩ = some (.string y0_1) := bg0.cell 1
  have bg0_2 : w11.cell? ⟨w6.heap.size, 2, none⟩ = some (.bool y0_2) := bg0.cell 2
  have bg0_3 : w11.cell? ⟨w6.heap.size, 3, none⟩ = some (.int .i64 y0_3) := bg0.cell 3
  have bg0_4 : w11.cell? ⟨w6.heap.size, 4, none⟩ = some (.int .i64 y0_4) := bg0.cell 4
  have bg0_5 : w11.cell? ⟨w6.heap.size, 5, none⟩ = some (.string y0_5) := bg0.cell 5
  have bg0_6 : w11.cell? ⟨w6.heap.size, 6, none⟩ = some (.int .i64 y0_6) := bg0.cell 6
  have bg0_7 : w11.cell? ⟨w6.heap.size, 7, none⟩ = some (.slice Y0_7 y0_7.length Yc0_7) := bg0.cell 7
  have bg0_l := bg0.lt
  go_wp2_with fail
  clear bw0_0 bw0_1 bw0_2 bw0_3 bw0_4 bw0_5 bw0_6 bw0_7 bw0_l
  clear bg0_0 bg0_1 bg0_2 bg0_3 bg0_4 bg0_5 bg0_6 bg0_7 bg0_l
  refine (eqField_any ⟨y0_0, y0_1, y0_2, ⟨y0_3, y0_4, y0_5, y0_6, y0_7⟩⟩ HW0.out [.string y0_0, .string y0_1, .bool y0_2, .int .i64 y0_3, .int .i64 y0_4, .string y0_5, .int .i64 y0_6, .slice Y0_7 y0_7.length Yc0_7] [.string y0_0, .string y0_1, .bool y0_2, .int .i64 y0_3, .int .i64 y0_4, .string y0_5, .int .i64 y0_6, .slice G0_7 y0_7.length Gc0_7] _ (by rw [FField.c_eq]; exact ig0.vs) (by rw [FField.c_eq]; exact iw0.vs)).mono ?_
  rintro e w12 ⟨rfl, hb⟩
  replace bw0 := bw0.below hb (Nat.le_refl _)
  replace bg0 := bg0.below hb (Nat.le_refl _)
  replace iw0 := iw0.below hb (Nat.le_refl _)
  replace ix := ix.below hb (Nat.le_refl _)
  replace ig0 := ig0.below hb (Nat.le_refl _)
  replace hB := hB.trans (hb.mono (by omega))
  have s12 : w11.heap.size ≤ w12.heap.size := hb.size
  clear hb
  have bw0_0 : w12.cell? ⟨w3.heap.size, 0, none⟩ = some (.string y0_0) := bw0.cell 0
  have bw0_1 : w12.cell? ⟨w3.heap.size, 1, none⟩ = some (.string y0_1) := bw0.cell 1
  have bw0_2 : w12.cell? ⟨w3.heap.size, 2, none⟩ = some (.bool y0_2) := bw0.cell 2
  have bw0_3 : w12.cell? ⟨w3.heap.size, 3, none⟩ = some (.int .i64 y0_3) := bw0.cell 3
  have bw0_4 : w12.cell? ⟨w3.heap.size, 4, none⟩ = some (.int .i64 y0_4) := bw0.cell 4
  have bw0_5 : w12.cell? ⟨w3.heap.size, 5, none⟩ = some (.string y0_5) := bw0.cell 5
  have bw0_6 : w12.cell? ⟨w3.heap.size, 6, none⟩ = some (.int .i64 y0_6) := bw0.cell 6
  have bw0_7 : w12.cell? ⟨w3.heap.size, 7, none⟩ = some (.slice G0_7 y0_7.length Gc0_7) := bw0.cell 7
  have bw0_l := bw0.lt
  have bg0_0 : w12.cell? ⟨w6.heap.size, 0, none⟩ = some (.string y0_0) := bg0.cell 0
  have bg0_1 : w12.cell? ⟨w6.heap.size, 1, none⟩ = some (.string y0_1) := bg0.cell 1
  have bg0_2 : w12.cell? ⟨w6.heap.size, 2, none⟩ = some (.bool y0_2) := bg0.cell 2
  have bg0_3 : w12.cell? ⟨w6.heap.size, 3, none⟩ = some (.int .i64 y0_3) := bg0.cell 3
  have bg0_4 : w12.cell? ⟨w6.heap.size, 4, none⟩ = some (.int .i64 y0_4) := bg0.cell 4
  have bg0_5 : w12.cell? ⟨w6.heap.size, 5, none⟩ = some (.string y0_5) := bg0.cell 5
  have bg0_6 : w12.cell? ⟨w6.heap.size, 6, none⟩ = some (.int .i64 y0_6) := bg0.cell 6
  have bg0_7 : w12.cell? ⟨w6.heap.size, 7, none⟩ = some (.slice Y0_7 y0_7.length Yc0_7) := bg0.cell 7
  have bg0_l := bg0.lt
  go_wp2_with fail
  clear bw0_0 bw0_1 bw0_2 bw0_3 bw0_4 bw0_5 bw0_6 bw0_7 bw0_l
  clear bg0_0 bg0_1 bg0_2 bg0_3 bg0_4 bg0_5 bg0_6 bg0_7 bg0_l
  have hcall := markField_I ⟨y0_0, y0_1, y0_2, ⟨y0_3, y0_4, y0_5, y0_6, y0_7⟩⟩ [.string y0_0, .string y0_1, .bool y0_2, .int .i64 y0_3, .int .i64 y0_4, .string y0_5, .int .i64 y0_6, .slice Y0_7 y0_7.length Yc0_7] 1 _ _ w12 (by omega) (by rw [← HKm0.out]; omega) (by rw [FField.c_eq]; exact ig0)
  rw [← HSm0.out] at hcall
  refine hcall.mono ?_
  clear hcall
  rintro e w13 ⟨rfl, im, hb⟩
  replace bw0 := bw0.only hb (Nat.le_refl _) (by omega)
  replace bg0 := bg0.only hb (Nat.le_refl _) (by omega)
  replace iw0 := iw0.only hb (Nat.le_refl _) (by omega)
  replace ix := ix.only hb (Nat.le_refl _) (by omega)
  replace hB := hB.trans (hb.below (by omega) (by omega))
  have s13 : w12.heap.size ≤ w13.heap.size := hb.size
  clear hb
  clear ig0
  have ig0 := im
  clear im
  have bw0_0 : w13.cell? ⟨w3.heap.size, 0, none⟩ = some (.string y0_0) := bw0.cell 0
  have bw0_1 : w13.cell? ⟨w3.heap.size, 1, none⟩ = some (.string y0_1) := bw0.cell 1
  have bw0_2 : w13.cell? ⟨w3.heap.size, 2, none⟩ = some (.bool y0_2) := bw0.cell 2
  have bw0_3 : w13.cell? ⟨w3.heap.size, 3, none⟩ = some (.int .i64 y0_3) := bw0.cell 3
  have bw0_4 : w13.cell? ⟨w3.heap.size, 4, none⟩ = some (.int .i64 y0_4) := bw0.cell 4
  have bw0_5 : w13.cell? ⟨w3.heap.size, 5, none⟩ = some (.string y0_5) := bw0.cell 5
  have bw0_6 : w13.cell? ⟨w3.heap.size, 6, none⟩ = some (.int .i64 y0_6) := bw0.cell 6
  have bw0_7 : w13.cell? ⟨w3.heap.size, 7, none⟩ = some (.slice G0_7 y0_7.length Gc0_7) := bw0.cell 7
  have bw0_l := bw0.lt
  have bg0_0 : w13.cell? ⟨w6.heap.size, 0, none⟩ = some (.string y0_0) := bg0.cell 0
  have bg0_1 : w13.cell? ⟨w6.heap.size, 1, none⟩ = some (.string y0_1) := bg0.cell 1
  have bg0_2 : w13.cell? ⟨w6.heap.size, 2, none⟩ = some (.bool y0_2) := bg0.cell 2
  have bg0_3 : w13.cell? ⟨w6.heap.size, 3, none⟩ = some (.int .i64 y0_3) := bg0.cell 3
  have bg0_4 : w13.cell? ⟨w6.heap.size, 4, none⟩ = some (.int .i64 y0_4) := bg0.cell 4
  have bg0_5 : w13.cell? ⟨w6.heap.size, 5, none⟩ = some (.string y0_5) := bg0.cell 5
  have bg0_6 : w13.cell? ⟨w6.heap.size, 6, none⟩ = some (.int .i64 y0_6) := bg0.cell 6
  have bg0_7 : w13.cell? ⟨w6.heap.size, 7, none⟩ = some (.slice Y0_7 y0_7.length Yc0_7) := bg0.cell 7
  have bg0_l := bg0.lt
  go_wp2_with fail
  clear bw0_0 bw0_1 bw0_2 bw0_3 bw0_4 bw0_5 bw0_6 bw0_7 bw0_l
  clear bg0_0 bg0_1 bg0_2 bg0_3 bg0_4 bg0_5 bg0_6 bg0_7 bg0_l
  have hcall := heldField_any ⟨y0_0, y0_1, y0_2, ⟨y0_3, y0_4, y0_5, y0_6, y0_7⟩⟩ [.string y0_0, .string y0_1, .bool y0_2, .int .i64 y0_3, .int .i64 y0_4, .string y0_5, .int .i64 y0_6, .slice Y0_7 y0_7.length Yc0_7] 1 w13 (by omega) (by rw [← HKm0.out]; omega) ig0.vs
  rw [← HSm0.out] at hcall
  refine hcall.mono ?_
  clear hcall
  rintro e w14 ⟨rfl, hb⟩
  replace bw0 := bw0.below hb (Nat.le_refl _)
  replace bg0 := bg0.below hb (Nat.le_refl _)
  replace iw0 := iw0.below hb (Nat.le_refl _)
  replace ix := ix.below hb (Nat.le_refl _)
  replace ig0 := ig0.below hb (Nat.le_refl _)
  replace hB := hB.trans (hb.mono (by omega))
  have s14 : w13.heap.size ≤ w14.heap.size := hb.size
  clear hb
  have bw0_0 : w14.cell? ⟨w3.heap.size, 0, none⟩ = some (.string y0_0) := bw0.cell 0
  have bw0_1 : w14.cell? ⟨w3.heap.size, 1, none⟩ = some (.string y0_1) := bw0.cell 1
  have bw0_2 : w14.cell? ⟨w3.heap.size, 2, none⟩ = some (.bool y0_2) := bw0.cell 2
  have bw0_3 : w14.cell? ⟨w3.heap.size, 3, none⟩ = some (.int .i64 y0_3) := bw0.cell 3
  have bw0_4 : w14.cell? ⟨w3.heap.size, 4, none⟩ = some (.int .i64 y0_4) := bw0.cell 4
  have bw0_5 : w14.cell? ⟨w3.heap.size, 5, none⟩ = some (.string y0_5) := bw0.cell 5
  have bw0_6 : w14.cell? ⟨w3.heap.size, 6, none⟩ = some (.int .i64 y0_6) := bw0.cell 6
  have bw0_7 : w14.cell? ⟨w3.heap.size, 7, none⟩ = some (.slice G0_7 y0_7.length Gc0_7) := bw0.cell 7
  have bw0_l := bw0.lt
  have bg0_0 : w14.cell? ⟨w6.heap.size, 0, none⟩ = some (.string y0_0) := bg0.cell 0
  have bg0_1 : w14.cell? ⟨w6.heap.size, 1, none⟩ = some (.string y0_1) := bg0.cell 1
  have bg0_2 : w14.cell? ⟨w6.heap.size, 2, none⟩ = some (.bool y0_2) := bg0.cell 2
  have bg0_3 : w14.cell? ⟨w6.heap.size, 3, none⟩ = some (.int .i64 y0_3) := bg0.cell 3
  have bg0_4 : w14.cell? ⟨w6.heap.size, 4, none⟩ = some (.int .i64 y0_4) := bg0.cell 4
  have bg0_5 : w14.cell? ⟨w6.heap.size, 5, none⟩ = some (.string y0_5) := bg0.cell 5
  have bg0_6 : w14.cell? ⟨w6.heap.size, 6, none⟩ = some (.int .i64 y0_6) := bg0.cell 6
  have bg0_7 : w14.cell? ⟨w6.heap.size, 7, none⟩ = some (.slice Y0_7 y0_7.length Yc0_7) := bg0.cell 7
  have bg0_l := bg0.lt
  go_wp2_with fail
  clear bw0_0 bw0_1 bw0_2 bw0_3 bw0_4 bw0_5 bw0_6 bw0_7 bw0_l
  clear bg0_0 bg0_1 bg0_2 bg0_3 bg0_4 bg0_5 bg0_6 bg0_7 bg0_l
  refine (toClassS_any l0 hw _ _ W.heap.size (by omega) (R.out.below hB (Nat.le_refl _))).mono ?_
  rintro e w15 ⟨V0, Vc0, rfl, own, hb⟩
  replace bw0 := bw0.below hb (Nat.le_refl _)
  replace bg0 := bg0.below hb (Nat.le_refl _)
  replace iw0 := iw0.below hb (Nat.le_refl _)
  replace ix := ix.below hb (Nat.le_refl _)
  replace ig0 := ig0.below hb (Nat.le_refl _)
  replace hB := hB.trans (hb.mono (by omega))
  have s15 : w14.heap.size ≤ w15.heap.size := hb.size
  clear hb
  have iv := own
  clear own
  have bw0_0 : w15.cell? ⟨w3.heap.size, 0, none⟩ = some (.string y0_0) := bw0.cell 0
  have bw0_1 : w15.cell? ⟨w3.heap.size, 1, none⟩ = some (.string y0_1) := bw0.cell 1
  have bw0_2 : w15.cell? ⟨w3.heap.size, 2, none⟩ = some (.bool y0_2) := bw0.cell 2
  have bw0_3 : w15.cell? ⟨w3.heap.size, 3, none⟩ = some (.int .i64 y0_3) := bw0.cell 3
  have bw0_4 : w15.cell? ⟨w3.heap.size, 4, none⟩ = some (.int .i64 y0_4) := bw0.cell 4
  have bw0_5 : w15.cell? ⟨w3.heap.size, 5, none⟩ = some (.string y0_5) := bw0.cell 5
  have bw0_6 : w15.cell? ⟨w3.heap.size, 6, none⟩ = some (.int .i64 y0_6) := bw0.cell 6
  have bw0_7 : w15.cell? ⟨w3.heap.size, 7, none⟩ = some (.slice G0_7 y0_7.length Gc0_7) := bw0.cell 7
  have bw0_l := bw0.lt
  have bg0_0 : w15.cell? ⟨w6.heap.size, 0, none⟩ = some (.string y0_0) := bg0.cell 0
  have bg0_1 : w15.cell? ⟨w6.heap.size, 1, none⟩ = some (.string y0_1) := bg0.cell 1
  have bg0_2 : w15.cell? ⟨w6.heap.size, 2, none⟩ = some (.bool y0_2) := bg0.cell 2
  have bg0_3 : w15.cell? ⟨w6.heap.size, 3, none⟩ = some (.int .i64 y0_3) := bg0.cell 3
  have bg0_4 : w15.cell? ⟨w6.heap.size, 4, none⟩ = some (.int .i64 y0_4) := bg0.cell 4
  have bg0_5 : w15.cell? ⟨w6.heap.size, 5, none⟩ = some (.string y0_5) := bg0.cell 5
  have bg0_6 : w15.cell? ⟨w6.heap.size, 6, none⟩ = some (.int .i64 y0_6) := bg0.cell 6
  have bg0_7 : w15.cell? ⟨w6.heap.size, 7, none⟩ = some (.slice Y0_7 y0_7.length Yc0_7) := bg0.cell 7
  have bg0_l := bg0.lt
  go_wp2_with fail
  clear bw0_0 bw0_1 bw0_2 bw0_3 bw0_4 bw0_5 bw0_6 bw0_7 bw0_l
  clear bg0_0 bg0_1 bg0_2 bg0_3 bg0_4 bg0_5 bg0_6 bg0_7 bg0_l
  refine (FindField_impl l0 n1 n2 _ _ (by omega) (B := w15.heap.size) (Nat.le_refl _) iv.read).mono ?_
  rw [HG0.out]
  rw [HQ0.out]
  rw [FField.c_eq]
  rintro e w16 ⟨us0, rfl, own0, hb⟩
  replace bw0 := bw0.below hb (Nat.le_refl _)
  replace bg0 := bg0.below hb (Nat.le_refl _)
  replace iw0 := iw0.below hb (Nat.le_refl _)
  replace ix := ix.below hb (Nat.le_refl _)
  replace ig0 := ig0.below hb (Nat.le_refl _)
  replace iv := iv.below hb (Nat.le_refl _)
  replace hB := hB.trans (hb.mono (by omega))
  have s16 : w15.heap.size ≤ w16.heap.size := hb.size
  clear hb
  have hv := own0.vs
  obtain ⟨us_0, rfl, hv_0⟩ := hv.unv
  obtain ⟨us_1, rfl, hv_1⟩ := hv_0.unv
  obtain ⟨us_2, rfl, hv_2⟩ := hv_1.unv
  obtain ⟨us_3, rfl, hv_3⟩ := hv_2.unv
  obtain ⟨us_4, rfl, hv_4⟩ := hv_3.unv
  obtain ⟨us_5, rfl, hv_5⟩ := hv_4.unv
  obtain ⟨us_6, rfl, hv_6⟩ := hv_5.unv
  obtain ⟨K0_7, Kc0_7, us_7, rfl, _, hv_7⟩ := hv_6.uns
  obtain rfl := hv_7.un0
  clear hv hv_0 hv_1 hv_2 hv_3 hv_4 hv_5 hv_6 hv_7
  have ih0 := own0
  clear own0
  clear iv
  have bw0_0 : w16.cell? ⟨w3.heap.size, 0, none⟩ = some (.string y0_0) := bw0.cell 0
  have bw0_1 : w16.cell? ⟨w3.heap.size, 1, none⟩ = some (.string y0_1) := bw0.cell 1
  have bw0_2 : w16.cell? ⟨w3.heap.size, 2, none⟩ = some (.bool y0_2) := bw0.cell 2
  have bw0_3 : w16.cell? ⟨w3.heap.size, 3, none⟩ = some (.int .i64 y0_3) := bw0.cell 3
  have bw0_4 : w16.cell? ⟨w3.heap.size, 4, none⟩ = some (.int .i64 y0_4) := bw0.cell 4
  have bw0_5 : w16.cell? ⟨w3.heap.size, 5, none⟩ = some (.string y0_5) := bw0.cell 5
  have bw0_6 : w16.cell? ⟨w3.heap.size, 6, none⟩ = some (.int .i64 y0_6) := bw0.cell 6
  have bw0_7 : w16.cell? ⟨w3.heap.size, 7, none⟩ = some (.slice G0_7 y0_7.length Gc0_7) := bw0.cell 7
  have bw0_l := bw0.lt
  have bg0_0 : w16.cell? ⟨w6.heap.size, 0, none⟩ = some (.string y0_0) := bg0.cell 0
  have bg0_1 : w16.cell? ⟨w6.heap.size, 1, none⟩ = some (.string y0_1) := bg0.cell 1
  have bg0_2 : w16.cell? ⟨w6.heap.size, 2, none⟩ = some (.bool y0_2) := bg0.cell 2
  have bg0_3 : w16.cell? ⟨w6.heap.size, 3, none⟩ = some (.int .i64 y0_3) := bg0.cell 3
  have bg0_4 : w16.cell? ⟨w6.heap.size, 4, none⟩ = some (.int .i64 y0_4) := bg0.cell 4
  have bg0_5 : w16.cell? ⟨w6.heap.size, 5, none⟩ = some (.string y0_5) := bg0.cell 5
  have bg0_6 : w16.cell? ⟨w6.heap.size, 6, none⟩ = some (.int .i64 y0_6) := bg0.cell 6
  have bg0_7 : w16.cell? ⟨w6.heap.size, 7, none⟩ = some (.slice Y0_7 y0_7.length Yc0_7) := bg0.cell 7
  have bg0_l := bg0.lt
  go_wp2_with fail
  clear bw0_0 bw0_1 bw0_2 bw0_3 bw0_4 bw0_5 bw0_6 bw0_7 bw0_l
  clear bg0_0 bg0_1 bg0_2 bg0_3 bg0_4 bg0_5 bg0_6 bg0_7 bg0_l
  refine calls_worldD _ (fun X => Blk X (w3.heap.size) 39 #[.string y0_0, .string y0_1, .bool y0_2, .int .i64 y0_3, .int .i64 y0_4, .string y0_5, .int .i64 y0_6, .slice G0_7 y0_7.length Gc0_7] ∧ Blk X (w6.heap.size) 39 #[.string y0_0, .string y0_1, .bool y0_2, .int .i64 y0_3, .int .i64 y0_4, .string y0_5, .int .i64 y0_6, .slice Y0_7 y0_7.length Yc0_7] ∧ Blk X (w16.heap.size) 39 #[.string y0_0, .string y0_1, .bool y0_2, .int .i64 y0_3, .int .i64 y0_4, .string y0_5, .int .i64 y0_6, .slice K0_7 y0_7.length Kc0_7] ∧ OwnI X (w2.heap.size) (w3.heap.size) [.v (.string y0_0), .v (.string y0_1), .v (.bool y0_2), .v (.int .i64 y0_3), .v (.int .i64 y0_4), .v (.string y0_5), .v (.int .i64 y0_6), .s 75 8 y0_7.length (FEntry.flat y0_7)] [.string y0_0, .string y0_1, .bool y0_2, .int .i64 y0_3, .int .i64 y0_4, .string y0_5, .int .i64 y0_6, .slice G0_7 y0_7.length Gc0_7] ∧ OwnI X (w4.heap.size) (w5.heap.size) [.s 53 4 l0.length (mkL (FClass.flat l0) 1)] [.slice X0 l0.length Xc0] ∧ OwnI X (w5.heap.size) (w6.heap.size) (smk (FField.c ⟨y0_0, y0_1, y0_2, ⟨y0_3, y0_4, y0_5, y0_6, y0_7⟩⟩) 1) [.string y0_0, .string y0_1, .bool y0_2, .int .i64 y0_3, .int .i64 y0_4, .string y0_5, .int .i64 y0_6, .slice Y0_7 y0_7.length Yc0_7] ∧ OwnI X (w15.heap.size) (w16.heap.size) [.v (.string y0_0), .v (.string y0_1), .v (.bool y0_2), .v (.int .i64 y0_3), .v (.int .i64 y0_4), .v (.string y0_5), .v (.int .i64 y0_6), .s 75 8 y0_7.length (FEntry.flat y0_7)] [.string y0_0, .string y0_1, .bool y0_2, .int .i64 y0_3, .int .i64 y0_4, .string y0_5, .int .i64 y0_6, .slice K0_7 y0_7.length Kc0_7] ∧ Below W.heap.size W X ∧ w16.heap.size < X.heap.size) ⟨bw0.alloc _, bg0.alloc _, Blk.new _ _ _, iw0.alloc _, ix.alloc _, ig0.alloc _, ih0.alloc _, (hB).alloc (by omega) _, by simp⟩ ?_
  clear bw0 bg0 iw0 ix ig0 ih0 hB
  rintro w17 ⟨bw0, bg0, bh0, iw0, ix, ig0, ih0, hB, s17⟩
  refine (eqField_any ⟨y0_0, y0_1, y0_2, ⟨y0_3, y0_4, y0_5, y0_6, y0_7⟩⟩ HW0.out [.string y0_0, .string y0_1, .bool y0_2, .int .i64 y0_3, .int .i64 y0_4, .string y0_5, .int .i64 y0_6, .slice K0_7 y0_7.length Kc0_7] [.string y0_0, .string y0_1, .bool y0_2, .int .i64 y0_3, .int .i64 y0_4, .string y0_5, .int .i64 y0_6, .slice G0_7 y0_7.length Gc0_7] _ (by rw [FField.c_eq]; exact ih0.vs) (by rw [FField.c_eq]; exact iw0.vs)).mono ?_
  rintro e w18 ⟨rfl, hb⟩
  replace bw0 := bw0.below hb (Nat.le_refl _)
  replace bg0 := bg0.below hb (Nat.le_refl _)
  replace bh0 := bh0.below hb (Nat.le_refl _)
  replace iw0 := iw0.below hb (Nat.le_refl _)
  replace ix := ix.below hb (Nat.le_refl _)
  replace ig0 := ig0.below hb (Nat.le_refl _)
  replace ih0 := ih0.below hb (Nat.le_refl _)
  replace hB := hB.trans (hb.mono (by omega))
  have s18 : w17.heap.size ≤ w18.heap.size := hb.size
  clear hb
  have bw0_0 : w18.cell? ⟨w3.heap.size, 0, none⟩ = some (.string y0_0) := bw0.cell 0
  have bw0_1 : w18.cell? ⟨w3.heap.size, 1, none⟩ = some (.string y0_1) := bw0.cell 1
  have bw0_2 : w18.cell? ⟨w3.heap.size, 2, none⟩ = some (.bool y0_2) := bw0.cell 2
  have bw0_3 : w18.cell? ⟨w3.heap.size, 3, none⟩ = some (.int .i64 y0_3) := bw0.cell 3
  have bw0_4 : w18.cell? ⟨w3.heap.size, 4, none⟩ = some (.int .i64 y0_4) := bw0.cell 4
  have bw0_5 : w18.cell? ⟨w3.heap.size, 5, none⟩ = some (.string y0_5) := bw0.cell 5
  have bw0_6 : w18.cell? ⟨w3.heap.size, 6, none⟩ = some (.int .i64 y0_6) := bw0.cell 6
  have bw0_7 : w18.cell? ⟨w3.heap.size, 7, none⟩ = some (.slice G0_7 y0_7.length Gc0_7) := bw0.cell 7
  have bw0_l := bw0.lt
  have bg0_0 : w18.cell? ⟨w6.heap.size, 0, none⟩ = some (.string y0_0) := bg0.cell 0
  have bg0_1 : w18.cell? ⟨w6.heap.size, 1, none⟩ = some (.string y0_1) := bg0.cell 1
  have bg0_2 : w18.cell? ⟨w6.heap.size, 2, none⟩ = some (.bool y0_2) := bg0.cell 2
  have bg0_3 : w18.cell? ⟨w6.heap.size, 3, none⟩ = some (.int .i64 y0_3) := bg0.cell 3
  have bg0_4 : w18.cell? ⟨w6.heap.size, 4, none⟩ = some (.int .i64 y0_4) := bg0.cell 4
  have bg0_5 : w18.cell? ⟨w6.heap.size, 5, none⟩ = some (.string y0_5) := bg0.cell 5
  have bg0_6 : w18.cell? ⟨w6.heap.size, 6, none⟩ = some (.int .i64 y0_6) := bg0.cell 6
  have bg0_7 : w18.cell? ⟨w6.heap.size, 7, none⟩ = some (.slice Y0_7 y0_7.length Yc0_7) := bg0.cell 7
  have bg0_l := bg0.lt
  have bh0_0 : w18.cell? ⟨w16.heap.size, 0, none⟩ = some (.string y0_0) := bh0.cell 0
  have bh0_1 : w18.cell? ⟨w16.heap.size, 1, none⟩ = some (.string y0_1) := bh0.cell 1
  have bh0_2 : w18.cell? ⟨w16.heap.size, 2, none⟩ = some (.bool y0_2) := bh0.cell 2
  have bh0_3 : w18.cell? ⟨w16.heap.size, 3, none⟩ = some (.int .i64 y0_3) := bh0.cell 3
  have bh0_4 : w18.cell? ⟨w16.heap.size, 4, none⟩ = some (.int .i64 y0_4) := bh0.cell 4
  have bh0_5 : w18.cell? ⟨w16.heap.size, 5, none⟩ = some (.string y0_5) := bh0.cell 5
  have bh0_6 : w18.cell? ⟨w16.heap.size, 6, none⟩ = some (.int .i64 y0_6) := bh0.cell 6
  have bh0_7 : w18.cell? ⟨w16.heap.size, 7, none⟩ = some (.slice K0_7 y0_7.length Kc0_7) := bh0.cell 7
  have bh0_l := bh0.lt
  go_wp2_with fail
  clear bw0_0 bw0_1 bw0_2 bw0_3 bw0_4 bw0_5 bw0_6 bw0_7 bw0_l
  clear bg0_0 bg0_1 bg0_2 bg0_3 bg0_4 bg0_5 bg0_6 bg0_7 bg0_l
  clear bh0_0 bh0_1 bh0_2 bh0_3 bh0_4 bh0_5 bh0_6 bh0_7 bh0_l
  have hcall := heldField_any ⟨y0_0, y0_1, y0_2, ⟨y0_3, y0_4, y0_5, y0_6, y0_7⟩⟩ [.string y0_0, .string y0_1, .bool y0_2, .int .i64 y0_3, .int .i64 y0_4, .string y0_5, .int .i64 y0_6, .slice Y0_7 y0_7.length Yc0_7] 1 w18 (by omega) (by rw [← HKm0.out]; omega) ig0.vs
  rw [← HSm0.out] at hcall
  refine hcall.mono ?_
  clear hcall
  rintro e w19 ⟨rfl, hb⟩
  replace bw0 := bw0.below hb (Nat.le_refl _)
  replace bg0 := bg0.below hb (Nat.le_refl _)
  replace bh0 := bh0.below hb (Nat.le_refl _)
  replace iw0 := iw0.below hb (Nat.le_refl _)
  replace ix := ix.below hb (Nat.le_refl _)
  replace ig0 := ig0.below hb (Nat.le_refl _)
  replace ih0 := ih0.below hb (Nat.le_refl _)
  replace hB := hB.trans (hb.mono (by omega))
  have s19 : w18.heap.size ≤ w19.heap.size := hb.size
  clear hb
  have bw0_0 : w19.cell? ⟨w3.heap.size, 0, none⟩ = some (.string y0_0) := bw0.cell 0
  have bw0_1 : w19.cell? ⟨w3.heap.size, 1, none⟩ = some (.string y0_1) := bw0.cell 1
  have bw0_2 : w19.cell? ⟨w3.heap.size, 2, none⟩ = some (.bool y0_2) := bw0.cell 2
  have bw0_3 : w19.cell? ⟨w3.heap.size, 3, none⟩ = some (.int .i64 y0_3) := bw0.cell 3
  have bw0_4 : w19.cell? ⟨w3.heap.size, 4, none⟩ = some (.int .i64 y0_4) := bw0.cell 4
  have bw0_5 : w19.cell? ⟨w3.heap.size, 5, none⟩ = some (.string y0_5) := bw0.cell 5
  have bw0_6 : w19.cell? ⟨w3.heap.size, 6, none⟩ = some (.int .i64 y0_6) := bw0.cell 6
  have bw0_7 : w19.cell? ⟨w3.heap.size, 7, none⟩ = some (.slice G0_7 y0_7.length Gc0_7) := bw0.cell 7
  have bw0_l := bw0.lt
  have bg0_0 : w19.cell? ⟨w6.heap.size, 0, none⟩ = some (.string y0_0) := bg0.cell 0
  have bg0_1 : w19.cell? ⟨w6.heap.size, 1, none⟩ = some (.string y0_1) := bg0.cell 1
  have bg0_2 : w19.cell? ⟨w6.heap.size, 2, none⟩ = some (.bool y0_2) := bg0.cell 2
  have bg0_3 : w19.cell? ⟨w6.heap.size, 3, none⟩ = some (.int .i64 y0_3) := bg0.cell 3
  have bg0_4 : w19.cell? ⟨w6.heap.size, 4, none⟩ = some (.int .i64 y0_4) := bg0.cell 4
  have bg0_5 : w19.cell? ⟨w6.heap.size, 5, none⟩ = some (.string y0_5) := bg0.cell 5
  have bg0_6 : w19.cell? ⟨w6.heap.size, 6, none⟩ = some (.int .i64 y0_6) := bg0.cell 6
  have bg0_7 : w19.cell? ⟨w6.heap.size, 7, none⟩ = some (.slice Y0_7 y0_7.length Yc0_7) := bg0.cell 7
  have bg0_l := bg0.lt
  have bh0_0 : w19.cell? ⟨w16.heap.size, 0, none⟩ = some (.string y0_0) := bh0.cell 0
  have bh0_1 : w19.cell? ⟨w16.heap.size, 1, none⟩ = some (.string y0_1) := bh0.cell 1
  have bh0_2 : w19.cell? ⟨w16.heap.size, 2, none⟩ = some (.bool y0_2) := bh0.cell 2
  have bh0_3 : w19.cell? ⟨w16.heap.size, 3, none⟩ = some (.int .i64 y0_3) := bh0.cell 3
  have bh0_4 : w19.cell? ⟨w16.heap.size, 4, none⟩ = some (.int .i64 y0_4) := bh0.cell 4
  have bh0_5 : w19.cell? ⟨w16.heap.size, 5, none⟩ = some (.string y0_5) := bh0.cell 5
  have bh0_6 : w19.cell? ⟨w16.heap.size, 6, none⟩ = some (.int .i64 y0_6) := bh0.cell 6
  have bh0_7 : w19.cell? ⟨w16.heap.size, 7, none⟩ = some (.slice K0_7 y0_7.length Kc0_7) := bh0.cell 7
  have bh0_l := bh0.lt
  go_wp2_with fail
  clear bw0_0 bw0_1 bw0_2 bw0_3 bw0_4 bw0_5 bw0_6 bw0_7 bw0_l
  clear bg0_0 bg0_1 bg0_2 bg0_3 bg0_4 bg0_5 bg0_6 bg0_7 bg0_l
  clear bh0_0 bh0_1 bh0_2 bh0_3 bh0_4 bh0_5 bh0_6 bh0_7 bh0_l
  go_ret
  exact ⟨rfl, hB⟩
set_option maxRecDepth 100000 in
theorem fnExactFindField_lifted (os : Os) (started : os.Started) (H : Type) (enc : TypeId × Value → H) :
    ReturnsInHanded {} Try.checked os 5 .any (Rows.fnExactFindFieldSpec.pre6 enc Try.prog Try.f5 Rows.fnExactFindFieldRow.domain false) (Rows.fnExactFindFieldSpec.post enc Try.prog Try.f5 false true false false) := by
  refine returnsInHanded_of_change (C := Try.checked) own started (by kernel_rfl) Try.func5
    (ChangeSpec.witness6 (enc := enc) (C := Try.checked) false ⟨#[], #[.slice none 0 0, .string ByteArray.empty, .string ByteArray.empty], []⟩ 8 (by kernel_rfl) (by kernel_rfl) (by kernel_rfl) (by kernel_rfl)) ?_
  intro W base args ds gs before hval0 hW hcnd _
  have hval : ∀ (j : Nat) t v, Try.f5.params[j]? = some t → args[j]? = some v → Value.okWide Try.prog W .any base t v := hval0
  have hW' := hW
  obtain ⟨p, q, hA0, hV, rfl, hfz, hnd⟩ := hW
  have hA : DataW.TrodAll enc Try.prog W 0 (fun _ => true) true Try.f5.params.toList args.toList ds p := hA0
  rw [Try.params5] at hA hval
  obtain ⟨v0, vs0, d0, ds0, p0, q0, hargs, rfl, rfl, h0, r0⟩ := trodAll_cons hA
  obtain ⟨v1, vs1, d1, ds1, p1, q1, rfl, rfl, rfl, h1, r1⟩ := trodAll_cons r0
  obtain ⟨v2, vs2, d2, ds2, p2, q2, rfl, rfl, rfl, h2, r2⟩ := trodAll_cons r1
  obtain ⟨rfl, rfl, rfl⟩ := trodAll_nil r2
  obtain rfl : args = #[v0, v1, v2] := by cases args; simp_all
  obtain ⟨rfl, rfl⟩ := trodVars_none hV
  have lt0 : ∀ x ∈ p0, x.block < W.heap.size := by obtain ⟨m, hm⟩ := h0; exact DataW.trod_lt m _ _ _ hm
  have lt1 : ∀ x ∈ p1, x.block < W.heap.size := by obtain ⟨m, hm⟩ := h1; exact DataW.trod_lt m _ _ _ hm
  have lt2 : ∀ x ∈ p2, x.block < W.heap.size := by obtain ⟨m, hm⟩ := h2; exact DataW.trod_lt m _ _ _ hm
  have k0 := hval 0 22 v0 rfl rfl
  have k1 := hval 1 9 v1 rfl rfl
  have k2 := hval 2 9 v2 rfl rfl
  clear hA0 hval0
  refine (fnExactFindField_walk W base v0 v1 v2 k0 k1 k2 h0 h1 h2).mono fun e W' ⟨he, bel⟩ => ?_
  subst he
  exact ⟨_, rfl, _, _, _, [], _, [], hW', trodAll_mk1 (shut_bool Try.underlying4 _), (trodAll_cons_mk (Below.trod laidOut (by kernel_rfl) (of_decide_eq_true (by kernel_rfl)) h0 bel lt0) (trodAll_cons_mk (Below.trod laidOut (by kernel_rfl) (of_decide_eq_true (by kernel_rfl)) h1 bel lt1) (trodAll_cons_mk (Below.trod laidOut (by kernel_rfl) (of_decide_eq_true (by kernel_rfl)) h2 bel lt2) trodAll_mk0))), rfl, bel.frame _, fun h => by cases h⟩

theorem fnExactFindField_holds : Rows.FnExactFindFieldSaid :=
  OpenClaim.holds_of_wide 5 Try.f5 rfl rfl rfl rfl rfl rfl rfl ⟨rfl, rfl, rfl, rfl, rfl⟩ rfl rfl rfl rfl rfl (by kernel_rfl) Try.func5 (by kernel_rfl)
    (of_decide_eq_true (by kernel_rfl)) (by unfold Func.isWrapper; rw [if_neg (of_decide_eq_false (by kernel_rfl))]; exact ⟨rfl, rfl⟩)
    (fun os started H enc _ => fnExactFindField_lifted os started H enc)
#print axioms fnExactFindField_holds

end Go.Proofs.Ytphcpllafddpfaa
