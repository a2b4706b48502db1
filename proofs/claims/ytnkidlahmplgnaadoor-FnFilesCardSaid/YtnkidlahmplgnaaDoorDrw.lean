/-
  The cursor of a draw: what l1New, l1Byte, l1Below, l1Once, l1Str, l1Int return and leave. Conditions: none.
-/
import Derived.Test.YtnkidlahmplgnaaDoorMem
import Derived.Test.YtnkidlahmplgnaaDoorDeep
import Derived.Deep.CutRange
import Derived.Deep.QuietTactic
import Derived.BigQuiet
namespace Go.Proofs.YtnkidlahmplgnaaDoor
open Go.ChangeShapes Go.WideShapes Go.ChangeAt Go.RowKit Go.Deep Go.Joins
open Go.ChangeMaps (open_string shut_string)
set_option linter.unusedVariables false
set_option linter.unusedSimpArgs false
set_option maxRecDepth 100000
/-- n bytes lie behind the slice, below block B. -/
def Byts (w : World) (B : Nat) (A : Option Addr) (n : Nat) : Prop :=
  n ≤ maxLen ∧ (0 < n → ∃ b o, A = some ⟨b, o, none⟩ ∧ b < B ∧ ∀ k, k < n → ∃ x : Nat, x < 256 ∧ w.cell? ⟨b, o + k, none⟩ = some (.int .u8 x))
theorem Byts.keep {w w' : World} {B n : Nat} {A : Option Addr} (h : Byts w B A n) (hk : ∀ b o, b < B → w'.cell? ⟨b, o, none⟩ = w.cell? ⟨b, o, none⟩) : Byts w' B A n :=
  ⟨h.1, fun hn => by obtain ⟨b, o, e, hb, hc⟩ := h.2 hn; exact ⟨b, o, e, hb, fun k hk' => by obtain ⟨x, hx, e2⟩ := hc k hk'; exact ⟨x, hx, (hk _ _ hb).trans e2⟩⟩⟩
/-- The cursor in block g over bytes below block B. -/
def Cur (w : World) (g B : Nat) : Prop := ∃ (A : Option Addr) (n c : Nat) (i : Nat) (h : Int), Blk w g 52 #[.slice A n c, .int .i64 i, .int .i64 h] ∧ i ≤ n ∧ Byts w B A n ∧ B ≤ g ∧ -9223372036854775808 ≤ h ∧ h ≤ 9223372036854775807
theorem Cur.lt {w : World} {g B : Nat} (h : Cur w g B) : g < w.heap.size := by obtain ⟨_, _, _, _, _, hb, _⟩ := h; exact hb.lt
theorem Cur.le {w : World} {g B : Nat} (h : Cur w g B) : B ≤ g := by obtain ⟨_, _, _, _, _, _, _, _, h, _⟩ := h; exact h
theorem Cur.below {w w' : World} {g B : Nat} (h : Cur w g B) (hb : Below w.heap.size w w') : Cur w' g B := by
  have hl := h.lt
  obtain ⟨A, n, c, i, x, h1, h2, h3, h4, h5⟩ := h
  exact ⟨A, n, c, i, x, h1.below hb (Nat.le_refl _), h2, h3.keep fun b o hB => (bcell hb).1 _ _ (by omega), h4, h5⟩
theorem Cur.drew {w : World} {g B : Nat} (h : Cur w g B) : Cur w.drew g B := h.below (Below.refl _ _).drew
theorem Cur.alloc {w : World} {g B : Nat} (h : Cur w g B) (o : Obj) : Cur (w.alloc o) g B := h.below ((Below.refl _ _).alloc (Nat.le_refl _) _)
theorem Only.cellB {lo hi C : Nat} {a b : World} (h : Only lo hi C a b) {p : Addr} (hC : p.block < C) (hd : p.block < lo ∨ hi ≤ p.block) : b.cell? p = a.cell? p := by
  have := h.block p.block hC hd
  simp [World.cell?, this]
theorem Cur.far {w : World} {g B : Nat} (h : Cur w g B) {p : Addr} (hp : p.block ≠ g) (hB : B ≤ p.block) (u : Value) : Cur (w.setCell p u) g B := by
  obtain ⟨A, n, c, i, x, h1, h2, h3, h4, h5⟩ := h
  refine ⟨A, n, c, i, x, h1.far (fun e => hp e.symm) u, h2, h3.keep fun b o hb => World.cell?_setCell_other _ _ _ _ (fun e => ?_), h4, h5⟩
  have e2 : p.block = b := by rw [e]
  omega
theorem and255 (z : Int) : ∃ x : Nat, x < 256 ∧ bits .and .i64 z 255 = (x : Int) := by
  have h255 : (BitVec.ofInt 64 255).toNat = 2 ^ 8 - 1 := by decide
  have key : (BitVec.ofInt 64 z &&& BitVec.ofInt 64 255).toNat = (z % ((2 ^ 64 : Nat) : Int)).toNat % 2 ^ 8 := by
    rw [BitVec.toNat_and, BitVec.toNat_ofInt, h255, Nat.and_two_pow_sub_one_eq_mod]
  refine ⟨(z % ((2 ^ 64 : Nat) : Int)).toNat % 2 ^ 8, Nat.mod_lt _ (by decide), ?_⟩
  show IntKind.i64.wrap ((BitVec.ofInt 64 z &&& BitVec.ofInt 64 255).toNat : Nat) = _
  rw [key, IntKind.wrap_i64]
  omega
theorem wrap_range (z : Int) : -9223372036854775808 ≤ wrap64 z ∧ wrap64 z ≤ 9223372036854775807 := by
  unfold wrap64; omega
set_option maxHeartbeats 2000000 in
theorem l1Byte_any (g B : Nat) (w : World) (hc : Cur w g B) : Calls Tryd.prog 36 #[.pointer (some ⟨g, 0, none⟩)] w fun e w' => (∃ x : Nat, x < 256 ∧ e = .returned (.int .i64 x)) ∧ Cur w' g B ∧ Only g (g + 1) w.heap.size w w' := by
  obtain ⟨A, n, c, i, h, hb, hi, hy, hB, r0, r1⟩ := hc
  have HY := Lib.hid hy
  clear hy
  have c0 : w.cell? ⟨g, 0, none⟩ = some (.slice A n c) := hb.cell 0
  have c1 : w.cell? ⟨g, 1, none⟩ = some (.int .i64 i) := hb.cell 1
  have c2 : w.cell? ⟨g, 2, none⟩ = some (.int .i64 h) := hb.cell 2
  have f2 : w.frozen? ⟨g, 2, none⟩ = false := hb.frozen 2
  have hl := hb.lt
  go_enter Tryd.func36, Tryd.ntmps36
  go_upto_region 2 with fail
  have hwr := wrap_range (wrap64 (h * 6364136223846793005) + 1442695040888963407)
  generalize hh : wrap64 (wrap64 (h * 6364136223846793005) + 1442695040888963407) = h2 at *
  have q0 := hwr
  clear hwr hh
  have hb1 : Blk (w.setCell ⟨g, 2, none⟩ (.int .i64 h2)) g 52 #[.slice A n c, .int .i64 i, .int .i64 h2] := hb.set_ 2 _
  have ho1 : Only g (g + 1) w.heap.size w (w.setCell ⟨g, 2, none⟩ (.int .i64 h2)) := (Only.refl _ _ _ _).set (p := ⟨g, 2, none⟩) (Nat.le_refl _) (Nat.lt_succ_self _) _
  have hy1 : Byts (w.setCell ⟨g, 2, none⟩ (.int .i64 h2)) B A n := HY.out.keep fun b o hb' => ho1.cellB (p := ⟨b, o, none⟩) (by show b < _; omega) (.inl (by show b < _; omega))
  generalize w.setCell ⟨g, 2, none⟩ (.int .i64 h2) = w1 at *
  clear hb c0 c1 c2 f2
  have hl1 := hb1.lt
  have c0 : w1.cell? ⟨g, 0, none⟩ = some (.slice A n c) := hb1.cell 0
  have c1 : w1.cell? ⟨g, 1, none⟩ = some (.int .i64 i) := hb1.cell 1
  have c2 : w1.cell? ⟨g, 2, none⟩ = some (.int .i64 h2) := hb1.cell 2
  go_cut [3] from 13 to 24 (fun v wx => (∃ x : Nat, x < 256 ∧ v = .int .i64 x) ∧ ∃ m, wx = w1.drewN m)
  case first =>
    go_quiet (fail)
    go_wp2_with fail
    go_meet
    obtain ⟨x, hx, e⟩ := and255 (bits BinOp.xor IntKind.i64 (h2 / 8589934592) (h2 / 140737488355328))
    exact ⟨⟨x, hx, by rw [e]⟩, _, rfl⟩
  case rest =>
    obtain ⟨⟨x, hx, rfl⟩, m, rfl⟩ := hcut
    have hb2 : Blk (w1.drewN m) g 52 #[.slice A n c, .int .i64 i, .int .i64 h2] := hb1
    have ho2 : Only g (g + 1) w.heap.size w (w1.drewN m) := ⟨ho1.os, ho1.tape, ho1.output, ho1.size, ho1.block⟩
    have hy2 : Byts (w1.drewN m) B A n := hy1.keep fun _ _ _ => rfl
    generalize w1.drewN m = w2 at *
    clear hb1 ho1 hy1 c0 c1 c2 hl1
    have hl2 := hb2.lt
    have c0 : w2.cell? ⟨g, 0, none⟩ = some (.slice A n c) := hb2.cell 0
    have c1 : w2.cell? ⟨g, 1, none⟩ = some (.int .i64 i) := hb2.cell 1
    have c2 : w2.cell? ⟨g, 2, none⟩ = some (.int .i64 h2) := hb2.cell 2
    by_cases hlt : i < n
    · obtain ⟨b, o, rfl, hbB, hcs⟩ := hy2.2 (by omega)
      obtain ⟨y, hy256, cy⟩ := hcs i hlt
      have hn := hy2.1
      unfold maxLen at hn
      have hlt2 : (i : Int) < (n : Int) := by omega
      have hd : decide ((i : Int) < (n : Int)) = true := by simpa using hlt
      clear hcs
      go_upto_region 3 with fail
      go_cut [34] from 25 to 34 (fun v wx => v = .bool true ∧ ∃ m, wx = w2.drewN m)
      case first =>
        go_quiet (fail)
        go_wp2_with fail
        go_meet
        exact ⟨by first | rfl | (rw [hd]), _, rfl⟩
      case rest =>
        obtain ⟨rfl, m3, rfl⟩ := hcut
        have hb3 : Blk (w2.drewN m3) g 52 #[.slice (some ⟨b, o, none⟩) n c, .int .i64 i, .int .i64 h2] := hb2
        have ho3 : Only g (g + 1) w.heap.size w (w2.drewN m3) := ⟨ho2.os, ho2.tape, ho2.output, ho2.size, ho2.block⟩
        have hy3 : Byts (w2.drewN m3) B (some ⟨b, o, none⟩) n := hy2.keep fun _ _ _ => rfl
        have cy3 : (w2.drewN m3).cell? ⟨b, o + i, none⟩ = some (.int .u8 y) := cy
        clear cy
        generalize w2.drewN m3 = w3 at *
        clear hb2 ho2 hy2 c0 c1 c2 hl2
        have hl3 := hb3.lt
        have c0 : w3.cell? ⟨g, 0, none⟩ = some (.slice (some ⟨b, o, none⟩) n c) := hb3.cell 0
        have c1 : w3.cell? ⟨g, 1, none⟩ = some (.int .i64 i) := hb3.cell 1
        have c2 : w3.cell? ⟨g, 2, none⟩ = some (.int .i64 h2) := hb3.cell 2
        have f1 : w3.frozen? ⟨g, 1, none⟩ = false := hb3.frozen 1
        go_upto_region 4 with fail
        go_cut [3] from 35 to 48 (fun v wx => (∃ x : Nat, x < 256 ∧ v = .int .i64 x) ∧ ∃ m, wx = w3.drewN m)
        case first =>
          go_quiet (fail)
          go_wp2_with fail
          go_meet
          obtain ⟨z, hz, e⟩ := and255 ((x : Int) + (y : Int))
          exact ⟨⟨z, hz, by first | rw [e] | (rw [← e]; done)⟩, _, rfl⟩
        case rest =>
          clear hx x
          obtain ⟨⟨x, hx, rfl⟩, m4, rfl⟩ := hcut
          have hb4 : Blk (w3.drewN m4) g 52 #[.slice (some ⟨b, o, none⟩) n c, .int .i64 i, .int .i64 h2] := hb3
          have ho4 : Only g (g + 1) w.heap.size w (w3.drewN m4) := ⟨ho3.os, ho3.tape, ho3.output, ho3.size, ho3.block⟩
          have hy4 : Byts (w3.drewN m4) B (some ⟨b, o, none⟩) n := hy3.keep fun _ _ _ => rfl
          generalize w3.drewN m4 = w4 at *
          clear hb3 ho3 hy3 c0 c1 c2 hl3
          have hl4 := hb4.lt
          have c0 : w4.cell? ⟨g, 0, none⟩ = some (.slice (some ⟨b, o, none⟩) n c) := hb4.cell 0
          have c1 : w4.cell? ⟨g, 1, none⟩ = some (.int .i64 i) := hb4.cell 1
          have c2 : w4.cell? ⟨g, 2, none⟩ = some (.int .i64 h2) := hb4.cell 2
          have f1 : w4.frozen? ⟨g, 1, none⟩ = false := hb4.frozen 1
          go_wp2_with fail
          go_ret
          refine ⟨⟨x, hx, rfl⟩, ⟨_, n, c, i + 1, h2, hb4.set_ 1 _, by omega, hy4.keep fun b' o' hb' => World.cell?_setCell_other _ _ _ _ (fun e => ?_), hB, q0.1, q0.2⟩, ho4.set (p := ⟨g, 1, none⟩) (Nat.le_refl _) (Nat.lt_succ_self _) _⟩
          have e2 : g = b' := congrArg Addr.block e
          omega
    · have hd : decide ((i : Int) < (n : Int)) = false := by simpa using hlt
      go_upto_region 3 with fail
      go_cut [34] from 25 to 34 (fun v wx => v = .bool false ∧ ∃ m, wx = w2.drewN m)
      case first =>
        go_quiet (fail)
        go_wp2_with fail
        go_meet
        exact ⟨by first | rfl | (rw [hd]), _, rfl⟩
      case rest =>
        obtain ⟨rfl, m3, rfl⟩ := hcut
        have hb3 : Blk (w2.drewN m3) g 52 #[.slice A n c, .int .i64 i, .int .i64 h2] := hb2
        have ho3 : Only g (g + 1) w.heap.size w (w2.drewN m3) := ⟨ho2.os, ho2.tape, ho2.output, ho2.size, ho2.block⟩
        have hy3 : Byts (w2.drewN m3) B A n := hy2.keep fun _ _ _ => rfl
        generalize w2.drewN m3 = w3 at *
        clear hb2 ho2 hy2 c0 c1 c2 hl2
        have hl3 := hb3.lt
        have c0 : w3.cell? ⟨g, 0, none⟩ = some (.slice A n c) := hb3.cell 0
        have c1 : w3.cell? ⟨g, 1, none⟩ = some (.int .i64 i) := hb3.cell 1
        have c2 : w3.cell? ⟨g, 2, none⟩ = some (.int .i64 h2) := hb3.cell 2
        have f1 : w3.frozen? ⟨g, 1, none⟩ = false := hb3.frozen 1
        go_wp2_with fail
        go_ret
        exact ⟨⟨x, hx, rfl⟩, ⟨A, n, c, i, h2, hb3, hi, hy3, hB, q0.1, q0.2⟩, ho3⟩
theorem and_range (a b : Int) : -9223372036854775808 ≤ bits .and .i64 a b ∧ bits .and .i64 a b ≤ 9223372036854775807 := by
  show -9223372036854775808 ≤ IntKind.i64.wrap _ ∧ IntKind.i64.wrap _ ≤ 9223372036854775807
  rw [IntKind.wrap_i64]
  omega
set_option maxHeartbeats 2000000 in
theorem l1New_any (A : Option Addr) (n c : Nat) (B : Nat) (w : World) (hB : B ≤ w.heap.size) (hy : Byts w B A n) : Calls Tryd.prog 13 #[.slice A n c] w fun e w' => e = .returned (.pointer (some ⟨w.heap.size, 0, none⟩)) ∧ Cur w' w.heap.size B ∧ Below w.heap.size w w' := by
  have hn := hy.1
  unfold maxLen at hn
  have HY := Lib.hid hy
  clear hy
  go_enter Tryd.func13, Tryd.ntmps13
  go_wp2_with fail
  go_loopw [3, 4] (fun hv iv wr => ∃ (k : Nat) (h : Int), k ≤ n ∧ iv = .int .i64 k ∧ hv = .int .i64 h ∧ (-9223372036854775808 ≤ h ∧ h ≤ 9223372036854775807) ∧ wr = w) (fun _ iv _ => n - (intOf iv).toNat)
  case atStart => exact ⟨0, _, Nat.zero_le _, rfl, rfl, by first | exact wrap_range _ | omega, rfl⟩
  case round =>
    obtain ⟨k, h, hk, rfl, rfl, hr, rfl⟩ := hrel
    by_cases hlt : k < n
    · have hlt1 : (k : Int) < (n : Int) := by omega
      have hd : decide ((k : Int) < (n : Int)) = true := by simpa using hlt
      by_cases h4 : k < 4000
      · have hd4 : decide ((k : Int) < 4000) = true := by simp; omega
        obtain ⟨b, o, rfl, hbB, hcs⟩ := HY.out.2 (by omega)
        obtain ⟨y, hy256, cy⟩ := hcs k hlt
        clear hcs
        go_wp2_with fail
        go_roundw
        case rel => exact ⟨k + 1, _, by omega, by go_num, rfl, and_range _ _, by first | rfl | trivial⟩
        case measure => simp [intOf]; omega
      · have hd4 : decide ((k : Int) < 4000) = false := by simp; omega
        go_wp2_with fail
        go_ret
        exact ⟨rfl, ⟨A, n, c, 0, h, Blk.new _ _ _, Nat.zero_le _, HY.out.keep fun b o hb => World.cell?_alloc_old _ _ _ (by show b ≠ _; omega), hB, hr.1, hr.2⟩, (Below.refl _ _).alloc (Nat.le_refl _) _⟩
    · have hd : decide ((k : Int) < (n : Int)) = false := by simp; omega
      go_wp2_with fail
      go_ret
      exact ⟨rfl, ⟨A, n, c, 0, h, Blk.new _ _ _, Nat.zero_le _, HY.out.keep fun b o hb => World.cell?_alloc_old _ _ _ (by show b ≠ _; omega), hB, hr.1, hr.2⟩, (Below.refl _ _).alloc (Nat.le_refl _) _⟩
set_option maxHeartbeats 2000000 in
/-- 0 .. m - 1, for 1 ≤ m ≤ 256. -/
theorem l1Below_any (g B : Nat) (m : Nat) (h1 : 1 ≤ m) (h2 : m ≤ 256) (w : World) (hc : Cur w g B) : Calls Tryd.prog 25 #[.pointer (some ⟨g, 0, none⟩), .int .i64 m] w fun e w' => (∃ x : Nat, x < m ∧ e = .returned (.int .i64 x)) ∧ Cur w' g B ∧ Only g (g + 1) w.heap.size w w' := by
  have HC := Lib.hid hc
  clear hc
  go_enter Tryd.func25, Tryd.ntmps25
  go_wp2_with (go_at_call 36; refine (l1Byte_any g B _ HC.out).mono ?_; rintro e w1 ⟨⟨x, hx, rfl⟩, hc1, ho1⟩)
  go_ret
  exact ⟨⟨x % m, Nat.mod_lt _ (by omega), by first | rfl | (rw [Int.natCast_mod])⟩, hc1, ho1⟩
theorem l1BelowZ (g B : Nat) (z : Int) (h1 : 1 ≤ z) (h2 : z ≤ 256) (w : World) (hc : Cur w g B) : Calls Tryd.prog 25 #[.pointer (some ⟨g, 0, none⟩), .int .i64 z] w fun e w' => (∃ x : Nat, (x : Int) < z ∧ e = .returned (.int .i64 x)) ∧ Cur w' g B ∧ Only g (g + 1) w.heap.size w w' := by
  obtain ⟨m, rfl⟩ : ∃ m : Nat, z = m := ⟨z.toNat, by omega⟩
  refine (l1Below_any g B m (by omega) (by omega) w hc).mono ?_
  rintro e w' ⟨⟨x, hx, rfl⟩, h3, h4⟩
  exact ⟨⟨x, by omega, rfl⟩, h3, h4⟩
theorem l1Once_any (g B : Nat) (m : Nat) (h1 : 1 ≤ m) (h2 : m ≤ 256) (w : World) (hc : Cur w g B) : Calls Tryd.prog 15 #[.pointer (some ⟨g, 0, none⟩), .int .i64 m] w fun e w' => (∃ x : Bool, e = .returned (.bool x)) ∧ Cur w' g B ∧ Only g (g + 1) w.heap.size w w' := by
  have HC := Lib.hid hc
  clear hc
  go_enter Tryd.func15, Tryd.ntmps15
  go_wp2_with (go_at_call 25; refine (l1Below_any g B m h1 h2 _ HC.out).mono ?_; rintro e w1 ⟨⟨x, hx, rfl⟩, hc1, ho1⟩)
  go_ret
  exact ⟨⟨_, rfl⟩, hc1, ho1⟩
set_option maxHeartbeats 2000000 in
/-- One of the strings of a row. -/
theorem l1Str_any (g B : Nat) (X m c : Nat) (f : Nat → ByteArray) (h1 : 1 ≤ m) (h2 : m ≤ 256) (w : World) (hc : Cur w g B) (hX : X < w.heap.size) (hXg : X ≠ g) (hf : ∀ k, k < m → w.cell? ⟨X, k, none⟩ = some (.string (f k))) :
    Calls Tryd.prog 16 #[.pointer (some ⟨g, 0, none⟩), .slice (some ⟨X, 0, none⟩) m c] w fun e w' => (∃ k, k < m ∧ e = .returned (.string (f k))) ∧ Cur w' g B ∧ Only g (g + 1) w.heap.size w w' := by
  have HC := Lib.hid hc
  have CX := Lib.hid (fun (w1 : World) (x : Nat) (hx : x < m) (ho : Only g (g + 1) w.heap.size w w1) => (show w1.cell? ⟨X, x, none⟩ = some (.string (f x)) from (ho.cellB (p := ⟨X, x, none⟩) hX (by show X < _ ∨ _ ≤ X; omega)).trans (hf x hx)))
  clear hc hf
  go_enter Tryd.func16, Tryd.ntmps16
  go_wp2_with (go_at_call 25; refine (l1Below_any g B m h1 h2 _ HC.out).mono ?_; rintro e w1 ⟨⟨x, hx, rfl⟩, hc1, ho1⟩; have cx := CX.out w1 x hx ho1)
  go_ret
  exact ⟨⟨x, hx, rfl⟩, hc1, ho1⟩
set_option maxHeartbeats 2000000 in
theorem l1Int_any (g B : Nat) (X m c : Nat) (f : Nat → Int) (h1 : 1 ≤ m) (h2 : m ≤ 256) (w : World) (hc : Cur w g B) (hX : X < w.heap.size) (hXg : X ≠ g) (hf : ∀ k, k < m → w.cell? ⟨X, k, none⟩ = some (.int .i64 (f k))) :
    Calls Tryd.prog 32 #[.pointer (some ⟨g, 0, none⟩), .slice (some ⟨X, 0, none⟩) m c] w fun e w' => (∃ k, k < m ∧ e = .returned (.int .i64 (f k))) ∧ Cur w' g B ∧ Only g (g + 1) w.heap.size w w' := by
  have HC := Lib.hid hc
  have CX := Lib.hid (fun (w1 : World) (x : Nat) (hx : x < m) (ho : Only g (g + 1) w.heap.size w w1) => (show w1.cell? ⟨X, x, none⟩ = some (.int .i64 (f x)) from (ho.cellB (p := ⟨X, x, none⟩) hX (by show X < _ ∨ _ ≤ X; omega)).trans (hf x hx)))
  clear hc hf
  go_enter Tryd.func32, Tryd.ntmps32
  go_wp2_with (go_at_call 25; refine (l1Below_any g B m h1 h2 _ HC.out).mono ?_; rintro e w1 ⟨⟨x, hx, rfl⟩, hc1, ho1⟩; have cx := CX.out w1 x hx ho1)
  go_ret
  exact ⟨⟨x, hx, rfl⟩, hc1, ho1⟩
/-! ### rows that are written out -/
def sAt (cs : Array Value) (k : Nat) : ByteArray := match cs[k]? with | some (.string s) => s | _ => ByteArray.empty
def strRowB (cs : Array Value) (m M : Nat) : Bool := (List.range m).all fun k => match cs[k]? with | some (.string s) => decide (s.size ≤ M) | _ => false
theorem strRow_at {cs : Array Value} {m M : Nat} (h : strRowB cs m M = true) {k : Nat} (hk : k < m) : cs[k]? = some (.string (sAt cs k)) ∧ (sAt cs k).size ≤ M := by
  have := List.all_eq_true.1 h k (List.mem_range.2 hk)
  unfold sAt
  generalize cs[k]? = o at *
  match o, this with
  | some (.string s), h' => exact ⟨rfl, by simpa using h'⟩
theorem l1StrL (g B m M : Nat) (cs : Array Value) (T : TypeId) (w : World) (h1 : 1 ≤ m) (h2 : m ≤ 256) (hcs : strRowB cs m M = true) (hc : Cur w g B) :
    Calls Tryd.prog 16 #[.pointer (some ⟨g, 0, none⟩), .slice (some ⟨w.heap.size, 0, none⟩) m m] (w.alloc (.cells cs T)) fun e w' => (∃ s : ByteArray, s.size ≤ M ∧ e = .returned (.string s)) ∧ Cur w' g B ∧ Only g (g + 1) w.heap.size w w' := by
  have hl := hc.lt
  refine (l1Str_any g B w.heap.size m m (sAt cs) h1 h2 (w.alloc (.cells cs T)) (hc.alloc _) (by simp) (by omega) (fun k hk => (World.cell?_alloc_at _ _ _ _ rfl).trans (strRow_at hcs hk).1)).mono ?_
  rintro e w' ⟨⟨k, hk, rfl⟩, hc', ho⟩
  exact ⟨⟨_, (strRow_at hcs hk).2, rfl⟩, hc', (only_of_below ((Below.refl _ _).alloc (Nat.le_refl _) _)).trans (ho.less (by simp))⟩
def iAt (cs : Array Value) (k : Nat) : Int := match cs[k]? with | some (.int .i64 z) => z | _ => 0
def intRowB (cs : Array Value) (m : Nat) (a b : Int) : Bool := (List.range m).all fun k => match cs[k]? with | some (.int .i64 z) => decide (a ≤ z) && decide (z ≤ b) | _ => false
theorem intRow_at {cs : Array Value} {m : Nat} {a b : Int} (h : intRowB cs m a b = true) {k : Nat} (hk : k < m) : cs[k]? = some (.int .i64 (iAt cs k)) ∧ a ≤ iAt cs k ∧ iAt cs k ≤ b := by
  have := List.all_eq_true.1 h k (List.mem_range.2 hk)
  unfold iAt
  generalize cs[k]? = o at *
  match o, this with
  | some (.int .i64 z), h' => exact ⟨rfl, by simpa using h'⟩
theorem l1IntL (g B m : Nat) (a b : Int) (cs : Array Value) (T : TypeId) (w : World) (h1 : 1 ≤ m) (h2 : m ≤ 256) (hcs : intRowB cs m a b = true) (hc : Cur w g B) :
    Calls Tryd.prog 32 #[.pointer (some ⟨g, 0, none⟩), .slice (some ⟨w.heap.size, 0, none⟩) m m] (w.alloc (.cells cs T)) fun e w' => (∃ z : Int, a ≤ z ∧ z ≤ b ∧ e = .returned (.int .i64 z)) ∧ Cur w' g B ∧ Only g (g + 1) w.heap.size w w' := by
  have hl := hc.lt
  refine (l1Int_any g B w.heap.size m m (iAt cs) h1 h2 (w.alloc (.cells cs T)) (hc.alloc _) (by simp) (by omega) (fun k hk => (World.cell?_alloc_at _ _ _ _ rfl).trans (intRow_at hcs hk).1)).mono ?_
  rintro e w' ⟨⟨k, hk, rfl⟩, hc', ho⟩
  exact ⟨⟨_, (intRow_at hcs hk).2.1, (intRow_at hcs hk).2.2, rfl⟩, hc', (only_of_below ((Below.refl _ _).alloc (Nat.le_refl _) _)).trans (ho.less (by simp))⟩
theorem l5Word_any (g B : Nat) (w : World) (hc : Cur w g B) : Calls Tryd.prog 24 #[.pointer (some ⟨g, 0, none⟩)] w fun e w' => (∃ s : ByteArray, s.size ≤ 100 ∧ e = .returned (.string s)) ∧ Cur w' g B ∧ Only g (g + 1) w.heap.size w w' := by
  have HC := Lib.hid hc
  clear hc
  go_enter Tryd.func24, Tryd.ntmps24
  go_wp2_with (go_at_call 16; refine (l1StrL g B 20 100 _ _ w (by decide) (by decide) (by kernel_rfl) HC.out).mono ?_; rintro e w1 ⟨⟨s, hs, rfl⟩, hc1, ho1⟩)
  go_ret
  exact ⟨⟨s, hs, rfl⟩, hc1, ho1⟩
/-! ### the argument of a law over drawn inputs -/
theorem open_byt {H : Type} {enc : TypeId × Value → H} {W : World} {base : Nat} {v : Value} {d : DataW H} {p : List MemPlace} (k0 : Value.okWide Tryd.prog W .any base 22 v) (h0 : DataW.Trod enc Tryd.prog W 0 (fun _ => true) true 22 v d p) :
    ∃ A n c, v = .slice A n c ∧ Byts W W.heap.size A n := by
  obtain ⟨a1, len, cap, rfl⟩ := okWide_slice Tryd.underlying22 k0
  obtain ⟨fuel, hf⟩ := h0
  obtain ⟨v, l, hc, hr, hl⟩ := open_flat (k := 1) (cf := fun (x : Nat) => [Value.int .u8 x]) (ok := fun x => x < 256) (fun _ => rfl) (by omega) Tryd.underlying22 (by kernel_rfl) (fun n cs' y' h => by
    obtain ⟨z, rfl, _, hw⟩ := DataW.trod_int Tryd.underlying5 h
    unfold Lit.wf at hw
    rw [Bool.and_eq_true, decide_eq_true_iff, decide_eq_true_iff] at hw
    have h0 : (0 : Int) ≤ z := hw.1
    have h1 : z ≤ 255 := hw.2
    refine ⟨z.toNat, ?_, by omega⟩
    have : ((z.toNat : Nat) : Int) = z := by omega
    rw [this]) hf
  have hv : v = .slice a1 len cap := by simpa [Value.cells] using hc.symm
  subst hv
  obtain ⟨A, c, e, hn, hm, hx, hh⟩ := hr
  injection e with e1 e2 e3
  subst e1 e2 e3
  refine ⟨_, _, _, rfl, by omega, fun hn' => ?_⟩
  obtain ⟨b, o, rfl, hb, hcell⟩ := hh hn'
  refine ⟨b, o, rfl, hb, fun k hk => ?_⟩
  have hk2 : l[k]? = some l[k] := List.getElem?_eq_getElem hk
  refine ⟨l[k], hl _ (List.getElem_mem _), hcell k _ ?_⟩
  have := flat_get (k := 1) (cf := fun (x : Nat) => [Value.int .u8 x]) (fun _ => rfl) l k l[k] hk2 0 (by omega)
  simpa using this
theorem big_any (A : Option Addr) (n c : Nat) (w : World) : Calls Tryd.prog 4 #[.slice A n c] w fun e w' => e = .returned (.bool (decide (1048576 < n))) ∧ w = w' := by
  go_enter Tryd.func4, Tryd.ntmps4
  go_wp2
  go_ret
  exact ⟨ret_bool (decide_eq_decide.2 (by omega)), rfl⟩
end Go.Proofs.YtnkidlahmplgnaaDoor
