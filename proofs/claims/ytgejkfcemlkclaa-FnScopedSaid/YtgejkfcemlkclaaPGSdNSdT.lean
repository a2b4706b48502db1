/-
  Parts of the proof: SdN, Drw, SdW, SdT. Conditions: none.
-/
import Derived.Test.YtgejkfcemlkclaaPGBaseNd
import Derived.Deep.CutRange
import Derived.Deep.QuietTactic
import Derived.BigQuiet
import Derived.Deep.Cut
set_option linter.unusedVariables false
set_option linter.unusedSimpArgs false
namespace Go.Proofs.Ytgejkfcemlkclaa
open Go.ChangeShapes Go.WideShapes Go.ChangeAt Go.RowKit Go.Deep Go.Joins
open Go.ChangeMaps (open_string shut_string)
set_option maxRecDepth 100000
theorem l15N_any (k : Int) (t : ByteArray) (A : Option Addr) (n c : Nat) (w : World) : Calls Try.prog 27 #[.int .i64 k, .string t, .slice A n c] w fun e w' => e = .returned (.agg #[.int .i64 k, .int .i64 0, .string t, .slice A n c]) ∧ Below w.heap.size w w' := by
  have HB := Lib.hid ((Below.refl w.heap.size w).alloc (Nat.le_refl _) (.cells #[.int .i64 k, .int .i64 0, .string t, .slice A n c] 29))
  have bk := Blk.new w 29 #[.int .i64 k, .int .i64 0, .string t, .slice A n c]
  have bk0 := bk.cell 0
  have bk1 := bk.cell 1
  have bk2 := bk.cell 2
  have bk3 := bk.cell 3
  have bkl := bk.lt
  go_enter Try.func27, Try.ntmps27
  go_wp2_with fail
  refine bodyPost_ret (v := .agg #[.int .i64 k, .int .i64 0, .string t, .slice A n c]) (by simp [results, Try.results27, go_sem, bk0, bk1, bk2, bk3, bkl]) rfl ⟨rfl, HB.out⟩
end Go.Proofs.Ytgejkfcemlkclaa
namespace Go.Proofs.Ytgejkfcemlkclaa
set_option maxHeartbeats 40000000
open Lib (hid)
open Go.ChangeShapes Go.WideShapes Go.ChangeAt Go.RowKit Go.Deep Go.Joins
open Go.ChangeMaps (open_string shut_string)
set_option maxRecDepth 100000
/-- n bytes lie behind the slice, below block B. -/
def Byts (w : World) (B : Nat) (A : Option Addr) (n : Nat) : Prop :=
  n ≤ maxLen ∧ (0 < n → ∃ b o, A = some ⟨b, o, none⟩ ∧ b < B ∧ ∀ k, k < n → ∃ x : Nat, x < 256 ∧ w.cell? ⟨b, o + k, none⟩ = some (.int .u8 x))
theorem Byts.keep {w w' : World} {B n : Nat} {A : Option Addr} (h : Byts w B A n) (hk : ∀ b o, b < B → w'.cell? ⟨b, o, none⟩ = w.cell? ⟨b, o, none⟩) : Byts w' B A n :=
  ⟨h.1, fun hn => by obtain ⟨b, o, e, hb, hc⟩ := h.2 hn; exact ⟨b, o, e, hb, fun k hk' => by obtain ⟨x, hx, e2⟩ := hc k hk'; exact ⟨x, hx, (hk _ _ hb).trans e2⟩⟩⟩
/-- The cursor in block g over bytes below block B. -/
def Cur (w : World) (g B : Nat) : Prop := ∃ (A : Option Addr) (n c : Nat) (i : Nat) (h : Int), Blk w g 64 #[.slice A n c, .int .i64 i, .int .i64 h] ∧ i ≤ n ∧ Byts w B A n ∧ B ≤ g ∧ -9223372036854775808 ≤ h ∧ h ≤ 9223372036854775807
theorem Cur.lt {w : World} {g B : Nat} (h : Cur w g B) : g < w.heap.size := by obtain ⟨_, _, _, _, _, hb, _⟩ := h; exact hb.lt
theorem Cur.le {w : World} {g B : Nat} (h : Cur w g B) : B ≤ g := by obtain ⟨_, _, _, _, _, _, _, _, h, _⟩ := h; exact h
theorem Cur.below {w w' : World} {g B : Nat} (h : Cur w g B) (hb : Below w.heap.size w w') : Cur w' g B := by
  have hl := h.lt
  obtain ⟨A, n, c, i, x, h1, h2, h3, h4, h5⟩ := h
  exact ⟨A, n, c, i, x, h1.below hb (Nat.le_refl _), h2, h3.keep fun b o hB => (bcell hb).1 _ _ (by omega), h4, h5⟩
theorem Cur.drew {w : World} {g B : Nat} (h : Cur w g B) : Cur w.drew g B := h.below (Below.refl _ _).drew
theorem Cur.alloc {w : World} {g B : Nat} (h : Cur w g B) (o : Obj) : Cur (w.alloc o) g B := h.below ((Below.refl _ _).alloc (Nat.le_refl _) _)
theorem Only.cellB {lo hi C : Nat} {a b : World} (h : Only lo hi C a b) {p : Addr} (hC : p.block < C) (hd : p.block < lo ∨ hi ≤ p.block) : b.cell? p = a.cell? p := by
  have := h.block p.block hC hd
  simp [World.cell?, this]
theorem Cur.far {w : World} {g B : Nat} (h : Cur w g B) {p : Addr} (hp : p.block ≠ g) (hB : B ≤ p.block) (u : Value) : Cur (w.setCell p u) g B := by
  obtain ⟨A, n, c, i, x, h1, h2, h3, h4, h5⟩ := h
  refine ⟨A, n, c, i, x, h1.far (fun e => hp e.symm) u, h2, h3.keep fun b o hb => World.cell?_setCell_other _ _ _ _ (fun e => ?_), h4, h5⟩
  have e2 : p.block = b := by rw [e]
  omega
theorem and255 (z : Int) : ∃ x : Nat, x < 256 ∧ bits .and .i64 z 255 = (x : Int) := by
  have h255 : (BitVec.ofInt 64 255).toNat = 2 ^ 8 - 1 := by decide
  have key : (BitVec.ofInt 64 z &&& BitVec.ofInt 64 255).toNat = (z % ((2 ^ 64 : Nat) : Int)).toNat % 2 ^ 8 := by
    rw [BitVec.toNat_and, BitVec.toNat_ofInt, h255, Nat.and_two_pow_sub_one_eq_mod]
  refine ⟨(z % ((2 ^ 64 : Nat) : Int)).toNat % 2 ^ 8, Nat.mod_lt _ (by decide), ?_⟩
  show IntKind.i64.wrap ((BitVec.ofInt 64 z &&& BitVec.ofInt 64 255).toNat : Nat) = _
  rw [key, IntKind.wrap_i64]
  omega
theorem wrap_range (z : Int) : -9223372036854775808 ≤ wrap64 z ∧ wrap64 z ≤ 9223372036854775807 := by
  unfold wrap64; omega
theorem l1Byte_any (g B : Nat) (w : World) (hc : Cur w g B) : Calls Try.prog 48 #[.pointer (some ⟨g, 0, none⟩)] w fun e w' => (∃ x : Nat, x < 256 ∧ e = .returned (.int .i64 x)) ∧ Cur w' g B ∧ Only g (g + 1) w.heap.size w w' := by
  obtain ⟨A, n, c, i, h, hb, hi, hy, hB, r0, r1⟩ := hc
  have HY := hid hy
  clear hy
  have c0 : w.cell? ⟨g, 0, none⟩ = some (.slice A n c) := hb.cell 0
  have c1 : w.cell? ⟨g, 1, none⟩ = some (.int .i64 i) := hb.cell 1
  have c2 : w.cell? ⟨g, 2, none⟩ = some (.int .i64 h) := hb.cell 2
  have f2 : w.frozen? ⟨g, 2, none⟩ = false := hb.frozen 2
  have hl := hb.lt
  go_enter Try.func48, Try.ntmps48
  go_upto_region 2 with fail
  have hwr := wrap_range (wrap64 (h * 6364136223846793005) + 1442695040888963407)
  generalize hh : wrap64 (wrap64 (h * 6364136223846793005) + 1442695040888963407) = h2 at *
  have q0 := hwr
  clear hwr hh
  have hb1 : Blk (w.setCell ⟨g, 2, none⟩ (.int .i64 h2)) g 64 #[.slice A n c, .int .i64 i, .int .i64 h2] := hb.set_ 2 _
  have ho1 : Only g (g + 1) w.heap.size w (w.setCell ⟨g, 2, none⟩ (.int .i64 h2)) := (Only.refl _ _ _ _).set (p := ⟨g, 2, none⟩) (Nat.le_refl _) (Nat.lt_succ_self _) _
  have hy1 : Byts (w.setCell ⟨g, 2, none⟩ (.int .i64 h2)) B A n := HY.out.keep fun b o hb' => ho1.cellB (p := ⟨b, o, none⟩) (by show b < _; omega) (.inl (by show b < _; omega))
  generalize w.setCell ⟨g, 2, none⟩ (.int .i64 h2) = w1 at *
  clear hb c0 c1 c2 f2
  have hl1 := hb1.lt
  have c0 : w1.cell? ⟨g, 0, none⟩ = some (.slice A n c) := hb1.cell 0
  have c1 : w1.cell? ⟨g, 1, none⟩ = some (.int .i64 i) := hb1.cell 1
  have c2 : w1.cell? ⟨g, 2, none⟩ = some (.int .i64 h2) := hb1.cell 2
  go_cut [3] from 13 to 24 (fun v wx => (∃ x : Nat, x < 256 ∧ v = .int .i64 x) ∧ ∃ m, wx = w1.drewN m)
  case first =>
    go_quiet (fail)
    go_wp2_with fail
    go_meet
    obtain ⟨x, hx, e⟩ := and255 (bits BinOp.xor IntKind.i64 (h2 / 8589934592) (h2 / 140737488355328))
    exact ⟨⟨x, hx, by rw [e]⟩, _, rfl⟩
  case rest =>
    obtain ⟨⟨x, hx, rfl⟩, m, rfl⟩ := hcut
    have hb2 : Blk (w1.drewN m) g 64 #[.slice A n c, .int .i64 i, .int .i64 h2] := hb1
    have ho2 : Only g (g + 1) w.heap.size w (w1.drewN m) := ⟨ho1.os, ho1.tape, ho1.output, ho1.size, ho1.block⟩
    have hy2 : Byts (w1.drewN m) B A n := hy1.keep fun _ _ _ => rfl
    generalize w1.drewN m = w2 at *
    clear hb1 ho1 hy1 c0 c1 c2 hl1
    have hl2 := hb2.lt
    have c0 : w2.cell? ⟨g, 0, none⟩ = some (.slice A n c) := hb2.cell 0
    have c1 : w2.cell? ⟨g, 1, none⟩ = some (.int .i64 i) := hb2.cell 1
    have c2 : w2.cell? ⟨g, 2, none⟩ = some (.int .i64 h2) := hb2.cell 2
    by_cases hlt : i < n
    · obtain ⟨b, o, rfl, hbB, hcs⟩ := hy2.2 (by omega)
      obtain ⟨y, hy256, cy⟩ := hcs i hlt
      have hn := hy2.1
      unfold maxLen at hn
      have hlt2 : (i : Int) < (n : Int) := by omega
      have hd : decide ((i : Int) < (n : Int)) = true := by simpa using hlt
      clear hcs
      go_upto_region 3 with fail
      go_cut [34] from 25 to 34 (fun v wx => v = .bool true ∧ ∃ m, wx = w2.drewN m)
      case first =>
        go_quiet (fail)
        go_wp2_with fail
        go_meet
        exact ⟨by first | rfl | (rw [hd]), _, rfl⟩
      case rest =>
        obtain ⟨rfl, m3, rfl⟩ := hcut
        have hb3 : Blk (w2.drewN m3) g 64 #[.slice (some ⟨b, o, none⟩) n c, .int .i64 i, .int .i64 h2] := hb2
        have ho3 : Only g (g + 1) w.heap.size w (w2.drewN m3) := ⟨ho2.os, ho2.tape, ho2.output, ho2.size, ho2.block⟩
        have hy3 : Byts (w2.drewN m3) B (some ⟨b, o, none⟩) n := hy2.keep fun _ _ _ => rfl
        have cy3 : (w2.drewN m3).cell? ⟨b, o + i, none⟩ = some (.int .u8 y) := cy
        clear cy
        generalize w2.drewN m3 = w3 at *
        clear hb2 ho2 hy2 c0 c1 c2 hl2
        have hl3 := hb3.lt
        have c0 : w3.cell? ⟨g, 0, none⟩ = some (.slice (some ⟨b, o, none⟩) n c) := hb3.cell 0
        have c1 : w3.cell? ⟨g, 1, none⟩ = some (.int .i64 i) := hb3.cell 1
        have c2 : w3.cell? ⟨g, 2, none⟩ = some (.int .i64 h2) := hb3.cell 2
        have f1 : w3.frozen? ⟨g, 1, none⟩ = false := hb3.frozen 1
        go_upto_region 4 with fail
        go_cut [3] from 35 to 48 (fun v wx => (∃ x : Nat, x < 256 ∧ v = .int .i64 x) ∧ ∃ m, wx = w3.drewN m)
        case first =>
          go_quiet (fail)
          go_wp2_with fail
          go_meet
          obtain ⟨z, hz, e⟩ := and255 ((x : Int) + (y : Int))
          exact ⟨⟨z, hz, by first | rw [e] | (rw [← e]; done)⟩, _, rfl⟩
        case rest =>
          clear hx x
          obtain ⟨⟨x, hx, rfl⟩, m4, rfl⟩ := hcut
          have hb4 : Blk (w3.drewN m4) g 64 #[.slice (some ⟨b, o, none⟩) n c, .int .i64 i, .int .i64 h2] := hb3
          have ho4 : Only g (g + 1) w.heap.size w (w3.drewN m4) := ⟨ho3.os, ho3.tape, ho3.output, ho3.size, ho3.block⟩
          have hy4 : Byts (w3.drewN m4) B (some ⟨b, o, none⟩) n := hy3.keep fun _ _ _ => rfl
          generalize w3.drewN m4 = w4 at *
          clear hb3 ho3 hy3 c0 c1 c2 hl3
          have hl4 := hb4.lt
          have c0 : w4.cell? ⟨g, 0, none⟩ = some (.slice (some ⟨b, o, none⟩) n c) := hb4.cell 0
          have c1 : w4.cell? ⟨g, 1, none⟩ = some (.int .i64 i) := hb4.cell 1
          have c2 : w4.cell? ⟨g, 2, none⟩ = some (.int .i64 h2) := hb4.cell 2
          have f1 : w4.frozen? ⟨g, 1, none⟩ = false := hb4.frozen 1
          go_wp2_with fail
          go_ret
          refine ⟨⟨x, hx, rfl⟩, ⟨_, n, c, i + 1, h2, hb4.set_ 1 _, by omega, hy4.keep fun b' o' hb' => World.cell?_setCell_other _ _ _ _ (fun e => ?_), hB, q0.1, q0.2⟩, ho4.set (p := ⟨g, 1, none⟩) (Nat.le_refl _) (Nat.lt_succ_self _) _⟩
          have e2 : g = b' := congrArg Addr.block e
          omega
    · have hd : decide ((i : Int) < (n : Int)) = false := by simpa using hlt
      go_upto_region 3 with fail
      go_cut [34] from 25 to 34 (fun v wx => v = .bool false ∧ ∃ m, wx = w2.drewN m)
      case first =>
        go_quiet (fail)
        go_wp2_with fail
        go_meet
        exact ⟨by first | rfl | (rw [hd]), _, rfl⟩
      case rest =>
        obtain ⟨rfl, m3, rfl⟩ := hcut
        have hb3 : Blk (w2.drewN m3) g 64 #[.slice A n c, .int .i64 i, .int .i64 h2] := hb2
        have ho3 : Only g (g + 1) w.heap.size w (w2.drewN m3) := ⟨ho2.os, ho2.tape, ho2.output, ho2.size, ho2.block⟩
        have hy3 : Byts (w2.drewN m3) B A n := hy2.keep fun _ _ _ => rfl
        generalize w2.drewN m3 = w3 at *
        clear hb2 ho2 hy2 c0 c1 c2 hl2
        have hl3 := hb3.lt
        have c0 : w3.cell? ⟨g, 0, none⟩ = some (.slice A n c) := hb3.cell 0
        have c1 : w3.cell? ⟨g, 1, none⟩ = some (.int .i64 i) := hb3.cell 1
        have c2 : w3.cell? ⟨g, 2, none⟩ = some (.int .i64 h2) := hb3.cell 2
        have f1 : w3.frozen? ⟨g, 1, none⟩ = false := hb3.frozen 1
        go_wp2_with fail
        go_ret
        exact ⟨⟨x, hx, rfl⟩, ⟨A, n, c, i, h2, hb3, hi, hy3, hB, q0.1, q0.2⟩, ho3⟩
theorem and_range (a b : Int) : -9223372036854775808 ≤ bits .and .i64 a b ∧ bits .and .i64 a b ≤ 9223372036854775807 := by
  show -9223372036854775808 ≤ IntKind.i64.wrap _ ∧ IntKind.i64.wrap _ ≤ 9223372036854775807
  rw [IntKind.wrap_i64]
  omega
theorem l1New_any (A : Option Addr) (n c : Nat) (B : Nat) (w : World) (hB : B ≤ w.heap.size) (hy : Byts w B A n) : Calls Try.prog 24 #[.slice A n c] w fun e w' => e = .returned (.pointer (some ⟨w.heap.size, 0, none⟩)) ∧ Cur w' w.heap.size B ∧ Below w.heap.size w w' := by
  have hn := hy.1
  unfold maxLen at hn
  have HY := hid hy
  clear hy
  go_enter Try.func24, Try.ntmps24
  go_wp2_with fail
  go_loopw [3, 4] (fun hv iv wr => ∃ (k : Nat) (h : Int), k ≤ n ∧ iv = .int .i64 k ∧ hv = .int .i64 h ∧ (-9223372036854775808 ≤ h ∧ h ≤ 9223372036854775807) ∧ wr = w) (fun _ iv _ => n - (intOf iv).toNat)
  case atStart => exact ⟨0, _, Nat.zero_le _, rfl, rfl, by first | exact wrap_range _ | omega, rfl⟩
  case round =>
    obtain ⟨k, h, hk, rfl, rfl, hr, rfl⟩ := hrel
    by_cases hlt : k < n
    · have hlt1 : (k : Int) < (n : Int) := by omega
      have hd : decide ((k : Int) < (n : Int)) = true := by simpa using hlt
      by_cases h4 : k < 4000
      · have hd4 : decide ((k : Int) < 4000) = true := by simp; omega
        obtain ⟨b, o, rfl, hbB, hcs⟩ := HY.out.2 (by omega)
        obtain ⟨y, hy256, cy⟩ := hcs k hlt
        clear hcs
        go_wp2_with fail
        go_roundw
        case rel => exact ⟨k + 1, _, by omega, by go_num, rfl, and_range _ _, by first | rfl | trivial⟩
        case measure => simp [intOf]; omega
      · have hd4 : decide ((k : Int) < 4000) = false := by simp; omega
        go_wp2_with fail
        go_ret
        exact ⟨rfl, ⟨A, n, c, 0, h, Blk.new _ _ _, Nat.zero_le _, HY.out.keep fun b o hb => World.cell?_alloc_old _ _ _ (by show b ≠ _; omega), hB, hr.1, hr.2⟩, (Below.refl _ _).alloc (Nat.le_refl _) _⟩
    · have hd : decide ((k : Int) < (n : Int)) = false := by simp; omega
      go_wp2_with fail
      go_ret
      exact ⟨rfl, ⟨A, n, c, 0, h, Blk.new _ _ _, Nat.zero_le _, HY.out.keep fun b o hb => World.cell?_alloc_old _ _ _ (by show b ≠ _; omega), hB, hr.1, hr.2⟩, (Below.refl _ _).alloc (Nat.le_refl _) _⟩
/-- 0 .. m - 1, for 1 ≤ m ≤ 256. -/
theorem l1Below_any (g B : Nat) (m : Nat) (h1 : 1 ≤ m) (h2 : m ≤ 256) (w : World) (hc : Cur w g B) : Calls Try.prog 30 #[.pointer (some ⟨g, 0, none⟩), .int .i64 m] w fun e w' => (∃ x : Nat, x < m ∧ e = .returned (.int .i64 x)) ∧ Cur w' g B ∧ Only g (g + 1) w.heap.size w w' := by
  have HC := hid hc
  clear hc
  go_enter Try.func30, Try.ntmps30
  go_wp2_with (go_at_call 48; refine (l1Byte_any g B _ HC.out).mono ?_; rintro e w1 ⟨⟨x, hx, rfl⟩, hc1, ho1⟩)
  go_ret
  exact ⟨⟨x % m, Nat.mod_lt _ (by omega), by first | rfl | (rw [Int.natCast_mod])⟩, hc1, ho1⟩
theorem l1Once_any (g B : Nat) (m : Nat) (h1 : 1 ≤ m) (h2 : m ≤ 256) (w : World) (hc : Cur w g B) : Calls Try.prog 45 #[.pointer (some ⟨g, 0, none⟩), .int .i64 m] w fun e w' => (∃ x : Bool, e = .returned (.bool x)) ∧ Cur w' g B ∧ Only g (g + 1) w.heap.size w w' := by
  have HC := hid hc
  clear hc
  go_enter Try.func45, Try.ntmps45
  go_wp2_with (go_at_call 30; refine (l1Below_any g B m h1 h2 _ HC.out).mono ?_; rintro e w1 ⟨⟨x, hx, rfl⟩, hc1, ho1⟩)
  go_ret
  exact ⟨⟨_, rfl⟩, hc1, ho1⟩
/-- One of the strings of a row. -/
theorem l1Str_any (g B : Nat) (X m c : Nat) (f : Nat → ByteArray) (h1 : 1 ≤ m) (h2 : m ≤ 256) (w : World) (hc : Cur w g B) (hX : X < w.heap.size) (hXg : X ≠ g) (hf : ∀ k, k < m → w.cell? ⟨X, k, none⟩ = some (.string (f k))) :
    Calls Try.prog 28 #[.pointer (some ⟨g, 0, none⟩), .slice (some ⟨X, 0, none⟩) m c] w fun e w' => (∃ k, k < m ∧ e = .returned (.string (f k))) ∧ Cur w' g B ∧ Only g (g + 1) w.heap.size w w' := by
  have HC := hid hc
  have CX := hid (fun (w1 : World) (x : Nat) (hx : x < m) (ho : Only g (g + 1) w.heap.size w w1) => (show w1.cell? ⟨X, x, none⟩ = some (.string (f x)) from (ho.cellB (p := ⟨X, x, none⟩) hX (by show X < _ ∨ _ ≤ X; omega)).trans (hf x hx)))
  clear hc hf
  go_enter Try.func28, Try.ntmps28
  go_wp2_with (go_at_call 30; refine (l1Below_any g B m h1 h2 _ HC.out).mono ?_; rintro e w1 ⟨⟨x, hx, rfl⟩, hc1, ho1⟩; have cx := CX.out w1 x hx ho1)
  go_ret
  exact ⟨⟨x, hx, rfl⟩, hc1, ho1⟩
theorem l1Int_any (g B : Nat) (X m c : Nat) (f : Nat → Int) (h1 : 1 ≤ m) (h2 : m ≤ 256) (w : World) (hc : Cur w g B) (hX : X < w.heap.size) (hXg : X ≠ g) (hf : ∀ k, k < m → w.cell? ⟨X, k, none⟩ = some (.int .i64 (f k))) :
    Calls Try.prog 87 #[.pointer (some ⟨g, 0, none⟩), .slice (some ⟨X, 0, none⟩) m c] w fun e w' => (∃ k, k < m ∧ e = .returned (.int .i64 (f k))) ∧ Cur w' g B ∧ Only g (g + 1) w.heap.size w w' := by
  have HC := hid hc
  have CX := hid (fun (w1 : World) (x : Nat) (hx : x < m) (ho : Only g (g + 1) w.heap.size w w1) => (show w1.cell? ⟨X, x, none⟩ = some (.int .i64 (f x)) from (ho.cellB (p := ⟨X, x, none⟩) hX (by show X < _ ∨ _ ≤ X; omega)).trans (hf x hx)))
  clear hc hf
  go_enter Try.func87, Try.ntmps87
  go_wp2_with (go_at_call 30; refine (l1Below_any g B m h1 h2 _ HC.out).mono ?_; rintro e w1 ⟨⟨x, hx, rfl⟩, hc1, ho1⟩; have cx := CX.out w1 x hx ho1)
  go_ret
  exact ⟨⟨x, hx, rfl⟩, hc1, ho1⟩
/-! ### rows that are written out -/
def sAt (cs : Array Value) (k : Nat) : ByteArray := match cs[k]? with | some (.string s) => s | _ => ByteArray.empty
def strRowB (cs : Array Value) (m M : Nat) : Bool := (List.range m).all fun k => match cs[k]? with | some (.string s) => decide (s.size ≤ M) | _ => false
theorem strRow_at {cs : Array Value} {m M : Nat} (h : strRowB cs m M = true) {k : Nat} (hk : k < m) : cs[k]? = some (.string (sAt cs k)) ∧ (sAt cs k).size ≤ M := by
  have := List.all_eq_true.1 h k (List.mem_range.2 hk)
  unfold sAt
  generalize cs[k]? = o at *
  match o, this with
  | some (.string s), h' => exact ⟨rfl, by simpa using h'⟩
theorem l1StrL (g B m M : Nat) (cs : Array Value) (T : TypeId) (w : World) (h1 : 1 ≤ m) (h2 : m ≤ 256) (hcs : strRowB cs m M = true) (hc : Cur w g B) :
    Calls Try.prog 28 #[.pointer (some ⟨g, 0, none⟩), .slice (some ⟨w.heap.size, 0, none⟩) m m] (w.alloc (.cells cs T)) fun e w' => (∃ s : ByteArray, s.size ≤ M ∧ e = .returned (.string s)) ∧ Cur w' g B ∧ Only g (g + 1) w.heap.size w w' := by
  have hl := hc.lt
  refine (l1Str_any g B w.heap.size m m (sAt cs) h1 h2 (w.alloc (.cells cs T)) (hc.alloc _) (by simp) (by omega) (fun k hk => (World.cell?_alloc_at _ _ _ _ rfl).trans (strRow_at hcs hk).1)).mono ?_
  rintro e w' ⟨⟨k, hk, rfl⟩, hc', ho⟩
  exact ⟨⟨_, (strRow_at hcs hk).2, rfl⟩, hc', (only_of_below ((Below.refl _ _).alloc (Nat.le_refl _) _)).trans (ho.less (by simp))⟩
def iAt (cs : Array Value) (k : Nat) : Int := match cs[k]? with | some (.int .i64 z) => z | _ => 0
def intRowB (cs : Array Value) (m : Nat) (a b : Int) : Bool := (List.range m).all fun k => match cs[k]? with | some (.int .i64 z) => decide (a ≤ z) && decide (z ≤ b) | _ => false
theorem intRow_at {cs : Array Value} {m : Nat} {a b : Int} (h : intRowB cs m a b = true) {k : Nat} (hk : k < m) : cs[k]? = some (.int .i64 (iAt cs k)) ∧ a ≤ iAt cs k ∧ iAt cs k ≤ b := by
  have := List.all_eq_true.1 h k (List.mem_range.2 hk)
  unfold iAt
  generalize cs[k]? = o at *
  match o, this with
  | some (.int .i64 z), h' => exact ⟨rfl, by simpa using h'⟩
/-! ### the argument of a law over drawn inputs -/
theorem open_byt {H : Type} {enc : TypeId × Value → H} {W : World} {base : Nat} {v : Value} {d : DataW H} {p : List MemPlace} (k0 : Value.okWide Try.prog W .any base 33 v) (h0 : DataW.Trod enc Try.prog W 0 (fun _ => true) true 33 v d p) :
    ∃ A n c, v = .slice A n c ∧ Byts W W.heap.size A n := by
  obtain ⟨a1, len, cap, rfl⟩ := okWide_slice Try.underlying33 k0
  obtain ⟨fuel, hf⟩ := h0
  obtain ⟨v, l, hc, hr, hl⟩ := open_flat (k := 1) (cf := fun (x : Nat) => [Value.int .u8 x]) (ok := fun x => x < 256) (fun _ => rfl) (by omega) Try.underlying33 (by kernel_rfl) (fun n cs' y' h => by
    obtain ⟨z, rfl, _, hw⟩ := DataW.trod_int Try.underlying5 h
    unfold Lit.wf at hw
    rw [Bool.and_eq_true, decide_eq_true_iff, decide_eq_true_iff] at hw
    have h0 : (0 : Int) ≤ z := hw.1
    have h1 : z ≤ 255 := hw.2
    refine ⟨z.toNat, ?_, by omega⟩
    have : ((z.toNat : Nat) : Int) = z := by omega
    rw [this]) hf
  have hv : v = .slice a1 len cap := by simpa [Value.cells] using hc.symm
  subst hv
  obtain ⟨A, c, e, hn, hm, hx, hh⟩ := hr
  injection e with e1 e2 e3
  subst e1 e2 e3
  refine ⟨_, _, _, rfl, by omega, fun hn' => ?_⟩
  obtain ⟨b, o, rfl, hb, hcell⟩ := hh hn'
  refine ⟨b, o, rfl, hb, fun k hk => ?_⟩
  have hk2 : l[k]? = some l[k] := List.getElem?_eq_getElem hk
  refine ⟨l[k], hl _ (List.getElem_mem _), hcell k _ ?_⟩
  have := flat_get (k := 1) (cf := fun (x : Nat) => [Value.int .u8 x]) (fun _ => rfl) l k l[k] hk2 0 (by omega)
  simpa using this
theorem big_any (A : Option Addr) (n c : Nat) (w : World) : Calls Try.prog 10 #[.slice A n c] w fun e w' => e = .returned (.bool (decide (1048576 < n))) ∧ w = w' := by
  go_enter Try.func10, Try.ntmps10
  go_wp2
  go_ret
  exact ⟨ret_bool (decide_eq_decide.2 (by omega)), rfl⟩
end Go.Proofs.Ytgejkfcemlkclaa
namespace Go.Proofs.Ytgejkfcemlkclaa
set_option maxHeartbeats 40000000
open Lib (hid)
open Go.ChangeShapes Go.WideShapes Go.ChangeAt Go.RowKit Go.Deep Go.Joins
open Go.ChangeMaps (open_string shut_string)
set_option maxRecDepth 100000
/-- What the walk asks of a variable that holds a node. -/
theorem Blk.all {w : World} {g : Nat} {t : TypeId} {v0 v1 v2 v3 : Value} (h : Blk w g t #[v0, v1, v2, v3]) : g < w.heap.size ∧ (∀ i, w.frozen? ⟨g, i, none⟩ = false) ∧ w.cell? ⟨g, 0, none⟩ = some v0 ∧ w.cell? ⟨g, 1, none⟩ = some v1 ∧ w.cell? ⟨g, 2, none⟩ = some v2 ∧ w.cell? ⟨g, 3, none⟩ = some v3 := ⟨h.lt, fun i => h.frozen i, h.cell 0, h.cell 1, h.cell 2, h.cell 3⟩
/-- As w in its blocks from lo on. -/
def Agr (w : World) (lo : Nat) (w2 : World) : Prop := ∀ p : Addr, lo ≤ p.block → p.block < w.heap.size → w2.cell? p = w.cell? p
theorem Agr.refl (w : World) (lo : Nat) : Agr w lo w := fun _ _ _ => rfl
/-- Values that read as these cells in every world that is as w from block lo on: older blocks (the cursor's, the boxes that are written later) do not matter. -/
def NdV (w : World) (lo : Nat) (xs : List Cel) (us : List Value) : Prop := ∀ w2, Agr w lo w2 → RdVs w2 w.heap.size xs us
def NdR (w : World) (lo : Nat) (u : Value) (l : List FNode) : Prop := ∀ w2, Agr w lo w2 → RdC w2 w.heap.size (.s 29 4 l.length (FNode.flat l)) u
theorem RdVs.up {w : World} {B B' : Nat} {xs : List Cel} {us : List Value} (h : RdVs w B xs us) (hB : B ≤ B') : RdVs w B' xs us := ⟨h.1, fun j x u hx hu => (h.2 j x u hx hu).up hB⟩
theorem NdV.keep {w w' : World} {lo lo' : Nat} {xs : List Cel} {us : List Value} (h : NdV w lo xs us) (hk : Agr w lo w') (hs : w.heap.size ≤ w'.heap.size) (hlo : lo' ≤ lo) : NdV w' lo' xs us := fun w2 h2 =>
  (h w2 fun p h3 h4 => (h2 p (by omega) (by omega)).trans (hk p h3 h4)).up hs
theorem NdR.keep {w w' : World} {lo lo' : Nat} {u : Value} {l : List FNode} (h : NdR w lo u l) (hk : Agr w lo w') (hs : w.heap.size ≤ w'.heap.size) (hlo : lo' ≤ lo) : NdR w' lo' u l := fun w2 h2 =>
  (h w2 fun p h3 h4 => (h2 p (by omega) (by omega)).trans (hk p h3 h4)).up hs
theorem Agr.only {w w' : World} {g lo : Nat} (ho : Only g (g + 1) w.heap.size w w') (hg : g < lo) : Agr w lo w' := fun p h1 h2 => ho.cellB h2 (by omega)
theorem Agr.set {w w' : World} {lo : Nat} (h : Agr w lo w') {p : Addr} (hp : p.block < lo) (u : Value) : Agr w lo (w'.setCell p u) := fun q h1 h2 =>
  (World.cell?_setCell_other _ _ _ _ (fun e => by rw [e] at hp; omega)).trans (h q h1 h2)
theorem NdV.rd {w : World} {lo : Nat} {xs : List Cel} {us : List Value} (h : NdV w lo xs us) : RdVs w w.heap.size xs us := h w (Agr.refl w lo)
theorem NdR.rd {w : World} {lo : Nat} {u : Value} {l : List FNode} (h : NdR w lo u l) : RdC w w.heap.size (.s 29 4 l.length (FNode.flat l)) u := h w (Agr.refl w lo)
theorem NdV.nil (w : World) (lo : Nat) : NdV w lo [] [] := fun _ _ => RdVs.nil _ _
theorem NdV.app {w : World} {lo : Nat} {xs ys : List Cel} {us vs : List Value} (h : NdV w lo xs us) (h' : NdV w lo ys vs) : NdV w lo (xs ++ ys) (us ++ vs) := fun w2 h2 => (h w2 h2).app (h' w2 h2)
theorem NdR.nil (w : World) (lo : Nat) : NdR w lo (.slice none 0 0) [] := fun w2 _ => by
  unfold RdC
  exact ⟨none, 0, rfl, Nat.le_refl _, Nat.zero_le _, rfl, fun h => absurd h (Nat.lt_irrefl _)⟩
theorem NdR.node {w : World} {lo : Nat} {A : Option Addr} {c : Nat} {l : List FNode} (k n : Int) (t : ByteArray) (h : NdR w lo (.slice A l.length c) l) : NdV w lo (FNode.mk k n t l).c [.int .i64 k, .int .i64 n, .string t, .slice A l.length c] := fun w2 h2 => by
  rw [FNode.c_eq]
  exact RdVs.cons (by unfold RdC; rfl) (RdVs.cons (by unfold RdC; rfl) (RdVs.cons (by unfold RdC; rfl) (RdVs.cons (h w2 h2) (RdVs.nil _ _))))
/-- A row of nodes made of their values. -/
theorem NdR.row {w : World} {lo : Nat} {l : List FNode} {vs : List Value} (hlo : lo ≤ w.heap.size) (hl : l.length ≤ 1000) (h : NdV w lo (FNode.flat l) vs) : NdR (w.alloc (.cells vs.toArray 29)) lo (.slice (some ⟨w.heap.size, 0, none⟩) l.length l.length) l := fun w2 h2 => by
  have hb : Below w.heap.size w (w.alloc (.cells vs.toArray 29)) := (Below.refl w.heap.size w).alloc (Nat.le_refl _) _
  have hr := (h.keep (lo' := lo) (w' := w.alloc (.cells vs.toArray 29)) (fun p _ h4 => hb.cell h4) hb.size (Nat.le_refl _)) w2 h2
  unfold RdC
  refine ⟨_, _, rfl, Nat.le_refl _, by unfold maxLen; omega, nflat_len l, fun _ => ⟨_, _, rfl, by simp, ?_⟩⟩
  refine RdL.of _ _ fun j x hx => ?_
  have hj : j < vs.length := by rw [hr.1]; exact (List.getElem?_eq_some_iff.1 hx).1
  refine ⟨vs[j], ?_, hr.2 j x _ hx (List.getElem?_eq_getElem hj)⟩
  refine (h2 ⟨w.heap.size, 0 + j, none⟩ hlo (by show w.heap.size < _; simp)).trans ?_
  rw [World.cell?_alloc_new]
  simp [hj]
/-- What a drawing function leaves: some tree of no more than this weight, in blocks of its own. -/
def DrT (g B K : Nat) (w : World) (e : Ending) (w' : World) : Prop := (∃ (k n : Int) (t : ByteArray) (l : List FNode) (A : Option Addr) (c : Nat), e = .returned (.agg #[.int .i64 k, .int .i64 n, .string t, .slice A l.length c]) ∧ NdR w' w.heap.size (.slice A l.length c) l ∧ (FNode.mk k n t l).wt ≤ K) ∧ Cur w' g B ∧ Only g (g + 1) w.heap.size w w'
theorem Only.newset {lo hi C : Nat} {a b : World} (h : Only lo hi C a b) {p : Addr} (hp : C ≤ p.block) (u : Value) : Only lo hi C a (b.setCell p u) :=
  h.trans ⟨rfl, rfl, rfl, by simp [World.setCell], fun k hk _ => Below.heap_setCell _ _ _ _ (by omega)⟩
theorem l15Var_any (g B : Nat) (w : World) (hc : Cur w g B) : Calls Try.prog 76 #[.pointer (some ⟨g, 0, none⟩)] w (DrT g B 100 w) := by
  have HC := hid hc
  have hl := hc.lt
  clear hc
  have k1 := (Below.refl w.heap.size w).alloc (Nat.le_refl _) (.cells #[.int .i64 0, .int .i64 0, .string ⟨#[]⟩, .slice none 0 0] 29)
  have HC1 := hid (HC.out.alloc (.cells #[.int .i64 0, .int .i64 0, .string ⟨#[]⟩, .slice none 0 0] 29))
  have bx := Blk.new w 29 #[.int .i64 0, .int .i64 0, .string ⟨#[]⟩, .slice none 0 0]
  go_enter Try.func76, Try.ntmps76
  go_upto_region 1 with fail
  generalize hw1 : w.alloc (.cells #[.int .i64 0, .int .i64 0, .string ⟨#[]⟩, .slice none 0 0] 29) = w1 at *
  have hs1 : w.heap.size < w1.heap.size := bx.lt
  go_wp2_with (first | (go_at_call 28; refine (l1StrL g B _ 100 _ _ _ (by decide) (by decide) (by kernel_rfl) HC1.out).mono ?_; rintro e wa ⟨⟨s, hs, rfl⟩, hc2, ho2⟩; have BX := hid (bx.only ho2 (Nat.le_refl _) (by omega)); have bl := BX.out.lt; have bf := fun i => BX.out.frozen i; have b0 := BX.out.cell 0; have b1 := BX.out.cell 1; have b2 := BX.out.cell 2; have b3 := BX.out.cell 3) | (go_at_call 27; refine (l15N_any _ _ _ _ _ _).mono ?_; rintro e wb ⟨rfl, hb3⟩; have BY := hid (BX.out.below hb3 (Nat.le_refl _)); have dl := BY.out.lt; have df := fun i => BY.out.frozen i; have d0 := BY.out.cell 0; have d1 := BY.out.cell 1; have d2 := BY.out.cell 2; have d3 := BY.out.cell 3))
  refine bodyPost_ret (v := .agg #[.int .i64 4, .int .i64 0, .string s, .slice none 0 0]) (by simp [results, Try.results76, go_sem, d0, d1, d2, d3, dl, df]) rfl ⟨⟨4, 0, s, [], none, 0, rfl, NdR.nil _ _, by rw [FNode.wt_eq]; simp [FNode.wts]; omega⟩, ?_, ?_⟩
  · repeat (refine Cur.far ?_ (by show w.heap.size ≠ g; omega) (by have := HC.out.le; show B ≤ w.heap.size; omega) _)
    exact hc2.below hb3
  · repeat (refine Only.newset ?_ (by show w.heap.size ≤ w.heap.size; exact Nat.le_refl _) _)
    exact (only_of_below k1).trans ((ho2.less (Nat.le_of_lt hs1)).trans (only_of_below (hb3.mono (Nat.le_trans (Nat.le_of_lt hs1) ho2.size))))
end Go.Proofs.Ytgejkfcemlkclaa
namespace Go.Proofs.Ytgejkfcemlkclaa
open Go.ChangeShapes Go.WideShapes Go.ChangeAt Go.RowKit Go.Deep Go.Joins
open Go.ChangeMaps (open_string shut_string)
set_option maxRecDepth 100000
/-- Since w0 only the cursor's block and new memory was written. -/
structure Trk (g B : Nat) (w0 X : World) : Prop where
  cur : Cur X g B
  only : Only g (g + 1) w0.heap.size w0 X
section
variable {g B : Nat} {w0 X X' : World}
theorem Trk.start (h : Cur X g B) : Trk g B X X := ⟨h, Only.refl _ _ _ _⟩
theorem Trk.call (h : Trk g B w0 X) (hc : Cur X' g B) (ho : Only g (g + 1) X.heap.size X X') : Trk g B w0 X' := ⟨hc, h.only.trans (ho.less h.only.size)⟩
theorem Trk.new (h : Trk g B w0 X) (hb : Below X.heap.size X X') : Trk g B w0 X' := h.call (h.cur.below hb) (only_of_below hb)
theorem Trk.drew (h : Trk g B w0 X) : Trk g B w0 X.drew := h.new (Below.refl _ _).drew
theorem Trk.alloc (h : Trk g B w0 X) (o : Obj) : Trk g B w0 (X.alloc o) := h.new ((Below.refl _ _).alloc (Nat.le_refl _) _)
theorem Trk.blk (h : Trk g B w0 X) {b : Nat} {e : TypeId} {cs : Array Value} (hb : Blk w0 b e cs) (hg : b ≠ g) : Blk X b e cs := hb.only h.only (Nat.le_refl _) (by omega)
theorem Trk.size (h : Trk g B w0 X) : w0.heap.size ≤ X.heap.size := h.only.size
theorem Trk.next {w1 : World} (h : Trk g B w0 w1) (k : Trk g B w1 X) : Trk g B w0 X := h.call k.cur k.only
end
theorem stp_new (g : Nat) (X : World) (o : Obj) : Only g (g + 1) X.heap.size X (X.alloc o) := only_of_below ((Below.refl _ _).alloc (Nat.le_refl _) _)
theorem stp_drew (g : Nat) (X : World) : Only g (g + 1) X.heap.size X X.drew := only_of_below (Below.refl _ _).drew
/-- A tree of this head whose kids are this row. -/
def Tr (X : World) (lo : Nat) (k n : Int) (t : ByteArray) (A : Option Addr) (m c K : Nat) : Prop := ∃ l, l.length = m ∧ NdR X lo (.slice A m c) l ∧ (FNode.mk k n t l).wt ≤ K
def Rw (X : World) (lo : Nat) (A : Option Addr) (m c K : Nat) : Prop := ∃ l, l.length = m ∧ NdR X lo (.slice A m c) l ∧ FNode.wts l ≤ K
section
variable {X X' : World} {lo g : Nat} {A : Option Addr} {m c K : Nat}
theorem Tr.stp {k n : Int} {t : ByteArray} (h : Tr X lo k n t A m c K) (ho : Only g (g + 1) X.heap.size X X') (hg : g < lo) : Tr X' lo k n t A m c K := by
  obtain ⟨l, h1, h2, h3⟩ := h
  exact ⟨l, h1, h2.keep (Agr.only ho hg) ho.size (Nat.le_refl _), h3⟩
theorem Rw.stp (h : Rw X lo A m c K) (ho : Only g (g + 1) X.heap.size X X') (hg : g < lo) : Rw X' lo A m c K := by
  obtain ⟨l, h1, h2, h3⟩ := h
  exact ⟨l, h1, h2.keep (Agr.only ho hg) ho.size (Nat.le_refl _), h3⟩
theorem Rw.no : Rw X lo none 0 0 0 := ⟨[], rfl, NdR.nil _ _, by unfold FNode.wts; exact Nat.le_refl _⟩
theorem Rw.mk (h : Rw X lo A m c K) (k n : Int) (t : ByteArray) (T : Nat) (ht : t.size + m ≤ T) : Tr X lo k n t A m c (K + T) := by
  obtain ⟨l, h1, h2, h3⟩ := h
  exact ⟨l, h1, h2, by rw [FNode.wt_eq]; omega⟩
theorem Tr.le {k n : Int} {t : ByteArray} {K' : Nat} (h : Tr X lo k n t A m c K) (hK : K ≤ K') : Tr X lo k n t A m c K' := by
  obtain ⟨l, h1, h2, h3⟩ := h
  exact ⟨l, h1, h2, by omega⟩
end
section
variable {X : World} {lo : Nat} {k1 n1 : Int} {t1 : ByteArray} {A1 : Option Addr} {m1 c1 K1 : Nat} {k2 n2 : Int} {t2 : ByteArray} {A2 : Option Addr} {m2 c2 K2 : Nat} {k3 n3 : Int} {t3 : ByteArray} {A3 : Option Addr} {m3 c3 K3 : Nat} {k4 n4 : Int} {t4 : ByteArray} {A4 : Option Addr} {m4 c4 K4 : Nat}
theorem Tr.vals (h : Tr X lo k1 n1 t1 A1 m1 c1 K1) : ∃ x : FNode, NdV X lo x.c [.int .i64 k1, .int .i64 n1, .string t1, .slice A1 m1 c1] ∧ x.wt ≤ K1 := by
  obtain ⟨l, rfl, h2, h3⟩ := h
  exact ⟨_, h2.node k1 n1 t1, h3⟩
theorem Rw.row1 (b : Nat) (hb : X.heap.size = b) (hl : lo ≤ X.heap.size) (h1 : Tr X lo k1 n1 t1 A1 m1 c1 K1) : Rw (X.alloc (.cells #[.int .i64 k1, .int .i64 n1, .string t1, .slice A1 m1 c1] 29)) lo (some ⟨b, 0, none⟩) 1 1 (K1) := by
  subst hb
  obtain ⟨x1, v1, w1⟩ := h1.vals
  exact ⟨[x1], rfl, NdR.row (l := [x1]) (vs := [.int .i64 k1, .int .i64 n1, .string t1, .slice A1 m1 c1]) hl (by simp) (by simpa [FNode.flat] using v1.app (NdV.nil _ _)), by simp only [FNode.wts]; omega⟩
theorem Rw.row2 (b : Nat) (hb : X.heap.size = b) (hl : lo ≤ X.heap.size) (h1 : Tr X lo k1 n1 t1 A1 m1 c1 K1) (h2 : Tr X lo k2 n2 t2 A2 m2 c2 K2) : Rw (X.alloc (.cells #[.int .i64 k1, .int .i64 n1, .string t1, .slice A1 m1 c1, .int .i64 k2, .int .i64 n2, .string t2, .slice A2 m2 c2] 29)) lo (some ⟨b, 0, none⟩) 2 2 (K1 + K2) := by
  subst hb
  obtain ⟨x1, v1, w1⟩ := h1.vals
  obtain ⟨x2, v2, w2⟩ := h2.vals
  exact ⟨[x1, x2], rfl, NdR.row (l := [x1, x2]) (vs := [.int .i64 k1, .int .i64 n1, .string t1, .slice A1 m1 c1, .int .i64 k2, .int .i64 n2, .string t2, .slice A2 m2 c2]) hl (by simp) (by simpa [FNode.flat] using v1.app (v2.app (NdV.nil _ _))), by simp only [FNode.wts]; omega⟩
theorem Rw.row3 (b : Nat) (hb : X.heap.size = b) (hl : lo ≤ X.heap.size) (h1 : Tr X lo k1 n1 t1 A1 m1 c1 K1) (h2 : Tr X lo k2 n2 t2 A2 m2 c2 K2) (h3 : Tr X lo k3 n3 t3 A3 m3 c3 K3) : Rw (X.alloc (.cells #[.int .i64 k1, .int .i64 n1, .string t1, .slice A1 m1 c1, .int .i64 k2, .int .i64 n2, .string t2, .slice A2 m2 c2, .int .i64 k3, .int .i64 n3, .string t3, .slice A3 m3 c3] 29)) lo (some ⟨b, 0, none⟩) 3 3 (K1 + K2 + K3) := by
  subst hb
  obtain ⟨x1, v1, w1⟩ := h1.vals
  obtain ⟨x2, v2, w2⟩ := h2.vals
  obtain ⟨x3, v3, w3⟩ := h3.vals
  exact ⟨[x1, x2, x3], rfl, NdR.row (l := [x1, x2, x3]) (vs := [.int .i64 k1, .int .i64 n1, .string t1, .slice A1 m1 c1, .int .i64 k2, .int .i64 n2, .string t2, .slice A2 m2 c2, .int .i64 k3, .int .i64 n3, .string t3, .slice A3 m3 c3]) hl (by simp) (by simpa [FNode.flat] using v1.app (v2.app (v3.app (NdV.nil _ _)))), by simp only [FNode.wts]; omega⟩
theorem Rw.row4 (b : Nat) (hb : X.heap.size = b) (hl : lo ≤ X.heap.size) (h1 : Tr X lo k1 n1 t1 A1 m1 c1 K1) (h2 : Tr X lo k2 n2 t2 A2 m2 c2 K2) (h3 : Tr X lo k3 n3 t3 A3 m3 c3 K3) (h4 : Tr X lo k4 n4 t4 A4 m4 c4 K4) : Rw (X.alloc (.cells #[.int .i64 k1, .int .i64 n1, .string t1, .slice A1 m1 c1, .int .i64 k2, .int .i64 n2, .string t2, .slice A2 m2 c2, .int .i64 k3, .int .i64 n3, .string t3, .slice A3 m3 c3, .int .i64 k4, .int .i64 n4, .string t4, .slice A4 m4 c4] 29)) lo (some ⟨b, 0, none⟩) 4 4 (K1 + K2 + K3 + K4) := by
  subst hb
  obtain ⟨x1, v1, w1⟩ := h1.vals
  obtain ⟨x2, v2, w2⟩ := h2.vals
  obtain ⟨x3, v3, w3⟩ := h3.vals
  obtain ⟨x4, v4, w4⟩ := h4.vals
  exact ⟨[x1, x2, x3, x4], rfl, NdR.row (l := [x1, x2, x3, x4]) (vs := [.int .i64 k1, .int .i64 n1, .string t1, .slice A1 m1 c1, .int .i64 k2, .int .i64 n2, .string t2, .slice A2 m2 c2, .int .i64 k3, .int .i64 n3, .string t3, .slice A3 m3 c3, .int .i64 k4, .int .i64 n4, .string t4, .slice A4 m4 c4]) hl (by simp) (by simpa [FNode.flat] using v1.app (v2.app (v3.app (v4.app (NdV.nil _ _))))), by simp only [FNode.wts]; omega⟩
end
/-- What a drawing function leaves. -/
theorem DrT.out {g B K : Nat} {w w' : World} {e : Ending} (h : DrT g B K w e w') (lo : Nat) (hlo : lo ≤ w.heap.size) : ∃ (k n : Int) (t : ByteArray) (A : Option Addr) (m c : Nat), e = .returned (.agg #[.int .i64 k, .int .i64 n, .string t, .slice A m c]) ∧ Tr w' lo k n t A m c K ∧ Cur w' g B ∧ Only g (g + 1) w.heap.size w w' := by
  obtain ⟨⟨k, n, t, l, A, c, rfl, h1, h2⟩, h3, h4⟩ := h
  exact ⟨k, n, t, A, l.length, c, rfl, ⟨l, rfl, h1.keep (Agr.refl _ _) (Nat.le_refl _) hlo, h2⟩, h3, h4⟩
theorem DrT.done {g B K : Nat} {w w1 X : World} {lo m c : Nat} {k n : Int} {t : ByteArray} {A : Option Addr} (hT : Tr X lo k n t A m c K) (h : Trk g B w1 X) (hw : Below w.heap.size w w1) (hg : g < w.heap.size) (hlo : w.heap.size < lo) (x0 x1 x2 x3 : Value) :
    DrT g B K w (.returned (.agg #[.int .i64 k, .int .i64 n, .string t, .slice A m c])) ((((X.setCell ⟨w.heap.size, 0, none⟩ x0).setCell ⟨w.heap.size, 1, none⟩ x1).setCell ⟨w.heap.size, 2, none⟩ x2).setCell ⟨w.heap.size, 3, none⟩ x3) := by
  obtain ⟨l, rfl, h2, h3⟩ := hT
  have hB := h.cur.le
  refine ⟨⟨k, n, t, l, A, c, rfl, ?_, h3⟩, ?_, ?_⟩
  · refine h2.keep (((((Agr.refl X lo).set (p := ⟨w.heap.size, 0, none⟩) hlo x0).set (p := ⟨w.heap.size, 1, none⟩) hlo x1).set (p := ⟨w.heap.size, 2, none⟩) hlo x2).set (p := ⟨w.heap.size, 3, none⟩) hlo x3) (by simp [World.setCell]) (by omega)
  · refine Cur.far (Cur.far (Cur.far (Cur.far h.cur ?_ ?_ _) ?_ ?_ _) ?_ ?_ _) ?_ ?_ _ <;> (dsimp only; omega)
  · refine Only.newset (Only.newset (Only.newset (Only.newset ?_ (p := ⟨w.heap.size, 0, none⟩) (Nat.le_refl _) _) (p := ⟨w.heap.size, 1, none⟩) (Nat.le_refl _) _) (p := ⟨w.heap.size, 2, none⟩) (Nat.le_refl _) _) (p := ⟨w.heap.size, 3, none⟩) (Nat.le_refl _) _
    exact (only_of_below hw).trans (h.only.less hw.size)
/-- A row of strings that was made before. -/
theorem l1StrK (g B m M b : Nat) (cs : Array Value) (T : TypeId) (X : World) (h1 : 1 ≤ m) (h2 : m ≤ 256) (hcs : strRowB cs m M = true) (hc : Cur X g B) (hb : Blk X b T cs) (hg : b ≠ g) :
    Calls Try.prog 28 #[.pointer (some ⟨g, 0, none⟩), .slice (some ⟨b, 0, none⟩) m m] X fun e w' => (∃ s : ByteArray, s.size ≤ M ∧ e = .returned (.string s)) ∧ Cur w' g B ∧ Only g (g + 1) X.heap.size X w' := by
  refine (l1Str_any g B b m m (sAt cs) h1 h2 X hc hb.lt hg (fun k hk => (hb.cell k).trans (strRow_at hcs hk).1)).mono ?_
  rintro e w' ⟨⟨k, hk, rfl⟩, hc', ho⟩
  exact ⟨⟨_, (strRow_at hcs hk).2, rfl⟩, hc', ho⟩
theorem l1IntK (g B m b : Nat) (x y : Int) (cs : Array Value) (T : TypeId) (X : World) (h1 : 1 ≤ m) (h2 : m ≤ 256) (hcs : intRowB cs m x y = true) (hc : Cur X g B) (hb : Blk X b T cs) (hg : b ≠ g) :
    Calls Try.prog 87 #[.pointer (some ⟨g, 0, none⟩), .slice (some ⟨b, 0, none⟩) m m] X fun e w' => (∃ z : Int, x ≤ z ∧ z ≤ y ∧ e = .returned (.int .i64 z)) ∧ Cur w' g B ∧ Only g (g + 1) X.heap.size X w' := by
  refine (l1Int_any g B b m m (iAt cs) h1 h2 X hc hb.lt hg (fun k hk => (hb.cell k).trans (intRow_at hcs hk).1)).mono ?_
  rintro e w' ⟨⟨k, hk, rfl⟩, hc', ho⟩
  exact ⟨⟨_, (intRow_at hcs hk).2.1, (intRow_at hcs hk).2.2, rfl⟩, hc', ho⟩
end Go.Proofs.Ytgejkfcemlkclaa
