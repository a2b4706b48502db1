/-
  Escaping, byte by byte: what entityOf, hexUpper and the reference's l4Entity, l4Hex, l4Plain, l4Bare return; and bytes that are gathered in a row of one's own. Conditions: none.
-/
import Derived.Test.YtnbedjfmhnpjaaaStr
import Derived.Test.YtnbedjfmhnpjaaaMem
import Derived.Lib.AppendStr
import Derived.Laws.BytesArg
namespace Go.Proofs.Ytnbedjfmhnpjaaa
open Go.ChangeShapes Go.WideShapes Go.ChangeAt Go.RowKit Go.Deep Go.Joins
open Go.ChangeMaps (open_string shut_string)
set_option linter.unusedVariables false
set_option linter.unusedSimpArgs false
set_option maxRecDepth 100000

/-! ### plain -/
def hexD (n : Nat) : UInt8 := if n < 10 then UInt8.ofNat (48 + n) else UInt8.ofNat (55 + n)
def hexL (c : UInt8) : List UInt8 := [hexD (c.toNat / 16), hexD (c.toNat % 16)]
def entI (x : Int) : List UInt8 := if x = 38 then [38, 97, 109, 112, 59] else if x = 60 then [38, 108, 116, 59] else if x = 62 then [38, 103, 116, 59] else if x = 34 then [38, 113, 117, 111, 116, 59] else if x = 39 then [38, 35, 51, 57, 59] else []
def escH (c : UInt8) : List UInt8 := if (entI c.toNat).isEmpty = true then [c] else entI c.toNat
def plI (x : Int) : Bool := ltrI x || digI x || x == 45 || x == 95 || x == 46 || x == 126
def escU (c : UInt8) : List UInt8 := if plI c.toNat = true then [c] else 37 :: hexL c
def bareI (x : Int) : Bool := inB x 32 126 && x != 92 && x != 39 && x != 34 && x != 60 && x != 62 && x != 38
def escS (c : UInt8) : List UInt8 := if bareI c.toNat = true then [c] else 92 :: 120 :: hexL c
def escL (f : UInt8 → List UInt8) (s : ByteArray) (k : Nat) : List UInt8 := (s.data.toList.take k).flatMap f
theorem entI_le (x : Int) : (entI x).length ≤ 6 := by unfold entI; repeat' split
                                                      all_goals decide
theorem escH_le (c : UInt8) : (escH c).length ≤ 6 := by
  unfold escH
  split
  · simp
  · exact entI_le _
theorem escU_le (c : UInt8) : (escU c).length ≤ 6 := by unfold escU hexL; split <;> simp
theorem escS_le (c : UInt8) : (escS c).length ≤ 6 := by unfold escS hexL; split <;> simp
theorem escL_zero (f : UInt8 → List UInt8) (s : ByteArray) : escL f s 0 = [] := by simp [escL]
theorem escL_succ (f : UInt8 → List UInt8) (s : ByteArray) (k : Nat) (h : k < s.size) : escL f s (k + 1) = escL f s k ++ f s[k] := by
  unfold escL
  rw [List.take_add_one, List.flatMap_append, List.getElem?_eq_getElem (by simpa using h)]
  simp
  rfl
theorem escL_le {f : UInt8 → List UInt8} (hf : ∀ c, (f c).length ≤ 6) (s : ByteArray) (k : Nat) : (escL f s k).length ≤ 6 * k := by
  induction k with
  | zero => simp [escL_zero]
  | succ k ih =>
    by_cases h : k < s.size
    · rw [escL_succ f s k h, List.length_append]
      have := hf s[k]
      omega
    · have : escL f s (k + 1) = escL f s k := by
        unfold escL
        rw [List.take_of_length_le (by simp; have : s.data.size = s.size := rfl; omega), List.take_of_length_le (by simp; have : s.data.size = s.size := rfl; omega)]
      rw [this]; omega
/-- Bytes as cells. -/
def bCells (l : List UInt8) : List Value := l.map fun b => Value.int .u8 b.toNat
theorem bCells_append (a b : List UInt8) : bCells (a ++ b) = bCells a ++ bCells b := List.map_append
theorem bCells_len (l : List UInt8) : (bCells l).length = l.length := List.length_map _
theorem bCells_one (l : List UInt8) : ∀ u ∈ bCells l, u.oneCell' = true := by
  intro u hu
  simp only [bCells, List.mem_map] at hu
  obtain ⟨b, _, rfl⟩ := hu
  rfl
theorem strCells_b (l : List UInt8) : Lib.strCells ⟨l.toArray⟩ = bCells l := by simp [Lib.strCells, bCells]
theorem strOfNums_b (l : List UInt8) : strOfNums (l.map fun b => (b.toNat : Int)) = ⟨l.toArray⟩ := by
  unfold strOfNums
  congr 1
  apply Array.ext'
  simp only [List.map_map]
  refine (List.map_congr_left (g := id) fun b _ => ?_).trans (List.map_id _)
  simp
/-- A string of the bytes of an owned row. -/
theorem conv_own {w : World} {base n c : Nat} {A : Option Addr} {l : List UInt8} (src e dst : TypeId) (P : Program) (hs : P.underlying src = some (.slice e)) (he : P.underlying e = some (.int .u8)) (hd : P.underlying dst = some .string)
    (h : w.ownsRow base e 1 (.slice A n c) n (bCells l)) : (convert src dst (.slice A n c)).run P w = .ok (.string ⟨l.toArray⟩) w := by
  have hl : l.length = n := by have := h.1; rw [bCells_len] at this; omega
  rcases own_row h with ⟨hv, h0, hx⟩ | ⟨g, cap, f, hv, hg, hn, hc, hrow, hf⟩
  · cases hv
    have : l = [] := List.eq_nil_of_length_eq_zero (by omega)
    subst this
    exact run_convert_bytes_nil (P := P) w src e hs he _ _ dst hd
  · injection hv with e1 e2 e3
    subst e1 e3
    rw [← strOfNums_b]
    refine run_convert_bytes_arg (P := P) w src e hs he g 0 n c (l.map fun b => (b.toNat : Int)) (by simpa using hl) (fun i hi => ?_) dst hd
    rw [Nat.zero_add, hrow.cell (by omega), ← hf i (by omega)]
    unfold bCells
    rw [List.getElem?_map, List.getElem?_eq_getElem (by omega), List.getD_eq_getElem?_getD, List.getElem?_map, List.getElem?_eq_getElem (by omega)]
    rfl

/-! ### walks -/
theorem hexUpper_any (n : Nat) (h : n < 16) (w : World) : Calls Try.prog 54 #[.int .u8 n] w fun e w' => e = .returned (.int .u8 (hexD n).toNat) ∧ w = w' := by
  have : n = 0 ∨ n = 1 ∨ n = 2 ∨ n = 3 ∨ n = 4 ∨ n = 5 ∨ n = 6 ∨ n = 7 ∨ n = 8 ∨ n = 9 ∨ n = 10 ∨ n = 11 ∨ n = 12 ∨ n = 13 ∨ n = 14 ∨ n = 15 := by omega
  rcases this with rfl | rfl | rfl | rfl | rfl | rfl | rfl | rfl | rfl | rfl | rfl | rfl | rfl | rfl | rfl | rfl
  all_goals
    go_enter Try.func54, Try.ntmps54
    go_wp2
    go_ret
    exact ⟨rfl, rfl⟩
theorem entityOf_any (x : Int) (w : World) (h0 : 0 ≤ x) (h255 : x ≤ 255) : Calls Try.prog 53 #[.int .u8 x] w fun e w' => e = .returned (.string ⟨(entI x).toArray⟩) ∧ w = w' := by
  have hx : x = 38 ∨ x = 60 ∨ x = 62 ∨ x = 34 ∨ x = 39 ∨ (¬ x = 38 ∧ ¬ x = 60 ∧ ¬ x = 62 ∧ ¬ x = 34 ∧ ¬ x = 39) := by omega
  rcases hx with rfl | rfl | rfl | rfl | rfl | ⟨h1, h2, h3, h4, h5⟩
  case inr.inr.inr.inr.inr =>
    have e1 : (x == 38) = false := by simpa using h1
    have e2 : (x == 60) = false := by simpa using h2
    have e3 : (x == 62) = false := by simpa using h3
    have e4 : (x == 34) = false := by simpa using h4
    have e5 : (x == 39) = false := by simpa using h5
    go_enter Try.func53, Try.ntmps53
    go_wp2
    go_ret
    refine ⟨ret_str ?_, rfl⟩
    unfold entI
    rw [if_neg h1, if_neg h2, if_neg h3, if_neg h4, if_neg h5]
  all_goals
    go_enter Try.func53, Try.ntmps53
    go_wp2
    go_ret
    exact ⟨rfl, rfl⟩
theorem l4Entity_any (c : UInt8) (w : World) : Calls Try.prog 64 #[.int .u8 c.toNat] w fun e w' => e = .returned (.string ⟨(escH c).toArray⟩) ∧ Below w.heap.size w w' := by
  have hc := Lib.hid (show UInt8.ofNat ((c.toNat : Int)).toNat = c by simp)
  have he := Lib.hid (show escH c = if (entI c.toNat).isEmpty = true then [c] else entI c.toNat from rfl)
  have hx1 := (u8_lt c).1
  have hx0 := (u8_lt c).2
  generalize hg : (c.toNat : Int) = x at *
  have hx : x = 38 ∨ x = 60 ∨ x = 62 ∨ x = 34 ∨ x = 39 ∨ (¬ x = 38 ∧ ¬ x = 60 ∧ ¬ x = 62 ∧ ¬ x = 34 ∧ ¬ x = 39) := by omega
  rcases hx with rfl | rfl | rfl | rfl | rfl | ⟨h1, h2, h3, h4, h5⟩
  case inr.inr.inr.inr.inr =>
    have e1 : (x == 38) = false := by simpa using h1
    have e2 : (x == 60) = false := by simpa using h2
    have e3 : (x == 62) = false := by simpa using h3
    have e4 : (x == 34) = false := by simpa using h4
    have e5 : (x == 39) = false := by simpa using h5
    have hcv := conv1 (P := Try.prog) w 22 5 9 Try.underlying22 Try.underlying5 Try.underlying9 x c hc.out
    go_enter Try.func64, Try.ntmps64
    go_wp2
    go_ret
    refine ⟨ret_str ?_, (Below.refl _ _).alloc (Nat.le_refl _) _⟩
    rw [he.out]
    unfold entI
    rw [if_neg h1, if_neg h2, if_neg h3, if_neg h4, if_neg h5]
    rfl
  all_goals
    go_enter Try.func64, Try.ntmps64
    go_wp2
    go_ret
    exact ⟨ret_str (by rw [he.out]; rfl), Below.refl _ _⟩
theorem l4Plain_any (x : Int) (w : World) (h0 : 0 ≤ x) (h255 : x ≤ 255) : Calls Try.prog 65 #[.int .u8 x] w fun e w' => e = .returned (.bool (plI x)) ∧ w = w' := by
  have hp := Lib.hid (show plI x = (inB x 97 122 || inB x 65 90 || inB x 48 57 || x == 45 || x == 95 || x == 46 || x == 126) by
    unfold plI ltrI digI inB
    cases decide (65 ≤ x ∧ x ≤ 90) <;> cases decide (97 ≤ x ∧ x ≤ 122) <;> rfl)
  go_enter Try.func65, Try.ntmps65
  go_wp2_with (go_at_call 36; refine (l1In_any _ _ _ _).mono ?_; rintro e w' ⟨rfl, rfl⟩)
  all_goals go_ret
  all_goals (refine ⟨ret_bool ?_, rfl⟩; rw [hp.out]; simp_all)
theorem l4Bare_any (x : Int) (w : World) (h0 : 0 ≤ x) (h255 : x ≤ 255) : Calls Try.prog 67 #[.int .u8 x] w fun e w' => e = .returned (.bool (bareI x)) ∧ w = w' := by
  have hp := Lib.hid (show bareI x = (inB x 32 126 && x != 92 && x != 39 && x != 34 && x != 60 && x != 62 && x != 38) from rfl)
  go_enter Try.func67, Try.ntmps67
  go_wp2_with (go_at_call 36; refine (l1In_any _ _ _ _).mono ?_; rintro e w' ⟨rfl, rfl⟩)
  all_goals go_ret
  all_goals (refine ⟨ret_bool ?_, rfl⟩; rw [hp.out]; simp_all)
theorem conv2 {P : Program} (W : World) (src e dst : TypeId) (hs : P.underlying src = some (.slice e)) (he : P.underlying e = some (.int .u8)) (hd : P.underlying dst = some .string) (x y : UInt8) :
    (convert src dst (.slice (some ⟨W.heap.size, 0, none⟩) 2 2)).run P (W.alloc (.cells #[.int .u8 x.toNat, .int .u8 y.toNat] e)) = .ok (.string ⟨#[x, y]⟩) (W.alloc (.cells #[.int .u8 x.toNat, .int .u8 y.toNat] e)) := by
  have := run_convert_bytes_arg (P := P) (W.alloc (.cells #[.int .u8 x.toNat, .int .u8 y.toNat] e)) src e hs he W.heap.size 0 2 2 [(x.toNat : Int), (y.toNat : Int)] rfl (fun i hi => by
    rcases (show i = 0 ∨ i = 1 by omega) with rfl | rfl <;> simp [World.cell?_alloc_new]) dst hd
  rw [this]
  simp [strOfNums]
theorem hexAt (q : Nat) (h : q < (⟨#[48, 49, 50, 51, 52, 53, 54, 55, 56, 57, 65, 66, 67, 68, 69, 70]⟩ : ByteArray).size) : (⟨#[48, 49, 50, 51, 52, 53, 54, 55, 56, 57, 65, 66, 67, 68, 69, 70]⟩ : ByteArray)[q]'h = hexD q := by
  have h' : q < 16 := h
  have : ∀ q : Fin 16, (⟨#[48, 49, 50, 51, 52, 53, 54, 55, 56, 57, 65, 66, 67, 68, 69, 70]⟩ : ByteArray)[q.val]'q.isLt = hexD q.val := by decide
  exact this ⟨q, h'⟩
theorem and15 : ∀ n : Fin 256, bits .and .i64 (n.val : Int) 15 = ((n.val % 16 : Nat) : Int) := by decide
set_option maxHeartbeats 1000000 in
theorem l4Hex_any (c : UInt8) (w : World) : Calls Try.prog 66 #[.int .i64 c.toNat] w fun e w' => e = .returned (.string ⟨(hexL c).toArray⟩) ∧ Below w.heap.size w w' := by
  have hx1 := (u8_lt c).1
  have hx0 := (u8_lt c).2
  have hn : c.toNat < 256 := c.toNat_lt
  have hh := Lib.hid (show hexL c = [hexD (c.toNat / 16), hexD (c.toNat % 16)] from rfl)
  generalize c.toNat = n at *
  have e1 : bits .and .i64 ((n : Int)) 15 = ((n % 16 : Nat) : Int) := and15 ⟨n, hn⟩
  have e2 : bits .and .i64 ((n : Int) / 16) 15 = ((n / 16 : Nat) : Int) := by
    have := and15 ⟨n / 16, by omega⟩
    simp only at this
    rw [show ((n / 16 : Nat) : Int) = (n : Int) / 16 from by omega] at this
    rw [this]; omega
  have h1 : n % 16 < 16 := by omega
  have h2 : n / 16 < 16 := by omega
  generalize hp : n % 16 = p at *
  generalize hq : n / 16 = q at *
  have h3 : (p : Int) < 16 := by omega
  have h4 : (q : Int) < 16 := by omega
  have k1 := hexAt q
  have k2 := hexAt p
  have hcv : (convert 22 9 (.slice (some ⟨w.heap.size, 0, none⟩) 2 2)).run Try.prog (w.alloc (.cells #[.int .u8 (hexD q).toNat, .int .u8 (hexD p).toNat] 5)).drew = .ok (.string ⟨#[hexD q, hexD p]⟩) (w.alloc (.cells #[.int .u8 (hexD q).toNat, .int .u8 (hexD p).toNat] 5)).drew := conv2 (P := Try.prog) w.drew 22 5 9 Try.underlying22 Try.underlying5 Try.underlying9 (hexD q) (hexD p)
  go_enter Try.func66, Try.ntmps66
  go_wp2
  go_region
  go_wp2
  go_ret
  exact ⟨ret_str (by rw [hh.out]), ((Below.refl _ _).alloc (Nat.le_refl _) _).drew⟩
end Go.Proofs.Ytnbedjfmhnpjaaa
