/-
  Bytes that are gathered in a row of one's own. Conditions: none.
-/
import Derived.Test.YtgbeenieacnanaaDoorStr
import Derived.Test.YtgbeenieacnanaaDoorMem
import Derived.Lib.AppendStr
import Derived.Laws.BytesArg
namespace Go.Proofs.YtgbeenieacnanaaDoor
open Go.ChangeShapes Go.WideShapes Go.ChangeAt Go.RowKit Go.Deep Go.Joins
open Go.ChangeMaps (open_string shut_string)
set_option linter.unusedVariables false
set_option linter.unusedSimpArgs false
set_option maxRecDepth 100000
def escL (f : UInt8 → List UInt8) (s : ByteArray) (k : Nat) : List UInt8 := (s.data.toList.take k).flatMap f
theorem escL_zero (f : UInt8 → List UInt8) (s : ByteArray) : escL f s 0 = [] := by simp [escL]
theorem escL_succ (f : UInt8 → List UInt8) (s : ByteArray) (k : Nat) (h : k < s.size) : escL f s (k + 1) = escL f s k ++ f s[k] := by
  unfold escL
  rw [List.take_add_one, List.flatMap_append, List.getElem?_eq_getElem (by simpa using h)]
  simp
  rfl
theorem escL_le {f : UInt8 → List UInt8} (hf : ∀ c, (f c).length ≤ 6) (s : ByteArray) (k : Nat) : (escL f s k).length ≤ 6 * k := by
  induction k with
  | zero => simp [escL_zero]
  | succ k ih =>
    by_cases h : k < s.size
    · rw [escL_succ f s k h, List.length_append]
      have := hf s[k]
      omega
    · have : escL f s (k + 1) = escL f s k := by
        unfold escL
        rw [List.take_of_length_le (by simp; have : s.data.size = s.size := rfl; omega), List.take_of_length_le (by simp; have : s.data.size = s.size := rfl; omega)]
      rw [this]; omega
/-- Bytes as cells. -/
def bCells (l : List UInt8) : List Value := l.map fun b => Value.int .u8 b.toNat
theorem bCells_append (a b : List UInt8) : bCells (a ++ b) = bCells a ++ bCells b := List.map_append
theorem bCells_len (l : List UInt8) : (bCells l).length = l.length := List.length_map _
theorem bCells_one (l : List UInt8) : ∀ u ∈ bCells l, u.oneCell' = true := by
  intro u hu
  simp only [bCells, List.mem_map] at hu
  obtain ⟨b, _, rfl⟩ := hu
  rfl
theorem strCells_b (l : List UInt8) : Lib.strCells ⟨l.toArray⟩ = bCells l := by simp [Lib.strCells, bCells]
theorem strOfNums_b (l : List UInt8) : strOfNums (l.map fun b => (b.toNat : Int)) = ⟨l.toArray⟩ := by
  unfold strOfNums
  congr 1
  apply Array.ext'
  simp only [List.map_map]
  refine (List.map_congr_left (g := id) fun b _ => ?_).trans (List.map_id _)
  simp
/-- A string of the bytes of an owned row. -/
theorem conv_own {w : World} {base n c : Nat} {A : Option Addr} {l : List UInt8} (src e dst : TypeId) (P : Program) (hs : P.underlying src = some (.slice e)) (he : P.underlying e = some (.int .u8)) (hd : P.underlying dst = some .string)
    (h : w.ownsRow base e 1 (.slice A n c) n (bCells l)) : (convert src dst (.slice A n c)).run P w = .ok (.string ⟨l.toArray⟩) w := by
  have hl : l.length = n := by have := h.1; rw [bCells_len] at this; omega
  rcases own_row h with ⟨hv, h0, hx⟩ | ⟨g, cap, f, hv, hg, hn, hc, hrow, hf⟩
  · cases hv
    have : l = [] := List.eq_nil_of_length_eq_zero (by omega)
    subst this
    exact run_convert_bytes_nil (P := P) w src e hs he _ _ dst hd
  · injection hv with e1 e2 e3
    subst e1 e3
    rw [← strOfNums_b]
    refine run_convert_bytes_arg (P := P) w src e hs he g 0 n c (l.map fun b => (b.toNat : Int)) (by simpa using hl) (fun i hi => ?_) dst hd
    rw [Nat.zero_add, hrow.cell (by omega), ← hf i (by omega)]
    unfold bCells
    rw [List.getElem?_map, List.getElem?_eq_getElem (by omega), List.getD_eq_getElem?_getD, List.getElem?_map, List.getElem?_eq_getElem (by omega)]
    rfl


theorem infoU8 : (Tryd.prog.info? 5).map (fun i => (i.zero.map Value.cells, i.size, i.bytes)) = some (some #[.int .u8 0], 1, 1) := by kernel_rfl
theorem rdb_new (w : World) (e : TypeId) (l : List Value) (n : Nat) (hn : l.length = n) (hm : n ≤ maxLen) : Rd (w.alloc (.cells l.toArray e)) (w.heap.size + 1) 1 (.slice (some ⟨w.heap.size, 0, none⟩) n n) n l := by
  refine ⟨_, _, rfl, Nat.le_refl _, hm, by omega, fun _ => ⟨_, _, rfl, by omega, fun j u hu => ?_⟩⟩
  rw [Nat.zero_add, World.cell?_alloc_new]
  simpa using hu
theorem own_lit (w : World) (e : TypeId) (l : List Value) (n : Nat) (hn : l.length = n) (hm : n ≤ maxLen) : (w.alloc (.cells l.toArray e)).ownsRow w.heap.size e 1 (.slice (some ⟨w.heap.size, 0, none⟩) n n) n l := by
  subst hn
  exact ⟨by simp, .inr ⟨w.heap.size, _, _, rfl, Nat.le_refl _, heap_alloc_new w _, Nat.le_refl _, hm, by simp, by simp⟩⟩
/-- What a text between quotes reads: a quote or a backslash has a backslash ahead of it. -/
def quo (c : UInt8) : List UInt8 := if c = 39 ∨ c = 92 then [92, c] else [c]
theorem quo_le (c : UInt8) : (quo c).length ≤ 6 := by unfold quo; split <;> simp
def quoL (s : ByteArray) : List UInt8 := (39 :: escL quo s s.size) ++ [39]
def quoF (s : ByteArray) : ByteArray := ⟨(quoL s).toArray⟩
theorem quoF_size (s : ByteArray) : (quoF s).size ≤ 6 * s.size + 2 := by
  have := escL_le quo_le s s.size
  show (quoL s).toArray.size ≤ _
  unfold quoL
  simp
  omega
theorem u8_eq (c : UInt8) (n : Nat) (hn : n < 256) : ((c.toNat : Int) == (n : Int)) = decide (c = UInt8.ofNat n) := by
  have : ((c.toNat : Int) = (n : Int)) ↔ c = UInt8.ofNat n := by
    constructor
    · intro h
      have h' : c.toNat = n := by omega
      rw [← h']; simp
    · rintro rfl
      simp [Nat.mod_eq_of_lt hn]
  by_cases h : c = UInt8.ofNat n
  · rw [decide_eq_true h, beq_iff_eq]; exact this.2 h
  · rw [decide_eq_false h, beq_eq_false_iff_ne]; exact fun e => h (this.1 e)
end Go.Proofs.YtgbeenieacnanaaDoor
