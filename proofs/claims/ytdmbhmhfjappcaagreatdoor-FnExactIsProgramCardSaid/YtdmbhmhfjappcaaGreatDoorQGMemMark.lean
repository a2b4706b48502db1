/-
  Parts of the proof: Mem, Mark. Conditions: none.
-/
import Derived.Test.YtdmbhmhfjappcaaGreatDoorQGBasePsV
import Derived.Maps.AppendAt
import Derived.Deep.AppendLies
import Derived.RegionTactic
import Derived.OwnWalk
import Derived.Laws.BytesArg
import Derived.StillTailTactics
import Derived.Deep.OwnRows
namespace Go.Proofs.YtdmbhmhfjappcaaGreatDoor
open Go.ChangeShapes Go.WideShapes Go.ChangeAt Go.RowKit Go.Deep Go.Joins
open Go.ChangeMaps (open_string shut_string)
set_option linter.unusedVariables false

theorem ret_str {a b : ByteArray} (h : a = b) : Ending.returned (.string a) = .returned (.string b) := by rw [h]

/-- string([]byte{x}). -/
theorem conv1 {P : Program} (W : World) (src e dst : TypeId) (hs : P.underlying src = some (.slice e)) (he : P.underlying e = some (.int .u8)) (hd : P.underlying dst = some .string) (x : Int) (c : UInt8) (hc : UInt8.ofNat x.toNat = c) :
    (convert src dst (.slice (some ⟨W.heap.size, 0, none⟩) 1 1)).run P (W.alloc (.cells #[.int .u8 x] e)) = .ok (.string ⟨[c].toArray⟩) (W.alloc (.cells #[.int .u8 x] e)) := by
  have := run_convert_bytes_arg (P := P) (W.alloc (.cells #[.int .u8 x] e)) src e hs he W.heap.size 0 1 1 [x] rfl (fun i hi => by
    obtain rfl : i = 0 := by omega
    simp [World.cell?_alloc_new]) dst hd
  rw [this, ← hc]
  rfl

theorem str_app (a b : List UInt8) : (⟨a.toArray⟩ : ByteArray) ++ ⟨b.toArray⟩ = ⟨(a ++ b).toArray⟩ := by
  apply ByteArray.ext
  apply Array.toList_inj.1
  rw [data_append]
theorem str_cons (c : UInt8) (t : List UInt8) : (⟨#[c]⟩ : ByteArray) ++ ⟨t.toArray⟩ = ⟨(c :: t).toArray⟩ := str_app [c] t

/-! ### flat lists -/
section
variable {α : Type} {k : Nat} {cf : α → List Value}
theorem flat_len (hk : ∀ x, (cf x).length = k) : ∀ l : List α, (l.flatMap cf).length = l.length * k
  | [] => by simp
  | x :: r => by
    rw [List.flatMap_cons, List.length_append, hk, flat_len hk r, List.length_cons, Nat.add_mul]
    omega
theorem flat_get (hk : ∀ x, (cf x).length = k) : ∀ (l : List α) (i : Nat) (x : α), l[i]? = some x → ∀ j, j < k → (l.flatMap cf)[i * k + j]? = (cf x)[j]?
  | [], i, x, h, j, hj => by simp at h
  | y :: r, 0, x, h, j, hj => by
    obtain rfl : y = x := by simpa using h
    rw [List.flatMap_cons, Nat.zero_mul, Nat.zero_add, List.getElem?_append_left (by rw [hk]; exact hj)]
  | y :: r, i + 1, x, h, j, hj => by
    have h' : r[i]? = some x := by simpa using h
    have e : (i + 1) * k + j = (cf y).length + (i * k + j) := by rw [hk, Nat.succ_mul]; omega
    rw [List.flatMap_cons, e, List.getElem?_append_right (by omega), Nat.add_sub_cancel_left]
    exact flat_get hk r i x h' j hj
theorem flat_snoc (l : List α) (x : α) : (l ++ [x]).flatMap cf = l.flatMap cf ++ cf x := by simp
end

/-! ### a slice that is read -/
/-- 'v' is a slice of n elements of k cells each; its cells, in order, are xs; it lies below block B. -/
def Rd (w : World) (B k : Nat) (v : Value) (n : Nat) (xs : List Value) : Prop :=
  ∃ A c, v = .slice A n c ∧ n ≤ c ∧ c ≤ maxLen ∧ xs.length = n * k ∧ (0 < n → ∃ b off, A = some ⟨b, off, none⟩ ∧ b < B ∧ ∀ j u, xs[j]? = some u → w.cell? ⟨b, off + j, none⟩ = some u)
section
variable {w w' : World} {B B' k n : Nat} {v : Value} {xs : List Value}
theorem Rd.keep (h : Rd w B k v n xs) (hk : ∀ p : Addr, p.block < B → w'.cell? p = w.cell? p) : Rd w' B k v n xs := by
  obtain ⟨A, c, rfl, h1, h2, h3, h4⟩ := h
  refine ⟨A, c, rfl, h1, h2, h3, fun hn => ?_⟩
  obtain ⟨b, off, rfl, hb, hc⟩ := h4 hn
  exact ⟨b, off, rfl, hb, fun j u hu => (hk _ hb).trans (hc j u hu)⟩
theorem Rd.more (h : Rd w B k v n xs) (hB : B ≤ B') : Rd w B' k v n xs := by
  obtain ⟨A, c, rfl, h1, h2, h3, h4⟩ := h
  refine ⟨A, c, rfl, h1, h2, h3, fun hn => ?_⟩
  obtain ⟨b, off, rfl, hb, hc⟩ := h4 hn
  exact ⟨b, off, rfl, by omega, hc⟩
theorem Rd.below (h : Rd w B k v n xs) {C : Nat} (hb : Below C w w') (hC : B ≤ C) : Rd w' B k v n xs := h.keep fun p hp => hb.cell (by omega)
theorem Rd.form (h : Rd w B k v n xs) : ∃ A c, v = .slice A n c := by obtain ⟨A, c, rfl, _⟩ := h; exact ⟨A, c, rfl⟩
/-- An owned row reads. -/
theorem rd_of_own {base : Nat} {e : TypeId} (h : w.ownsRow base e k v n xs) : Rd w w.heap.size k v n xs := by
  obtain ⟨hl, hh⟩ := h
  rcases hh with ⟨rfl, rfl⟩ | ⟨g, cap, cur, rfl, hg, hb, hn, hc, hs, ht⟩
  · exact ⟨none, 0, rfl, Nat.le_refl _, Nat.zero_le _, hl, fun h => absurd h (by omega)⟩
  · refine ⟨_, cap, rfl, hn, hc, hl, fun _ => ⟨g, 0, rfl, (Array.getElem?_eq_some_iff.1 hb).1, fun j u hu => ?_⟩⟩
    rw [Nat.zero_add, cell_of_row w g j cur e (0, 0) hb]
    rw [← ht, List.getElem?_take] at hu
    split at hu
    · simpa using hu
    · cases hu
theorem rd_of_own_at {base C : Nat} {e : TypeId} (h : w.ownsRow base e k v n xs) (hC : w.heap.size ≤ C) : Rd w C k v n xs := (rd_of_own h).more hC
/-- A row that is known by its index, as an owned row. -/
theorem own_of_row {g : Nat} {t : TypeId} {f : Nat → Value} {base : Nat} (h : w.rowIs g t (n * k) f) (hb : base ≤ g) (hm : n ≤ maxLen) (hx : xs.length = n * k) (hf : ∀ j, j < n * k → xs[j]? = some (f j)) :
    w.ownsRow base t k (.slice (some ⟨g, 0, none⟩) n n) n xs := by
  obtain ⟨cur, hh, hs, hc⟩ := h
  refine ⟨hx, .inr ⟨g, n, cur, rfl, hb, hh, Nat.le_refl _, hm, hs, ?_⟩⟩
  apply List.ext_getElem?
  intro j
  by_cases hj : j < n * k
  · rw [List.getElem?_take, if_pos hj, Array.getElem?_toList, hc j hj, hf j hj]
  · rw [List.getElem?_take, if_neg hj, List.getElem?_eq_none (by omega)]
/-- An owned row, by its index. -/
theorem own_row {base : Nat} {e : TypeId} (h : w.ownsRow base e k v n xs) : (v = .slice none 0 0 ∧ n = 0 ∧ xs = []) ∨ ∃ g cap f, v = .slice (some ⟨g, 0, none⟩) n cap ∧ base ≤ g ∧ n ≤ cap ∧ cap ≤ maxLen ∧ w.rowIs g e (cap * k) f ∧ ∀ j, j < n * k → xs[j]? = some (f j) := by
  obtain ⟨hl, hh⟩ := h
  rcases hh with ⟨rfl, rfl⟩ | ⟨g, cap, cur, rfl, hg, hb, hn, hc, hs, ht⟩
  · exact .inl ⟨rfl, rfl, List.eq_nil_of_length_eq_zero (by simpa using hl)⟩
  · refine .inr ⟨g, cap, fun j => cur[j]!, rfl, hg, hn, hc, ⟨cur, hb, hs, fun i hi => ?_⟩, fun j hj => ?_⟩
    · show cur[i]? = some cur[i]!
      rw [getElem!_pos cur i (by omega), Array.getElem?_eq_getElem (by omega)]
    · have hle : n * k ≤ cap * k := Nat.mul_le_mul_right k hn
      show _ = some cur[j]!
      rw [← ht, List.getElem?_take, if_pos hj, Array.getElem?_toList, getElem!_pos cur j (by omega), Array.getElem?_eq_getElem (by omega)]
theorem own_of_row_cap {g cap : Nat} {t : TypeId} {f : Nat → Value} {base : Nat} (h : w.rowIs g t (cap * k) f) (hb : base ≤ g) (hn : n ≤ cap) (hm : cap ≤ maxLen) (hx : xs.length = n * k) (hf : ∀ j, j < n * k → xs[j]? = some (f j)) :
    w.ownsRow base t k (.slice (some ⟨g, 0, none⟩) n cap) n xs := by
  obtain ⟨cur, hh, hs, hc⟩ := h
  have hle : n * k ≤ cap * k := Nat.mul_le_mul_right k hn
  refine ⟨hx, .inr ⟨g, cap, cur, rfl, hb, hh, hn, hm, hs, ?_⟩⟩
  apply List.ext_getElem?
  intro j
  by_cases hj : j < n * k
  · rw [List.getElem?_take, if_pos hj, Array.getElem?_toList, hc j (by omega), hf j hj]
  · rw [List.getElem?_take, if_neg hj, List.getElem?_eq_none (by omega)]
theorem own_lt {base : Nat} {e : TypeId} (h : w.ownsRow base e k v n xs) : ∀ g, v.ownBlock = some g → base ≤ g ∧ g < w.heap.size := h.lt
theorem own_below {base C : Nat} {e : TypeId} (h : w.ownsRow base e k v n xs) (hb : Below C w w') (hC : w.heap.size ≤ C) : w'.ownsRow base e k v n xs := by
  refine ⟨h.1, ?_⟩
  rcases h.2 with hn | ⟨g, cap, cur, rfl, h1, h2, rest⟩
  · exact .inl hn
  · exact .inr ⟨g, cap, cur, rfl, h1, (hb.block g (by have := (Array.getElem?_eq_some_iff.1 h2).1; omega)).trans h2, rest⟩
theorem own_keep {base : Nat} {e : TypeId} (h : w.ownsRow base e k v n xs) (hk : ∀ g, v.ownBlock = some g → w'.heap[g]? = w.heap[g]?) : w'.ownsRow base e k v n xs := by
  refine ⟨h.1, ?_⟩
  rcases h.2 with hn | ⟨g, cap, cur, rfl, h1, h2, rest⟩
  · exact .inl hn
  · exact .inr ⟨g, cap, cur, rfl, h1, (hk g rfl).trans h2, rest⟩
end
/-- make([]T, n), T of any number of cells: a new row of zero values. -/
theorem run_make_rowN {P : Program} (t e : TypeId) (i : TypeInfo) (z : Value) (ht : P.underlying t = some (.slice e)) (hi : P.info? e = some i) (hz : i.zero = some z)
    (kl kc : IntKind) (n c : Nat) (hnc : n ≤ c) (hbytes : i.bytes * c ≤ 281474976710656) (h63 : c ≤ 9223372036854775807) (w : World) :
    (Instr.makeSlice t (.int kl (n : Int)) (.int kc (c : Int))).run P w = .ok (.slice (some ⟨w.heap.size, 0, none⟩) n c) (w.alloc (.cells (madeCells z.cells (c * i.size)) e)) := by
  have hb : (i.bytes : Int) * (c : Int) ≤ 281474976710656 := by
    have h : ((i.bytes * c : Nat) : Int) ≤ 281474976710656 := by omega
    rwa [Int.natCast_mul] at h
  have hr := run_make (P := P) w t e i z ht hi hz kl kc n c (by omega) (by omega) hb (by omega)
  simp only [Int.toNat_natCast] at hr
  exact hr
/-- What make lays, told by the index: cell j is the (j % k)-th cell of the zero value. -/
theorem made_row (w : World) (z : Array Value) (n k : Nat) (t : TypeId) (hz : z.size = k) (hk : 0 < k) : (w.alloc (.cells (madeCells z (n * k)) t)).rowIs w.heap.size t (n * k) (fun j => z[j % k]!) :=
  ⟨_, blk_alloc_new _ _, size_madeCells _ _, fun i hi => by simp [madeCells, hi, hz]⟩
/-- make([]T, n), as the walk wants it: the facts on T are closed. -/
theorem make_law {P : Program} (t e : TypeId) (zs : Array Value) (size bytes : Nat) (ht : P.underlying t = some (.slice e)) (hinfo : (P.info? e).map (fun i => (i.zero.map Value.cells, i.size, i.bytes)) = some (some zs, size, bytes))
    (n : Nat) (hbytes : bytes * n ≤ 281474976710656) (h63 : n ≤ 9223372036854775807) (w : World) :
    (Instr.makeSlice t (.int .i64 (n : Int)) (.int .i64 (n : Int))).run P w = .ok (.slice (some ⟨w.heap.size, 0, none⟩) n n) (w.alloc (.cells (madeCells zs (n * size)) e)) := by
  obtain ⟨i, hi, hzz⟩ := Option.map_eq_some_iff.1 hinfo
  simp only [Prod.mk.injEq] at hzz
  obtain ⟨hz, hs, hb⟩ := hzz
  obtain ⟨z, hz1, hz2⟩ := Option.map_eq_some_iff.1 hz
  have := run_make_rowN t e i z ht hi hz1 .i64 .i64 n n (Nat.le_refl _) (by rw [hb]; exact hbytes) h63 w
  rw [hz2, hs] at this
  exact this
theorem grown_refl (w : World) (r : Option Nat) : w.grownBy w r := ⟨rfl, rfl, rfl, Nat.le_refl _, fun _ _ _ => rfl⟩
theorem grown_trans {a b c : World} {r : Option Nat} (h : a.grownBy b r) (k : b.grownBy c r) : a.grownBy c r :=
  ⟨k.os.trans h.os, k.tape.trans h.tape, k.output.trans h.output, Nat.le_trans h.size k.size, fun i hi h' => (k.block i (Nat.lt_of_lt_of_le hi h.size) h').trans (h.block i hi h')⟩
theorem grown_below {a b : World} {r : Option Nat} (h : Below a.heap.size a b) : a.grownBy b r := ⟨h.os, h.tape, h.output, h.size, fun i hi _ => h.block i hi⟩
theorem grown_drew {a b : World} {r : Option Nat} (h : a.grownBy b r) : a.grownBy b.drew r := ⟨h.os, h.tape, h.output, h.size, h.block⟩
theorem grown_set {a b : World} {g : Nat} (h : a.grownBy b (some g)) (i : Nat) (u : Value) : a.grownBy (b.setCell ⟨g, i, none⟩ u) (some g) :=
  ⟨h.os, h.tape, h.output, by simpa [World.setCell] using h.size, fun k hk hne => (Below.heap_setCell _ _ _ _ (by rintro rfl; exact hne rfl)).trans (h.block k hk hne)⟩
/-- The budget: what is left of it, or -1. -/
def bud (left : Int) (W : Nat) : Int := if (W : Int) ≤ left then left - W else -1
theorem bud_pos {left : Int} {W : Nat} (h : (W : Int) ≤ left) : bud left W = left - W := by unfold bud; rw [if_pos h]
theorem bud_neg {left : Int} {W : Nat} (h : ¬ (W : Int) ≤ left) : bud left W = -1 := by unfold bud; rw [if_neg h]
/-- Only the blocks of [lo, hi) have turned, of those below C. -/
structure Only (lo hi C : Nat) (w w' : World) : Prop where
  os : w'.os = w.os
  tape : w'.tape = w.tape
  output : w'.output = w.output
  size : w.heap.size ≤ w'.heap.size
  block : ∀ k, k < C → (k < lo ∨ hi ≤ k) → w'.heap[k]? = w.heap[k]?
theorem Only.refl (lo hi C : Nat) (w : World) : Only lo hi C w w := ⟨rfl, rfl, rfl, Nat.le_refl _, fun _ _ _ => rfl⟩
theorem Only.trans {lo hi C : Nat} {a b c : World} (h : Only lo hi C a b) (k : Only lo hi C b c) : Only lo hi C a c :=
  ⟨k.os.trans h.os, k.tape.trans h.tape, k.output.trans h.output, Nat.le_trans h.size k.size, fun i hi h' => (k.block i hi h').trans (h.block i hi h')⟩
theorem only_of_below {lo hi C : Nat} {a b : World} (h : Below C a b) : Only lo hi C a b := ⟨h.os, h.tape, h.output, h.size, fun i hi _ => h.block i hi⟩
theorem Only.below {lo hi C B : Nat} {a b : World} (h : Only lo hi C a b) (h1 : B ≤ lo) (h2 : B ≤ C) : Below B a b := ⟨h.os, h.tape, h.output, h.size, fun i hi => h.block i (by omega) (.inl (by omega))⟩
theorem Only.less {lo hi C C' : Nat} {a b : World} (h : Only lo hi C a b) (hC : C' ≤ C) : Only lo hi C' a b := ⟨h.os, h.tape, h.output, h.size, fun i hi h' => h.block i (by omega) h'⟩
theorem Only.wide {lo hi lo' hi' C : Nat} {a b : World} (h : Only lo hi C a b) (h1 : lo' ≤ lo) (h2 : hi ≤ hi') : Only lo' hi' C a b := ⟨h.os, h.tape, h.output, h.size, fun i hi h' => h.block i hi (by omega)⟩
theorem Only.set {lo hi C : Nat} {a b : World} (h : Only lo hi C a b) {p : Addr} (h1 : lo ≤ p.block) (h2 : p.block < hi) (u : Value) : Only lo hi C a (b.setCell p u) :=
  h.trans ⟨rfl, rfl, rfl, by simp [World.setCell], fun k _ hk => Below.heap_setCell _ _ _ _ (by omega)⟩
section
variable {H : Type} {enc : TypeId × Value → H} {P : Program} {w : World} {base : Nat} {spare : Nat → Bool} {held : Bool}
/-- The cells of a struct of one-cell fields, each with its own reading. -/
theorem struct_cells {e : TypeId} {k n : Nat} {cs : List Value} {y : DataW H × List MemPlace} (hs : P.underlying e = some (.struct (flds P e))) (hone : oneCellFields P (flds P e) = true) (hC : P.cellsOf e = k) (hk : (flds P e).size = k)
    (h : DataW.trod enc P w base spare held n e cs = some y) :
    cs.length = k ∧ ∀ (j : Nat) (ty : TypeId), ((flds P e)[j]?).map (·.type) = some ty → ∃ (n' : Nat) (u : Value) (y' : DataW H × List MemPlace), cs[j]? = some u ∧ DataW.trod enc P w base spare held n' ty [u] = some y' := by
  obtain ⟨xs, n', _, hx, hl, hlen, hg⟩ := DataW.trod_struct hs h
  refine ⟨hl.trans hC, fun j ty hj => ?_⟩
  obtain ⟨f, hf0, rfl⟩ := Option.map_eq_some_iff.1 hj
  obtain ⟨ho, hk1⟩ := hone_of hone j f hf0
  have hjl : j < (flds P e).size := (Array.getElem?_eq_some_iff.1 hf0).1
  have hl' : cs.length = k := hl.trans hC
  have h1 := hg j f hf0
  rw [ho, hk1] at h1
  have hone' : (cs.drop j).take 1 = [cs[j]'(by omega)] := by
    rw [List.drop_eq_getElem_cons (by omega)]
    rfl
  rw [hone'] at h1
  have hys : xs[j]? = some (xs[j]'(by omega)) := List.getElem?_eq_getElem (by omega)
  exact ⟨n', _, _, List.getElem?_eq_getElem (by omega), h1.trans hys⟩
/-- A slice that came in, its elements rows of k cells: it reads as a list. -/
theorem open_flat {α : Type} {k : Nat} {cf : α → List Value} {ok : α → Prop} (hk : ∀ x, (cf x).length = k) (hk0 : 0 < k) {t e : TypeId} {fuel : Nat} {cs : List Value} {y : DataW H × List MemPlace}
    (ht : P.underlying t = some (.slice e)) (hC : P.cellsOf e = k) (hread : ∀ n cs' y', DataW.trod enc P w base spare held n e cs' = some y' → ∃ x, cs' = cf x ∧ ok x)
    (h : DataW.trod enc P w base spare held fuel t cs = some y) :
    ∃ (v : Value) (l : List α), cs = [v] ∧ Rd w w.heap.size k v l.length (l.flatMap cf) ∧ ∀ x ∈ l, ok x := by
  classical
  rcases open_slice ht h with ⟨rfl, _⟩ | ⟨a, len, cap, m, n, D, Pl, rfl, hb, hl, hm, hmm, _, hx⟩
  · exact ⟨_, [], rfl, ⟨none, 0, rfl, Nat.le_refl _, Nat.zero_le _, by simp, fun h => absurd h (by simp)⟩, fun x hx => by simp at hx⟩
  · have hlm : len ≤ m := by rw [hmm]; split <;> omega
    rw [hC] at hx
    have each : ∀ i, i < len → ∃ x : α, ok x ∧ ∀ j u, (cf x)[j]? = some u → w.cell? ((a.add (i * k)).add j) = some u := by
      intro i hi
      obtain ⟨cs', hc, ht'⟩ := hx i (by omega)
      obtain ⟨x, rfl, hok⟩ := hread _ _ _ ht'
      obtain ⟨_, hcl, hat⟩ := World.cells?_some hc
      refine ⟨x, hok, fun j u hu => ?_⟩
      have hj : j < k := by have := (List.getElem?_eq_some_iff.1 hu).1; rwa [hk] at this
      rw [hat j hj, hu]
    by_cases h0 : len = 0
    · subst h0
      exact ⟨_, [], rfl, ⟨some a, cap, rfl, Nat.zero_le _, hm, by simp, fun h => absurd h (by simp)⟩, fun x hx => by simp at hx⟩
    · obtain ⟨x0, _, hx0⟩ := each 0 (by omega)
      obtain ⟨u0, hu0⟩ : ∃ u, (cf x0)[0]? = some u := ⟨_, List.getElem?_eq_getElem (by rw [hk]; exact hk0)⟩
      have hc0 := hx0 0 u0 hu0
      obtain ⟨b, off, spot⟩ := a
      have hspot : spot = none := by simpa [Addr.add] using World.cell?_spot hc0
      subst hspot
      have hbl : b < w.heap.size := by simpa [Addr.add] using World.block_lt_of_cell? w _ hc0
      let f : Nat → α := fun i => if hi : i < len then Classical.choose (each i hi) else x0
      have hf : ∀ i, i < len → ok (f i) ∧ ∀ j u, (cf (f i))[j]? = some u → w.cell? (((⟨b, off, none⟩ : Addr).add (i * k)).add j) = some u := fun i hi => by
        simp only [f, dif_pos hi]
        exact Classical.choose_spec (each i hi)
      refine ⟨_, (List.range len).map f, rfl, ⟨some ⟨b, off, none⟩, cap, by simp, by simpa using hl, hm, flat_len hk _, fun _ => ⟨b, off, rfl, hbl, fun j u hu => ?_⟩⟩, fun x hx => ?_⟩
      · have hj : j < len * k := by
          have := (List.getElem?_eq_some_iff.1 hu).1
          rw [flat_len hk] at this
          simpa using this
        have hi : j / k < len := by rw [Nat.div_lt_iff_lt_mul hk0]; exact hj
        have hjk : j = j / k * k + j % k := by rw [Nat.mul_comm]; exact (Nat.div_add_mod j k).symm
        have hmod : j % k < k := Nat.mod_lt _ hk0
        have hget := flat_get hk ((List.range len).map f) (j / k) (f (j / k)) (by simp [hi]) (j % k) hmod
        rw [← hjk, hu] at hget
        have := (hf (j / k) hi).2 (j % k) u hget.symm
        rw [Go.Deep.add_add, add_plain, ← hjk] at this
        exact this
      · simp only [List.mem_map, List.mem_range] at hx
        obtain ⟨i, hi, rfl⟩ := hx
        exact (hf i hi).1
end
/-- An element of a slice that is read: its block, and its cells one by one. -/
theorem Rd.at_ {α : Type} {k : Nat} {cf : α → List Value} {w : World} {B : Nat} {A : Option Addr} {l : List α} (hk : ∀ x, (cf x).length = k)
    (h : 0 < l.length → ∃ b off, A = some ⟨b, off, none⟩ ∧ b < B ∧ ∀ j u, (l.flatMap cf)[j]? = some u → w.cell? ⟨b, off + j, none⟩ = some u) {i : Nat} {x : α} (hx : l[i]? = some x) :
    ∃ b off, A = some ⟨b, off, none⟩ ∧ b < B ∧ ∀ j u, (cf x)[j]? = some u → w.cell? ⟨b, off + i * k + j, none⟩ = some u := by
  have hi : i < l.length := (List.getElem?_eq_some_iff.1 hx).1
  obtain ⟨b, off, rfl, hb, hc⟩ := h (by omega)
  refine ⟨b, off, rfl, hb, fun j u hu => ?_⟩
  have hj : j < k := by have := (List.getElem?_eq_some_iff.1 hu).1; rwa [hk] at this
  have := hc (i * k + j) u (by rw [flat_get hk l i x hx j hj]; exact hu)
  rwa [← Nat.add_assoc] at this

/-! ### append(row of one's own, a slice that is read ...) -/
section
variable {P : Program} (w : World)
theorem run_append_of_nil (base : Nat) (t ty e : TypeId) (i : TypeInfo) (size : Nat) (ht : P.underlying t = some (.slice e)) (hi : P.info? e = some i)
    (v : Value) (n : Nat) (xs : List Value) (hown : w.ownsRow base e size v n xs) (c : Nat) : (Builtin.append_ #[t, t] ty #[v, .slice none 0 c]).run P w = .ok v w := by
  rcases hown.2 with ⟨rfl, rfl⟩ | ⟨g, cap, cur, rfl, _, _, hnc, _⟩
  · simp [Builtin.append_, run_underlying ht, sizeOf, typeInfo, hi, Builtin.lenOf, Builtin.firstCells]
  · simp [Builtin.append_, run_underlying ht, sizeOf, typeInfo, hi, Builtin.lenOf, Builtin.firstCells, hnc, storeCells]

theorem run_append_rd (base : Nat) (t ty e : TypeId) (zs : Array Value) (size bytes : Nat) (ht : P.underlying t = some (.slice e)) (hinfo : (P.info? e).map (fun i => (i.zero.map Value.cells, i.size, i.bytes)) = some (some zs, size, bytes))
    (hzs : zs.size = size) (hsz : 0 < size)
    (v : Value) (n : Nat) (xs : List Value) (hown : w.ownsRow base e size v n xs)
    (B : Nat) (A : Option Addr) (m c : Nat) (news : List Value) (hr : Rd w B size (.slice A m c) m news) (h1 : ∀ u ∈ news, u.oneCell' = true)
    (h63 : n + m ≤ maxLen) (hbytes : (n + m) * bytes ≤ 140737488355328) (hbase : base ≤ w.heap.size) :
    ∃ v' w', (Builtin.append_ #[t, t] ty #[v, .slice A m c]).run P w = .ok v' w' ∧ w'.ownsRow base e size v' (n + m) (xs ++ news) ∧ w.grownBy w' v.ownBlock ∧
      (v'.ownBlock = v.ownBlock ∨ v'.ownBlock = some w.heap.size) := by
  obtain ⟨i, hi, hzz⟩ := Option.map_eq_some_iff.1 hinfo
  simp only [Prod.mk.injEq] at hzz
  obtain ⟨hz, hsize, hby⟩ := hzz
  obtain ⟨z, hz1, hz2⟩ := Option.map_eq_some_iff.1 hz
  obtain ⟨A', c', hA, _, _, hl, hc⟩ := hr
  simp only [Value.slice.injEq, true_and] at hA
  obtain ⟨rfl, rfl⟩ := hA
  rcases A with _ | ad
  · have hm : m = 0 := by
      rcases Nat.eq_zero_or_pos m with h0 | h0
      · exact h0
      · obtain ⟨b, off, h, _⟩ := hc h0
        cases h
    subst hm
    have hn : news = [] := List.eq_nil_of_length_eq_zero (by simpa using hl)
    subst hn
    exact ⟨v, w, run_append_of_nil w base t ty e i size ht hi v n xs hown c, by simpa using hown, grown_refl _ _, .inl rfl⟩
  · have hcells : ∀ j u, news[j]? = some u → w.cell? (ad.add j) = some u := by
      intro j u hu
      rcases Nat.eq_zero_or_pos m with h0 | h0
      · subst h0
        have hn : news = [] := List.eq_nil_of_length_eq_zero (by simpa using hl)
        subst hn
        simp at hu
      · obtain ⟨b, off, h, _, hcc⟩ := hc h0
        injection h with h
        subst h
        rw [add_plain]
        exact hcc j u hu
    obtain ⟨v', w', hrun, h2, h3, _, h5⟩ := run_append_own_at (P := P) w base t ty e i z size bytes ht hi hz1 hsize hby (by rw [hz2]; exact hzs) hsz v n xs hown ad m c news hl hcells h1 h63 hbytes hbase
    exact ⟨v', w', hrun, h2, h3, h5⟩

theorem wp_append_rd {o : Oper} {a : Act} {K : Act → World → Prop} {Q : Exit → Act → World → Prop} (s x : Operand) (t : TypeId)
    (ho : o.op = .call { callee := .builtin .append, args := #[s, x], argTypes := #[t, t] })
    (base : Nat) (e : TypeId) (zs : Array Value) (size bytes : Nat) (ht : P.underlying t = some (.slice e)) (hinfo : (P.info? e).map (fun i => (i.zero.map Value.cells, i.size, i.bytes)) = some (some zs, size, bytes))
    (hzs : zs.size = size) (hsz : 0 < size)
    (v : Value) (n : Nat) (xs : List Value) (hs : a.eval s = v) (hown : w.ownsRow base e size v n xs)
    (B : Nat) (A : Option Addr) (m c : Nat) (news : List Value) (hx : a.eval x = .slice A m c) (hr : Rd w B size (.slice A m c) m news) (h1 : ∀ u ∈ news, u.oneCell' = true)
    (h63 : n + m ≤ maxLen) (hbytes : (n + m) * bytes ≤ 140737488355328) (hbase : base ≤ w.heap.size)
    (h : ∀ v' w', w'.ownsRow base e size v' (n + m) (xs ++ news) → w.grownBy w' v.ownBlock → (v'.ownBlock = v.ownBlock ∨ v'.ownBlock = some w.heap.size) → K (a.put o.dst v') w') : o.wp P a w K Q := by
  obtain ⟨v', w', hrun, h2, h3, h4⟩ := run_append_rd (P := P) w base t o.type e zs size bytes ht hinfo hzs hsz v n xs hown B A m c news hr h1 h63 hbytes hbase
  unfold Oper.wp execOp
  simp only [ho, resolve, invoke, builtin, Sem.run_bind, Sem.run_pure, Result.andThen_ok, List.map_toArray, List.map_cons, List.map_nil, hs, hx, hrun]
  exact h v' w' h2 h3 h4

theorem wpList_append_rd {ops : Array Oper} {rest : List Oper} {o : Oper} {a : Act} {Q : Exit → Act → World → Prop} (hgd : o.guard = none) (s x : Operand) (t : TypeId)
    (ho : o.op = .call { callee := .builtin .append, args := #[s, x], argTypes := #[t, t] })
    (base : Nat) (e : TypeId) (zs : Array Value) (size bytes : Nat) (ht : P.underlying t = some (.slice e)) (hinfo : (P.info? e).map (fun i => (i.zero.map Value.cells, i.size, i.bytes)) = some (some zs, size, bytes))
    (hzs : zs.size = size) (hsz : 0 < size)
    (v : Value) (n : Nat) (xs : List Value) (hs : a.eval s = v) (hown : w.ownsRow base e size v n xs)
    (B : Nat) (A : Option Addr) (m c : Nat) (news : List Value) (hx : a.eval x = .slice A m c) (hr : Rd w B size (.slice A m c) m news) (h1 : ∀ u ∈ news, u.oneCell' = true)
    (h63 : n + m ≤ maxLen) (hbytes : (n + m) * bytes ≤ 140737488355328) (hbase : base ≤ w.heap.size)
    (h : ∀ v' w', w'.ownsRow base e size v' (n + m) (xs ++ news) → w.grownBy w' v.ownBlock → (v'.ownBlock = v.ownBlock ∨ v'.ownBlock = some w.heap.size) → wpList P ops Q rest (a.put o.dst v') w') : wpList P ops Q (o :: rest) a w :=
  wpList_plain hgd fun _ hK => wp_append_rd w s x t ho base e zs size bytes ht hinfo hzs hsz v n xs hs hown B A m c news hx hr h1 h63 hbytes hbase fun v' w' h2 h3 h4 => hK _ _ (h v' w' h2 h3 h4)
end
/-- A new row without elements. -/
theorem own_empty (w : World) (e : TypeId) (k : Nat) : (w.alloc (.cells #[] e)).ownsRow w.heap.size e k (.slice (some ⟨w.heap.size, 0, none⟩) 0 0) 0 [] :=
  World.ownsRow_made w #[] 0 (Nat.le_refl _) (Nat.zero_le _) (by simp)
theorem own_form {w : World} {base k n : Nat} {e : TypeId} {v : Value} {xs : List Value} (h : w.ownsRow base e k v n xs) : ∃ A c, v = .slice A n c := by
  rcases h.2 with ⟨rfl, rfl⟩ | ⟨g, cap, cur, rfl, _⟩
  · exact ⟨none, 0, rfl⟩
  · exact ⟨_, _, rfl⟩
theorem flat_take {α : Type} {k : Nat} {cf : α → List Value} (hk : ∀ x, (cf x).length = k) : ∀ (l : List α) (m : Nat), (l.take m).flatMap cf = (l.flatMap cf).take (m * k)
  | [], m => by simp
  | x :: r, 0 => by simp
  | x :: r, m + 1 => by
    rw [List.take_succ_cons, List.flatMap_cons, List.flatMap_cons, flat_take hk r m, Nat.succ_mul, List.take_append, hk]
    congr 1
    · rw [List.take_of_length_le (by rw [hk]; omega)]
    · congr 1
      omega
theorem own_take {w : World} {base k n m c : Nat} {e : TypeId} {A : Option Addr} {xs : List Value} (h : w.ownsRow base e k (.slice A n c) n xs) (hm : m ≤ n) : w.ownsRow base e k (.slice A m c) m (xs.take (m * k)) := by
  have hle : m * k ≤ n * k := Nat.mul_le_mul_right k hm
  refine ⟨by rw [List.length_take, h.1]; omega, ?_⟩
  rcases h.2 with ⟨hv, rfl⟩ | ⟨g, cap, cur, hv, hg, hb, hn, hc, hs, ht⟩
  · simp only [Value.slice.injEq] at hv
    obtain ⟨rfl, _, rfl⟩ := hv
    obtain rfl : m = 0 := by omega
    exact .inl ⟨rfl, rfl⟩
  · simp only [Value.slice.injEq, true_and] at hv
    obtain ⟨rfl, rfl⟩ := hv
    exact .inr ⟨g, c, cur, rfl, hg, hb, by omega, hc, hs, by rw [← ht, List.take_take]; congr 1; omega⟩
theorem own_cap {w : World} {base k n c : Nat} {e : TypeId} {A : Option Addr} {xs : List Value} (h : w.ownsRow base e k (.slice A n c) n xs) : n ≤ c := by
  rcases h.2 with ⟨hv, rfl⟩ | ⟨g, cap, cur, hv, hg, hb, hn, hc, hs, ht⟩
  · omega
  · simp only [Value.slice.injEq, true_and] at hv
    obtain ⟨_, rfl⟩ := hv
    exact hn
end Go.Proofs.YtdmbhmhfjappcaaGreatDoor
namespace Go.Proofs.YtdmbhmhfjappcaaGreatDoor
open Go.ChangeShapes Go.WideShapes Go.ChangeAt Go.RowKit Go.Deep Go.Joins
open Go.ChangeMaps (open_string shut_string)
set_option linter.unusedVariables false
set_option maxRecDepth 100000

/-- The decimal digits of k, the last at the end; f bounds their number. -/
def mtL : Nat → Nat → List UInt8
  | 0, _ => []
  | f + 1, k => if k = 0 then [] else mtL f (k / 10) ++ [UInt8.ofNat (48 + k % 10)]
theorem mtL_fuel : ∀ (f g k : Nat), k ≤ f → k ≤ g → mtL f k = mtL g k
  | 0, g, k, hf, hg => by
    obtain rfl : k = 0 := by omega
    cases g <;> simp [mtL]
  | f + 1, 0, k, hf, hg => by
    obtain rfl : k = 0 := by omega
    simp [mtL]
  | f + 1, g + 1, k, hf, hg => by
    unfold mtL
    by_cases h : k = 0
    · simp [h]
    · rw [if_neg h, if_neg h, mtL_fuel f g (k / 10) (by omega) (by omega)]
theorem mtL_step (k : Nat) (h : 0 < k) : mtL k k = mtL (k / 10) (k / 10) ++ [UInt8.ofNat (48 + k % 10)] := by
  obtain ⟨m, rfl⟩ : ∃ m, k = m + 1 := ⟨k - 1, by omega⟩
  rw [mtL, if_neg (by omega), mtL_fuel m _ _ (by omega) (Nat.le_refl _)]
def mt (k : Int) : ByteArray := if k ≤ 0 then ⟨#[109, 48]⟩ else ⟨(109 :: mtL k.toNat k.toNat).toArray⟩
theorem mtL_len : ∀ (f k n : Nat), k < 10 ^ n → (mtL f k).length ≤ n
  | 0, k, n, h => by simp [mtL]
  | f + 1, k, 0, h => by
    obtain rfl : k = 0 := by simpa using h
    simp [mtL]
  | f + 1, k, n + 1, h => by
    unfold mtL
    split
    · simp
    · rw [List.length_append]
      have := mtL_len f (k / 10) n (by rw [Nat.pow_succ] at h; omega)
      simp only [List.length_cons, List.length_nil]
      omega
end Go.Proofs.YtdmbhmhfjappcaaGreatDoor
