/-
  Parts of the proof: Base, Mem, Mark, Deep, DataU, DeepM. Conditions: none.
-/
import Derived.Test.YtgejkfcemlkclaaRows
import Derived.WalkKit
import Derived.ProofKit
import Derived.OpenShut
import Derived.ShutString
import Derived.ChangeOld
import Derived.Below
import Derived.Lib.SmallJoins
import Derived.Lib.Hide
import Derived.Deep.QuietTactic
import Derived.BigQuiet
import Derived.Deep.Slices
import Derived.Deep.Fields
import Derived.Deep.DeepCutAuto
import Derived.Deep.LoopGhost
import Derived.Deep.DeepMust
import Derived.WalkLawsBesides
import Derived.WalkSpells
import Derived.Laws.NewDeep
import Derived.Laws.MakeOwn
import Derived.Laws.OwnMore
import Derived.Deep.RegionHeld3
import Derived.Maps.AppendAt
import Derived.Deep.AppendLies
import Derived.RegionTactic
import Derived.OwnWalk
import Derived.Laws.BytesArg
import Derived.StillTailTactics
import Derived.Deep.OwnRows
namespace Go.Proofs.Ytgejkfcemlkclaa
open Go.ChangeShapes Go.WideShapes Go.ChangeAt Go.RowKit Go.Deep Go.Joins
open Go.ChangeMaps (open_string shut_string)
set_option linter.unusedVariables false

theorem own : ownKnob Try.prog.godebug = none := by kernel_rfl
theorem laidOut : laidOutB Try.prog = true := by kernel_rfl

theorem ret_int {k : IntKind} {a b : Int} (h : a = b) : Ending.returned (.int k a) = .returned (.int k b) := by rw [h]
theorem ret_bool {a b : Bool} (h : a = b) : Ending.returned (.bool a) = .returned (.bool b) := by rw [h]

theorem bcell {B : Nat} {w w1 : World} (hb : Below B w w1) : (∀ b o, b < B → w1.cell? ⟨b, o, none⟩ = w.cell? ⟨b, o, none⟩) ∧ (∀ b o, b < B → w1.frozen? ⟨b, o, none⟩ = w.frozen? ⟨b, o, none⟩) :=
  ⟨fun b o h => hb.cell (p := ⟨b, o, none⟩) h, fun b o h => hb.frozen (p := ⟨b, o, none⟩) h⟩

theorem below_drewN {B : Nat} {a w : World} (h : Below B a w) (n : Nat) : Below B a (w.drewN n) := ⟨h.os, h.tape, h.output, h.size, h.block⟩

section
variable {H : Type} {enc : TypeId × Value → H} {P : Program} {w : World} {base : Nat} {spare : Nat → Bool} {held : Bool}
end

/-- The fields of a struct type. -/
def flds (P : Program) (t : TypeId) : Array Field := match P.underlying t with | some (.struct fs) => fs | _ => #[]
end Go.Proofs.Ytgejkfcemlkclaa
namespace Go.Proofs.Ytgejkfcemlkclaa
open Go.ChangeShapes Go.WideShapes Go.ChangeAt Go.RowKit Go.Deep Go.Joins
open Go.ChangeMaps (open_string shut_string)
set_option linter.unusedVariables false

/-! ### flat lists -/
section
variable {α : Type} {k : Nat} {cf : α → List Value}
theorem flat_get (hk : ∀ x, (cf x).length = k) : ∀ (l : List α) (i : Nat) (x : α), l[i]? = some x → ∀ j, j < k → (l.flatMap cf)[i * k + j]? = (cf x)[j]?
  | [], i, x, h, j, hj => by simp at h
  | y :: r, 0, x, h, j, hj => by
    obtain rfl : y = x := by simpa using h
    rw [List.flatMap_cons, Nat.zero_mul, Nat.zero_add, List.getElem?_append_left (by rw [hk]; exact hj)]
  | y :: r, i + 1, x, h, j, hj => by
    have h' : r[i]? = some x := by simpa using h
    have e : (i + 1) * k + j = (cf y).length + (i * k + j) := by rw [hk, Nat.succ_mul]; omega
    rw [List.flatMap_cons, e, List.getElem?_append_right (by omega), Nat.add_sub_cancel_left]
    exact flat_get hk r i x h' j hj
end

/-! ### a slice that is read -/
/-- 'v' is a slice of n elements of k cells each; its cells, in order, are xs; it lies below block B. -/
def Rd (w : World) (B k : Nat) (v : Value) (n : Nat) (xs : List Value) : Prop :=
  ∃ A c, v = .slice A n c ∧ n ≤ c ∧ c ≤ maxLen ∧ xs.length = n * k ∧ (0 < n → ∃ b off, A = some ⟨b, off, none⟩ ∧ b < B ∧ ∀ j u, xs[j]? = some u → w.cell? ⟨b, off + j, none⟩ = some u)
section
variable {w w' : World} {B B' k n : Nat} {v : Value} {xs : List Value}
theorem Rd.keep (h : Rd w B k v n xs) (hk : ∀ p : Addr, p.block < B → w'.cell? p = w.cell? p) : Rd w' B k v n xs := by
  obtain ⟨A, c, rfl, h1, h2, h3, h4⟩ := h
  refine ⟨A, c, rfl, h1, h2, h3, fun hn => ?_⟩
  obtain ⟨b, off, rfl, hb, hc⟩ := h4 hn
  exact ⟨b, off, rfl, hb, fun j u hu => (hk _ hb).trans (hc j u hu)⟩
theorem Rd.more (h : Rd w B k v n xs) (hB : B ≤ B') : Rd w B' k v n xs := by
  obtain ⟨A, c, rfl, h1, h2, h3, h4⟩ := h
  refine ⟨A, c, rfl, h1, h2, h3, fun hn => ?_⟩
  obtain ⟨b, off, rfl, hb, hc⟩ := h4 hn
  exact ⟨b, off, rfl, by omega, hc⟩
theorem Rd.below (h : Rd w B k v n xs) {C : Nat} (hb : Below C w w') (hC : B ≤ C) : Rd w' B k v n xs := h.keep fun p hp => hb.cell (by omega)
theorem Rd.form (h : Rd w B k v n xs) : ∃ A c, v = .slice A n c := by obtain ⟨A, c, rfl, _⟩ := h; exact ⟨A, c, rfl⟩
/-- An owned row, by its index. -/
theorem own_row {base : Nat} {e : TypeId} (h : w.ownsRow base e k v n xs) : (v = .slice none 0 0 ∧ n = 0 ∧ xs = []) ∨ ∃ g cap f, v = .slice (some ⟨g, 0, none⟩) n cap ∧ base ≤ g ∧ n ≤ cap ∧ cap ≤ maxLen ∧ w.rowIs g e (cap * k) f ∧ ∀ j, j < n * k → xs[j]? = some (f j) := by
  obtain ⟨hl, hh⟩ := h
  rcases hh with ⟨rfl, rfl⟩ | ⟨g, cap, cur, rfl, hg, hb, hn, hc, hs, ht⟩
  · exact .inl ⟨rfl, rfl, List.eq_nil_of_length_eq_zero (by simpa using hl)⟩
  · refine .inr ⟨g, cap, fun j => cur[j]!, rfl, hg, hn, hc, ⟨cur, hb, hs, fun i hi => ?_⟩, fun j hj => ?_⟩
    · show cur[i]? = some cur[i]!
      rw [getElem!_pos cur i (by omega), Array.getElem?_eq_getElem (by omega)]
    · have hle : n * k ≤ cap * k := Nat.mul_le_mul_right k hn
      show _ = some cur[j]!
      rw [← ht, List.getElem?_take, if_pos hj, Array.getElem?_toList, getElem!_pos cur j (by omega), Array.getElem?_eq_getElem (by omega)]
theorem own_of_row_cap {g cap : Nat} {t : TypeId} {f : Nat → Value} {base : Nat} (h : w.rowIs g t (cap * k) f) (hb : base ≤ g) (hn : n ≤ cap) (hm : cap ≤ maxLen) (hx : xs.length = n * k) (hf : ∀ j, j < n * k → xs[j]? = some (f j)) :
    w.ownsRow base t k (.slice (some ⟨g, 0, none⟩) n cap) n xs := by
  obtain ⟨cur, hh, hs, hc⟩ := h
  have hle : n * k ≤ cap * k := Nat.mul_le_mul_right k hn
  refine ⟨hx, .inr ⟨g, cap, cur, rfl, hb, hh, hn, hm, hs, ?_⟩⟩
  apply List.ext_getElem?
  intro j
  by_cases hj : j < n * k
  · rw [List.getElem?_take, if_pos hj, Array.getElem?_toList, hc j (by omega), hf j hj]
  · rw [List.getElem?_take, if_neg hj, List.getElem?_eq_none (by omega)]
theorem own_below {base C : Nat} {e : TypeId} (h : w.ownsRow base e k v n xs) (hb : Below C w w') (hC : w.heap.size ≤ C) : w'.ownsRow base e k v n xs := by
  refine ⟨h.1, ?_⟩
  rcases h.2 with hn | ⟨g, cap, cur, rfl, h1, h2, rest⟩
  · exact .inl hn
  · exact .inr ⟨g, cap, cur, rfl, h1, (hb.block g (by have := (Array.getElem?_eq_some_iff.1 h2).1; omega)).trans h2, rest⟩
theorem own_keep {base : Nat} {e : TypeId} (h : w.ownsRow base e k v n xs) (hk : ∀ g, v.ownBlock = some g → w'.heap[g]? = w.heap[g]?) : w'.ownsRow base e k v n xs := by
  refine ⟨h.1, ?_⟩
  rcases h.2 with hn | ⟨g, cap, cur, rfl, h1, h2, rest⟩
  · exact .inl hn
  · exact .inr ⟨g, cap, cur, rfl, h1, (hk g rfl).trans h2, rest⟩
end
/-- make([]T, n), T of any number of cells: a new row of zero values. -/
theorem run_make_rowN {P : Program} (t e : TypeId) (i : TypeInfo) (z : Value) (ht : P.underlying t = some (.slice e)) (hi : P.info? e = some i) (hz : i.zero = some z)
    (kl kc : IntKind) (n c : Nat) (hnc : n ≤ c) (hbytes : i.bytes * c ≤ 281474976710656) (h63 : c ≤ 9223372036854775807) (w : World) :
    (Instr.makeSlice t (.int kl (n : Int)) (.int kc (c : Int))).run P w = .ok (.slice (some ⟨w.heap.size, 0, none⟩) n c) (w.alloc (.cells (madeCells z.cells (c * i.size)) e)) := by
  have hb : (i.bytes : Int) * (c : Int) ≤ 281474976710656 := by
    have h : ((i.bytes * c : Nat) : Int) ≤ 281474976710656 := by omega
    rwa [Int.natCast_mul] at h
  have hr := run_make (P := P) w t e i z ht hi hz kl kc n c (by omega) (by omega) hb (by omega)
  simp only [Int.toNat_natCast] at hr
  exact hr
/-- make([]T, n), as the walk wants it: the facts on T are closed. -/
theorem make_law {P : Program} (t e : TypeId) (zs : Array Value) (size bytes : Nat) (ht : P.underlying t = some (.slice e)) (hinfo : (P.info? e).map (fun i => (i.zero.map Value.cells, i.size, i.bytes)) = some (some zs, size, bytes))
    (n : Nat) (hbytes : bytes * n ≤ 281474976710656) (h63 : n ≤ 9223372036854775807) (w : World) :
    (Instr.makeSlice t (.int .i64 (n : Int)) (.int .i64 (n : Int))).run P w = .ok (.slice (some ⟨w.heap.size, 0, none⟩) n n) (w.alloc (.cells (madeCells zs (n * size)) e)) := by
  obtain ⟨i, hi, hzz⟩ := Option.map_eq_some_iff.1 hinfo
  simp only [Prod.mk.injEq] at hzz
  obtain ⟨hz, hs, hb⟩ := hzz
  obtain ⟨z, hz1, hz2⟩ := Option.map_eq_some_iff.1 hz
  have := run_make_rowN t e i z ht hi hz1 .i64 .i64 n n (Nat.le_refl _) (by rw [hb]; exact hbytes) h63 w
  rw [hz2, hs] at this
  exact this
/-- The budget: what is left of it, or -1. -/
def bud (left : Int) (W : Nat) : Int := if (W : Int) ≤ left then left - W else -1
theorem bud_pos {left : Int} {W : Nat} (h : (W : Int) ≤ left) : bud left W = left - W := by unfold bud; rw [if_pos h]
theorem bud_neg {left : Int} {W : Nat} (h : ¬ (W : Int) ≤ left) : bud left W = -1 := by unfold bud; rw [if_neg h]
/-- Only the blocks of [lo, hi) have turned, of those below C. -/
structure Only (lo hi C : Nat) (w w' : World) : Prop where
  os : w'.os = w.os
  tape : w'.tape = w.tape
  output : w'.output = w.output
  size : w.heap.size ≤ w'.heap.size
  block : ∀ k, k < C → (k < lo ∨ hi ≤ k) → w'.heap[k]? = w.heap[k]?
theorem Only.refl (lo hi C : Nat) (w : World) : Only lo hi C w w := ⟨rfl, rfl, rfl, Nat.le_refl _, fun _ _ _ => rfl⟩
theorem Only.trans {lo hi C : Nat} {a b c : World} (h : Only lo hi C a b) (k : Only lo hi C b c) : Only lo hi C a c :=
  ⟨k.os.trans h.os, k.tape.trans h.tape, k.output.trans h.output, Nat.le_trans h.size k.size, fun i hi h' => (k.block i hi h').trans (h.block i hi h')⟩
theorem only_of_below {lo hi C : Nat} {a b : World} (h : Below C a b) : Only lo hi C a b := ⟨h.os, h.tape, h.output, h.size, fun i hi _ => h.block i hi⟩
theorem Only.below {lo hi C B : Nat} {a b : World} (h : Only lo hi C a b) (h1 : B ≤ lo) (h2 : B ≤ C) : Below B a b := ⟨h.os, h.tape, h.output, h.size, fun i hi => h.block i (by omega) (.inl (by omega))⟩
theorem Only.less {lo hi C C' : Nat} {a b : World} (h : Only lo hi C a b) (hC : C' ≤ C) : Only lo hi C' a b := ⟨h.os, h.tape, h.output, h.size, fun i hi h' => h.block i (by omega) h'⟩
theorem Only.wide {lo hi lo' hi' C : Nat} {a b : World} (h : Only lo hi C a b) (h1 : lo' ≤ lo) (h2 : hi ≤ hi') : Only lo' hi' C a b := ⟨h.os, h.tape, h.output, h.size, fun i hi h' => h.block i hi (by omega)⟩
theorem Only.set {lo hi C : Nat} {a b : World} (h : Only lo hi C a b) {p : Addr} (h1 : lo ≤ p.block) (h2 : p.block < hi) (u : Value) : Only lo hi C a (b.setCell p u) :=
  h.trans ⟨rfl, rfl, rfl, by simp [World.setCell], fun k _ hk => Below.heap_setCell _ _ _ _ (by omega)⟩
section
variable {H : Type} {enc : TypeId × Value → H} {P : Program} {w : World} {base : Nat} {spare : Nat → Bool} {held : Bool}
end
/-- An element of a slice that is read: its block, and its cells one by one. -/
theorem Rd.at_ {α : Type} {k : Nat} {cf : α → List Value} {w : World} {B : Nat} {A : Option Addr} {l : List α} (hk : ∀ x, (cf x).length = k)
    (h : 0 < l.length → ∃ b off, A = some ⟨b, off, none⟩ ∧ b < B ∧ ∀ j u, (l.flatMap cf)[j]? = some u → w.cell? ⟨b, off + j, none⟩ = some u) {i : Nat} {x : α} (hx : l[i]? = some x) :
    ∃ b off, A = some ⟨b, off, none⟩ ∧ b < B ∧ ∀ j u, (cf x)[j]? = some u → w.cell? ⟨b, off + i * k + j, none⟩ = some u := by
  have hi : i < l.length := (List.getElem?_eq_some_iff.1 hx).1
  obtain ⟨b, off, rfl, hb, hc⟩ := h (by omega)
  refine ⟨b, off, rfl, hb, fun j u hu => ?_⟩
  have hj : j < k := by have := (List.getElem?_eq_some_iff.1 hu).1; rwa [hk] at this
  have := hc (i * k + j) u (by rw [flat_get hk l i x hx j hj]; exact hu)
  rwa [← Nat.add_assoc] at this

/-! ### append(row of one's own, a slice that is read ...) -/
section
variable {P : Program} (w : World)
end
theorem own_form {w : World} {base k n : Nat} {e : TypeId} {v : Value} {xs : List Value} (h : w.ownsRow base e k v n xs) : ∃ A c, v = .slice A n c := by
  rcases h.2 with ⟨rfl, rfl⟩ | ⟨g, cap, cur, rfl, _⟩
  · exact ⟨none, 0, rfl⟩
  · exact ⟨_, _, rfl⟩
end Go.Proofs.Ytgejkfcemlkclaa
namespace Go.Proofs.Ytgejkfcemlkclaa
open Go.ChangeShapes Go.WideShapes Go.ChangeAt Go.RowKit Go.Deep Go.Joins
open Go.ChangeMaps (open_string shut_string)
set_option linter.unusedVariables false
set_option maxRecDepth 100000

/-- The decimal digits of k, the last at the end; f bounds their number. -/
def mtL : Nat → Nat → List UInt8
  | 0, _ => []
  | f + 1, k => if k = 0 then [] else mtL f (k / 10) ++ [UInt8.ofNat (48 + k % 10)]
def mt (k : Int) : ByteArray := if k ≤ 0 then ⟨#[109, 48]⟩ else ⟨(109 :: mtL k.toNat k.toNat).toArray⟩
end Go.Proofs.Ytgejkfcemlkclaa
namespace Go.Proofs.Ytgejkfcemlkclaa
open Go.ChangeShapes Go.WideShapes Go.ChangeAt Go.RowKit Go.Deep Go.Joins
open Go.ChangeMaps (open_string shut_string)
set_option linter.unusedVariables false
set_option maxRecDepth 100000

/-- The content of one cell: a plain value, or a slice of n elements of k cells each (e: the type of its block). -/
inductive Cel where
  | v (u : Value)
  | s (e k n : Nat) (xs : List Cel)

/-! ### reading -/
mutual
/-- The value u reads as x, below block B. -/
def RdC (w : World) (B : Nat) : Cel → Value → Prop
  | .v x, u => u = x
  | .s _ k n xs, u => ∃ A c, u = .slice A n c ∧ n ≤ c ∧ c ≤ maxLen ∧ xs.length = n * k ∧ (0 < n → ∃ b off, A = some ⟨b, off, none⟩ ∧ b < B ∧ RdL w B b xs off)
/-- The cells of block b from o on read as the list. -/
def RdL (w : World) (B b : Nat) : List Cel → Nat → Prop
  | [], _ => True
  | x :: r, o => (∃ u, w.cell? ⟨b, o, none⟩ = some u ∧ RdC w B x u) ∧ RdL w B b r (o + 1)
end
theorem RdL.get {w : World} {B b : Nat} : ∀ (xs : List Cel) (o j : Nat) (x : Cel), RdL w B b xs o → xs[j]? = some x → ∃ u, w.cell? ⟨b, o + j, none⟩ = some u ∧ RdC w B x u
  | [], o, j, x, h, hx => by simp at hx
  | y :: r, o, 0, x, h, hx => by
    have e : y = x := by simpa using hx
    subst e
    unfold RdL at h
    exact h.1
  | y :: r, o, j + 1, x, h, hx => by
    unfold RdL at h
    have := RdL.get r (o + 1) j x h.2 (by simpa using hx)
    rwa [show o + 1 + j = o + (j + 1) from by omega] at this
theorem RdL.of {w : World} {B b : Nat} : ∀ (xs : List Cel) (o : Nat), (∀ j x, xs[j]? = some x → ∃ u, w.cell? ⟨b, o + j, none⟩ = some u ∧ RdC w B x u) → RdL w B b xs o
  | [], o, h => by unfold RdL; trivial
  | y :: r, o, h => by
    unfold RdL
    refine ⟨by simpa using h 0 y rfl, RdL.of r (o + 1) fun j x hx => ?_⟩
    have := h (j + 1) x (by simpa using hx)
    rwa [show o + (j + 1) = o + 1 + j from by omega] at this
mutual
theorem RdC.keep {w w' : World} {B : Nat} (hk : ∀ p : Addr, p.block < B → w'.cell? p = w.cell? p) : ∀ (x : Cel) (u : Value), RdC w B x u → RdC w' B x u
  | .v x, u, h => by unfold RdC at h ⊢; exact h
  | .s e k n xs, u, h => by
    unfold RdC at h ⊢
    obtain ⟨A, c, h1, h2, h3, h4, h5⟩ := h
    refine ⟨A, c, h1, h2, h3, h4, fun hn => ?_⟩
    obtain ⟨b, off, hA, hb, hl⟩ := h5 hn
    exact ⟨b, off, hA, hb, RdL.keep hk hb xs off hl⟩
theorem RdL.keep {w w' : World} {B b : Nat} (hk : ∀ p : Addr, p.block < B → w'.cell? p = w.cell? p) (hb : b < B) : ∀ (xs : List Cel) (o : Nat), RdL w B b xs o → RdL w' B b xs o
  | [], o, h => by unfold RdL; trivial
  | x :: r, o, h => by
    unfold RdL at h ⊢
    obtain ⟨⟨u, hu, hx⟩, hr⟩ := h
    exact ⟨⟨u, (hk ⟨b, o, none⟩ hb).trans hu, RdC.keep hk x u hx⟩, RdL.keep hk hb r (o + 1) hr⟩
end
mutual
theorem RdC.more {w : World} {B B' : Nat} (hB : B ≤ B') : ∀ (x : Cel) (u : Value), RdC w B x u → RdC w B' x u
  | .v x, u, h => by unfold RdC at h ⊢; exact h
  | .s e k n xs, u, h => by
    unfold RdC at h ⊢
    obtain ⟨A, c, h1, h2, h3, h4, h5⟩ := h
    refine ⟨A, c, h1, h2, h3, h4, fun hn => ?_⟩
    obtain ⟨b, off, hA, hb, hl⟩ := h5 hn
    exact ⟨b, off, hA, by omega, RdL.more hB xs off hl⟩
theorem RdL.more {w : World} {B B' b : Nat} (hB : B ≤ B') : ∀ (xs : List Cel) (o : Nat), RdL w B b xs o → RdL w B' b xs o
  | [], o, h => by unfold RdL; trivial
  | x :: r, o, h => by
    unfold RdL at h ⊢
    obtain ⟨⟨u, hu, hx⟩, hr⟩ := h
    exact ⟨⟨u, hu, RdC.more hB x u hx⟩, RdL.more hB r (o + 1) hr⟩
end
section
variable {w w' : World} {B C : Nat} {x : Cel} {u : Value}
theorem RdC.below (h : RdC w B x u) (hb : Below C w w') (hC : B ≤ C) : RdC w' B x u := RdC.keep (fun p hp => hb.cell (by omega)) x u h
/-- In a later world, and below any later block. -/
theorem RdC.on (h : RdC w B x u) (hb : Below C w w') (hC : B ≤ C) {B' : Nat} (hB : B ≤ B') : RdC w' B' x u := RdC.more hB x u (h.below hb hC)
theorem RdC.up (h : RdC w B x u) {B' : Nat} (hB : B ≤ B') : RdC w B' x u := RdC.more hB x u h
theorem RdC.form {e k n : Nat} {xs : List Cel} (h : RdC w B (.s e k n xs) u) : ∃ A c, u = .slice A n c := by
  unfold RdC at h
  obtain ⟨A, c, rfl, _⟩ := h
  exact ⟨A, c, rfl⟩
theorem RdC.val {y : Value} (h : RdC w B (.v y) u) : u = y := by unfold RdC at h; exact h
theorem RdC.cap {e k n c : Nat} {A : Option Addr} {xs : List Cel} (h : RdC w B (.s e k n xs) (.slice A n c)) : n ≤ c ∧ c ≤ maxLen := by
  unfold RdC at h
  obtain ⟨A', c', hA, h1, h2, _⟩ := h
  simp only [Value.slice.injEq, true_and] at hA
  obtain ⟨rfl, rfl⟩ := hA
  exact ⟨h1, h2⟩
theorem RdC.nil {e k c : Nat} {A : Option Addr} (hc : c ≤ maxLen) : RdC w B (.s e k 0 []) (.slice A 0 c) := by
  unfold RdC
  exact ⟨A, c, rfl, Nat.zero_le _, hc, by simp, fun h => absurd h (by omega)⟩
/-- The type of the block does not matter to a reader. -/
theorem RdC.ty {e e' k n : Nat} {xs : List Cel} (h : RdC w B (.s e k n xs) u) : RdC w B (.s e' k n xs) u := by
  unfold RdC at h ⊢
  exact h
end
/-- An element of a slice that is read: its block, and its cells one by one. -/
theorem RdC.at_ {α : Type} {k : Nat} {cf : α → List Cel} {w : World} {B e c : Nat} {A : Option Addr} {l : List α} (hk : ∀ x, (cf x).length = k)
    (h : RdC w B (.s e k l.length (l.flatMap cf)) (.slice A l.length c)) {i : Nat} {x : α} (hx : l[i]? = some x) :
    ∃ b off, A = some ⟨b, off, none⟩ ∧ b < B ∧ ∀ j y, (cf x)[j]? = some y → ∃ u, w.cell? ⟨b, off + i * k + j, none⟩ = some u ∧ RdC w B y u := by
  have hi : i < l.length := (List.getElem?_eq_some_iff.1 hx).1
  unfold RdC at h
  obtain ⟨A', c', hA, _, _, _, h5⟩ := h
  simp only [Value.slice.injEq, true_and] at hA
  obtain ⟨rfl, rfl⟩ := hA
  obtain ⟨b, off, rfl, hb, hl⟩ := h5 (by omega)
  refine ⟨b, off, rfl, hb, fun j y hy => ?_⟩
  have hj : j < k := by have := (List.getElem?_eq_some_iff.1 hy).1; rwa [hk] at this
  have hg : ∀ (l : List α) (i : Nat) (x : α), l[i]? = some x → ∀ j, j < k → (l.flatMap cf)[i * k + j]? = (cf x)[j]? := by
    intro l
    induction l with
    | nil => intro i x h; simp at h
    | cons a r ih =>
      intro i x h j hj
      cases i with
      | zero =>
        obtain rfl : a = x := by simpa using h
        rw [List.flatMap_cons, Nat.zero_mul, Nat.zero_add, List.getElem?_append_left (by rw [hk]; exact hj)]
      | succ i =>
        have h' : r[i]? = some x := by simpa using h
        have e : (i + 1) * k + j = (cf a).length + (i * k + j) := by rw [hk, Nat.succ_mul]; omega
        rw [List.flatMap_cons, e, List.getElem?_append_right (by omega), Nat.add_sub_cancel_left]
        exact ih i x h' j hj
  have := RdL.get _ off (i * k + j) y hl (by rw [hg l i x hx j hj]; exact hy)
  rwa [← Nat.add_assoc] at this
/-- A list of values reads as a list of cells. -/
def RdVs (w : World) (B : Nat) (xs : List Cel) (us : List Value) : Prop := us.length = xs.length ∧ ∀ (j : Nat) (x : Cel) (u : Value), xs[j]? = some x → us[j]? = some u → RdC w B x u
theorem RdVs.nil (w : World) (B : Nat) : RdVs w B [] [] := ⟨rfl, fun j x u h => by simp at h⟩
theorem RdVs.cons {w : World} {B : Nat} {x : Cel} {u : Value} {xs : List Cel} {us : List Value} (h : RdC w B x u) (h' : RdVs w B xs us) : RdVs w B (x :: xs) (u :: us) := by
  refine ⟨by simp [h'.1], fun j y z hy hz => ?_⟩
  cases j with
  | zero =>
    simp only [List.getElem?_cons_zero, Option.some.injEq] at hy hz
    subst hy hz
    exact h
  | succ j => exact h'.2 j y z (by simpa using hy) (by simpa using hz)
theorem RdVs.app {w : World} {B : Nat} {xs ys : List Cel} {us vs : List Value} (h : RdVs w B xs us) (h' : RdVs w B ys vs) : RdVs w B (xs ++ ys) (us ++ vs) := by
  induction xs generalizing us with
  | nil =>
    obtain rfl : us = [] := List.eq_nil_of_length_eq_zero (by simpa using h.1)
    exact h'
  | cons x r ih =>
    cases us with
    | nil => have := h.1; simp at this
    | cons u us =>
      refine RdVs.cons (h.2 0 x u rfl rfl) (ih ⟨by have := h.1; simpa using this, fun j y z hy hz => h.2 (j + 1) y z (by simpa using hy) (by simpa using hz)⟩)

/-! ### owning -/
/-- The block of a slice that starts its block, if any. -/
def ownB (u : Value) : List Nat := match u.ownBlock with
  | some g => [g]
  | none => []
mutual
/-- The value u is x, in blocks of its own: just those of the list, each named once. -/
def OwnC (w : World) : Cel → List Nat → Value → Prop
  | .v x, F, u => F = [] ∧ u = x
  | .s e k n xs, F, u => ∃ us G, F = ownB u ++ G ∧ w.ownsRow 0 e k u n us ∧ OwnL w xs G us
def OwnL (w : World) : List Cel → List Nat → List Value → Prop
  | [], F, us => F = [] ∧ us = []
  | x :: r, F, us => ∃ u us' F1 F2, us = u :: us' ∧ F = F1 ++ F2 ∧ OwnC w x F1 u ∧ OwnL w r F2 us'
end
theorem OwnL.len {w : World} : ∀ (xs : List Cel) (F : List Nat) (us : List Value), OwnL w xs F us → us.length = xs.length
  | [], F, us, h => by unfold OwnL at h; rw [h.2]; rfl
  | x :: r, F, us, h => by
    unfold OwnL at h
    obtain ⟨u, us', F1, F2, rfl, rfl, _, hr⟩ := h
    simp [OwnL.len r F2 us' hr]
theorem OwnL.split {w : World} : ∀ (xs ys : List Cel) (F : List Nat) (us : List Value), OwnL w (xs ++ ys) F us → ∃ F1 F2 u1 u2, F = F1 ++ F2 ∧ us = u1 ++ u2 ∧ OwnL w xs F1 u1 ∧ OwnL w ys F2 u2
  | [], ys, F, us, h => ⟨[], F, [], us, rfl, rfl, by unfold OwnL; exact ⟨rfl, rfl⟩, h⟩
  | x :: r, ys, F, us, h => by
    rw [List.cons_append] at h
    unfold OwnL at h
    obtain ⟨u, us', F1, F2, rfl, rfl, hx, hr⟩ := h
    obtain ⟨G1, G2, u1, u2, rfl, rfl, h1, h2⟩ := OwnL.split r ys F2 us' hr
    refine ⟨F1 ++ G1, G2, u :: u1, u2, by simp, by simp, ?_, h2⟩
    unfold OwnL
    exact ⟨u, u1, F1, G1, rfl, rfl, hx, h1⟩
theorem OwnL.join {w : World} : ∀ (xs ys : List Cel) (F1 F2 : List Nat) (u1 u2 : List Value), OwnL w xs F1 u1 → OwnL w ys F2 u2 → OwnL w (xs ++ ys) (F1 ++ F2) (u1 ++ u2)
  | [], ys, F1, F2, u1, u2, h, h' => by
    unfold OwnL at h
    obtain ⟨rfl, rfl⟩ := h
    exact h'
  | x :: r, ys, F1, F2, u1, u2, h, h' => by
    unfold OwnL at h
    obtain ⟨u, us', G1, G2, rfl, rfl, hx, hr⟩ := h
    rw [List.cons_append]
    unfold OwnL
    exact ⟨u, us' ++ u2, G1, G2 ++ F2, by simp, by simp, hx, OwnL.join r ys G2 F2 us' u2 hr h'⟩
mutual
theorem OwnC.keep {w w' : World} : ∀ (x : Cel) (F : List Nat) (u : Value), OwnC w x F u → (∀ g, g ∈ F → w'.heap[g]? = w.heap[g]?) → OwnC w' x F u
  | .v x, F, u, h, hk => by unfold OwnC at h ⊢; exact h
  | .s e k n xs, F, u, h, hk => by
    unfold OwnC at h ⊢
    obtain ⟨us, G, rfl, ho, hl⟩ := h
    refine ⟨us, G, rfl, own_keep ho fun g hg => hk g ?_, OwnL.keep xs G us hl fun g hg => hk g (List.mem_append_right _ hg)⟩
    apply List.mem_append_left
    unfold ownB
    rw [hg]
    exact List.mem_singleton.2 rfl
theorem OwnL.keep {w w' : World} : ∀ (xs : List Cel) (F : List Nat) (us : List Value), OwnL w xs F us → (∀ g, g ∈ F → w'.heap[g]? = w.heap[g]?) → OwnL w' xs F us
  | [], F, us, h, hk => by unfold OwnL at h ⊢; exact h
  | x :: r, F, us, h, hk => by
    unfold OwnL at h ⊢
    obtain ⟨u, us', F1, F2, rfl, rfl, hx, hr⟩ := h
    exact ⟨u, us', F1, F2, rfl, rfl, OwnC.keep x F1 u hx fun g hg => hk g (List.mem_append_left _ hg), OwnL.keep r F2 us' hr fun g hg => hk g (List.mem_append_right _ hg)⟩
end
theorem mem_ownB {u : Value} {g : Nat} : g ∈ ownB u ↔ u.ownBlock = some g := by
  unfold ownB
  cases h : u.ownBlock with
  | none => simp
  | some b => simp; exact ⟨fun e => e.symm, fun e => e.symm⟩
mutual
theorem OwnC.lt {w : World} : ∀ (x : Cel) (F : List Nat) (u : Value), OwnC w x F u → ∀ g, g ∈ F → g < w.heap.size
  | .v x, F, u, h, g, hg => by unfold OwnC at h; rw [h.1] at hg; cases hg
  | .s e k n xs, F, u, h, g, hg => by
    unfold OwnC at h
    obtain ⟨us, G, rfl, ho, hl⟩ := h
    rcases List.mem_append.1 hg with hg | hg
    · exact (ho.lt g (mem_ownB.1 hg)).2
    · exact OwnL.lt xs G us hl g hg
theorem OwnL.lt {w : World} : ∀ (xs : List Cel) (F : List Nat) (us : List Value), OwnL w xs F us → ∀ g, g ∈ F → g < w.heap.size
  | [], F, us, h, g, hg => by unfold OwnL at h; rw [h.1] at hg; cases hg
  | x :: r, F, us, h, g, hg => by
    unfold OwnL at h
    obtain ⟨u, us', F1, F2, rfl, rfl, hx, hr⟩ := h
    rcases List.mem_append.1 hg with hg | hg
    · exact OwnC.lt x F1 u hx g hg
    · exact OwnL.lt r F2 us' hr g hg
end
mutual
theorem OwnC.read {w : World} : ∀ (x : Cel) (F : List Nat) (u : Value), OwnC w x F u → RdC w w.heap.size x u
  | .v x, F, u, h => by unfold OwnC at h; unfold RdC; exact h.2
  | .s e k n xs, F, u, h => by
    unfold OwnC at h
    obtain ⟨us, G, rfl, ho, hl⟩ := h
    have hlen := OwnL.len xs G us hl
    unfold RdC
    rcases own_row ho with ⟨rfl, rfl, rfl⟩ | ⟨g, cap, f, rfl, hg, hn, hc, hrow, hx⟩
    · exact ⟨none, 0, rfl, Nat.le_refl _, Nat.zero_le _, by rw [← hlen]; simp, fun h => absurd h (by omega)⟩
    · refine ⟨some ⟨g, 0, none⟩, cap, rfl, hn, hc, by rw [← hlen]; exact ho.1, fun _ => ⟨g, 0, rfl, hrow.lt, OwnL.read xs G us hl g 0 fun j u hu => ?_⟩⟩
      have hj : j < n * k := by have := (List.getElem?_eq_some_iff.1 hu).1; rw [ho.1] at this; exact this
      have hle : n * k ≤ cap * k := Nat.mul_le_mul_right k hn
      rw [Nat.zero_add, hrow.cell (by omega), ← hx j hj, hu]
theorem OwnL.read {w : World} : ∀ (xs : List Cel) (F : List Nat) (us : List Value), OwnL w xs F us → ∀ (b o : Nat), (∀ j u, us[j]? = some u → w.cell? ⟨b, o + j, none⟩ = some u) → RdL w w.heap.size b xs o
  | [], F, us, h, b, o, hc => by unfold RdL; trivial
  | x :: r, F, us, h, b, o, hc => by
    unfold OwnL at h
    obtain ⟨u, us', F1, F2, rfl, rfl, hx, hr⟩ := h
    unfold RdL
    refine ⟨⟨u, by simpa using hc 0 u rfl, OwnC.read x F1 u hx⟩, OwnL.read r F2 us' hr b (o + 1) fun j v hv => ?_⟩
    have := hc (j + 1) v (by simpa using hv)
    rwa [show o + (j + 1) = o + 1 + j from by omega] at this
end
section
variable {w w' : World} {C : Nat} {x : Cel} {F : List Nat} {u : Value}
theorem OwnC.below (h : OwnC w x F u) (hb : Below C w w') (hC : w.heap.size ≤ C) : OwnC w' x F u := OwnC.keep x F u h fun g hg => hb.block g (by have := OwnC.lt x F u h g hg; omega)
theorem OwnL.below {xs : List Cel} {us : List Value} (h : OwnL w xs F us) (hb : Below C w w') (hC : w.heap.size ≤ C) : OwnL w' xs F us := OwnL.keep xs F us h fun g hg => hb.block g (by have := OwnL.lt xs F us h g hg; omega)
theorem OwnC.form {e k n : Nat} {xs : List Cel} (h : OwnC w (.s e k n xs) F u) : ∃ A c, u = .slice A n c := by
  unfold OwnC at h
  obtain ⟨us, G, rfl, ho, hl⟩ := h
  exact own_form ho
theorem OwnC.val {y : Value} (h : OwnC w (.v y) F u) : F = [] ∧ u = y := by unfold OwnC at h; exact h
end
theorem OwnL.nil (w : World) : OwnL w [] [] [] := by unfold OwnL; exact ⟨rfl, rfl⟩
theorem OwnL.cons {w : World} {x : Cel} {F1 F2 : List Nat} {u : Value} {xs : List Cel} {us : List Value} (h : OwnC w x F1 u) (h' : OwnL w xs F2 us) : OwnL w (x :: xs) (F1 ++ F2) (u :: us) := by
  unfold OwnL
  exact ⟨u, us, F1, F2, rfl, rfl, h, h'⟩
theorem OwnL.consv {w : World} {x : Value} {F : List Nat} {xs : List Cel} {us : List Value} (h' : OwnL w xs F us) : OwnL w (.v x :: xs) F (x :: us) := by
  have := OwnL.cons (x := .v x) (F1 := []) (u := x) (by unfold OwnC; exact ⟨rfl, rfl⟩) h'
  exact this
theorem OwnL.uncons {w : World} {x : Cel} {F : List Nat} {xs : List Cel} {us : List Value} (h : OwnL w (x :: xs) F us) : ∃ u us' F1 F2, us = u :: us' ∧ F = F1 ++ F2 ∧ OwnC w x F1 u ∧ OwnL w xs F2 us' := by
  unfold OwnL at h
  exact h
theorem OwnL.unnil {w : World} {F : List Nat} {us : List Value} (h : OwnL w [] F us) : F = [] ∧ us = [] := by unfold OwnL at h; exact h
/-- Owned values read, as a list of values. -/
theorem OwnL.vs {w : World} : ∀ (xs : List Cel) (F : List Nat) (us : List Value), OwnL w xs F us → RdVs w w.heap.size xs us
  | [], F, us, h => by obtain ⟨_, rfl⟩ := h.unnil; exact RdVs.nil _ _
  | x :: r, F, us, h => by
    obtain ⟨u, us', F1, F2, rfl, rfl, hx, hr⟩ := h.uncons
    exact RdVs.cons (OwnC.read x F1 u hx) (OwnL.vs r F2 us' hr)
/-- An owned slice, out of its parts. -/
theorem OwnC.mk {w : World} {e k n : Nat} {xs : List Cel} {u : Value} {us : List Value} {G : List Nat} {base : Nat} (ho : w.ownsRow base e k u n us) (hl : OwnL w xs G us) : OwnC w (.s e k n xs) (ownB u ++ G) u := by
  unfold OwnC
  exact ⟨us, G, rfl, ownsRow_le ho (Nat.zero_le _), hl⟩
theorem OwnC.nil (w : World) (e k : Nat) : OwnC w (.s e k 0 []) [] (.slice none 0 0) := by
  unfold OwnC
  exact ⟨[], [], rfl, World.ownsRow_nil _ _ _ _, OwnL.nil w⟩
/-- A store into an owned row. -/
theorem own_setC {w : World} {base k n cap g i : Nat} {e : TypeId} {xs : List Value} (h : w.ownsRow base e k (.slice (some ⟨g, 0, none⟩) n cap) n xs) (hi : i < n * k) (u : Value) : (w.setCell ⟨g, i, none⟩ u).ownsRow base e k (.slice (some ⟨g, 0, none⟩) n cap) n (xs.set i u) := by
  rcases own_row h with ⟨hv, _⟩ | ⟨g1, cap1, f, hv, hg, hn, hc, hrow, hf⟩
  · cases hv
  · injection hv with e1 e2 e3
    injection e1 with e1
    injection e1 with e1 _ _
    subst e1 e3
    refine own_of_row_cap (hrow.set i u) hg hn hc (by rw [List.length_set]; exact h.1) fun j hj => ?_
    rw [List.getElem?_set]
    by_cases hij : i = j
    · subst hij
      rw [if_pos rfl, if_pos (by rw [h.1]; exact hi)]
      simp
    · rw [if_neg hij, hf j hj, if_neg (fun e => hij e.symm)]
/-- One cell of an owned slice: what stands there, and what it means to put another thing in its stead. -/
theorem OwnC.at_ {w : World} {e k n c : Nat} {A : Option Addr} {D R : List Cel} {x : Cel} {F : List Nat} (h : OwnC w (.s e k n (D ++ x :: R)) F (.slice A n c)) (hF : F.Nodup) :
    ∃ g a Fx, A = some ⟨g, 0, none⟩ ∧ g ∈ F ∧ w.cell? ⟨g, D.length, none⟩ = some a ∧ (∀ i, w.frozen? ⟨g, i, none⟩ = false) ∧ OwnC w x Fx a ∧ (∀ b, b ∈ Fx → b ∈ F) ∧ Fx.Nodup ∧ g ∉ Fx ∧
      ∀ (w' : World) (x' : Cel), OwnC w' x' Fx a → (∀ b, b ∈ F → b ∉ Fx → w'.heap[b]? = w.heap[b]?) → OwnC w' (.s e k n (D ++ x' :: R)) F (.slice A n c) := by
  have h0 := h
  unfold OwnC at h
  obtain ⟨us, G, rfl, ho, hl⟩ := h
  have hlen := OwnL.len _ _ _ hl
  obtain ⟨F1, F2, u1, u2, rfl, rfl, hD, hR⟩ := OwnL.split D (x :: R) G us hl
  obtain ⟨a, u3, Fx, F3, rfl, rfl, hx, hR'⟩ := hR.uncons
  have hl1 := OwnL.len _ _ _ hD
  rcases own_row ho with ⟨hv, rfl, hnil⟩ | ⟨g, cap, f, hv, hg, hn, hc, hrow, hf⟩
  · simp at hnil
  · simp only [Value.slice.injEq, true_and] at hv
    obtain ⟨rfl, rfl⟩ := hv
    have hB : ownB (.slice (some ⟨g, 0, none⟩) n c) = [g] := rfl
    rw [hB] at hF h0 ⊢
    have hle : n * k ≤ c * k := Nat.mul_le_mul_right k hn
    have hlt : D.length < n * k := by rw [← ho.1]; simp; omega
    have hnd := List.nodup_cons.1 (show (g :: (F1 ++ (Fx ++ F3))).Nodup from hF)
    have hnd2 := List.nodup_append.1 hnd.2
    have hnd3 := List.nodup_append.1 hnd2.2.1
    refine ⟨g, a, Fx, rfl, by simp, ?_, hrow.frozen, hx, fun b hb => by simp [hb], hnd3.1, fun hb => hnd.1 (by simp [hb]), fun w' x' hx' hk => ?_⟩
    · rw [hrow.cell (by omega), ← hf _ hlt, ← hl1, List.getElem?_append_right (Nat.le_refl _)]
      simp
    · unfold OwnC
      refine ⟨u1 ++ a :: u3, F1 ++ (Fx ++ F3), by rw [hB], own_keep ho fun b hb => hk b ?_ ?_, OwnL.join _ _ _ _ _ _ (OwnL.keep _ _ _ hD fun b hb => hk b ?_ ?_) (OwnL.cons hx' (OwnL.keep _ _ _ hR' fun b hb => hk b ?_ ?_))⟩
      · have : g = b := by simpa [Value.ownBlock] using hb
        simp [this]
      · have : g = b := by simpa [Value.ownBlock] using hb
        subst this
        exact fun hb' => hnd.1 (by simp [hb'])
      · simp [hb]
      · exact fun hb' => hnd2.2.2 b hb b (by simp [hb']) rfl
      · simp [hb]
      · exact fun hb' => hnd3.2.2 b hb' b hb rfl
/-! ### marks -/
def mkV (k : Int) : Value → Value
  | .int kd _ => .int kd k
  | .string _ => .string (mt k)
  | .bool _ => .bool (k % 3 == 0)
  | u => u
mutual
/-- How many plain values lie in it. -/
def Cel.cnt : Cel → Nat
  | .v _ => 1
  | .s _ _ _ xs => cntL xs
def cntL : List Cel → Nat
  | [] => 0
  | x :: r => x.cnt + cntL r
end
mutual
def mkC : Cel → Int → Cel
  | .v u, k => .v (mkV k u)
  | .s e m n xs, k => .s e m n (mkL xs k)
def mkL : List Cel → Int → List Cel
  | [], _ => []
  | x :: r, k => mkC x k :: mkL r (k + (x.cnt : Int))
end
/-! ### frames -/
/-- Only the blocks of F have turned. -/
structure OnlyF (F : List Nat) (w w' : World) : Prop where
  os : w'.os = w.os
  tape : w'.tape = w.tape
  output : w'.output = w.output
  size : w.heap.size ≤ w'.heap.size
  block : ∀ b, b < w.heap.size → b ∉ F → w'.heap[b]? = w.heap[b]?
theorem OnlyF.refl (F : List Nat) (w : World) : OnlyF F w w := ⟨rfl, rfl, rfl, Nat.le_refl _, fun _ _ _ => rfl⟩
theorem OnlyF.trans {F : List Nat} {a b c : World} (h : OnlyF F a b) (k : OnlyF F b c) : OnlyF F a c :=
  ⟨k.os.trans h.os, k.tape.trans h.tape, k.output.trans h.output, Nat.le_trans h.size k.size, fun i hi h' => (k.block i (Nat.lt_of_lt_of_le hi h.size) h').trans (h.block i hi h')⟩
theorem OnlyF.wide {F G : List Nat} {a b : World} (h : OnlyF F a b) (hs : ∀ g, g ∈ F → g ∈ G) : OnlyF G a b := ⟨h.os, h.tape, h.output, h.size, fun i hi h' => h.block i hi fun e => h' (hs i e)⟩
theorem onlyF_below {F : List Nat} {a b : World} (h : Below a.heap.size a b) : OnlyF F a b := ⟨h.os, h.tape, h.output, h.size, fun i hi _ => h.block i hi⟩
theorem OnlyF.set {F : List Nat} {a b : World} (h : OnlyF F a b) {p : Addr} (hp : p.block ∈ F) (u : Value) : OnlyF F a (b.setCell p u) :=
  h.trans ⟨rfl, rfl, rfl, by simp [World.setCell], fun i _ hi => Below.heap_setCell _ _ _ _ (fun e => hi (e ▸ hp))⟩
theorem OnlyF.below {F : List Nat} {a b : World} {B : Nat} (h : OnlyF F a b) (hB : B ≤ a.heap.size) (hF : ∀ g, g ∈ F → B ≤ g) : Below B a b :=
  ⟨h.os, h.tape, h.output, h.size, fun i hi => h.block i (by omega) fun e => by have := hF i e; omega⟩
theorem OnlyF.alloc {F : List Nat} {a b : World} (h : OnlyF F a b) (o : Obj) : OnlyF F a (b.alloc o) := h.trans (onlyF_below ((Below.refl _ _).alloc (Nat.le_refl _) _))
theorem OnlyF.drew {F : List Nat} {a b : World} (h : OnlyF F a b) : OnlyF F a b.drew := ⟨h.os, h.tape, h.output, h.size, h.block⟩
theorem OwnC.only {w w' : World} {x : Cel} {F G : List Nat} {u : Value} (h : OwnC w x F u) (hb : OnlyF G w w') (hd : ∀ g, g ∈ F → g ∉ G) : OwnC w' x F u :=
  OwnC.keep x F u h fun g hg => hb.block g (OwnC.lt x F u h g hg) (hd g hg)

/-! ### slices that came in -/
section
variable {H : Type} {enc : TypeId × Value → H} {P : Program} {w : World} {base : Nat} {spare : Nat → Bool} {held : Bool}
theorem open_deep {α : Type} {k : Nat} {cf : α → List Cel} {ok : α → Prop} (e0 : Nat) (hk : ∀ x, (cf x).length = k) (hk0 : 0 < k) {t e : TypeId} {fuel : Nat} {cs : List Value} {y : DataW H × List MemPlace}
    (ht : P.underlying t = some (.slice e)) (hC : P.cellsOf e = k) (hread : ∀ n cs' y', n < fuel → DataW.trod enc P w base spare held n e cs' = some y' → ∃ x, RdVs w w.heap.size (cf x) cs' ∧ ok x)
    (h : DataW.trod enc P w base spare held fuel t cs = some y) :
    ∃ (v : Value) (l : List α), cs = [v] ∧ RdC w w.heap.size (.s e0 k l.length (l.flatMap cf)) v ∧ ∀ x ∈ l, ok x := by
  classical
  rcases DataW.trod_slice ht h with ⟨rfl, _⟩ | ⟨a, len, cap, el, rest, n, rfl, rfl, _, hb, hl, hm, hel, hx, _, _⟩
  · exact ⟨_, [], rfl, RdC.nil (Nat.zero_le _), fun x hx => by simp at hx⟩
  · rw [hC] at hx
    have each : ∀ i, i < len → ∃ x : α, ok x ∧ ∀ j z, (cf x)[j]? = some z → ∃ u, w.cell? ((a.add (i * k)).add j) = some u ∧ RdC w w.heap.size z u := by
      intro i hi
      have hxi := hx i hi
      rw [List.getElem?_eq_getElem (by omega), Option.bind_eq_some_iff] at hxi
      obtain ⟨cs', hc, ht'⟩ := hxi
      obtain ⟨x, hvs, hok⟩ := hread _ _ _ (Nat.lt_succ_self _) ht'
      obtain ⟨_, hcl, hat⟩ := World.cells?_some hc
      refine ⟨x, hok, fun j z hz => ?_⟩
      have hj : j < k := by have := (List.getElem?_eq_some_iff.1 hz).1; rwa [hk] at this
      have hjc : j < cs'.length := by rw [hvs.1, hk]; exact hj
      exact ⟨cs'[j], by rw [hat j hj, List.getElem?_eq_getElem hjc], hvs.2 j z _ hz (List.getElem?_eq_getElem hjc)⟩
    by_cases h0 : len = 0
    · subst h0
      exact ⟨_, [], rfl, RdC.nil hm, fun x hx => by simp at hx⟩
    · obtain ⟨x0, _, hx0⟩ := each 0 (by omega)
      obtain ⟨z0, hz0⟩ : ∃ z, (cf x0)[0]? = some z := ⟨_, List.getElem?_eq_getElem (by rw [hk]; exact hk0)⟩
      obtain ⟨u0, hc0, _⟩ := hx0 0 z0 hz0
      obtain ⟨b, off, spot⟩ := a
      have hspot : spot = none := by simpa [Addr.add] using World.cell?_spot hc0
      subst hspot
      have hbl : b < w.heap.size := by simpa [Addr.add] using World.block_lt_of_cell? w _ hc0
      let f : Nat → α := fun i => if hi : i < len then Classical.choose (each i hi) else x0
      have hf : ∀ i, i < len → ok (f i) ∧ ∀ j z, (cf (f i))[j]? = some z → ∃ u, w.cell? (((⟨b, off, none⟩ : Addr).add (i * k)).add j) = some u ∧ RdC w w.heap.size z u := fun i hi => by
        simp only [f, dif_pos hi]
        exact Classical.choose_spec (each i hi)
      have hflen : ∀ l : List α, (l.flatMap cf).length = l.length * k := by
        intro l
        induction l with
        | nil => simp
        | cons x r ih => rw [List.flatMap_cons, List.length_append, hk, ih, List.length_cons, Nat.add_mul]; omega
      have hg : ∀ (l : List α) (i : Nat) (x : α), l[i]? = some x → ∀ j, j < k → (l.flatMap cf)[i * k + j]? = (cf x)[j]? := by
        intro l
        induction l with
        | nil => intro i x h; simp at h
        | cons a r ih =>
          intro i x h j hj
          cases i with
          | zero =>
            obtain rfl : a = x := by simpa using h
            rw [List.flatMap_cons, Nat.zero_mul, Nat.zero_add, List.getElem?_append_left (by rw [hk]; exact hj)]
          | succ i =>
            have h' : r[i]? = some x := by simpa using h
            have e : (i + 1) * k + j = (cf a).length + (i * k + j) := by rw [hk, Nat.succ_mul]; omega
            rw [List.flatMap_cons, e, List.getElem?_append_right (by omega), Nat.add_sub_cancel_left]
            exact ih i x h' j hj
      have hlen : ((List.range len).map f).length = len := by simp
      refine ⟨_, (List.range len).map f, rfl, ?_, fun x hx => ?_⟩
      · unfold RdC
        rw [hlen]
        refine ⟨_, cap, rfl, hl, hm, by rw [hflen, hlen], fun _ => ⟨b, off, rfl, hbl, RdL.of _ _ fun j z hz => ?_⟩⟩
        have hj : j < len * k := by
          have := (List.getElem?_eq_some_iff.1 hz).1
          rw [hflen, hlen] at this
          exact this
        have hi : j / k < len := by rw [Nat.div_lt_iff_lt_mul hk0]; exact hj
        have hjk : j = j / k * k + j % k := by rw [Nat.mul_comm]; exact (Nat.div_add_mod j k).symm
        have hmod : j % k < k := Nat.mod_lt _ hk0
        have hget := hg ((List.range len).map f) (j / k) (f (j / k)) (by simp [hi]) (j % k) hmod
        rw [← hjk, hz] at hget
        have := (hf (j / k) hi).2 (j % k) z hget.symm
        rw [Go.Deep.add_add, add_plain, ← hjk] at this
        exact this
      · simp only [List.mem_map, List.mem_range] at hx
        obtain ⟨i, hi, rfl⟩ := hx
        exact (hf i hi).1
/-- A field of a struct, by its offset and its width. -/
theorem struct_span {e : TypeId} {n : Nat} {cs : List Value} {y : DataW H × List MemPlace} (hs : P.underlying e = some (.struct (flds P e)))
    (h : DataW.trod enc P w base spare held n e cs = some y) :
    cs.length = P.cellsOf e ∧ ∃ n', n = n' + 1 ∧ ∀ (j : Nat) (ty : TypeId) (o c : Nat), ((flds P e)[j]?).map (fun f => (f.type, f.offset, P.cellsOf f.type)) = some (ty, o, c) → ∃ (y' : DataW H × List MemPlace), DataW.trod enc P w base spare held n' ty ((cs.drop o).take c) = some y' := by
  obtain ⟨xs, n', hn, hx, hl, hlen, hg⟩ := DataW.trod_struct hs h
  refine ⟨hl, n', hn, fun j ty o c hj => ?_⟩
  obtain ⟨f, hf0, he⟩ := Option.map_eq_some_iff.1 hj
  simp only [Prod.mk.injEq] at he
  obtain ⟨rfl, rfl, rfl⟩ := he
  have hjl : j < (flds P e).size := (Array.getElem?_eq_some_iff.1 hf0).1
  have h1 := hg j f hf0
  have hys : xs[j]? = some (xs[j]'(by omega)) := List.getElem?_eq_getElem (by omega)
  exact ⟨_, h1.trans hys⟩
end
theorem cut_all {us : List Value} {k : Nat} (h : us.length = k) : us = (us.drop 0).take k := by
  rw [List.drop_zero, List.take_of_length_le (by omega)]
theorem cut_step {us : List Value} (o a b : Nat) : (us.drop o).take (a + b) = (us.drop o).take a ++ (us.drop (o + a)).take b := by
  rw [List.take_add, List.drop_drop]
/-! ### owning, by an interval of blocks -/
/-- The values us are the cells xs, in blocks of their own, all of [lo, hi). -/
def OwnI (w : World) (lo hi : Nat) (xs : List Cel) (us : List Value) : Prop := ∃ F, OwnL w xs F us ∧ F.Nodup ∧ ∀ b, b ∈ F → lo ≤ b ∧ b < hi
section
variable {w w' : World} {lo hi lo' hi' m C : Nat} {xs ys : List Cel} {us us2 : List Value} {x : Cel} {u : Value}
theorem OwnI.nil (w : World) (lo hi : Nat) : OwnI w lo hi [] [] := ⟨[], OwnL.nil w, List.nodup_nil, fun b hb => by cases hb⟩
theorem OwnI.consv (h : OwnI w lo hi xs us) (y : Value) : OwnI w lo hi (.v y :: xs) (y :: us) := by
  obtain ⟨F, h1, h2, h3⟩ := h
  exact ⟨F, OwnL.consv h1, h2, h3⟩
theorem OwnI.app (h : OwnI w lo m xs us) (h' : OwnI w lo' hi ys us2) (h1 : m ≤ lo') (h2 : lo ≤ lo') (h3 : m ≤ hi) : OwnI w lo hi (xs ++ ys) (us ++ us2) := by
  obtain ⟨F, a1, a2, a3⟩ := h
  obtain ⟨G, b1, b2, b3⟩ := h'
  refine ⟨F ++ G, OwnL.join _ _ _ _ _ _ a1 b1, List.nodup_append.2 ⟨a2, b2, fun a ha b hb e => ?_⟩, fun b hb => ?_⟩
  · have := a3 a ha; have := b3 b hb; omega
  · rcases List.mem_append.1 hb with hb | hb
    · have := a3 b hb; omega
    · have := b3 b hb; omega
theorem OwnI.cons (h : OwnI w lo m [x] [u]) (h' : OwnI w lo' hi xs us) (h1 : m ≤ lo') (h2 : lo ≤ lo') (h3 : m ≤ hi) : OwnI w lo hi (x :: xs) (u :: us) := OwnI.app h h' h1 h2 h3
theorem OwnI.wide (h : OwnI w lo hi xs us) (h1 : lo' ≤ lo) (h2 : hi ≤ hi') : OwnI w lo' hi' xs us := by
  obtain ⟨F, a1, a2, a3⟩ := h
  exact ⟨F, a1, a2, fun b hb => by have := a3 b hb; omega⟩
theorem OwnI.keep (h : OwnI w lo hi xs us) (hk : ∀ b, lo ≤ b → b < hi → b < w.heap.size → w'.heap[b]? = w.heap[b]?) : OwnI w' lo hi xs us := by
  obtain ⟨F, a1, a2, a3⟩ := h
  exact ⟨F, OwnL.keep _ _ _ a1 fun b hb => hk b (a3 b hb).1 (a3 b hb).2 (OwnL.lt _ _ _ a1 b hb), a2, a3⟩
theorem OwnI.below (h : OwnI w lo hi xs us) (hb : Below C w w') (hC : w.heap.size ≤ C) : OwnI w' lo hi xs us := h.keep fun b _ _ hl => hb.block b (by omega)
theorem OwnI.only {l2 h2 : Nat} (h : OwnI w lo hi xs us) (hb : Only l2 h2 C w w') (hC : w.heap.size ≤ C) (hd : hi ≤ l2 ∨ h2 ≤ lo) : OwnI w' lo hi xs us := h.keep fun b h1 h3 hl => hb.block b (by omega) (by omega)
theorem OwnI.set (h : OwnI w lo hi xs us) {p : Addr} (hp : p.block < lo ∨ hi ≤ p.block) (y : Value) : OwnI (w.setCell p y) lo hi xs us := h.keep fun b h1 h2 _ => Below.heap_setCell _ _ _ _ (by omega)
theorem OwnI.alloc (h : OwnI w lo hi xs us) (o : Obj) : OwnI (w.alloc o) lo hi xs us := h.keep fun b _ _ hl => Below.heap_alloc w o b hl
theorem OwnI.drew (h : OwnI w lo hi xs us) : OwnI w.drew lo hi xs us := h.keep fun _ _ _ _ => rfl
theorem OwnI.vs (h : OwnI w lo hi xs us) : RdVs w w.heap.size xs us := by
  obtain ⟨F, a1, a2, a3⟩ := h
  exact OwnL.vs _ _ _ a1
theorem OwnI.read {e k n : Nat} (h : OwnI w lo hi [.s e k n xs] [u]) : RdC w w.heap.size (.s e k n xs) u := h.vs.2 0 _ _ rfl rfl
theorem OwnI.form {e k n : Nat} (h : OwnI w lo hi [.s e k n xs] [u]) : ∃ A c, u = .slice A n c := h.read.form
/-- An owned slice out of its row and of what its cells own. -/
theorem OwnI.mk {e k n base : Nat} (ho : w.ownsRow base e k u n us) (hl : OwnI w lo' hi' xs us) (hg : ∀ g, u.ownBlock = some g → lo ≤ g ∧ g < hi ∧ (g < lo' ∨ hi' ≤ g)) (h1 : lo ≤ lo') (h2 : hi' ≤ hi) : OwnI w lo hi [.s e k n xs] [u] := by
  obtain ⟨F, a1, a2, a3⟩ := hl
  have hc := OwnC.mk ho a1
  have := OwnL.cons hc (OwnL.nil w)
  rw [List.append_nil] at this
  refine ⟨ownB u ++ F, this, List.nodup_append.2 ⟨?_, a2, fun a ha b hb e => ?_⟩, fun b hb => ?_⟩
  · unfold ownB
    cases u.ownBlock <;> simp
  · have h3 := hg a (mem_ownB.1 ha)
    have h4 := a3 b hb
    omega
  · rcases List.mem_append.1 hb with hb | hb
    · have := hg b (mem_ownB.1 hb); omega
    · have := a3 b hb; omega
theorem OwnI.none (w : World) (lo hi e k : Nat) : OwnI w lo hi [.s e k 0 []] [.slice Option.none 0 0] :=
  OwnI.mk (base := 0) (lo' := lo) (hi' := hi) (World.ownsRow_nil _ _ _ _) (OwnI.nil _ _ _) (fun g hg => by cases hg) (Nat.le_refl _) (Nat.le_refl _)
theorem OwnI.uncons (h : OwnI w lo hi (x :: xs) us) : ∃ u us', us = u :: us' ∧ OwnI w lo hi [x] [u] ∧ OwnI w lo hi xs us' := by
  obtain ⟨F, a1, a2, a3⟩ := h
  obtain ⟨u, us', F1, F2, rfl, rfl, hx, hr⟩ := a1.uncons
  have hd := List.nodup_append.1 a2
  refine ⟨u, us', rfl, ⟨F1, ?_, hd.1, fun b hb => a3 b (List.mem_append_left _ hb)⟩, ⟨F2, hr, hd.2.1, fun b hb => a3 b (List.mem_append_right _ hb)⟩⟩
  have := OwnL.cons hx (OwnL.nil w)
  rwa [List.append_nil] at this
end
theorem RdVs.uncons {w : World} {B : Nat} {x : Cel} {xs : List Cel} {us : List Value} (h : RdVs w B (x :: xs) us) : ∃ u us', us = u :: us' ∧ RdC w B x u ∧ RdVs w B xs us' := by
  cases us with
  | nil => have := h.1; simp at this
  | cons u us => exact ⟨u, us, rfl, h.2 0 x u rfl rfl, by have := h.1; simpa using this, fun j y z hy hz => h.2 (j + 1) y z (by simpa using hy) (by simpa using hz)⟩
theorem RdVs.unv {w : World} {B : Nat} {x : Value} {xs : List Cel} {us : List Value} (h : RdVs w B (.v x :: xs) us) : ∃ us', us = x :: us' ∧ RdVs w B xs us' := by
  obtain ⟨u, us', rfl, h1, h2⟩ := h.uncons
  obtain rfl := h1.val
  exact ⟨us', rfl, h2⟩
theorem RdVs.uns {w : World} {B e k n : Nat} {ys xs : List Cel} {us : List Value} (h : RdVs w B (.s e k n ys :: xs) us) : ∃ A c us', us = .slice A n c :: us' ∧ RdC w B (.s e k n ys) (.slice A n c) ∧ RdVs w B xs us' := by
  obtain ⟨u, us', rfl, h1, h2⟩ := h.uncons
  obtain ⟨A, c, rfl⟩ := h1.form
  exact ⟨A, c, us', rfl, h1, h2⟩
theorem RdVs.un0 {w : World} {B : Nat} {us : List Value} (h : RdVs w B [] us) : us = [] := List.eq_nil_of_length_eq_zero h.1
theorem RdVs.on {w w' : World} {B C : Nat} {xs : List Cel} {us : List Value} (h : RdVs w B xs us) (hb : Below C w w') (hC : B ≤ C) {B' : Nat} (hB : B ≤ B') : RdVs w' B' xs us := ⟨h.1, fun j x u hx hu => (h.2 j x u hx hu).on hb hC hB⟩
/-- Stores one after another. -/
def sets (vs : List Value) : Nat → List Value → List Value
  | _, [] => vs
  | p, a :: r => sets (vs.set p a) (p + 1) r
theorem sets_app : ∀ (xs us zs : List Value) (p : Nat), us.length = p → xs.length ≤ zs.length → sets (us ++ zs) p xs = us ++ xs ++ zs.drop xs.length
  | [], us, zs, p, h, h' => by simp [sets]
  | a :: r, us, zs, p, h, h' => by
    cases zs with
    | nil => simp at h'
    | cons z zs =>
      have e : (us ++ z :: zs).set p a = (us ++ [a]) ++ zs := by
        rw [List.set_append_right _ _ (by omega), h]
        simp
      unfold sets
      rw [e, sets_app r (us ++ [a]) zs (p + 1) (by simp [h]) (by simpa using h')]
      simp

/-! ### a block that is known whole -/
def Blk (w : World) (g : Nat) (t : TypeId) (cs : Array Value) : Prop := w.heap[g]? = some (.cells cs t (0, 0))
section
variable {w w' : World} {g : Nat} {t : TypeId} {cs : Array Value}
theorem Blk.lt (h : Blk w g t cs) : g < w.heap.size := (Array.getElem?_eq_some_iff.1 h).1
theorem Blk.cell (h : Blk w g t cs) (i : Nat) : w.cell? ⟨g, i, none⟩ = cs[i]? := by unfold Blk at h; simp [World.cell?, h]
theorem Blk.frozen (h : Blk w g t cs) (i : Nat) : w.frozen? ⟨g, i, none⟩ = false := by unfold Blk at h; simp [World.frozen?, h]
theorem Blk.new (w : World) (t : TypeId) (cs : Array Value) : Blk (w.alloc (.cells cs t)) w.heap.size t cs := heap_alloc_new w _
theorem Blk.new' (w : World) (t : TypeId) (cs : Array Value) (g : Nat) (hg : w.heap.size = g) : Blk (w.alloc (.cells cs t)) g t cs := by subst hg; exact Blk.new w t cs
theorem Blk.drew (h : Blk w g t cs) : Blk w.drew g t cs := h
theorem Blk.alloc (h : Blk w g t cs) (o : Obj) : Blk (w.alloc o) g t cs := (Below.heap_alloc w o g h.lt).trans h
theorem Blk.set_ (h : Blk w g t cs) (i : Nat) (u : Value) : Blk (w.setCell ⟨g, i, none⟩ u) g t (cs.setIfInBounds i u) := by
  unfold Blk at h ⊢
  simp [World.setCell, Array.getElem?_modify, h]
theorem Blk.below {B : Nat} (h : Blk w g t cs) (hb : Below B w w') (hg : w.heap.size ≤ B) : Blk w' g t cs := (hb.block g (by have := h.lt; omega)).trans h
theorem Blk.only {lo hi C : Nat} (h : Blk w g t cs) (hb : Only lo hi C w w') (hC : w.heap.size ≤ C) (hd : g < lo ∨ hi ≤ g) : Blk w' g t cs := (hb.block g (by have := h.lt; omega) hd).trans h
end
/-- A call in a world of which no more is known than C. -/
theorem calls_worldD {P : Program} {f : FuncId} {args : Array Value} {R : Ending → World → Prop} (W : World) (C : World → Prop) (hC : C W) (h : ∀ W', C W' → Calls P f args W' R) : Calls P f args W R := h W hC
end Go.Proofs.Ytgejkfcemlkclaa
namespace Go.Proofs.Ytgejkfcemlkclaa
open Go.ChangeShapes Go.WideShapes Go.ChangeAt Go.RowKit Go.Deep Go.Joins
open Go.ChangeMaps (open_string shut_string)
set_option linter.unusedVariables false
set_option linter.unusedSimpArgs false
set_option maxRecDepth 100000
/-! ### string -/
structure FStr where
  a0 : ByteArray
def FStr.c : FStr → List Cel
  | ⟨a0⟩ => [.v (.string a0)]
def FStr.wt : FStr → Nat
  | ⟨a0⟩ => a0.size
def FStr.ok : FStr → Prop
  | ⟨a0⟩ => a0.size ≤ 9223372036854775807
def FStr.wts : List FStr → Nat
  | [] => 0
  | x :: r => x.wt + FStr.wts r
def FStr.oks : List FStr → Prop
  | [] => True
  | x :: r => x.ok ∧ FStr.oks r
abbrev FStr.flat (l : List FStr) : List Cel := l.flatMap FStr.c
theorem FStr.c_eq (z0 : ByteArray) : FStr.c ⟨z0⟩ = [.v (.string z0)] := by simp [FStr.c]
theorem FStr.len (x : FStr) : x.c.length = 1 := by
  obtain ⟨z0⟩ := x
  rw [FStr.c_eq]
  rfl
theorem FStr.wt_eq (z0 : ByteArray) : FStr.wt ⟨z0⟩ = z0.size := by simp [FStr.wt]
theorem FStr.ok_eq (z0 : ByteArray) : FStr.ok ⟨z0⟩ ↔ (z0.size ≤ 9223372036854775807) := by simp [FStr.ok]
theorem FStr.oks_of : ∀ l : List FStr, (∀ x, x ∈ l → x.ok) → FStr.oks l
  | [], _ => by unfold FStr.oks; trivial
  | y :: r, h => by
    unfold FStr.oks
    exact ⟨h y (by simp), FStr.oks_of r fun x hx => h x (by simp [hx])⟩
theorem FStr.wts_take : ∀ (l : List FStr) (k : Nat) (x : FStr), l[k]? = some x → FStr.wts (l.take (k + 1)) = FStr.wts (l.take k) + x.wt
  | [], k, x, h => by simp at h
  | y :: r, 0, x, h => by
    obtain rfl : y = x := by simpa using h
    simp [FStr.wts]
  | y :: r, k + 1, x, h => by
    rw [List.take_succ_cons, List.take_succ_cons, FStr.wts, FStr.wts, FStr.wts_take r k x (by simpa using h)]
    omega
theorem FStr.wts_le : ∀ (l : List FStr) (k : Nat), FStr.wts (l.take k) ≤ FStr.wts l
  | [], k => by simp
  | y :: r, 0 => by simp [FStr.wts]
  | y :: r, k + 1 => by
    rw [List.take_succ_cons, FStr.wts, FStr.wts]
    have := FStr.wts_le r k
    omega
theorem FStr.wts_at : ∀ (l : List FStr) (x : FStr), x ∈ l → x.wt ≤ FStr.wts l
  | [], x, h => by cases h
  | y :: r, x, h => by
    unfold FStr.wts
    rcases List.mem_cons.1 h with rfl | h
    · omega
    · have := FStr.wts_at r x h
      omega
/-! ### int -/
structure FInt where
  a0 : Int
def FInt.c : FInt → List Cel
  | ⟨a0⟩ => [.v (.int .i64 a0)]
def FInt.wt : FInt → Nat
  | ⟨a0⟩ => 0
def FInt.ok : FInt → Prop
  | ⟨a0⟩ => True
def FInt.wts : List FInt → Nat
  | [] => 0
  | x :: r => x.wt + FInt.wts r
def FInt.oks : List FInt → Prop
  | [] => True
  | x :: r => x.ok ∧ FInt.oks r
abbrev FInt.flat (l : List FInt) : List Cel := l.flatMap FInt.c
theorem FInt.c_eq (z0 : Int) : FInt.c ⟨z0⟩ = [.v (.int .i64 z0)] := by simp [FInt.c]
theorem FInt.len (x : FInt) : x.c.length = 1 := by
  obtain ⟨z0⟩ := x
  rw [FInt.c_eq]
  rfl
theorem FInt.wt_eq (z0 : Int) : FInt.wt ⟨z0⟩ = 0 := by simp [FInt.wt]
theorem FInt.ok_eq (z0 : Int) : FInt.ok ⟨z0⟩ ↔ (True) := by simp [FInt.ok]
theorem FInt.oks_of : ∀ l : List FInt, (∀ x, x ∈ l → x.ok) → FInt.oks l
  | [], _ => by unfold FInt.oks; trivial
  | y :: r, h => by
    unfold FInt.oks
    exact ⟨h y (by simp), FInt.oks_of r fun x hx => h x (by simp [hx])⟩
theorem FInt.wts_take : ∀ (l : List FInt) (k : Nat) (x : FInt), l[k]? = some x → FInt.wts (l.take (k + 1)) = FInt.wts (l.take k) + x.wt
  | [], k, x, h => by simp at h
  | y :: r, 0, x, h => by
    obtain rfl : y = x := by simpa using h
    simp [FInt.wts]
  | y :: r, k + 1, x, h => by
    rw [List.take_succ_cons, List.take_succ_cons, FInt.wts, FInt.wts, FInt.wts_take r k x (by simpa using h)]
    omega
theorem FInt.wts_le : ∀ (l : List FInt) (k : Nat), FInt.wts (l.take k) ≤ FInt.wts l
  | [], k => by simp
  | y :: r, 0 => by simp [FInt.wts]
  | y :: r, k + 1 => by
    rw [List.take_succ_cons, FInt.wts, FInt.wts]
    have := FInt.wts_le r k
    omega
theorem FInt.wts_at : ∀ (l : List FInt) (x : FInt), x ∈ l → x.wt ≤ FInt.wts l
  | [], x, h => by cases h
  | y :: r, x, h => by
    unfold FInt.wts
    rcases List.mem_cons.1 h with rfl | h
    · omega
    · have := FInt.wts_at r x h
      omega

/-! ### Node -/
inductive FNode where
  | mk (a0 : Int) (a1 : Int) (a2 : ByteArray) (a3 : List FNode)
mutual
def FNode.c : FNode → List Cel
  | .mk a0 a1 a2 a3 => [.v (.int .i64 a0), .v (.int .i64 a1), .v (.string a2), .s 29 4 a3.length (FNode.cs a3)]
def FNode.cs : List FNode → List Cel
  | [] => []
  | x :: r => x.c ++ FNode.cs r
end
mutual
def FNode.wt : FNode → Nat
  | .mk a0 a1 a2 a3 => a2.size + (a3.length + FNode.wts a3)
def FNode.wts : List FNode → Nat
  | [] => 0
  | x :: r => x.wt + FNode.wts r
end
mutual
def FNode.ok : FNode → Prop
  | .mk a0 a1 a2 a3 => a2.size ≤ 9223372036854775807 ∧ FNode.oks a3
def FNode.oks : List FNode → Prop
  | [] => True
  | x :: r => x.ok ∧ FNode.oks r
end
abbrev FNode.flat (l : List FNode) : List Cel := l.flatMap FNode.c
theorem FNode.cs_eq : ∀ l : List FNode, FNode.cs l = FNode.flat l
  | [] => by simp [FNode.cs]
  | x :: r => by rw [FNode.cs, FNode.cs_eq r]; simp [FNode.flat]
theorem FNode.c_eq (z0 : Int) (z1 : Int) (z2 : ByteArray) (z3 : List FNode) : FNode.c ⟨z0, z1, z2, z3⟩ = [.v (.int .i64 z0), .v (.int .i64 z1), .v (.string z2), .s 29 4 z3.length (FNode.flat z3)] := by simp [FNode.c, FNode.cs_eq]
theorem FNode.len (x : FNode) : x.c.length = 4 := by
  obtain ⟨z0, z1, z2, z3⟩ := x
  rw [FNode.c_eq]
  rfl
theorem FNode.wt_eq (z0 : Int) (z1 : Int) (z2 : ByteArray) (z3 : List FNode) : FNode.wt ⟨z0, z1, z2, z3⟩ = z2.size + (z3.length + FNode.wts z3) := by simp [FNode.wt, Nat.add_assoc]
theorem FNode.ok_eq (z0 : Int) (z1 : Int) (z2 : ByteArray) (z3 : List FNode) : FNode.ok ⟨z0, z1, z2, z3⟩ ↔ (z2.size ≤ 9223372036854775807 ∧ FNode.oks z3) := by simp [FNode.ok, and_assoc]
theorem FNode.oks_of : ∀ l : List FNode, (∀ x, x ∈ l → x.ok) → FNode.oks l
  | [], _ => by unfold FNode.oks; trivial
  | y :: r, h => by
    unfold FNode.oks
    exact ⟨h y (by simp), FNode.oks_of r fun x hx => h x (by simp [hx])⟩
theorem FNode.wts_take : ∀ (l : List FNode) (k : Nat) (x : FNode), l[k]? = some x → FNode.wts (l.take (k + 1)) = FNode.wts (l.take k) + x.wt
  | [], k, x, h => by simp at h
  | y :: r, 0, x, h => by
    obtain rfl : y = x := by simpa using h
    simp [FNode.wts]
  | y :: r, k + 1, x, h => by
    rw [List.take_succ_cons, List.take_succ_cons, FNode.wts, FNode.wts, FNode.wts_take r k x (by simpa using h)]
    omega
theorem FNode.wts_le : ∀ (l : List FNode) (k : Nat), FNode.wts (l.take k) ≤ FNode.wts l
  | [], k => by simp
  | y :: r, 0 => by simp [FNode.wts]
  | y :: r, k + 1 => by
    rw [List.take_succ_cons, FNode.wts, FNode.wts]
    have := FNode.wts_le r k
    omega
theorem FNode.wts_at : ∀ (l : List FNode) (x : FNode), x ∈ l → x.wt ≤ FNode.wts l
  | [], x, h => by cases h
  | y :: r, x, h => by
    unfold FNode.wts
    rcases List.mem_cons.1 h with rfl | h
    · omega
    · have := FNode.wts_at r x h
      omega
def ReadNode {H : Type} (enc : TypeId × Value → H) (w : World) (base : Nat) (spare : Nat → Bool) (held : Bool) (n : Nat) : Prop := ∀ (cs : List Value) (y : DataW H × List MemPlace), DataW.trod enc Try.prog w base spare held n 24 cs = some y → ∃ x : FNode, RdVs w w.heap.size x.c cs ∧ x.ok
theorem read_Node_of {H : Type} {enc : TypeId × Value → H} {w : World} {base : Nat} {spare : Nat → Bool} {held : Bool} (n : Nat) (HNode : ∀ m, m < n → ReadNode enc w base spare held m) : ReadNode enc w base spare held n := by
  intro cs y h
  obtain ⟨hl, n1, rfl, hf⟩ := struct_span (by kernel_rfl) h
  have hC : Try.prog.cellsOf 24 = 4 := by kernel_rfl
  rw [hC] at hl
  obtain ⟨y0, t0⟩ := hf 0 3 0 1 (by kernel_rfl)
  obtain ⟨z0, e0, _, _⟩ := DataW.trod_int Try.underlying3 t0
  obtain ⟨y1, t1⟩ := hf 1 3 1 1 (by kernel_rfl)
  obtain ⟨z1, e1, _, _⟩ := DataW.trod_int Try.underlying3 t1
  obtain ⟨y2, t2⟩ := hf 2 9 2 1 (by kernel_rfl)
  obtain ⟨z2, e2, _, k2⟩ := DataW.trod_string Try.underlying9 t2
  obtain ⟨y3, t3⟩ := hf 3 22 3 1 (by kernel_rfl)
  obtain ⟨v3, z3, e3, r3, k3⟩ := open_deep (ok := FNode.ok) 29 FNode.len (by omega) Try.underlying22 (by kernel_rfl) (fun m cs1 y1 hm h1 => HNode m (by omega) cs1 y1 h1) t3
  have hcs := cut_all hl
  have q0 := cut_step 0 1 3 (us := cs)
  have q1 := cut_step 1 1 2 (us := cs)
  have q2 := cut_step 2 1 1 (us := cs)
  refine ⟨⟨z0, z1, z2, z3⟩, ?_, ?_⟩
  · rw [FNode.c_eq, hcs]
    rw [show (cs.drop 0).take 4 = (cs.drop 0).take 1 ++ (cs.drop 1).take 3 from q0]
    rw [show (cs.drop 1).take 3 = (cs.drop 1).take 1 ++ (cs.drop 2).take 2 from q1]
    rw [show (cs.drop 2).take 2 = (cs.drop 2).take 1 ++ (cs.drop 3).take 1 from q2]
    rw [e0]
    rw [e1]
    rw [e2]
    rw [e3]
    exact (RdVs.cons (by unfold RdC; rfl) (RdVs.cons (by unfold RdC; rfl) (RdVs.cons (by unfold RdC; rfl) (RdVs.cons r3 (RdVs.nil _ _)))))
  · rw [FNode.ok_eq]
    have j2 := k2
    unfold maxLen at j2
    exact ⟨j2, FNode.oks_of _ k3⟩
theorem read_Node_all {H : Type} {enc : TypeId × Value → H} {w : World} {base : Nat} {spare : Nat → Bool} {held : Bool} (n : Nat) : ReadNode enc w base spare held n := by
  induction n using Nat.strongRecOn with
  | ind n ih =>
    exact read_Node_of n (fun m hm => (ih m hm))
theorem read_Node {H : Type} {enc : TypeId × Value → H} {w : World} {base : Nat} {spare : Nat → Bool} {held : Bool} (n : Nat) : ReadNode enc w base spare held n := (read_Node_all n)
/-! ### Unit -/
structure FUnit where
  a0 : ByteArray
  a1 : FNode
def FUnit.c : FUnit → List Cel
  | ⟨a0, a1⟩ => [.v (.string a0)] ++ FNode.c a1
def FUnit.wt : FUnit → Nat
  | ⟨a0, a1⟩ => a0.size + FNode.wt a1
def FUnit.ok : FUnit → Prop
  | ⟨a0, a1⟩ => a0.size ≤ 9223372036854775807 ∧ FNode.ok a1
def FUnit.wts : List FUnit → Nat
  | [] => 0
  | x :: r => x.wt + FUnit.wts r
def FUnit.oks : List FUnit → Prop
  | [] => True
  | x :: r => x.ok ∧ FUnit.oks r
abbrev FUnit.flat (l : List FUnit) : List Cel := l.flatMap FUnit.c
theorem FUnit.c_eq (z0 : ByteArray) (z1 : Int) (z2 : Int) (z3 : ByteArray) (z4 : List FNode) : FUnit.c ⟨z0, ⟨z1, z2, z3, z4⟩⟩ = [.v (.string z0), .v (.int .i64 z1), .v (.int .i64 z2), .v (.string z3), .s 29 4 z4.length (FNode.flat z4)] := by simp [FNode.c, FUnit.c, FNode.cs_eq]
theorem FUnit.len (x : FUnit) : x.c.length = 5 := by
  obtain ⟨z0, ⟨z1, z2, z3, z4⟩⟩ := x
  rw [FUnit.c_eq]
  rfl
theorem FUnit.wt_eq (z0 : ByteArray) (z1 : Int) (z2 : Int) (z3 : ByteArray) (z4 : List FNode) : FUnit.wt ⟨z0, ⟨z1, z2, z3, z4⟩⟩ = z0.size + z3.size + (z4.length + FNode.wts z4) := by simp [FNode.wt, FUnit.wt, Nat.add_assoc]
theorem FUnit.ok_eq (z0 : ByteArray) (z1 : Int) (z2 : Int) (z3 : ByteArray) (z4 : List FNode) : FUnit.ok ⟨z0, ⟨z1, z2, z3, z4⟩⟩ ↔ (z0.size ≤ 9223372036854775807 ∧ z3.size ≤ 9223372036854775807 ∧ FNode.oks z4) := by simp [FNode.ok, FUnit.ok, and_assoc]
theorem FUnit.oks_of : ∀ l : List FUnit, (∀ x, x ∈ l → x.ok) → FUnit.oks l
  | [], _ => by unfold FUnit.oks; trivial
  | y :: r, h => by
    unfold FUnit.oks
    exact ⟨h y (by simp), FUnit.oks_of r fun x hx => h x (by simp [hx])⟩
theorem FUnit.wts_take : ∀ (l : List FUnit) (k : Nat) (x : FUnit), l[k]? = some x → FUnit.wts (l.take (k + 1)) = FUnit.wts (l.take k) + x.wt
  | [], k, x, h => by simp at h
  | y :: r, 0, x, h => by
    obtain rfl : y = x := by simpa using h
    simp [FUnit.wts]
  | y :: r, k + 1, x, h => by
    rw [List.take_succ_cons, List.take_succ_cons, FUnit.wts, FUnit.wts, FUnit.wts_take r k x (by simpa using h)]
    omega
theorem FUnit.wts_le : ∀ (l : List FUnit) (k : Nat), FUnit.wts (l.take k) ≤ FUnit.wts l
  | [], k => by simp
  | y :: r, 0 => by simp [FUnit.wts]
  | y :: r, k + 1 => by
    rw [List.take_succ_cons, FUnit.wts, FUnit.wts]
    have := FUnit.wts_le r k
    omega
theorem FUnit.wts_at : ∀ (l : List FUnit) (x : FUnit), x ∈ l → x.wt ≤ FUnit.wts l
  | [], x, h => by cases h
  | y :: r, x, h => by
    unfold FUnit.wts
    rcases List.mem_cons.1 h with rfl | h
    · omega
    · have := FUnit.wts_at r x h
      omega
end Go.Proofs.Ytgejkfcemlkclaa
namespace Go.Proofs.Ytgejkfcemlkclaa
open Go.ChangeShapes Go.WideShapes Go.ChangeAt Go.RowKit Go.Deep Go.Joins
open Go.ChangeMaps (open_string shut_string)
set_option linter.unusedVariables false
set_option maxRecDepth 100000

/-- The marks of a struct by value: its slices alone are marked. -/
def smk : List Cel → Int → List Cel
  | [], _ => []
  | .v u :: r, k => .v u :: smk r k
  | .s e m n xs :: r, k => .s e m n (mkL xs k) :: smk r (k + (cntL xs : Int))
def scnt : List Cel → Nat
  | [] => 0
  | .v u :: r => scnt r
  | .s e m n xs :: r => cntL xs + scnt r
theorem RdC.cells {w : World} {B e k n c : Nat} {A : Option Addr} {xs : List Cel} (h : RdC w B (.s e k n xs) (.slice A n c)) (hn : 0 < n) :
    ∃ b off, A = some ⟨b, off, none⟩ ∧ b < B ∧ ∀ (p : Nat) (y : Cel), xs[p]? = some y → ∃ u, w.cell? ⟨b, off + p, none⟩ = some u ∧ RdC w B y u := by
  unfold RdC at h
  obtain ⟨A', c', hA, _, _, _, h5⟩ := h
  simp only [Value.slice.injEq, true_and] at hA
  obtain ⟨rfl, rfl⟩ := hA
  obtain ⟨b, off, rfl, hb, hl⟩ := h5 hn
  exact ⟨b, off, rfl, hb, fun p y hy => RdL.get _ off p y hl hy⟩
theorem OwnC.row {w : World} {e k n c g : Nat} {xs : List Cel} {F : List Nat} (h : OwnC w (.s e k n xs) F (.slice (some ⟨g, 0, none⟩) n c)) : ∃ f, w.rowIs g e (c * k) f ∧ n ≤ c ∧ xs.length = n * k := by
  unfold OwnC at h
  obtain ⟨us, G, rfl, ho, hl⟩ := h
  have hlen := OwnL.len _ _ _ hl
  rcases own_row ho with ⟨hv, _⟩ | ⟨g1, cap, f, hv, _, hn, _, hrow, _⟩
  · cases hv
  · simp only [Value.slice.injEq, Option.some.injEq, Addr.mk.injEq, true_and, and_true] at hv
    obtain ⟨rfl, rfl⟩ := hv
    exact ⟨f, hrow, hn, by rw [← hlen]; exact ho.1⟩
theorem OnlyF.call {F G : List Nat} {a b c : World} (h : OnlyF F a b) (k : OnlyF G b c) (hs : ∀ g, g ∈ G → g ∈ F) : OnlyF F a c := h.trans (k.wide hs)
theorem OwnL.one {w : World} {x : Cel} {F : List Nat} {u : Value} (h : OwnC w x F u) : OwnL w [x] F [u] := by
  have := OwnL.cons h (OwnL.nil w)
  rwa [List.append_nil] at this
end Go.Proofs.Ytgejkfcemlkclaa
