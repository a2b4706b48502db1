/-
  Parts of the proof: Base, Mem, Mark, Deep, DeepM, DeepA. Conditions: none.
-/
import Derived.Test.YtahgcojmpafefaaGreatRows
import Derived.WalkKit
import Derived.ProofKit
import Derived.OpenShut
import Derived.ShutString
import Derived.ChangeOld
import Derived.Below
import Derived.Lib.SmallJoins
import Derived.Lib.Hide
import Derived.Deep.QuietTactic
import Derived.BigQuiet
import Derived.Deep.Slices
import Derived.Deep.Fields
import Derived.Deep.DeepCutAuto
import Derived.Deep.LoopGhost
import Derived.Deep.DeepMust
import Derived.WalkLawsBesides
import Derived.WalkSpells
import Derived.Laws.NewDeep
import Derived.Laws.MakeOwn
import Derived.Laws.OwnMore
import Derived.Deep.RegionHeld3
import Derived.Maps.AppendAt
import Derived.Deep.AppendLies
import Derived.RegionTactic
import Derived.OwnWalk
import Derived.Laws.BytesArg
import Derived.StillTailTactics
import Derived.Deep.OwnRows
set_option linter.unusedVariables false
set_option linter.unusedSimpArgs false
namespace Go.Proofs.YtahgcojmpafefaaGreat
open Go.ChangeShapes Go.WideShapes Go.ChangeAt Go.RowKit Go.Deep Go.Joins
open Go.ChangeMaps (open_string shut_string)

theorem own : ownKnob Tryz.prog.godebug = none := by kernel_rfl
theorem laidOut : laidOutB Tryz.prog = true := by kernel_rfl

theorem ret_int {k : IntKind} {a b : Int} (h : a = b) : Ending.returned (.int k a) = .returned (.int k b) := by rw [h]
theorem bcell {B : Nat} {w w1 : World} (hb : Below B w w1) : (∀ b o, b < B → w1.cell? ⟨b, o, none⟩ = w.cell? ⟨b, o, none⟩) ∧ (∀ b o, b < B → w1.frozen? ⟨b, o, none⟩ = w.frozen? ⟨b, o, none⟩) :=
  ⟨fun b o h => hb.cell (p := ⟨b, o, none⟩) h, fun b o h => hb.frozen (p := ⟨b, o, none⟩) h⟩

theorem below_drewN {B : Nat} {a w : World} (h : Below B a w) (n : Nat) : Below B a (w.drewN n) := ⟨h.os, h.tape, h.output, h.size, h.block⟩

section
variable {H : Type} {enc : TypeId × Value → H} {P : Program} {w : World} {base : Nat} {spare : Nat → Bool} {held : Bool}
end

/-- The fields of a struct type. -/
def flds (P : Program) (t : TypeId) : Array Field := match P.underlying t with | some (.struct fs) => fs | _ => #[]
end Go.Proofs.YtahgcojmpafefaaGreat
namespace Go.Proofs.YtahgcojmpafefaaGreat
open Go.ChangeShapes Go.WideShapes Go.ChangeAt Go.RowKit Go.Deep Go.Joins
open Go.ChangeMaps (open_string shut_string)

theorem ret_str {a b : ByteArray} (h : a = b) : Ending.returned (.string a) = .returned (.string b) := by rw [h]

/-- string([]byte{x}). -/
theorem conv1 {P : Program} (W : World) (src e dst : TypeId) (hs : P.underlying src = some (.slice e)) (he : P.underlying e = some (.int .u8)) (hd : P.underlying dst = some .string) (x : Int) (c : UInt8) (hc : UInt8.ofNat x.toNat = c) :
    (convert src dst (.slice (some ⟨W.heap.size, 0, none⟩) 1 1)).run P (W.alloc (.cells #[.int .u8 x] e)) = .ok (.string ⟨[c].toArray⟩) (W.alloc (.cells #[.int .u8 x] e)) := by
  have := run_convert_bytes_arg (P := P) (W.alloc (.cells #[.int .u8 x] e)) src e hs he W.heap.size 0 1 1 [x] rfl (fun i hi => by
    obtain rfl : i = 0 := by omega
    simp [World.cell?_alloc_new]) dst hd
  rw [this, ← hc]
  rfl

theorem str_app (a b : List UInt8) : (⟨a.toArray⟩ : ByteArray) ++ ⟨b.toArray⟩ = ⟨(a ++ b).toArray⟩ := by
  apply ByteArray.ext
  apply Array.toList_inj.1
  rw [data_append]
theorem str_cons (c : UInt8) (t : List UInt8) : (⟨#[c]⟩ : ByteArray) ++ ⟨t.toArray⟩ = ⟨(c :: t).toArray⟩ := str_app [c] t

/-! ### flat lists -/
section
variable {α : Type} {k : Nat} {cf : α → List Value}
theorem flat_len (hk : ∀ x, (cf x).length = k) : ∀ l : List α, (l.flatMap cf).length = l.length * k
  | [] => by simp
  | x :: r => by
    rw [List.flatMap_cons, List.length_append, hk, flat_len hk r, List.length_cons, Nat.add_mul]
    omega
end

/-! ### a slice that is read -/
/-- 'v' is a slice of n elements of k cells each; its cells, in order, are xs; it lies below block B. -/
def Rd (w : World) (B k : Nat) (v : Value) (n : Nat) (xs : List Value) : Prop :=
  ∃ A c, v = .slice A n c ∧ n ≤ c ∧ c ≤ maxLen ∧ xs.length = n * k ∧ (0 < n → ∃ b off, A = some ⟨b, off, none⟩ ∧ b < B ∧ ∀ j u, xs[j]? = some u → w.cell? ⟨b, off + j, none⟩ = some u)
section
variable {w w' : World} {B B' k n : Nat} {v : Value} {xs : List Value}
theorem Rd.keep (h : Rd w B k v n xs) (hk : ∀ p : Addr, p.block < B → w'.cell? p = w.cell? p) : Rd w' B k v n xs := by
  obtain ⟨A, c, rfl, h1, h2, h3, h4⟩ := h
  refine ⟨A, c, rfl, h1, h2, h3, fun hn => ?_⟩
  obtain ⟨b, off, rfl, hb, hc⟩ := h4 hn
  exact ⟨b, off, rfl, hb, fun j u hu => (hk _ hb).trans (hc j u hu)⟩
theorem Rd.below (h : Rd w B k v n xs) {C : Nat} (hb : Below C w w') (hC : B ≤ C) : Rd w' B k v n xs := h.keep fun p hp => hb.cell (by omega)
/-- An owned row reads. -/
theorem rd_of_own {base : Nat} {e : TypeId} (h : w.ownsRow base e k v n xs) : Rd w w.heap.size k v n xs := by
  obtain ⟨hl, hh⟩ := h
  rcases hh with ⟨rfl, rfl⟩ | ⟨g, cap, cur, rfl, hg, hb, hn, hc, hs, ht⟩
  · exact ⟨none, 0, rfl, Nat.le_refl _, Nat.zero_le _, hl, fun h => absurd h (by omega)⟩
  · refine ⟨_, cap, rfl, hn, hc, hl, fun _ => ⟨g, 0, rfl, (Array.getElem?_eq_some_iff.1 hb).1, fun j u hu => ?_⟩⟩
    rw [Nat.zero_add, cell_of_row w g j cur e (0, 0) hb]
    rw [← ht, List.getElem?_take] at hu
    split at hu
    · simpa using hu
    · cases hu
/-- An owned row, by its index. -/
theorem own_row {base : Nat} {e : TypeId} (h : w.ownsRow base e k v n xs) : (v = .slice none 0 0 ∧ n = 0 ∧ xs = []) ∨ ∃ g cap f, v = .slice (some ⟨g, 0, none⟩) n cap ∧ base ≤ g ∧ n ≤ cap ∧ cap ≤ maxLen ∧ w.rowIs g e (cap * k) f ∧ ∀ j, j < n * k → xs[j]? = some (f j) := by
  obtain ⟨hl, hh⟩ := h
  rcases hh with ⟨rfl, rfl⟩ | ⟨g, cap, cur, rfl, hg, hb, hn, hc, hs, ht⟩
  · exact .inl ⟨rfl, rfl, List.eq_nil_of_length_eq_zero (by simpa using hl)⟩
  · refine .inr ⟨g, cap, fun j => cur[j]!, rfl, hg, hn, hc, ⟨cur, hb, hs, fun i hi => ?_⟩, fun j hj => ?_⟩
    · show cur[i]? = some cur[i]!
      rw [getElem!_pos cur i (by omega), Array.getElem?_eq_getElem (by omega)]
    · have hle : n * k ≤ cap * k := Nat.mul_le_mul_right k hn
      show _ = some cur[j]!
      rw [← ht, List.getElem?_take, if_pos hj, Array.getElem?_toList, getElem!_pos cur j (by omega), Array.getElem?_eq_getElem (by omega)]
theorem own_of_row_cap {g cap : Nat} {t : TypeId} {f : Nat → Value} {base : Nat} (h : w.rowIs g t (cap * k) f) (hb : base ≤ g) (hn : n ≤ cap) (hm : cap ≤ maxLen) (hx : xs.length = n * k) (hf : ∀ j, j < n * k → xs[j]? = some (f j)) :
    w.ownsRow base t k (.slice (some ⟨g, 0, none⟩) n cap) n xs := by
  obtain ⟨cur, hh, hs, hc⟩ := h
  have hle : n * k ≤ cap * k := Nat.mul_le_mul_right k hn
  refine ⟨hx, .inr ⟨g, cap, cur, rfl, hb, hh, hn, hm, hs, ?_⟩⟩
  apply List.ext_getElem?
  intro j
  by_cases hj : j < n * k
  · rw [List.getElem?_take, if_pos hj, Array.getElem?_toList, hc j (by omega), hf j hj]
  · rw [List.getElem?_take, if_neg hj, List.getElem?_eq_none (by omega)]
theorem own_below {base C : Nat} {e : TypeId} (h : w.ownsRow base e k v n xs) (hb : Below C w w') (hC : w.heap.size ≤ C) : w'.ownsRow base e k v n xs := by
  refine ⟨h.1, ?_⟩
  rcases h.2 with hn | ⟨g, cap, cur, rfl, h1, h2, rest⟩
  · exact .inl hn
  · exact .inr ⟨g, cap, cur, rfl, h1, (hb.block g (by have := (Array.getElem?_eq_some_iff.1 h2).1; omega)).trans h2, rest⟩
theorem own_keep {base : Nat} {e : TypeId} (h : w.ownsRow base e k v n xs) (hk : ∀ g, v.ownBlock = some g → w'.heap[g]? = w.heap[g]?) : w'.ownsRow base e k v n xs := by
  refine ⟨h.1, ?_⟩
  rcases h.2 with hn | ⟨g, cap, cur, rfl, h1, h2, rest⟩
  · exact .inl hn
  · exact .inr ⟨g, cap, cur, rfl, h1, (hk g rfl).trans h2, rest⟩
end
/-- make([]T, n), T of any number of cells: a new row of zero values. -/
theorem run_make_rowN {P : Program} (t e : TypeId) (i : TypeInfo) (z : Value) (ht : P.underlying t = some (.slice e)) (hi : P.info? e = some i) (hz : i.zero = some z)
    (kl kc : IntKind) (n c : Nat) (hnc : n ≤ c) (hbytes : i.bytes * c ≤ 281474976710656) (h63 : c ≤ 9223372036854775807) (w : World) :
    (Instr.makeSlice t (.int kl (n : Int)) (.int kc (c : Int))).run P w = .ok (.slice (some ⟨w.heap.size, 0, none⟩) n c) (w.alloc (.cells (madeCells z.cells (c * i.size)) e)) := by
  have hb : (i.bytes : Int) * (c : Int) ≤ 281474976710656 := by
    have h : ((i.bytes * c : Nat) : Int) ≤ 281474976710656 := by omega
    rwa [Int.natCast_mul] at h
  have hr := run_make (P := P) w t e i z ht hi hz kl kc n c (by omega) (by omega) hb (by omega)
  simp only [Int.toNat_natCast] at hr
  exact hr
/-- make([]T, n), as the walk wants it: the facts on T are closed. -/
theorem make_law {P : Program} (t e : TypeId) (zs : Array Value) (size bytes : Nat) (ht : P.underlying t = some (.slice e)) (hinfo : (P.info? e).map (fun i => (i.zero.map Value.cells, i.size, i.bytes)) = some (some zs, size, bytes))
    (n : Nat) (hbytes : bytes * n ≤ 281474976710656) (h63 : n ≤ 9223372036854775807) (w : World) :
    (Instr.makeSlice t (.int .i64 (n : Int)) (.int .i64 (n : Int))).run P w = .ok (.slice (some ⟨w.heap.size, 0, none⟩) n n) (w.alloc (.cells (madeCells zs (n * size)) e)) := by
  obtain ⟨i, hi, hzz⟩ := Option.map_eq_some_iff.1 hinfo
  simp only [Prod.mk.injEq] at hzz
  obtain ⟨hz, hs, hb⟩ := hzz
  obtain ⟨z, hz1, hz2⟩ := Option.map_eq_some_iff.1 hz
  have := run_make_rowN t e i z ht hi hz1 .i64 .i64 n n (Nat.le_refl _) (by rw [hb]; exact hbytes) h63 w
  rw [hz2, hs] at this
  exact this
theorem grown_refl (w : World) (r : Option Nat) : w.grownBy w r := ⟨rfl, rfl, rfl, Nat.le_refl _, fun _ _ _ => rfl⟩
/-- The budget: what is left of it, or -1. -/
def bud (left : Int) (W : Nat) : Int := if (W : Int) ≤ left then left - W else -1
theorem bud_pos {left : Int} {W : Nat} (h : (W : Int) ≤ left) : bud left W = left - W := by unfold bud; rw [if_pos h]
theorem bud_neg {left : Int} {W : Nat} (h : ¬ (W : Int) ≤ left) : bud left W = -1 := by unfold bud; rw [if_neg h]
/-- Only the blocks of [lo, hi) have turned, of those below C. -/
structure Only (lo hi C : Nat) (w w' : World) : Prop where
  os : w'.os = w.os
  tape : w'.tape = w.tape
  output : w'.output = w.output
  size : w.heap.size ≤ w'.heap.size
  block : ∀ k, k < C → (k < lo ∨ hi ≤ k) → w'.heap[k]? = w.heap[k]?
theorem Only.below {lo hi C B : Nat} {a b : World} (h : Only lo hi C a b) (h1 : B ≤ lo) (h2 : B ≤ C) : Below B a b := ⟨h.os, h.tape, h.output, h.size, fun i hi => h.block i (by omega) (.inl (by omega))⟩
section
variable {H : Type} {enc : TypeId × Value → H} {P : Program} {w : World} {base : Nat} {spare : Nat → Bool} {held : Bool}
end
/-! ### append(row of one's own, a slice that is read ...) -/
section
variable {P : Program} (w : World)
theorem run_append_of_nil (base : Nat) (t ty e : TypeId) (i : TypeInfo) (size : Nat) (ht : P.underlying t = some (.slice e)) (hi : P.info? e = some i)
    (v : Value) (n : Nat) (xs : List Value) (hown : w.ownsRow base e size v n xs) (c : Nat) : (Builtin.append_ #[t, t] ty #[v, .slice none 0 c]).run P w = .ok v w := by
  rcases hown.2 with ⟨rfl, rfl⟩ | ⟨g, cap, cur, rfl, _, _, hnc, _⟩
  · simp [Builtin.append_, run_underlying ht, sizeOf, typeInfo, hi, Builtin.lenOf, Builtin.firstCells]
  · simp [Builtin.append_, run_underlying ht, sizeOf, typeInfo, hi, Builtin.lenOf, Builtin.firstCells, hnc, storeCells]

theorem run_append_rd (base : Nat) (t ty e : TypeId) (zs : Array Value) (size bytes : Nat) (ht : P.underlying t = some (.slice e)) (hinfo : (P.info? e).map (fun i => (i.zero.map Value.cells, i.size, i.bytes)) = some (some zs, size, bytes))
    (hzs : zs.size = size) (hsz : 0 < size)
    (v : Value) (n : Nat) (xs : List Value) (hown : w.ownsRow base e size v n xs)
    (B : Nat) (A : Option Addr) (m c : Nat) (news : List Value) (hr : Rd w B size (.slice A m c) m news) (h1 : ∀ u ∈ news, u.oneCell' = true)
    (h63 : n + m ≤ maxLen) (hbytes : (n + m) * bytes ≤ 140737488355328) (hbase : base ≤ w.heap.size) :
    ∃ v' w', (Builtin.append_ #[t, t] ty #[v, .slice A m c]).run P w = .ok v' w' ∧ w'.ownsRow base e size v' (n + m) (xs ++ news) ∧ w.grownBy w' v.ownBlock ∧
      (v'.ownBlock = v.ownBlock ∨ v'.ownBlock = some w.heap.size) := by
  obtain ⟨i, hi, hzz⟩ := Option.map_eq_some_iff.1 hinfo
  simp only [Prod.mk.injEq] at hzz
  obtain ⟨hz, hsize, hby⟩ := hzz
  obtain ⟨z, hz1, hz2⟩ := Option.map_eq_some_iff.1 hz
  obtain ⟨A', c', hA, _, _, hl, hc⟩ := hr
  simp only [Value.slice.injEq, true_and] at hA
  obtain ⟨rfl, rfl⟩ := hA
  rcases A with _ | ad
  · have hm : m = 0 := by
      rcases Nat.eq_zero_or_pos m with h0 | h0
      · exact h0
      · obtain ⟨b, off, h, _⟩ := hc h0
        cases h
    subst hm
    have hn : news = [] := List.eq_nil_of_length_eq_zero (by simpa using hl)
    subst hn
    exact ⟨v, w, run_append_of_nil w base t ty e i size ht hi v n xs hown c, by simpa using hown, grown_refl _ _, .inl rfl⟩
  · have hcells : ∀ j u, news[j]? = some u → w.cell? (ad.add j) = some u := by
      intro j u hu
      rcases Nat.eq_zero_or_pos m with h0 | h0
      · subst h0
        have hn : news = [] := List.eq_nil_of_length_eq_zero (by simpa using hl)
        subst hn
        simp at hu
      · obtain ⟨b, off, h, _, hcc⟩ := hc h0
        injection h with h
        subst h
        rw [add_plain]
        exact hcc j u hu
    obtain ⟨v', w', hrun, h2, h3, _, h5⟩ := run_append_own_at (P := P) w base t ty e i z size bytes ht hi hz1 hsize hby (by rw [hz2]; exact hzs) hsz v n xs hown ad m c news hl hcells h1 h63 hbytes hbase
    exact ⟨v', w', hrun, h2, h3, h5⟩

theorem wp_append_rd {o : Oper} {a : Act} {K : Act → World → Prop} {Q : Exit → Act → World → Prop} (s x : Operand) (t : TypeId)
    (ho : o.op = .call { callee := .builtin .append, args := #[s, x], argTypes := #[t, t] })
    (base : Nat) (e : TypeId) (zs : Array Value) (size bytes : Nat) (ht : P.underlying t = some (.slice e)) (hinfo : (P.info? e).map (fun i => (i.zero.map Value.cells, i.size, i.bytes)) = some (some zs, size, bytes))
    (hzs : zs.size = size) (hsz : 0 < size)
    (v : Value) (n : Nat) (xs : List Value) (hs : a.eval s = v) (hown : w.ownsRow base e size v n xs)
    (B : Nat) (A : Option Addr) (m c : Nat) (news : List Value) (hx : a.eval x = .slice A m c) (hr : Rd w B size (.slice A m c) m news) (h1 : ∀ u ∈ news, u.oneCell' = true)
    (h63 : n + m ≤ maxLen) (hbytes : (n + m) * bytes ≤ 140737488355328) (hbase : base ≤ w.heap.size)
    (h : ∀ v' w', w'.ownsRow base e size v' (n + m) (xs ++ news) → w.grownBy w' v.ownBlock → (v'.ownBlock = v.ownBlock ∨ v'.ownBlock = some w.heap.size) → K (a.put o.dst v') w') : o.wp P a w K Q := by
  obtain ⟨v', w', hrun, h2, h3, h4⟩ := run_append_rd (P := P) w base t o.type e zs size bytes ht hinfo hzs hsz v n xs hown B A m c news hr h1 h63 hbytes hbase
  unfold Oper.wp execOp
  simp only [ho, resolve, invoke, builtin, Sem.run_bind, Sem.run_pure, Result.andThen_ok, List.map_toArray, List.map_cons, List.map_nil, hs, hx, hrun]
  exact h v' w' h2 h3 h4

theorem wpList_append_rd {ops : Array Oper} {rest : List Oper} {o : Oper} {a : Act} {Q : Exit → Act → World → Prop} (hgd : o.guard = none) (s x : Operand) (t : TypeId)
    (ho : o.op = .call { callee := .builtin .append, args := #[s, x], argTypes := #[t, t] })
    (base : Nat) (e : TypeId) (zs : Array Value) (size bytes : Nat) (ht : P.underlying t = some (.slice e)) (hinfo : (P.info? e).map (fun i => (i.zero.map Value.cells, i.size, i.bytes)) = some (some zs, size, bytes))
    (hzs : zs.size = size) (hsz : 0 < size)
    (v : Value) (n : Nat) (xs : List Value) (hs : a.eval s = v) (hown : w.ownsRow base e size v n xs)
    (B : Nat) (A : Option Addr) (m c : Nat) (news : List Value) (hx : a.eval x = .slice A m c) (hr : Rd w B size (.slice A m c) m news) (h1 : ∀ u ∈ news, u.oneCell' = true)
    (h63 : n + m ≤ maxLen) (hbytes : (n + m) * bytes ≤ 140737488355328) (hbase : base ≤ w.heap.size)
    (h : ∀ v' w', w'.ownsRow base e size v' (n + m) (xs ++ news) → w.grownBy w' v.ownBlock → (v'.ownBlock = v.ownBlock ∨ v'.ownBlock = some w.heap.size) → wpList P ops Q rest (a.put o.dst v') w') : wpList P ops Q (o :: rest) a w :=
  wpList_plain hgd fun _ hK => wp_append_rd w s x t ho base e zs size bytes ht hinfo hzs hsz v n xs hs hown B A m c news hx hr h1 h63 hbytes hbase fun v' w' h2 h3 h4 => hK _ _ (h v' w' h2 h3 h4)
end
/-- A new row without elements. -/
theorem own_empty (w : World) (e : TypeId) (k : Nat) : (w.alloc (.cells #[] e)).ownsRow w.heap.size e k (.slice (some ⟨w.heap.size, 0, none⟩) 0 0) 0 [] :=
  World.ownsRow_made w #[] 0 (Nat.le_refl _) (Nat.zero_le _) (by simp)
theorem own_form {w : World} {base k n : Nat} {e : TypeId} {v : Value} {xs : List Value} (h : w.ownsRow base e k v n xs) : ∃ A c, v = .slice A n c := by
  rcases h.2 with ⟨rfl, rfl⟩ | ⟨g, cap, cur, rfl, _⟩
  · exact ⟨none, 0, rfl⟩
  · exact ⟨_, _, rfl⟩
theorem flat_take {α : Type} {k : Nat} {cf : α → List Value} (hk : ∀ x, (cf x).length = k) : ∀ (l : List α) (m : Nat), (l.take m).flatMap cf = (l.flatMap cf).take (m * k)
  | [], m => by simp
  | x :: r, 0 => by simp
  | x :: r, m + 1 => by
    rw [List.take_succ_cons, List.flatMap_cons, List.flatMap_cons, flat_take hk r m, Nat.succ_mul, List.take_append, hk]
    congr 1
    · rw [List.take_of_length_le (by rw [hk]; omega)]
    · congr 1
      omega
end Go.Proofs.YtahgcojmpafefaaGreat
namespace Go.Proofs.YtahgcojmpafefaaGreat
open Go.ChangeShapes Go.WideShapes Go.ChangeAt Go.RowKit Go.Deep Go.Joins
open Go.ChangeMaps (open_string shut_string)
set_option maxRecDepth 100000

/-- The decimal digits of k, the last at the end; f bounds their number. -/
def mtL : Nat → Nat → List UInt8
  | 0, _ => []
  | f + 1, k => if k = 0 then [] else mtL f (k / 10) ++ [UInt8.ofNat (48 + k % 10)]
theorem mtL_fuel : ∀ (f g k : Nat), k ≤ f → k ≤ g → mtL f k = mtL g k
  | 0, g, k, hf, hg => by
    obtain rfl : k = 0 := by omega
    cases g <;> simp [mtL]
  | f + 1, 0, k, hf, hg => by
    obtain rfl : k = 0 := by omega
    simp [mtL]
  | f + 1, g + 1, k, hf, hg => by
    unfold mtL
    by_cases h : k = 0
    · simp [h]
    · rw [if_neg h, if_neg h, mtL_fuel f g (k / 10) (by omega) (by omega)]
theorem mtL_step (k : Nat) (h : 0 < k) : mtL k k = mtL (k / 10) (k / 10) ++ [UInt8.ofNat (48 + k % 10)] := by
  obtain ⟨m, rfl⟩ : ∃ m, k = m + 1 := ⟨k - 1, by omega⟩
  rw [mtL, if_neg (by omega), mtL_fuel m _ _ (by omega) (Nat.le_refl _)]
def mt (k : Int) : ByteArray := if k ≤ 0 then ⟨#[109, 48]⟩ else ⟨(109 :: mtL k.toNat k.toNat).toArray⟩
theorem mtL_len : ∀ (f k n : Nat), k < 10 ^ n → (mtL f k).length ≤ n
  | 0, k, n, h => by simp [mtL]
  | f + 1, k, 0, h => by
    obtain rfl : k = 0 := by simpa using h
    simp [mtL]
  | f + 1, k, n + 1, h => by
    unfold mtL
    split
    · simp
    · rw [List.length_append]
      have := mtL_len f (k / 10) n (by rw [Nat.pow_succ] at h; omega)
      simp only [List.length_cons, List.length_nil]
      omega
theorem markText_any (k : Int) (w : World) (h1 : k ≤ 1000000000000000) : Calls Tryz.prog 49 #[.int .i64 k] w fun e w' => e = .returned (.string (mt k)) ∧ Below w.heap.size w w' := by
  by_cases h0 : k ≤ 0
  · go_enter Tryz.func49, Tryz.ntmps49
    go_wp2
    go_ret
    exact ⟨ret_str (by unfold mt; rw [if_pos h0]), Below.refl _ _⟩
  · obtain ⟨n, rfl⟩ : ∃ n : Nat, k = n := ⟨k.toNat, by omega⟩
    have hn : n ≤ 1000000000000000 := by omega
    have hpos : 0 < n := by omega
    clear h1
    go_enter Tryz.func49, Tryz.ntmps49
    go_wp2
    go_loopw [0, 3] (fun a o wr => ∃ (m : Nat) (t : List UInt8), m ≤ n ∧ a = .int .i64 m ∧ o = .string ⟨t.toArray⟩ ∧ mtL m m ++ t = mtL n n ∧ Below w.heap.size w wr) (fun a _ _ => (intOf a).toNat)
    case atStart => exact ⟨n, [], Nat.le_refl _, rfl, rfl, by simp, Below.refl _ _⟩
    case round =>
      obtain ⟨m, t, hm, rfl, rfl, hmt, hb⟩ := hrel
      have htl : t.length ≤ 16 := by
        have e := congrArg List.length hmt
        rw [List.length_append] at e
        have := mtL_len n n 16 (by omega)
        omega
      have HM := Lib.hid hmt
      clear hmt
      by_cases hm0 : 0 < m
      · have hcv := conv1 (P := Tryz.prog) wr 178 5 9 Tryz.underlying178 Tryz.underlying5 Tryz.underlying9 (48 + (m : Int) % 10) (UInt8.ofNat (48 + m % 10)) (by congr 1)
        go_wp2
        go_roundw
        case rel =>
          refine ⟨m / 10, UInt8.ofNat (48 + m % 10) :: t, by omega, by go_num, ?_, ?_, hb.alloc hb.size _⟩
          · rw [show UInt8.ofNat (48 + m % 10) = 48 + UInt8.ofNat (m % 10) by simp]
            exact congrArg Value.string (str_cons _ t)
          · rw [← HM.out, mtL_step m hm0]
            simp
        case measure => simp [intOf]; omega
      · obtain rfl : m = 0 := by omega
        go_wp2
        go_ret
        refine ⟨ret_str ?_, hb⟩
        unfold mt
        rw [if_neg (by omega), Int.toNat_natCast, ← HM.out]
        rfl
end Go.Proofs.YtahgcojmpafefaaGreat
namespace Go.Proofs.YtahgcojmpafefaaGreat
open Go.ChangeShapes Go.WideShapes Go.ChangeAt Go.RowKit Go.Deep Go.Joins
open Go.ChangeMaps (open_string shut_string)
set_option maxRecDepth 100000

/-- The content of one cell: a plain value, or a slice of n elements of k cells each (e: the type of its block). -/
inductive Cel where
  | v (u : Value)
  | s (e k n : Nat) (xs : List Cel)

/-! ### reading -/
mutual
/-- The value u reads as x, below block B. -/
def RdC (w : World) (B : Nat) : Cel → Value → Prop
  | .v x, u => u = x
  | .s _ k n xs, u => ∃ A c, u = .slice A n c ∧ n ≤ c ∧ c ≤ maxLen ∧ xs.length = n * k ∧ (0 < n → ∃ b off, A = some ⟨b, off, none⟩ ∧ b < B ∧ RdL w B b xs off)
/-- The cells of block b from o on read as the list. -/
def RdL (w : World) (B b : Nat) : List Cel → Nat → Prop
  | [], _ => True
  | x :: r, o => (∃ u, w.cell? ⟨b, o, none⟩ = some u ∧ RdC w B x u) ∧ RdL w B b r (o + 1)
end
theorem RdL.get {w : World} {B b : Nat} : ∀ (xs : List Cel) (o j : Nat) (x : Cel), RdL w B b xs o → xs[j]? = some x → ∃ u, w.cell? ⟨b, o + j, none⟩ = some u ∧ RdC w B x u
  | [], o, j, x, h, hx => by simp at hx
  | y :: r, o, 0, x, h, hx => by
    have e : y = x := by simpa using hx
    subst e
    unfold RdL at h
    exact h.1
  | y :: r, o, j + 1, x, h, hx => by
    unfold RdL at h
    have := RdL.get r (o + 1) j x h.2 (by simpa using hx)
    rwa [show o + 1 + j = o + (j + 1) from by omega] at this
theorem RdL.of {w : World} {B b : Nat} : ∀ (xs : List Cel) (o : Nat), (∀ j x, xs[j]? = some x → ∃ u, w.cell? ⟨b, o + j, none⟩ = some u ∧ RdC w B x u) → RdL w B b xs o
  | [], o, h => by unfold RdL; trivial
  | y :: r, o, h => by
    unfold RdL
    refine ⟨by simpa using h 0 y rfl, RdL.of r (o + 1) fun j x hx => ?_⟩
    have := h (j + 1) x (by simpa using hx)
    rwa [show o + (j + 1) = o + 1 + j from by omega] at this
mutual
theorem RdC.keep {w w' : World} {B : Nat} (hk : ∀ p : Addr, p.block < B → w'.cell? p = w.cell? p) : ∀ (x : Cel) (u : Value), RdC w B x u → RdC w' B x u
  | .v x, u, h => by unfold RdC at h ⊢; exact h
  | .s e k n xs, u, h => by
    unfold RdC at h ⊢
    obtain ⟨A, c, h1, h2, h3, h4, h5⟩ := h
    refine ⟨A, c, h1, h2, h3, h4, fun hn => ?_⟩
    obtain ⟨b, off, hA, hb, hl⟩ := h5 hn
    exact ⟨b, off, hA, hb, RdL.keep hk hb xs off hl⟩
theorem RdL.keep {w w' : World} {B b : Nat} (hk : ∀ p : Addr, p.block < B → w'.cell? p = w.cell? p) (hb : b < B) : ∀ (xs : List Cel) (o : Nat), RdL w B b xs o → RdL w' B b xs o
  | [], o, h => by unfold RdL; trivial
  | x :: r, o, h => by
    unfold RdL at h ⊢
    obtain ⟨⟨u, hu, hx⟩, hr⟩ := h
    exact ⟨⟨u, (hk ⟨b, o, none⟩ hb).trans hu, RdC.keep hk x u hx⟩, RdL.keep hk hb r (o + 1) hr⟩
end
mutual
theorem RdC.more {w : World} {B B' : Nat} (hB : B ≤ B') : ∀ (x : Cel) (u : Value), RdC w B x u → RdC w B' x u
  | .v x, u, h => by unfold RdC at h ⊢; exact h
  | .s e k n xs, u, h => by
    unfold RdC at h ⊢
    obtain ⟨A, c, h1, h2, h3, h4, h5⟩ := h
    refine ⟨A, c, h1, h2, h3, h4, fun hn => ?_⟩
    obtain ⟨b, off, hA, hb, hl⟩ := h5 hn
    exact ⟨b, off, hA, by omega, RdL.more hB xs off hl⟩
theorem RdL.more {w : World} {B B' b : Nat} (hB : B ≤ B') : ∀ (xs : List Cel) (o : Nat), RdL w B b xs o → RdL w B' b xs o
  | [], o, h => by unfold RdL; trivial
  | x :: r, o, h => by
    unfold RdL at h ⊢
    obtain ⟨⟨u, hu, hx⟩, hr⟩ := h
    exact ⟨⟨u, hu, RdC.more hB x u hx⟩, RdL.more hB r (o + 1) hr⟩
end
section
variable {w w' : World} {B C : Nat} {x : Cel} {u : Value}
theorem RdC.below (h : RdC w B x u) (hb : Below C w w') (hC : B ≤ C) : RdC w' B x u := RdC.keep (fun p hp => hb.cell (by omega)) x u h
/-- In a later world, and below any later block. -/
theorem RdC.on (h : RdC w B x u) (hb : Below C w w') (hC : B ≤ C) {B' : Nat} (hB : B ≤ B') : RdC w' B' x u := RdC.more hB x u (h.below hb hC)
theorem RdC.up (h : RdC w B x u) {B' : Nat} (hB : B ≤ B') : RdC w B' x u := RdC.more hB x u h
theorem RdC.form {e k n : Nat} {xs : List Cel} (h : RdC w B (.s e k n xs) u) : ∃ A c, u = .slice A n c := by
  unfold RdC at h
  obtain ⟨A, c, rfl, _⟩ := h
  exact ⟨A, c, rfl⟩
theorem RdC.val {y : Value} (h : RdC w B (.v y) u) : u = y := by unfold RdC at h; exact h
theorem RdC.cap {e k n c : Nat} {A : Option Addr} {xs : List Cel} (h : RdC w B (.s e k n xs) (.slice A n c)) : n ≤ c ∧ c ≤ maxLen := by
  unfold RdC at h
  obtain ⟨A', c', hA, h1, h2, _⟩ := h
  simp only [Value.slice.injEq, true_and] at hA
  obtain ⟨rfl, rfl⟩ := hA
  exact ⟨h1, h2⟩
theorem RdC.nil {e k c : Nat} {A : Option Addr} (hc : c ≤ maxLen) : RdC w B (.s e k 0 []) (.slice A 0 c) := by
  unfold RdC
  exact ⟨A, c, rfl, Nat.zero_le _, hc, by simp, fun h => absurd h (by omega)⟩
end
/-- An element of a slice that is read: its block, and its cells one by one. -/
theorem RdC.at_ {α : Type} {k : Nat} {cf : α → List Cel} {w : World} {B e c : Nat} {A : Option Addr} {l : List α} (hk : ∀ x, (cf x).length = k)
    (h : RdC w B (.s e k l.length (l.flatMap cf)) (.slice A l.length c)) {i : Nat} {x : α} (hx : l[i]? = some x) :
    ∃ b off, A = some ⟨b, off, none⟩ ∧ b < B ∧ ∀ j y, (cf x)[j]? = some y → ∃ u, w.cell? ⟨b, off + i * k + j, none⟩ = some u ∧ RdC w B y u := by
  have hi : i < l.length := (List.getElem?_eq_some_iff.1 hx).1
  unfold RdC at h
  obtain ⟨A', c', hA, _, _, _, h5⟩ := h
  simp only [Value.slice.injEq, true_and] at hA
  obtain ⟨rfl, rfl⟩ := hA
  obtain ⟨b, off, rfl, hb, hl⟩ := h5 (by omega)
  refine ⟨b, off, rfl, hb, fun j y hy => ?_⟩
  have hj : j < k := by have := (List.getElem?_eq_some_iff.1 hy).1; rwa [hk] at this
  have hg : ∀ (l : List α) (i : Nat) (x : α), l[i]? = some x → ∀ j, j < k → (l.flatMap cf)[i * k + j]? = (cf x)[j]? := by
    intro l
    induction l with
    | nil => intro i x h; simp at h
    | cons a r ih =>
      intro i x h j hj
      cases i with
      | zero =>
        obtain rfl : a = x := by simpa using h
        rw [List.flatMap_cons, Nat.zero_mul, Nat.zero_add, List.getElem?_append_left (by rw [hk]; exact hj)]
      | succ i =>
        have h' : r[i]? = some x := by simpa using h
        have e : (i + 1) * k + j = (cf a).length + (i * k + j) := by rw [hk, Nat.succ_mul]; omega
        rw [List.flatMap_cons, e, List.getElem?_append_right (by omega), Nat.add_sub_cancel_left]
        exact ih i x h' j hj
  have := RdL.get _ off (i * k + j) y hl (by rw [hg l i x hx j hj]; exact hy)
  rwa [← Nat.add_assoc] at this
/-- A list of values reads as a list of cells. -/
def RdVs (w : World) (B : Nat) (xs : List Cel) (us : List Value) : Prop := us.length = xs.length ∧ ∀ (j : Nat) (x : Cel) (u : Value), xs[j]? = some x → us[j]? = some u → RdC w B x u
theorem RdVs.nil (w : World) (B : Nat) : RdVs w B [] [] := ⟨rfl, fun j x u h => by simp at h⟩
theorem RdVs.cons {w : World} {B : Nat} {x : Cel} {u : Value} {xs : List Cel} {us : List Value} (h : RdC w B x u) (h' : RdVs w B xs us) : RdVs w B (x :: xs) (u :: us) := by
  refine ⟨by simp [h'.1], fun j y z hy hz => ?_⟩
  cases j with
  | zero =>
    simp only [List.getElem?_cons_zero, Option.some.injEq] at hy hz
    subst hy hz
    exact h
  | succ j => exact h'.2 j y z (by simpa using hy) (by simpa using hz)
theorem RdVs.app {w : World} {B : Nat} {xs ys : List Cel} {us vs : List Value} (h : RdVs w B xs us) (h' : RdVs w B ys vs) : RdVs w B (xs ++ ys) (us ++ vs) := by
  induction xs generalizing us with
  | nil =>
    obtain rfl : us = [] := List.eq_nil_of_length_eq_zero (by simpa using h.1)
    exact h'
  | cons x r ih =>
    cases us with
    | nil => have := h.1; simp at this
    | cons u us =>
      refine RdVs.cons (h.2 0 x u rfl rfl) (ih ⟨by have := h.1; simpa using this, fun j y z hy hz => h.2 (j + 1) y z (by simpa using hy) (by simpa using hz)⟩)

/-! ### owning -/
/-- The block of a slice that starts its block, if any. -/
def ownB (u : Value) : List Nat := match u.ownBlock with
  | some g => [g]
  | none => []
mutual
/-- The value u is x, in blocks of its own: just those of the list, each named once. -/
def OwnC (w : World) : Cel → List Nat → Value → Prop
  | .v x, F, u => F = [] ∧ u = x
  | .s e k n xs, F, u => ∃ us G, F = ownB u ++ G ∧ w.ownsRow 0 e k u n us ∧ OwnL w xs G us
def OwnL (w : World) : List Cel → List Nat → List Value → Prop
  | [], F, us => F = [] ∧ us = []
  | x :: r, F, us => ∃ u us' F1 F2, us = u :: us' ∧ F = F1 ++ F2 ∧ OwnC w x F1 u ∧ OwnL w r F2 us'
end
theorem OwnL.len {w : World} : ∀ (xs : List Cel) (F : List Nat) (us : List Value), OwnL w xs F us → us.length = xs.length
  | [], F, us, h => by unfold OwnL at h; rw [h.2]; rfl
  | x :: r, F, us, h => by
    unfold OwnL at h
    obtain ⟨u, us', F1, F2, rfl, rfl, _, hr⟩ := h
    simp [OwnL.len r F2 us' hr]
theorem OwnL.split {w : World} : ∀ (xs ys : List Cel) (F : List Nat) (us : List Value), OwnL w (xs ++ ys) F us → ∃ F1 F2 u1 u2, F = F1 ++ F2 ∧ us = u1 ++ u2 ∧ OwnL w xs F1 u1 ∧ OwnL w ys F2 u2
  | [], ys, F, us, h => ⟨[], F, [], us, rfl, rfl, by unfold OwnL; exact ⟨rfl, rfl⟩, h⟩
  | x :: r, ys, F, us, h => by
    rw [List.cons_append] at h
    unfold OwnL at h
    obtain ⟨u, us', F1, F2, rfl, rfl, hx, hr⟩ := h
    obtain ⟨G1, G2, u1, u2, rfl, rfl, h1, h2⟩ := OwnL.split r ys F2 us' hr
    refine ⟨F1 ++ G1, G2, u :: u1, u2, by simp, by simp, ?_, h2⟩
    unfold OwnL
    exact ⟨u, u1, F1, G1, rfl, rfl, hx, h1⟩
theorem OwnL.join {w : World} : ∀ (xs ys : List Cel) (F1 F2 : List Nat) (u1 u2 : List Value), OwnL w xs F1 u1 → OwnL w ys F2 u2 → OwnL w (xs ++ ys) (F1 ++ F2) (u1 ++ u2)
  | [], ys, F1, F2, u1, u2, h, h' => by
    unfold OwnL at h
    obtain ⟨rfl, rfl⟩ := h
    exact h'
  | x :: r, ys, F1, F2, u1, u2, h, h' => by
    unfold OwnL at h
    obtain ⟨u, us', G1, G2, rfl, rfl, hx, hr⟩ := h
    rw [List.cons_append]
    unfold OwnL
    exact ⟨u, us' ++ u2, G1, G2 ++ F2, by simp, by simp, hx, OwnL.join r ys G2 F2 us' u2 hr h'⟩
mutual
theorem OwnC.keep {w w' : World} : ∀ (x : Cel) (F : List Nat) (u : Value), OwnC w x F u → (∀ g, g ∈ F → w'.heap[g]? = w.heap[g]?) → OwnC w' x F u
  | .v x, F, u, h, hk => by unfold OwnC at h ⊢; exact h
  | .s e k n xs, F, u, h, hk => by
    unfold OwnC at h ⊢
    obtain ⟨us, G, rfl, ho, hl⟩ := h
    refine ⟨us, G, rfl, own_keep ho fun g hg => hk g ?_, OwnL.keep xs G us hl fun g hg => hk g (List.mem_append_right _ hg)⟩
    apply List.mem_append_left
    unfold ownB
    rw [hg]
    exact List.mem_singleton.2 rfl
theorem OwnL.keep {w w' : World} : ∀ (xs : List Cel) (F : List Nat) (us : List Value), OwnL w xs F us → (∀ g, g ∈ F → w'.heap[g]? = w.heap[g]?) → OwnL w' xs F us
  | [], F, us, h, hk => by unfold OwnL at h ⊢; exact h
  | x :: r, F, us, h, hk => by
    unfold OwnL at h ⊢
    obtain ⟨u, us', F1, F2, rfl, rfl, hx, hr⟩ := h
    exact ⟨u, us', F1, F2, rfl, rfl, OwnC.keep x F1 u hx fun g hg => hk g (List.mem_append_left _ hg), OwnL.keep r F2 us' hr fun g hg => hk g (List.mem_append_right _ hg)⟩
end
theorem mem_ownB {u : Value} {g : Nat} : g ∈ ownB u ↔ u.ownBlock = some g := by
  unfold ownB
  cases h : u.ownBlock with
  | none => simp
  | some b => simp; exact ⟨fun e => e.symm, fun e => e.symm⟩
mutual
theorem OwnC.lt {w : World} : ∀ (x : Cel) (F : List Nat) (u : Value), OwnC w x F u → ∀ g, g ∈ F → g < w.heap.size
  | .v x, F, u, h, g, hg => by unfold OwnC at h; rw [h.1] at hg; cases hg
  | .s e k n xs, F, u, h, g, hg => by
    unfold OwnC at h
    obtain ⟨us, G, rfl, ho, hl⟩ := h
    rcases List.mem_append.1 hg with hg | hg
    · exact (ho.lt g (mem_ownB.1 hg)).2
    · exact OwnL.lt xs G us hl g hg
theorem OwnL.lt {w : World} : ∀ (xs : List Cel) (F : List Nat) (us : List Value), OwnL w xs F us → ∀ g, g ∈ F → g < w.heap.size
  | [], F, us, h, g, hg => by unfold OwnL at h; rw [h.1] at hg; cases hg
  | x :: r, F, us, h, g, hg => by
    unfold OwnL at h
    obtain ⟨u, us', F1, F2, rfl, rfl, hx, hr⟩ := h
    rcases List.mem_append.1 hg with hg | hg
    · exact OwnC.lt x F1 u hx g hg
    · exact OwnL.lt r F2 us' hr g hg
end
mutual
theorem OwnC.read {w : World} : ∀ (x : Cel) (F : List Nat) (u : Value), OwnC w x F u → RdC w w.heap.size x u
  | .v x, F, u, h => by unfold OwnC at h; unfold RdC; exact h.2
  | .s e k n xs, F, u, h => by
    unfold OwnC at h
    obtain ⟨us, G, rfl, ho, hl⟩ := h
    have hlen := OwnL.len xs G us hl
    unfold RdC
    rcases own_row ho with ⟨rfl, rfl, rfl⟩ | ⟨g, cap, f, rfl, hg, hn, hc, hrow, hx⟩
    · exact ⟨none, 0, rfl, Nat.le_refl _, Nat.zero_le _, by rw [← hlen]; simp, fun h => absurd h (by omega)⟩
    · refine ⟨some ⟨g, 0, none⟩, cap, rfl, hn, hc, by rw [← hlen]; exact ho.1, fun _ => ⟨g, 0, rfl, hrow.lt, OwnL.read xs G us hl g 0 fun j u hu => ?_⟩⟩
      have hj : j < n * k := by have := (List.getElem?_eq_some_iff.1 hu).1; rw [ho.1] at this; exact this
      have hle : n * k ≤ cap * k := Nat.mul_le_mul_right k hn
      rw [Nat.zero_add, hrow.cell (by omega), ← hx j hj, hu]
theorem OwnL.read {w : World} : ∀ (xs : List Cel) (F : List Nat) (us : List Value), OwnL w xs F us → ∀ (b o : Nat), (∀ j u, us[j]? = some u → w.cell? ⟨b, o + j, none⟩ = some u) → RdL w w.heap.size b xs o
  | [], F, us, h, b, o, hc => by unfold RdL; trivial
  | x :: r, F, us, h, b, o, hc => by
    unfold OwnL at h
    obtain ⟨u, us', F1, F2, rfl, rfl, hx, hr⟩ := h
    unfold RdL
    refine ⟨⟨u, by simpa using hc 0 u rfl, OwnC.read x F1 u hx⟩, OwnL.read r F2 us' hr b (o + 1) fun j v hv => ?_⟩
    have := hc (j + 1) v (by simpa using hv)
    rwa [show o + (j + 1) = o + 1 + j from by omega] at this
end
section
variable {w w' : World} {C : Nat} {x : Cel} {F : List Nat} {u : Value}
theorem OwnC.below (h : OwnC w x F u) (hb : Below C w w') (hC : w.heap.size ≤ C) : OwnC w' x F u := OwnC.keep x F u h fun g hg => hb.block g (by have := OwnC.lt x F u h g hg; omega)
theorem OwnC.form {e k n : Nat} {xs : List Cel} (h : OwnC w (.s e k n xs) F u) : ∃ A c, u = .slice A n c := by
  unfold OwnC at h
  obtain ⟨us, G, rfl, ho, hl⟩ := h
  exact own_form ho
theorem OwnC.val {y : Value} (h : OwnC w (.v y) F u) : F = [] ∧ u = y := by unfold OwnC at h; exact h
end
theorem OwnL.nil (w : World) : OwnL w [] [] [] := by unfold OwnL; exact ⟨rfl, rfl⟩
theorem OwnL.cons {w : World} {x : Cel} {F1 F2 : List Nat} {u : Value} {xs : List Cel} {us : List Value} (h : OwnC w x F1 u) (h' : OwnL w xs F2 us) : OwnL w (x :: xs) (F1 ++ F2) (u :: us) := by
  unfold OwnL
  exact ⟨u, us, F1, F2, rfl, rfl, h, h'⟩
theorem OwnL.consv {w : World} {x : Value} {F : List Nat} {xs : List Cel} {us : List Value} (h' : OwnL w xs F us) : OwnL w (.v x :: xs) F (x :: us) := by
  have := OwnL.cons (x := .v x) (F1 := []) (u := x) (by unfold OwnC; exact ⟨rfl, rfl⟩) h'
  exact this
theorem OwnL.uncons {w : World} {x : Cel} {F : List Nat} {xs : List Cel} {us : List Value} (h : OwnL w (x :: xs) F us) : ∃ u us' F1 F2, us = u :: us' ∧ F = F1 ++ F2 ∧ OwnC w x F1 u ∧ OwnL w xs F2 us' := by
  unfold OwnL at h
  exact h
theorem OwnL.unconsv {w : World} {x : Value} {F : List Nat} {xs : List Cel} {us : List Value} (h : OwnL w (.v x :: xs) F us) : ∃ us', us = x :: us' ∧ OwnL w xs F us' := by
  unfold OwnL at h
  obtain ⟨u, us', F1, F2, rfl, rfl, hx, hr⟩ := h
  obtain ⟨rfl, rfl⟩ := hx.val
  exact ⟨us', rfl, by simpa using hr⟩
theorem OwnL.unnil {w : World} {F : List Nat} {us : List Value} (h : OwnL w [] F us) : F = [] ∧ us = [] := by unfold OwnL at h; exact h
/-- Owned values read, as a list of values. -/
theorem OwnL.vs {w : World} : ∀ (xs : List Cel) (F : List Nat) (us : List Value), OwnL w xs F us → RdVs w w.heap.size xs us
  | [], F, us, h => by obtain ⟨_, rfl⟩ := h.unnil; exact RdVs.nil _ _
  | x :: r, F, us, h => by
    obtain ⟨u, us', F1, F2, rfl, rfl, hx, hr⟩ := h.uncons
    exact RdVs.cons (OwnC.read x F1 u hx) (OwnL.vs r F2 us' hr)
/-- An owned slice, out of its parts. -/
theorem OwnC.mk {w : World} {e k n : Nat} {xs : List Cel} {u : Value} {us : List Value} {G : List Nat} {base : Nat} (ho : w.ownsRow base e k u n us) (hl : OwnL w xs G us) : OwnC w (.s e k n xs) (ownB u ++ G) u := by
  unfold OwnC
  exact ⟨us, G, rfl, ownsRow_le ho (Nat.zero_le _), hl⟩
/-- A store into an owned row. -/
theorem own_setC {w : World} {base k n cap g i : Nat} {e : TypeId} {xs : List Value} (h : w.ownsRow base e k (.slice (some ⟨g, 0, none⟩) n cap) n xs) (hi : i < n * k) (u : Value) : (w.setCell ⟨g, i, none⟩ u).ownsRow base e k (.slice (some ⟨g, 0, none⟩) n cap) n (xs.set i u) := by
  rcases own_row h with ⟨hv, _⟩ | ⟨g1, cap1, f, hv, hg, hn, hc, hrow, hf⟩
  · cases hv
  · injection hv with e1 e2 e3
    injection e1 with e1
    injection e1 with e1 _ _
    subst e1 e3
    refine own_of_row_cap (hrow.set i u) hg hn hc (by rw [List.length_set]; exact h.1) fun j hj => ?_
    rw [List.getElem?_set]
    by_cases hij : i = j
    · subst hij
      rw [if_pos rfl, if_pos (by rw [h.1]; exact hi)]
      simp
    · rw [if_neg hij, hf j hj, if_neg (fun e => hij e.symm)]
/-- One cell of an owned slice: what stands there, and what it means to put another thing in its stead. -/
theorem OwnC.at_ {w : World} {e k n c : Nat} {A : Option Addr} {D R : List Cel} {x : Cel} {F : List Nat} (h : OwnC w (.s e k n (D ++ x :: R)) F (.slice A n c)) (hF : F.Nodup) :
    ∃ g a Fx, A = some ⟨g, 0, none⟩ ∧ g ∈ F ∧ w.cell? ⟨g, D.length, none⟩ = some a ∧ (∀ i, w.frozen? ⟨g, i, none⟩ = false) ∧ OwnC w x Fx a ∧ (∀ b, b ∈ Fx → b ∈ F) ∧ Fx.Nodup ∧ g ∉ Fx ∧
      ∀ (w' : World) (x' : Cel), OwnC w' x' Fx a → (∀ b, b ∈ F → b ∉ Fx → w'.heap[b]? = w.heap[b]?) → OwnC w' (.s e k n (D ++ x' :: R)) F (.slice A n c) := by
  have h0 := h
  unfold OwnC at h
  obtain ⟨us, G, rfl, ho, hl⟩ := h
  have hlen := OwnL.len _ _ _ hl
  obtain ⟨F1, F2, u1, u2, rfl, rfl, hD, hR⟩ := OwnL.split D (x :: R) G us hl
  obtain ⟨a, u3, Fx, F3, rfl, rfl, hx, hR'⟩ := hR.uncons
  have hl1 := OwnL.len _ _ _ hD
  rcases own_row ho with ⟨hv, rfl, hnil⟩ | ⟨g, cap, f, hv, hg, hn, hc, hrow, hf⟩
  · simp at hnil
  · simp only [Value.slice.injEq, true_and] at hv
    obtain ⟨rfl, rfl⟩ := hv
    have hB : ownB (.slice (some ⟨g, 0, none⟩) n c) = [g] := rfl
    rw [hB] at hF h0 ⊢
    have hle : n * k ≤ c * k := Nat.mul_le_mul_right k hn
    have hlt : D.length < n * k := by rw [← ho.1]; simp; omega
    have hnd := List.nodup_cons.1 (show (g :: (F1 ++ (Fx ++ F3))).Nodup from hF)
    have hnd2 := List.nodup_append.1 hnd.2
    have hnd3 := List.nodup_append.1 hnd2.2.1
    refine ⟨g, a, Fx, rfl, by simp, ?_, hrow.frozen, hx, fun b hb => by simp [hb], hnd3.1, fun hb => hnd.1 (by simp [hb]), fun w' x' hx' hk => ?_⟩
    · rw [hrow.cell (by omega), ← hf _ hlt, ← hl1, List.getElem?_append_right (Nat.le_refl _)]
      simp
    · unfold OwnC
      refine ⟨u1 ++ a :: u3, F1 ++ (Fx ++ F3), by rw [hB], own_keep ho fun b hb => hk b ?_ ?_, OwnL.join _ _ _ _ _ _ (OwnL.keep _ _ _ hD fun b hb => hk b ?_ ?_) (OwnL.cons hx' (OwnL.keep _ _ _ hR' fun b hb => hk b ?_ ?_))⟩
      · have : g = b := by simpa [Value.ownBlock] using hb
        simp [this]
      · have : g = b := by simpa [Value.ownBlock] using hb
        subst this
        exact fun hb' => hnd.1 (by simp [hb'])
      · simp [hb]
      · exact fun hb' => hnd2.2.2 b hb b (by simp [hb']) rfl
      · simp [hb]
      · exact fun hb' => hnd3.2.2 b hb' b hb rfl
/-- A plain value stored into a cell of an owned slice. -/
theorem OwnC.setv {w : World} {e k n c g : Nat} {D R : List Cel} {y : Value} {F : List Nat} (h : OwnC w (.s e k n (D ++ .v y :: R)) F (.slice (some ⟨g, 0, none⟩) n c)) (hF : F.Nodup) (z : Value) (p : Nat) (hp : p = D.length) :
    OwnC (w.setCell ⟨g, p, none⟩ z) (.s e k n (D ++ .v z :: R)) F (.slice (some ⟨g, 0, none⟩) n c) := by
  subst hp
  unfold OwnC at h
  obtain ⟨us, G, rfl, ho, hl⟩ := h
  have hlen := OwnL.len _ _ _ hl
  obtain ⟨F1, F2, u1, u2, rfl, rfl, hD, hR⟩ := OwnL.split D (.v y :: R) G us hl
  obtain ⟨u3, rfl, hR'⟩ := hR.unconsv
  have hl1 := OwnL.len _ _ _ hD
  have hB : ownB (.slice (some ⟨g, 0, none⟩) n c) = [g] := rfl
  rw [hB] at hF
  have hnd := List.nodup_cons.1 (show (g :: (F1 ++ F2)).Nodup from hF)
  have hlt : D.length < n * k := by rw [← ho.1]; simp; omega
  have hs := own_setC ho hlt z
  have hset : (u1 ++ y :: u3).set D.length z = u1 ++ z :: u3 := by rw [List.set_append_right _ _ (by omega), hl1]; simp
  rw [hset] at hs
  unfold OwnC
  refine ⟨u1 ++ z :: u3, F1 ++ F2, by rw [hB], hs, OwnL.join _ _ _ _ _ _ (OwnL.keep _ _ _ hD fun b hb => Below.heap_setCell _ _ _ _ ?_) (OwnL.consv (OwnL.keep _ _ _ hR' fun b hb => Below.heap_setCell _ _ _ _ ?_))⟩
  · show b ≠ g
    rintro rfl
    exact hnd.1 (by simp [hb])
  · show b ≠ g
    rintro rfl
    exact hnd.1 (by simp [hb])

/-! ### marks -/
def mkV (k : Int) : Value → Value
  | .int kd _ => .int kd k
  | .string _ => .string (mt k)
  | .bool _ => .bool (k % 3 == 0)
  | u => u
mutual
/-- How many plain values lie in it. -/
def Cel.cnt : Cel → Nat
  | .v _ => 1
  | .s _ _ _ xs => cntL xs
def cntL : List Cel → Nat
  | [] => 0
  | x :: r => x.cnt + cntL r
end
mutual
def mkC : Cel → Int → Cel
  | .v u, k => .v (mkV k u)
  | .s e m n xs, k => .s e m n (mkL xs k)
def mkL : List Cel → Int → List Cel
  | [], _ => []
  | x :: r, k => mkC x k :: mkL r (k + (x.cnt : Int))
end
theorem cntL_append : ∀ (xs ys : List Cel), cntL (xs ++ ys) = cntL xs + cntL ys
  | [], ys => by simp [cntL]
  | x :: r, ys => by rw [List.cons_append, cntL, cntL, cntL_append r ys]; omega
theorem mkL_len : ∀ (xs : List Cel) (k : Int), (mkL xs k).length = xs.length
  | [], k => by unfold mkL; rfl
  | x :: r, k => by unfold mkL; simp [mkL_len r]
theorem mkL_append : ∀ (xs ys : List Cel) (k : Int), mkL (xs ++ ys) k = mkL xs k ++ mkL ys (k + (cntL xs : Int))
  | [], ys, k => by simp [mkL, cntL]
  | x :: r, ys, k => by
    rw [List.cons_append, mkL, mkL, mkL_append r ys, cntL, List.cons_append]
    congr 3
    omega
/-! ### frames -/
/-- Only the blocks of F have turned. -/
structure OnlyF (F : List Nat) (w w' : World) : Prop where
  os : w'.os = w.os
  tape : w'.tape = w.tape
  output : w'.output = w.output
  size : w.heap.size ≤ w'.heap.size
  block : ∀ b, b < w.heap.size → b ∉ F → w'.heap[b]? = w.heap[b]?
theorem OnlyF.refl (F : List Nat) (w : World) : OnlyF F w w := ⟨rfl, rfl, rfl, Nat.le_refl _, fun _ _ _ => rfl⟩
theorem OnlyF.trans {F : List Nat} {a b c : World} (h : OnlyF F a b) (k : OnlyF F b c) : OnlyF F a c :=
  ⟨k.os.trans h.os, k.tape.trans h.tape, k.output.trans h.output, Nat.le_trans h.size k.size, fun i hi h' => (k.block i (Nat.lt_of_lt_of_le hi h.size) h').trans (h.block i hi h')⟩
theorem OnlyF.wide {F G : List Nat} {a b : World} (h : OnlyF F a b) (hs : ∀ g, g ∈ F → g ∈ G) : OnlyF G a b := ⟨h.os, h.tape, h.output, h.size, fun i hi h' => h.block i hi fun e => h' (hs i e)⟩
theorem onlyF_below {F : List Nat} {a b : World} (h : Below a.heap.size a b) : OnlyF F a b := ⟨h.os, h.tape, h.output, h.size, fun i hi _ => h.block i hi⟩
theorem OnlyF.set {F : List Nat} {a b : World} (h : OnlyF F a b) {p : Addr} (hp : p.block ∈ F) (u : Value) : OnlyF F a (b.setCell p u) :=
  h.trans ⟨rfl, rfl, rfl, by simp [World.setCell], fun i _ hi => Below.heap_setCell _ _ _ _ (fun e => hi (e ▸ hp))⟩
theorem OnlyF.alloc {F : List Nat} {a b : World} (h : OnlyF F a b) (o : Obj) : OnlyF F a (b.alloc o) := h.trans (onlyF_below ((Below.refl _ _).alloc (Nat.le_refl _) _))
/-! ### slices that came in -/
section
variable {H : Type} {enc : TypeId × Value → H} {P : Program} {w : World} {base : Nat} {spare : Nat → Bool} {held : Bool}
theorem open_deep {α : Type} {k : Nat} {cf : α → List Cel} {ok : α → Prop} (e0 : Nat) (hk : ∀ x, (cf x).length = k) (hk0 : 0 < k) {t e : TypeId} {fuel : Nat} {cs : List Value} {y : DataW H × List MemPlace}
    (ht : P.underlying t = some (.slice e)) (hC : P.cellsOf e = k) (hread : ∀ n cs' y', n < fuel → DataW.trod enc P w base spare held n e cs' = some y' → ∃ x, RdVs w w.heap.size (cf x) cs' ∧ ok x)
    (h : DataW.trod enc P w base spare held fuel t cs = some y) :
    ∃ (v : Value) (l : List α), cs = [v] ∧ RdC w w.heap.size (.s e0 k l.length (l.flatMap cf)) v ∧ ∀ x ∈ l, ok x := by
  classical
  rcases DataW.trod_slice ht h with ⟨rfl, _⟩ | ⟨a, len, cap, el, rest, n, rfl, rfl, _, hb, hl, hm, hel, hx, _, _⟩
  · exact ⟨_, [], rfl, RdC.nil (Nat.zero_le _), fun x hx => by simp at hx⟩
  · rw [hC] at hx
    have each : ∀ i, i < len → ∃ x : α, ok x ∧ ∀ j z, (cf x)[j]? = some z → ∃ u, w.cell? ((a.add (i * k)).add j) = some u ∧ RdC w w.heap.size z u := by
      intro i hi
      have hxi := hx i hi
      rw [List.getElem?_eq_getElem (by omega), Option.bind_eq_some_iff] at hxi
      obtain ⟨cs', hc, ht'⟩ := hxi
      obtain ⟨x, hvs, hok⟩ := hread _ _ _ (Nat.lt_succ_self _) ht'
      obtain ⟨_, hcl, hat⟩ := World.cells?_some hc
      refine ⟨x, hok, fun j z hz => ?_⟩
      have hj : j < k := by have := (List.getElem?_eq_some_iff.1 hz).1; rwa [hk] at this
      have hjc : j < cs'.length := by rw [hvs.1, hk]; exact hj
      exact ⟨cs'[j], by rw [hat j hj, List.getElem?_eq_getElem hjc], hvs.2 j z _ hz (List.getElem?_eq_getElem hjc)⟩
    by_cases h0 : len = 0
    · subst h0
      exact ⟨_, [], rfl, RdC.nil hm, fun x hx => by simp at hx⟩
    · obtain ⟨x0, _, hx0⟩ := each 0 (by omega)
      obtain ⟨z0, hz0⟩ : ∃ z, (cf x0)[0]? = some z := ⟨_, List.getElem?_eq_getElem (by rw [hk]; exact hk0)⟩
      obtain ⟨u0, hc0, _⟩ := hx0 0 z0 hz0
      obtain ⟨b, off, spot⟩ := a
      have hspot : spot = none := by simpa [Addr.add] using World.cell?_spot hc0
      subst hspot
      have hbl : b < w.heap.size := by simpa [Addr.add] using World.block_lt_of_cell? w _ hc0
      let f : Nat → α := fun i => if hi : i < len then Classical.choose (each i hi) else x0
      have hf : ∀ i, i < len → ok (f i) ∧ ∀ j z, (cf (f i))[j]? = some z → ∃ u, w.cell? (((⟨b, off, none⟩ : Addr).add (i * k)).add j) = some u ∧ RdC w w.heap.size z u := fun i hi => by
        simp only [f, dif_pos hi]
        exact Classical.choose_spec (each i hi)
      have hflen : ∀ l : List α, (l.flatMap cf).length = l.length * k := by
        intro l
        induction l with
        | nil => simp
        | cons x r ih => rw [List.flatMap_cons, List.length_append, hk, ih, List.length_cons, Nat.add_mul]; omega
      have hg : ∀ (l : List α) (i : Nat) (x : α), l[i]? = some x → ∀ j, j < k → (l.flatMap cf)[i * k + j]? = (cf x)[j]? := by
        intro l
        induction l with
        | nil => intro i x h; simp at h
        | cons a r ih =>
          intro i x h j hj
          cases i with
          | zero =>
            obtain rfl : a = x := by simpa using h
            rw [List.flatMap_cons, Nat.zero_mul, Nat.zero_add, List.getElem?_append_left (by rw [hk]; exact hj)]
          | succ i =>
            have h' : r[i]? = some x := by simpa using h
            have e : (i + 1) * k + j = (cf a).length + (i * k + j) := by rw [hk, Nat.succ_mul]; omega
            rw [List.flatMap_cons, e, List.getElem?_append_right (by omega), Nat.add_sub_cancel_left]
            exact ih i x h' j hj
      have hlen : ((List.range len).map f).length = len := by simp
      refine ⟨_, (List.range len).map f, rfl, ?_, fun x hx => ?_⟩
      · unfold RdC
        rw [hlen]
        refine ⟨_, cap, rfl, hl, hm, by rw [hflen, hlen], fun _ => ⟨b, off, rfl, hbl, RdL.of _ _ fun j z hz => ?_⟩⟩
        have hj : j < len * k := by
          have := (List.getElem?_eq_some_iff.1 hz).1
          rw [hflen, hlen] at this
          exact this
        have hi : j / k < len := by rw [Nat.div_lt_iff_lt_mul hk0]; exact hj
        have hjk : j = j / k * k + j % k := by rw [Nat.mul_comm]; exact (Nat.div_add_mod j k).symm
        have hmod : j % k < k := Nat.mod_lt _ hk0
        have hget := hg ((List.range len).map f) (j / k) (f (j / k)) (by simp [hi]) (j % k) hmod
        rw [← hjk, hz] at hget
        have := (hf (j / k) hi).2 (j % k) z hget.symm
        rw [Go.Deep.add_add, add_plain, ← hjk] at this
        exact this
      · simp only [List.mem_map, List.mem_range] at hx
        obtain ⟨i, hi, rfl⟩ := hx
        exact (hf i hi).1
/-- A field of a struct, by its offset and its width. -/
theorem struct_span {e : TypeId} {n : Nat} {cs : List Value} {y : DataW H × List MemPlace} (hs : P.underlying e = some (.struct (flds P e)))
    (h : DataW.trod enc P w base spare held n e cs = some y) :
    cs.length = P.cellsOf e ∧ ∃ n', n = n' + 1 ∧ ∀ (j : Nat) (ty : TypeId) (o c : Nat), ((flds P e)[j]?).map (fun f => (f.type, f.offset, P.cellsOf f.type)) = some (ty, o, c) → ∃ (y' : DataW H × List MemPlace), DataW.trod enc P w base spare held n' ty ((cs.drop o).take c) = some y' := by
  obtain ⟨xs, n', hn, hx, hl, hlen, hg⟩ := DataW.trod_struct hs h
  refine ⟨hl, n', hn, fun j ty o c hj => ?_⟩
  obtain ⟨f, hf0, he⟩ := Option.map_eq_some_iff.1 hj
  simp only [Prod.mk.injEq] at he
  obtain ⟨rfl, rfl, rfl⟩ := he
  have hjl : j < (flds P e).size := (Array.getElem?_eq_some_iff.1 hf0).1
  have h1 := hg j f hf0
  have hys : xs[j]? = some (xs[j]'(by omega)) := List.getElem?_eq_getElem (by omega)
  exact ⟨_, h1.trans hys⟩
end
theorem cut_all {us : List Value} {k : Nat} (h : us.length = k) : us = (us.drop 0).take k := by
  rw [List.drop_zero, List.take_of_length_le (by omega)]
theorem cut_step {us : List Value} (o a b : Nat) : (us.drop o).take (a + b) = (us.drop o).take a ++ (us.drop (o + a)).take b := by
  rw [List.take_add, List.drop_drop]
/-! ### owning, by an interval of blocks -/
/-- The values us are the cells xs, in blocks of their own, all of [lo, hi). -/
def OwnI (w : World) (lo hi : Nat) (xs : List Cel) (us : List Value) : Prop := ∃ F, OwnL w xs F us ∧ F.Nodup ∧ ∀ b, b ∈ F → lo ≤ b ∧ b < hi
section
variable {w w' : World} {lo hi lo' hi' m C : Nat} {xs ys : List Cel} {us us2 : List Value} {x : Cel} {u : Value}
theorem OwnI.nil (w : World) (lo hi : Nat) : OwnI w lo hi [] [] := ⟨[], OwnL.nil w, List.nodup_nil, fun b hb => by cases hb⟩
theorem OwnI.consv (h : OwnI w lo hi xs us) (y : Value) : OwnI w lo hi (.v y :: xs) (y :: us) := by
  obtain ⟨F, h1, h2, h3⟩ := h
  exact ⟨F, OwnL.consv h1, h2, h3⟩
theorem OwnI.app (h : OwnI w lo m xs us) (h' : OwnI w lo' hi ys us2) (h1 : m ≤ lo') (h2 : lo ≤ lo') (h3 : m ≤ hi) : OwnI w lo hi (xs ++ ys) (us ++ us2) := by
  obtain ⟨F, a1, a2, a3⟩ := h
  obtain ⟨G, b1, b2, b3⟩ := h'
  refine ⟨F ++ G, OwnL.join _ _ _ _ _ _ a1 b1, List.nodup_append.2 ⟨a2, b2, fun a ha b hb e => ?_⟩, fun b hb => ?_⟩
  · have := a3 a ha; have := b3 b hb; omega
  · rcases List.mem_append.1 hb with hb | hb
    · have := a3 b hb; omega
    · have := b3 b hb; omega
theorem OwnI.wide (h : OwnI w lo hi xs us) (h1 : lo' ≤ lo) (h2 : hi ≤ hi') : OwnI w lo' hi' xs us := by
  obtain ⟨F, a1, a2, a3⟩ := h
  exact ⟨F, a1, a2, fun b hb => by have := a3 b hb; omega⟩
theorem OwnI.keep (h : OwnI w lo hi xs us) (hk : ∀ b, lo ≤ b → b < hi → b < w.heap.size → w'.heap[b]? = w.heap[b]?) : OwnI w' lo hi xs us := by
  obtain ⟨F, a1, a2, a3⟩ := h
  exact ⟨F, OwnL.keep _ _ _ a1 fun b hb => hk b (a3 b hb).1 (a3 b hb).2 (OwnL.lt _ _ _ a1 b hb), a2, a3⟩
theorem OwnI.below (h : OwnI w lo hi xs us) (hb : Below C w w') (hC : w.heap.size ≤ C) : OwnI w' lo hi xs us := h.keep fun b _ _ hl => hb.block b (by omega)
theorem OwnI.only {l2 h2 : Nat} (h : OwnI w lo hi xs us) (hb : Only l2 h2 C w w') (hC : w.heap.size ≤ C) (hd : hi ≤ l2 ∨ h2 ≤ lo) : OwnI w' lo hi xs us := h.keep fun b h1 h3 hl => hb.block b (by omega) (by omega)
theorem OwnI.set (h : OwnI w lo hi xs us) {p : Addr} (hp : p.block < lo ∨ hi ≤ p.block) (y : Value) : OwnI (w.setCell p y) lo hi xs us := h.keep fun b h1 h2 _ => Below.heap_setCell _ _ _ _ (by omega)
theorem OwnI.alloc (h : OwnI w lo hi xs us) (o : Obj) : OwnI (w.alloc o) lo hi xs us := h.keep fun b _ _ hl => Below.heap_alloc w o b hl
theorem OwnI.drew (h : OwnI w lo hi xs us) : OwnI w.drew lo hi xs us := h.keep fun _ _ _ _ => rfl
theorem OwnI.vs (h : OwnI w lo hi xs us) : RdVs w w.heap.size xs us := by
  obtain ⟨F, a1, a2, a3⟩ := h
  exact OwnL.vs _ _ _ a1
theorem OwnI.read {e k n : Nat} (h : OwnI w lo hi [.s e k n xs] [u]) : RdC w w.heap.size (.s e k n xs) u := h.vs.2 0 _ _ rfl rfl
/-- An owned slice out of its row and of what its cells own. -/
theorem OwnI.mk {e k n base : Nat} (ho : w.ownsRow base e k u n us) (hl : OwnI w lo' hi' xs us) (hg : ∀ g, u.ownBlock = some g → lo ≤ g ∧ g < hi ∧ (g < lo' ∨ hi' ≤ g)) (h1 : lo ≤ lo') (h2 : hi' ≤ hi) : OwnI w lo hi [.s e k n xs] [u] := by
  obtain ⟨F, a1, a2, a3⟩ := hl
  have hc := OwnC.mk ho a1
  have := OwnL.cons hc (OwnL.nil w)
  rw [List.append_nil] at this
  refine ⟨ownB u ++ F, this, List.nodup_append.2 ⟨?_, a2, fun a ha b hb e => ?_⟩, fun b hb => ?_⟩
  · unfold ownB
    cases u.ownBlock <;> simp
  · have h3 := hg a (mem_ownB.1 ha)
    have h4 := a3 b hb
    omega
  · rcases List.mem_append.1 hb with hb | hb
    · have := hg b (mem_ownB.1 hb); omega
    · have := a3 b hb; omega
theorem OwnI.none (w : World) (lo hi e k : Nat) : OwnI w lo hi [.s e k 0 []] [.slice Option.none 0 0] :=
  OwnI.mk (base := 0) (lo' := lo) (hi' := hi) (World.ownsRow_nil _ _ _ _) (OwnI.nil _ _ _) (fun g hg => by cases hg) (Nat.le_refl _) (Nat.le_refl _)
end
theorem RdVs.uncons {w : World} {B : Nat} {x : Cel} {xs : List Cel} {us : List Value} (h : RdVs w B (x :: xs) us) : ∃ u us', us = u :: us' ∧ RdC w B x u ∧ RdVs w B xs us' := by
  cases us with
  | nil => have := h.1; simp at this
  | cons u us => exact ⟨u, us, rfl, h.2 0 x u rfl rfl, by have := h.1; simpa using this, fun j y z hy hz => h.2 (j + 1) y z (by simpa using hy) (by simpa using hz)⟩
theorem RdVs.unv {w : World} {B : Nat} {x : Value} {xs : List Cel} {us : List Value} (h : RdVs w B (.v x :: xs) us) : ∃ us', us = x :: us' ∧ RdVs w B xs us' := by
  obtain ⟨u, us', rfl, h1, h2⟩ := h.uncons
  obtain rfl := h1.val
  exact ⟨us', rfl, h2⟩
theorem RdVs.uns {w : World} {B e k n : Nat} {ys xs : List Cel} {us : List Value} (h : RdVs w B (.s e k n ys :: xs) us) : ∃ A c us', us = .slice A n c :: us' ∧ RdC w B (.s e k n ys) (.slice A n c) ∧ RdVs w B xs us' := by
  obtain ⟨u, us', rfl, h1, h2⟩ := h.uncons
  obtain ⟨A, c, rfl⟩ := h1.form
  exact ⟨A, c, us', rfl, h1, h2⟩
theorem RdVs.un0 {w : World} {B : Nat} {us : List Value} (h : RdVs w B [] us) : us = [] := List.eq_nil_of_length_eq_zero h.1
theorem RdVs.on {w w' : World} {B C : Nat} {xs : List Cel} {us : List Value} (h : RdVs w B xs us) (hb : Below C w w') (hC : B ≤ C) {B' : Nat} (hB : B ≤ B') : RdVs w' B' xs us := ⟨h.1, fun j x u hx hu => (h.2 j x u hx hu).on hb hC hB⟩
/-- Stores one after another. -/
def sets (vs : List Value) : Nat → List Value → List Value
  | _, [] => vs
  | p, a :: r => sets (vs.set p a) (p + 1) r
theorem sets_app : ∀ (xs us zs : List Value) (p : Nat), us.length = p → xs.length ≤ zs.length → sets (us ++ zs) p xs = us ++ xs ++ zs.drop xs.length
  | [], us, zs, p, h, h' => by simp [sets]
  | a :: r, us, zs, p, h, h' => by
    cases zs with
    | nil => simp at h'
    | cons z zs =>
      have e : (us ++ z :: zs).set p a = (us ++ [a]) ++ zs := by
        rw [List.set_append_right _ _ (by omega), h]
        simp
      unfold sets
      rw [e, sets_app r (us ++ [a]) zs (p + 1) (by simp [h]) (by simpa using h')]
      simp

/-! ### a block that is known whole -/
def Blk (w : World) (g : Nat) (t : TypeId) (cs : Array Value) : Prop := w.heap[g]? = some (.cells cs t (0, 0))
section
variable {w w' : World} {g : Nat} {t : TypeId} {cs : Array Value}
theorem Blk.lt (h : Blk w g t cs) : g < w.heap.size := (Array.getElem?_eq_some_iff.1 h).1
theorem Blk.cell (h : Blk w g t cs) (i : Nat) : w.cell? ⟨g, i, none⟩ = cs[i]? := by unfold Blk at h; simp [World.cell?, h]
theorem Blk.frozen (h : Blk w g t cs) (i : Nat) : w.frozen? ⟨g, i, none⟩ = false := by unfold Blk at h; simp [World.frozen?, h]
theorem Blk.new (w : World) (t : TypeId) (cs : Array Value) : Blk (w.alloc (.cells cs t)) w.heap.size t cs := heap_alloc_new w _
theorem Blk.new' (w : World) (t : TypeId) (cs : Array Value) (g : Nat) (hg : w.heap.size = g) : Blk (w.alloc (.cells cs t)) g t cs := by subst hg; exact Blk.new w t cs
theorem Blk.drew (h : Blk w g t cs) : Blk w.drew g t cs := h
theorem Blk.alloc (h : Blk w g t cs) (o : Obj) : Blk (w.alloc o) g t cs := (Below.heap_alloc w o g h.lt).trans h
theorem Blk.set_ (h : Blk w g t cs) (i : Nat) (u : Value) : Blk (w.setCell ⟨g, i, none⟩ u) g t (cs.setIfInBounds i u) := by
  unfold Blk at h ⊢
  simp [World.setCell, Array.getElem?_modify, h]
theorem Blk.far (h : Blk w g t cs) {p : Addr} (hp : g ≠ p.block) (u : Value) : Blk (w.setCell p u) g t cs := (Below.heap_setCell w p u g hp).trans h
theorem Blk.below {B : Nat} (h : Blk w g t cs) (hb : Below B w w') (hg : w.heap.size ≤ B) : Blk w' g t cs := (hb.block g (by have := h.lt; omega)).trans h
theorem Blk.only {lo hi C : Nat} (h : Blk w g t cs) (hb : Only lo hi C w w') (hC : w.heap.size ≤ C) (hd : g < lo ∨ hi ≤ g) : Blk w' g t cs := (hb.block g (by have := h.lt; omega) hd).trans h
end
/-- A call in a world of which no more is known than C. -/
theorem calls_worldD {P : Program} {f : FuncId} {args : Array Value} {R : Ending → World → Prop} (W : World) (C : World → Prop) (hC : C W) (h : ∀ W', C W' → Calls P f args W' R) : Calls P f args W R := h W hC
end Go.Proofs.YtahgcojmpafefaaGreat
namespace Go.Proofs.YtahgcojmpafefaaGreat
open Go.ChangeShapes Go.WideShapes Go.ChangeAt Go.RowKit Go.Deep Go.Joins
open Go.ChangeMaps (open_string shut_string)
set_option maxRecDepth 100000

theorem mkL_nil (k : Int) : mkL [] k = [] := by unfold mkL; rfl
theorem mkL_v {u : Value} {r : List Cel} {k : Int} (k' : Int) (h : k' = k + 1) : mkL (.v u :: r) k = .v (mkV k u) :: mkL r k' := by
  rw [mkL, mkC, Cel.cnt, h]
  rfl
theorem mkL_s {e m n : Nat} {xs r : List Cel} {k : Int} (k' : Int) (h : k' = k + (cntL xs : Int)) : mkL (.s e m n xs :: r) k = .s e m n (mkL xs k) :: mkL r k' := by
  rw [mkL, mkC, Cel.cnt, h]
/-- The marks of a struct by value: its slices alone are marked. -/
def smk : List Cel → Int → List Cel
  | [], _ => []
  | .v u :: r, k => .v u :: smk r k
  | .s e m n xs :: r, k => .s e m n (mkL xs k) :: smk r (k + (cntL xs : Int))
def scnt : List Cel → Nat
  | [] => 0
  | .v u :: r => scnt r
  | .s e m n xs :: r => cntL xs + scnt r
theorem smk_v {u : Value} {r : List Cel} {k : Int} : smk (.v u :: r) k = .v u :: smk r k := rfl
theorem smk_s {e m n : Nat} {xs r : List Cel} {k : Int} (k' : Int) (h : k' = k + (cntL xs : Int)) : smk (.s e m n xs :: r) k = .s e m n (mkL xs k) :: smk r k' := by rw [h]; rfl
theorem mid_get {D M R : List Cel} {p j : Nat} {y : Cel} (hD : D.length = p) (h : M[j]? = some y) : (D ++ (M ++ R))[p + j]? = some y := by
  have hj : j < M.length := (List.getElem?_eq_some_iff.1 h).1
  rw [List.getElem?_append_right (by omega), hD, Nat.add_sub_cancel_left, List.getElem?_append_left hj, h]
theorem RdC.cells {w : World} {B e k n c : Nat} {A : Option Addr} {xs : List Cel} (h : RdC w B (.s e k n xs) (.slice A n c)) (hn : 0 < n) :
    ∃ b off, A = some ⟨b, off, none⟩ ∧ b < B ∧ ∀ (p : Nat) (y : Cel), xs[p]? = some y → ∃ u, w.cell? ⟨b, off + p, none⟩ = some u ∧ RdC w B y u := by
  unfold RdC at h
  obtain ⟨A', c', hA, _, _, _, h5⟩ := h
  simp only [Value.slice.injEq, true_and] at hA
  obtain ⟨rfl, rfl⟩ := hA
  obtain ⟨b, off, rfl, hb, hl⟩ := h5 hn
  exact ⟨b, off, rfl, hb, fun p y hy => RdL.get _ off p y hl hy⟩
theorem OwnC.head {w : World} {e k n c : Nat} {A : Option Addr} {xs : List Cel} {F : List Nat} (h : OwnC w (.s e k n xs) F (.slice A n c)) (hn : 0 < n) : ∃ g, A = some ⟨g, 0, none⟩ ∧ g ∈ F := by
  unfold OwnC at h
  obtain ⟨us, G, rfl, ho, hl⟩ := h
  rcases ho.2 with ⟨hv, h0⟩ | ⟨g, cap, cur, hv, _⟩
  · omega
  · simp only [Value.slice.injEq, true_and] at hv
    obtain ⟨rfl, rfl⟩ := hv
    exact ⟨g, rfl, List.mem_append_left _ (mem_ownB.2 rfl)⟩
theorem OwnC.row {w : World} {e k n c g : Nat} {xs : List Cel} {F : List Nat} (h : OwnC w (.s e k n xs) F (.slice (some ⟨g, 0, none⟩) n c)) : ∃ f, w.rowIs g e (c * k) f ∧ n ≤ c ∧ xs.length = n * k := by
  unfold OwnC at h
  obtain ⟨us, G, rfl, ho, hl⟩ := h
  have hlen := OwnL.len _ _ _ hl
  rcases own_row ho with ⟨hv, _⟩ | ⟨g1, cap, f, hv, _, hn, _, hrow, _⟩
  · cases hv
  · simp only [Value.slice.injEq, Option.some.injEq, Addr.mk.injEq, true_and, and_true] at hv
    obtain ⟨rfl, rfl⟩ := hv
    exact ⟨f, hrow, hn, by rw [← hlen]; exact ho.1⟩
theorem cell_set_other {w : World} {g p q : Nat} {z a : Value} (hne : p ≠ q) (h : w.cell? ⟨g, q, none⟩ = some a) : (w.setCell ⟨g, p, none⟩ z).cell? ⟨g, q, none⟩ = some a := by
  rw [World.cell?_setCell_other _ _ _ _ (fun e => by injection e with _ e2 _; exact hne e2)]
  exact h
theorem OnlyF.call {F G : List Nat} {a b c : World} (h : OnlyF F a b) (k : OnlyF G b c) (hs : ∀ g, g ∈ G → g ∈ F) : OnlyF F a c := h.trans (k.wide hs)
theorem OnlyF.of_below {F : List Nat} {a b c : World} (h : OnlyF F a b) (k : Below b.heap.size b c) : OnlyF F a c := h.trans (onlyF_below k)
/-- The contract of a marking function, by an interval of blocks. -/
theorem own_interval {w w' : World} {lo hi : Nat} {F : List Nat} {xs : List Cel} {us : List Value} (h2 : F.Nodup) (h3 : ∀ b, b ∈ F → lo ≤ b ∧ b < hi) (ho : OwnL w' xs F us) (hb : OnlyF F w w') : OwnI w' lo hi xs us ∧ Only lo hi w.heap.size w w' :=
  ⟨⟨F, ho, h2, h3⟩, ⟨hb.os, hb.tape, hb.output, hb.size, fun k hk hd => hb.block k hk fun e => by have := h3 k e; omega⟩⟩
theorem OwnL.one {w : World} {x : Cel} {F : List Nat} {u : Value} (h : OwnC w x F u) : OwnL w [x] F [u] := by
  have := OwnL.cons h (OwnL.nil w)
  rwa [List.append_nil] at this
theorem OwnL.unone {w : World} {x : Cel} {F : List Nat} {u : Value} (h : OwnL w [x] F [u]) : OwnC w x F u := by
  obtain ⟨u', us', F1, F2, he, rfl, hx, hr⟩ := h.uncons
  obtain ⟨rfl, rfl⟩ := hr.unnil
  simp only [List.cons.injEq, and_true] at he
  subst he
  simpa using hx
/-- A stretch of owned values: what it owns, and what it means to put other content in its stead. -/
theorem OwnL.sub {w : World} {D M R : List Cel} {F : List Nat} {u1 um u3 : List Value} (h : OwnL w (D ++ (M ++ R)) F (u1 ++ (um ++ u3))) (hF : F.Nodup) (h1 : u1.length = D.length) (h2 : um.length = M.length) :
    ∃ Fm, OwnL w M Fm um ∧ (∀ b, b ∈ Fm → b ∈ F) ∧ Fm.Nodup ∧ ∀ (w' : World) (M' : List Cel), OwnL w' M' Fm um → (∀ b, b ∈ F → b ∉ Fm → w'.heap[b]? = w.heap[b]?) → OwnL w' (D ++ (M' ++ R)) F (u1 ++ (um ++ u3)) := by
  obtain ⟨F1, F2, a1, a2, rfl, he, hD, hMR⟩ := OwnL.split D (M ++ R) F _ h
  obtain ⟨e1, e2⟩ := List.append_inj he (by rw [h1, OwnL.len _ _ _ hD])
  subst e1 e2
  obtain ⟨F3, F4, b1, b2, rfl, he2, hM, hR⟩ := OwnL.split M R F2 _ hMR
  obtain ⟨e3, e4⟩ := List.append_inj he2 (by rw [h2, OwnL.len _ _ _ hM])
  subst e3 e4
  have hd := List.nodup_append.1 hF
  have hd2 := List.nodup_append.1 hd.2.1
  refine ⟨F3, hM, fun b hb => by simp [hb], hd2.1, fun w' M' hM' hk => ?_⟩
  refine OwnL.join _ _ _ _ _ _ (OwnL.keep _ _ _ hD fun b hb => hk b (by simp [hb]) fun hb' => hd.2.2 b hb b (by simp [hb']) rfl) (OwnL.join _ _ _ _ _ _ hM' (OwnL.keep _ _ _ hR fun b hb => hk b (by simp [hb]) fun hb' => hd2.2.2 b hb' b hb rfl))
end Go.Proofs.YtahgcojmpafefaaGreat
namespace Go.Proofs.YtahgcojmpafefaaGreat
open Go.ChangeShapes Go.WideShapes Go.ChangeAt Go.RowKit Go.Deep Go.Joins
open Go.ChangeMaps (open_string shut_string)
set_option maxRecDepth 100000

theorem own_up {w : World} {base lo k n : Nat} {e : TypeId} {u : Value} {us : List Value} (h : w.ownsRow base e k u n us) (hg : ∀ g, u.ownBlock = some g → lo ≤ g) : w.ownsRow lo e k u n us := by
  refine ⟨h.1, ?_⟩
  rcases h.2 with hn | ⟨g, cap, cur, rfl, h1, rest⟩
  · exact .inl hn
  · exact .inr ⟨g, cap, cur, rfl, hg g rfl, rest⟩
/-- The parts of an owned slice. -/
theorem OwnI.row {w : World} {lo hi e k n : Nat} {xs : List Cel} {u : Value} (h : OwnI w lo hi [.s e k n xs] [u]) :
    ∃ us G, w.ownsRow lo e k u n us ∧ OwnL w xs G us ∧ G.Nodup ∧ (∀ b, b ∈ G → lo ≤ b ∧ b < hi) ∧ ∀ g, u.ownBlock = some g → g ∉ G ∧ lo ≤ g ∧ g < hi := by
  obtain ⟨F, a1, a2, a3⟩ := h
  have hc := a1.unone
  unfold OwnC at hc
  obtain ⟨us, G, rfl, ho, hl⟩ := hc
  have hd := List.nodup_append.1 a2
  have hg : ∀ g, u.ownBlock = some g → g ∉ G ∧ lo ≤ g ∧ g < hi := fun g hg => by
    have hm : g ∈ ownB u := mem_ownB.2 hg
    exact ⟨fun hG => hd.2.2 g hm g hG rfl, a3 g (List.mem_append_left _ hm)⟩
  exact ⟨us, G, own_up ho fun g h => (hg g h).2.1, hl, hd.2.1, fun b hb => a3 b (List.mem_append_right _ hb), hg⟩
/-- What append leaves. -/
theorem OwnI.pushed {w w' : World} {lo e k n m : Nat} {xs ys : List Cel} {v v' : Value} {us us2 : List Value} {G G2 : List Nat} (ho : w'.ownsRow lo e k v' (n + m) (us ++ us2)) (hg : w.grownBy w' v.ownBlock)
    (hat : v'.ownBlock = v.ownBlock ∨ v'.ownBlock = some w.heap.size) (hl : OwnL w xs G us) (hl2 : OwnL w ys G2 us2) (hG : G.Nodup) (hG2 : G2.Nodup) (hd : ∀ b, b ∈ G → b ∉ G2) (h1 : ∀ b, b ∈ G → lo ≤ b) (h2 : ∀ b, b ∈ G2 → lo ≤ b)
    (hv : ∀ g, v.ownBlock = some g → g ∉ G ∧ g ∉ G2) : OwnI w' lo w'.heap.size [.s e k (n + m) (xs ++ ys)] [v'] := by
  have hlt : ∀ b, b ∈ G → b < w.heap.size := OwnL.lt _ _ _ hl
  have hlt2 : ∀ b, b ∈ G2 → b < w.heap.size := OwnL.lt _ _ _ hl2
  have k1 : OwnL w' xs G us := OwnL.keep _ _ _ hl fun b hb => hg.block b (hlt b hb) fun e => (hv b e.symm).1 hb
  have k2 : OwnL w' ys G2 us2 := OwnL.keep _ _ _ hl2 fun b hb => hg.block b (hlt2 b hb) fun e => (hv b e.symm).2 hb
  have hc := OwnC.mk ho (OwnL.join _ _ _ _ _ _ k1 k2)
  have hvn : ∀ g, v'.ownBlock = some g → g ∉ G ∧ g ∉ G2 := fun g hg' => by
    rcases hat with e | e
    · exact hv g (by rw [← e]; exact hg')
    · rw [e] at hg'
      have hgs : w.heap.size = g := by simpa using hg'
      exact ⟨fun hb => by have := hlt g hb; omega, fun hb => by have := hlt2 g hb; omega⟩
  refine ⟨_, OwnL.one hc, List.nodup_append.2 ⟨?_, List.nodup_append.2 ⟨hG, hG2, fun a ha b hb he => hd a ha (he ▸ hb)⟩, fun a ha b hb he => ?_⟩, fun b hb => ⟨?_, OwnC.lt _ _ _ hc b hb⟩⟩
  · unfold ownB
    cases v'.ownBlock <;> simp
  · subst he
    have := hvn a (mem_ownB.1 ha)
    rcases List.mem_append.1 hb with hb | hb
    · exact this.1 hb
    · exact this.2 hb
  · rcases List.mem_append.1 hb with hb | hb
    · exact (ho.lt b (mem_ownB.1 hb)).1
    · rcases List.mem_append.1 hb with hb | hb
      · exact h1 b hb
      · exact h2 b hb
/-- Every plain value of the cells takes one cell. -/
theorem OwnL.onecell {w : World} : ∀ (xs : List Cel) (F : List Nat) (us : List Value), OwnL w xs F us → (∀ x, x ∈ xs → ∀ u, x = .v u → u.oneCell' = true) → ∀ u, u ∈ us → u.oneCell' = true
  | [], F, us, h, ho, u, hu => by obtain ⟨_, rfl⟩ := h.unnil; cases hu
  | x :: r, F, us, h, ho, u, hu => by
    obtain ⟨a, us', F1, F2, rfl, rfl, hx, hr⟩ := h.uncons
    rcases List.mem_cons.1 hu with rfl | hu
    · cases x with
      | v y =>
        obtain ⟨_, rfl⟩ := hx.val
        exact ho _ (by simp) _ rfl
      | s e k n ys =>
        obtain ⟨A, c, rfl⟩ := hx.form
        rfl
    · exact OwnL.onecell r F2 us' hr (fun x hx => ho x (by simp [hx])) u hu
/-- An owned struct's cells as an append takes them: in a block of their own. -/
theorem rd_new (w : World) (t : TypeId) (k : Nat) (us : List Value) (h : us.length = k) : Rd (w.alloc (.cells us.toArray t)) (w.heap.size + 1) k (.slice (some ⟨w.heap.size, 0, none⟩) 1 1) 1 us := by
  refine ⟨_, 1, rfl, Nat.le_refl _, by unfold maxLen; omega, by omega, fun _ => ⟨w.heap.size, 0, rfl, by omega, fun j u hu => ?_⟩⟩
  rw [Nat.zero_add, World.cell?_alloc_new]
  simpa using hu
end Go.Proofs.YtahgcojmpafefaaGreat
