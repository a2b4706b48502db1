/-
  Parts of the proof: IpM. Conditions: none.
-/
import Derived.Test.YtdmbhmhfjappcaaGreatDoorQGSeenIfA
namespace Go.Proofs.YtdmbhmhfjappcaaGreatDoor
open Go.ChangeShapes Go.WideShapes Go.ChangeAt Go.RowKit Go.Deep Go.Joins
open Go.WideMaps (keyOf_string_mk)
set_option linter.unusedVariables false
set_option maxRecDepth 100000
/-- Block b is a map from strings to ints, of at most n entries; it holds what f says. -/
def SeenI (w : World) (b n : Nat) (f : List UInt8 → Option Nat) : Prop :=
  ∃ D : DataW Unit, w.ownsMap Tryz.prog 9 (plainElem Tryz.prog 3) b n D ∧ ∀ s : List UInt8, Maps.has D (.string s) = (f s).isSome ∧ ∀ i : Nat, f s = some i → D.atKey (.string s) (.lit (.int .i64 0)) = .lit (.int .i64 i)
section
variable {t : TypeId} {w w' : World} {b n : Nat} {f : List UInt8 → Option Nat}
theorem SeenI.made (w : World) : SeenI (w.alloc (.map #[] 0)) w.heap.size 0 (fun _ => none) := ⟨.map [], World.ownsMap_made _ _ _ _, fun s => ⟨rfl, fun i h => by cases h⟩⟩
theorem SeenI.lt (h : SeenI w b n f) : b < w.heap.size := by obtain ⟨D, h1, _⟩ := h; exact h1.lt
theorem SeenI.block (h : SeenI w b n f) (hb : w'.heap[b]? = w.heap[b]?) : SeenI w' b n f := by
  obtain ⟨D, ⟨es, clock, h1, h3⟩, h2⟩ := h
  exact ⟨D, ⟨es, clock, hb.trans h1, h3⟩, h2⟩
theorem SeenI.below {C : Nat} (h : SeenI w b n f) (hb : Below C w w') (hC : w.heap.size ≤ C) : SeenI w' b n f := h.block (hb.block b (by have := h.lt; omega))
theorem SeenI.alloc (h : SeenI w b n f) (o : Obj) : SeenI (w.alloc o) b n f := h.block (Below.heap_alloc w o b h.lt)
theorem SeenI.kept {row : Option Nat} (h : SeenI w b n f) (hg : w.grownBy w' row) (hne : some b ≠ row) : SeenI w' b n f := by
  obtain ⟨D, h1, h2⟩ := h
  exact ⟨D, h1.kept hg hne, h2⟩
theorem SeenI.to (h : SeenI w b n f) {g : List UInt8 → Option Nat} (e : ∀ s, f s = g s) : SeenI w b n g := by
  obtain ⟨D, h1, h2⟩ := h
  exact ⟨D, h1, fun s => by rw [← e s]; exact h2 s⟩
theorem SeenI.look (h : SeenI w b n f) (ht : Tryz.prog.underlying t = some (.map 9 3)) (s : ByteArray) (hs : s.size ≤ maxLen) :
    ∃ v, (Instr.lookup t (.map (some b)) (.string s) true).run Tryz.prog w = .ok (.tuple #[v, .bool (f s.toList).isSome]) w ∧ ∀ i : Nat, f s.toList = some i → v = .int .i64 i := by
  obtain ⟨D, h1, h2⟩ := h
  obtain ⟨v, ps, hrun, hv⟩ := h1.look_ok (Maps.string_keyed Tryz.underlying9) ht (show (zeroValue 3).run Tryz.prog w = .ok (.int .i64 0) w by kernel_rfl) (plainElem_int Tryz.underlying3 (by decide)) (keyOf_string_mk Tryz.underlying9 hs)
  obtain ⟨e1, e2⟩ := h2 s.data.toList
  rw [e1, ← ByteArray.toList_eq] at hrun
  refine ⟨v, hrun, fun i hi => ?_⟩
  rw [ByteArray.toList_eq] at hi
  rw [e2 i hi] at hv
  obtain ⟨c, rfl, hc, _⟩ := plainElem_int_inv Tryz.underlying3 hv
  simp only [Prod.mk.injEq, DataW.lit.injEq, Lit.int.injEq, true_and] at hc
  rw [← hc.1]
theorem SeenI.put (h : SeenI w b n f) (ht : Tryz.prog.underlying t = some (.map 9 3)) (hn : n < maxLen) (s : ByteArray) (hs : s.size ≤ maxLen) (i : Nat) (hi : i ≤ 9223372036854775807) :
    ∃ w', (Instr.mapUpdate t (.map (some b)) (.string s) (.int .i64 i)).run Tryz.prog w = .ok () w' ∧ SeenI w' b (n + 1) (fun x => if x = s.toList then some i else f x) ∧ w.grownBy w' (some b) := by
  obtain ⟨D, h1, h2⟩ := h
  have hw : (Lit.int .i64 (i : Int)).wf = true := by
    have e1 : IntKind.i64.min = -9223372036854775808 := rfl
    have e2 : IntKind.i64.max = 9223372036854775807 := rfl
    simp [Lit.wf, e1, e2]
    omega
  have hkey := keyOf_string_mk Tryz.underlying9 hs
  obtain ⟨w', hrun, h3, h4⟩ := h1.update (Maps.string_keyed Tryz.underlying9) ht hn hkey (plainElem_int Tryz.underlying3 hw)
  refine ⟨w', hrun, ⟨_, h3, fun x => ?_⟩, h4⟩
  by_cases hx : x = s.toList
  · dsimp only
    rw [if_pos hx]
    have hx2 : x = s.data.toList := by rw [hx, ByteArray.toList_eq]
    subst hx2
    refine ⟨Maps.has_put_same h1.isMap ((Maps.string_keyed Tryz.underlying9).key hkey) _, fun j hj => ?_⟩
    injection hj with hj
    subst hj
    exact Maps.atKey_put_same h1.isMap ((Maps.string_keyed Tryz.underlying9).key hkey) _ _
  · dsimp only
    rw [if_neg hx]
    have hx2 : (Lit.string x) ≠ Lit.string s.data.toList := by intro e; injection e with e; exact hx (by rw [e, ByteArray.toList_eq])
    obtain ⟨e1, e2⟩ := h2 x
    exact ⟨(Maps.has_put_other hx2 _).trans e1, fun j hj => (Maps.atKey_put_other hx2 _ _).trans (e2 j hj)⟩
end
theorem wpList_look_int {w : World} {ops : Array Oper} {rest : List Oper} {o : Oper} {a : Act} {Q : Exit → Act → World → Prop}
    (hg : Region.wanted o (yielded ops a.tmps) = true) (m x : Operand) (t : TypeId) (hop : o.op = Op.lookup t m x true) (ht : Tryz.prog.underlying t = some (.map 9 3))
    (b n : Nat) (f : List UInt8 → Option Nat) (hm : a.eval m = .map (some b)) (hown : SeenI w b n f) (s : ByteArray) (hs : s.size ≤ maxLen) (hx : a.eval x = .string s)
    (hK : ∀ v, (∀ i : Nat, f s.toList = some i → v = .int .i64 i) → wpList Tryz.prog ops Q rest (a.put o.dst (.tuple #[v, .bool (f s.toList).isSome])) w) : wpList Tryz.prog ops Q (o :: rest) a w := by
  refine wpList_step fun K' hK' => ?_
  rw [if_pos hg]
  obtain ⟨v, hrun, hv⟩ := hown.look ht s hs
  unfold Oper.wp
  simp [execOp, hop, hm, hx, hrun, Result.andThen]
  exact hK' _ _ (hK v hv)
theorem wpList_put_int {w : World} {ops : Array Oper} {rest : List Oper} {o : Oper} {a : Act} {Q : Exit → Act → World → Prop}
    (hg : o.guard = none) (m x v : Operand) (t : TypeId) (hop : o.op = Op.mapUpdate t m x v) (ht : Tryz.prog.underlying t = some (.map 9 3))
    (b n : Nat) (f : List UInt8 → Option Nat) (hm : a.eval m = .map (some b)) (hown : SeenI w b n f) (hn : n < maxLen) (s : ByteArray) (hs : s.size ≤ maxLen) (i : Nat) (hi : i ≤ 9223372036854775807) (hx : a.eval x = .string s) (hv : a.eval v = .int .i64 i)
    (hK : ∀ w', SeenI w' b (n + 1) (fun x => if x = s.toList then some i else f x) → w.grownBy w' (some b) → wpList Tryz.prog ops Q rest (a.put o.dst undef) w') : wpList Tryz.prog ops Q (o :: rest) a w := by
  refine wpList_plain hg fun K' hK' => ?_
  obtain ⟨w', hrun, r1, r2⟩ := hown.put ht hn s hs i hi
  unfold Oper.wp
  simp [execOp, hop, hm, hx, hv, hrun, Result.andThen]
  exact hK' _ _ (hK w' r1 r2)
end Go.Proofs.YtdmbhmhfjappcaaGreatDoor
