/-
  A set of strings kept in a map from strings to bools that the call made: asking it and adding to it. Conditions: none.
-/
import Derived.Test.YtgbeenieacnanaaDoorBase
import Derived.Maps.OwnSet
namespace Go.Proofs.YtgbeenieacnanaaDoor
open Go.ChangeShapes Go.WideShapes Go.ChangeAt Go.RowKit Go.Deep Go.Joins
open Go.ChangeMaps (open_string shut_string)
open Go.WideMaps (keyOf_string_mk)
set_option linter.unusedVariables false
set_option maxRecDepth 100000

def hasS (S : List (List UInt8)) (s : List UInt8) : Bool := S.contains s
theorem hasS_cons (S : List (List UInt8)) (x s : List UInt8) : hasS (x :: S) s = (s == x || hasS S s) := by unfold hasS; rw [List.contains_cons]
/-- Block b is a map from strings to bools, of at most n entries; true at the strings of S. -/
def Seen (P : Program) (ks eb : TypeId) (w : World) (b n : Nat) (S : List (List UInt8)) : Prop :=
  ∃ D : DataW Unit, w.ownsMap P ks (plainElem P eb) b n D ∧ ∀ s : List UInt8, D.atKey (.string s) (.lit (.bool false)) = .lit (.bool (hasS S s))
section
variable {P : Program} {ks eb t : TypeId} {w w' : World} {b n : Nat} {S : List (List UInt8)}
theorem Seen.made (w : World) : Seen P ks eb (w.alloc (.map #[] 0)) w.heap.size 0 [] := ⟨.map [], World.ownsMap_made _ _ _ _, fun s => rfl⟩
theorem Seen.lt (h : Seen P ks eb w b n S) : b < w.heap.size := by obtain ⟨D, h1, _⟩ := h; exact h1.lt
theorem Seen.kept {row : Option Nat} (h : Seen P ks eb w b n S) (hg : w.grownBy w' row) (hne : some b ≠ row) : Seen P ks eb w' b n S := by
  obtain ⟨D, h1, h2⟩ := h
  exact ⟨D, h1.kept hg hne, h2⟩
theorem Seen.block (h : Seen P ks eb w b n S) (hb : w'.heap[b]? = w.heap[b]?) : Seen P ks eb w' b n S := by
  obtain ⟨D, ⟨es, clock, h1, h3⟩, h2⟩ := h
  exact ⟨D, ⟨es, clock, hb.trans h1, h3⟩, h2⟩
theorem Seen.below {C : Nat} (h : Seen P ks eb w b n S) (hb : Below C w w') (hC : w.heap.size ≤ C) : Seen P ks eb w' b n S := h.block (hb.block b (by have := h.lt; omega))
theorem Seen.alloc (h : Seen P ks eb w b n S) (o : Obj) : Seen P ks eb (w.alloc o) b n S := h.block (Below.heap_alloc w o b h.lt)
theorem Seen.set (h : Seen P ks eb w b n S) {p : Addr} (hne : b ≠ p.block) (u : Value) : Seen P ks eb (w.setCell p u) b n S := h.block (Below.heap_setCell w p u b hne)
theorem Seen.drew (h : Seen P ks eb w b n S) : Seen P ks eb w.drew b n S := h
theorem Seen.look (h : Seen P ks eb w b n S) (hks : P.underlying ks = some .string) (heb : P.underlying eb = some .bool) (hz : ∀ W : World, (zeroValue eb).run P W = .ok (.bool false) W) (ht : P.underlying t = some (.map ks eb))
    (s : ByteArray) (hs : s.size ≤ maxLen) : (Instr.lookup t (.map (some b)) (.string s) false).run P w = .ok (.bool (hasS S s.toList)) w := by
  obtain ⟨D, h1, h2⟩ := h
  obtain ⟨v, ps, hrun, hv⟩ := h1.lookup (Maps.string_keyed hks) ht (hz w) (plainElem_bool heb false) (keyOf_string_mk hks hs)
  rw [h2 s.data.toList, ← ByteArray.toList_eq] at hv
  rw [hrun]
  unfold plainElem at hv
  rw [heb] at hv
  cases v <;> simp at hv
  rw [hv.1]
theorem Seen.put (h : Seen P ks eb w b n S) (hks : P.underlying ks = some .string) (heb : P.underlying eb = some .bool) (ht : P.underlying t = some (.map ks eb)) (hn : n < maxLen)
    (s : ByteArray) (hs : s.size ≤ maxLen) : ∃ w', (Instr.mapUpdate t (.map (some b)) (.string s) (.bool true)).run P w = .ok () w' ∧ Seen P ks eb w' b (n + 1) (s.toList :: S) ∧ w.grownBy w' (some b) := by
  obtain ⟨D, h1, h2⟩ := h
  have hkey := keyOf_string_mk hks hs
  obtain ⟨w', hrun, h3, h4⟩ := h1.update (Maps.string_keyed hks) ht hn hkey (plainElem_bool heb true)
  refine ⟨w', hrun, ⟨_, h3, fun x => ?_⟩, h4⟩
  by_cases hx : x = s.data.toList
  · subst hx
    rw [Maps.atKey_put_same h1.isMap ((Maps.string_keyed hks).key hkey), ← ByteArray.toList_eq]
    rw [hasS_cons]; simp
  · rw [Maps.atKey_put_other (by intro e; injection e with e; exact hx e), h2, hasS_cons, ByteArray.toList_eq]
    have : (x == s.data.toList) = false := by rw [beq_eq_false_iff_ne]; exact hx
    rw [this, Bool.false_or]
end
/-- m[k] at such a map, at the operation. -/
theorem wpList_look_seen {P : Program} (w : World) {ops : Array Oper} {rest : List Oper} {o : Oper} {a : Act} {Q : Exit → Act → World → Prop}
    (hg : o.guard = none) (m x : Operand) (t : TypeId) (hop : o.op = Op.lookup t m x false)
    (ks eb : TypeId) (hks : P.underlying ks = some .string) (heb : P.underlying eb = some .bool) (hz : ∀ W : World, (zeroValue eb).run P W = .ok (.bool false) W) (ht : P.underlying t = some (.map ks eb))
    (b n : Nat) (S : List (List UInt8)) (hm : a.eval m = .map (some b)) (hown : Seen P ks eb w b n S) (s : ByteArray) (hs : s.size ≤ maxLen) (hx : a.eval x = .string s)
    (hK : wpList P ops Q rest (a.put o.dst (.bool (hasS S s.toList))) w) : wpList P ops Q (o :: rest) a w := by
  refine wpList_plain hg fun K' hK' => ?_
  have hrun := hown.look hks heb hz ht s hs
  unfold Oper.wp
  simp [execOp, hop, hm, hx, hrun, Result.andThen]
  exact hK' _ _ hK
/-- m[k] = true at such a map, at the operation. -/
theorem wpList_put_seen {P : Program} (w : World) {ops : Array Oper} {rest : List Oper} {o : Oper} {a : Act} {Q : Exit → Act → World → Prop}
    (hg : o.guard = none) (m x v : Operand) (t : TypeId) (hop : o.op = Op.mapUpdate t m x v)
    (ks eb : TypeId) (hks : P.underlying ks = some .string) (heb : P.underlying eb = some .bool) (ht : P.underlying t = some (.map ks eb))
    (b n : Nat) (S : List (List UInt8)) (hm : a.eval m = .map (some b)) (hown : Seen P ks eb w b n S) (hn : n < maxLen) (s : ByteArray) (hs : s.size ≤ maxLen) (hx : a.eval x = .string s) (hv : a.eval v = .bool true)
    (hK : ∀ w', Seen P ks eb w' b (n + 1) (s.toList :: S) → w.grownBy w' (some b) → wpList P ops Q rest (a.put o.dst undef) w') : wpList P ops Q (o :: rest) a w := by
  refine wpList_plain hg fun K' hK' => ?_
  obtain ⟨w', hrun, r1, r2⟩ := hown.put hks heb ht hn s hs
  unfold Oper.wp
  simp [execOp, hop, hm, hx, hv, hrun, Result.andThen]
  exact hK' _ _ (hK w' r1 r2)
theorem wpList_look_seen_g {P : Program} (w : World) {ops : Array Oper} {rest : List Oper} {o : Oper} {a : Act} {Q : Exit → Act → World → Prop}
    (hg : Region.wanted o (yielded ops a.tmps) = true) (m x : Operand) (t : TypeId) (hop : o.op = Op.lookup t m x false)
    (ks eb : TypeId) (hks : P.underlying ks = some .string) (heb : P.underlying eb = some .bool) (hz : ∀ W : World, (zeroValue eb).run P W = .ok (.bool false) W) (ht : P.underlying t = some (.map ks eb))
    (b n : Nat) (S : List (List UInt8)) (hm : a.eval m = .map (some b)) (hown : Seen P ks eb w b n S) (s : ByteArray) (hs : s.size ≤ maxLen) (hx : a.eval x = .string s)
    (hK : wpList P ops Q rest (a.put o.dst (.bool (hasS S s.toList))) w) : wpList P ops Q (o :: rest) a w := by
  refine wpList_step fun K' hK' => ?_
  rw [if_pos hg]
  have hrun := hown.look hks heb hz ht s hs
  unfold Oper.wp
  simp [execOp, hop, hm, hx, hrun, Result.andThen]
  exact hK' _ _ hK
end Go.Proofs.YtgbeenieacnanaaDoor
