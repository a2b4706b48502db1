/-
  Parts of the proof: IvM. Conditions: none.
-/
import Derived.Test.YtdmbhmhfjappcaaGreatDoorQGPsPIvP
import Derived.Maps.OwnSet
import Derived.Maps.Keyed
import Derived.DeepKeys4
namespace Go.Proofs.YtdmbhmhfjappcaaGreatDoor
open Go.ChangeShapes Go.WideShapes Go.ChangeAt Go.RowKit Go.Deep Go.Joins
set_option linter.unusedVariables false
set_option maxRecDepth 100000
def kv (a : FKey) : Value := .agg #[.bool a.a0, .int .i64 a.a1, .string a.a2]
theorem kv_inj {a b : FKey} (h : kv a = kv b) : a = b := by
  obtain ⟨a0, a1, a2⟩ := a
  obtain ⟨b0, b1, b2⟩ := b
  unfold kv at h
  simp at h
  obtain ⟨rfl, rfl, rfl⟩ := h
  rfl
theorem key_keyed : Maps.Keyed Tryz.prog 104 := Maps.Keyed.of_law (deep_law_laid laidOut (m := 3) (by omega) (of_decide_eq_true (by kernel_rfl)) (by kernel_rfl) (by rw [Tryz.underlying104]))
/-- A key within bounds is a key of a map. -/
theorem key_lit (a : FKey) (h1 : -9223372036854775808 ≤ a.a1) (h2 : a.a1 ≤ 9223372036854775807) (h3 : a.a2.size ≤ 9223372036854775807) : ∃ lt, keyOf Tryz.prog 104 (kv a) = some lt := by
  obtain ⟨a0, a1, a2⟩ := a
  obtain ⟨m, hm⟩ : ∃ m, Tryz.prog.types.size = m + 1 := ⟨Tryz.prog.types.size - 1, by have : 1 ≤ Tryz.prog.types.size := of_decide_eq_true (by kernel_rfl); omega⟩
  have hw : (Lit.int .i64 a1).wf = true := by
    have e1 : IntKind.i64.min = -9223372036854775808 := rfl
    have e2 : IntKind.i64.max = 9223372036854775807 := rfl
    simp [Lit.wf, e1, e2]
    exact ⟨h1, h2⟩
  have hs : a2.size ≤ maxLen := by unfold maxLen; exact h3
  have hf : (kv ⟨a0, a1, a2⟩).formed Tryz.prog 104 = true := by
    have hc : Tryz.prog.cellsOf 104 = 3 := by kernel_rfl
    simp [Value.formed, kv, Tryz.underlying104, hc]
  have hk : Tryz.prog.keyType 104 = true := by kernel_rfl
  refine ⟨.string (keyBytes [.bool a0, .int .i64 a1, .string a2.data.toList]), ?_⟩
  unfold keyOf
  rw [Tryz.underlying104]
  simp only [hk, hf, Bool.and_self, if_true]
  have hc : Tryz.prog.cellsOf 104 = 3 := by kernel_rfl
  have c1 : Tryz.prog.cellsOf 4 = 1 := by kernel_rfl
  have c2 : Tryz.prog.cellsOf 3 = 1 := by kernel_rfl
  have c3 : Tryz.prog.cellsOf 9 = 1 := by kernel_rfl
  have hl : Tryz.prog.keyLits (Tryz.prog.types.size + 1) 104 (kv ⟨a0, a1, a2⟩).cells.toList = some [.bool a0, .int .i64 a1, .string a2.data.toList] := by
    rw [hm]
    unfold Program.keyLits
    simp [Tryz.underlying104, kv, Value.cells, hc, c1, c2, c3, Program.keyLits, Tryz.underlying4, Tryz.underlying3, Tryz.underlying9, hw, hs]
  rw [hl]
  rfl
/-- Block b is a map from keys to bools, of at most n entries; true at the keys of S. -/
def SeenK (w : World) (b n : Nat) (S : List FKey) : Prop :=
  ∃ D : DataW Unit, w.ownsMap Tryz.prog 104 (plainElem Tryz.prog 4) b n D ∧ ∀ (a : FKey) lt, keyOf Tryz.prog 104 (kv a) = some lt → D.atKey lt (.lit (.bool false)) = .lit (.bool (memK S a))
section
variable {t : TypeId} {w w' : World} {b n : Nat} {S : List FKey}
theorem SeenK.made (w : World) : SeenK (w.alloc (.map #[] 0)) w.heap.size 0 [] := ⟨.map [], World.ownsMap_made _ _ _ _, fun a lt _ => rfl⟩
theorem SeenK.lt (h : SeenK w b n S) : b < w.heap.size := by obtain ⟨D, h1, _⟩ := h; exact h1.lt
theorem SeenK.block (h : SeenK w b n S) (hb : w'.heap[b]? = w.heap[b]?) : SeenK w' b n S := by
  obtain ⟨D, ⟨es, clock, h1, h3⟩, h2⟩ := h
  exact ⟨D, ⟨es, clock, hb.trans h1, h3⟩, h2⟩
theorem SeenK.below {C : Nat} (h : SeenK w b n S) (hb : Below C w w') (hC : w.heap.size ≤ C) : SeenK w' b n S := h.block (hb.block b (by have := h.lt; omega))
theorem SeenK.alloc (h : SeenK w b n S) (o : Obj) : SeenK (w.alloc o) b n S := h.block (Below.heap_alloc w o b h.lt)
theorem SeenK.set (h : SeenK w b n S) {p : Addr} (hne : b ≠ p.block) (u : Value) : SeenK (w.setCell p u) b n S := h.block (Below.heap_setCell w p u b hne)
theorem SeenK.look (h : SeenK w b n S) (ht : Tryz.prog.underlying t = some (.map 104 4)) (a : FKey) (ha : ∃ lt, keyOf Tryz.prog 104 (kv a) = some lt) : (Instr.lookup t (.map (some b)) (kv a) false).run Tryz.prog w = .ok (.bool (memK S a)) w := by
  obtain ⟨D, h1, h2⟩ := h
  obtain ⟨lt, hlt⟩ := ha
  obtain ⟨v, ps, hrun, hv⟩ := h1.lookup key_keyed ht (by kernel_rfl) (plainElem_bool Tryz.underlying4 false) hlt
  rw [h2 a lt hlt] at hv
  rw [hrun]
  unfold plainElem at hv
  rw [Tryz.underlying4] at hv
  cases v <;> simp at hv
  rw [hv.1]
theorem SeenK.put (h : SeenK w b n S) (ht : Tryz.prog.underlying t = some (.map 104 4)) (hn : n < maxLen) (a : FKey) (ha : ∃ lt, keyOf Tryz.prog 104 (kv a) = some lt) :
    ∃ w', (Instr.mapUpdate t (.map (some b)) (kv a) (.bool true)).run Tryz.prog w = .ok () w' ∧ SeenK w' b (n + 1) (a :: S) ∧ w.grownBy w' (some b) := by
  obtain ⟨D, h1, h2⟩ := h
  obtain ⟨lt, hlt⟩ := ha
  obtain ⟨w', hrun, h3, h4⟩ := h1.update key_keyed ht hn hlt (plainElem_bool Tryz.underlying4 true)
  refine ⟨w', hrun, ⟨_, h3, fun x lx hx => ?_⟩, h4⟩
  by_cases he : lx = lt
  · subst he
    have hxa : x = a := kv_inj (key_keyed.inj hx hlt)
    subst hxa
    rw [Maps.atKey_put_same h1.isMap (key_keyed.key hlt), memK_cons, kEq_iff.2 rfl]
    rfl
  · have hne : kEq a x = false := by
      cases e : kEq a x with
      | false => rfl
      | true =>
        rw [kEq_iff] at e
        subst e
        rw [hlt] at hx
        injection hx with hx
        exact absurd hx.symm he
    rw [Maps.atKey_put_other (fun e => he e), h2 x lx hx, memK_cons, hne, Bool.false_or]
end
theorem wpList_look_key {w : World} {ops : Array Oper} {rest : List Oper} {o : Oper} {a : Act} {Q : Exit → Act → World → Prop}
    (hg : Region.wanted o (yielded ops a.tmps) = true) (m x : Operand) (t : TypeId) (hop : o.op = Op.lookup t m x false) (ht : Tryz.prog.underlying t = some (.map 104 4))
    (b n : Nat) (S : List FKey) (hm : a.eval m = .map (some b)) (hown : SeenK w b n S) (k : FKey) (hk : ∃ lt, keyOf Tryz.prog 104 (kv k) = some lt) (hx : a.eval x = kv k)
    (hK : wpList Tryz.prog ops Q rest (a.put o.dst (.bool (memK S k))) w) : wpList Tryz.prog ops Q (o :: rest) a w := by
  refine wpList_step fun K' hK' => ?_
  rw [if_pos hg]
  have hrun := hown.look ht k hk
  unfold Oper.wp
  simp [execOp, hop, hm, hx, hrun, Result.andThen]
  exact hK' _ _ hK
theorem wpList_put_key {w : World} {ops : Array Oper} {rest : List Oper} {o : Oper} {a : Act} {Q : Exit → Act → World → Prop}
    (hg : o.guard = none) (m x v : Operand) (t : TypeId) (hop : o.op = Op.mapUpdate t m x v) (ht : Tryz.prog.underlying t = some (.map 104 4))
    (b n : Nat) (S : List FKey) (hm : a.eval m = .map (some b)) (hown : SeenK w b n S) (hn : n < maxLen) (k : FKey) (hk : ∃ lt, keyOf Tryz.prog 104 (kv k) = some lt) (hx : a.eval x = kv k) (hv : a.eval v = .bool true)
    (hK : ∀ w', SeenK w' b (n + 1) (k :: S) → w.grownBy w' (some b) → wpList Tryz.prog ops Q rest (a.put o.dst undef) w') : wpList Tryz.prog ops Q (o :: rest) a w := by
  refine wpList_plain hg fun K' hK' => ?_
  obtain ⟨w', hrun, r1, r2⟩ := hown.put ht hn k hk
  unfold Oper.wp
  simp [execOp, hop, hm, hx, hv, hrun, Result.andThen]
  exact hK' _ _ (hK w' r1 r2)
theorem size_alK (w : World) (o : Obj) : (w.alloc o).heap.size = w.heap.size + 1 := by simp
theorem blk_grownK {w w' : World} {g : Nat} {t : TypeId} {cs : Array Value} {row : Option Nat} (h : Blk w g t cs) (hb : w.grownBy w' row) (hg : some g ≠ row) : Blk w' g t cs := (hb.block g h.lt hg).trans h
theorem below_grownK {lo : Nat} {w w2 w' : World} {row : Option Nat} (h : Below lo w w2) (hb : w2.grownBy w' row) (hr : ∀ g, row = some g → lo ≤ g) (hl : lo ≤ w2.heap.size) : Below lo w w' :=
  h.trans ⟨hb.os, hb.tape, hb.output, hb.size, fun i hi => hb.block i (by omega) fun e => by have := hr i e.symm; omega⟩
theorem keyF_lit {a : FKey} (h : keyF a = true) : ∃ lt, keyOf Tryz.prog 104 (kv a) = some lt := by
  unfold keyF at h
  split at h
  · simp only [Bool.and_eq_true, beq_iff_eq, decide_eq_true_eq] at h
    exact key_lit a (by omega) (by omega) (by omega)
  · simp only [Bool.and_eq_true] at h
    have h2 := inB_iff.1 h.2
    have h3 : a.a2.size = 0 := by
      have e := h.1
      unfold emS at e
      rw [List.isEmpty_iff] at e
      rw [← size_toList, e]; rfl
    exact key_lit a (by omega) (by omega) (by omega)
end Go.Proofs.YtdmbhmhfjappcaaGreatDoor
