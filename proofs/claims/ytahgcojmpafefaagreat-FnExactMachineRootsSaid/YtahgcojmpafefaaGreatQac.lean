/-
  Parts of the proof: Bk. Conditions: none.
-/
import Derived.Test.YtahgcojmpafefaaGreatQaa
import Derived.Deep.MidRow
import Derived.StillTailTactics
set_option linter.unusedVariables false
set_option linter.unusedSimpArgs false
namespace Go.Proofs.YtahgcojmpafefaaGreat
open Go.ChangeShapes Go.WideShapes Go.ChangeAt Go.RowKit Go.Deep Go.Joins
theorem Blk.range {w : World} {g : Nat} {t : TypeId} {cs : Array Value} (h : Blk w g t cs) (o : Nat) (vs : List Value) (hv : (cs.toList.drop o).take vs.length = vs) : w.rangeAt g o vs := fun j v hj => by
  rw [h.cell, ← Array.getElem?_toList, ← hj]
  have hl : j < vs.length := (List.getElem?_eq_some_iff.1 hj).1
  conv => rhs; rw [← hv]
  rw [List.getElem?_take, if_pos hl, List.getElem?_drop]
theorem Blk.there {w : World} {g : Nat} {t : TypeId} {cs : Array Value} (h : Blk w g t cs) (o n : Nat) (hn : o + n ≤ cs.size) : w.there g o n := fun j hj => ⟨by rw [h.cell]; simp [show o + j < cs.size by omega], h.frozen _⟩
/-- A list put into an array from place o on. -/
def vsSet (cs : Array Value) : Nat → List Value → Array Value
  | _, [] => cs
  | o, v :: r => vsSet (cs.setIfInBounds o v) (o + 1) r
theorem Blk.setCells {g : Nat} {t : TypeId} : ∀ (vs : List Value) (o : Nat) {w : World} {cs : Array Value}, Blk w g t cs → Blk (w.setCells g o vs) g t (vsSet cs o vs)
  | [], _, _, _, h => h
  | v :: r, o, _, _, h => Blk.setCells r (o + 1) (h.set_ o v)
theorem vsSet_list : ∀ (vs pre mid post : List Value), mid.length = vs.length → vsSet (pre ++ (mid ++ post)).toArray pre.length vs = (pre ++ (vs ++ post)).toArray
  | [], pre, mid, post, h => by
    obtain rfl := List.eq_nil_of_length_eq_zero h
    rfl
  | v :: r, pre, [], post, h => by simp at h
  | v :: r, pre, m :: ms, post, h => by
    have ih := vsSet_list r (pre ++ [v]) ms post (by simpa using h)
    have e : (pre ++ ((m :: ms) ++ post)).toArray.setIfInBounds pre.length v = ((pre ++ [v]) ++ (ms ++ post)).toArray := by
      simp
    unfold vsSet
    rw [e, show pre.length + 1 = (pre ++ [v]).length from by simp, ih]
    simp
/-- A part of a block is stored anew. -/
theorem Blk.put {w : World} {g : Nat} {t : TypeId} (pre mid post vs : List Value) (h : Blk w g t (pre ++ (mid ++ post)).toArray) (hl : mid.length = vs.length) : Blk (w.setCells g pre.length vs) g t (pre ++ (vs ++ post)).toArray := by
  rw [← vsSet_list vs pre mid post hl]
  exact Blk.setCells vs pre.length h
theorem grown_setCells (g : Nat) : ∀ (vs : List Value) (o : Nat) (w : World), w.grownBy (w.setCells g o vs) (some g)
  | [], _, w => ⟨rfl, rfl, rfl, Nat.le_refl _, fun _ _ _ => rfl⟩
  | v :: r, o, w => by
    have ih := grown_setCells g r (o + 1) (w.setCell ⟨g, o, none⟩ v)
    have hs : (w.setCell ⟨g, o, none⟩ v).heap.size = w.heap.size := by simp
    refine ⟨ih.os.trans rfl, ih.tape.trans rfl, ih.output.trans rfl, by have := ih.size; rw [hs] at this; exact this, fun k hk hne => (ih.block k (by rw [hs]; exact hk) hne).trans (Below.heap_setCell w _ v k fun e => hne (by rw [e]))⟩
section
variable {P : Program} {ops : Array Oper} {rest : List Oper} {op : Oper} {a : Act} {w : World} {Q : Exit → Act → World → Prop}
theorem wpList_load_blk (ty : TypeId) (x : Operand) (g o : Nat) (t : TypeId) (cs : Array Value) (vs : List Value) (d : TypeDesc) (hb : Blk w g t cs) (ho : op.op = .load ty x) (hx : a.eval x = .pointer (some ⟨g, o, none⟩))
    (hv : (cs.toList.drop o).take vs.length = vs) (hu : P.underlying ty = some d) (hd : d.isRow = true) (hi : (P.info? ty).map (·.size) = some vs.length) (hgd : op.guard = none)
    (h : wpList P ops Q rest (a.put op.dst (.agg vs.toArray)) w) : wpList P ops Q (op :: rest) a w :=
  wpList_load_mid hgd ty x ho g o hx vs d (hb.range o vs hv) hu hd hi h
theorem wpList_store_blk (ty : TypeId) (x y : Operand) (g : Nat) (t : TypeId) (pre mid post vs : List Value) (hb : Blk w g t (pre ++ (mid ++ post)).toArray) (ho : op.op = .store ty x y) (hx : a.eval x = .pointer (some ⟨g, pre.length, none⟩)) (hy : a.eval y = .agg vs.toArray)
    (hl : mid.length = vs.length) (hi : (P.info? ty).map (·.size) = some vs.length) (h1 : ∀ v ∈ vs, v.oneCell' = true) (hgd : op.guard = none)
    (hK : ∀ w', Blk w' g t (pre ++ (vs ++ post)).toArray → w.grownBy w' (some g) → wpList P ops Q rest (a.put op.dst undef) w') : wpList P ops Q (op :: rest) a w := by
  refine wpList_store_mid hgd ty x y ho g pre.length vs.toArray hx hy (hb.there pre.length _ (by simp; omega)) (by simpa using hi) (all_oneCell_toArray h1) ?_
  exact hK _ (Blk.put pre mid post vs hb hl) (grown_setCells g _ _ w)
end
/-- The value of a variable that is a whole block. -/
theorem Blk.value {P : Program} {w : World} {g : Nat} {t : TypeId} {vs : List Value} (h : Blk w g t vs.toArray) (ty : TypeId) (d : TypeDesc) (hu : P.underlying ty = some d) (hd : d.isRow = true) (hi : (P.info? ty).map (·.size) = some vs.length) :
    (loadVar ty ⟨g, 0, none⟩).run P w = .ok (.agg vs.toArray) w :=
  run_loadVar_mid w g 0 ty vs d (h.range 0 vs (by simp)) hu hd hi
/-- The one result, out of its cell. -/
theorem results_cell_one {fn : Func} {p : Tmp} {ty : TypeId} (h : fn.results = #[.cell p ty]) (tmps : Array Value) (P : Program) (w : World) :
    (results fn tmps).run P w = ((asAddr (tmps.getD p undef)).run P w).andThen fun a w₁ => (loadVar ty a).run P w₁ := by
  simp only [results, h]
  cases hq : (asAddr (tmps.getD p undef)).run P w with
  | ok a w1 =>
    cases hz : (loadVar ty a).run P w1 <;> simp_all [Sem.run_bind, Result.andThen]
  | halt => simp_all [Sem.run_bind, Result.andThen]
theorem below_grownB {B g : Nat} {a w w' : World} (h : Below B a w) (hg : w.grownBy w' (some g)) (hs : B ≤ w.heap.size) (hB : B ≤ g) : Below B a w' :=
  ⟨hg.os.trans h.os, hg.tape.trans h.tape, hg.output.trans h.output, Nat.le_trans h.size hg.size, fun i hi => (hg.block i (by omega) (fun e => by have := Option.some.inj e; omega)).trans (h.block i hi)⟩
theorem Blk.grownB {g b : Nat} {t : TypeId} {cs : Array Value} {w w' : World} (h : Blk w b t cs) (hg : w.grownBy w' (some g)) (hne : b ≠ g) : Blk w' b t cs := (hg.block b h.lt (fun e => hne (Option.some.inj e))).trans h
theorem OwnI.grownB {g lo hi : Nat} {xs : List Cel} {us : List Value} {w w' : World} (h : OwnI w lo hi xs us) (hg : w.grownBy w' (some g)) (hne : g < lo ∨ hi ≤ g) : OwnI w' lo hi xs us := h.keep fun b h1 h2 h3 => hg.block b h3 (fun e => by have := Option.some.inj e; omega)
theorem vals_at {w : World} {B b o : Nat} : ∀ (xs : List Cel) (n : Nat), (∀ j y, xs[j]? = some y → ∃ u, w.cell? ⟨b, o + (n + j), none⟩ = some u ∧ RdC w B y u) →
    ∃ us : List Value, RdVs w B xs us ∧ ∀ j v, us[j]? = some v → w.cell? ⟨b, o + (n + j), none⟩ = some v
  | [], n, h => ⟨[], RdVs.nil _ _, fun j v hv => by simp at hv⟩
  | x :: r, n, h => by
    obtain ⟨u, e0, q0⟩ := h 0 x rfl
    obtain ⟨us, h1, h2⟩ := vals_at r (n + 1) fun j y hj => by
      have := h (j + 1) y (by simpa using hj)
      rw [show n + 1 + j = n + (j + 1) from by omega]
      exact this
    refine ⟨u :: us, RdVs.cons q0 h1, fun j v hv => ?_⟩
    cases j with
    | zero => simp at hv; subst hv; exact e0
    | succ j =>
      have := h2 j v (by simpa using hv)
      rw [show n + 1 + j = n + (j + 1) from by omega] at this
      exact this
/-- An element of a slice, its cells as one list. -/
theorem RdC.elem {α : Type} {K : Nat} {cf : α → List Cel} {w : World} {B e c k : Nat} {A : Option Addr} {l : List α} {x : α} (hk : ∀ x, (cf x).length = K) (h : RdC w B (.s e K l.length (l.flatMap cf)) (.slice A l.length c)) (hx : l[k]? = some x) :
    ∃ b off us, A = some ⟨b, off, none⟩ ∧ b < B ∧ us.length = K ∧ RdVs w B (cf x) us ∧ w.rangeAt b (off + k * K) us := by
  obtain ⟨b, off, rfl, hb, hc⟩ := RdC.at_ hk h hx
  obtain ⟨us, h1, h2⟩ := vals_at (cf x) 0 (b := b) (o := off + k * K) fun j y hj => by
    have := hc j y hj
    rw [Nat.zero_add]
    exact this
  exact ⟨b, off, us, rfl, hb, by rw [h1.1, hk], h1, fun j v hv => by have := h2 j v hv; rw [Nat.zero_add] at this; exact this⟩
theorem range_below {w w' : World} {C b o : Nat} {us : List Value} (h : w.rangeAt b o us) (hb : Below C w w') (hC : b < C) : w'.rangeAt b o us := fun j v hv => (hb.cell (p := ⟨b, _, none⟩) hC).trans (h j v hv)
theorem own_setCells {base k n cap g : Nat} {e : TypeId} : ∀ (vs : List Value) (i : Nat) {w : World} {xs : List Value}, w.ownsRow base e k (.slice (some ⟨g, 0, none⟩) n cap) n xs → i + vs.length ≤ n * k → (w.setCells g i vs).ownsRow base e k (.slice (some ⟨g, 0, none⟩) n cap) n (sets xs i vs)
  | [], _, _, _, h, _ => h
  | v :: r, i, _, _, h, hl => own_setCells r (i + 1) (own_setC h (by simp at hl; omega) v) (by simp at hl; omega)
theorem own_there {w : World} {base k n cap g i m : Nat} {e : TypeId} {xs : List Value} (h : w.ownsRow base e k (.slice (some ⟨g, 0, none⟩) n cap) n xs) (hl : i + m ≤ n * k) : w.there g i m := by
  rcases own_row h with ⟨hv, _⟩ | ⟨g1, cap1, f, hv, hg, hn, hc, hrow, hf⟩
  · cases hv
  · injection hv with e1 e2 e3
    injection e1 with e1
    injection e1 with e1 _ _
    subst e1 e3
    have hle : n * k ≤ cap * k := Nat.mul_le_mul_right k hn
    exact fun j hj => ⟨by rw [hrow.cell (by omega)]; rfl, hrow.frozen _⟩
section
variable {P : Program} {ops : Array Oper} {rest : List Oper} {op : Oper} {a : Act} {w : World} {Q : Exit → Act → World → Prop}
theorem wpList_load_elem (ty : TypeId) (x : Operand) (b o : Nat) (us : List Value) (d : TypeDesc) (hr : w.rangeAt b o us) (ho : op.op = .load ty x) (hx : a.eval x = .pointer (some ⟨b, o, none⟩)) (hu : P.underlying ty = some d) (hd : d.isRow = true) {K : Nat} (hl : us.length = K) (hi : (P.info? ty).map (·.size) = some K) (hgd : op.guard = none)
    (h : wpList P ops Q rest (a.put op.dst (.agg us.toArray)) w) : wpList P ops Q (op :: rest) a w :=
  wpList_load_mid hgd ty x ho b o hx us d hr hu hd (by rw [hl]; exact hi) h
theorem wpList_store_elem (ty : TypeId) (x y : Operand) {base k n cap g : Nat} (i : Nat) {e : TypeId} {xs : List Value} (vs : List Value) (hb : w.ownsRow base e k (.slice (some ⟨g, 0, none⟩) n cap) n xs) (ho : op.op = .store ty x y) (hx : a.eval x = .pointer (some ⟨g, i, none⟩)) (hy : a.eval y = .agg vs.toArray)
    {K : Nat} (hl : vs.length = K) (hle : i + K ≤ n * k) (hi : (P.info? ty).map (·.size) = some K) (h1 : ∀ v ∈ vs, v.oneCell' = true) (hgd : op.guard = none)
    (hK : ∀ w', w'.ownsRow base e k (.slice (some ⟨g, 0, none⟩) n cap) n (sets xs i vs) → w.grownBy w' (some g) → wpList P ops Q rest (a.put op.dst undef) w') : wpList P ops Q (op :: rest) a w := by
  refine wpList_store_mid hgd ty x y ho g i vs.toArray hx hy (own_there hb (by simp; omega)) (by simpa [hl] using hi) (all_oneCell_toArray h1) ?_
  exact hK _ (own_setCells vs i hb (by omega)) (grown_setCells g _ _ w)
end
theorem wpStill_load_elem {P : Program} {ops : Array Oper} {w : World} {Q : Act → Prop} {a : Act} {op : Oper} {rest : List Oper} (ty : TypeId) (x : Operand) (b o : Nat) (us : List Value) (d : TypeDesc) (hr : w.rangeAt b o us) (ho : op.op = .load ty x) (hx : a.eval x = .pointer (some ⟨b, o, none⟩)) (hu : P.underlying ty = some d) (hd : d.isRow = true) {K : Nat} (hl : us.length = K) (hi : (P.info? ty).map (·.size) = some K)
    (hw : Region.wanted op (yielded ops a.tmps) = true) (h : wpStill P ops w Q rest (a.put op.dst (.agg us.toArray))) : wpStill P ops w Q (op :: rest) a := by
  have hrun : (execOp a.eval op).run P w = .ok (.value (.agg us.toArray)) w := by
    unfold execOp
    simp only [ho, hx, Instr.loadAt, Instr.sureAddr, Sem.run_bind, Sem.run_pure, Result.andThen_ok, run_loadVar_mid w b o ty us d hr hu hd (by rw [hl]; exact hi)]
  unfold wpStill
  rw [if_pos hw]
  unfold Oper.still
  rw [hrun, Oper.stillUpon_value]
  exact h
end Go.Proofs.YtahgcojmpafefaaGreat
