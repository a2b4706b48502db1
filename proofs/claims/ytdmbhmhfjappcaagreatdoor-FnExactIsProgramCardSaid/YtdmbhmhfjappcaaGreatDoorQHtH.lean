/-
  Parts of the proof: HtH. Conditions: none.
-/
import Derived.Test.YtdmbhmhfjappcaaGreatDoorQHtG
import Derived.Test.YtdmbhmhfjappcaaGreatDoorQToG
namespace Go.Proofs.YtdmbhmhfjappcaaGreatDoor
open Go.ChangeShapes Go.WideShapes Go.ChangeAt Go.RowKit Go.Deep Go.Joins
open Go.ChangeMaps (open_string shut_string)
set_option linter.unusedVariables false
set_option linter.unusedSimpArgs false
set_option maxRecDepth 100000
def InsSpec : Prop := ∀ (op a b : Int) (s t : ByteArray) (slots size : Int) (w : World), s.size ≤ 9223372036854775807 → t.size ≤ 9223372036854775807 →
    Calls Tryz.prog 52 #[insV op a b s t, .int .i64 slots, .int .i64 size] w fun e w' => e = .returned (.bool (insF op a b s t slots size)) ∧ Below w.heap.size w w'
def InsImpl : Prop := ∀ (op a b : Int) (s t : ByteArray) (slots size : Int) (w : World), s.size ≤ 9223372036854775807 → t.size ≤ 9223372036854775807 →
    Calls Tryz.prog 67 #[insV op a b s t, .int .i64 slots, .int .i64 size] w fun e w' => e = .returned (.bool (insF op a b s t slots size)) ∧ Below w.heap.size w w'
theorem htInfo : (Tryz.prog.info? 3).map (fun i => (i.zero.map Value.cells, i.size, i.bytes)) = some (some #[.int .i64 0], 1, 8) := by kernel_rfl
theorem wrap_eq (x : Int) : IntKind.i64.wrap x = wrap64 x := by
  simp only [IntKind.wrap, wrap64, IntKind.bits, IntKind.signed]
  simp
  split <;> omega
theorem rd_one (w : World) (u : Value) (e : TypeId) : Rd (w.alloc (.cells #[u] e)) (w.heap.size + 1) 1 (.slice (some ⟨w.heap.size, 0, none⟩) 1 1) 1 [u] := by
  refine ⟨_, _, rfl, Nat.le_refl _, by unfold maxLen; omega, rfl, fun _ => ⟨_, _, rfl, by omega, fun j x hx => ?_⟩⟩
  match j, hx with
  | 0, hx => obtain rfl : u = x := by simpa using hx
             simp [go_sem]
theorem Tbl.lt {w : World} {base g c : Nat} {V : List Int} (h : Tbl w base g c V) : base ≤ g ∧ g < w.heap.size := own_lt h g rfl
theorem Tbl.alloc {w : World} {base g c : Nat} {V : List Int} (h : Tbl w base g c V) (o : Obj) : Tbl (w.alloc o) base g c V := World.ownsRow.alloc h o
theorem Tbl.keep {w w' : World} {base g c B : Nat} {V : List Int} (h : Tbl w base g c V) (hb : Below B w w') (hB : w.heap.size ≤ B) : Tbl w' base g c V :=
  own_keep h fun k hk => hb.block k (by have := (own_lt h k hk).2; omega)
theorem Blk.grown {w w' : World} {b g : Nat} {t : TypeId} {cs : Array Value} (h : Blk w b t cs) (hg : w.grownBy w' (some g)) (hne : b ≠ g) : Blk w' b t cs :=
  (hg.block b h.lt (fun e => hne (Option.some.inj e))).trans h
/-- The memory of a round: the function's copy, the instruction's copy, the table. -/
structure HSt (w : World) (X g c : Nat) (fs xs : Array Value) (V : List Int) (W : World) : Prop where
  tb : Tbl W (w.heap.size + 1) g c V
  bf : Blk W w.heap.size 51 fs
  bx : Blk W X 77 xs
  bl : Below w.heap.size w W
  xl : w.heap.size < X
  xg : X ≠ g
theorem HSt.below {w W W' : World} {X g c : Nat} {fs xs : Array Value} {V : List Int} (s : HSt w X g c fs xs V W) (hb : Below W.heap.size W W') : HSt w X g c fs xs V W' :=
  ⟨s.tb.keep hb (Nat.le_refl _), s.bf.below hb (Nat.le_refl _), s.bx.below hb (Nat.le_refl _), s.bl.trans (hb.mono s.bl.size), s.xl, s.xg⟩
theorem HSt.drew {w W : World} {X g c : Nat} {fs xs : Array Value} {V : List Int} (s : HSt w X g c fs xs V W) : HSt w X g c fs xs V W.drew :=
  ⟨own_keep s.tb fun _ _ => rfl, s.bf, s.bx, s.bl.drew, s.xl, s.xg⟩
theorem HSt.give {w W W' : World} {X g c : Nat} {fs xs : Array Value} {V V' : List Int} (s : HSt w X g c fs xs V W) (ht : Tbl W' (w.heap.size + 1) g c V') (hg : W.grownBy W' (some g)) : HSt w X g c fs xs V' W' :=
  ⟨ht, s.bf.grown hg (by have := (Tbl.lt s.tb).1; omega), s.bx.grown hg s.xg, s.bl.grown hg s.bl.size (fun j hj => by have := (Tbl.lt s.tb).1; have := Option.some.inj hj; omega), s.xl, s.xg⟩
theorem HSt.cell {w W : World} {X g c : Nat} {fs xs : Array Value} {V : List Int} (s : HSt w X g c fs xs V W) (i : Nat) : W.cell? ⟨X, i, none⟩ = xs[i]? := s.bx.cell i
theorem HSt.tab {w W : World} {X g c : Nat} {fs xs : Array Value} {V : List Int} (s : HSt w X g c fs xs V W) (k : Nat) {h : Int} (hk : V[k]? = some h) : W.cell? ⟨g, k, none⟩ = some (.int .i64 h) := by
  have hl : k < V.length := (List.getElem?_eq_some_iff.1 hk).1
  have h1 := (s.tb.at_ k hl).1
  rw [getD_of hk] at h1
  exact h1
/-- What one giving (or none) did to the table. -/
def GvR (c : HCode) (V V' : List Int) (go : Bool) (at_ n : Int) (fresh ok : Bool) : Prop :=
  PInv c V' ∧ Ext V V' ∧ (ok = false → HTab c 500 = none) ∧ (ok = true → go = true → 0 ≤ at_ ∧ at_ < (c.n : Int) ∧ 0 ≤ n ∧ n ≤ 500 ∧ V'[at_.toNat]? = some n) ∧ (fresh = true → nocnt V' + 1 = nocnt V) ∧ (fresh = false → V' = V)
section
variable {c : HCode} {V V' V2 : List Int} {k : Nat} {h at_ n : Int} {go : Bool}
theorem GvR.skip (p : PInv c V) : GvR c V V false at_ n false true := ⟨p, Ext.refl V, fun e => (by cases e), fun _ e => (by cases e), fun e => (by cases e), fun _ => rfl⟩
theorem GvR.none (p : PInv c V) (r : HR c k h) (hp : (at_, n) ∈ c.nxt k h) (ha : 0 ≤ at_) (g : giveF V at_ n = Option.none) : GvR c V V go at_ n false false :=
  ⟨p, Ext.refl V, fun _ => giveF_none p r hp ha g, fun e => (by cases e), fun e => (by cases e), fun _ => rfl⟩
theorem GvR.some (p : PInv c V) (r : HR c k h) (hp : (at_, n) ∈ c.nxt k h) (ha : 0 ≤ at_) (g : giveF V at_ n = Option.some V') : GvR c V V' go at_ n (decide (V.getD at_.toNat 0 < 0)) true := by
  obtain ⟨p', e, h1, h2, h3, h4, h5, h6, h7⟩ := giveF_some p r hp ha g
  exact ⟨p', e, fun e => (by cases e), fun _ _ => ⟨ha, h1, h2, h3, h4⟩, fun e => h6 (by simpa using e), fun e => h7 (by simpa using e)⟩
end
/-- What a pass over the first k indexes knows. -/
structure PassR (c : HCode) (V0 V : List Int) (k : Nat) (more : Bool) : Prop where
  inv : PInv c V
  few : nocnt V ≤ nocnt V0
  less : more = true → nocnt V < nocnt V0
  done : more = false → ∀ j, j < k → Done c V j
theorem PassR.zero {c : HCode} {V : List Int} (p : PInv c V) : PassR c V V 0 false := ⟨p, Nat.le_refl _, fun e => (by cases e), fun _ j hj => absurd hj (by omega)⟩
/-- An index without a height is passed over. -/
theorem PassR.over {c : HCode} {V0 V : List Int} {k : Nat} {more : Bool} (p : PassR c V0 V k more) (hk : V.getD k 0 < 0) (hl : k < V.length) : PassR c V0 V (k + 1) more := by
  refine ⟨p.inv, p.few, p.less, fun hm j hj => ?_⟩
  by_cases e : j = k
  · subst e
    intro h hh h0
    rw [getD_of hh] at hk
    omega
  · exact p.done hm j (by omega)
theorem PassR.step {l : List FIns} {V0 V V1 V2 : List Int} {k : Nat} {h : Int} {x : FIns} {more a b : Bool} (p : PassR (hC l) V0 V k more) (hx : l[k]? = some x) (hk : V[k]? = some h) (h0 : 0 ≤ h) (hn : needF x.a0 x.a2 ≤ h)
    (g1 : GvR (hC l) V V1 (!ifF x.a0) ((k : Int) + 1) (wrap64 (h + changeF x.a0 x.a2)) a true) (g2 : GvR (hC l) V1 V2 (htF x.a0) x.a1 (wrap64 (h + tcF x.a0)) b true) : PassR (hC l) V0 V2 (k + 1) (more || a || b) := by
  obtain ⟨p1, e1, _, o1, f1, s1⟩ := g1
  obtain ⟨p2, e2, _, o2, f2, s2⟩ := g2
  have c1 : nocnt V1 ≤ nocnt V := by
    cases a with
    | true => have := f1 rfl; omega
    | false => rw [s1 rfl]; exact Nat.le_refl _
  have c2 : nocnt V2 ≤ nocnt V1 := by
    cases b with
    | true => have := f2 rfl; omega
    | false => rw [s2 rfl]; exact Nat.le_refl _
  have hf := p.few
  refine ⟨p2, by omega, fun hm => ?_, fun hm j hj => ?_⟩
  · cases a with
    | true => have := f1 rfl; omega
    | false =>
      cases b with
      | true => have := f2 rfl; omega
      | false =>
        have := p.less (by simpa using hm)
        omega
  · have hm' : more = false ∧ a = false ∧ b = false := by
      cases more <;> cases a <;> cases b <;> simp_all
    obtain ⟨rfl, rfl, rfl⟩ := hm'
    by_cases e : j = k
    · subst e
      refine done_of hx ((e1.trans e2).2 _ _ hk h0) hn (fun hi => ?_) (fun ht => ?_)
      · obtain ⟨q1, q2, q3, q4, q5⟩ := o1 rfl (by rw [hi]; rfl)
        refine ⟨q2, q3, q4, ?_⟩
        have := e2.2 _ _ q5 q3
        rwa [show ((j : Int) + 1).toNat = j + 1 by omega] at this
      · exact o2 rfl ht
    · rw [s2 rfl, s1 rfl]
      exact p.done rfl j (by omega)
theorem PassR.good {c : HCode} {V0 V : List Int} (p : PassR c V0 V c.n false) : HTab c 500 = some V := p.inv.good (p.done rfl)
end Go.Proofs.YtdmbhmhfjappcaaGreatDoor
