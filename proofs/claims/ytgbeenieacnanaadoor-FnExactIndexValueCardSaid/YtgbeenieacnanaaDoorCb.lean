/-
  Copies of values: what copyValue and the reference's l5Copy hand back, in memory of its own. Conditions: none.
-/
import Derived.Deep.RegionLaw
import Derived.Deep.DrawnRows
import Derived.Test.YtgbeenieacnanaaDoorDeepA
import Derived.Test.YtgbeenieacnanaaDoorToB
import Derived.Test.YtgbeenieacnanaaDoorMkB
namespace Go.Proofs.YtgbeenieacnanaaDoor
open Go.ChangeShapes Go.WideShapes Go.ChangeAt Go.RowKit Go.Deep Go.Joins
open Go.ChangeMaps (open_string shut_string)
set_option linter.unusedVariables false
set_option linter.unusedSimpArgs false
set_option maxRecDepth 100000
theorem step_append_rd {P : Program} (w : World) {ops : Array Oper} {o : Oper} {a : Act} {K : Act → World → Prop} {Q : Exit → Act → World → Prop} {E : Prop} (hgd : o.guard = none) (s x : Operand) (t : TypeId)
    (ho : o.op = .call { callee := .builtin .append, args := #[s, x], argTypes := #[t, t] })
    (base : Nat) (e : TypeId) (zs : Array Value) (size bytes : Nat) (ht : P.underlying t = some (.slice e)) (hinfo : (P.info? e).map (fun i => (i.zero.map Value.cells, i.size, i.bytes)) = some (some zs, size, bytes))
    (hzs : zs.size = size) (hsz : 0 < size)
    (v : Value) (n : Nat) (xs : List Value) (hs : a.eval s = v) (hown : w.ownsRow base e size v n xs)
    (B : Nat) (A : Option Addr) (m c : Nat) (news : List Value) (hx : a.eval x = .slice A m c) (hr : Rd w B size (.slice A m c) m news) (h1 : ∀ u ∈ news, u.oneCell' = true)
    (h63 : n + m ≤ maxLen) (hbytes : (n + m) * bytes ≤ 140737488355328) (hbase : base ≤ w.heap.size)
    (h : ∀ v' w', w'.ownsRow base e size v' (n + m) (xs ++ news) → w.grownBy w' v.ownBlock → (v'.ownBlock = v.ownBlock ∨ v'.ownBlock = some w.heap.size) → K (a.put o.dst v') w') :
    if Region.wanted o (yielded ops a.tmps) = true then Oper.wp P o a w K Q else E := by
  have hw : Region.wanted o (yielded ops a.tmps) = true := by simp [Region.wanted, hgd]
  rw [if_pos hw]
  exact wp_append_rd w s x t ho base e zs size bytes ht hinfo hzs hsz v n xs hs hown B A m c news hx hr h1 h63 hbytes hbase h
theorem size_al (w : World) (o : Obj) : (w.alloc o).heap.size = w.heap.size + 1 := by simp
theorem Blk.bgrown {w w' : World} {g : Nat} {t : TypeId} {cs : Array Value} {row : Option Nat} (h : Blk w g t cs) (hb : w.grownBy w' row) (hg : some g ≠ row) : Blk w' g t cs := (hb.block g h.lt hg).trans h
theorem Below.grownI {lo : Nat} {w w2 w' : World} {row : Option Nat} (h : Below lo w w2) (hb : w2.grownBy w' row) (hr : ∀ g, row = some g → lo ≤ g) (hl : lo ≤ w2.heap.size) : Below lo w w' :=
  h.trans ⟨hb.os, hb.tape, hb.output, hb.size, fun i hi => hb.block i (by omega) fun e => by have := hr i e.symm; omega⟩

def FEntry.val : FEntry → FValue
  | .mk _ v => v
theorem eflat_take (l : List FEntry) (k : Nat) (x : FEntry) (h : l[k]? = some x) : FEntry.flat (l.take (k + 1)) = FEntry.flat (l.take k) ++ x.c := FEntry.flat_take l k x h
theorem entry_onecell {w : World} {F : List Nat} {us : List Value} (x : FEntry) (h : OwnL w x.c F us) : ∀ u, u ∈ us → u.oneCell' = true := by
  obtain ⟨⟨y0, y1, y2⟩, ⟨y3, y4, y5, y6, y7⟩⟩ := x
  rw [FEntry.c_eq] at h
  refine OwnL.onecell _ _ _ h fun y hy u hu => ?_
  simp only [List.mem_cons, List.not_mem_nil, or_false] at hy
  rcases hy with rfl | rfl | rfl | rfl | rfl | rfl | rfl | rfl <;> (first | (injection hu with hu; subst hu; rfl) | cases hu)
theorem infoEntryC : (Tryd.prog.info? 73).map (fun i => (i.zero.map Value.cells, i.size, i.bytes)) = some (some #[.bool false, .int .i64 0, .string ByteArray.empty, .int .i64 0, .int .i64 0, .string ByteArray.empty, .int .i64 0, .slice none 0 0], 8, 96) := by kernel_rfl
/-- A function that copies a value. -/
def CpVal (f : FuncId) (x : FValue) : Prop := ∀ (us : List Value) (w : World) (B : Nat), B ≤ w.heap.size → RdVs w B x.c us → Calls Tryd.prog f #[.agg us.toArray] w fun e w' => ∃ us', e = .returned (.agg us'.toArray) ∧ OwnI w' w.heap.size w'.heap.size x.c us' ∧ Below w.heap.size w w'
end Go.Proofs.YtgbeenieacnanaaDoor
