/-
  A row of files in the call's own memory. Conditions: none.
-/
import Derived.Test.YtnkidlahmplgnaaDoorWrA
import Derived.Test.YtnkidlahmplgnaaDoorToF
namespace Go.Proofs.YtnkidlahmplgnaaDoor
open Go.ChangeShapes Go.WideShapes Go.ChangeAt Go.RowKit Go.Deep Go.Joins
set_option linter.unusedVariables false
set_option linter.unusedSimpArgs false
theorem infoFile : (Tryd.prog.info? 39).map (fun i => (i.zero.map Value.cells, i.size, i.bytes)) = some (some #[.string ByteArray.empty, .string ByteArray.empty, .int .i64 0], 3, 40) := by kernel_rfl
abbrev RW (W : World) (base : Nat) (A : Option Addr) (c : Nat) (V : List FFile) : Prop := W.ownsRow base 39 3 (.slice A V.length c) V.length (fvals V)
theorem RW.keep {W W' : World} {base c : Nat} {A : Option Addr} {V : List FFile} (h : RW W base A c V) (hb : Below W.heap.size W W') : RW W' base A c V :=
  own_keep h fun k hk => hb.block k (own_lt h k hk).2
theorem RW.some {W : World} {base c : Nat} {A : Option Addr} {V : List FFile} (h : RW W base A c V) (h0 : 0 < V.length) : ∃ g, A = Option.some ⟨g, 0, none⟩ := by
  rcases own_row h with ⟨hv, h1, hx⟩ | ⟨g, cap, f, hv, hb, hc, _, hrow, hcell⟩
  · omega
  · injection hv with e1 e2 e3
    exact ⟨g, e1⟩
theorem frd_one (w : World) (a b : ByteArray) (v : Int) (e : TypeId) : Rd (w.alloc (.cells #[.string a, .string b, .int .i64 v] e)) (w.heap.size + 1) 3 (.slice (some ⟨w.heap.size, 0, none⟩) 1 1) 1 [.string a, .string b, .int .i64 v] := by
  refine ⟨_, _, rfl, Nat.le_refl _, by unfold maxLen; omega, rfl, fun _ => ⟨_, _, rfl, by omega, fun j x hx => ?_⟩⟩
  match j, hx with
  | 0, hx => obtain rfl : Value.string a = x := by simpa using hx
             simp [go_sem]
  | 1, hx => obtain rfl : Value.string b = x := by simpa using hx
             simp [go_sem]
  | 2, hx => obtain rfl : Value.int .i64 v = x := by simpa using hx
             simp [go_sem]
theorem RW.put {W : World} {base c g : Nat} {V : List FFile} {k : Nat} {x : FFile} (h : RW W base (Option.some ⟨g, 0, none⟩) c V) (hx : V[k]? = Option.some x) (s : ByteArray) (v : Int) :
    RW ((W.setCell ⟨g, k * 3 + 1, none⟩ (.string s)).setCell ⟨g, k * 3 + 2, none⟩ (.int .i64 v)) base (Option.some ⟨g, 0, none⟩) c (V.set k ⟨x.a0, s, v⟩) ∧ W.grownBy ((W.setCell ⟨g, k * 3 + 1, none⟩ (.string s)).setCell ⟨g, k * 3 + 2, none⟩ (.int .i64 v)) (Option.some g) := by
  obtain ⟨h1, g1⟩ := World.ownsRow.stored h (k * 3 + 1) (.string s)
  obtain ⟨h2, g2⟩ := World.ownsRow.stored h1 (k * 3 + 2) (.int .i64 v)
  refine ⟨?_, grown_trans g1 g2⟩
  unfold RW
  rw [List.length_set, ← fvals_set V k x s v hx]
  exact h2
end Go.Proofs.YtnkidlahmplgnaaDoor
