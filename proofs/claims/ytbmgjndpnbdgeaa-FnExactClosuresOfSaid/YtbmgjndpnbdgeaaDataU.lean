/-
  The data of the types Node, Unit: their cells, their sizes, and how the arguments of the laws read. Conditions: none.
-/
import Derived.Test.YtbmgjndpnbdgeaaDeep
namespace Go.Proofs.Ytbmgjndpnbdgeaa
open Go.ChangeShapes Go.WideShapes Go.ChangeAt Go.RowKit Go.Deep Go.Joins
open Go.ChangeMaps (open_string shut_string)
set_option linter.unusedVariables false
set_option linter.unusedSimpArgs false
set_option maxRecDepth 100000
/-! ### string -/
structure FStr where
  a0 : ByteArray
def FStr.c : FStr → List Cel
  | ⟨a0⟩ => [.v (.string a0)]
def FStr.wt : FStr → Nat
  | ⟨a0⟩ => a0.size
def FStr.ok : FStr → Prop
  | ⟨a0⟩ => a0.size ≤ 9223372036854775807
def FStr.wts : List FStr → Nat
  | [] => 0
  | x :: r => x.wt + FStr.wts r
def FStr.oks : List FStr → Prop
  | [] => True
  | x :: r => x.ok ∧ FStr.oks r
abbrev FStr.flat (l : List FStr) : List Cel := l.flatMap FStr.c
theorem FStr.c_eq (z0 : ByteArray) : FStr.c ⟨z0⟩ = [.v (.string z0)] := by simp [FStr.c]
theorem FStr.len (x : FStr) : x.c.length = 1 := by
  obtain ⟨z0⟩ := x
  rw [FStr.c_eq]
  rfl
theorem FStr.wt_eq (z0 : ByteArray) : FStr.wt ⟨z0⟩ = z0.size := by simp [FStr.wt]
theorem FStr.ok_eq (z0 : ByteArray) : FStr.ok ⟨z0⟩ ↔ (z0.size ≤ 9223372036854775807) := by simp [FStr.ok]
theorem FStr.oks_mem : ∀ l : List FStr, FStr.oks l → ∀ x, x ∈ l → x.ok
  | [], _, x, hx => by cases hx
  | y :: r, h, x, hx => by
    unfold FStr.oks at h
    rcases List.mem_cons.1 hx with rfl | hx
    · exact h.1
    · exact FStr.oks_mem r h.2 x hx
theorem FStr.oks_of : ∀ l : List FStr, (∀ x, x ∈ l → x.ok) → FStr.oks l
  | [], _ => by unfold FStr.oks; trivial
  | y :: r, h => by
    unfold FStr.oks
    exact ⟨h y (by simp), FStr.oks_of r fun x hx => h x (by simp [hx])⟩
theorem FStr.wts_take : ∀ (l : List FStr) (k : Nat) (x : FStr), l[k]? = some x → FStr.wts (l.take (k + 1)) = FStr.wts (l.take k) + x.wt
  | [], k, x, h => by simp at h
  | y :: r, 0, x, h => by
    obtain rfl : y = x := by simpa using h
    simp [FStr.wts]
  | y :: r, k + 1, x, h => by
    rw [List.take_succ_cons, List.take_succ_cons, FStr.wts, FStr.wts, FStr.wts_take r k x (by simpa using h)]
    omega
theorem FStr.wts_le : ∀ (l : List FStr) (k : Nat), FStr.wts (l.take k) ≤ FStr.wts l
  | [], k => by simp
  | y :: r, 0 => by simp [FStr.wts]
  | y :: r, k + 1 => by
    rw [List.take_succ_cons, FStr.wts, FStr.wts]
    have := FStr.wts_le r k
    omega
theorem FStr.wts_at : ∀ (l : List FStr) (x : FStr), x ∈ l → x.wt ≤ FStr.wts l
  | [], x, h => by cases h
  | y :: r, x, h => by
    unfold FStr.wts
    rcases List.mem_cons.1 h with rfl | h
    · omega
    · have := FStr.wts_at r x h
      omega
/-! ### int -/
structure FInt where
  a0 : Int
def FInt.c : FInt → List Cel
  | ⟨a0⟩ => [.v (.int .i64 a0)]
def FInt.wt : FInt → Nat
  | ⟨a0⟩ => 0
def FInt.ok : FInt → Prop
  | ⟨a0⟩ => True
def FInt.wts : List FInt → Nat
  | [] => 0
  | x :: r => x.wt + FInt.wts r
def FInt.oks : List FInt → Prop
  | [] => True
  | x :: r => x.ok ∧ FInt.oks r
abbrev FInt.flat (l : List FInt) : List Cel := l.flatMap FInt.c
theorem FInt.c_eq (z0 : Int) : FInt.c ⟨z0⟩ = [.v (.int .i64 z0)] := by simp [FInt.c]
theorem FInt.len (x : FInt) : x.c.length = 1 := by
  obtain ⟨z0⟩ := x
  rw [FInt.c_eq]
  rfl
theorem FInt.wt_eq (z0 : Int) : FInt.wt ⟨z0⟩ = 0 := by simp [FInt.wt]
theorem FInt.ok_eq (z0 : Int) : FInt.ok ⟨z0⟩ ↔ (True) := by simp [FInt.ok]
theorem FInt.oks_mem : ∀ l : List FInt, FInt.oks l → ∀ x, x ∈ l → x.ok
  | [], _, x, hx => by cases hx
  | y :: r, h, x, hx => by
    unfold FInt.oks at h
    rcases List.mem_cons.1 hx with rfl | hx
    · exact h.1
    · exact FInt.oks_mem r h.2 x hx
theorem FInt.oks_of : ∀ l : List FInt, (∀ x, x ∈ l → x.ok) → FInt.oks l
  | [], _ => by unfold FInt.oks; trivial
  | y :: r, h => by
    unfold FInt.oks
    exact ⟨h y (by simp), FInt.oks_of r fun x hx => h x (by simp [hx])⟩
theorem FInt.wts_take : ∀ (l : List FInt) (k : Nat) (x : FInt), l[k]? = some x → FInt.wts (l.take (k + 1)) = FInt.wts (l.take k) + x.wt
  | [], k, x, h => by simp at h
  | y :: r, 0, x, h => by
    obtain rfl : y = x := by simpa using h
    simp [FInt.wts]
  | y :: r, k + 1, x, h => by
    rw [List.take_succ_cons, List.take_succ_cons, FInt.wts, FInt.wts, FInt.wts_take r k x (by simpa using h)]
    omega
theorem FInt.wts_le : ∀ (l : List FInt) (k : Nat), FInt.wts (l.take k) ≤ FInt.wts l
  | [], k => by simp
  | y :: r, 0 => by simp [FInt.wts]
  | y :: r, k + 1 => by
    rw [List.take_succ_cons, FInt.wts, FInt.wts]
    have := FInt.wts_le r k
    omega
theorem FInt.wts_at : ∀ (l : List FInt) (x : FInt), x ∈ l → x.wt ≤ FInt.wts l
  | [], x, h => by cases h
  | y :: r, x, h => by
    unfold FInt.wts
    rcases List.mem_cons.1 h with rfl | h
    · omega
    · have := FInt.wts_at r x h
      omega

theorem read_string {H : Type} {enc : TypeId × Value → H} {w : World} {base : Nat} {spare : Nat → Bool} {held : Bool} (n : Nat) (cs : List Value) (y : DataW H × List MemPlace) (h : DataW.trod enc Try.prog w base spare held n 9 cs = some y) : ∃ x : FStr, RdVs w w.heap.size x.c cs ∧ x.ok := by
  obtain ⟨s, rfl, _, hs⟩ := DataW.trod_string Try.underlying9 h
  unfold maxLen at hs
  exact ⟨⟨s⟩, RdVs.cons (by unfold RdC; rfl) (RdVs.nil _ _), hs⟩
theorem read_int {H : Type} {enc : TypeId × Value → H} {w : World} {base : Nat} {spare : Nat → Bool} {held : Bool} (n : Nat) (cs : List Value) (y : DataW H × List MemPlace) (h : DataW.trod enc Try.prog w base spare held n 3 cs = some y) : ∃ x : FInt, RdVs w w.heap.size x.c cs ∧ x.ok := by
  obtain ⟨s, rfl, _, _⟩ := DataW.trod_int Try.underlying3 h
  exact ⟨⟨s⟩, RdVs.cons (by unfold RdC; rfl) (RdVs.nil _ _), trivial⟩
/-! ### Node -/
inductive FNode where
  | mk (a0 : Int) (a1 : Int) (a2 : ByteArray) (a3 : List FNode)
mutual
def FNode.c : FNode → List Cel
  | .mk a0 a1 a2 a3 => [.v (.int .i64 a0), .v (.int .i64 a1), .v (.string a2), .s 38 4 a3.length (FNode.cs a3)]
def FNode.cs : List FNode → List Cel
  | [] => []
  | x :: r => x.c ++ FNode.cs r
end
mutual
def FNode.wt : FNode → Nat
  | .mk a0 a1 a2 a3 => a2.size + (a3.length + FNode.wts a3)
def FNode.wts : List FNode → Nat
  | [] => 0
  | x :: r => x.wt + FNode.wts r
end
mutual
def FNode.ok : FNode → Prop
  | .mk a0 a1 a2 a3 => a2.size ≤ 9223372036854775807 ∧ FNode.oks a3
def FNode.oks : List FNode → Prop
  | [] => True
  | x :: r => x.ok ∧ FNode.oks r
end
abbrev FNode.flat (l : List FNode) : List Cel := l.flatMap FNode.c
theorem FNode.cs_eq : ∀ l : List FNode, FNode.cs l = FNode.flat l
  | [] => by simp [FNode.cs]
  | x :: r => by rw [FNode.cs, FNode.cs_eq r]; simp [FNode.flat]
theorem FNode.c_eq (z0 : Int) (z1 : Int) (z2 : ByteArray) (z3 : List FNode) : FNode.c ⟨z0, z1, z2, z3⟩ = [.v (.int .i64 z0), .v (.int .i64 z1), .v (.string z2), .s 38 4 z3.length (FNode.flat z3)] := by simp [FNode.c, FNode.cs_eq]
theorem FNode.len (x : FNode) : x.c.length = 4 := by
  obtain ⟨z0, z1, z2, z3⟩ := x
  rw [FNode.c_eq]
  rfl
theorem FNode.wt_eq (z0 : Int) (z1 : Int) (z2 : ByteArray) (z3 : List FNode) : FNode.wt ⟨z0, z1, z2, z3⟩ = z2.size + (z3.length + FNode.wts z3) := by simp [FNode.wt, Nat.add_assoc]
theorem FNode.ok_eq (z0 : Int) (z1 : Int) (z2 : ByteArray) (z3 : List FNode) : FNode.ok ⟨z0, z1, z2, z3⟩ ↔ (z2.size ≤ 9223372036854775807 ∧ FNode.oks z3) := by simp [FNode.ok, and_assoc]
theorem FNode.oks_mem : ∀ l : List FNode, FNode.oks l → ∀ x, x ∈ l → x.ok
  | [], _, x, hx => by cases hx
  | y :: r, h, x, hx => by
    unfold FNode.oks at h
    rcases List.mem_cons.1 hx with rfl | hx
    · exact h.1
    · exact FNode.oks_mem r h.2 x hx
theorem FNode.oks_of : ∀ l : List FNode, (∀ x, x ∈ l → x.ok) → FNode.oks l
  | [], _ => by unfold FNode.oks; trivial
  | y :: r, h => by
    unfold FNode.oks
    exact ⟨h y (by simp), FNode.oks_of r fun x hx => h x (by simp [hx])⟩
theorem FNode.wts_take : ∀ (l : List FNode) (k : Nat) (x : FNode), l[k]? = some x → FNode.wts (l.take (k + 1)) = FNode.wts (l.take k) + x.wt
  | [], k, x, h => by simp at h
  | y :: r, 0, x, h => by
    obtain rfl : y = x := by simpa using h
    simp [FNode.wts]
  | y :: r, k + 1, x, h => by
    rw [List.take_succ_cons, List.take_succ_cons, FNode.wts, FNode.wts, FNode.wts_take r k x (by simpa using h)]
    omega
theorem FNode.wts_le : ∀ (l : List FNode) (k : Nat), FNode.wts (l.take k) ≤ FNode.wts l
  | [], k => by simp
  | y :: r, 0 => by simp [FNode.wts]
  | y :: r, k + 1 => by
    rw [List.take_succ_cons, FNode.wts, FNode.wts]
    have := FNode.wts_le r k
    omega
theorem FNode.wts_at : ∀ (l : List FNode) (x : FNode), x ∈ l → x.wt ≤ FNode.wts l
  | [], x, h => by cases h
  | y :: r, x, h => by
    unfold FNode.wts
    rcases List.mem_cons.1 h with rfl | h
    · omega
    · have := FNode.wts_at r x h
      omega
def ReadNode {H : Type} (enc : TypeId × Value → H) (w : World) (base : Nat) (spare : Nat → Bool) (held : Bool) (n : Nat) : Prop := ∀ (cs : List Value) (y : DataW H × List MemPlace), DataW.trod enc Try.prog w base spare held n 34 cs = some y → ∃ x : FNode, RdVs w w.heap.size x.c cs ∧ x.ok
theorem read_Node_of {H : Type} {enc : TypeId × Value → H} {w : World} {base : Nat} {spare : Nat → Bool} {held : Bool} (n : Nat) (HNode : ∀ m, m < n → ReadNode enc w base spare held m) : ReadNode enc w base spare held n := by
  intro cs y h
  obtain ⟨hl, n1, rfl, hf⟩ := struct_span (by kernel_rfl) h
  have hC : Try.prog.cellsOf 34 = 4 := by kernel_rfl
  rw [hC] at hl
  obtain ⟨y0, t0⟩ := hf 0 3 0 1 (by kernel_rfl)
  obtain ⟨z0, e0, _, _⟩ := DataW.trod_int Try.underlying3 t0
  obtain ⟨y1, t1⟩ := hf 1 3 1 1 (by kernel_rfl)
  obtain ⟨z1, e1, _, _⟩ := DataW.trod_int Try.underlying3 t1
  obtain ⟨y2, t2⟩ := hf 2 9 2 1 (by kernel_rfl)
  obtain ⟨z2, e2, _, k2⟩ := DataW.trod_string Try.underlying9 t2
  obtain ⟨y3, t3⟩ := hf 3 22 3 1 (by kernel_rfl)
  obtain ⟨v3, z3, e3, r3, k3⟩ := open_deep (ok := FNode.ok) 38 FNode.len (by omega) Try.underlying22 (by kernel_rfl) (fun m cs1 y1 hm h1 => HNode m (by omega) cs1 y1 h1) t3
  have hcs := cut_all hl
  have q0 := cut_step 0 1 3 (us := cs)
  have q1 := cut_step 1 1 2 (us := cs)
  have q2 := cut_step 2 1 1 (us := cs)
  refine ⟨⟨z0, z1, z2, z3⟩, ?_, ?_⟩
  · rw [FNode.c_eq, hcs]
    rw [show (cs.drop 0).take 4 = (cs.drop 0).take 1 ++ (cs.drop 1).take 3 from q0]
    rw [show (cs.drop 1).take 3 = (cs.drop 1).take 1 ++ (cs.drop 2).take 2 from q1]
    rw [show (cs.drop 2).take 2 = (cs.drop 2).take 1 ++ (cs.drop 3).take 1 from q2]
    rw [e0]
    rw [e1]
    rw [e2]
    rw [e3]
    exact (RdVs.cons (by unfold RdC; rfl) (RdVs.cons (by unfold RdC; rfl) (RdVs.cons (by unfold RdC; rfl) (RdVs.cons r3 (RdVs.nil _ _)))))
  · rw [FNode.ok_eq]
    have j2 := k2
    unfold maxLen at j2
    exact ⟨j2, FNode.oks_of _ k3⟩
theorem read_Node_all {H : Type} {enc : TypeId × Value → H} {w : World} {base : Nat} {spare : Nat → Bool} {held : Bool} (n : Nat) : ReadNode enc w base spare held n := by
  induction n using Nat.strongRecOn with
  | ind n ih =>
    exact read_Node_of n (fun m hm => (ih m hm))
theorem read_Node {H : Type} {enc : TypeId × Value → H} {w : World} {base : Nat} {spare : Nat → Bool} {held : Bool} (n : Nat) : ReadNode enc w base spare held n := (read_Node_all n)
/-! ### Unit -/
structure FUnit where
  a0 : ByteArray
  a1 : FNode
def FUnit.c : FUnit → List Cel
  | ⟨a0, a1⟩ => [.v (.string a0)] ++ FNode.c a1
def FUnit.wt : FUnit → Nat
  | ⟨a0, a1⟩ => a0.size + FNode.wt a1
def FUnit.ok : FUnit → Prop
  | ⟨a0, a1⟩ => a0.size ≤ 9223372036854775807 ∧ FNode.ok a1
def FUnit.wts : List FUnit → Nat
  | [] => 0
  | x :: r => x.wt + FUnit.wts r
def FUnit.oks : List FUnit → Prop
  | [] => True
  | x :: r => x.ok ∧ FUnit.oks r
abbrev FUnit.flat (l : List FUnit) : List Cel := l.flatMap FUnit.c
theorem FUnit.c_eq (z0 : ByteArray) (z1 : Int) (z2 : Int) (z3 : ByteArray) (z4 : List FNode) : FUnit.c ⟨z0, ⟨z1, z2, z3, z4⟩⟩ = [.v (.string z0), .v (.int .i64 z1), .v (.int .i64 z2), .v (.string z3), .s 38 4 z4.length (FNode.flat z4)] := by simp [FNode.c, FUnit.c, FNode.cs_eq]
theorem FUnit.len (x : FUnit) : x.c.length = 5 := by
  obtain ⟨z0, ⟨z1, z2, z3, z4⟩⟩ := x
  rw [FUnit.c_eq]
  rfl
theorem FUnit.wt_eq (z0 : ByteArray) (z1 : Int) (z2 : Int) (z3 : ByteArray) (z4 : List FNode) : FUnit.wt ⟨z0, ⟨z1, z2, z3, z4⟩⟩ = z0.size + z3.size + (z4.length + FNode.wts z4) := by simp [FNode.wt, FUnit.wt, Nat.add_assoc]
theorem FUnit.ok_eq (z0 : ByteArray) (z1 : Int) (z2 : Int) (z3 : ByteArray) (z4 : List FNode) : FUnit.ok ⟨z0, ⟨z1, z2, z3, z4⟩⟩ ↔ (z0.size ≤ 9223372036854775807 ∧ z3.size ≤ 9223372036854775807 ∧ FNode.oks z4) := by simp [FNode.ok, FUnit.ok, and_assoc]
theorem FUnit.oks_mem : ∀ l : List FUnit, FUnit.oks l → ∀ x, x ∈ l → x.ok
  | [], _, x, hx => by cases hx
  | y :: r, h, x, hx => by
    unfold FUnit.oks at h
    rcases List.mem_cons.1 hx with rfl | hx
    · exact h.1
    · exact FUnit.oks_mem r h.2 x hx
theorem FUnit.oks_of : ∀ l : List FUnit, (∀ x, x ∈ l → x.ok) → FUnit.oks l
  | [], _ => by unfold FUnit.oks; trivial
  | y :: r, h => by
    unfold FUnit.oks
    exact ⟨h y (by simp), FUnit.oks_of r fun x hx => h x (by simp [hx])⟩
theorem FUnit.wts_take : ∀ (l : List FUnit) (k : Nat) (x : FUnit), l[k]? = some x → FUnit.wts (l.take (k + 1)) = FUnit.wts (l.take k) + x.wt
  | [], k, x, h => by simp at h
  | y :: r, 0, x, h => by
    obtain rfl : y = x := by simpa using h
    simp [FUnit.wts]
  | y :: r, k + 1, x, h => by
    rw [List.take_succ_cons, List.take_succ_cons, FUnit.wts, FUnit.wts, FUnit.wts_take r k x (by simpa using h)]
    omega
theorem FUnit.wts_le : ∀ (l : List FUnit) (k : Nat), FUnit.wts (l.take k) ≤ FUnit.wts l
  | [], k => by simp
  | y :: r, 0 => by simp [FUnit.wts]
  | y :: r, k + 1 => by
    rw [List.take_succ_cons, FUnit.wts, FUnit.wts]
    have := FUnit.wts_le r k
    omega
theorem FUnit.wts_at : ∀ (l : List FUnit) (x : FUnit), x ∈ l → x.wt ≤ FUnit.wts l
  | [], x, h => by cases h
  | y :: r, x, h => by
    unfold FUnit.wts
    rcases List.mem_cons.1 h with rfl | h
    · omega
    · have := FUnit.wts_at r x h
      omega
end Go.Proofs.Ytbmgjndpnbdgeaa
