/-
  The data of the types string, File: their cells, their sizes, and how the arguments of the laws read. Conditions: none.
-/
import Derived.Test.YtnkidlahmplgnaaDoorDeep
namespace Go.Proofs.YtnkidlahmplgnaaDoor
open Go.ChangeShapes Go.WideShapes Go.ChangeAt Go.RowKit Go.Deep Go.Joins
open Go.ChangeMaps (open_string shut_string)
set_option linter.unusedVariables false
set_option linter.unusedSimpArgs false
set_option maxRecDepth 100000
/-! ### string -/
structure FStr where
  a0 : ByteArray
def FStr.c : FStr → List Cel
  | ⟨a0⟩ => [.v (.string a0)]
def FStr.wt : FStr → Nat
  | ⟨a0⟩ => a0.size
def FStr.ok : FStr → Prop
  | ⟨a0⟩ => a0.size ≤ 9223372036854775807
def FStr.wts : List FStr → Nat
  | [] => 0
  | x :: r => x.wt + FStr.wts r
def FStr.oks : List FStr → Prop
  | [] => True
  | x :: r => x.ok ∧ FStr.oks r
abbrev FStr.flat (l : List FStr) : List Cel := l.flatMap FStr.c
theorem FStr.c_eq (z0 : ByteArray) : FStr.c ⟨z0⟩ = [.v (.string z0)] := by simp [FStr.c]
theorem FStr.len (x : FStr) : x.c.length = 1 := by
  obtain ⟨z0⟩ := x
  rw [FStr.c_eq]
  rfl
theorem FStr.wt_eq (z0 : ByteArray) : FStr.wt ⟨z0⟩ = z0.size := by simp [FStr.wt]
theorem FStr.ok_eq (z0 : ByteArray) : FStr.ok ⟨z0⟩ ↔ (z0.size ≤ 9223372036854775807) := by simp [FStr.ok]
theorem FStr.oks_mem : ∀ l : List FStr, FStr.oks l → ∀ x, x ∈ l → x.ok
  | [], _, x, hx => by cases hx
  | y :: r, h, x, hx => by
    unfold FStr.oks at h
    rcases List.mem_cons.1 hx with rfl | hx
    · exact h.1
    · exact FStr.oks_mem r h.2 x hx
theorem FStr.oks_of : ∀ l : List FStr, (∀ x, x ∈ l → x.ok) → FStr.oks l
  | [], _ => by unfold FStr.oks; trivial
  | y :: r, h => by
    unfold FStr.oks
    exact ⟨h y (by simp), FStr.oks_of r fun x hx => h x (by simp [hx])⟩
theorem FStr.wts_take : ∀ (l : List FStr) (k : Nat) (x : FStr), l[k]? = some x → FStr.wts (l.take (k + 1)) = FStr.wts (l.take k) + x.wt
  | [], k, x, h => by simp at h
  | y :: r, 0, x, h => by
    obtain rfl : y = x := by simpa using h
    simp [FStr.wts]
  | y :: r, k + 1, x, h => by
    rw [List.take_succ_cons, List.take_succ_cons, FStr.wts, FStr.wts, FStr.wts_take r k x (by simpa using h)]
    omega
theorem FStr.wts_le : ∀ (l : List FStr) (k : Nat), FStr.wts (l.take k) ≤ FStr.wts l
  | [], k => by simp
  | y :: r, 0 => by simp [FStr.wts]
  | y :: r, k + 1 => by
    rw [List.take_succ_cons, FStr.wts, FStr.wts]
    have := FStr.wts_le r k
    omega
theorem FStr.wts_at : ∀ (l : List FStr) (x : FStr), x ∈ l → x.wt ≤ FStr.wts l
  | [], x, h => by cases h
  | y :: r, x, h => by
    unfold FStr.wts
    rcases List.mem_cons.1 h with rfl | h
    · omega
    · have := FStr.wts_at r x h
      omega
/-! ### int -/
structure FInt where
  a0 : Int
def FInt.c : FInt → List Cel
  | ⟨a0⟩ => [.v (.int .i64 a0)]
def FInt.wt : FInt → Nat
  | ⟨a0⟩ => 0
def FInt.ok : FInt → Prop
  | ⟨a0⟩ => True
def FInt.wts : List FInt → Nat
  | [] => 0
  | x :: r => x.wt + FInt.wts r
def FInt.oks : List FInt → Prop
  | [] => True
  | x :: r => x.ok ∧ FInt.oks r
abbrev FInt.flat (l : List FInt) : List Cel := l.flatMap FInt.c
theorem FInt.c_eq (z0 : Int) : FInt.c ⟨z0⟩ = [.v (.int .i64 z0)] := by simp [FInt.c]
theorem FInt.len (x : FInt) : x.c.length = 1 := by
  obtain ⟨z0⟩ := x
  rw [FInt.c_eq]
  rfl
theorem FInt.wt_eq (z0 : Int) : FInt.wt ⟨z0⟩ = 0 := by simp [FInt.wt]
theorem FInt.ok_eq (z0 : Int) : FInt.ok ⟨z0⟩ ↔ (True) := by simp [FInt.ok]
theorem FInt.oks_mem : ∀ l : List FInt, FInt.oks l → ∀ x, x ∈ l → x.ok
  | [], _, x, hx => by cases hx
  | y :: r, h, x, hx => by
    unfold FInt.oks at h
    rcases List.mem_cons.1 hx with rfl | hx
    · exact h.1
    · exact FInt.oks_mem r h.2 x hx
theorem FInt.oks_of : ∀ l : List FInt, (∀ x, x ∈ l → x.ok) → FInt.oks l
  | [], _ => by unfold FInt.oks; trivial
  | y :: r, h => by
    unfold FInt.oks
    exact ⟨h y (by simp), FInt.oks_of r fun x hx => h x (by simp [hx])⟩
theorem FInt.wts_take : ∀ (l : List FInt) (k : Nat) (x : FInt), l[k]? = some x → FInt.wts (l.take (k + 1)) = FInt.wts (l.take k) + x.wt
  | [], k, x, h => by simp at h
  | y :: r, 0, x, h => by
    obtain rfl : y = x := by simpa using h
    simp [FInt.wts]
  | y :: r, k + 1, x, h => by
    rw [List.take_succ_cons, List.take_succ_cons, FInt.wts, FInt.wts, FInt.wts_take r k x (by simpa using h)]
    omega
theorem FInt.wts_le : ∀ (l : List FInt) (k : Nat), FInt.wts (l.take k) ≤ FInt.wts l
  | [], k => by simp
  | y :: r, 0 => by simp [FInt.wts]
  | y :: r, k + 1 => by
    rw [List.take_succ_cons, FInt.wts, FInt.wts]
    have := FInt.wts_le r k
    omega
theorem FInt.wts_at : ∀ (l : List FInt) (x : FInt), x ∈ l → x.wt ≤ FInt.wts l
  | [], x, h => by cases h
  | y :: r, x, h => by
    unfold FInt.wts
    rcases List.mem_cons.1 h with rfl | h
    · omega
    · have := FInt.wts_at r x h
      omega

theorem read_string {H : Type} {enc : TypeId × Value → H} {w : World} {base : Nat} {spare : Nat → Bool} {held : Bool} (n : Nat) (cs : List Value) (y : DataW H × List MemPlace) (h : DataW.trod enc Tryd.prog w base spare held n 9 cs = some y) : ∃ x : FStr, RdVs w w.heap.size x.c cs ∧ x.ok := by
  obtain ⟨s, rfl, _, hs⟩ := DataW.trod_string Tryd.underlying9 h
  unfold maxLen at hs
  exact ⟨⟨s⟩, RdVs.cons (by unfold RdC; rfl) (RdVs.nil _ _), hs⟩
theorem read_int {H : Type} {enc : TypeId × Value → H} {w : World} {base : Nat} {spare : Nat → Bool} {held : Bool} (n : Nat) (cs : List Value) (y : DataW H × List MemPlace) (h : DataW.trod enc Tryd.prog w base spare held n 3 cs = some y) : ∃ x : FInt, RdVs w w.heap.size x.c cs ∧ x.ok := by
  obtain ⟨s, rfl, _, _⟩ := DataW.trod_int Tryd.underlying3 h
  exact ⟨⟨s⟩, RdVs.cons (by unfold RdC; rfl) (RdVs.nil _ _), trivial⟩
/-! ### File -/
structure FFile where
  a0 : ByteArray
  a1 : ByteArray
  a2 : Int
def FFile.c : FFile → List Cel
  | ⟨a0, a1, a2⟩ => [.v (.string a0), .v (.string a1), .v (.int .i64 a2)]
def FFile.wt : FFile → Nat
  | ⟨a0, a1, a2⟩ => a0.size + a1.size
def FFile.ok : FFile → Prop
  | ⟨a0, a1, a2⟩ => a0.size ≤ 9223372036854775807 ∧ a1.size ≤ 9223372036854775807
def FFile.wts : List FFile → Nat
  | [] => 0
  | x :: r => x.wt + FFile.wts r
def FFile.oks : List FFile → Prop
  | [] => True
  | x :: r => x.ok ∧ FFile.oks r
abbrev FFile.flat (l : List FFile) : List Cel := l.flatMap FFile.c
theorem FFile.c_eq (z0 : ByteArray) (z1 : ByteArray) (z2 : Int) : FFile.c ⟨z0, z1, z2⟩ = [.v (.string z0), .v (.string z1), .v (.int .i64 z2)] := by simp [FFile.c]
theorem FFile.len (x : FFile) : x.c.length = 3 := by
  obtain ⟨z0, z1, z2⟩ := x
  rw [FFile.c_eq]
  rfl
theorem FFile.wt_eq (z0 : ByteArray) (z1 : ByteArray) (z2 : Int) : FFile.wt ⟨z0, z1, z2⟩ = z0.size + z1.size := by simp [FFile.wt, Nat.add_assoc]
theorem FFile.ok_eq (z0 : ByteArray) (z1 : ByteArray) (z2 : Int) : FFile.ok ⟨z0, z1, z2⟩ ↔ (z0.size ≤ 9223372036854775807 ∧ z1.size ≤ 9223372036854775807) := by simp [FFile.ok, and_assoc]
theorem FFile.oks_mem : ∀ l : List FFile, FFile.oks l → ∀ x, x ∈ l → x.ok
  | [], _, x, hx => by cases hx
  | y :: r, h, x, hx => by
    unfold FFile.oks at h
    rcases List.mem_cons.1 hx with rfl | hx
    · exact h.1
    · exact FFile.oks_mem r h.2 x hx
theorem FFile.oks_of : ∀ l : List FFile, (∀ x, x ∈ l → x.ok) → FFile.oks l
  | [], _ => by unfold FFile.oks; trivial
  | y :: r, h => by
    unfold FFile.oks
    exact ⟨h y (by simp), FFile.oks_of r fun x hx => h x (by simp [hx])⟩
theorem FFile.wts_take : ∀ (l : List FFile) (k : Nat) (x : FFile), l[k]? = some x → FFile.wts (l.take (k + 1)) = FFile.wts (l.take k) + x.wt
  | [], k, x, h => by simp at h
  | y :: r, 0, x, h => by
    obtain rfl : y = x := by simpa using h
    simp [FFile.wts]
  | y :: r, k + 1, x, h => by
    rw [List.take_succ_cons, List.take_succ_cons, FFile.wts, FFile.wts, FFile.wts_take r k x (by simpa using h)]
    omega
theorem FFile.wts_le : ∀ (l : List FFile) (k : Nat), FFile.wts (l.take k) ≤ FFile.wts l
  | [], k => by simp
  | y :: r, 0 => by simp [FFile.wts]
  | y :: r, k + 1 => by
    rw [List.take_succ_cons, FFile.wts, FFile.wts]
    have := FFile.wts_le r k
    omega
theorem FFile.wts_at : ∀ (l : List FFile) (x : FFile), x ∈ l → x.wt ≤ FFile.wts l
  | [], x, h => by cases h
  | y :: r, x, h => by
    unfold FFile.wts
    rcases List.mem_cons.1 h with rfl | h
    · omega
    · have := FFile.wts_at r x h
      omega
end Go.Proofs.YtnkidlahmplgnaaDoor
