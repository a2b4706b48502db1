/-
  The data of the types string, int, Key, Entry, Value, Binding: their cells, their sizes, and how the arguments of the laws read. Conditions: none.
-/
import Derived.Test.YtgbeenieacnanaaDoorDeep
namespace Go.Proofs.YtgbeenieacnanaaDoor
open Go.ChangeShapes Go.WideShapes Go.ChangeAt Go.RowKit Go.Deep Go.Joins
open Go.ChangeMaps (open_string shut_string)
set_option linter.unusedVariables false
set_option linter.unusedSimpArgs false
set_option maxRecDepth 100000
/-! ### string -/
structure FStr where
  a0 : ByteArray
def FStr.c : FStr → List Cel
  | ⟨a0⟩ => [.v (.string a0)]
def FStr.wt : FStr → Nat
  | ⟨a0⟩ => a0.size
def FStr.ok : FStr → Prop
  | ⟨a0⟩ => a0.size ≤ 9223372036854775807
def FStr.wts : List FStr → Nat
  | [] => 0
  | x :: r => x.wt + FStr.wts r
def FStr.oks : List FStr → Prop
  | [] => True
  | x :: r => x.ok ∧ FStr.oks r
abbrev FStr.flat (l : List FStr) : List Cel := l.flatMap FStr.c
theorem FStr.c_eq (z0 : ByteArray) : FStr.c ⟨z0⟩ = [.v (.string z0)] := by simp [FStr.c]
theorem FStr.len (x : FStr) : x.c.length = 1 := by
  obtain ⟨z0⟩ := x
  rw [FStr.c_eq]
  rfl
theorem FStr.wt_eq (z0 : ByteArray) : FStr.wt ⟨z0⟩ = z0.size := by simp [FStr.wt]
theorem FStr.ok_eq (z0 : ByteArray) : FStr.ok ⟨z0⟩ ↔ (z0.size ≤ 9223372036854775807) := by simp [FStr.ok]
theorem FStr.oks_mem : ∀ l : List FStr, FStr.oks l → ∀ x, x ∈ l → x.ok
  | [], _, x, hx => by cases hx
  | y :: r, h, x, hx => by
    unfold FStr.oks at h
    rcases List.mem_cons.1 hx with rfl | hx
    · exact h.1
    · exact FStr.oks_mem r h.2 x hx
theorem FStr.oks_of : ∀ l : List FStr, (∀ x, x ∈ l → x.ok) → FStr.oks l
  | [], _ => by unfold FStr.oks; trivial
  | y :: r, h => by
    unfold FStr.oks
    exact ⟨h y (by simp), FStr.oks_of r fun x hx => h x (by simp [hx])⟩
theorem FStr.wts_take : ∀ (l : List FStr) (k : Nat) (x : FStr), l[k]? = some x → FStr.wts (l.take (k + 1)) = FStr.wts (l.take k) + x.wt
  | [], k, x, h => by simp at h
  | y :: r, 0, x, h => by
    obtain rfl : y = x := by simpa using h
    simp [FStr.wts]
  | y :: r, k + 1, x, h => by
    rw [List.take_succ_cons, List.take_succ_cons, FStr.wts, FStr.wts, FStr.wts_take r k x (by simpa using h)]
    omega
theorem FStr.wts_le : ∀ (l : List FStr) (k : Nat), FStr.wts (l.take k) ≤ FStr.wts l
  | [], k => by simp
  | y :: r, 0 => by simp [FStr.wts]
  | y :: r, k + 1 => by
    rw [List.take_succ_cons, FStr.wts, FStr.wts]
    have := FStr.wts_le r k
    omega
theorem FStr.wts_at : ∀ (l : List FStr) (x : FStr), x ∈ l → x.wt ≤ FStr.wts l
  | [], x, h => by cases h
  | y :: r, x, h => by
    unfold FStr.wts
    rcases List.mem_cons.1 h with rfl | h
    · omega
    · have := FStr.wts_at r x h
      omega
/-! ### int -/
structure FInt where
  a0 : Int
def FInt.c : FInt → List Cel
  | ⟨a0⟩ => [.v (.int .i64 a0)]
def FInt.wt : FInt → Nat
  | ⟨a0⟩ => 0
def FInt.ok : FInt → Prop
  | ⟨a0⟩ => True
def FInt.wts : List FInt → Nat
  | [] => 0
  | x :: r => x.wt + FInt.wts r
def FInt.oks : List FInt → Prop
  | [] => True
  | x :: r => x.ok ∧ FInt.oks r
abbrev FInt.flat (l : List FInt) : List Cel := l.flatMap FInt.c
theorem FInt.c_eq (z0 : Int) : FInt.c ⟨z0⟩ = [.v (.int .i64 z0)] := by simp [FInt.c]
theorem FInt.len (x : FInt) : x.c.length = 1 := by
  obtain ⟨z0⟩ := x
  rw [FInt.c_eq]
  rfl
theorem FInt.wt_eq (z0 : Int) : FInt.wt ⟨z0⟩ = 0 := by simp [FInt.wt]
theorem FInt.ok_eq (z0 : Int) : FInt.ok ⟨z0⟩ ↔ (True) := by simp [FInt.ok]
theorem FInt.oks_mem : ∀ l : List FInt, FInt.oks l → ∀ x, x ∈ l → x.ok
  | [], _, x, hx => by cases hx
  | y :: r, h, x, hx => by
    unfold FInt.oks at h
    rcases List.mem_cons.1 hx with rfl | hx
    · exact h.1
    · exact FInt.oks_mem r h.2 x hx
theorem FInt.oks_of : ∀ l : List FInt, (∀ x, x ∈ l → x.ok) → FInt.oks l
  | [], _ => by unfold FInt.oks; trivial
  | y :: r, h => by
    unfold FInt.oks
    exact ⟨h y (by simp), FInt.oks_of r fun x hx => h x (by simp [hx])⟩
theorem FInt.wts_take : ∀ (l : List FInt) (k : Nat) (x : FInt), l[k]? = some x → FInt.wts (l.take (k + 1)) = FInt.wts (l.take k) + x.wt
  | [], k, x, h => by simp at h
  | y :: r, 0, x, h => by
    obtain rfl : y = x := by simpa using h
    simp [FInt.wts]
  | y :: r, k + 1, x, h => by
    rw [List.take_succ_cons, List.take_succ_cons, FInt.wts, FInt.wts, FInt.wts_take r k x (by simpa using h)]
    omega
theorem FInt.wts_le : ∀ (l : List FInt) (k : Nat), FInt.wts (l.take k) ≤ FInt.wts l
  | [], k => by simp
  | y :: r, 0 => by simp [FInt.wts]
  | y :: r, k + 1 => by
    rw [List.take_succ_cons, FInt.wts, FInt.wts]
    have := FInt.wts_le r k
    omega
theorem FInt.wts_at : ∀ (l : List FInt) (x : FInt), x ∈ l → x.wt ≤ FInt.wts l
  | [], x, h => by cases h
  | y :: r, x, h => by
    unfold FInt.wts
    rcases List.mem_cons.1 h with rfl | h
    · omega
    · have := FInt.wts_at r x h
      omega

theorem read_string {H : Type} {enc : TypeId × Value → H} {w : World} {base : Nat} {spare : Nat → Bool} {held : Bool} (n : Nat) (cs : List Value) (y : DataW H × List MemPlace) (h : DataW.trod enc Tryd.prog w base spare held n 9 cs = some y) : ∃ x : FStr, RdVs w w.heap.size x.c cs ∧ x.ok := by
  obtain ⟨s, rfl, _, hs⟩ := DataW.trod_string Tryd.underlying9 h
  unfold maxLen at hs
  exact ⟨⟨s⟩, RdVs.cons (by unfold RdC; rfl) (RdVs.nil _ _), hs⟩
theorem read_int {H : Type} {enc : TypeId × Value → H} {w : World} {base : Nat} {spare : Nat → Bool} {held : Bool} (n : Nat) (cs : List Value) (y : DataW H × List MemPlace) (h : DataW.trod enc Tryd.prog w base spare held n 3 cs = some y) : ∃ x : FInt, RdVs w w.heap.size x.c cs ∧ x.ok := by
  obtain ⟨s, rfl, _, _⟩ := DataW.trod_int Tryd.underlying3 h
  exact ⟨⟨s⟩, RdVs.cons (by unfold RdC; rfl) (RdVs.nil _ _), trivial⟩
/-! ### Key -/
structure FKey where
  a0 : Bool
  a1 : Int
  a2 : ByteArray
def FKey.c : FKey → List Cel
  | ⟨a0, a1, a2⟩ => [.v (.bool a0), .v (.int .i64 a1), .v (.string a2)]
def FKey.wt : FKey → Nat
  | ⟨a0, a1, a2⟩ => a2.size
def FKey.ok : FKey → Prop
  | ⟨a0, a1, a2⟩ => a2.size ≤ 9223372036854775807
def FKey.wts : List FKey → Nat
  | [] => 0
  | x :: r => x.wt + FKey.wts r
def FKey.oks : List FKey → Prop
  | [] => True
  | x :: r => x.ok ∧ FKey.oks r
abbrev FKey.flat (l : List FKey) : List Cel := l.flatMap FKey.c
theorem FKey.c_eq (z0 : Bool) (z1 : Int) (z2 : ByteArray) : FKey.c ⟨z0, z1, z2⟩ = [.v (.bool z0), .v (.int .i64 z1), .v (.string z2)] := by simp [FKey.c]
theorem FKey.len (x : FKey) : x.c.length = 3 := by
  obtain ⟨z0, z1, z2⟩ := x
  rw [FKey.c_eq]
  rfl
theorem FKey.wt_eq (z0 : Bool) (z1 : Int) (z2 : ByteArray) : FKey.wt ⟨z0, z1, z2⟩ = z2.size := by simp [FKey.wt]
theorem FKey.ok_eq (z0 : Bool) (z1 : Int) (z2 : ByteArray) : FKey.ok ⟨z0, z1, z2⟩ ↔ (z2.size ≤ 9223372036854775807) := by simp [FKey.ok]
theorem FKey.oks_mem : ∀ l : List FKey, FKey.oks l → ∀ x, x ∈ l → x.ok
  | [], _, x, hx => by cases hx
  | y :: r, h, x, hx => by
    unfold FKey.oks at h
    rcases List.mem_cons.1 hx with rfl | hx
    · exact h.1
    · exact FKey.oks_mem r h.2 x hx
theorem FKey.oks_of : ∀ l : List FKey, (∀ x, x ∈ l → x.ok) → FKey.oks l
  | [], _ => by unfold FKey.oks; trivial
  | y :: r, h => by
    unfold FKey.oks
    exact ⟨h y (by simp), FKey.oks_of r fun x hx => h x (by simp [hx])⟩
theorem FKey.wts_take : ∀ (l : List FKey) (k : Nat) (x : FKey), l[k]? = some x → FKey.wts (l.take (k + 1)) = FKey.wts (l.take k) + x.wt
  | [], k, x, h => by simp at h
  | y :: r, 0, x, h => by
    obtain rfl : y = x := by simpa using h
    simp [FKey.wts]
  | y :: r, k + 1, x, h => by
    rw [List.take_succ_cons, List.take_succ_cons, FKey.wts, FKey.wts, FKey.wts_take r k x (by simpa using h)]
    omega
theorem FKey.wts_le : ∀ (l : List FKey) (k : Nat), FKey.wts (l.take k) ≤ FKey.wts l
  | [], k => by simp
  | y :: r, 0 => by simp [FKey.wts]
  | y :: r, k + 1 => by
    rw [List.take_succ_cons, FKey.wts, FKey.wts]
    have := FKey.wts_le r k
    omega
theorem FKey.wts_at : ∀ (l : List FKey) (x : FKey), x ∈ l → x.wt ≤ FKey.wts l
  | [], x, h => by cases h
  | y :: r, x, h => by
    unfold FKey.wts
    rcases List.mem_cons.1 h with rfl | h
    · omega
    · have := FKey.wts_at r x h
      omega
def ReadKey {H : Type} (enc : TypeId × Value → H) (w : World) (base : Nat) (spare : Nat → Bool) (held : Bool) (n : Nat) : Prop := ∀ (cs : List Value) (y : DataW H × List MemPlace), DataW.trod enc Tryd.prog w base spare held n 67 cs = some y → ∃ x : FKey, RdVs w w.heap.size x.c cs ∧ x.ok
theorem read_Key_of {H : Type} {enc : TypeId × Value → H} {w : World} {base : Nat} {spare : Nat → Bool} {held : Bool} (n : Nat) : ReadKey enc w base spare held n := by
  intro cs y h
  obtain ⟨hl, n1, rfl, hf⟩ := struct_span (by kernel_rfl) h
  have hC : Tryd.prog.cellsOf 67 = 3 := by kernel_rfl
  rw [hC] at hl
  obtain ⟨y0, t0⟩ := hf 0 4 0 1 (by kernel_rfl)
  obtain ⟨z0, e0, _⟩ := DataW.trod_bool Tryd.underlying4 t0
  obtain ⟨y1, t1⟩ := hf 1 3 1 1 (by kernel_rfl)
  obtain ⟨z1, e1, _, g1⟩ := DataW.trod_int Tryd.underlying3 t1
  obtain ⟨y2, t2⟩ := hf 2 9 2 1 (by kernel_rfl)
  obtain ⟨z2, e2, _, k2⟩ := DataW.trod_string Tryd.underlying9 t2
  have hcs := cut_all hl
  have q0 := cut_step 0 1 2 (us := cs)
  have q1 := cut_step 1 1 1 (us := cs)
  refine ⟨⟨z0, z1, z2⟩, ?_, ?_⟩
  · rw [FKey.c_eq, hcs]
    rw [show (cs.drop 0).take 3 = (cs.drop 0).take 1 ++ (cs.drop 1).take 2 from q0]
    rw [show (cs.drop 1).take 2 = (cs.drop 1).take 1 ++ (cs.drop 2).take 1 from q1]
    rw [e0]
    rw [e1]
    rw [e2]
    exact (RdVs.cons (by unfold RdC; rfl) (RdVs.cons (by unfold RdC; rfl) (RdVs.cons (by unfold RdC; rfl) (RdVs.nil _ _))))
  · rw [FKey.ok_eq]
    have j2 := k2
    unfold maxLen at j2
    exact j2
theorem read_Key {H : Type} {enc : TypeId × Value → H} {w : World} {base : Nat} {spare : Nat → Bool} {held : Bool} (n : Nat) : ReadKey enc w base spare held n := read_Key_of n
/-! ### Entry, Value -/
mutual
inductive FEntry where
  | mk (a0 : FKey) (a1 : FValue)
inductive FValue where
  | mk (a0 : Int) (a1 : Int) (a2 : ByteArray) (a3 : Int) (a4 : List FEntry)
end
mutual
def FEntry.c : FEntry → List Cel
  | .mk a0 a1 => FKey.c a0 ++ FValue.c a1
def FValue.c : FValue → List Cel
  | .mk a0 a1 a2 a3 a4 => [.v (.int .i64 a0), .v (.int .i64 a1), .v (.string a2), .v (.int .i64 a3), .s 73 8 a4.length (FEntry.cs a4)]
def FEntry.cs : List FEntry → List Cel
  | [] => []
  | x :: r => x.c ++ FEntry.cs r
end
mutual
def FEntry.wt : FEntry → Nat
  | .mk a0 a1 => FKey.wt a0 + FValue.wt a1
def FValue.wt : FValue → Nat
  | .mk a0 a1 a2 a3 a4 => a2.size + (a4.length + FEntry.wts a4)
def FEntry.wts : List FEntry → Nat
  | [] => 0
  | x :: r => x.wt + FEntry.wts r
end
mutual
def FEntry.ok : FEntry → Prop
  | .mk a0 a1 => FKey.ok a0 ∧ FValue.ok a1
def FValue.ok : FValue → Prop
  | .mk a0 a1 a2 a3 a4 => a2.size ≤ 9223372036854775807 ∧ FEntry.oks a4
def FEntry.oks : List FEntry → Prop
  | [] => True
  | x :: r => x.ok ∧ FEntry.oks r
end
abbrev FEntry.flat (l : List FEntry) : List Cel := l.flatMap FEntry.c
theorem FEntry.cs_eq : ∀ l : List FEntry, FEntry.cs l = FEntry.flat l
  | [] => by simp [FEntry.cs]
  | x :: r => by rw [FEntry.cs, FEntry.cs_eq r]; simp [FEntry.flat]
def FValue.wts : List FValue → Nat
  | [] => 0
  | x :: r => x.wt + FValue.wts r
def FValue.oks : List FValue → Prop
  | [] => True
  | x :: r => x.ok ∧ FValue.oks r
abbrev FValue.flat (l : List FValue) : List Cel := l.flatMap FValue.c
theorem FEntry.c_eq (z0 : Bool) (z1 : Int) (z2 : ByteArray) (z3 : Int) (z4 : Int) (z5 : ByteArray) (z6 : Int) (z7 : List FEntry) : FEntry.c ⟨⟨z0, z1, z2⟩, ⟨z3, z4, z5, z6, z7⟩⟩ = [.v (.bool z0), .v (.int .i64 z1), .v (.string z2), .v (.int .i64 z3), .v (.int .i64 z4), .v (.string z5), .v (.int .i64 z6), .s 73 8 z7.length (FEntry.flat z7)] := by simp [FEntry.c, FKey.c, FValue.c, FEntry.cs_eq]
theorem FEntry.len (x : FEntry) : x.c.length = 8 := by
  obtain ⟨⟨z0, z1, z2⟩, ⟨z3, z4, z5, z6, z7⟩⟩ := x
  rw [FEntry.c_eq]
  rfl
theorem FEntry.wt_eq (z0 : Bool) (z1 : Int) (z2 : ByteArray) (z3 : Int) (z4 : Int) (z5 : ByteArray) (z6 : Int) (z7 : List FEntry) : FEntry.wt ⟨⟨z0, z1, z2⟩, ⟨z3, z4, z5, z6, z7⟩⟩ = z2.size + z5.size + (z7.length + FEntry.wts z7) := by simp [FEntry.wt, FKey.wt, FValue.wt, Nat.add_assoc]
theorem FEntry.ok_eq (z0 : Bool) (z1 : Int) (z2 : ByteArray) (z3 : Int) (z4 : Int) (z5 : ByteArray) (z6 : Int) (z7 : List FEntry) : FEntry.ok ⟨⟨z0, z1, z2⟩, ⟨z3, z4, z5, z6, z7⟩⟩ ↔ (z2.size ≤ 9223372036854775807 ∧ z5.size ≤ 9223372036854775807 ∧ FEntry.oks z7) := by simp [FEntry.ok, FKey.ok, FValue.ok, and_assoc]
theorem FEntry.oks_mem : ∀ l : List FEntry, FEntry.oks l → ∀ x, x ∈ l → x.ok
  | [], _, x, hx => by cases hx
  | y :: r, h, x, hx => by
    unfold FEntry.oks at h
    rcases List.mem_cons.1 hx with rfl | hx
    · exact h.1
    · exact FEntry.oks_mem r h.2 x hx
theorem FEntry.oks_of : ∀ l : List FEntry, (∀ x, x ∈ l → x.ok) → FEntry.oks l
  | [], _ => by unfold FEntry.oks; trivial
  | y :: r, h => by
    unfold FEntry.oks
    exact ⟨h y (by simp), FEntry.oks_of r fun x hx => h x (by simp [hx])⟩
theorem FEntry.wts_take : ∀ (l : List FEntry) (k : Nat) (x : FEntry), l[k]? = some x → FEntry.wts (l.take (k + 1)) = FEntry.wts (l.take k) + x.wt
  | [], k, x, h => by simp at h
  | y :: r, 0, x, h => by
    obtain rfl : y = x := by simpa using h
    simp [FEntry.wts]
  | y :: r, k + 1, x, h => by
    rw [List.take_succ_cons, List.take_succ_cons, FEntry.wts, FEntry.wts, FEntry.wts_take r k x (by simpa using h)]
    omega
theorem FEntry.wts_le : ∀ (l : List FEntry) (k : Nat), FEntry.wts (l.take k) ≤ FEntry.wts l
  | [], k => by simp
  | y :: r, 0 => by simp [FEntry.wts]
  | y :: r, k + 1 => by
    rw [List.take_succ_cons, FEntry.wts, FEntry.wts]
    have := FEntry.wts_le r k
    omega
theorem FEntry.wts_at : ∀ (l : List FEntry) (x : FEntry), x ∈ l → x.wt ≤ FEntry.wts l
  | [], x, h => by cases h
  | y :: r, x, h => by
    unfold FEntry.wts
    rcases List.mem_cons.1 h with rfl | h
    · omega
    · have := FEntry.wts_at r x h
      omega
theorem FValue.c_eq (z0 : Int) (z1 : Int) (z2 : ByteArray) (z3 : Int) (z4 : List FEntry) : FValue.c ⟨z0, z1, z2, z3, z4⟩ = [.v (.int .i64 z0), .v (.int .i64 z1), .v (.string z2), .v (.int .i64 z3), .s 73 8 z4.length (FEntry.flat z4)] := by simp [FValue.c, FEntry.cs_eq]
theorem FValue.len (x : FValue) : x.c.length = 5 := by
  obtain ⟨z0, z1, z2, z3, z4⟩ := x
  rw [FValue.c_eq]
  rfl
theorem FValue.wt_eq (z0 : Int) (z1 : Int) (z2 : ByteArray) (z3 : Int) (z4 : List FEntry) : FValue.wt ⟨z0, z1, z2, z3, z4⟩ = z2.size + (z4.length + FEntry.wts z4) := by simp [FValue.wt, Nat.add_assoc]
theorem FValue.ok_eq (z0 : Int) (z1 : Int) (z2 : ByteArray) (z3 : Int) (z4 : List FEntry) : FValue.ok ⟨z0, z1, z2, z3, z4⟩ ↔ (z2.size ≤ 9223372036854775807 ∧ FEntry.oks z4) := by simp [FValue.ok, and_assoc]
theorem FValue.oks_mem : ∀ l : List FValue, FValue.oks l → ∀ x, x ∈ l → x.ok
  | [], _, x, hx => by cases hx
  | y :: r, h, x, hx => by
    unfold FValue.oks at h
    rcases List.mem_cons.1 hx with rfl | hx
    · exact h.1
    · exact FValue.oks_mem r h.2 x hx
theorem FValue.oks_of : ∀ l : List FValue, (∀ x, x ∈ l → x.ok) → FValue.oks l
  | [], _ => by unfold FValue.oks; trivial
  | y :: r, h => by
    unfold FValue.oks
    exact ⟨h y (by simp), FValue.oks_of r fun x hx => h x (by simp [hx])⟩
theorem FValue.wts_take : ∀ (l : List FValue) (k : Nat) (x : FValue), l[k]? = some x → FValue.wts (l.take (k + 1)) = FValue.wts (l.take k) + x.wt
  | [], k, x, h => by simp at h
  | y :: r, 0, x, h => by
    obtain rfl : y = x := by simpa using h
    simp [FValue.wts]
  | y :: r, k + 1, x, h => by
    rw [List.take_succ_cons, List.take_succ_cons, FValue.wts, FValue.wts, FValue.wts_take r k x (by simpa using h)]
    omega
theorem FValue.wts_le : ∀ (l : List FValue) (k : Nat), FValue.wts (l.take k) ≤ FValue.wts l
  | [], k => by simp
  | y :: r, 0 => by simp [FValue.wts]
  | y :: r, k + 1 => by
    rw [List.take_succ_cons, FValue.wts, FValue.wts]
    have := FValue.wts_le r k
    omega
theorem FValue.wts_at : ∀ (l : List FValue) (x : FValue), x ∈ l → x.wt ≤ FValue.wts l
  | [], x, h => by cases h
  | y :: r, x, h => by
    unfold FValue.wts
    rcases List.mem_cons.1 h with rfl | h
    · omega
    · have := FValue.wts_at r x h
      omega
def ReadEntry {H : Type} (enc : TypeId × Value → H) (w : World) (base : Nat) (spare : Nat → Bool) (held : Bool) (n : Nat) : Prop := ∀ (cs : List Value) (y : DataW H × List MemPlace), DataW.trod enc Tryd.prog w base spare held n 69 cs = some y → ∃ x : FEntry, RdVs w w.heap.size x.c cs ∧ x.ok
def ReadValue {H : Type} (enc : TypeId × Value → H) (w : World) (base : Nat) (spare : Nat → Bool) (held : Bool) (n : Nat) : Prop := ∀ (cs : List Value) (y : DataW H × List MemPlace), DataW.trod enc Tryd.prog w base spare held n 24 cs = some y → ∃ x : FValue, RdVs w w.heap.size x.c cs ∧ x.ok
theorem read_Entry_of {H : Type} {enc : TypeId × Value → H} {w : World} {base : Nat} {spare : Nat → Bool} {held : Bool} (n : Nat) (HValue : ∀ m, m < n → ReadValue enc w base spare held m) : ReadEntry enc w base spare held n := by
  intro cs y h
  obtain ⟨hl, n1, rfl, hf⟩ := struct_span (by kernel_rfl) h
  have hC : Tryd.prog.cellsOf 69 = 8 := by kernel_rfl
  rw [hC] at hl
  obtain ⟨y0, t0⟩ := hf 0 67 0 3 (by kernel_rfl)
  obtain ⟨x0, r0, k0⟩ := read_Key n1 _ _ t0
  obtain ⟨z0, z1, z2⟩ := x0
  rw [FKey.c_eq] at r0
  rw [FKey.ok_eq] at k0
  obtain ⟨y1, t1⟩ := hf 1 24 3 5 (by kernel_rfl)
  obtain ⟨x1, r1, k1⟩ := HValue n1 (Nat.lt_succ_self _) _ _ t1
  obtain ⟨z3, z4, z5, z6, z7⟩ := x1
  rw [FValue.c_eq] at r1
  rw [FValue.ok_eq] at k1
  have hcs := cut_all hl
  have q0 := cut_step 0 3 5 (us := cs)
  refine ⟨⟨⟨z0, z1, z2⟩, ⟨z3, z4, z5, z6, z7⟩⟩, ?_, ?_⟩
  · rw [FEntry.c_eq, hcs]
    rw [show (cs.drop 0).take 8 = (cs.drop 0).take 3 ++ (cs.drop 3).take 5 from q0]
    exact (RdVs.app r0 r1)
  · rw [FEntry.ok_eq]
    exact ⟨k0, k1.1, k1.2⟩
theorem read_Value_of {H : Type} {enc : TypeId × Value → H} {w : World} {base : Nat} {spare : Nat → Bool} {held : Bool} (n : Nat) (HEntry : ∀ m, m < n → ReadEntry enc w base spare held m) : ReadValue enc w base spare held n := by
  intro cs y h
  obtain ⟨hl, n1, rfl, hf⟩ := struct_span (by kernel_rfl) h
  have hC : Tryd.prog.cellsOf 24 = 5 := by kernel_rfl
  rw [hC] at hl
  obtain ⟨y0, t0⟩ := hf 0 3 0 1 (by kernel_rfl)
  obtain ⟨z0, e0, _, g0⟩ := DataW.trod_int Tryd.underlying3 t0
  obtain ⟨y1, t1⟩ := hf 1 3 1 1 (by kernel_rfl)
  obtain ⟨z1, e1, _, g1⟩ := DataW.trod_int Tryd.underlying3 t1
  obtain ⟨y2, t2⟩ := hf 2 9 2 1 (by kernel_rfl)
  obtain ⟨z2, e2, _, k2⟩ := DataW.trod_string Tryd.underlying9 t2
  obtain ⟨y3, t3⟩ := hf 3 3 3 1 (by kernel_rfl)
  obtain ⟨z3, e3, _, g3⟩ := DataW.trod_int Tryd.underlying3 t3
  obtain ⟨y4, t4⟩ := hf 4 22 4 1 (by kernel_rfl)
  obtain ⟨v4, z4, e4, r4, k4⟩ := open_deep (ok := FEntry.ok) 73 FEntry.len (by omega) Tryd.underlying22 (by kernel_rfl) (fun m cs1 y1 hm h1 => HEntry m (by omega) cs1 y1 h1) t4
  have hcs := cut_all hl
  have q0 := cut_step 0 1 4 (us := cs)
  have q1 := cut_step 1 1 3 (us := cs)
  have q2 := cut_step 2 1 2 (us := cs)
  have q3 := cut_step 3 1 1 (us := cs)
  refine ⟨⟨z0, z1, z2, z3, z4⟩, ?_, ?_⟩
  · rw [FValue.c_eq, hcs]
    rw [show (cs.drop 0).take 5 = (cs.drop 0).take 1 ++ (cs.drop 1).take 4 from q0]
    rw [show (cs.drop 1).take 4 = (cs.drop 1).take 1 ++ (cs.drop 2).take 3 from q1]
    rw [show (cs.drop 2).take 3 = (cs.drop 2).take 1 ++ (cs.drop 3).take 2 from q2]
    rw [show (cs.drop 3).take 2 = (cs.drop 3).take 1 ++ (cs.drop 4).take 1 from q3]
    rw [e0]
    rw [e1]
    rw [e2]
    rw [e3]
    rw [e4]
    exact (RdVs.cons (by unfold RdC; rfl) (RdVs.cons (by unfold RdC; rfl) (RdVs.cons (by unfold RdC; rfl) (RdVs.cons (by unfold RdC; rfl) (RdVs.cons r4 (RdVs.nil _ _))))))
  · rw [FValue.ok_eq]
    have j2 := k2
    unfold maxLen at j2
    exact ⟨j2, FEntry.oks_of _ k4⟩
theorem read_Entry_Value_all {H : Type} {enc : TypeId × Value → H} {w : World} {base : Nat} {spare : Nat → Bool} {held : Bool} (n : Nat) : ReadEntry enc w base spare held n ∧ ReadValue enc w base spare held n := by
  induction n using Nat.strongRecOn with
  | ind n ih =>
    exact ⟨read_Entry_of n (fun m hm => (ih m hm).2), read_Value_of n (fun m hm => (ih m hm).1)⟩
theorem read_Entry {H : Type} {enc : TypeId × Value → H} {w : World} {base : Nat} {spare : Nat → Bool} {held : Bool} (n : Nat) : ReadEntry enc w base spare held n := (read_Entry_Value_all n).1
theorem read_Value {H : Type} {enc : TypeId × Value → H} {w : World} {base : Nat} {spare : Nat → Bool} {held : Bool} (n : Nat) : ReadValue enc w base spare held n := (read_Entry_Value_all n).2
/-! ### Binding -/
structure FBinding where
  a0 : ByteArray
  a1 : FValue
def FBinding.c : FBinding → List Cel
  | ⟨a0, a1⟩ => [.v (.string a0)] ++ FValue.c a1
def FBinding.wt : FBinding → Nat
  | ⟨a0, a1⟩ => a0.size + FValue.wt a1
def FBinding.ok : FBinding → Prop
  | ⟨a0, a1⟩ => a0.size ≤ 9223372036854775807 ∧ FValue.ok a1
def FBinding.wts : List FBinding → Nat
  | [] => 0
  | x :: r => x.wt + FBinding.wts r
def FBinding.oks : List FBinding → Prop
  | [] => True
  | x :: r => x.ok ∧ FBinding.oks r
abbrev FBinding.flat (l : List FBinding) : List Cel := l.flatMap FBinding.c
theorem FBinding.c_eq (z0 : ByteArray) (z1 : Int) (z2 : Int) (z3 : ByteArray) (z4 : Int) (z5 : List FEntry) : FBinding.c ⟨z0, ⟨z1, z2, z3, z4, z5⟩⟩ = [.v (.string z0), .v (.int .i64 z1), .v (.int .i64 z2), .v (.string z3), .v (.int .i64 z4), .s 73 8 z5.length (FEntry.flat z5)] := by simp [FBinding.c, FValue.c, FEntry.cs_eq]
theorem FBinding.len (x : FBinding) : x.c.length = 6 := by
  obtain ⟨z0, ⟨z1, z2, z3, z4, z5⟩⟩ := x
  rw [FBinding.c_eq]
  rfl
theorem FBinding.wt_eq (z0 : ByteArray) (z1 : Int) (z2 : Int) (z3 : ByteArray) (z4 : Int) (z5 : List FEntry) : FBinding.wt ⟨z0, ⟨z1, z2, z3, z4, z5⟩⟩ = z0.size + z3.size + (z5.length + FEntry.wts z5) := by simp [FBinding.wt, FValue.wt, Nat.add_assoc]
theorem FBinding.ok_eq (z0 : ByteArray) (z1 : Int) (z2 : Int) (z3 : ByteArray) (z4 : Int) (z5 : List FEntry) : FBinding.ok ⟨z0, ⟨z1, z2, z3, z4, z5⟩⟩ ↔ (z0.size ≤ 9223372036854775807 ∧ z3.size ≤ 9223372036854775807 ∧ FEntry.oks z5) := by simp [FBinding.ok, FValue.ok, and_assoc]
theorem FBinding.oks_mem : ∀ l : List FBinding, FBinding.oks l → ∀ x, x ∈ l → x.ok
  | [], _, x, hx => by cases hx
  | y :: r, h, x, hx => by
    unfold FBinding.oks at h
    rcases List.mem_cons.1 hx with rfl | hx
    · exact h.1
    · exact FBinding.oks_mem r h.2 x hx
theorem FBinding.oks_of : ∀ l : List FBinding, (∀ x, x ∈ l → x.ok) → FBinding.oks l
  | [], _ => by unfold FBinding.oks; trivial
  | y :: r, h => by
    unfold FBinding.oks
    exact ⟨h y (by simp), FBinding.oks_of r fun x hx => h x (by simp [hx])⟩
theorem FBinding.wts_take : ∀ (l : List FBinding) (k : Nat) (x : FBinding), l[k]? = some x → FBinding.wts (l.take (k + 1)) = FBinding.wts (l.take k) + x.wt
  | [], k, x, h => by simp at h
  | y :: r, 0, x, h => by
    obtain rfl : y = x := by simpa using h
    simp [FBinding.wts]
  | y :: r, k + 1, x, h => by
    rw [List.take_succ_cons, List.take_succ_cons, FBinding.wts, FBinding.wts, FBinding.wts_take r k x (by simpa using h)]
    omega
theorem FBinding.wts_le : ∀ (l : List FBinding) (k : Nat), FBinding.wts (l.take k) ≤ FBinding.wts l
  | [], k => by simp
  | y :: r, 0 => by simp [FBinding.wts]
  | y :: r, k + 1 => by
    rw [List.take_succ_cons, FBinding.wts, FBinding.wts]
    have := FBinding.wts_le r k
    omega
theorem FBinding.wts_at : ∀ (l : List FBinding) (x : FBinding), x ∈ l → x.wt ≤ FBinding.wts l
  | [], x, h => by cases h
  | y :: r, x, h => by
    unfold FBinding.wts
    rcases List.mem_cons.1 h with rfl | h
    · omega
    · have := FBinding.wts_at r x h
      omega
def ReadBinding {H : Type} (enc : TypeId × Value → H) (w : World) (base : Nat) (spare : Nat → Bool) (held : Bool) (n : Nat) : Prop := ∀ (cs : List Value) (y : DataW H × List MemPlace), DataW.trod enc Tryd.prog w base spare held n 58 cs = some y → ∃ x : FBinding, RdVs w w.heap.size x.c cs ∧ x.ok
theorem read_Binding_of {H : Type} {enc : TypeId × Value → H} {w : World} {base : Nat} {spare : Nat → Bool} {held : Bool} (n : Nat) : ReadBinding enc w base spare held n := by
  intro cs y h
  obtain ⟨hl, n1, rfl, hf⟩ := struct_span (by kernel_rfl) h
  have hC : Tryd.prog.cellsOf 58 = 6 := by kernel_rfl
  rw [hC] at hl
  obtain ⟨y0, t0⟩ := hf 0 9 0 1 (by kernel_rfl)
  obtain ⟨z0, e0, _, k0⟩ := DataW.trod_string Tryd.underlying9 t0
  obtain ⟨y1, t1⟩ := hf 1 24 1 5 (by kernel_rfl)
  obtain ⟨x1, r1, k1⟩ := read_Value n1 _ _ t1
  obtain ⟨z1, z2, z3, z4, z5⟩ := x1
  rw [FValue.c_eq] at r1
  rw [FValue.ok_eq] at k1
  have hcs := cut_all hl
  have q0 := cut_step 0 1 5 (us := cs)
  refine ⟨⟨z0, ⟨z1, z2, z3, z4, z5⟩⟩, ?_, ?_⟩
  · rw [FBinding.c_eq, hcs]
    rw [show (cs.drop 0).take 6 = (cs.drop 0).take 1 ++ (cs.drop 1).take 5 from q0]
    rw [e0]
    exact (RdVs.cons (by unfold RdC; rfl) r1)
  · rw [FBinding.ok_eq]
    have j0 := k0
    unfold maxLen at j0
    exact ⟨j0, k1.1, k1.2⟩
theorem read_Binding {H : Type} {enc : TypeId × Value → H} {w : World} {base : Nat} {spare : Nat → Bool} {held : Bool} (n : Nat) : ReadBinding enc w base spare held n := read_Binding_of n
end Go.Proofs.YtgbeenieacnanaaDoor
