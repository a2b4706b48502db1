/-
  Parts of the proof: DataG. Conditions: none.
-/
import Derived.Test.YtdmbhmhfjappcaaGreatDoorQDeep
namespace Go.Proofs.YtdmbhmhfjappcaaGreatDoor
open Go.ChangeShapes Go.WideShapes Go.ChangeAt Go.RowKit Go.Deep Go.Joins
open Go.ChangeMaps (open_string shut_string)
set_option linter.unusedVariables false
set_option linter.unusedSimpArgs false
set_option maxRecDepth 100000
/-! ### string -/
structure FStr where
  a0 : ByteArray
def FStr.c : FStr → List Cel
  | ⟨a0⟩ => [.v (.string a0)]
def FStr.wt : FStr → Nat
  | ⟨a0⟩ => a0.size
def FStr.ok : FStr → Prop
  | ⟨a0⟩ => a0.size ≤ 9223372036854775807
def FStr.wts : List FStr → Nat
  | [] => 0
  | x :: r => x.wt + FStr.wts r
def FStr.oks : List FStr → Prop
  | [] => True
  | x :: r => x.ok ∧ FStr.oks r
abbrev FStr.flat (l : List FStr) : List Cel := l.flatMap FStr.c
theorem FStr.c_eq (z0 : ByteArray) : FStr.c ⟨z0⟩ = [.v (.string z0)] := by simp [FStr.c]
theorem FStr.len (x : FStr) : x.c.length = 1 := by
  obtain ⟨z0⟩ := x
  rw [FStr.c_eq]
  rfl
theorem FStr.wt_eq (z0 : ByteArray) : FStr.wt ⟨z0⟩ = z0.size := by simp [FStr.wt]
theorem FStr.ok_eq (z0 : ByteArray) : FStr.ok ⟨z0⟩ ↔ (z0.size ≤ 9223372036854775807) := by simp [FStr.ok]
theorem FStr.oks_mem : ∀ l : List FStr, FStr.oks l → ∀ x, x ∈ l → x.ok
  | [], _, x, hx => by cases hx
  | y :: r, h, x, hx => by
    unfold FStr.oks at h
    rcases List.mem_cons.1 hx with rfl | hx
    · exact h.1
    · exact FStr.oks_mem r h.2 x hx
theorem FStr.oks_of : ∀ l : List FStr, (∀ x, x ∈ l → x.ok) → FStr.oks l
  | [], _ => by unfold FStr.oks; trivial
  | y :: r, h => by
    unfold FStr.oks
    exact ⟨h y (by simp), FStr.oks_of r fun x hx => h x (by simp [hx])⟩
theorem FStr.wts_take : ∀ (l : List FStr) (k : Nat) (x : FStr), l[k]? = some x → FStr.wts (l.take (k + 1)) = FStr.wts (l.take k) + x.wt
  | [], k, x, h => by simp at h
  | y :: r, 0, x, h => by
    obtain rfl : y = x := by simpa using h
    simp [FStr.wts]
  | y :: r, k + 1, x, h => by
    rw [List.take_succ_cons, List.take_succ_cons, FStr.wts, FStr.wts, FStr.wts_take r k x (by simpa using h)]
    omega
theorem FStr.wts_le : ∀ (l : List FStr) (k : Nat), FStr.wts (l.take k) ≤ FStr.wts l
  | [], k => by simp
  | y :: r, 0 => by simp [FStr.wts]
  | y :: r, k + 1 => by
    rw [List.take_succ_cons, FStr.wts, FStr.wts]
    have := FStr.wts_le r k
    omega
theorem FStr.wts_at : ∀ (l : List FStr) (x : FStr), x ∈ l → x.wt ≤ FStr.wts l
  | [], x, h => by cases h
  | y :: r, x, h => by
    unfold FStr.wts
    rcases List.mem_cons.1 h with rfl | h
    · omega
    · have := FStr.wts_at r x h
      omega
/-! ### int -/
structure FInt where
  a0 : Int
def FInt.c : FInt → List Cel
  | ⟨a0⟩ => [.v (.int .i64 a0)]
def FInt.wt : FInt → Nat
  | ⟨a0⟩ => 0
def FInt.ok : FInt → Prop
  | ⟨a0⟩ => True
def FInt.wts : List FInt → Nat
  | [] => 0
  | x :: r => x.wt + FInt.wts r
def FInt.oks : List FInt → Prop
  | [] => True
  | x :: r => x.ok ∧ FInt.oks r
abbrev FInt.flat (l : List FInt) : List Cel := l.flatMap FInt.c
theorem FInt.c_eq (z0 : Int) : FInt.c ⟨z0⟩ = [.v (.int .i64 z0)] := by simp [FInt.c]
theorem FInt.len (x : FInt) : x.c.length = 1 := by
  obtain ⟨z0⟩ := x
  rw [FInt.c_eq]
  rfl
theorem FInt.wt_eq (z0 : Int) : FInt.wt ⟨z0⟩ = 0 := by simp [FInt.wt]
theorem FInt.ok_eq (z0 : Int) : FInt.ok ⟨z0⟩ ↔ (True) := by simp [FInt.ok]
theorem FInt.oks_mem : ∀ l : List FInt, FInt.oks l → ∀ x, x ∈ l → x.ok
  | [], _, x, hx => by cases hx
  | y :: r, h, x, hx => by
    unfold FInt.oks at h
    rcases List.mem_cons.1 hx with rfl | hx
    · exact h.1
    · exact FInt.oks_mem r h.2 x hx
theorem FInt.oks_of : ∀ l : List FInt, (∀ x, x ∈ l → x.ok) → FInt.oks l
  | [], _ => by unfold FInt.oks; trivial
  | y :: r, h => by
    unfold FInt.oks
    exact ⟨h y (by simp), FInt.oks_of r fun x hx => h x (by simp [hx])⟩
theorem FInt.wts_take : ∀ (l : List FInt) (k : Nat) (x : FInt), l[k]? = some x → FInt.wts (l.take (k + 1)) = FInt.wts (l.take k) + x.wt
  | [], k, x, h => by simp at h
  | y :: r, 0, x, h => by
    obtain rfl : y = x := by simpa using h
    simp [FInt.wts]
  | y :: r, k + 1, x, h => by
    rw [List.take_succ_cons, List.take_succ_cons, FInt.wts, FInt.wts, FInt.wts_take r k x (by simpa using h)]
    omega
theorem FInt.wts_le : ∀ (l : List FInt) (k : Nat), FInt.wts (l.take k) ≤ FInt.wts l
  | [], k => by simp
  | y :: r, 0 => by simp [FInt.wts]
  | y :: r, k + 1 => by
    rw [List.take_succ_cons, FInt.wts, FInt.wts]
    have := FInt.wts_le r k
    omega
theorem FInt.wts_at : ∀ (l : List FInt) (x : FInt), x ∈ l → x.wt ≤ FInt.wts l
  | [], x, h => by cases h
  | y :: r, x, h => by
    unfold FInt.wts
    rcases List.mem_cons.1 h with rfl | h
    · omega
    · have := FInt.wts_at r x h
      omega

theorem read_string {H : Type} {enc : TypeId × Value → H} {w : World} {base : Nat} {spare : Nat → Bool} {held : Bool} (n : Nat) (cs : List Value) (y : DataW H × List MemPlace) (h : DataW.trod enc Tryz.prog w base spare held n 9 cs = some y) : ∃ x : FStr, RdVs w w.heap.size x.c cs ∧ x.ok := by
  obtain ⟨s, rfl, _, hs⟩ := DataW.trod_string Tryz.underlying9 h
  unfold maxLen at hs
  exact ⟨⟨s⟩, RdVs.cons (by unfold RdC; rfl) (RdVs.nil _ _), hs⟩
theorem read_int {H : Type} {enc : TypeId × Value → H} {w : World} {base : Nat} {spare : Nat → Bool} {held : Bool} (n : Nat) (cs : List Value) (y : DataW H × List MemPlace) (h : DataW.trod enc Tryz.prog w base spare held n 3 cs = some y) : ∃ x : FInt, RdVs w w.heap.size x.c cs ∧ x.ok := by
  obtain ⟨s, rfl, _, _⟩ := DataW.trod_int Tryz.underlying3 h
  exact ⟨⟨s⟩, RdVs.cons (by unfold RdC; rfl) (RdVs.nil _ _), trivial⟩
/-! ### Key -/
structure FKey where
  a0 : Bool
  a1 : Int
  a2 : ByteArray
def FKey.c : FKey → List Cel
  | ⟨a0, a1, a2⟩ => [.v (.bool a0), .v (.int .i64 a1), .v (.string a2)]
def FKey.wt : FKey → Nat
  | ⟨a0, a1, a2⟩ => a2.size
def FKey.ok : FKey → Prop
  | ⟨a0, a1, a2⟩ => a2.size ≤ 9223372036854775807
def FKey.wts : List FKey → Nat
  | [] => 0
  | x :: r => x.wt + FKey.wts r
def FKey.oks : List FKey → Prop
  | [] => True
  | x :: r => x.ok ∧ FKey.oks r
abbrev FKey.flat (l : List FKey) : List Cel := l.flatMap FKey.c
theorem FKey.c_eq (z0 : Bool) (z1 : Int) (z2 : ByteArray) : FKey.c ⟨z0, z1, z2⟩ = [.v (.bool z0), .v (.int .i64 z1), .v (.string z2)] := by simp [FKey.c]
theorem FKey.len (x : FKey) : x.c.length = 3 := by
  obtain ⟨z0, z1, z2⟩ := x
  rw [FKey.c_eq]
  rfl
theorem FKey.wt_eq (z0 : Bool) (z1 : Int) (z2 : ByteArray) : FKey.wt ⟨z0, z1, z2⟩ = z2.size := by simp [FKey.wt]
theorem FKey.ok_eq (z0 : Bool) (z1 : Int) (z2 : ByteArray) : FKey.ok ⟨z0, z1, z2⟩ ↔ (z2.size ≤ 9223372036854775807) := by simp [FKey.ok]
theorem FKey.oks_mem : ∀ l : List FKey, FKey.oks l → ∀ x, x ∈ l → x.ok
  | [], _, x, hx => by cases hx
  | y :: r, h, x, hx => by
    unfold FKey.oks at h
    rcases List.mem_cons.1 hx with rfl | hx
    · exact h.1
    · exact FKey.oks_mem r h.2 x hx
theorem FKey.oks_of : ∀ l : List FKey, (∀ x, x ∈ l → x.ok) → FKey.oks l
  | [], _ => by unfold FKey.oks; trivial
  | y :: r, h => by
    unfold FKey.oks
    exact ⟨h y (by simp), FKey.oks_of r fun x hx => h x (by simp [hx])⟩
theorem FKey.wts_take : ∀ (l : List FKey) (k : Nat) (x : FKey), l[k]? = some x → FKey.wts (l.take (k + 1)) = FKey.wts (l.take k) + x.wt
  | [], k, x, h => by simp at h
  | y :: r, 0, x, h => by
    obtain rfl : y = x := by simpa using h
    simp [FKey.wts]
  | y :: r, k + 1, x, h => by
    rw [List.take_succ_cons, List.take_succ_cons, FKey.wts, FKey.wts, FKey.wts_take r k x (by simpa using h)]
    omega
theorem FKey.wts_le : ∀ (l : List FKey) (k : Nat), FKey.wts (l.take k) ≤ FKey.wts l
  | [], k => by simp
  | y :: r, 0 => by simp [FKey.wts]
  | y :: r, k + 1 => by
    rw [List.take_succ_cons, FKey.wts, FKey.wts]
    have := FKey.wts_le r k
    omega
theorem FKey.wts_at : ∀ (l : List FKey) (x : FKey), x ∈ l → x.wt ≤ FKey.wts l
  | [], x, h => by cases h
  | y :: r, x, h => by
    unfold FKey.wts
    rcases List.mem_cons.1 h with rfl | h
    · omega
    · have := FKey.wts_at r x h
      omega
def ReadKey {H : Type} (enc : TypeId × Value → H) (w : World) (base : Nat) (spare : Nat → Bool) (held : Bool) (n : Nat) : Prop := ∀ (cs : List Value) (y : DataW H × List MemPlace), DataW.trod enc Tryz.prog w base spare held n 159 cs = some y → ∃ x : FKey, RdVs w w.heap.size x.c cs ∧ x.ok
theorem read_Key_of {H : Type} {enc : TypeId × Value → H} {w : World} {base : Nat} {spare : Nat → Bool} {held : Bool} (n : Nat) : ReadKey enc w base spare held n := by
  intro cs y h
  obtain ⟨hl, n1, rfl, hf⟩ := struct_span (by kernel_rfl) h
  have hC : Tryz.prog.cellsOf 159 = 3 := by kernel_rfl
  rw [hC] at hl
  obtain ⟨y0, t0⟩ := hf 0 4 0 1 (by kernel_rfl)
  obtain ⟨z0, e0, _⟩ := DataW.trod_bool Tryz.underlying4 t0
  obtain ⟨y1, t1⟩ := hf 1 3 1 1 (by kernel_rfl)
  obtain ⟨z1, e1, _, g1⟩ := DataW.trod_int Tryz.underlying3 t1
  obtain ⟨y2, t2⟩ := hf 2 9 2 1 (by kernel_rfl)
  obtain ⟨z2, e2, _, k2⟩ := DataW.trod_string Tryz.underlying9 t2
  have hcs := cut_all hl
  have q0 := cut_step 0 1 2 (us := cs)
  have q1 := cut_step 1 1 1 (us := cs)
  refine ⟨⟨z0, z1, z2⟩, ?_, ?_⟩
  · rw [FKey.c_eq, hcs]
    rw [show (cs.drop 0).take 3 = (cs.drop 0).take 1 ++ (cs.drop 1).take 2 from q0]
    rw [show (cs.drop 1).take 2 = (cs.drop 1).take 1 ++ (cs.drop 2).take 1 from q1]
    rw [e0]
    rw [e1]
    rw [e2]
    exact (RdVs.cons (by unfold RdC; rfl) (RdVs.cons (by unfold RdC; rfl) (RdVs.cons (by unfold RdC; rfl) (RdVs.nil _ _))))
  · rw [FKey.ok_eq]
    have j2 := k2
    unfold maxLen at j2
    exact j2
theorem read_Key {H : Type} {enc : TypeId × Value → H} {w : World} {base : Nat} {spare : Nat → Bool} {held : Bool} (n : Nat) : ReadKey enc w base spare held n := read_Key_of n
/-! ### Entry, Value -/
mutual
inductive FEntry where
  | mk (a0 : FKey) (a1 : FValue)
inductive FValue where
  | mk (a0 : Int) (a1 : Int) (a2 : ByteArray) (a3 : Int) (a4 : List FEntry)
end
mutual
def FEntry.c : FEntry → List Cel
  | .mk a0 a1 => FKey.c a0 ++ FValue.c a1
def FValue.c : FValue → List Cel
  | .mk a0 a1 a2 a3 a4 => [.v (.int .i64 a0), .v (.int .i64 a1), .v (.string a2), .v (.int .i64 a3), .s 106 8 a4.length (FEntry.cs a4)]
def FEntry.cs : List FEntry → List Cel
  | [] => []
  | x :: r => x.c ++ FEntry.cs r
end
mutual
def FEntry.wt : FEntry → Nat
  | .mk a0 a1 => FKey.wt a0 + FValue.wt a1
def FValue.wt : FValue → Nat
  | .mk a0 a1 a2 a3 a4 => a2.size + (a4.length + FEntry.wts a4)
def FEntry.wts : List FEntry → Nat
  | [] => 0
  | x :: r => x.wt + FEntry.wts r
end
mutual
def FEntry.ok : FEntry → Prop
  | .mk a0 a1 => FKey.ok a0 ∧ FValue.ok a1
def FValue.ok : FValue → Prop
  | .mk a0 a1 a2 a3 a4 => a2.size ≤ 9223372036854775807 ∧ FEntry.oks a4
def FEntry.oks : List FEntry → Prop
  | [] => True
  | x :: r => x.ok ∧ FEntry.oks r
end
abbrev FEntry.flat (l : List FEntry) : List Cel := l.flatMap FEntry.c
theorem FEntry.cs_eq : ∀ l : List FEntry, FEntry.cs l = FEntry.flat l
  | [] => by simp [FEntry.cs]
  | x :: r => by rw [FEntry.cs, FEntry.cs_eq r]; simp [FEntry.flat]
def FValue.wts : List FValue → Nat
  | [] => 0
  | x :: r => x.wt + FValue.wts r
def FValue.oks : List FValue → Prop
  | [] => True
  | x :: r => x.ok ∧ FValue.oks r
abbrev FValue.flat (l : List FValue) : List Cel := l.flatMap FValue.c
theorem FEntry.c_eq (z0 : Bool) (z1 : Int) (z2 : ByteArray) (z3 : Int) (z4 : Int) (z5 : ByteArray) (z6 : Int) (z7 : List FEntry) : FEntry.c ⟨⟨z0, z1, z2⟩, ⟨z3, z4, z5, z6, z7⟩⟩ = [.v (.bool z0), .v (.int .i64 z1), .v (.string z2), .v (.int .i64 z3), .v (.int .i64 z4), .v (.string z5), .v (.int .i64 z6), .s 106 8 z7.length (FEntry.flat z7)] := by simp [FEntry.c, FKey.c, FValue.c, FEntry.cs_eq]
theorem FEntry.len (x : FEntry) : x.c.length = 8 := by
  obtain ⟨⟨z0, z1, z2⟩, ⟨z3, z4, z5, z6, z7⟩⟩ := x
  rw [FEntry.c_eq]
  rfl
theorem FEntry.wt_eq (z0 : Bool) (z1 : Int) (z2 : ByteArray) (z3 : Int) (z4 : Int) (z5 : ByteArray) (z6 : Int) (z7 : List FEntry) : FEntry.wt ⟨⟨z0, z1, z2⟩, ⟨z3, z4, z5, z6, z7⟩⟩ = z2.size + z5.size + (z7.length + FEntry.wts z7) := by simp [FEntry.wt, FKey.wt, FValue.wt, Nat.add_assoc]
theorem FEntry.ok_eq (z0 : Bool) (z1 : Int) (z2 : ByteArray) (z3 : Int) (z4 : Int) (z5 : ByteArray) (z6 : Int) (z7 : List FEntry) : FEntry.ok ⟨⟨z0, z1, z2⟩, ⟨z3, z4, z5, z6, z7⟩⟩ ↔ (z2.size ≤ 9223372036854775807 ∧ z5.size ≤ 9223372036854775807 ∧ FEntry.oks z7) := by simp [FEntry.ok, FKey.ok, FValue.ok, and_assoc]
theorem FEntry.oks_mem : ∀ l : List FEntry, FEntry.oks l → ∀ x, x ∈ l → x.ok
  | [], _, x, hx => by cases hx
  | y :: r, h, x, hx => by
    unfold FEntry.oks at h
    rcases List.mem_cons.1 hx with rfl | hx
    · exact h.1
    · exact FEntry.oks_mem r h.2 x hx
theorem FEntry.oks_of : ∀ l : List FEntry, (∀ x, x ∈ l → x.ok) → FEntry.oks l
  | [], _ => by unfold FEntry.oks; trivial
  | y :: r, h => by
    unfold FEntry.oks
    exact ⟨h y (by simp), FEntry.oks_of r fun x hx => h x (by simp [hx])⟩
theorem FEntry.wts_take : ∀ (l : List FEntry) (k : Nat) (x : FEntry), l[k]? = some x → FEntry.wts (l.take (k + 1)) = FEntry.wts (l.take k) + x.wt
  | [], k, x, h => by simp at h
  | y :: r, 0, x, h => by
    obtain rfl : y = x := by simpa using h
    simp [FEntry.wts]
  | y :: r, k + 1, x, h => by
    rw [List.take_succ_cons, List.take_succ_cons, FEntry.wts, FEntry.wts, FEntry.wts_take r k x (by simpa using h)]
    omega
theorem FEntry.wts_le : ∀ (l : List FEntry) (k : Nat), FEntry.wts (l.take k) ≤ FEntry.wts l
  | [], k => by simp
  | y :: r, 0 => by simp [FEntry.wts]
  | y :: r, k + 1 => by
    rw [List.take_succ_cons, FEntry.wts, FEntry.wts]
    have := FEntry.wts_le r k
    omega
theorem FEntry.wts_at : ∀ (l : List FEntry) (x : FEntry), x ∈ l → x.wt ≤ FEntry.wts l
  | [], x, h => by cases h
  | y :: r, x, h => by
    unfold FEntry.wts
    rcases List.mem_cons.1 h with rfl | h
    · omega
    · have := FEntry.wts_at r x h
      omega
theorem FValue.c_eq (z0 : Int) (z1 : Int) (z2 : ByteArray) (z3 : Int) (z4 : List FEntry) : FValue.c ⟨z0, z1, z2, z3, z4⟩ = [.v (.int .i64 z0), .v (.int .i64 z1), .v (.string z2), .v (.int .i64 z3), .s 106 8 z4.length (FEntry.flat z4)] := by simp [FValue.c, FEntry.cs_eq]
theorem FValue.len (x : FValue) : x.c.length = 5 := by
  obtain ⟨z0, z1, z2, z3, z4⟩ := x
  rw [FValue.c_eq]
  rfl
theorem FValue.wt_eq (z0 : Int) (z1 : Int) (z2 : ByteArray) (z3 : Int) (z4 : List FEntry) : FValue.wt ⟨z0, z1, z2, z3, z4⟩ = z2.size + (z4.length + FEntry.wts z4) := by simp [FValue.wt, Nat.add_assoc]
theorem FValue.ok_eq (z0 : Int) (z1 : Int) (z2 : ByteArray) (z3 : Int) (z4 : List FEntry) : FValue.ok ⟨z0, z1, z2, z3, z4⟩ ↔ (z2.size ≤ 9223372036854775807 ∧ FEntry.oks z4) := by simp [FValue.ok, and_assoc]
theorem FValue.oks_mem : ∀ l : List FValue, FValue.oks l → ∀ x, x ∈ l → x.ok
  | [], _, x, hx => by cases hx
  | y :: r, h, x, hx => by
    unfold FValue.oks at h
    rcases List.mem_cons.1 hx with rfl | hx
    · exact h.1
    · exact FValue.oks_mem r h.2 x hx
theorem FValue.oks_of : ∀ l : List FValue, (∀ x, x ∈ l → x.ok) → FValue.oks l
  | [], _ => by unfold FValue.oks; trivial
  | y :: r, h => by
    unfold FValue.oks
    exact ⟨h y (by simp), FValue.oks_of r fun x hx => h x (by simp [hx])⟩
theorem FValue.wts_take : ∀ (l : List FValue) (k : Nat) (x : FValue), l[k]? = some x → FValue.wts (l.take (k + 1)) = FValue.wts (l.take k) + x.wt
  | [], k, x, h => by simp at h
  | y :: r, 0, x, h => by
    obtain rfl : y = x := by simpa using h
    simp [FValue.wts]
  | y :: r, k + 1, x, h => by
    rw [List.take_succ_cons, List.take_succ_cons, FValue.wts, FValue.wts, FValue.wts_take r k x (by simpa using h)]
    omega
theorem FValue.wts_le : ∀ (l : List FValue) (k : Nat), FValue.wts (l.take k) ≤ FValue.wts l
  | [], k => by simp
  | y :: r, 0 => by simp [FValue.wts]
  | y :: r, k + 1 => by
    rw [List.take_succ_cons, FValue.wts, FValue.wts]
    have := FValue.wts_le r k
    omega
theorem FValue.wts_at : ∀ (l : List FValue) (x : FValue), x ∈ l → x.wt ≤ FValue.wts l
  | [], x, h => by cases h
  | y :: r, x, h => by
    unfold FValue.wts
    rcases List.mem_cons.1 h with rfl | h
    · omega
    · have := FValue.wts_at r x h
      omega
def ReadEntry {H : Type} (enc : TypeId × Value → H) (w : World) (base : Nat) (spare : Nat → Bool) (held : Bool) (n : Nat) : Prop := ∀ (cs : List Value) (y : DataW H × List MemPlace), DataW.trod enc Tryz.prog w base spare held n 161 cs = some y → ∃ x : FEntry, RdVs w w.heap.size x.c cs ∧ x.ok
def ReadValue {H : Type} (enc : TypeId × Value → H) (w : World) (base : Nat) (spare : Nat → Bool) (held : Bool) (n : Nat) : Prop := ∀ (cs : List Value) (y : DataW H × List MemPlace), DataW.trod enc Tryz.prog w base spare held n 130 cs = some y → ∃ x : FValue, RdVs w w.heap.size x.c cs ∧ x.ok
theorem read_Entry_of {H : Type} {enc : TypeId × Value → H} {w : World} {base : Nat} {spare : Nat → Bool} {held : Bool} (n : Nat) (HValue : ∀ m, m < n → ReadValue enc w base spare held m) : ReadEntry enc w base spare held n := by
  intro cs y h
  obtain ⟨hl, n1, rfl, hf⟩ := struct_span (by kernel_rfl) h
  have hC : Tryz.prog.cellsOf 161 = 8 := by kernel_rfl
  rw [hC] at hl
  obtain ⟨y0, t0⟩ := hf 0 159 0 3 (by kernel_rfl)
  obtain ⟨x0, r0, k0⟩ := read_Key n1 _ _ t0
  obtain ⟨z0, z1, z2⟩ := x0
  rw [FKey.c_eq] at r0
  rw [FKey.ok_eq] at k0
  obtain ⟨y1, t1⟩ := hf 1 130 3 5 (by kernel_rfl)
  obtain ⟨x1, r1, k1⟩ := HValue n1 (Nat.lt_succ_self _) _ _ t1
  obtain ⟨z3, z4, z5, z6, z7⟩ := x1
  rw [FValue.c_eq] at r1
  rw [FValue.ok_eq] at k1
  have hcs := cut_all hl
  have q0 := cut_step 0 3 5 (us := cs)
  refine ⟨⟨⟨z0, z1, z2⟩, ⟨z3, z4, z5, z6, z7⟩⟩, ?_, ?_⟩
  · rw [FEntry.c_eq, hcs]
    rw [show (cs.drop 0).take 8 = (cs.drop 0).take 3 ++ (cs.drop 3).take 5 from q0]
    exact (RdVs.app r0 r1)
  · rw [FEntry.ok_eq]
    exact ⟨k0, k1.1, k1.2⟩
theorem read_Value_of {H : Type} {enc : TypeId × Value → H} {w : World} {base : Nat} {spare : Nat → Bool} {held : Bool} (n : Nat) (HEntry : ∀ m, m < n → ReadEntry enc w base spare held m) : ReadValue enc w base spare held n := by
  intro cs y h
  obtain ⟨hl, n1, rfl, hf⟩ := struct_span (by kernel_rfl) h
  have hC : Tryz.prog.cellsOf 130 = 5 := by kernel_rfl
  rw [hC] at hl
  obtain ⟨y0, t0⟩ := hf 0 3 0 1 (by kernel_rfl)
  obtain ⟨z0, e0, _, g0⟩ := DataW.trod_int Tryz.underlying3 t0
  obtain ⟨y1, t1⟩ := hf 1 3 1 1 (by kernel_rfl)
  obtain ⟨z1, e1, _, g1⟩ := DataW.trod_int Tryz.underlying3 t1
  obtain ⟨y2, t2⟩ := hf 2 9 2 1 (by kernel_rfl)
  obtain ⟨z2, e2, _, k2⟩ := DataW.trod_string Tryz.underlying9 t2
  obtain ⟨y3, t3⟩ := hf 3 3 3 1 (by kernel_rfl)
  obtain ⟨z3, e3, _, g3⟩ := DataW.trod_int Tryz.underlying3 t3
  obtain ⟨y4, t4⟩ := hf 4 128 4 1 (by kernel_rfl)
  obtain ⟨v4, z4, e4, r4, k4⟩ := open_deep (ok := FEntry.ok) 106 FEntry.len (by omega) Tryz.underlying128 (by kernel_rfl) (fun m cs1 y1 hm h1 => HEntry m (by omega) cs1 y1 h1) t4
  have hcs := cut_all hl
  have q0 := cut_step 0 1 4 (us := cs)
  have q1 := cut_step 1 1 3 (us := cs)
  have q2 := cut_step 2 1 2 (us := cs)
  have q3 := cut_step 3 1 1 (us := cs)
  refine ⟨⟨z0, z1, z2, z3, z4⟩, ?_, ?_⟩
  · rw [FValue.c_eq, hcs]
    rw [show (cs.drop 0).take 5 = (cs.drop 0).take 1 ++ (cs.drop 1).take 4 from q0]
    rw [show (cs.drop 1).take 4 = (cs.drop 1).take 1 ++ (cs.drop 2).take 3 from q1]
    rw [show (cs.drop 2).take 3 = (cs.drop 2).take 1 ++ (cs.drop 3).take 2 from q2]
    rw [show (cs.drop 3).take 2 = (cs.drop 3).take 1 ++ (cs.drop 4).take 1 from q3]
    rw [e0]
    rw [e1]
    rw [e2]
    rw [e3]
    rw [e4]
    exact (RdVs.cons (by unfold RdC; rfl) (RdVs.cons (by unfold RdC; rfl) (RdVs.cons (by unfold RdC; rfl) (RdVs.cons (by unfold RdC; rfl) (RdVs.cons r4 (RdVs.nil _ _))))))
  · rw [FValue.ok_eq]
    have j2 := k2
    unfold maxLen at j2
    exact ⟨j2, FEntry.oks_of _ k4⟩
theorem read_Entry_Value_all {H : Type} {enc : TypeId × Value → H} {w : World} {base : Nat} {spare : Nat → Bool} {held : Bool} (n : Nat) : ReadEntry enc w base spare held n ∧ ReadValue enc w base spare held n := by
  induction n using Nat.strongRecOn with
  | ind n ih =>
    exact ⟨read_Entry_of n (fun m hm => (ih m hm).2), read_Value_of n (fun m hm => (ih m hm).1)⟩
theorem read_Entry {H : Type} {enc : TypeId × Value → H} {w : World} {base : Nat} {spare : Nat → Bool} {held : Bool} (n : Nat) : ReadEntry enc w base spare held n := (read_Entry_Value_all n).1
theorem read_Value {H : Type} {enc : TypeId × Value → H} {w : World} {base : Nat} {spare : Nat → Bool} {held : Bool} (n : Nat) : ReadValue enc w base spare held n := (read_Entry_Value_all n).2
/-! ### Ins -/
structure FIns where
  a0 : Int
  a1 : Int
  a2 : Int
  a3 : ByteArray
  a4 : ByteArray
def FIns.c : FIns → List Cel
  | ⟨a0, a1, a2, a3, a4⟩ => [.v (.int .i64 a0), .v (.int .i64 a1), .v (.int .i64 a2), .v (.string a3), .v (.string a4)]
def FIns.wt : FIns → Nat
  | ⟨a0, a1, a2, a3, a4⟩ => a3.size + a4.size
def FIns.ok : FIns → Prop
  | ⟨a0, a1, a2, a3, a4⟩ => a3.size ≤ 9223372036854775807 ∧ a4.size ≤ 9223372036854775807
def FIns.wts : List FIns → Nat
  | [] => 0
  | x :: r => x.wt + FIns.wts r
def FIns.oks : List FIns → Prop
  | [] => True
  | x :: r => x.ok ∧ FIns.oks r
abbrev FIns.flat (l : List FIns) : List Cel := l.flatMap FIns.c
theorem FIns.c_eq (z0 : Int) (z1 : Int) (z2 : Int) (z3 : ByteArray) (z4 : ByteArray) : FIns.c ⟨z0, z1, z2, z3, z4⟩ = [.v (.int .i64 z0), .v (.int .i64 z1), .v (.int .i64 z2), .v (.string z3), .v (.string z4)] := by simp [FIns.c]
theorem FIns.len (x : FIns) : x.c.length = 5 := by
  obtain ⟨z0, z1, z2, z3, z4⟩ := x
  rw [FIns.c_eq]
  rfl
theorem FIns.wt_eq (z0 : Int) (z1 : Int) (z2 : Int) (z3 : ByteArray) (z4 : ByteArray) : FIns.wt ⟨z0, z1, z2, z3, z4⟩ = z3.size + z4.size := by simp [FIns.wt, Nat.add_assoc]
theorem FIns.ok_eq (z0 : Int) (z1 : Int) (z2 : Int) (z3 : ByteArray) (z4 : ByteArray) : FIns.ok ⟨z0, z1, z2, z3, z4⟩ ↔ (z3.size ≤ 9223372036854775807 ∧ z4.size ≤ 9223372036854775807) := by simp [FIns.ok, and_assoc]
theorem FIns.oks_mem : ∀ l : List FIns, FIns.oks l → ∀ x, x ∈ l → x.ok
  | [], _, x, hx => by cases hx
  | y :: r, h, x, hx => by
    unfold FIns.oks at h
    rcases List.mem_cons.1 hx with rfl | hx
    · exact h.1
    · exact FIns.oks_mem r h.2 x hx
theorem FIns.oks_of : ∀ l : List FIns, (∀ x, x ∈ l → x.ok) → FIns.oks l
  | [], _ => by unfold FIns.oks; trivial
  | y :: r, h => by
    unfold FIns.oks
    exact ⟨h y (by simp), FIns.oks_of r fun x hx => h x (by simp [hx])⟩
theorem FIns.wts_take : ∀ (l : List FIns) (k : Nat) (x : FIns), l[k]? = some x → FIns.wts (l.take (k + 1)) = FIns.wts (l.take k) + x.wt
  | [], k, x, h => by simp at h
  | y :: r, 0, x, h => by
    obtain rfl : y = x := by simpa using h
    simp [FIns.wts]
  | y :: r, k + 1, x, h => by
    rw [List.take_succ_cons, List.take_succ_cons, FIns.wts, FIns.wts, FIns.wts_take r k x (by simpa using h)]
    omega
theorem FIns.wts_le : ∀ (l : List FIns) (k : Nat), FIns.wts (l.take k) ≤ FIns.wts l
  | [], k => by simp
  | y :: r, 0 => by simp [FIns.wts]
  | y :: r, k + 1 => by
    rw [List.take_succ_cons, FIns.wts, FIns.wts]
    have := FIns.wts_le r k
    omega
theorem FIns.wts_at : ∀ (l : List FIns) (x : FIns), x ∈ l → x.wt ≤ FIns.wts l
  | [], x, h => by cases h
  | y :: r, x, h => by
    unfold FIns.wts
    rcases List.mem_cons.1 h with rfl | h
    · omega
    · have := FIns.wts_at r x h
      omega
def ReadIns {H : Type} (enc : TypeId × Value → H) (w : World) (base : Nat) (spare : Nat → Bool) (held : Bool) (n : Nat) : Prop := ∀ (cs : List Value) (y : DataW H × List MemPlace), DataW.trod enc Tryz.prog w base spare held n 126 cs = some y → ∃ x : FIns, RdVs w w.heap.size x.c cs ∧ x.ok
theorem read_Ins_of {H : Type} {enc : TypeId × Value → H} {w : World} {base : Nat} {spare : Nat → Bool} {held : Bool} (n : Nat) : ReadIns enc w base spare held n := by
  intro cs y h
  obtain ⟨hl, n1, rfl, hf⟩ := struct_span (by kernel_rfl) h
  have hC : Tryz.prog.cellsOf 126 = 5 := by kernel_rfl
  rw [hC] at hl
  obtain ⟨y0, t0⟩ := hf 0 3 0 1 (by kernel_rfl)
  obtain ⟨z0, e0, _, g0⟩ := DataW.trod_int Tryz.underlying3 t0
  obtain ⟨y1, t1⟩ := hf 1 3 1 1 (by kernel_rfl)
  obtain ⟨z1, e1, _, g1⟩ := DataW.trod_int Tryz.underlying3 t1
  obtain ⟨y2, t2⟩ := hf 2 3 2 1 (by kernel_rfl)
  obtain ⟨z2, e2, _, g2⟩ := DataW.trod_int Tryz.underlying3 t2
  obtain ⟨y3, t3⟩ := hf 3 9 3 1 (by kernel_rfl)
  obtain ⟨z3, e3, _, k3⟩ := DataW.trod_string Tryz.underlying9 t3
  obtain ⟨y4, t4⟩ := hf 4 9 4 1 (by kernel_rfl)
  obtain ⟨z4, e4, _, k4⟩ := DataW.trod_string Tryz.underlying9 t4
  have hcs := cut_all hl
  have q0 := cut_step 0 1 4 (us := cs)
  have q1 := cut_step 1 1 3 (us := cs)
  have q2 := cut_step 2 1 2 (us := cs)
  have q3 := cut_step 3 1 1 (us := cs)
  refine ⟨⟨z0, z1, z2, z3, z4⟩, ?_, ?_⟩
  · rw [FIns.c_eq, hcs]
    rw [show (cs.drop 0).take 5 = (cs.drop 0).take 1 ++ (cs.drop 1).take 4 from q0]
    rw [show (cs.drop 1).take 4 = (cs.drop 1).take 1 ++ (cs.drop 2).take 3 from q1]
    rw [show (cs.drop 2).take 3 = (cs.drop 2).take 1 ++ (cs.drop 3).take 2 from q2]
    rw [show (cs.drop 3).take 2 = (cs.drop 3).take 1 ++ (cs.drop 4).take 1 from q3]
    rw [e0]
    rw [e1]
    rw [e2]
    rw [e3]
    rw [e4]
    exact (RdVs.cons (by unfold RdC; rfl) (RdVs.cons (by unfold RdC; rfl) (RdVs.cons (by unfold RdC; rfl) (RdVs.cons (by unfold RdC; rfl) (RdVs.cons (by unfold RdC; rfl) (RdVs.nil _ _))))))
  · rw [FIns.ok_eq]
    have j3 := k3
    unfold maxLen at j3
    have j4 := k4
    unfold maxLen at j4
    exact ⟨j3, j4⟩
theorem read_Ins {H : Type} {enc : TypeId × Value → H} {w : World} {base : Nat} {spare : Nat → Bool} {held : Bool} (n : Nat) : ReadIns enc w base spare held n := read_Ins_of n
/-! ### Param -/
structure FParam where
  a0 : ByteArray
  a1 : Bool
def FParam.c : FParam → List Cel
  | ⟨a0, a1⟩ => [.v (.string a0), .v (.bool a1)]
def FParam.wt : FParam → Nat
  | ⟨a0, a1⟩ => a0.size
def FParam.ok : FParam → Prop
  | ⟨a0, a1⟩ => a0.size ≤ 9223372036854775807
def FParam.wts : List FParam → Nat
  | [] => 0
  | x :: r => x.wt + FParam.wts r
def FParam.oks : List FParam → Prop
  | [] => True
  | x :: r => x.ok ∧ FParam.oks r
abbrev FParam.flat (l : List FParam) : List Cel := l.flatMap FParam.c
theorem FParam.c_eq (z0 : ByteArray) (z1 : Bool) : FParam.c ⟨z0, z1⟩ = [.v (.string z0), .v (.bool z1)] := by simp [FParam.c]
theorem FParam.len (x : FParam) : x.c.length = 2 := by
  obtain ⟨z0, z1⟩ := x
  rw [FParam.c_eq]
  rfl
theorem FParam.wt_eq (z0 : ByteArray) (z1 : Bool) : FParam.wt ⟨z0, z1⟩ = z0.size := by simp [FParam.wt]
theorem FParam.ok_eq (z0 : ByteArray) (z1 : Bool) : FParam.ok ⟨z0, z1⟩ ↔ (z0.size ≤ 9223372036854775807) := by simp [FParam.ok]
theorem FParam.oks_mem : ∀ l : List FParam, FParam.oks l → ∀ x, x ∈ l → x.ok
  | [], _, x, hx => by cases hx
  | y :: r, h, x, hx => by
    unfold FParam.oks at h
    rcases List.mem_cons.1 hx with rfl | hx
    · exact h.1
    · exact FParam.oks_mem r h.2 x hx
theorem FParam.oks_of : ∀ l : List FParam, (∀ x, x ∈ l → x.ok) → FParam.oks l
  | [], _ => by unfold FParam.oks; trivial
  | y :: r, h => by
    unfold FParam.oks
    exact ⟨h y (by simp), FParam.oks_of r fun x hx => h x (by simp [hx])⟩
theorem FParam.wts_take : ∀ (l : List FParam) (k : Nat) (x : FParam), l[k]? = some x → FParam.wts (l.take (k + 1)) = FParam.wts (l.take k) + x.wt
  | [], k, x, h => by simp at h
  | y :: r, 0, x, h => by
    obtain rfl : y = x := by simpa using h
    simp [FParam.wts]
  | y :: r, k + 1, x, h => by
    rw [List.take_succ_cons, List.take_succ_cons, FParam.wts, FParam.wts, FParam.wts_take r k x (by simpa using h)]
    omega
theorem FParam.wts_le : ∀ (l : List FParam) (k : Nat), FParam.wts (l.take k) ≤ FParam.wts l
  | [], k => by simp
  | y :: r, 0 => by simp [FParam.wts]
  | y :: r, k + 1 => by
    rw [List.take_succ_cons, FParam.wts, FParam.wts]
    have := FParam.wts_le r k
    omega
theorem FParam.wts_at : ∀ (l : List FParam) (x : FParam), x ∈ l → x.wt ≤ FParam.wts l
  | [], x, h => by cases h
  | y :: r, x, h => by
    unfold FParam.wts
    rcases List.mem_cons.1 h with rfl | h
    · omega
    · have := FParam.wts_at r x h
      omega
def ReadParam {H : Type} (enc : TypeId × Value → H) (w : World) (base : Nat) (spare : Nat → Bool) (held : Bool) (n : Nat) : Prop := ∀ (cs : List Value) (y : DataW H × List MemPlace), DataW.trod enc Tryz.prog w base spare held n 124 cs = some y → ∃ x : FParam, RdVs w w.heap.size x.c cs ∧ x.ok
theorem read_Param_of {H : Type} {enc : TypeId × Value → H} {w : World} {base : Nat} {spare : Nat → Bool} {held : Bool} (n : Nat) : ReadParam enc w base spare held n := by
  intro cs y h
  obtain ⟨hl, n1, rfl, hf⟩ := struct_span (by kernel_rfl) h
  have hC : Tryz.prog.cellsOf 124 = 2 := by kernel_rfl
  rw [hC] at hl
  obtain ⟨y0, t0⟩ := hf 0 9 0 1 (by kernel_rfl)
  obtain ⟨z0, e0, _, k0⟩ := DataW.trod_string Tryz.underlying9 t0
  obtain ⟨y1, t1⟩ := hf 1 4 1 1 (by kernel_rfl)
  obtain ⟨z1, e1, _⟩ := DataW.trod_bool Tryz.underlying4 t1
  have hcs := cut_all hl
  have q0 := cut_step 0 1 1 (us := cs)
  refine ⟨⟨z0, z1⟩, ?_, ?_⟩
  · rw [FParam.c_eq, hcs]
    rw [show (cs.drop 0).take 2 = (cs.drop 0).take 1 ++ (cs.drop 1).take 1 from q0]
    rw [e0]
    rw [e1]
    exact (RdVs.cons (by unfold RdC; rfl) (RdVs.cons (by unfold RdC; rfl) (RdVs.nil _ _)))
  · rw [FParam.ok_eq]
    have j0 := k0
    unfold maxLen at j0
    exact j0
theorem read_Param {H : Type} {enc : TypeId × Value → H} {w : World} {base : Nat} {spare : Nat → Bool} {held : Bool} (n : Nat) : ReadParam enc w base spare held n := read_Param_of n
/-! ### Func -/
structure FFunc where
  a0 : ByteArray
  a1 : List FParam
  a2 : List FParam
  a3 : List FStr
  a4 : Bool
  a5 : List FIns
def FFunc.c : FFunc → List Cel
  | ⟨a0, a1, a2, a3, a4, a5⟩ => [.v (.string a0), .s 86 2 a1.length (FParam.flat a1), .s 86 2 a2.length (FParam.flat a2), .s 9 1 a3.length (FStr.flat a3), .v (.bool a4), .s 77 5 a5.length (FIns.flat a5)]
def FFunc.wt : FFunc → Nat
  | ⟨a0, a1, a2, a3, a4, a5⟩ => a0.size + (a1.length + FParam.wts a1) + (a2.length + FParam.wts a2) + (a3.length + FStr.wts a3) + (a5.length + FIns.wts a5)
def FFunc.ok : FFunc → Prop
  | ⟨a0, a1, a2, a3, a4, a5⟩ => a0.size ≤ 9223372036854775807 ∧ FParam.oks a1 ∧ FParam.oks a2 ∧ FStr.oks a3 ∧ FIns.oks a5
def FFunc.wts : List FFunc → Nat
  | [] => 0
  | x :: r => x.wt + FFunc.wts r
def FFunc.oks : List FFunc → Prop
  | [] => True
  | x :: r => x.ok ∧ FFunc.oks r
abbrev FFunc.flat (l : List FFunc) : List Cel := l.flatMap FFunc.c
theorem FFunc.c_eq (z0 : ByteArray) (z1 : List FParam) (z2 : List FParam) (z3 : List FStr) (z4 : Bool) (z5 : List FIns) : FFunc.c ⟨z0, z1, z2, z3, z4, z5⟩ = [.v (.string z0), .s 86 2 z1.length (FParam.flat z1), .s 86 2 z2.length (FParam.flat z2), .s 9 1 z3.length (FStr.flat z3), .v (.bool z4), .s 77 5 z5.length (FIns.flat z5)] := by simp [FFunc.c]
theorem FFunc.len (x : FFunc) : x.c.length = 6 := by
  obtain ⟨z0, z1, z2, z3, z4, z5⟩ := x
  rw [FFunc.c_eq]
  rfl
theorem FFunc.wt_eq (z0 : ByteArray) (z1 : List FParam) (z2 : List FParam) (z3 : List FStr) (z4 : Bool) (z5 : List FIns) : FFunc.wt ⟨z0, z1, z2, z3, z4, z5⟩ = z0.size + (z1.length + FParam.wts z1) + (z2.length + FParam.wts z2) + (z3.length + FStr.wts z3) + (z5.length + FIns.wts z5) := by simp [FFunc.wt, Nat.add_assoc]
theorem FFunc.ok_eq (z0 : ByteArray) (z1 : List FParam) (z2 : List FParam) (z3 : List FStr) (z4 : Bool) (z5 : List FIns) : FFunc.ok ⟨z0, z1, z2, z3, z4, z5⟩ ↔ (z0.size ≤ 9223372036854775807 ∧ FParam.oks z1 ∧ FParam.oks z2 ∧ FStr.oks z3 ∧ FIns.oks z5) := by simp [FFunc.ok, and_assoc]
theorem FFunc.oks_mem : ∀ l : List FFunc, FFunc.oks l → ∀ x, x ∈ l → x.ok
  | [], _, x, hx => by cases hx
  | y :: r, h, x, hx => by
    unfold FFunc.oks at h
    rcases List.mem_cons.1 hx with rfl | hx
    · exact h.1
    · exact FFunc.oks_mem r h.2 x hx
theorem FFunc.oks_of : ∀ l : List FFunc, (∀ x, x ∈ l → x.ok) → FFunc.oks l
  | [], _ => by unfold FFunc.oks; trivial
  | y :: r, h => by
    unfold FFunc.oks
    exact ⟨h y (by simp), FFunc.oks_of r fun x hx => h x (by simp [hx])⟩
theorem FFunc.wts_take : ∀ (l : List FFunc) (k : Nat) (x : FFunc), l[k]? = some x → FFunc.wts (l.take (k + 1)) = FFunc.wts (l.take k) + x.wt
  | [], k, x, h => by simp at h
  | y :: r, 0, x, h => by
    obtain rfl : y = x := by simpa using h
    simp [FFunc.wts]
  | y :: r, k + 1, x, h => by
    rw [List.take_succ_cons, List.take_succ_cons, FFunc.wts, FFunc.wts, FFunc.wts_take r k x (by simpa using h)]
    omega
theorem FFunc.wts_le : ∀ (l : List FFunc) (k : Nat), FFunc.wts (l.take k) ≤ FFunc.wts l
  | [], k => by simp
  | y :: r, 0 => by simp [FFunc.wts]
  | y :: r, k + 1 => by
    rw [List.take_succ_cons, FFunc.wts, FFunc.wts]
    have := FFunc.wts_le r k
    omega
theorem FFunc.wts_at : ∀ (l : List FFunc) (x : FFunc), x ∈ l → x.wt ≤ FFunc.wts l
  | [], x, h => by cases h
  | y :: r, x, h => by
    unfold FFunc.wts
    rcases List.mem_cons.1 h with rfl | h
    · omega
    · have := FFunc.wts_at r x h
      omega
def ReadFunc {H : Type} (enc : TypeId × Value → H) (w : World) (base : Nat) (spare : Nat → Bool) (held : Bool) (n : Nat) : Prop := ∀ (cs : List Value) (y : DataW H × List MemPlace), DataW.trod enc Tryz.prog w base spare held n 70 cs = some y → ∃ x : FFunc, RdVs w w.heap.size x.c cs ∧ x.ok
theorem read_Func_of {H : Type} {enc : TypeId × Value → H} {w : World} {base : Nat} {spare : Nat → Bool} {held : Bool} (n : Nat) : ReadFunc enc w base spare held n := by
  intro cs y h
  obtain ⟨hl, n1, rfl, hf⟩ := struct_span (by kernel_rfl) h
  have hC : Tryz.prog.cellsOf 70 = 6 := by kernel_rfl
  rw [hC] at hl
  obtain ⟨y0, t0⟩ := hf 0 9 0 1 (by kernel_rfl)
  obtain ⟨z0, e0, _, k0⟩ := DataW.trod_string Tryz.underlying9 t0
  obtain ⟨y1, t1⟩ := hf 1 67 1 1 (by kernel_rfl)
  obtain ⟨v1, z1, e1, r1, k1⟩ := open_deep (ok := FParam.ok) 86 FParam.len (by omega) Tryz.underlying67 (by kernel_rfl) (fun m cs1 y1 hm h1 => read_Param m cs1 y1 h1) t1
  obtain ⟨y2, t2⟩ := hf 2 67 2 1 (by kernel_rfl)
  obtain ⟨v2, z2, e2, r2, k2⟩ := open_deep (ok := FParam.ok) 86 FParam.len (by omega) Tryz.underlying67 (by kernel_rfl) (fun m cs1 y1 hm h1 => read_Param m cs1 y1 h1) t2
  obtain ⟨y3, t3⟩ := hf 3 48 3 1 (by kernel_rfl)
  obtain ⟨v3, z3, e3, r3, k3⟩ := open_deep (ok := FStr.ok) 9 FStr.len (by omega) Tryz.underlying48 (by kernel_rfl) (fun m cs1 y1 _ h1 => read_string m cs1 y1 h1) t3
  obtain ⟨y4, t4⟩ := hf 4 4 4 1 (by kernel_rfl)
  obtain ⟨z4, e4, _⟩ := DataW.trod_bool Tryz.underlying4 t4
  obtain ⟨y5, t5⟩ := hf 5 68 5 1 (by kernel_rfl)
  obtain ⟨v5, z5, e5, r5, k5⟩ := open_deep (ok := FIns.ok) 77 FIns.len (by omega) Tryz.underlying68 (by kernel_rfl) (fun m cs1 y1 hm h1 => read_Ins m cs1 y1 h1) t5
  have hcs := cut_all hl
  have q0 := cut_step 0 1 5 (us := cs)
  have q1 := cut_step 1 1 4 (us := cs)
  have q2 := cut_step 2 1 3 (us := cs)
  have q3 := cut_step 3 1 2 (us := cs)
  have q4 := cut_step 4 1 1 (us := cs)
  refine ⟨⟨z0, z1, z2, z3, z4, z5⟩, ?_, ?_⟩
  · rw [FFunc.c_eq, hcs]
    rw [show (cs.drop 0).take 6 = (cs.drop 0).take 1 ++ (cs.drop 1).take 5 from q0]
    rw [show (cs.drop 1).take 5 = (cs.drop 1).take 1 ++ (cs.drop 2).take 4 from q1]
    rw [show (cs.drop 2).take 4 = (cs.drop 2).take 1 ++ (cs.drop 3).take 3 from q2]
    rw [show (cs.drop 3).take 3 = (cs.drop 3).take 1 ++ (cs.drop 4).take 2 from q3]
    rw [show (cs.drop 4).take 2 = (cs.drop 4).take 1 ++ (cs.drop 5).take 1 from q4]
    rw [e0]
    rw [e1]
    rw [e2]
    rw [e3]
    rw [e4]
    rw [e5]
    exact (RdVs.cons (by unfold RdC; rfl) (RdVs.cons r1 (RdVs.cons r2 (RdVs.cons r3 (RdVs.cons (by unfold RdC; rfl) (RdVs.cons r5 (RdVs.nil _ _)))))))
  · rw [FFunc.ok_eq]
    have j0 := k0
    unfold maxLen at j0
    exact ⟨j0, FParam.oks_of _ k1, FParam.oks_of _ k2, FStr.oks_of _ k3, FIns.oks_of _ k5⟩
theorem read_Func {H : Type} {enc : TypeId × Value → H} {w : World} {base : Nat} {spare : Nat → Bool} {held : Bool} (n : Nat) : ReadFunc enc w base spare held n := read_Func_of n
/-! ### Method -/
structure FMethod where
  a0 : ByteArray
  a1 : ByteArray
  a2 : ByteArray
  a3 : Bool
  a4 : Bool
def FMethod.c : FMethod → List Cel
  | ⟨a0, a1, a2, a3, a4⟩ => [.v (.string a0), .v (.string a1), .v (.string a2), .v (.bool a3), .v (.bool a4)]
def FMethod.wt : FMethod → Nat
  | ⟨a0, a1, a2, a3, a4⟩ => a0.size + a1.size + a2.size
def FMethod.ok : FMethod → Prop
  | ⟨a0, a1, a2, a3, a4⟩ => a0.size ≤ 9223372036854775807 ∧ a1.size ≤ 9223372036854775807 ∧ a2.size ≤ 9223372036854775807
def FMethod.wts : List FMethod → Nat
  | [] => 0
  | x :: r => x.wt + FMethod.wts r
def FMethod.oks : List FMethod → Prop
  | [] => True
  | x :: r => x.ok ∧ FMethod.oks r
abbrev FMethod.flat (l : List FMethod) : List Cel := l.flatMap FMethod.c
theorem FMethod.c_eq (z0 : ByteArray) (z1 : ByteArray) (z2 : ByteArray) (z3 : Bool) (z4 : Bool) : FMethod.c ⟨z0, z1, z2, z3, z4⟩ = [.v (.string z0), .v (.string z1), .v (.string z2), .v (.bool z3), .v (.bool z4)] := by simp [FMethod.c]
theorem FMethod.len (x : FMethod) : x.c.length = 5 := by
  obtain ⟨z0, z1, z2, z3, z4⟩ := x
  rw [FMethod.c_eq]
  rfl
theorem FMethod.wt_eq (z0 : ByteArray) (z1 : ByteArray) (z2 : ByteArray) (z3 : Bool) (z4 : Bool) : FMethod.wt ⟨z0, z1, z2, z3, z4⟩ = z0.size + z1.size + z2.size := by simp [FMethod.wt, Nat.add_assoc]
theorem FMethod.ok_eq (z0 : ByteArray) (z1 : ByteArray) (z2 : ByteArray) (z3 : Bool) (z4 : Bool) : FMethod.ok ⟨z0, z1, z2, z3, z4⟩ ↔ (z0.size ≤ 9223372036854775807 ∧ z1.size ≤ 9223372036854775807 ∧ z2.size ≤ 9223372036854775807) := by simp [FMethod.ok, and_assoc]
theorem FMethod.oks_mem : ∀ l : List FMethod, FMethod.oks l → ∀ x, x ∈ l → x.ok
  | [], _, x, hx => by cases hx
  | y :: r, h, x, hx => by
    unfold FMethod.oks at h
    rcases List.mem_cons.1 hx with rfl | hx
    · exact h.1
    · exact FMethod.oks_mem r h.2 x hx
theorem FMethod.oks_of : ∀ l : List FMethod, (∀ x, x ∈ l → x.ok) → FMethod.oks l
  | [], _ => by unfold FMethod.oks; trivial
  | y :: r, h => by
    unfold FMethod.oks
    exact ⟨h y (by simp), FMethod.oks_of r fun x hx => h x (by simp [hx])⟩
theorem FMethod.wts_take : ∀ (l : List FMethod) (k : Nat) (x : FMethod), l[k]? = some x → FMethod.wts (l.take (k + 1)) = FMethod.wts (l.take k) + x.wt
  | [], k, x, h => by simp at h
  | y :: r, 0, x, h => by
    obtain rfl : y = x := by simpa using h
    simp [FMethod.wts]
  | y :: r, k + 1, x, h => by
    rw [List.take_succ_cons, List.take_succ_cons, FMethod.wts, FMethod.wts, FMethod.wts_take r k x (by simpa using h)]
    omega
theorem FMethod.wts_le : ∀ (l : List FMethod) (k : Nat), FMethod.wts (l.take k) ≤ FMethod.wts l
  | [], k => by simp
  | y :: r, 0 => by simp [FMethod.wts]
  | y :: r, k + 1 => by
    rw [List.take_succ_cons, FMethod.wts, FMethod.wts]
    have := FMethod.wts_le r k
    omega
theorem FMethod.wts_at : ∀ (l : List FMethod) (x : FMethod), x ∈ l → x.wt ≤ FMethod.wts l
  | [], x, h => by cases h
  | y :: r, x, h => by
    unfold FMethod.wts
    rcases List.mem_cons.1 h with rfl | h
    · omega
    · have := FMethod.wts_at r x h
      omega
def ReadMethod {H : Type} (enc : TypeId × Value → H) (w : World) (base : Nat) (spare : Nat → Bool) (held : Bool) (n : Nat) : Prop := ∀ (cs : List Value) (y : DataW H × List MemPlace), DataW.trod enc Tryz.prog w base spare held n 134 cs = some y → ∃ x : FMethod, RdVs w w.heap.size x.c cs ∧ x.ok
theorem read_Method_of {H : Type} {enc : TypeId × Value → H} {w : World} {base : Nat} {spare : Nat → Bool} {held : Bool} (n : Nat) : ReadMethod enc w base spare held n := by
  intro cs y h
  obtain ⟨hl, n1, rfl, hf⟩ := struct_span (by kernel_rfl) h
  have hC : Tryz.prog.cellsOf 134 = 5 := by kernel_rfl
  rw [hC] at hl
  obtain ⟨y0, t0⟩ := hf 0 9 0 1 (by kernel_rfl)
  obtain ⟨z0, e0, _, k0⟩ := DataW.trod_string Tryz.underlying9 t0
  obtain ⟨y1, t1⟩ := hf 1 9 1 1 (by kernel_rfl)
  obtain ⟨z1, e1, _, k1⟩ := DataW.trod_string Tryz.underlying9 t1
  obtain ⟨y2, t2⟩ := hf 2 9 2 1 (by kernel_rfl)
  obtain ⟨z2, e2, _, k2⟩ := DataW.trod_string Tryz.underlying9 t2
  obtain ⟨y3, t3⟩ := hf 3 4 3 1 (by kernel_rfl)
  obtain ⟨z3, e3, _⟩ := DataW.trod_bool Tryz.underlying4 t3
  obtain ⟨y4, t4⟩ := hf 4 4 4 1 (by kernel_rfl)
  obtain ⟨z4, e4, _⟩ := DataW.trod_bool Tryz.underlying4 t4
  have hcs := cut_all hl
  have q0 := cut_step 0 1 4 (us := cs)
  have q1 := cut_step 1 1 3 (us := cs)
  have q2 := cut_step 2 1 2 (us := cs)
  have q3 := cut_step 3 1 1 (us := cs)
  refine ⟨⟨z0, z1, z2, z3, z4⟩, ?_, ?_⟩
  · rw [FMethod.c_eq, hcs]
    rw [show (cs.drop 0).take 5 = (cs.drop 0).take 1 ++ (cs.drop 1).take 4 from q0]
    rw [show (cs.drop 1).take 4 = (cs.drop 1).take 1 ++ (cs.drop 2).take 3 from q1]
    rw [show (cs.drop 2).take 3 = (cs.drop 2).take 1 ++ (cs.drop 3).take 2 from q2]
    rw [show (cs.drop 3).take 2 = (cs.drop 3).take 1 ++ (cs.drop 4).take 1 from q3]
    rw [e0]
    rw [e1]
    rw [e2]
    rw [e3]
    rw [e4]
    exact (RdVs.cons (by unfold RdC; rfl) (RdVs.cons (by unfold RdC; rfl) (RdVs.cons (by unfold RdC; rfl) (RdVs.cons (by unfold RdC; rfl) (RdVs.cons (by unfold RdC; rfl) (RdVs.nil _ _))))))
  · rw [FMethod.ok_eq]
    have j0 := k0
    unfold maxLen at j0
    have j1 := k1
    unfold maxLen at j1
    have j2 := k2
    unfold maxLen at j2
    exact ⟨j0, j1, j2⟩
theorem read_Method {H : Type} {enc : TypeId × Value → H} {w : World} {base : Nat} {spare : Nat → Bool} {held : Bool} (n : Nat) : ReadMethod enc w base spare held n := read_Method_of n
/-! ### Field -/
structure FField where
  a0 : ByteArray
  a1 : ByteArray
  a2 : Bool
  a3 : FValue
def FField.c : FField → List Cel
  | ⟨a0, a1, a2, a3⟩ => [.v (.string a0), .v (.string a1), .v (.bool a2)] ++ FValue.c a3
def FField.wt : FField → Nat
  | ⟨a0, a1, a2, a3⟩ => a0.size + a1.size + FValue.wt a3
def FField.ok : FField → Prop
  | ⟨a0, a1, a2, a3⟩ => a0.size ≤ 9223372036854775807 ∧ a1.size ≤ 9223372036854775807 ∧ FValue.ok a3
def FField.wts : List FField → Nat
  | [] => 0
  | x :: r => x.wt + FField.wts r
def FField.oks : List FField → Prop
  | [] => True
  | x :: r => x.ok ∧ FField.oks r
abbrev FField.flat (l : List FField) : List Cel := l.flatMap FField.c
theorem FField.c_eq (z0 : ByteArray) (z1 : ByteArray) (z2 : Bool) (z3 : Int) (z4 : Int) (z5 : ByteArray) (z6 : Int) (z7 : List FEntry) : FField.c ⟨z0, z1, z2, ⟨z3, z4, z5, z6, z7⟩⟩ = [.v (.string z0), .v (.string z1), .v (.bool z2), .v (.int .i64 z3), .v (.int .i64 z4), .v (.string z5), .v (.int .i64 z6), .s 106 8 z7.length (FEntry.flat z7)] := by simp [FField.c, FValue.c, FEntry.cs_eq]
theorem FField.len (x : FField) : x.c.length = 8 := by
  obtain ⟨z0, z1, z2, ⟨z3, z4, z5, z6, z7⟩⟩ := x
  rw [FField.c_eq]
  rfl
theorem FField.wt_eq (z0 : ByteArray) (z1 : ByteArray) (z2 : Bool) (z3 : Int) (z4 : Int) (z5 : ByteArray) (z6 : Int) (z7 : List FEntry) : FField.wt ⟨z0, z1, z2, ⟨z3, z4, z5, z6, z7⟩⟩ = z0.size + z1.size + z5.size + (z7.length + FEntry.wts z7) := by simp [FField.wt, FValue.wt, Nat.add_assoc]
theorem FField.ok_eq (z0 : ByteArray) (z1 : ByteArray) (z2 : Bool) (z3 : Int) (z4 : Int) (z5 : ByteArray) (z6 : Int) (z7 : List FEntry) : FField.ok ⟨z0, z1, z2, ⟨z3, z4, z5, z6, z7⟩⟩ ↔ (z0.size ≤ 9223372036854775807 ∧ z1.size ≤ 9223372036854775807 ∧ z5.size ≤ 9223372036854775807 ∧ FEntry.oks z7) := by simp [FField.ok, FValue.ok, and_assoc]
theorem FField.oks_mem : ∀ l : List FField, FField.oks l → ∀ x, x ∈ l → x.ok
  | [], _, x, hx => by cases hx
  | y :: r, h, x, hx => by
    unfold FField.oks at h
    rcases List.mem_cons.1 hx with rfl | hx
    · exact h.1
    · exact FField.oks_mem r h.2 x hx
theorem FField.oks_of : ∀ l : List FField, (∀ x, x ∈ l → x.ok) → FField.oks l
  | [], _ => by unfold FField.oks; trivial
  | y :: r, h => by
    unfold FField.oks
    exact ⟨h y (by simp), FField.oks_of r fun x hx => h x (by simp [hx])⟩
theorem FField.wts_take : ∀ (l : List FField) (k : Nat) (x : FField), l[k]? = some x → FField.wts (l.take (k + 1)) = FField.wts (l.take k) + x.wt
  | [], k, x, h => by simp at h
  | y :: r, 0, x, h => by
    obtain rfl : y = x := by simpa using h
    simp [FField.wts]
  | y :: r, k + 1, x, h => by
    rw [List.take_succ_cons, List.take_succ_cons, FField.wts, FField.wts, FField.wts_take r k x (by simpa using h)]
    omega
theorem FField.wts_le : ∀ (l : List FField) (k : Nat), FField.wts (l.take k) ≤ FField.wts l
  | [], k => by simp
  | y :: r, 0 => by simp [FField.wts]
  | y :: r, k + 1 => by
    rw [List.take_succ_cons, FField.wts, FField.wts]
    have := FField.wts_le r k
    omega
theorem FField.wts_at : ∀ (l : List FField) (x : FField), x ∈ l → x.wt ≤ FField.wts l
  | [], x, h => by cases h
  | y :: r, x, h => by
    unfold FField.wts
    rcases List.mem_cons.1 h with rfl | h
    · omega
    · have := FField.wts_at r x h
      omega
def ReadField {H : Type} (enc : TypeId × Value → H) (w : World) (base : Nat) (spare : Nat → Bool) (held : Bool) (n : Nat) : Prop := ∀ (cs : List Value) (y : DataW H × List MemPlace), DataW.trod enc Tryz.prog w base spare held n 132 cs = some y → ∃ x : FField, RdVs w w.heap.size x.c cs ∧ x.ok
theorem read_Field_of {H : Type} {enc : TypeId × Value → H} {w : World} {base : Nat} {spare : Nat → Bool} {held : Bool} (n : Nat) : ReadField enc w base spare held n := by
  intro cs y h
  obtain ⟨hl, n1, rfl, hf⟩ := struct_span (by kernel_rfl) h
  have hC : Tryz.prog.cellsOf 132 = 8 := by kernel_rfl
  rw [hC] at hl
  obtain ⟨y0, t0⟩ := hf 0 9 0 1 (by kernel_rfl)
  obtain ⟨z0, e0, _, k0⟩ := DataW.trod_string Tryz.underlying9 t0
  obtain ⟨y1, t1⟩ := hf 1 9 1 1 (by kernel_rfl)
  obtain ⟨z1, e1, _, k1⟩ := DataW.trod_string Tryz.underlying9 t1
  obtain ⟨y2, t2⟩ := hf 2 4 2 1 (by kernel_rfl)
  obtain ⟨z2, e2, _⟩ := DataW.trod_bool Tryz.underlying4 t2
  obtain ⟨y3, t3⟩ := hf 3 130 3 5 (by kernel_rfl)
  obtain ⟨x3, r3, k3⟩ := read_Value n1 _ _ t3
  obtain ⟨z3, z4, z5, z6, z7⟩ := x3
  rw [FValue.c_eq] at r3
  rw [FValue.ok_eq] at k3
  have hcs := cut_all hl
  have q0 := cut_step 0 1 7 (us := cs)
  have q1 := cut_step 1 1 6 (us := cs)
  have q2 := cut_step 2 1 5 (us := cs)
  refine ⟨⟨z0, z1, z2, ⟨z3, z4, z5, z6, z7⟩⟩, ?_, ?_⟩
  · rw [FField.c_eq, hcs]
    rw [show (cs.drop 0).take 8 = (cs.drop 0).take 1 ++ (cs.drop 1).take 7 from q0]
    rw [show (cs.drop 1).take 7 = (cs.drop 1).take 1 ++ (cs.drop 2).take 6 from q1]
    rw [show (cs.drop 2).take 6 = (cs.drop 2).take 1 ++ (cs.drop 3).take 5 from q2]
    rw [e0]
    rw [e1]
    rw [e2]
    exact (RdVs.cons (by unfold RdC; rfl) (RdVs.cons (by unfold RdC; rfl) (RdVs.cons (by unfold RdC; rfl) r3)))
  · rw [FField.ok_eq]
    have j0 := k0
    unfold maxLen at j0
    have j1 := k1
    unfold maxLen at j1
    exact ⟨j0, j1, k3.1, k3.2⟩
theorem read_Field {H : Type} {enc : TypeId × Value → H} {w : World} {base : Nat} {spare : Nat → Bool} {held : Bool} (n : Nat) : ReadField enc w base spare held n := read_Field_of n
/-! ### Class -/
structure FClass where
  a0 : ByteArray
  a1 : ByteArray
  a2 : List FField
  a3 : List FMethod
def FClass.c : FClass → List Cel
  | ⟨a0, a1, a2, a3⟩ => [.v (.string a0), .v (.string a1), .s 45 8 a2.length (FField.flat a2), .s 57 5 a3.length (FMethod.flat a3)]
def FClass.wt : FClass → Nat
  | ⟨a0, a1, a2, a3⟩ => a0.size + a1.size + (a2.length + FField.wts a2) + (a3.length + FMethod.wts a3)
def FClass.ok : FClass → Prop
  | ⟨a0, a1, a2, a3⟩ => a0.size ≤ 9223372036854775807 ∧ a1.size ≤ 9223372036854775807 ∧ FField.oks a2 ∧ FMethod.oks a3
def FClass.wts : List FClass → Nat
  | [] => 0
  | x :: r => x.wt + FClass.wts r
def FClass.oks : List FClass → Prop
  | [] => True
  | x :: r => x.ok ∧ FClass.oks r
abbrev FClass.flat (l : List FClass) : List Cel := l.flatMap FClass.c
theorem FClass.c_eq (z0 : ByteArray) (z1 : ByteArray) (z2 : List FField) (z3 : List FMethod) : FClass.c ⟨z0, z1, z2, z3⟩ = [.v (.string z0), .v (.string z1), .s 45 8 z2.length (FField.flat z2), .s 57 5 z3.length (FMethod.flat z3)] := by simp [FClass.c]
theorem FClass.len (x : FClass) : x.c.length = 4 := by
  obtain ⟨z0, z1, z2, z3⟩ := x
  rw [FClass.c_eq]
  rfl
theorem FClass.wt_eq (z0 : ByteArray) (z1 : ByteArray) (z2 : List FField) (z3 : List FMethod) : FClass.wt ⟨z0, z1, z2, z3⟩ = z0.size + z1.size + (z2.length + FField.wts z2) + (z3.length + FMethod.wts z3) := by simp [FClass.wt, Nat.add_assoc]
theorem FClass.ok_eq (z0 : ByteArray) (z1 : ByteArray) (z2 : List FField) (z3 : List FMethod) : FClass.ok ⟨z0, z1, z2, z3⟩ ↔ (z0.size ≤ 9223372036854775807 ∧ z1.size ≤ 9223372036854775807 ∧ FField.oks z2 ∧ FMethod.oks z3) := by simp [FClass.ok, and_assoc]
theorem FClass.oks_mem : ∀ l : List FClass, FClass.oks l → ∀ x, x ∈ l → x.ok
  | [], _, x, hx => by cases hx
  | y :: r, h, x, hx => by
    unfold FClass.oks at h
    rcases List.mem_cons.1 hx with rfl | hx
    · exact h.1
    · exact FClass.oks_mem r h.2 x hx
theorem FClass.oks_of : ∀ l : List FClass, (∀ x, x ∈ l → x.ok) → FClass.oks l
  | [], _ => by unfold FClass.oks; trivial
  | y :: r, h => by
    unfold FClass.oks
    exact ⟨h y (by simp), FClass.oks_of r fun x hx => h x (by simp [hx])⟩
theorem FClass.wts_take : ∀ (l : List FClass) (k : Nat) (x : FClass), l[k]? = some x → FClass.wts (l.take (k + 1)) = FClass.wts (l.take k) + x.wt
  | [], k, x, h => by simp at h
  | y :: r, 0, x, h => by
    obtain rfl : y = x := by simpa using h
    simp [FClass.wts]
  | y :: r, k + 1, x, h => by
    rw [List.take_succ_cons, List.take_succ_cons, FClass.wts, FClass.wts, FClass.wts_take r k x (by simpa using h)]
    omega
theorem FClass.wts_le : ∀ (l : List FClass) (k : Nat), FClass.wts (l.take k) ≤ FClass.wts l
  | [], k => by simp
  | y :: r, 0 => by simp [FClass.wts]
  | y :: r, k + 1 => by
    rw [List.take_succ_cons, FClass.wts, FClass.wts]
    have := FClass.wts_le r k
    omega
theorem FClass.wts_at : ∀ (l : List FClass) (x : FClass), x ∈ l → x.wt ≤ FClass.wts l
  | [], x, h => by cases h
  | y :: r, x, h => by
    unfold FClass.wts
    rcases List.mem_cons.1 h with rfl | h
    · omega
    · have := FClass.wts_at r x h
      omega
def ReadClass {H : Type} (enc : TypeId × Value → H) (w : World) (base : Nat) (spare : Nat → Bool) (held : Bool) (n : Nat) : Prop := ∀ (cs : List Value) (y : DataW H × List MemPlace), DataW.trod enc Tryz.prog w base spare held n 75 cs = some y → ∃ x : FClass, RdVs w w.heap.size x.c cs ∧ x.ok
theorem read_Class_of {H : Type} {enc : TypeId × Value → H} {w : World} {base : Nat} {spare : Nat → Bool} {held : Bool} (n : Nat) : ReadClass enc w base spare held n := by
  intro cs y h
  obtain ⟨hl, n1, rfl, hf⟩ := struct_span (by kernel_rfl) h
  have hC : Tryz.prog.cellsOf 75 = 4 := by kernel_rfl
  rw [hC] at hl
  obtain ⟨y0, t0⟩ := hf 0 9 0 1 (by kernel_rfl)
  obtain ⟨z0, e0, _, k0⟩ := DataW.trod_string Tryz.underlying9 t0
  obtain ⟨y1, t1⟩ := hf 1 9 1 1 (by kernel_rfl)
  obtain ⟨z1, e1, _, k1⟩ := DataW.trod_string Tryz.underlying9 t1
  obtain ⟨y2, t2⟩ := hf 2 72 2 1 (by kernel_rfl)
  obtain ⟨v2, z2, e2, r2, k2⟩ := open_deep (ok := FField.ok) 45 FField.len (by omega) Tryz.underlying72 (by kernel_rfl) (fun m cs1 y1 hm h1 => read_Field m cs1 y1 h1) t2
  obtain ⟨y3, t3⟩ := hf 3 73 3 1 (by kernel_rfl)
  obtain ⟨v3, z3, e3, r3, k3⟩ := open_deep (ok := FMethod.ok) 57 FMethod.len (by omega) Tryz.underlying73 (by kernel_rfl) (fun m cs1 y1 hm h1 => read_Method m cs1 y1 h1) t3
  have hcs := cut_all hl
  have q0 := cut_step 0 1 3 (us := cs)
  have q1 := cut_step 1 1 2 (us := cs)
  have q2 := cut_step 2 1 1 (us := cs)
  refine ⟨⟨z0, z1, z2, z3⟩, ?_, ?_⟩
  · rw [FClass.c_eq, hcs]
    rw [show (cs.drop 0).take 4 = (cs.drop 0).take 1 ++ (cs.drop 1).take 3 from q0]
    rw [show (cs.drop 1).take 3 = (cs.drop 1).take 1 ++ (cs.drop 2).take 2 from q1]
    rw [show (cs.drop 2).take 2 = (cs.drop 2).take 1 ++ (cs.drop 3).take 1 from q2]
    rw [e0]
    rw [e1]
    rw [e2]
    rw [e3]
    exact (RdVs.cons (by unfold RdC; rfl) (RdVs.cons (by unfold RdC; rfl) (RdVs.cons r2 (RdVs.cons r3 (RdVs.nil _ _)))))
  · rw [FClass.ok_eq]
    have j0 := k0
    unfold maxLen at j0
    have j1 := k1
    unfold maxLen at j1
    exact ⟨j0, j1, FField.oks_of _ k2, FMethod.oks_of _ k3⟩
theorem read_Class {H : Type} {enc : TypeId × Value → H} {w : World} {base : Nat} {spare : Nat → Bool} {held : Bool} (n : Nat) : ReadClass enc w base spare held n := read_Class_of n
/-! ### Program -/
structure FProgram where
  a0 : List FFunc
  a1 : List FClass
def FProgram.c : FProgram → List Cel
  | ⟨a0, a1⟩ => [.s 51 6 a0.length (FFunc.flat a0), .s 40 4 a1.length (FClass.flat a1)]
def FProgram.wt : FProgram → Nat
  | ⟨a0, a1⟩ => (a0.length + FFunc.wts a0) + (a1.length + FClass.wts a1)
def FProgram.ok : FProgram → Prop
  | ⟨a0, a1⟩ => FFunc.oks a0 ∧ FClass.oks a1
def FProgram.wts : List FProgram → Nat
  | [] => 0
  | x :: r => x.wt + FProgram.wts r
def FProgram.oks : List FProgram → Prop
  | [] => True
  | x :: r => x.ok ∧ FProgram.oks r
abbrev FProgram.flat (l : List FProgram) : List Cel := l.flatMap FProgram.c
theorem FProgram.c_eq (z0 : List FFunc) (z1 : List FClass) : FProgram.c ⟨z0, z1⟩ = [.s 51 6 z0.length (FFunc.flat z0), .s 40 4 z1.length (FClass.flat z1)] := by simp [FProgram.c]
theorem FProgram.len (x : FProgram) : x.c.length = 2 := by
  obtain ⟨z0, z1⟩ := x
  rw [FProgram.c_eq]
  rfl
theorem FProgram.wt_eq (z0 : List FFunc) (z1 : List FClass) : FProgram.wt ⟨z0, z1⟩ = (z0.length + FFunc.wts z0) + (z1.length + FClass.wts z1) := by simp [FProgram.wt, Nat.add_assoc]
theorem FProgram.ok_eq (z0 : List FFunc) (z1 : List FClass) : FProgram.ok ⟨z0, z1⟩ ↔ (FFunc.oks z0 ∧ FClass.oks z1) := by simp [FProgram.ok, and_assoc]
theorem FProgram.oks_mem : ∀ l : List FProgram, FProgram.oks l → ∀ x, x ∈ l → x.ok
  | [], _, x, hx => by cases hx
  | y :: r, h, x, hx => by
    unfold FProgram.oks at h
    rcases List.mem_cons.1 hx with rfl | hx
    · exact h.1
    · exact FProgram.oks_mem r h.2 x hx
theorem FProgram.oks_of : ∀ l : List FProgram, (∀ x, x ∈ l → x.ok) → FProgram.oks l
  | [], _ => by unfold FProgram.oks; trivial
  | y :: r, h => by
    unfold FProgram.oks
    exact ⟨h y (by simp), FProgram.oks_of r fun x hx => h x (by simp [hx])⟩
theorem FProgram.wts_take : ∀ (l : List FProgram) (k : Nat) (x : FProgram), l[k]? = some x → FProgram.wts (l.take (k + 1)) = FProgram.wts (l.take k) + x.wt
  | [], k, x, h => by simp at h
  | y :: r, 0, x, h => by
    obtain rfl : y = x := by simpa using h
    simp [FProgram.wts]
  | y :: r, k + 1, x, h => by
    rw [List.take_succ_cons, List.take_succ_cons, FProgram.wts, FProgram.wts, FProgram.wts_take r k x (by simpa using h)]
    omega
theorem FProgram.wts_le : ∀ (l : List FProgram) (k : Nat), FProgram.wts (l.take k) ≤ FProgram.wts l
  | [], k => by simp
  | y :: r, 0 => by simp [FProgram.wts]
  | y :: r, k + 1 => by
    rw [List.take_succ_cons, FProgram.wts, FProgram.wts]
    have := FProgram.wts_le r k
    omega
theorem FProgram.wts_at : ∀ (l : List FProgram) (x : FProgram), x ∈ l → x.wt ≤ FProgram.wts l
  | [], x, h => by cases h
  | y :: r, x, h => by
    unfold FProgram.wts
    rcases List.mem_cons.1 h with rfl | h
    · omega
    · have := FProgram.wts_at r x h
      omega
def ReadProgram {H : Type} (enc : TypeId × Value → H) (w : World) (base : Nat) (spare : Nat → Bool) (held : Bool) (n : Nat) : Prop := ∀ (cs : List Value) (y : DataW H × List MemPlace), DataW.trod enc Tryz.prog w base spare held n 25 cs = some y → ∃ x : FProgram, RdVs w w.heap.size x.c cs ∧ x.ok
theorem read_Program_of {H : Type} {enc : TypeId × Value → H} {w : World} {base : Nat} {spare : Nat → Bool} {held : Bool} (n : Nat) : ReadProgram enc w base spare held n := by
  intro cs y h
  obtain ⟨hl, n1, rfl, hf⟩ := struct_span (by kernel_rfl) h
  have hC : Tryz.prog.cellsOf 25 = 2 := by kernel_rfl
  rw [hC] at hl
  obtain ⟨y0, t0⟩ := hf 0 22 0 1 (by kernel_rfl)
  obtain ⟨v0, z0, e0, r0, k0⟩ := open_deep (ok := FFunc.ok) 51 FFunc.len (by omega) Tryz.underlying22 (by kernel_rfl) (fun m cs1 y1 hm h1 => read_Func m cs1 y1 h1) t0
  obtain ⟨y1, t1⟩ := hf 1 23 1 1 (by kernel_rfl)
  obtain ⟨v1, z1, e1, r1, k1⟩ := open_deep (ok := FClass.ok) 40 FClass.len (by omega) Tryz.underlying23 (by kernel_rfl) (fun m cs1 y1 hm h1 => read_Class m cs1 y1 h1) t1
  have hcs := cut_all hl
  have q0 := cut_step 0 1 1 (us := cs)
  refine ⟨⟨z0, z1⟩, ?_, ?_⟩
  · rw [FProgram.c_eq, hcs]
    rw [show (cs.drop 0).take 2 = (cs.drop 0).take 1 ++ (cs.drop 1).take 1 from q0]
    rw [e0]
    rw [e1]
    exact (RdVs.cons r0 (RdVs.cons r1 (RdVs.nil _ _)))
  · rw [FProgram.ok_eq]
    exact ⟨FFunc.oks_of _ k0, FClass.oks_of _ k1⟩
theorem read_Program {H : Type} {enc : TypeId × Value → H} {w : World} {base : Nat} {spare : Nat → Bool} {held : Bool} (n : Nat) : ReadProgram enc w base spare held n := read_Program_of n
end Go.Proofs.YtdmbhmhfjappcaaGreatDoor
