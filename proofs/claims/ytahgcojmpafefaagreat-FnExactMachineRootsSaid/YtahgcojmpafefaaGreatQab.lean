/-
  Parts of the proof: DataM. Conditions: none.
-/
import Derived.Test.YtahgcojmpafefaaGreatQaa
set_option linter.unusedVariables false
set_option linter.unusedSimpArgs false
namespace Go.Proofs.YtahgcojmpafefaaGreat
open Go.ChangeShapes Go.WideShapes Go.ChangeAt Go.RowKit Go.Deep Go.Joins
open Go.ChangeMaps (open_string shut_string)
set_option maxRecDepth 100000
/-! ### string -/
structure FStr where
  a0 : ByteArray
/-! ### int -/
structure FInt where
  a0 : Int
def FInt.c : FInt → List Cel
  | ⟨a0⟩ => [.v (.int .i64 a0)]
def FInt.wt : FInt → Nat
  | ⟨a0⟩ => 0
def FInt.ok : FInt → Prop
  | ⟨a0⟩ => True
def FInt.wts : List FInt → Nat
  | [] => 0
  | x :: r => x.wt + FInt.wts r
def FInt.oks : List FInt → Prop
  | [] => True
  | x :: r => x.ok ∧ FInt.oks r
abbrev FInt.flat (l : List FInt) : List Cel := l.flatMap FInt.c
theorem FInt.c_eq (z0 : Int) : FInt.c ⟨z0⟩ = [.v (.int .i64 z0)] := by simp [FInt.c]
theorem FInt.len (x : FInt) : x.c.length = 1 := by
  obtain ⟨z0⟩ := x
  rw [FInt.c_eq]
  rfl
theorem FInt.wt_eq (z0 : Int) : FInt.wt ⟨z0⟩ = 0 := by simp [FInt.wt]
theorem FInt.oks_of : ∀ l : List FInt, (∀ x, x ∈ l → x.ok) → FInt.oks l
  | [], _ => by unfold FInt.oks; trivial
  | y :: r, h => by
    unfold FInt.oks
    exact ⟨h y (by simp), FInt.oks_of r fun x hx => h x (by simp [hx])⟩
theorem read_int {H : Type} {enc : TypeId × Value → H} {w : World} {base : Nat} {spare : Nat → Bool} {held : Bool} (n : Nat) (cs : List Value) (y : DataW H × List MemPlace) (h : DataW.trod enc Tryz.prog w base spare held n 3 cs = some y) : ∃ x : FInt, RdVs w w.heap.size x.c cs ∧ x.ok := by
  obtain ⟨s, rfl, _, _⟩ := DataW.trod_int Tryz.underlying3 h
  exact ⟨⟨s⟩, RdVs.cons (by unfold RdC; rfl) (RdVs.nil _ _), trivial⟩
/-! ### Key -/
structure FKey where
  a0 : Bool
  a1 : Int
  a2 : ByteArray
def FKey.c : FKey → List Cel
  | ⟨a0, a1, a2⟩ => [.v (.bool a0), .v (.int .i64 a1), .v (.string a2)]
def FKey.wt : FKey → Nat
  | ⟨a0, a1, a2⟩ => a2.size
def FKey.ok : FKey → Prop
  | ⟨a0, a1, a2⟩ => a2.size ≤ 9223372036854775807
theorem FKey.c_eq (z0 : Bool) (z1 : Int) (z2 : ByteArray) : FKey.c ⟨z0, z1, z2⟩ = [.v (.bool z0), .v (.int .i64 z1), .v (.string z2)] := by simp [FKey.c]
theorem FKey.wt_eq (z0 : Bool) (z1 : Int) (z2 : ByteArray) : FKey.wt ⟨z0, z1, z2⟩ = z2.size := by simp [FKey.wt]
theorem FKey.ok_eq (z0 : Bool) (z1 : Int) (z2 : ByteArray) : FKey.ok ⟨z0, z1, z2⟩ ↔ (z2.size ≤ 9223372036854775807) := by simp [FKey.ok]
def ReadKey {H : Type} (enc : TypeId × Value → H) (w : World) (base : Nat) (spare : Nat → Bool) (held : Bool) (n : Nat) : Prop := ∀ (cs : List Value) (y : DataW H × List MemPlace), DataW.trod enc Tryz.prog w base spare held n 226 cs = some y → ∃ x : FKey, RdVs w w.heap.size x.c cs ∧ x.ok
theorem read_Key_of {H : Type} {enc : TypeId × Value → H} {w : World} {base : Nat} {spare : Nat → Bool} {held : Bool} (n : Nat) : ReadKey enc w base spare held n := by
  intro cs y h
  obtain ⟨hl, n1, rfl, hf⟩ := struct_span (by kernel_rfl) h
  have hC : Tryz.prog.cellsOf 226 = 3 := by kernel_rfl
  rw [hC] at hl
  obtain ⟨y0, t0⟩ := hf 0 4 0 1 (by kernel_rfl)
  obtain ⟨z0, e0, _⟩ := DataW.trod_bool Tryz.underlying4 t0
  obtain ⟨y1, t1⟩ := hf 1 3 1 1 (by kernel_rfl)
  obtain ⟨z1, e1, _, g1⟩ := DataW.trod_int Tryz.underlying3 t1
  obtain ⟨y2, t2⟩ := hf 2 9 2 1 (by kernel_rfl)
  obtain ⟨z2, e2, _, k2⟩ := DataW.trod_string Tryz.underlying9 t2
  have hcs := cut_all hl
  have q0 := cut_step 0 1 2 (us := cs)
  have q1 := cut_step 1 1 1 (us := cs)
  refine ⟨⟨z0, z1, z2⟩, ?_, ?_⟩
  · rw [FKey.c_eq, hcs]
    rw [show (cs.drop 0).take 3 = (cs.drop 0).take 1 ++ (cs.drop 1).take 2 from q0]
    rw [show (cs.drop 1).take 2 = (cs.drop 1).take 1 ++ (cs.drop 2).take 1 from q1]
    rw [e0]
    rw [e1]
    rw [e2]
    exact (RdVs.cons (by unfold RdC; rfl) (RdVs.cons (by unfold RdC; rfl) (RdVs.cons (by unfold RdC; rfl) (RdVs.nil _ _))))
  · rw [FKey.ok_eq]
    have j2 := k2
    unfold maxLen at j2
    exact j2
theorem read_Key {H : Type} {enc : TypeId × Value → H} {w : World} {base : Nat} {spare : Nat → Bool} {held : Bool} (n : Nat) : ReadKey enc w base spare held n := read_Key_of n
/-! ### Entry, Value -/
mutual
inductive FEntry where
  | mk (a0 : FKey) (a1 : FValue)
inductive FValue where
  | mk (a0 : Int) (a1 : Int) (a2 : ByteArray) (a3 : Int) (a4 : List FEntry)
end
mutual
def FEntry.c : FEntry → List Cel
  | .mk a0 a1 => FKey.c a0 ++ FValue.c a1
def FValue.c : FValue → List Cel
  | .mk a0 a1 a2 a3 a4 => [.v (.int .i64 a0), .v (.int .i64 a1), .v (.string a2), .v (.int .i64 a3), .s 153 8 a4.length (FEntry.cs a4)]
def FEntry.cs : List FEntry → List Cel
  | [] => []
  | x :: r => x.c ++ FEntry.cs r
end
mutual
def FEntry.wt : FEntry → Nat
  | .mk a0 a1 => FKey.wt a0 + FValue.wt a1
def FValue.wt : FValue → Nat
  | .mk a0 a1 a2 a3 a4 => a2.size + (a4.length + FEntry.wts a4)
def FEntry.wts : List FEntry → Nat
  | [] => 0
  | x :: r => x.wt + FEntry.wts r
end
mutual
def FEntry.ok : FEntry → Prop
  | .mk a0 a1 => FKey.ok a0 ∧ FValue.ok a1
def FValue.ok : FValue → Prop
  | .mk a0 a1 a2 a3 a4 => a2.size ≤ 9223372036854775807 ∧ FEntry.oks a4
def FEntry.oks : List FEntry → Prop
  | [] => True
  | x :: r => x.ok ∧ FEntry.oks r
end
abbrev FEntry.flat (l : List FEntry) : List Cel := l.flatMap FEntry.c
theorem FEntry.cs_eq : ∀ l : List FEntry, FEntry.cs l = FEntry.flat l
  | [] => by simp [FEntry.cs]
  | x :: r => by rw [FEntry.cs, FEntry.cs_eq r]; simp [FEntry.flat]
def FValue.wts : List FValue → Nat
  | [] => 0
  | x :: r => x.wt + FValue.wts r
def FValue.oks : List FValue → Prop
  | [] => True
  | x :: r => x.ok ∧ FValue.oks r
abbrev FValue.flat (l : List FValue) : List Cel := l.flatMap FValue.c
theorem FEntry.c_eq (z0 : Bool) (z1 : Int) (z2 : ByteArray) (z3 : Int) (z4 : Int) (z5 : ByteArray) (z6 : Int) (z7 : List FEntry) : FEntry.c ⟨⟨z0, z1, z2⟩, ⟨z3, z4, z5, z6, z7⟩⟩ = [.v (.bool z0), .v (.int .i64 z1), .v (.string z2), .v (.int .i64 z3), .v (.int .i64 z4), .v (.string z5), .v (.int .i64 z6), .s 153 8 z7.length (FEntry.flat z7)] := by simp [FEntry.c, FKey.c, FValue.c, FEntry.cs_eq]
theorem FEntry.len (x : FEntry) : x.c.length = 8 := by
  obtain ⟨⟨z0, z1, z2⟩, ⟨z3, z4, z5, z6, z7⟩⟩ := x
  rw [FEntry.c_eq]
  rfl
theorem FEntry.wt_eq (z0 : Bool) (z1 : Int) (z2 : ByteArray) (z3 : Int) (z4 : Int) (z5 : ByteArray) (z6 : Int) (z7 : List FEntry) : FEntry.wt ⟨⟨z0, z1, z2⟩, ⟨z3, z4, z5, z6, z7⟩⟩ = z2.size + z5.size + (z7.length + FEntry.wts z7) := by simp [FEntry.wt, FKey.wt, FValue.wt, Nat.add_assoc]
theorem FEntry.ok_eq (z0 : Bool) (z1 : Int) (z2 : ByteArray) (z3 : Int) (z4 : Int) (z5 : ByteArray) (z6 : Int) (z7 : List FEntry) : FEntry.ok ⟨⟨z0, z1, z2⟩, ⟨z3, z4, z5, z6, z7⟩⟩ ↔ (z2.size ≤ 9223372036854775807 ∧ z5.size ≤ 9223372036854775807 ∧ FEntry.oks z7) := by simp [FEntry.ok, FKey.ok, FValue.ok, and_assoc]
theorem FEntry.oks_of : ∀ l : List FEntry, (∀ x, x ∈ l → x.ok) → FEntry.oks l
  | [], _ => by unfold FEntry.oks; trivial
  | y :: r, h => by
    unfold FEntry.oks
    exact ⟨h y (by simp), FEntry.oks_of r fun x hx => h x (by simp [hx])⟩
theorem FEntry.wts_take : ∀ (l : List FEntry) (k : Nat) (x : FEntry), l[k]? = some x → FEntry.wts (l.take (k + 1)) = FEntry.wts (l.take k) + x.wt
  | [], k, x, h => by simp at h
  | y :: r, 0, x, h => by
    obtain rfl : y = x := by simpa using h
    simp [FEntry.wts]
  | y :: r, k + 1, x, h => by
    rw [List.take_succ_cons, List.take_succ_cons, FEntry.wts, FEntry.wts, FEntry.wts_take r k x (by simpa using h)]
    omega
theorem FEntry.wts_le : ∀ (l : List FEntry) (k : Nat), FEntry.wts (l.take k) ≤ FEntry.wts l
  | [], k => by simp
  | y :: r, 0 => by simp [FEntry.wts]
  | y :: r, k + 1 => by
    rw [List.take_succ_cons, FEntry.wts, FEntry.wts]
    have := FEntry.wts_le r k
    omega
theorem FValue.c_eq (z0 : Int) (z1 : Int) (z2 : ByteArray) (z3 : Int) (z4 : List FEntry) : FValue.c ⟨z0, z1, z2, z3, z4⟩ = [.v (.int .i64 z0), .v (.int .i64 z1), .v (.string z2), .v (.int .i64 z3), .s 153 8 z4.length (FEntry.flat z4)] := by simp [FValue.c, FEntry.cs_eq]
theorem FValue.len (x : FValue) : x.c.length = 5 := by
  obtain ⟨z0, z1, z2, z3, z4⟩ := x
  rw [FValue.c_eq]
  rfl
theorem FValue.wt_eq (z0 : Int) (z1 : Int) (z2 : ByteArray) (z3 : Int) (z4 : List FEntry) : FValue.wt ⟨z0, z1, z2, z3, z4⟩ = z2.size + (z4.length + FEntry.wts z4) := by simp [FValue.wt, Nat.add_assoc]
theorem FValue.ok_eq (z0 : Int) (z1 : Int) (z2 : ByteArray) (z3 : Int) (z4 : List FEntry) : FValue.ok ⟨z0, z1, z2, z3, z4⟩ ↔ (z2.size ≤ 9223372036854775807 ∧ FEntry.oks z4) := by simp [FValue.ok, and_assoc]
theorem FValue.oks_mem : ∀ l : List FValue, FValue.oks l → ∀ x, x ∈ l → x.ok
  | [], _, x, hx => by cases hx
  | y :: r, h, x, hx => by
    unfold FValue.oks at h
    rcases List.mem_cons.1 hx with rfl | hx
    · exact h.1
    · exact FValue.oks_mem r h.2 x hx
theorem FValue.oks_of : ∀ l : List FValue, (∀ x, x ∈ l → x.ok) → FValue.oks l
  | [], _ => by unfold FValue.oks; trivial
  | y :: r, h => by
    unfold FValue.oks
    exact ⟨h y (by simp), FValue.oks_of r fun x hx => h x (by simp [hx])⟩
theorem FValue.wts_take : ∀ (l : List FValue) (k : Nat) (x : FValue), l[k]? = some x → FValue.wts (l.take (k + 1)) = FValue.wts (l.take k) + x.wt
  | [], k, x, h => by simp at h
  | y :: r, 0, x, h => by
    obtain rfl : y = x := by simpa using h
    simp [FValue.wts]
  | y :: r, k + 1, x, h => by
    rw [List.take_succ_cons, List.take_succ_cons, FValue.wts, FValue.wts, FValue.wts_take r k x (by simpa using h)]
    omega
theorem FValue.wts_le : ∀ (l : List FValue) (k : Nat), FValue.wts (l.take k) ≤ FValue.wts l
  | [], k => by simp
  | y :: r, 0 => by simp [FValue.wts]
  | y :: r, k + 1 => by
    rw [List.take_succ_cons, FValue.wts, FValue.wts]
    have := FValue.wts_le r k
    omega
theorem FValue.wts_at : ∀ (l : List FValue) (x : FValue), x ∈ l → x.wt ≤ FValue.wts l
  | [], x, h => by cases h
  | y :: r, x, h => by
    unfold FValue.wts
    rcases List.mem_cons.1 h with rfl | h
    · omega
    · have := FValue.wts_at r x h
      omega
def ReadEntry {H : Type} (enc : TypeId × Value → H) (w : World) (base : Nat) (spare : Nat → Bool) (held : Bool) (n : Nat) : Prop := ∀ (cs : List Value) (y : DataW H × List MemPlace), DataW.trod enc Tryz.prog w base spare held n 228 cs = some y → ∃ x : FEntry, RdVs w w.heap.size x.c cs ∧ x.ok
def ReadValue {H : Type} (enc : TypeId × Value → H) (w : World) (base : Nat) (spare : Nat → Bool) (held : Bool) (n : Nat) : Prop := ∀ (cs : List Value) (y : DataW H × List MemPlace), DataW.trod enc Tryz.prog w base spare held n 115 cs = some y → ∃ x : FValue, RdVs w w.heap.size x.c cs ∧ x.ok
theorem read_Entry_of {H : Type} {enc : TypeId × Value → H} {w : World} {base : Nat} {spare : Nat → Bool} {held : Bool} (n : Nat) (HValue : ∀ m, m < n → ReadValue enc w base spare held m) : ReadEntry enc w base spare held n := by
  intro cs y h
  obtain ⟨hl, n1, rfl, hf⟩ := struct_span (by kernel_rfl) h
  have hC : Tryz.prog.cellsOf 228 = 8 := by kernel_rfl
  rw [hC] at hl
  obtain ⟨y0, t0⟩ := hf 0 226 0 3 (by kernel_rfl)
  obtain ⟨x0, r0, k0⟩ := read_Key n1 _ _ t0
  obtain ⟨z0, z1, z2⟩ := x0
  rw [FKey.c_eq] at r0
  rw [FKey.ok_eq] at k0
  obtain ⟨y1, t1⟩ := hf 1 115 3 5 (by kernel_rfl)
  obtain ⟨x1, r1, k1⟩ := HValue n1 (Nat.lt_succ_self _) _ _ t1
  obtain ⟨z3, z4, z5, z6, z7⟩ := x1
  rw [FValue.c_eq] at r1
  rw [FValue.ok_eq] at k1
  have hcs := cut_all hl
  have q0 := cut_step 0 3 5 (us := cs)
  refine ⟨⟨⟨z0, z1, z2⟩, ⟨z3, z4, z5, z6, z7⟩⟩, ?_, ?_⟩
  · rw [FEntry.c_eq, hcs]
    rw [show (cs.drop 0).take 8 = (cs.drop 0).take 3 ++ (cs.drop 3).take 5 from q0]
    exact (RdVs.app r0 r1)
  · rw [FEntry.ok_eq]
    exact ⟨k0, k1.1, k1.2⟩
theorem read_Value_of {H : Type} {enc : TypeId × Value → H} {w : World} {base : Nat} {spare : Nat → Bool} {held : Bool} (n : Nat) (HEntry : ∀ m, m < n → ReadEntry enc w base spare held m) : ReadValue enc w base spare held n := by
  intro cs y h
  obtain ⟨hl, n1, rfl, hf⟩ := struct_span (by kernel_rfl) h
  have hC : Tryz.prog.cellsOf 115 = 5 := by kernel_rfl
  rw [hC] at hl
  obtain ⟨y0, t0⟩ := hf 0 3 0 1 (by kernel_rfl)
  obtain ⟨z0, e0, _, g0⟩ := DataW.trod_int Tryz.underlying3 t0
  obtain ⟨y1, t1⟩ := hf 1 3 1 1 (by kernel_rfl)
  obtain ⟨z1, e1, _, g1⟩ := DataW.trod_int Tryz.underlying3 t1
  obtain ⟨y2, t2⟩ := hf 2 9 2 1 (by kernel_rfl)
  obtain ⟨z2, e2, _, k2⟩ := DataW.trod_string Tryz.underlying9 t2
  obtain ⟨y3, t3⟩ := hf 3 3 3 1 (by kernel_rfl)
  obtain ⟨z3, e3, _, g3⟩ := DataW.trod_int Tryz.underlying3 t3
  obtain ⟨y4, t4⟩ := hf 4 113 4 1 (by kernel_rfl)
  obtain ⟨v4, z4, e4, r4, k4⟩ := open_deep (ok := FEntry.ok) 153 FEntry.len (by omega) Tryz.underlying113 (by kernel_rfl) (fun m cs1 y1 hm h1 => HEntry m (by omega) cs1 y1 h1) t4
  have hcs := cut_all hl
  have q0 := cut_step 0 1 4 (us := cs)
  have q1 := cut_step 1 1 3 (us := cs)
  have q2 := cut_step 2 1 2 (us := cs)
  have q3 := cut_step 3 1 1 (us := cs)
  refine ⟨⟨z0, z1, z2, z3, z4⟩, ?_, ?_⟩
  · rw [FValue.c_eq, hcs]
    rw [show (cs.drop 0).take 5 = (cs.drop 0).take 1 ++ (cs.drop 1).take 4 from q0]
    rw [show (cs.drop 1).take 4 = (cs.drop 1).take 1 ++ (cs.drop 2).take 3 from q1]
    rw [show (cs.drop 2).take 3 = (cs.drop 2).take 1 ++ (cs.drop 3).take 2 from q2]
    rw [show (cs.drop 3).take 2 = (cs.drop 3).take 1 ++ (cs.drop 4).take 1 from q3]
    rw [e0]
    rw [e1]
    rw [e2]
    rw [e3]
    rw [e4]
    exact (RdVs.cons (by unfold RdC; rfl) (RdVs.cons (by unfold RdC; rfl) (RdVs.cons (by unfold RdC; rfl) (RdVs.cons (by unfold RdC; rfl) (RdVs.cons r4 (RdVs.nil _ _))))))
  · rw [FValue.ok_eq]
    have j2 := k2
    unfold maxLen at j2
    exact ⟨j2, FEntry.oks_of _ k4⟩
theorem read_Entry_Value_all {H : Type} {enc : TypeId × Value → H} {w : World} {base : Nat} {spare : Nat → Bool} {held : Bool} (n : Nat) : ReadEntry enc w base spare held n ∧ ReadValue enc w base spare held n := by
  induction n using Nat.strongRecOn with
  | ind n ih =>
    exact ⟨read_Entry_of n (fun m hm => (ih m hm).2), read_Value_of n (fun m hm => (ih m hm).1)⟩
theorem read_Value {H : Type} {enc : TypeId × Value → H} {w : World} {base : Nat} {spare : Nat → Bool} {held : Bool} (n : Nat) : ReadValue enc w base spare held n := (read_Entry_Value_all n).2
/-! ### Place -/
structure FPlace where
  a0 : ByteArray
  a1 : Int
def FPlace.c : FPlace → List Cel
  | ⟨a0, a1⟩ => [.v (.string a0), .v (.int .i64 a1)]
def FPlace.wt : FPlace → Nat
  | ⟨a0, a1⟩ => a0.size
def FPlace.ok : FPlace → Prop
  | ⟨a0, a1⟩ => a0.size ≤ 9223372036854775807
def FPlace.wts : List FPlace → Nat
  | [] => 0
  | x :: r => x.wt + FPlace.wts r
def FPlace.oks : List FPlace → Prop
  | [] => True
  | x :: r => x.ok ∧ FPlace.oks r
abbrev FPlace.flat (l : List FPlace) : List Cel := l.flatMap FPlace.c
theorem FPlace.c_eq (z0 : ByteArray) (z1 : Int) : FPlace.c ⟨z0, z1⟩ = [.v (.string z0), .v (.int .i64 z1)] := by simp [FPlace.c]
theorem FPlace.len (x : FPlace) : x.c.length = 2 := by
  obtain ⟨z0, z1⟩ := x
  rw [FPlace.c_eq]
  rfl
theorem FPlace.wt_eq (z0 : ByteArray) (z1 : Int) : FPlace.wt ⟨z0, z1⟩ = z0.size := by simp [FPlace.wt]
theorem FPlace.ok_eq (z0 : ByteArray) (z1 : Int) : FPlace.ok ⟨z0, z1⟩ ↔ (z0.size ≤ 9223372036854775807) := by simp [FPlace.ok]
theorem FPlace.oks_mem : ∀ l : List FPlace, FPlace.oks l → ∀ x, x ∈ l → x.ok
  | [], _, x, hx => by cases hx
  | y :: r, h, x, hx => by
    unfold FPlace.oks at h
    rcases List.mem_cons.1 hx with rfl | hx
    · exact h.1
    · exact FPlace.oks_mem r h.2 x hx
theorem FPlace.oks_of : ∀ l : List FPlace, (∀ x, x ∈ l → x.ok) → FPlace.oks l
  | [], _ => by unfold FPlace.oks; trivial
  | y :: r, h => by
    unfold FPlace.oks
    exact ⟨h y (by simp), FPlace.oks_of r fun x hx => h x (by simp [hx])⟩
theorem FPlace.wts_take : ∀ (l : List FPlace) (k : Nat) (x : FPlace), l[k]? = some x → FPlace.wts (l.take (k + 1)) = FPlace.wts (l.take k) + x.wt
  | [], k, x, h => by simp at h
  | y :: r, 0, x, h => by
    obtain rfl : y = x := by simpa using h
    simp [FPlace.wts]
  | y :: r, k + 1, x, h => by
    rw [List.take_succ_cons, List.take_succ_cons, FPlace.wts, FPlace.wts, FPlace.wts_take r k x (by simpa using h)]
    omega
theorem FPlace.wts_le : ∀ (l : List FPlace) (k : Nat), FPlace.wts (l.take k) ≤ FPlace.wts l
  | [], k => by simp
  | y :: r, 0 => by simp [FPlace.wts]
  | y :: r, k + 1 => by
    rw [List.take_succ_cons, FPlace.wts, FPlace.wts]
    have := FPlace.wts_le r k
    omega
theorem FPlace.wts_at : ∀ (l : List FPlace) (x : FPlace), x ∈ l → x.wt ≤ FPlace.wts l
  | [], x, h => by cases h
  | y :: r, x, h => by
    unfold FPlace.wts
    rcases List.mem_cons.1 h with rfl | h
    · omega
    · have := FPlace.wts_at r x h
      omega
def ReadPlace {H : Type} (enc : TypeId × Value → H) (w : World) (base : Nat) (spare : Nat → Bool) (held : Bool) (n : Nat) : Prop := ∀ (cs : List Value) (y : DataW H × List MemPlace), DataW.trod enc Tryz.prog w base spare held n 118 cs = some y → ∃ x : FPlace, RdVs w w.heap.size x.c cs ∧ x.ok
theorem read_Place_of {H : Type} {enc : TypeId × Value → H} {w : World} {base : Nat} {spare : Nat → Bool} {held : Bool} (n : Nat) : ReadPlace enc w base spare held n := by
  intro cs y h
  obtain ⟨hl, n1, rfl, hf⟩ := struct_span (by kernel_rfl) h
  have hC : Tryz.prog.cellsOf 118 = 2 := by kernel_rfl
  rw [hC] at hl
  obtain ⟨y0, t0⟩ := hf 0 9 0 1 (by kernel_rfl)
  obtain ⟨z0, e0, _, k0⟩ := DataW.trod_string Tryz.underlying9 t0
  obtain ⟨y1, t1⟩ := hf 1 3 1 1 (by kernel_rfl)
  obtain ⟨z1, e1, _, g1⟩ := DataW.trod_int Tryz.underlying3 t1
  have hcs := cut_all hl
  have q0 := cut_step 0 1 1 (us := cs)
  refine ⟨⟨z0, z1⟩, ?_, ?_⟩
  · rw [FPlace.c_eq, hcs]
    rw [show (cs.drop 0).take 2 = (cs.drop 0).take 1 ++ (cs.drop 1).take 1 from q0]
    rw [e0]
    rw [e1]
    exact (RdVs.cons (by unfold RdC; rfl) (RdVs.cons (by unfold RdC; rfl) (RdVs.nil _ _)))
  · rw [FPlace.ok_eq]
    have j0 := k0
    unfold maxLen at j0
    exact j0
theorem read_Place {H : Type} {enc : TypeId × Value → H} {w : World} {base : Nat} {spare : Nat → Bool} {held : Bool} (n : Nat) : ReadPlace enc w base spare held n := read_Place_of n
/-! ### Slot -/
structure FSlot where
  a0 : FKey
  a1 : FValue
  a2 : Bool
  a3 : Int
def FSlot.c : FSlot → List Cel
  | ⟨a0, a1, a2, a3⟩ => FKey.c a0 ++ FValue.c a1 ++ [.v (.bool a2), .v (.int .i64 a3)]
def FSlot.wt : FSlot → Nat
  | ⟨a0, a1, a2, a3⟩ => FKey.wt a0 + FValue.wt a1
def FSlot.ok : FSlot → Prop
  | ⟨a0, a1, a2, a3⟩ => FKey.ok a0 ∧ FValue.ok a1
def FSlot.wts : List FSlot → Nat
  | [] => 0
  | x :: r => x.wt + FSlot.wts r
def FSlot.oks : List FSlot → Prop
  | [] => True
  | x :: r => x.ok ∧ FSlot.oks r
abbrev FSlot.flat (l : List FSlot) : List Cel := l.flatMap FSlot.c
theorem FSlot.c_eq (z0 : Bool) (z1 : Int) (z2 : ByteArray) (z3 : Int) (z4 : Int) (z5 : ByteArray) (z6 : Int) (z7 : List FEntry) (z8 : Bool) (z9 : Int) : FSlot.c ⟨⟨z0, z1, z2⟩, ⟨z3, z4, z5, z6, z7⟩, z8, z9⟩ = [.v (.bool z0), .v (.int .i64 z1), .v (.string z2), .v (.int .i64 z3), .v (.int .i64 z4), .v (.string z5), .v (.int .i64 z6), .s 153 8 z7.length (FEntry.flat z7), .v (.bool z8), .v (.int .i64 z9)] := by simp [FKey.c, FSlot.c, FValue.c, FEntry.cs_eq]
theorem FSlot.len (x : FSlot) : x.c.length = 10 := by
  obtain ⟨⟨z0, z1, z2⟩, ⟨z3, z4, z5, z6, z7⟩, z8, z9⟩ := x
  rw [FSlot.c_eq]
  rfl
theorem FSlot.wt_eq (z0 : Bool) (z1 : Int) (z2 : ByteArray) (z3 : Int) (z4 : Int) (z5 : ByteArray) (z6 : Int) (z7 : List FEntry) (z8 : Bool) (z9 : Int) : FSlot.wt ⟨⟨z0, z1, z2⟩, ⟨z3, z4, z5, z6, z7⟩, z8, z9⟩ = z2.size + z5.size + (z7.length + FEntry.wts z7) := by simp [FKey.wt, FSlot.wt, FValue.wt, Nat.add_assoc]
theorem FSlot.ok_eq (z0 : Bool) (z1 : Int) (z2 : ByteArray) (z3 : Int) (z4 : Int) (z5 : ByteArray) (z6 : Int) (z7 : List FEntry) (z8 : Bool) (z9 : Int) : FSlot.ok ⟨⟨z0, z1, z2⟩, ⟨z3, z4, z5, z6, z7⟩, z8, z9⟩ ↔ (z2.size ≤ 9223372036854775807 ∧ z5.size ≤ 9223372036854775807 ∧ FEntry.oks z7) := by simp [FKey.ok, FSlot.ok, FValue.ok, and_assoc]
theorem FSlot.oks_mem : ∀ l : List FSlot, FSlot.oks l → ∀ x, x ∈ l → x.ok
  | [], _, x, hx => by cases hx
  | y :: r, h, x, hx => by
    unfold FSlot.oks at h
    rcases List.mem_cons.1 hx with rfl | hx
    · exact h.1
    · exact FSlot.oks_mem r h.2 x hx
theorem FSlot.oks_of : ∀ l : List FSlot, (∀ x, x ∈ l → x.ok) → FSlot.oks l
  | [], _ => by unfold FSlot.oks; trivial
  | y :: r, h => by
    unfold FSlot.oks
    exact ⟨h y (by simp), FSlot.oks_of r fun x hx => h x (by simp [hx])⟩
theorem FSlot.wts_take : ∀ (l : List FSlot) (k : Nat) (x : FSlot), l[k]? = some x → FSlot.wts (l.take (k + 1)) = FSlot.wts (l.take k) + x.wt
  | [], k, x, h => by simp at h
  | y :: r, 0, x, h => by
    obtain rfl : y = x := by simpa using h
    simp [FSlot.wts]
  | y :: r, k + 1, x, h => by
    rw [List.take_succ_cons, List.take_succ_cons, FSlot.wts, FSlot.wts, FSlot.wts_take r k x (by simpa using h)]
    omega
theorem FSlot.wts_le : ∀ (l : List FSlot) (k : Nat), FSlot.wts (l.take k) ≤ FSlot.wts l
  | [], k => by simp
  | y :: r, 0 => by simp [FSlot.wts]
  | y :: r, k + 1 => by
    rw [List.take_succ_cons, FSlot.wts, FSlot.wts]
    have := FSlot.wts_le r k
    omega
theorem FSlot.wts_at : ∀ (l : List FSlot) (x : FSlot), x ∈ l → x.wt ≤ FSlot.wts l
  | [], x, h => by cases h
  | y :: r, x, h => by
    unfold FSlot.wts
    rcases List.mem_cons.1 h with rfl | h
    · omega
    · have := FSlot.wts_at r x h
      omega
def ReadSlot {H : Type} (enc : TypeId × Value → H) (w : World) (base : Nat) (spare : Nat → Bool) (held : Bool) (n : Nat) : Prop := ∀ (cs : List Value) (y : DataW H × List MemPlace), DataW.trod enc Tryz.prog w base spare held n 266 cs = some y → ∃ x : FSlot, RdVs w w.heap.size x.c cs ∧ x.ok
theorem read_Slot_of {H : Type} {enc : TypeId × Value → H} {w : World} {base : Nat} {spare : Nat → Bool} {held : Bool} (n : Nat) : ReadSlot enc w base spare held n := by
  intro cs y h
  obtain ⟨hl, n1, rfl, hf⟩ := struct_span (by kernel_rfl) h
  have hC : Tryz.prog.cellsOf 266 = 10 := by kernel_rfl
  rw [hC] at hl
  obtain ⟨y0, t0⟩ := hf 0 226 0 3 (by kernel_rfl)
  obtain ⟨x0, r0, k0⟩ := read_Key n1 _ _ t0
  obtain ⟨z0, z1, z2⟩ := x0
  rw [FKey.c_eq] at r0
  rw [FKey.ok_eq] at k0
  obtain ⟨y1, t1⟩ := hf 1 115 3 5 (by kernel_rfl)
  obtain ⟨x1, r1, k1⟩ := read_Value n1 _ _ t1
  obtain ⟨z3, z4, z5, z6, z7⟩ := x1
  rw [FValue.c_eq] at r1
  rw [FValue.ok_eq] at k1
  obtain ⟨y2, t2⟩ := hf 2 4 8 1 (by kernel_rfl)
  obtain ⟨z8, e2, _⟩ := DataW.trod_bool Tryz.underlying4 t2
  obtain ⟨y3, t3⟩ := hf 3 3 9 1 (by kernel_rfl)
  obtain ⟨z9, e3, _, g3⟩ := DataW.trod_int Tryz.underlying3 t3
  have hcs := cut_all hl
  have q0 := cut_step 0 3 7 (us := cs)
  have q1 := cut_step 3 5 2 (us := cs)
  have q2 := cut_step 8 1 1 (us := cs)
  refine ⟨⟨⟨z0, z1, z2⟩, ⟨z3, z4, z5, z6, z7⟩, z8, z9⟩, ?_, ?_⟩
  · rw [FSlot.c_eq, hcs]
    rw [show (cs.drop 0).take 10 = (cs.drop 0).take 3 ++ (cs.drop 3).take 7 from q0]
    rw [show (cs.drop 3).take 7 = (cs.drop 3).take 5 ++ (cs.drop 8).take 2 from q1]
    rw [show (cs.drop 8).take 2 = (cs.drop 8).take 1 ++ (cs.drop 9).take 1 from q2]
    rw [e2]
    rw [e3]
    exact (RdVs.app r0 (RdVs.app r1 (RdVs.cons (by unfold RdC; rfl) (RdVs.cons (by unfold RdC; rfl) (RdVs.nil _ _)))))
  · rw [FSlot.ok_eq]
    exact ⟨k0, k1.1, k1.2⟩
theorem read_Slot {H : Type} {enc : TypeId × Value → H} {w : World} {base : Nat} {spare : Nat → Bool} {held : Bool} (n : Nat) : ReadSlot enc w base spare held n := read_Slot_of n
/-! ### Table -/
structure FTable where
  a0 : Bool
  a1 : List FInt
  a2 : List FSlot
  a3 : Int
  a4 : Int
def FTable.c : FTable → List Cel
  | ⟨a0, a1, a2, a3, a4⟩ => [.v (.bool a0), .s 3 1 a1.length (FInt.flat a1), .s 255 10 a2.length (FSlot.flat a2), .v (.int .i64 a3), .v (.int .i64 a4)]
def FTable.wt : FTable → Nat
  | ⟨a0, a1, a2, a3, a4⟩ => (a1.length + FInt.wts a1) + (a2.length + FSlot.wts a2)
def FTable.ok : FTable → Prop
  | ⟨a0, a1, a2, a3, a4⟩ => FInt.oks a1 ∧ FSlot.oks a2
theorem FTable.c_eq (z0 : Bool) (z1 : List FInt) (z2 : List FSlot) (z3 : Int) (z4 : Int) : FTable.c ⟨z0, z1, z2, z3, z4⟩ = [.v (.bool z0), .s 3 1 z1.length (FInt.flat z1), .s 255 10 z2.length (FSlot.flat z2), .v (.int .i64 z3), .v (.int .i64 z4)] := by simp [FTable.c]
theorem FTable.wt_eq (z0 : Bool) (z1 : List FInt) (z2 : List FSlot) (z3 : Int) (z4 : Int) : FTable.wt ⟨z0, z1, z2, z3, z4⟩ = (z1.length + FInt.wts z1) + (z2.length + FSlot.wts z2) := by simp [FTable.wt, Nat.add_assoc]
theorem FTable.ok_eq (z0 : Bool) (z1 : List FInt) (z2 : List FSlot) (z3 : Int) (z4 : Int) : FTable.ok ⟨z0, z1, z2, z3, z4⟩ ↔ (FInt.oks z1 ∧ FSlot.oks z2) := by simp [FTable.ok, and_assoc]
def ReadTable {H : Type} (enc : TypeId × Value → H) (w : World) (base : Nat) (spare : Nat → Bool) (held : Bool) (n : Nat) : Prop := ∀ (cs : List Value) (y : DataW H × List MemPlace), DataW.trod enc Tryz.prog w base spare held n 183 cs = some y → ∃ x : FTable, RdVs w w.heap.size x.c cs ∧ x.ok
theorem read_Table_of {H : Type} {enc : TypeId × Value → H} {w : World} {base : Nat} {spare : Nat → Bool} {held : Bool} (n : Nat) : ReadTable enc w base spare held n := by
  intro cs y h
  obtain ⟨hl, n1, rfl, hf⟩ := struct_span (by kernel_rfl) h
  have hC : Tryz.prog.cellsOf 183 = 5 := by kernel_rfl
  rw [hC] at hl
  obtain ⟨y0, t0⟩ := hf 0 4 0 1 (by kernel_rfl)
  obtain ⟨z0, e0, _⟩ := DataW.trod_bool Tryz.underlying4 t0
  obtain ⟨y1, t1⟩ := hf 1 86 1 1 (by kernel_rfl)
  obtain ⟨v1, z1, e1, r1, k1⟩ := open_deep (ok := FInt.ok) 3 FInt.len (by omega) Tryz.underlying86 (by kernel_rfl) (fun m cs1 y1 _ h1 => read_int m cs1 y1 h1) t1
  obtain ⟨y2, t2⟩ := hf 2 181 2 1 (by kernel_rfl)
  obtain ⟨v2, z2, e2, r2, k2⟩ := open_deep (ok := FSlot.ok) 255 FSlot.len (by omega) Tryz.underlying181 (by kernel_rfl) (fun m cs1 y1 hm h1 => read_Slot m cs1 y1 h1) t2
  obtain ⟨y3, t3⟩ := hf 3 3 3 1 (by kernel_rfl)
  obtain ⟨z3, e3, _, g3⟩ := DataW.trod_int Tryz.underlying3 t3
  obtain ⟨y4, t4⟩ := hf 4 3 4 1 (by kernel_rfl)
  obtain ⟨z4, e4, _, g4⟩ := DataW.trod_int Tryz.underlying3 t4
  have hcs := cut_all hl
  have q0 := cut_step 0 1 4 (us := cs)
  have q1 := cut_step 1 1 3 (us := cs)
  have q2 := cut_step 2 1 2 (us := cs)
  have q3 := cut_step 3 1 1 (us := cs)
  refine ⟨⟨z0, z1, z2, z3, z4⟩, ?_, ?_⟩
  · rw [FTable.c_eq, hcs]
    rw [show (cs.drop 0).take 5 = (cs.drop 0).take 1 ++ (cs.drop 1).take 4 from q0]
    rw [show (cs.drop 1).take 4 = (cs.drop 1).take 1 ++ (cs.drop 2).take 3 from q1]
    rw [show (cs.drop 2).take 3 = (cs.drop 2).take 1 ++ (cs.drop 3).take 2 from q2]
    rw [show (cs.drop 3).take 2 = (cs.drop 3).take 1 ++ (cs.drop 4).take 1 from q3]
    rw [e0]
    rw [e1]
    rw [e2]
    rw [e3]
    rw [e4]
    exact (RdVs.cons (by unfold RdC; rfl) (RdVs.cons r1 (RdVs.cons r2 (RdVs.cons (by unfold RdC; rfl) (RdVs.cons (by unfold RdC; rfl) (RdVs.nil _ _))))))
  · rw [FTable.ok_eq]
    exact ⟨FInt.oks_of _ k1, FSlot.oks_of _ k2⟩
theorem read_Table {H : Type} {enc : TypeId × Value → H} {w : World} {base : Nat} {spare : Nat → Bool} {held : Bool} (n : Nat) : ReadTable enc w base spare held n := read_Table_of n
/-! ### Block -/
structure FBlock where
  a0 : Int
  a1 : FTable
def FBlock.c : FBlock → List Cel
  | ⟨a0, a1⟩ => [.v (.int .i64 a0)] ++ FTable.c a1
def FBlock.wt : FBlock → Nat
  | ⟨a0, a1⟩ => FTable.wt a1
def FBlock.ok : FBlock → Prop
  | ⟨a0, a1⟩ => FTable.ok a1
def FBlock.wts : List FBlock → Nat
  | [] => 0
  | x :: r => x.wt + FBlock.wts r
def FBlock.oks : List FBlock → Prop
  | [] => True
  | x :: r => x.ok ∧ FBlock.oks r
abbrev FBlock.flat (l : List FBlock) : List Cel := l.flatMap FBlock.c
theorem FBlock.c_eq (z0 : Int) (z1 : Bool) (z2 : List FInt) (z3 : List FSlot) (z4 : Int) (z5 : Int) : FBlock.c ⟨z0, ⟨z1, z2, z3, z4, z5⟩⟩ = [.v (.int .i64 z0), .v (.bool z1), .s 3 1 z2.length (FInt.flat z2), .s 255 10 z3.length (FSlot.flat z3), .v (.int .i64 z4), .v (.int .i64 z5)] := by simp [FBlock.c, FTable.c]
theorem FBlock.len (x : FBlock) : x.c.length = 6 := by
  obtain ⟨z0, ⟨z1, z2, z3, z4, z5⟩⟩ := x
  rw [FBlock.c_eq]
  rfl
theorem FBlock.wt_eq (z0 : Int) (z1 : Bool) (z2 : List FInt) (z3 : List FSlot) (z4 : Int) (z5 : Int) : FBlock.wt ⟨z0, ⟨z1, z2, z3, z4, z5⟩⟩ = (z2.length + FInt.wts z2) + (z3.length + FSlot.wts z3) := by simp [FBlock.wt, FTable.wt, Nat.add_assoc]
theorem FBlock.ok_eq (z0 : Int) (z1 : Bool) (z2 : List FInt) (z3 : List FSlot) (z4 : Int) (z5 : Int) : FBlock.ok ⟨z0, ⟨z1, z2, z3, z4, z5⟩⟩ ↔ (FInt.oks z2 ∧ FSlot.oks z3) := by simp [FBlock.ok, FTable.ok, and_assoc]
theorem FBlock.oks_mem : ∀ l : List FBlock, FBlock.oks l → ∀ x, x ∈ l → x.ok
  | [], _, x, hx => by cases hx
  | y :: r, h, x, hx => by
    unfold FBlock.oks at h
    rcases List.mem_cons.1 hx with rfl | hx
    · exact h.1
    · exact FBlock.oks_mem r h.2 x hx
theorem FBlock.oks_of : ∀ l : List FBlock, (∀ x, x ∈ l → x.ok) → FBlock.oks l
  | [], _ => by unfold FBlock.oks; trivial
  | y :: r, h => by
    unfold FBlock.oks
    exact ⟨h y (by simp), FBlock.oks_of r fun x hx => h x (by simp [hx])⟩
theorem FBlock.wts_take : ∀ (l : List FBlock) (k : Nat) (x : FBlock), l[k]? = some x → FBlock.wts (l.take (k + 1)) = FBlock.wts (l.take k) + x.wt
  | [], k, x, h => by simp at h
  | y :: r, 0, x, h => by
    obtain rfl : y = x := by simpa using h
    simp [FBlock.wts]
  | y :: r, k + 1, x, h => by
    rw [List.take_succ_cons, List.take_succ_cons, FBlock.wts, FBlock.wts, FBlock.wts_take r k x (by simpa using h)]
    omega
theorem FBlock.wts_le : ∀ (l : List FBlock) (k : Nat), FBlock.wts (l.take k) ≤ FBlock.wts l
  | [], k => by simp
  | y :: r, 0 => by simp [FBlock.wts]
  | y :: r, k + 1 => by
    rw [List.take_succ_cons, FBlock.wts, FBlock.wts]
    have := FBlock.wts_le r k
    omega
theorem FBlock.wts_at : ∀ (l : List FBlock) (x : FBlock), x ∈ l → x.wt ≤ FBlock.wts l
  | [], x, h => by cases h
  | y :: r, x, h => by
    unfold FBlock.wts
    rcases List.mem_cons.1 h with rfl | h
    · omega
    · have := FBlock.wts_at r x h
      omega
def ReadBlock {H : Type} (enc : TypeId × Value → H) (w : World) (base : Nat) (spare : Nat → Bool) (held : Bool) (n : Nat) : Prop := ∀ (cs : List Value) (y : DataW H × List MemPlace), DataW.trod enc Tryz.prog w base spare held n 185 cs = some y → ∃ x : FBlock, RdVs w w.heap.size x.c cs ∧ x.ok
theorem read_Block_of {H : Type} {enc : TypeId × Value → H} {w : World} {base : Nat} {spare : Nat → Bool} {held : Bool} (n : Nat) : ReadBlock enc w base spare held n := by
  intro cs y h
  obtain ⟨hl, n1, rfl, hf⟩ := struct_span (by kernel_rfl) h
  have hC : Tryz.prog.cellsOf 185 = 6 := by kernel_rfl
  rw [hC] at hl
  obtain ⟨y0, t0⟩ := hf 0 3 0 1 (by kernel_rfl)
  obtain ⟨z0, e0, _, g0⟩ := DataW.trod_int Tryz.underlying3 t0
  obtain ⟨y1, t1⟩ := hf 1 183 1 5 (by kernel_rfl)
  obtain ⟨x1, r1, k1⟩ := read_Table n1 _ _ t1
  obtain ⟨z1, z2, z3, z4, z5⟩ := x1
  rw [FTable.c_eq] at r1
  rw [FTable.ok_eq] at k1
  have hcs := cut_all hl
  have q0 := cut_step 0 1 5 (us := cs)
  refine ⟨⟨z0, ⟨z1, z2, z3, z4, z5⟩⟩, ?_, ?_⟩
  · rw [FBlock.c_eq, hcs]
    rw [show (cs.drop 0).take 6 = (cs.drop 0).take 1 ++ (cs.drop 1).take 5 from q0]
    rw [e0]
    exact (RdVs.cons (by unfold RdC; rfl) r1)
  · rw [FBlock.ok_eq]
    exact ⟨k1.1, k1.2⟩
theorem read_Block {H : Type} {enc : TypeId × Value → H} {w : World} {base : Nat} {spare : Nat → Bool} {held : Bool} (n : Nat) : ReadBlock enc w base spare held n := read_Block_of n
/-! ### Heap -/
structure FHeap where
  a0 : List FBlock
def FHeap.c : FHeap → List Cel
  | ⟨a0⟩ => [.s 201 6 a0.length (FBlock.flat a0)]
def FHeap.wt : FHeap → Nat
  | ⟨a0⟩ => (a0.length + FBlock.wts a0)
def FHeap.ok : FHeap → Prop
  | ⟨a0⟩ => FBlock.oks a0
theorem FHeap.c_eq (z0 : List FBlock) : FHeap.c ⟨z0⟩ = [.s 201 6 z0.length (FBlock.flat z0)] := by simp [FHeap.c]
theorem FHeap.wt_eq (z0 : List FBlock) : FHeap.wt ⟨z0⟩ = (z0.length + FBlock.wts z0) := by simp [FHeap.wt]
theorem FHeap.ok_eq (z0 : List FBlock) : FHeap.ok ⟨z0⟩ ↔ (FBlock.oks z0) := by simp [FHeap.ok]
def ReadHeap {H : Type} (enc : TypeId × Value → H) (w : World) (base : Nat) (spare : Nat → Bool) (held : Bool) (n : Nat) : Prop := ∀ (cs : List Value) (y : DataW H × List MemPlace), DataW.trod enc Tryz.prog w base spare held n 26 cs = some y → ∃ x : FHeap, RdVs w w.heap.size x.c cs ∧ x.ok
theorem read_Heap_of {H : Type} {enc : TypeId × Value → H} {w : World} {base : Nat} {spare : Nat → Bool} {held : Bool} (n : Nat) : ReadHeap enc w base spare held n := by
  intro cs y h
  obtain ⟨hl, n1, rfl, hf⟩ := struct_span (by kernel_rfl) h
  have hC : Tryz.prog.cellsOf 26 = 1 := by kernel_rfl
  rw [hC] at hl
  obtain ⟨y0, t0⟩ := hf 0 24 0 1 (by kernel_rfl)
  obtain ⟨v0, z0, e0, r0, k0⟩ := open_deep (ok := FBlock.ok) 201 FBlock.len (by omega) Tryz.underlying24 (by kernel_rfl) (fun m cs1 y1 hm h1 => read_Block m cs1 y1 h1) t0
  have hcs := cut_all hl
  refine ⟨⟨z0⟩, ?_, ?_⟩
  · rw [FHeap.c_eq, hcs]
    rw [e0]
    exact (RdVs.cons r0 (RdVs.nil _ _))
  · rw [FHeap.ok_eq]
    exact FBlock.oks_of _ k0
theorem read_Heap {H : Type} {enc : TypeId × Value → H} {w : World} {base : Nat} {spare : Nat → Bool} {held : Bool} (n : Nat) : ReadHeap enc w base spare held n := read_Heap_of n
/-! ### Binding -/
structure FBinding where
  a0 : ByteArray
  a1 : FValue
def FBinding.c : FBinding → List Cel
  | ⟨a0, a1⟩ => [.v (.string a0)] ++ FValue.c a1
def FBinding.wt : FBinding → Nat
  | ⟨a0, a1⟩ => a0.size + FValue.wt a1
def FBinding.ok : FBinding → Prop
  | ⟨a0, a1⟩ => a0.size ≤ 9223372036854775807 ∧ FValue.ok a1
def FBinding.wts : List FBinding → Nat
  | [] => 0
  | x :: r => x.wt + FBinding.wts r
def FBinding.oks : List FBinding → Prop
  | [] => True
  | x :: r => x.ok ∧ FBinding.oks r
abbrev FBinding.flat (l : List FBinding) : List Cel := l.flatMap FBinding.c
theorem FBinding.c_eq (z0 : ByteArray) (z1 : Int) (z2 : Int) (z3 : ByteArray) (z4 : Int) (z5 : List FEntry) : FBinding.c ⟨z0, ⟨z1, z2, z3, z4, z5⟩⟩ = [.v (.string z0), .v (.int .i64 z1), .v (.int .i64 z2), .v (.string z3), .v (.int .i64 z4), .s 153 8 z5.length (FEntry.flat z5)] := by simp [FBinding.c, FValue.c, FEntry.cs_eq]
theorem FBinding.len (x : FBinding) : x.c.length = 6 := by
  obtain ⟨z0, ⟨z1, z2, z3, z4, z5⟩⟩ := x
  rw [FBinding.c_eq]
  rfl
theorem FBinding.wt_eq (z0 : ByteArray) (z1 : Int) (z2 : Int) (z3 : ByteArray) (z4 : Int) (z5 : List FEntry) : FBinding.wt ⟨z0, ⟨z1, z2, z3, z4, z5⟩⟩ = z0.size + z3.size + (z5.length + FEntry.wts z5) := by simp [FBinding.wt, FValue.wt, Nat.add_assoc]
theorem FBinding.ok_eq (z0 : ByteArray) (z1 : Int) (z2 : Int) (z3 : ByteArray) (z4 : Int) (z5 : List FEntry) : FBinding.ok ⟨z0, ⟨z1, z2, z3, z4, z5⟩⟩ ↔ (z0.size ≤ 9223372036854775807 ∧ z3.size ≤ 9223372036854775807 ∧ FEntry.oks z5) := by simp [FBinding.ok, FValue.ok, and_assoc]
theorem FBinding.oks_mem : ∀ l : List FBinding, FBinding.oks l → ∀ x, x ∈ l → x.ok
  | [], _, x, hx => by cases hx
  | y :: r, h, x, hx => by
    unfold FBinding.oks at h
    rcases List.mem_cons.1 hx with rfl | hx
    · exact h.1
    · exact FBinding.oks_mem r h.2 x hx
theorem FBinding.oks_of : ∀ l : List FBinding, (∀ x, x ∈ l → x.ok) → FBinding.oks l
  | [], _ => by unfold FBinding.oks; trivial
  | y :: r, h => by
    unfold FBinding.oks
    exact ⟨h y (by simp), FBinding.oks_of r fun x hx => h x (by simp [hx])⟩
theorem FBinding.wts_take : ∀ (l : List FBinding) (k : Nat) (x : FBinding), l[k]? = some x → FBinding.wts (l.take (k + 1)) = FBinding.wts (l.take k) + x.wt
  | [], k, x, h => by simp at h
  | y :: r, 0, x, h => by
    obtain rfl : y = x := by simpa using h
    simp [FBinding.wts]
  | y :: r, k + 1, x, h => by
    rw [List.take_succ_cons, List.take_succ_cons, FBinding.wts, FBinding.wts, FBinding.wts_take r k x (by simpa using h)]
    omega
theorem FBinding.wts_le : ∀ (l : List FBinding) (k : Nat), FBinding.wts (l.take k) ≤ FBinding.wts l
  | [], k => by simp
  | y :: r, 0 => by simp [FBinding.wts]
  | y :: r, k + 1 => by
    rw [List.take_succ_cons, FBinding.wts, FBinding.wts]
    have := FBinding.wts_le r k
    omega
theorem FBinding.wts_at : ∀ (l : List FBinding) (x : FBinding), x ∈ l → x.wt ≤ FBinding.wts l
  | [], x, h => by cases h
  | y :: r, x, h => by
    unfold FBinding.wts
    rcases List.mem_cons.1 h with rfl | h
    · omega
    · have := FBinding.wts_at r x h
      omega
def ReadBinding {H : Type} (enc : TypeId × Value → H) (w : World) (base : Nat) (spare : Nat → Bool) (held : Bool) (n : Nat) : Prop := ∀ (cs : List Value) (y : DataW H × List MemPlace), DataW.trod enc Tryz.prog w base spare held n 232 cs = some y → ∃ x : FBinding, RdVs w w.heap.size x.c cs ∧ x.ok
theorem read_Binding_of {H : Type} {enc : TypeId × Value → H} {w : World} {base : Nat} {spare : Nat → Bool} {held : Bool} (n : Nat) : ReadBinding enc w base spare held n := by
  intro cs y h
  obtain ⟨hl, n1, rfl, hf⟩ := struct_span (by kernel_rfl) h
  have hC : Tryz.prog.cellsOf 232 = 6 := by kernel_rfl
  rw [hC] at hl
  obtain ⟨y0, t0⟩ := hf 0 9 0 1 (by kernel_rfl)
  obtain ⟨z0, e0, _, k0⟩ := DataW.trod_string Tryz.underlying9 t0
  obtain ⟨y1, t1⟩ := hf 1 115 1 5 (by kernel_rfl)
  obtain ⟨x1, r1, k1⟩ := read_Value n1 _ _ t1
  obtain ⟨z1, z2, z3, z4, z5⟩ := x1
  rw [FValue.c_eq] at r1
  rw [FValue.ok_eq] at k1
  have hcs := cut_all hl
  have q0 := cut_step 0 1 5 (us := cs)
  refine ⟨⟨z0, ⟨z1, z2, z3, z4, z5⟩⟩, ?_, ?_⟩
  · rw [FBinding.c_eq, hcs]
    rw [show (cs.drop 0).take 6 = (cs.drop 0).take 1 ++ (cs.drop 1).take 5 from q0]
    rw [e0]
    exact (RdVs.cons (by unfold RdC; rfl) r1)
  · rw [FBinding.ok_eq]
    have j0 := k0
    unfold maxLen at j0
    exact ⟨j0, k1.1, k1.2⟩
theorem read_Binding {H : Type} {enc : TypeId × Value → H} {w : World} {base : Nat} {spare : Nat → Bool} {held : Bool} (n : Nat) : ReadBinding enc w base spare held n := read_Binding_of n
/-! ### Object -/
structure FObject where
  a0 : ByteArray
  a1 : Bool
  a2 : List FBinding
def FObject.c : FObject → List Cel
  | ⟨a0, a1, a2⟩ => [.v (.string a0), .v (.bool a1), .s 84 6 a2.length (FBinding.flat a2)]
def FObject.wt : FObject → Nat
  | ⟨a0, a1, a2⟩ => a0.size + (a2.length + FBinding.wts a2)
def FObject.ok : FObject → Prop
  | ⟨a0, a1, a2⟩ => a0.size ≤ 9223372036854775807 ∧ FBinding.oks a2
def FObject.wts : List FObject → Nat
  | [] => 0
  | x :: r => x.wt + FObject.wts r
def FObject.oks : List FObject → Prop
  | [] => True
  | x :: r => x.ok ∧ FObject.oks r
abbrev FObject.flat (l : List FObject) : List Cel := l.flatMap FObject.c
theorem FObject.c_eq (z0 : ByteArray) (z1 : Bool) (z2 : List FBinding) : FObject.c ⟨z0, z1, z2⟩ = [.v (.string z0), .v (.bool z1), .s 84 6 z2.length (FBinding.flat z2)] := by simp [FObject.c]
theorem FObject.len (x : FObject) : x.c.length = 3 := by
  obtain ⟨z0, z1, z2⟩ := x
  rw [FObject.c_eq]
  rfl
theorem FObject.wt_eq (z0 : ByteArray) (z1 : Bool) (z2 : List FBinding) : FObject.wt ⟨z0, z1, z2⟩ = z0.size + (z2.length + FBinding.wts z2) := by simp [FObject.wt, Nat.add_assoc]
theorem FObject.ok_eq (z0 : ByteArray) (z1 : Bool) (z2 : List FBinding) : FObject.ok ⟨z0, z1, z2⟩ ↔ (z0.size ≤ 9223372036854775807 ∧ FBinding.oks z2) := by simp [FObject.ok, and_assoc]
theorem FObject.oks_mem : ∀ l : List FObject, FObject.oks l → ∀ x, x ∈ l → x.ok
  | [], _, x, hx => by cases hx
  | y :: r, h, x, hx => by
    unfold FObject.oks at h
    rcases List.mem_cons.1 hx with rfl | hx
    · exact h.1
    · exact FObject.oks_mem r h.2 x hx
theorem FObject.oks_of : ∀ l : List FObject, (∀ x, x ∈ l → x.ok) → FObject.oks l
  | [], _ => by unfold FObject.oks; trivial
  | y :: r, h => by
    unfold FObject.oks
    exact ⟨h y (by simp), FObject.oks_of r fun x hx => h x (by simp [hx])⟩
theorem FObject.wts_take : ∀ (l : List FObject) (k : Nat) (x : FObject), l[k]? = some x → FObject.wts (l.take (k + 1)) = FObject.wts (l.take k) + x.wt
  | [], k, x, h => by simp at h
  | y :: r, 0, x, h => by
    obtain rfl : y = x := by simpa using h
    simp [FObject.wts]
  | y :: r, k + 1, x, h => by
    rw [List.take_succ_cons, List.take_succ_cons, FObject.wts, FObject.wts, FObject.wts_take r k x (by simpa using h)]
    omega
theorem FObject.wts_le : ∀ (l : List FObject) (k : Nat), FObject.wts (l.take k) ≤ FObject.wts l
  | [], k => by simp
  | y :: r, 0 => by simp [FObject.wts]
  | y :: r, k + 1 => by
    rw [List.take_succ_cons, FObject.wts, FObject.wts]
    have := FObject.wts_le r k
    omega
theorem FObject.wts_at : ∀ (l : List FObject) (x : FObject), x ∈ l → x.wt ≤ FObject.wts l
  | [], x, h => by cases h
  | y :: r, x, h => by
    unfold FObject.wts
    rcases List.mem_cons.1 h with rfl | h
    · omega
    · have := FObject.wts_at r x h
      omega
def ReadObject {H : Type} (enc : TypeId × Value → H) (w : World) (base : Nat) (spare : Nat → Bool) (held : Bool) (n : Nat) : Prop := ∀ (cs : List Value) (y : DataW H × List MemPlace), DataW.trod enc Tryz.prog w base spare held n 123 cs = some y → ∃ x : FObject, RdVs w w.heap.size x.c cs ∧ x.ok
theorem read_Object_of {H : Type} {enc : TypeId × Value → H} {w : World} {base : Nat} {spare : Nat → Bool} {held : Bool} (n : Nat) : ReadObject enc w base spare held n := by
  intro cs y h
  obtain ⟨hl, n1, rfl, hf⟩ := struct_span (by kernel_rfl) h
  have hC : Tryz.prog.cellsOf 123 = 3 := by kernel_rfl
  rw [hC] at hl
  obtain ⟨y0, t0⟩ := hf 0 9 0 1 (by kernel_rfl)
  obtain ⟨z0, e0, _, k0⟩ := DataW.trod_string Tryz.underlying9 t0
  obtain ⟨y1, t1⟩ := hf 1 4 1 1 (by kernel_rfl)
  obtain ⟨z1, e1, _⟩ := DataW.trod_bool Tryz.underlying4 t1
  obtain ⟨y2, t2⟩ := hf 2 121 2 1 (by kernel_rfl)
  obtain ⟨v2, z2, e2, r2, k2⟩ := open_deep (ok := FBinding.ok) 84 FBinding.len (by omega) Tryz.underlying121 (by kernel_rfl) (fun m cs1 y1 hm h1 => read_Binding m cs1 y1 h1) t2
  have hcs := cut_all hl
  have q0 := cut_step 0 1 2 (us := cs)
  have q1 := cut_step 1 1 1 (us := cs)
  refine ⟨⟨z0, z1, z2⟩, ?_, ?_⟩
  · rw [FObject.c_eq, hcs]
    rw [show (cs.drop 0).take 3 = (cs.drop 0).take 1 ++ (cs.drop 1).take 2 from q0]
    rw [show (cs.drop 1).take 2 = (cs.drop 1).take 1 ++ (cs.drop 2).take 1 from q1]
    rw [e0]
    rw [e1]
    rw [e2]
    exact (RdVs.cons (by unfold RdC; rfl) (RdVs.cons (by unfold RdC; rfl) (RdVs.cons r2 (RdVs.nil _ _))))
  · rw [FObject.ok_eq]
    have j0 := k0
    unfold maxLen at j0
    exact ⟨j0, FBinding.oks_of _ k2⟩
theorem read_Object {H : Type} {enc : TypeId × Value → H} {w : World} {base : Nat} {spare : Nat → Bool} {held : Bool} (n : Nat) : ReadObject enc w base spare held n := read_Object_of n
/-! ### Closure -/
structure FClosure where
  a0 : Int
  a1 : List FInt
  a2 : Int
  a3 : ByteArray
  a4 : ByteArray
def FClosure.c : FClosure → List Cel
  | ⟨a0, a1, a2, a3, a4⟩ => [.v (.int .i64 a0), .s 3 1 a1.length (FInt.flat a1), .v (.int .i64 a2), .v (.string a3), .v (.string a4)]
def FClosure.wt : FClosure → Nat
  | ⟨a0, a1, a2, a3, a4⟩ => (a1.length + FInt.wts a1) + a3.size + a4.size
def FClosure.ok : FClosure → Prop
  | ⟨a0, a1, a2, a3, a4⟩ => FInt.oks a1 ∧ a3.size ≤ 9223372036854775807 ∧ a4.size ≤ 9223372036854775807
def FClosure.wts : List FClosure → Nat
  | [] => 0
  | x :: r => x.wt + FClosure.wts r
def FClosure.oks : List FClosure → Prop
  | [] => True
  | x :: r => x.ok ∧ FClosure.oks r
abbrev FClosure.flat (l : List FClosure) : List Cel := l.flatMap FClosure.c
theorem FClosure.c_eq (z0 : Int) (z1 : List FInt) (z2 : Int) (z3 : ByteArray) (z4 : ByteArray) : FClosure.c ⟨z0, z1, z2, z3, z4⟩ = [.v (.int .i64 z0), .s 3 1 z1.length (FInt.flat z1), .v (.int .i64 z2), .v (.string z3), .v (.string z4)] := by simp [FClosure.c]
theorem FClosure.len (x : FClosure) : x.c.length = 5 := by
  obtain ⟨z0, z1, z2, z3, z4⟩ := x
  rw [FClosure.c_eq]
  rfl
theorem FClosure.wt_eq (z0 : Int) (z1 : List FInt) (z2 : Int) (z3 : ByteArray) (z4 : ByteArray) : FClosure.wt ⟨z0, z1, z2, z3, z4⟩ = (z1.length + FInt.wts z1) + z3.size + z4.size := by simp [FClosure.wt, Nat.add_assoc]
theorem FClosure.ok_eq (z0 : Int) (z1 : List FInt) (z2 : Int) (z3 : ByteArray) (z4 : ByteArray) : FClosure.ok ⟨z0, z1, z2, z3, z4⟩ ↔ (FInt.oks z1 ∧ z3.size ≤ 9223372036854775807 ∧ z4.size ≤ 9223372036854775807) := by simp [FClosure.ok, and_assoc]
theorem FClosure.oks_mem : ∀ l : List FClosure, FClosure.oks l → ∀ x, x ∈ l → x.ok
  | [], _, x, hx => by cases hx
  | y :: r, h, x, hx => by
    unfold FClosure.oks at h
    rcases List.mem_cons.1 hx with rfl | hx
    · exact h.1
    · exact FClosure.oks_mem r h.2 x hx
theorem FClosure.oks_of : ∀ l : List FClosure, (∀ x, x ∈ l → x.ok) → FClosure.oks l
  | [], _ => by unfold FClosure.oks; trivial
  | y :: r, h => by
    unfold FClosure.oks
    exact ⟨h y (by simp), FClosure.oks_of r fun x hx => h x (by simp [hx])⟩
theorem FClosure.wts_take : ∀ (l : List FClosure) (k : Nat) (x : FClosure), l[k]? = some x → FClosure.wts (l.take (k + 1)) = FClosure.wts (l.take k) + x.wt
  | [], k, x, h => by simp at h
  | y :: r, 0, x, h => by
    obtain rfl : y = x := by simpa using h
    simp [FClosure.wts]
  | y :: r, k + 1, x, h => by
    rw [List.take_succ_cons, List.take_succ_cons, FClosure.wts, FClosure.wts, FClosure.wts_take r k x (by simpa using h)]
    omega
theorem FClosure.wts_le : ∀ (l : List FClosure) (k : Nat), FClosure.wts (l.take k) ≤ FClosure.wts l
  | [], k => by simp
  | y :: r, 0 => by simp [FClosure.wts]
  | y :: r, k + 1 => by
    rw [List.take_succ_cons, FClosure.wts, FClosure.wts]
    have := FClosure.wts_le r k
    omega
theorem FClosure.wts_at : ∀ (l : List FClosure) (x : FClosure), x ∈ l → x.wt ≤ FClosure.wts l
  | [], x, h => by cases h
  | y :: r, x, h => by
    unfold FClosure.wts
    rcases List.mem_cons.1 h with rfl | h
    · omega
    · have := FClosure.wts_at r x h
      omega
def ReadClosure {H : Type} (enc : TypeId × Value → H) (w : World) (base : Nat) (spare : Nat → Bool) (held : Bool) (n : Nat) : Prop := ∀ (cs : List Value) (y : DataW H × List MemPlace), DataW.trod enc Tryz.prog w base spare held n 126 cs = some y → ∃ x : FClosure, RdVs w w.heap.size x.c cs ∧ x.ok
theorem read_Closure_of {H : Type} {enc : TypeId × Value → H} {w : World} {base : Nat} {spare : Nat → Bool} {held : Bool} (n : Nat) : ReadClosure enc w base spare held n := by
  intro cs y h
  obtain ⟨hl, n1, rfl, hf⟩ := struct_span (by kernel_rfl) h
  have hC : Tryz.prog.cellsOf 126 = 5 := by kernel_rfl
  rw [hC] at hl
  obtain ⟨y0, t0⟩ := hf 0 3 0 1 (by kernel_rfl)
  obtain ⟨z0, e0, _, g0⟩ := DataW.trod_int Tryz.underlying3 t0
  obtain ⟨y1, t1⟩ := hf 1 86 1 1 (by kernel_rfl)
  obtain ⟨v1, z1, e1, r1, k1⟩ := open_deep (ok := FInt.ok) 3 FInt.len (by omega) Tryz.underlying86 (by kernel_rfl) (fun m cs1 y1 _ h1 => read_int m cs1 y1 h1) t1
  obtain ⟨y2, t2⟩ := hf 2 3 2 1 (by kernel_rfl)
  obtain ⟨z2, e2, _, g2⟩ := DataW.trod_int Tryz.underlying3 t2
  obtain ⟨y3, t3⟩ := hf 3 9 3 1 (by kernel_rfl)
  obtain ⟨z3, e3, _, k3⟩ := DataW.trod_string Tryz.underlying9 t3
  obtain ⟨y4, t4⟩ := hf 4 9 4 1 (by kernel_rfl)
  obtain ⟨z4, e4, _, k4⟩ := DataW.trod_string Tryz.underlying9 t4
  have hcs := cut_all hl
  have q0 := cut_step 0 1 4 (us := cs)
  have q1 := cut_step 1 1 3 (us := cs)
  have q2 := cut_step 2 1 2 (us := cs)
  have q3 := cut_step 3 1 1 (us := cs)
  refine ⟨⟨z0, z1, z2, z3, z4⟩, ?_, ?_⟩
  · rw [FClosure.c_eq, hcs]
    rw [show (cs.drop 0).take 5 = (cs.drop 0).take 1 ++ (cs.drop 1).take 4 from q0]
    rw [show (cs.drop 1).take 4 = (cs.drop 1).take 1 ++ (cs.drop 2).take 3 from q1]
    rw [show (cs.drop 2).take 3 = (cs.drop 2).take 1 ++ (cs.drop 3).take 2 from q2]
    rw [show (cs.drop 3).take 2 = (cs.drop 3).take 1 ++ (cs.drop 4).take 1 from q3]
    rw [e0]
    rw [e1]
    rw [e2]
    rw [e3]
    rw [e4]
    exact (RdVs.cons (by unfold RdC; rfl) (RdVs.cons r1 (RdVs.cons (by unfold RdC; rfl) (RdVs.cons (by unfold RdC; rfl) (RdVs.cons (by unfold RdC; rfl) (RdVs.nil _ _))))))
  · rw [FClosure.ok_eq]
    have j3 := k3
    unfold maxLen at j3
    have j4 := k4
    unfold maxLen at j4
    exact ⟨FInt.oks_of _ k1, j3, j4⟩
theorem read_Closure {H : Type} {enc : TypeId × Value → H} {w : World} {base : Nat} {spare : Nat → Bool} {held : Bool} (n : Nat) : ReadClosure enc w base spare held n := read_Closure_of n
/-! ### Arg -/
structure FArg where
  a0 : Int
  a1 : FValue
def FArg.c : FArg → List Cel
  | ⟨a0, a1⟩ => [.v (.int .i64 a0)] ++ FValue.c a1
def FArg.wt : FArg → Nat
  | ⟨a0, a1⟩ => FValue.wt a1
def FArg.ok : FArg → Prop
  | ⟨a0, a1⟩ => FValue.ok a1
def FArg.wts : List FArg → Nat
  | [] => 0
  | x :: r => x.wt + FArg.wts r
def FArg.oks : List FArg → Prop
  | [] => True
  | x :: r => x.ok ∧ FArg.oks r
abbrev FArg.flat (l : List FArg) : List Cel := l.flatMap FArg.c
theorem FArg.c_eq (z0 : Int) (z1 : Int) (z2 : Int) (z3 : ByteArray) (z4 : Int) (z5 : List FEntry) : FArg.c ⟨z0, ⟨z1, z2, z3, z4, z5⟩⟩ = [.v (.int .i64 z0), .v (.int .i64 z1), .v (.int .i64 z2), .v (.string z3), .v (.int .i64 z4), .s 153 8 z5.length (FEntry.flat z5)] := by simp [FArg.c, FValue.c, FEntry.cs_eq]
theorem FArg.len (x : FArg) : x.c.length = 6 := by
  obtain ⟨z0, ⟨z1, z2, z3, z4, z5⟩⟩ := x
  rw [FArg.c_eq]
  rfl
theorem FArg.wt_eq (z0 : Int) (z1 : Int) (z2 : Int) (z3 : ByteArray) (z4 : Int) (z5 : List FEntry) : FArg.wt ⟨z0, ⟨z1, z2, z3, z4, z5⟩⟩ = z3.size + (z5.length + FEntry.wts z5) := by simp [FArg.wt, FValue.wt, Nat.add_assoc]
theorem FArg.ok_eq (z0 : Int) (z1 : Int) (z2 : Int) (z3 : ByteArray) (z4 : Int) (z5 : List FEntry) : FArg.ok ⟨z0, ⟨z1, z2, z3, z4, z5⟩⟩ ↔ (z3.size ≤ 9223372036854775807 ∧ FEntry.oks z5) := by simp [FArg.ok, FValue.ok, and_assoc]
theorem FArg.oks_mem : ∀ l : List FArg, FArg.oks l → ∀ x, x ∈ l → x.ok
  | [], _, x, hx => by cases hx
  | y :: r, h, x, hx => by
    unfold FArg.oks at h
    rcases List.mem_cons.1 hx with rfl | hx
    · exact h.1
    · exact FArg.oks_mem r h.2 x hx
theorem FArg.oks_of : ∀ l : List FArg, (∀ x, x ∈ l → x.ok) → FArg.oks l
  | [], _ => by unfold FArg.oks; trivial
  | y :: r, h => by
    unfold FArg.oks
    exact ⟨h y (by simp), FArg.oks_of r fun x hx => h x (by simp [hx])⟩
theorem FArg.wts_take : ∀ (l : List FArg) (k : Nat) (x : FArg), l[k]? = some x → FArg.wts (l.take (k + 1)) = FArg.wts (l.take k) + x.wt
  | [], k, x, h => by simp at h
  | y :: r, 0, x, h => by
    obtain rfl : y = x := by simpa using h
    simp [FArg.wts]
  | y :: r, k + 1, x, h => by
    rw [List.take_succ_cons, List.take_succ_cons, FArg.wts, FArg.wts, FArg.wts_take r k x (by simpa using h)]
    omega
theorem FArg.wts_le : ∀ (l : List FArg) (k : Nat), FArg.wts (l.take k) ≤ FArg.wts l
  | [], k => by simp
  | y :: r, 0 => by simp [FArg.wts]
  | y :: r, k + 1 => by
    rw [List.take_succ_cons, FArg.wts, FArg.wts]
    have := FArg.wts_le r k
    omega
theorem FArg.wts_at : ∀ (l : List FArg) (x : FArg), x ∈ l → x.wt ≤ FArg.wts l
  | [], x, h => by cases h
  | y :: r, x, h => by
    unfold FArg.wts
    rcases List.mem_cons.1 h with rfl | h
    · omega
    · have := FArg.wts_at r x h
      omega
def ReadArg {H : Type} (enc : TypeId × Value → H) (w : World) (base : Nat) (spare : Nat → Bool) (held : Bool) (n : Nat) : Prop := ∀ (cs : List Value) (y : DataW H × List MemPlace), DataW.trod enc Tryz.prog w base spare held n 269 cs = some y → ∃ x : FArg, RdVs w w.heap.size x.c cs ∧ x.ok
theorem read_Arg_of {H : Type} {enc : TypeId × Value → H} {w : World} {base : Nat} {spare : Nat → Bool} {held : Bool} (n : Nat) : ReadArg enc w base spare held n := by
  intro cs y h
  obtain ⟨hl, n1, rfl, hf⟩ := struct_span (by kernel_rfl) h
  have hC : Tryz.prog.cellsOf 269 = 6 := by kernel_rfl
  rw [hC] at hl
  obtain ⟨y0, t0⟩ := hf 0 3 0 1 (by kernel_rfl)
  obtain ⟨z0, e0, _, g0⟩ := DataW.trod_int Tryz.underlying3 t0
  obtain ⟨y1, t1⟩ := hf 1 115 1 5 (by kernel_rfl)
  obtain ⟨x1, r1, k1⟩ := read_Value n1 _ _ t1
  obtain ⟨z1, z2, z3, z4, z5⟩ := x1
  rw [FValue.c_eq] at r1
  rw [FValue.ok_eq] at k1
  have hcs := cut_all hl
  have q0 := cut_step 0 1 5 (us := cs)
  refine ⟨⟨z0, ⟨z1, z2, z3, z4, z5⟩⟩, ?_, ?_⟩
  · rw [FArg.c_eq, hcs]
    rw [show (cs.drop 0).take 6 = (cs.drop 0).take 1 ++ (cs.drop 1).take 5 from q0]
    rw [e0]
    exact (RdVs.cons (by unfold RdC; rfl) r1)
  · rw [FArg.ok_eq]
    exact ⟨k1.1, k1.2⟩
theorem read_Arg {H : Type} {enc : TypeId × Value → H} {w : World} {base : Nat} {spare : Nat → Bool} {held : Bool} (n : Nat) : ReadArg enc w base spare held n := read_Arg_of n
/-! ### Call -/
structure FCall where
  a0 : Int
  a1 : ByteArray
  a2 : Bool
  a3 : Int
  a4 : Int
  a5 : ByteArray
  a6 : ByteArray
  a7 : List FInt
  a8 : List FArg
def FCall.c : FCall → List Cel
  | ⟨a0, a1, a2, a3, a4, a5, a6, a7, a8⟩ => [.v (.int .i64 a0), .v (.string a1), .v (.bool a2), .v (.int .i64 a3), .v (.int .i64 a4), .v (.string a5), .v (.string a6), .s 3 1 a7.length (FInt.flat a7), .s 158 6 a8.length (FArg.flat a8)]
def FCall.wt : FCall → Nat
  | ⟨a0, a1, a2, a3, a4, a5, a6, a7, a8⟩ => a1.size + a5.size + a6.size + (a7.length + FInt.wts a7) + (a8.length + FArg.wts a8)
def FCall.ok : FCall → Prop
  | ⟨a0, a1, a2, a3, a4, a5, a6, a7, a8⟩ => a1.size ≤ 9223372036854775807 ∧ a5.size ≤ 9223372036854775807 ∧ a6.size ≤ 9223372036854775807 ∧ FInt.oks a7 ∧ FArg.oks a8
def FCall.wts : List FCall → Nat
  | [] => 0
  | x :: r => x.wt + FCall.wts r
def FCall.oks : List FCall → Prop
  | [] => True
  | x :: r => x.ok ∧ FCall.oks r
abbrev FCall.flat (l : List FCall) : List Cel := l.flatMap FCall.c
theorem FCall.c_eq (z0 : Int) (z1 : ByteArray) (z2 : Bool) (z3 : Int) (z4 : Int) (z5 : ByteArray) (z6 : ByteArray) (z7 : List FInt) (z8 : List FArg) : FCall.c ⟨z0, z1, z2, z3, z4, z5, z6, z7, z8⟩ = [.v (.int .i64 z0), .v (.string z1), .v (.bool z2), .v (.int .i64 z3), .v (.int .i64 z4), .v (.string z5), .v (.string z6), .s 3 1 z7.length (FInt.flat z7), .s 158 6 z8.length (FArg.flat z8)] := by simp [FCall.c]
theorem FCall.len (x : FCall) : x.c.length = 9 := by
  obtain ⟨z0, z1, z2, z3, z4, z5, z6, z7, z8⟩ := x
  rw [FCall.c_eq]
  rfl
theorem FCall.wt_eq (z0 : Int) (z1 : ByteArray) (z2 : Bool) (z3 : Int) (z4 : Int) (z5 : ByteArray) (z6 : ByteArray) (z7 : List FInt) (z8 : List FArg) : FCall.wt ⟨z0, z1, z2, z3, z4, z5, z6, z7, z8⟩ = z1.size + z5.size + z6.size + (z7.length + FInt.wts z7) + (z8.length + FArg.wts z8) := by simp [FCall.wt, Nat.add_assoc]
theorem FCall.ok_eq (z0 : Int) (z1 : ByteArray) (z2 : Bool) (z3 : Int) (z4 : Int) (z5 : ByteArray) (z6 : ByteArray) (z7 : List FInt) (z8 : List FArg) : FCall.ok ⟨z0, z1, z2, z3, z4, z5, z6, z7, z8⟩ ↔ (z1.size ≤ 9223372036854775807 ∧ z5.size ≤ 9223372036854775807 ∧ z6.size ≤ 9223372036854775807 ∧ FInt.oks z7 ∧ FArg.oks z8) := by simp [FCall.ok, and_assoc]
theorem FCall.oks_mem : ∀ l : List FCall, FCall.oks l → ∀ x, x ∈ l → x.ok
  | [], _, x, hx => by cases hx
  | y :: r, h, x, hx => by
    unfold FCall.oks at h
    rcases List.mem_cons.1 hx with rfl | hx
    · exact h.1
    · exact FCall.oks_mem r h.2 x hx
theorem FCall.oks_of : ∀ l : List FCall, (∀ x, x ∈ l → x.ok) → FCall.oks l
  | [], _ => by unfold FCall.oks; trivial
  | y :: r, h => by
    unfold FCall.oks
    exact ⟨h y (by simp), FCall.oks_of r fun x hx => h x (by simp [hx])⟩
theorem FCall.wts_take : ∀ (l : List FCall) (k : Nat) (x : FCall), l[k]? = some x → FCall.wts (l.take (k + 1)) = FCall.wts (l.take k) + x.wt
  | [], k, x, h => by simp at h
  | y :: r, 0, x, h => by
    obtain rfl : y = x := by simpa using h
    simp [FCall.wts]
  | y :: r, k + 1, x, h => by
    rw [List.take_succ_cons, List.take_succ_cons, FCall.wts, FCall.wts, FCall.wts_take r k x (by simpa using h)]
    omega
theorem FCall.wts_le : ∀ (l : List FCall) (k : Nat), FCall.wts (l.take k) ≤ FCall.wts l
  | [], k => by simp
  | y :: r, 0 => by simp [FCall.wts]
  | y :: r, k + 1 => by
    rw [List.take_succ_cons, FCall.wts, FCall.wts]
    have := FCall.wts_le r k
    omega
theorem FCall.wts_at : ∀ (l : List FCall) (x : FCall), x ∈ l → x.wt ≤ FCall.wts l
  | [], x, h => by cases h
  | y :: r, x, h => by
    unfold FCall.wts
    rcases List.mem_cons.1 h with rfl | h
    · omega
    · have := FCall.wts_at r x h
      omega
def ReadCall {H : Type} (enc : TypeId × Value → H) (w : World) (base : Nat) (spare : Nat → Bool) (held : Bool) (n : Nat) : Prop := ∀ (cs : List Value) (y : DataW H × List MemPlace), DataW.trod enc Tryz.prog w base spare held n 236 cs = some y → ∃ x : FCall, RdVs w w.heap.size x.c cs ∧ x.ok
theorem read_Call_of {H : Type} {enc : TypeId × Value → H} {w : World} {base : Nat} {spare : Nat → Bool} {held : Bool} (n : Nat) : ReadCall enc w base spare held n := by
  intro cs y h
  obtain ⟨hl, n1, rfl, hf⟩ := struct_span (by kernel_rfl) h
  have hC : Tryz.prog.cellsOf 236 = 9 := by kernel_rfl
  rw [hC] at hl
  obtain ⟨y0, t0⟩ := hf 0 3 0 1 (by kernel_rfl)
  obtain ⟨z0, e0, _, g0⟩ := DataW.trod_int Tryz.underlying3 t0
  obtain ⟨y1, t1⟩ := hf 1 9 1 1 (by kernel_rfl)
  obtain ⟨z1, e1, _, k1⟩ := DataW.trod_string Tryz.underlying9 t1
  obtain ⟨y2, t2⟩ := hf 2 4 2 1 (by kernel_rfl)
  obtain ⟨z2, e2, _⟩ := DataW.trod_bool Tryz.underlying4 t2
  obtain ⟨y3, t3⟩ := hf 3 3 3 1 (by kernel_rfl)
  obtain ⟨z3, e3, _, g3⟩ := DataW.trod_int Tryz.underlying3 t3
  obtain ⟨y4, t4⟩ := hf 4 3 4 1 (by kernel_rfl)
  obtain ⟨z4, e4, _, g4⟩ := DataW.trod_int Tryz.underlying3 t4
  obtain ⟨y5, t5⟩ := hf 5 9 5 1 (by kernel_rfl)
  obtain ⟨z5, e5, _, k5⟩ := DataW.trod_string Tryz.underlying9 t5
  obtain ⟨y6, t6⟩ := hf 6 9 6 1 (by kernel_rfl)
  obtain ⟨z6, e6, _, k6⟩ := DataW.trod_string Tryz.underlying9 t6
  obtain ⟨y7, t7⟩ := hf 7 86 7 1 (by kernel_rfl)
  obtain ⟨v7, z7, e7, r7, k7⟩ := open_deep (ok := FInt.ok) 3 FInt.len (by omega) Tryz.underlying86 (by kernel_rfl) (fun m cs1 y1 _ h1 => read_int m cs1 y1 h1) t7
  obtain ⟨y8, t8⟩ := hf 8 234 8 1 (by kernel_rfl)
  obtain ⟨v8, z8, e8, r8, k8⟩ := open_deep (ok := FArg.ok) 158 FArg.len (by omega) Tryz.underlying234 (by kernel_rfl) (fun m cs1 y1 hm h1 => read_Arg m cs1 y1 h1) t8
  have hcs := cut_all hl
  have q0 := cut_step 0 1 8 (us := cs)
  have q1 := cut_step 1 1 7 (us := cs)
  have q2 := cut_step 2 1 6 (us := cs)
  have q3 := cut_step 3 1 5 (us := cs)
  have q4 := cut_step 4 1 4 (us := cs)
  have q5 := cut_step 5 1 3 (us := cs)
  have q6 := cut_step 6 1 2 (us := cs)
  have q7 := cut_step 7 1 1 (us := cs)
  refine ⟨⟨z0, z1, z2, z3, z4, z5, z6, z7, z8⟩, ?_, ?_⟩
  · rw [FCall.c_eq, hcs]
    rw [show (cs.drop 0).take 9 = (cs.drop 0).take 1 ++ (cs.drop 1).take 8 from q0]
    rw [show (cs.drop 1).take 8 = (cs.drop 1).take 1 ++ (cs.drop 2).take 7 from q1]
    rw [show (cs.drop 2).take 7 = (cs.drop 2).take 1 ++ (cs.drop 3).take 6 from q2]
    rw [show (cs.drop 3).take 6 = (cs.drop 3).take 1 ++ (cs.drop 4).take 5 from q3]
    rw [show (cs.drop 4).take 5 = (cs.drop 4).take 1 ++ (cs.drop 5).take 4 from q4]
    rw [show (cs.drop 5).take 4 = (cs.drop 5).take 1 ++ (cs.drop 6).take 3 from q5]
    rw [show (cs.drop 6).take 3 = (cs.drop 6).take 1 ++ (cs.drop 7).take 2 from q6]
    rw [show (cs.drop 7).take 2 = (cs.drop 7).take 1 ++ (cs.drop 8).take 1 from q7]
    rw [e0]
    rw [e1]
    rw [e2]
    rw [e3]
    rw [e4]
    rw [e5]
    rw [e6]
    rw [e7]
    rw [e8]
    exact (RdVs.cons (by unfold RdC; rfl) (RdVs.cons (by unfold RdC; rfl) (RdVs.cons (by unfold RdC; rfl) (RdVs.cons (by unfold RdC; rfl) (RdVs.cons (by unfold RdC; rfl) (RdVs.cons (by unfold RdC; rfl) (RdVs.cons (by unfold RdC; rfl) (RdVs.cons r7 (RdVs.cons r8 (RdVs.nil _ _))))))))))
  · rw [FCall.ok_eq]
    have j1 := k1
    unfold maxLen at j1
    have j5 := k5
    unfold maxLen at j5
    have j6 := k6
    unfold maxLen at j6
    exact ⟨j1, j5, j6, FInt.oks_of _ k7, FArg.oks_of _ k8⟩
theorem read_Call {H : Type} {enc : TypeId × Value → H} {w : World} {base : Nat} {spare : Nat → Bool} {held : Bool} (n : Nat) : ReadCall enc w base spare held n := read_Call_of n
/-! ### Try -/
structure FTry where
  a0 : Bool
  a1 : ByteArray
  a2 : Int
  a3 : Int
  a4 : Int
  a5 : Int
def FTry.c : FTry → List Cel
  | ⟨a0, a1, a2, a3, a4, a5⟩ => [.v (.bool a0), .v (.string a1), .v (.int .i64 a2), .v (.int .i64 a3), .v (.int .i64 a4), .v (.int .i64 a5)]
def FTry.wt : FTry → Nat
  | ⟨a0, a1, a2, a3, a4, a5⟩ => a1.size
def FTry.ok : FTry → Prop
  | ⟨a0, a1, a2, a3, a4, a5⟩ => a1.size ≤ 9223372036854775807
def FTry.wts : List FTry → Nat
  | [] => 0
  | x :: r => x.wt + FTry.wts r
def FTry.oks : List FTry → Prop
  | [] => True
  | x :: r => x.ok ∧ FTry.oks r
abbrev FTry.flat (l : List FTry) : List Cel := l.flatMap FTry.c
theorem FTry.c_eq (z0 : Bool) (z1 : ByteArray) (z2 : Int) (z3 : Int) (z4 : Int) (z5 : Int) : FTry.c ⟨z0, z1, z2, z3, z4, z5⟩ = [.v (.bool z0), .v (.string z1), .v (.int .i64 z2), .v (.int .i64 z3), .v (.int .i64 z4), .v (.int .i64 z5)] := by simp [FTry.c]
theorem FTry.len (x : FTry) : x.c.length = 6 := by
  obtain ⟨z0, z1, z2, z3, z4, z5⟩ := x
  rw [FTry.c_eq]
  rfl
theorem FTry.wt_eq (z0 : Bool) (z1 : ByteArray) (z2 : Int) (z3 : Int) (z4 : Int) (z5 : Int) : FTry.wt ⟨z0, z1, z2, z3, z4, z5⟩ = z1.size := by simp [FTry.wt]
theorem FTry.ok_eq (z0 : Bool) (z1 : ByteArray) (z2 : Int) (z3 : Int) (z4 : Int) (z5 : Int) : FTry.ok ⟨z0, z1, z2, z3, z4, z5⟩ ↔ (z1.size ≤ 9223372036854775807) := by simp [FTry.ok]
theorem FTry.oks_mem : ∀ l : List FTry, FTry.oks l → ∀ x, x ∈ l → x.ok
  | [], _, x, hx => by cases hx
  | y :: r, h, x, hx => by
    unfold FTry.oks at h
    rcases List.mem_cons.1 hx with rfl | hx
    · exact h.1
    · exact FTry.oks_mem r h.2 x hx
theorem FTry.oks_of : ∀ l : List FTry, (∀ x, x ∈ l → x.ok) → FTry.oks l
  | [], _ => by unfold FTry.oks; trivial
  | y :: r, h => by
    unfold FTry.oks
    exact ⟨h y (by simp), FTry.oks_of r fun x hx => h x (by simp [hx])⟩
theorem FTry.wts_take : ∀ (l : List FTry) (k : Nat) (x : FTry), l[k]? = some x → FTry.wts (l.take (k + 1)) = FTry.wts (l.take k) + x.wt
  | [], k, x, h => by simp at h
  | y :: r, 0, x, h => by
    obtain rfl : y = x := by simpa using h
    simp [FTry.wts]
  | y :: r, k + 1, x, h => by
    rw [List.take_succ_cons, List.take_succ_cons, FTry.wts, FTry.wts, FTry.wts_take r k x (by simpa using h)]
    omega
theorem FTry.wts_le : ∀ (l : List FTry) (k : Nat), FTry.wts (l.take k) ≤ FTry.wts l
  | [], k => by simp
  | y :: r, 0 => by simp [FTry.wts]
  | y :: r, k + 1 => by
    rw [List.take_succ_cons, FTry.wts, FTry.wts]
    have := FTry.wts_le r k
    omega
theorem FTry.wts_at : ∀ (l : List FTry) (x : FTry), x ∈ l → x.wt ≤ FTry.wts l
  | [], x, h => by cases h
  | y :: r, x, h => by
    unfold FTry.wts
    rcases List.mem_cons.1 h with rfl | h
    · omega
    · have := FTry.wts_at r x h
      omega
def ReadTry {H : Type} (enc : TypeId × Value → H) (w : World) (base : Nat) (spare : Nat → Bool) (held : Bool) (n : Nat) : Prop := ∀ (cs : List Value) (y : DataW H × List MemPlace), DataW.trod enc Tryz.prog w base spare held n 238 cs = some y → ∃ x : FTry, RdVs w w.heap.size x.c cs ∧ x.ok
theorem read_Try_of {H : Type} {enc : TypeId × Value → H} {w : World} {base : Nat} {spare : Nat → Bool} {held : Bool} (n : Nat) : ReadTry enc w base spare held n := by
  intro cs y h
  obtain ⟨hl, n1, rfl, hf⟩ := struct_span (by kernel_rfl) h
  have hC : Tryz.prog.cellsOf 238 = 6 := by kernel_rfl
  rw [hC] at hl
  obtain ⟨y0, t0⟩ := hf 0 4 0 1 (by kernel_rfl)
  obtain ⟨z0, e0, _⟩ := DataW.trod_bool Tryz.underlying4 t0
  obtain ⟨y1, t1⟩ := hf 1 9 1 1 (by kernel_rfl)
  obtain ⟨z1, e1, _, k1⟩ := DataW.trod_string Tryz.underlying9 t1
  obtain ⟨y2, t2⟩ := hf 2 3 2 1 (by kernel_rfl)
  obtain ⟨z2, e2, _, g2⟩ := DataW.trod_int Tryz.underlying3 t2
  obtain ⟨y3, t3⟩ := hf 3 3 3 1 (by kernel_rfl)
  obtain ⟨z3, e3, _, g3⟩ := DataW.trod_int Tryz.underlying3 t3
  obtain ⟨y4, t4⟩ := hf 4 3 4 1 (by kernel_rfl)
  obtain ⟨z4, e4, _, g4⟩ := DataW.trod_int Tryz.underlying3 t4
  obtain ⟨y5, t5⟩ := hf 5 3 5 1 (by kernel_rfl)
  obtain ⟨z5, e5, _, g5⟩ := DataW.trod_int Tryz.underlying3 t5
  have hcs := cut_all hl
  have q0 := cut_step 0 1 5 (us := cs)
  have q1 := cut_step 1 1 4 (us := cs)
  have q2 := cut_step 2 1 3 (us := cs)
  have q3 := cut_step 3 1 2 (us := cs)
  have q4 := cut_step 4 1 1 (us := cs)
  refine ⟨⟨z0, z1, z2, z3, z4, z5⟩, ?_, ?_⟩
  · rw [FTry.c_eq, hcs]
    rw [show (cs.drop 0).take 6 = (cs.drop 0).take 1 ++ (cs.drop 1).take 5 from q0]
    rw [show (cs.drop 1).take 5 = (cs.drop 1).take 1 ++ (cs.drop 2).take 4 from q1]
    rw [show (cs.drop 2).take 4 = (cs.drop 2).take 1 ++ (cs.drop 3).take 3 from q2]
    rw [show (cs.drop 3).take 3 = (cs.drop 3).take 1 ++ (cs.drop 4).take 2 from q3]
    rw [show (cs.drop 4).take 2 = (cs.drop 4).take 1 ++ (cs.drop 5).take 1 from q4]
    rw [e0]
    rw [e1]
    rw [e2]
    rw [e3]
    rw [e4]
    rw [e5]
    exact (RdVs.cons (by unfold RdC; rfl) (RdVs.cons (by unfold RdC; rfl) (RdVs.cons (by unfold RdC; rfl) (RdVs.cons (by unfold RdC; rfl) (RdVs.cons (by unfold RdC; rfl) (RdVs.cons (by unfold RdC; rfl) (RdVs.nil _ _)))))))
  · rw [FTry.ok_eq]
    have j1 := k1
    unfold maxLen at j1
    exact j1
theorem read_Try {H : Type} {enc : TypeId × Value → H} {w : World} {base : Nat} {spare : Nat → Bool} {held : Bool} (n : Nat) : ReadTry enc w base spare held n := read_Try_of n
/-! ### End -/
structure FEnd where
  a0 : Int
  a1 : FValue
  a2 : Int
  a3 : Int
  a4 : Int
def FEnd.c : FEnd → List Cel
  | ⟨a0, a1, a2, a3, a4⟩ => [.v (.int .i64 a0)] ++ FValue.c a1 ++ [.v (.int .i64 a2), .v (.int .i64 a3), .v (.int .i64 a4)]
def FEnd.wt : FEnd → Nat
  | ⟨a0, a1, a2, a3, a4⟩ => FValue.wt a1
def FEnd.ok : FEnd → Prop
  | ⟨a0, a1, a2, a3, a4⟩ => FValue.ok a1
def FEnd.wts : List FEnd → Nat
  | [] => 0
  | x :: r => x.wt + FEnd.wts r
def FEnd.oks : List FEnd → Prop
  | [] => True
  | x :: r => x.ok ∧ FEnd.oks r
abbrev FEnd.flat (l : List FEnd) : List Cel := l.flatMap FEnd.c
theorem FEnd.c_eq (z0 : Int) (z1 : Int) (z2 : Int) (z3 : ByteArray) (z4 : Int) (z5 : List FEntry) (z6 : Int) (z7 : Int) (z8 : Int) : FEnd.c ⟨z0, ⟨z1, z2, z3, z4, z5⟩, z6, z7, z8⟩ = [.v (.int .i64 z0), .v (.int .i64 z1), .v (.int .i64 z2), .v (.string z3), .v (.int .i64 z4), .s 153 8 z5.length (FEntry.flat z5), .v (.int .i64 z6), .v (.int .i64 z7), .v (.int .i64 z8)] := by simp [FEnd.c, FValue.c, FEntry.cs_eq]
theorem FEnd.len (x : FEnd) : x.c.length = 9 := by
  obtain ⟨z0, ⟨z1, z2, z3, z4, z5⟩, z6, z7, z8⟩ := x
  rw [FEnd.c_eq]
  rfl
theorem FEnd.wt_eq (z0 : Int) (z1 : Int) (z2 : Int) (z3 : ByteArray) (z4 : Int) (z5 : List FEntry) (z6 : Int) (z7 : Int) (z8 : Int) : FEnd.wt ⟨z0, ⟨z1, z2, z3, z4, z5⟩, z6, z7, z8⟩ = z3.size + (z5.length + FEntry.wts z5) := by simp [FEnd.wt, FValue.wt, Nat.add_assoc]
theorem FEnd.ok_eq (z0 : Int) (z1 : Int) (z2 : Int) (z3 : ByteArray) (z4 : Int) (z5 : List FEntry) (z6 : Int) (z7 : Int) (z8 : Int) : FEnd.ok ⟨z0, ⟨z1, z2, z3, z4, z5⟩, z6, z7, z8⟩ ↔ (z3.size ≤ 9223372036854775807 ∧ FEntry.oks z5) := by simp [FEnd.ok, FValue.ok, and_assoc]
theorem FEnd.oks_mem : ∀ l : List FEnd, FEnd.oks l → ∀ x, x ∈ l → x.ok
  | [], _, x, hx => by cases hx
  | y :: r, h, x, hx => by
    unfold FEnd.oks at h
    rcases List.mem_cons.1 hx with rfl | hx
    · exact h.1
    · exact FEnd.oks_mem r h.2 x hx
theorem FEnd.oks_of : ∀ l : List FEnd, (∀ x, x ∈ l → x.ok) → FEnd.oks l
  | [], _ => by unfold FEnd.oks; trivial
  | y :: r, h => by
    unfold FEnd.oks
    exact ⟨h y (by simp), FEnd.oks_of r fun x hx => h x (by simp [hx])⟩
theorem FEnd.wts_take : ∀ (l : List FEnd) (k : Nat) (x : FEnd), l[k]? = some x → FEnd.wts (l.take (k + 1)) = FEnd.wts (l.take k) + x.wt
  | [], k, x, h => by simp at h
  | y :: r, 0, x, h => by
    obtain rfl : y = x := by simpa using h
    simp [FEnd.wts]
  | y :: r, k + 1, x, h => by
    rw [List.take_succ_cons, List.take_succ_cons, FEnd.wts, FEnd.wts, FEnd.wts_take r k x (by simpa using h)]
    omega
theorem FEnd.wts_le : ∀ (l : List FEnd) (k : Nat), FEnd.wts (l.take k) ≤ FEnd.wts l
  | [], k => by simp
  | y :: r, 0 => by simp [FEnd.wts]
  | y :: r, k + 1 => by
    rw [List.take_succ_cons, FEnd.wts, FEnd.wts]
    have := FEnd.wts_le r k
    omega
theorem FEnd.wts_at : ∀ (l : List FEnd) (x : FEnd), x ∈ l → x.wt ≤ FEnd.wts l
  | [], x, h => by cases h
  | y :: r, x, h => by
    unfold FEnd.wts
    rcases List.mem_cons.1 h with rfl | h
    · omega
    · have := FEnd.wts_at r x h
      omega
def ReadEnd {H : Type} (enc : TypeId × Value → H) (w : World) (base : Nat) (spare : Nat → Bool) (held : Bool) (n : Nat) : Prop := ∀ (cs : List Value) (y : DataW H × List MemPlace), DataW.trod enc Tryz.prog w base spare held n 241 cs = some y → ∃ x : FEnd, RdVs w w.heap.size x.c cs ∧ x.ok
theorem read_End_of {H : Type} {enc : TypeId × Value → H} {w : World} {base : Nat} {spare : Nat → Bool} {held : Bool} (n : Nat) : ReadEnd enc w base spare held n := by
  intro cs y h
  obtain ⟨hl, n1, rfl, hf⟩ := struct_span (by kernel_rfl) h
  have hC : Tryz.prog.cellsOf 241 = 9 := by kernel_rfl
  rw [hC] at hl
  obtain ⟨y0, t0⟩ := hf 0 3 0 1 (by kernel_rfl)
  obtain ⟨z0, e0, _, g0⟩ := DataW.trod_int Tryz.underlying3 t0
  obtain ⟨y1, t1⟩ := hf 1 115 1 5 (by kernel_rfl)
  obtain ⟨x1, r1, k1⟩ := read_Value n1 _ _ t1
  obtain ⟨z1, z2, z3, z4, z5⟩ := x1
  rw [FValue.c_eq] at r1
  rw [FValue.ok_eq] at k1
  obtain ⟨y2, t2⟩ := hf 2 3 6 1 (by kernel_rfl)
  obtain ⟨z6, e2, _, g2⟩ := DataW.trod_int Tryz.underlying3 t2
  obtain ⟨y3, t3⟩ := hf 3 3 7 1 (by kernel_rfl)
  obtain ⟨z7, e3, _, g3⟩ := DataW.trod_int Tryz.underlying3 t3
  obtain ⟨y4, t4⟩ := hf 4 3 8 1 (by kernel_rfl)
  obtain ⟨z8, e4, _, g4⟩ := DataW.trod_int Tryz.underlying3 t4
  have hcs := cut_all hl
  have q0 := cut_step 0 1 8 (us := cs)
  have q1 := cut_step 1 5 3 (us := cs)
  have q2 := cut_step 6 1 2 (us := cs)
  have q3 := cut_step 7 1 1 (us := cs)
  refine ⟨⟨z0, ⟨z1, z2, z3, z4, z5⟩, z6, z7, z8⟩, ?_, ?_⟩
  · rw [FEnd.c_eq, hcs]
    rw [show (cs.drop 0).take 9 = (cs.drop 0).take 1 ++ (cs.drop 1).take 8 from q0]
    rw [show (cs.drop 1).take 8 = (cs.drop 1).take 5 ++ (cs.drop 6).take 3 from q1]
    rw [show (cs.drop 6).take 3 = (cs.drop 6).take 1 ++ (cs.drop 7).take 2 from q2]
    rw [show (cs.drop 7).take 2 = (cs.drop 7).take 1 ++ (cs.drop 8).take 1 from q3]
    rw [e0]
    rw [e2]
    rw [e3]
    rw [e4]
    exact (RdVs.cons (by unfold RdC; rfl) (RdVs.app r1 (RdVs.cons (by unfold RdC; rfl) (RdVs.cons (by unfold RdC; rfl) (RdVs.cons (by unfold RdC; rfl) (RdVs.nil _ _))))))
  · rw [FEnd.ok_eq]
    exact ⟨k1.1, k1.2⟩
theorem read_End {H : Type} {enc : TypeId × Value → H} {w : World} {base : Nat} {spare : Nat → Bool} {held : Bool} (n : Nat) : ReadEnd enc w base spare held n := read_End_of n
/-! ### Frame -/
structure FFrame where
  a0 : Int
  a1 : Int
  a2 : List FInt
  a3 : List FValue
  a4 : List FCall
  a5 : List FTry
  a6 : List FEnd
  a7 : Int
  a8 : ByteArray
  a9 : ByteArray
  a10 : Int
  a11 : Int
  a12 : Int
def FFrame.c : FFrame → List Cel
  | ⟨a0, a1, a2, a3, a4, a5, a6, a7, a8, a9, a10, a11, a12⟩ => [.v (.int .i64 a0), .v (.int .i64 a1), .s 3 1 a2.length (FInt.flat a2), .s 82 5 a3.length (FValue.flat a3), .s 156 9 a4.length (FCall.flat a4), .s 224 6 a5.length (FTry.flat a5), .s 160 9 a6.length (FEnd.flat a6), .v (.int .i64 a7), .v (.string a8), .v (.string a9), .v (.int .i64 a10), .v (.int .i64 a11), .v (.int .i64 a12)]
def FFrame.wt : FFrame → Nat
  | ⟨a0, a1, a2, a3, a4, a5, a6, a7, a8, a9, a10, a11, a12⟩ => (a2.length + FInt.wts a2) + (a3.length + FValue.wts a3) + (a4.length + FCall.wts a4) + (a5.length + FTry.wts a5) + (a6.length + FEnd.wts a6) + a8.size + a9.size
def FFrame.ok : FFrame → Prop
  | ⟨a0, a1, a2, a3, a4, a5, a6, a7, a8, a9, a10, a11, a12⟩ => FInt.oks a2 ∧ FValue.oks a3 ∧ FCall.oks a4 ∧ FTry.oks a5 ∧ FEnd.oks a6 ∧ a8.size ≤ 9223372036854775807 ∧ a9.size ≤ 9223372036854775807
def FFrame.wts : List FFrame → Nat
  | [] => 0
  | x :: r => x.wt + FFrame.wts r
def FFrame.oks : List FFrame → Prop
  | [] => True
  | x :: r => x.ok ∧ FFrame.oks r
abbrev FFrame.flat (l : List FFrame) : List Cel := l.flatMap FFrame.c
theorem FFrame.c_eq (z0 : Int) (z1 : Int) (z2 : List FInt) (z3 : List FValue) (z4 : List FCall) (z5 : List FTry) (z6 : List FEnd) (z7 : Int) (z8 : ByteArray) (z9 : ByteArray) (z10 : Int) (z11 : Int) (z12 : Int) : FFrame.c ⟨z0, z1, z2, z3, z4, z5, z6, z7, z8, z9, z10, z11, z12⟩ = [.v (.int .i64 z0), .v (.int .i64 z1), .s 3 1 z2.length (FInt.flat z2), .s 82 5 z3.length (FValue.flat z3), .s 156 9 z4.length (FCall.flat z4), .s 224 6 z5.length (FTry.flat z5), .s 160 9 z6.length (FEnd.flat z6), .v (.int .i64 z7), .v (.string z8), .v (.string z9), .v (.int .i64 z10), .v (.int .i64 z11), .v (.int .i64 z12)] := by simp [FFrame.c]
theorem FFrame.len (x : FFrame) : x.c.length = 13 := by
  obtain ⟨z0, z1, z2, z3, z4, z5, z6, z7, z8, z9, z10, z11, z12⟩ := x
  rw [FFrame.c_eq]
  rfl
theorem FFrame.wt_eq (z0 : Int) (z1 : Int) (z2 : List FInt) (z3 : List FValue) (z4 : List FCall) (z5 : List FTry) (z6 : List FEnd) (z7 : Int) (z8 : ByteArray) (z9 : ByteArray) (z10 : Int) (z11 : Int) (z12 : Int) : FFrame.wt ⟨z0, z1, z2, z3, z4, z5, z6, z7, z8, z9, z10, z11, z12⟩ = (z2.length + FInt.wts z2) + (z3.length + FValue.wts z3) + (z4.length + FCall.wts z4) + (z5.length + FTry.wts z5) + (z6.length + FEnd.wts z6) + z8.size + z9.size := by simp [FFrame.wt, Nat.add_assoc]
theorem FFrame.ok_eq (z0 : Int) (z1 : Int) (z2 : List FInt) (z3 : List FValue) (z4 : List FCall) (z5 : List FTry) (z6 : List FEnd) (z7 : Int) (z8 : ByteArray) (z9 : ByteArray) (z10 : Int) (z11 : Int) (z12 : Int) : FFrame.ok ⟨z0, z1, z2, z3, z4, z5, z6, z7, z8, z9, z10, z11, z12⟩ ↔ (FInt.oks z2 ∧ FValue.oks z3 ∧ FCall.oks z4 ∧ FTry.oks z5 ∧ FEnd.oks z6 ∧ z8.size ≤ 9223372036854775807 ∧ z9.size ≤ 9223372036854775807) := by simp [FFrame.ok, and_assoc]
theorem FFrame.oks_mem : ∀ l : List FFrame, FFrame.oks l → ∀ x, x ∈ l → x.ok
  | [], _, x, hx => by cases hx
  | y :: r, h, x, hx => by
    unfold FFrame.oks at h
    rcases List.mem_cons.1 hx with rfl | hx
    · exact h.1
    · exact FFrame.oks_mem r h.2 x hx
theorem FFrame.oks_of : ∀ l : List FFrame, (∀ x, x ∈ l → x.ok) → FFrame.oks l
  | [], _ => by unfold FFrame.oks; trivial
  | y :: r, h => by
    unfold FFrame.oks
    exact ⟨h y (by simp), FFrame.oks_of r fun x hx => h x (by simp [hx])⟩
theorem FFrame.wts_take : ∀ (l : List FFrame) (k : Nat) (x : FFrame), l[k]? = some x → FFrame.wts (l.take (k + 1)) = FFrame.wts (l.take k) + x.wt
  | [], k, x, h => by simp at h
  | y :: r, 0, x, h => by
    obtain rfl : y = x := by simpa using h
    simp [FFrame.wts]
  | y :: r, k + 1, x, h => by
    rw [List.take_succ_cons, List.take_succ_cons, FFrame.wts, FFrame.wts, FFrame.wts_take r k x (by simpa using h)]
    omega
theorem FFrame.wts_le : ∀ (l : List FFrame) (k : Nat), FFrame.wts (l.take k) ≤ FFrame.wts l
  | [], k => by simp
  | y :: r, 0 => by simp [FFrame.wts]
  | y :: r, k + 1 => by
    rw [List.take_succ_cons, FFrame.wts, FFrame.wts]
    have := FFrame.wts_le r k
    omega
theorem FFrame.wts_at : ∀ (l : List FFrame) (x : FFrame), x ∈ l → x.wt ≤ FFrame.wts l
  | [], x, h => by cases h
  | y :: r, x, h => by
    unfold FFrame.wts
    rcases List.mem_cons.1 h with rfl | h
    · omega
    · have := FFrame.wts_at r x h
      omega
def ReadFrame {H : Type} (enc : TypeId × Value → H) (w : World) (base : Nat) (spare : Nat → Bool) (held : Bool) (n : Nat) : Prop := ∀ (cs : List Value) (y : DataW H × List MemPlace), DataW.trod enc Tryz.prog w base spare held n 132 cs = some y → ∃ x : FFrame, RdVs w w.heap.size x.c cs ∧ x.ok
theorem read_Frame_of {H : Type} {enc : TypeId × Value → H} {w : World} {base : Nat} {spare : Nat → Bool} {held : Bool} (n : Nat) : ReadFrame enc w base spare held n := by
  intro cs y h
  obtain ⟨hl, n1, rfl, hf⟩ := struct_span (by kernel_rfl) h
  have hC : Tryz.prog.cellsOf 132 = 13 := by kernel_rfl
  rw [hC] at hl
  obtain ⟨y0, t0⟩ := hf 0 3 0 1 (by kernel_rfl)
  obtain ⟨z0, e0, _, g0⟩ := DataW.trod_int Tryz.underlying3 t0
  obtain ⟨y1, t1⟩ := hf 1 3 1 1 (by kernel_rfl)
  obtain ⟨z1, e1, _, g1⟩ := DataW.trod_int Tryz.underlying3 t1
  obtain ⟨y2, t2⟩ := hf 2 86 2 1 (by kernel_rfl)
  obtain ⟨v2, z2, e2, r2, k2⟩ := open_deep (ok := FInt.ok) 3 FInt.len (by omega) Tryz.underlying86 (by kernel_rfl) (fun m cs1 y1 _ h1 => read_int m cs1 y1 h1) t2
  obtain ⟨y3, t3⟩ := hf 3 22 3 1 (by kernel_rfl)
  obtain ⟨v3, z3, e3, r3, k3⟩ := open_deep (ok := FValue.ok) 82 FValue.len (by omega) Tryz.underlying22 (by kernel_rfl) (fun m cs1 y1 hm h1 => read_Value m cs1 y1 h1) t3
  obtain ⟨y4, t4⟩ := hf 4 128 4 1 (by kernel_rfl)
  obtain ⟨v4, z4, e4, r4, k4⟩ := open_deep (ok := FCall.ok) 156 FCall.len (by omega) Tryz.underlying128 (by kernel_rfl) (fun m cs1 y1 hm h1 => read_Call m cs1 y1 h1) t4
  obtain ⟨y5, t5⟩ := hf 5 129 5 1 (by kernel_rfl)
  obtain ⟨v5, z5, e5, r5, k5⟩ := open_deep (ok := FTry.ok) 224 FTry.len (by omega) Tryz.underlying129 (by kernel_rfl) (fun m cs1 y1 hm h1 => read_Try m cs1 y1 h1) t5
  obtain ⟨y6, t6⟩ := hf 6 130 6 1 (by kernel_rfl)
  obtain ⟨v6, z6, e6, r6, k6⟩ := open_deep (ok := FEnd.ok) 160 FEnd.len (by omega) Tryz.underlying130 (by kernel_rfl) (fun m cs1 y1 hm h1 => read_End m cs1 y1 h1) t6
  obtain ⟨y7, t7⟩ := hf 7 3 7 1 (by kernel_rfl)
  obtain ⟨z7, e7, _, g7⟩ := DataW.trod_int Tryz.underlying3 t7
  obtain ⟨y8, t8⟩ := hf 8 9 8 1 (by kernel_rfl)
  obtain ⟨z8, e8, _, k8⟩ := DataW.trod_string Tryz.underlying9 t8
  obtain ⟨y9, t9⟩ := hf 9 9 9 1 (by kernel_rfl)
  obtain ⟨z9, e9, _, k9⟩ := DataW.trod_string Tryz.underlying9 t9
  obtain ⟨y10, t10⟩ := hf 10 3 10 1 (by kernel_rfl)
  obtain ⟨z10, e10, _, g10⟩ := DataW.trod_int Tryz.underlying3 t10
  obtain ⟨y11, t11⟩ := hf 11 3 11 1 (by kernel_rfl)
  obtain ⟨z11, e11, _, g11⟩ := DataW.trod_int Tryz.underlying3 t11
  obtain ⟨y12, t12⟩ := hf 12 3 12 1 (by kernel_rfl)
  obtain ⟨z12, e12, _, g12⟩ := DataW.trod_int Tryz.underlying3 t12
  have hcs := cut_all hl
  have q0 := cut_step 0 1 12 (us := cs)
  have q1 := cut_step 1 1 11 (us := cs)
  have q2 := cut_step 2 1 10 (us := cs)
  have q3 := cut_step 3 1 9 (us := cs)
  have q4 := cut_step 4 1 8 (us := cs)
  have q5 := cut_step 5 1 7 (us := cs)
  have q6 := cut_step 6 1 6 (us := cs)
  have q7 := cut_step 7 1 5 (us := cs)
  have q8 := cut_step 8 1 4 (us := cs)
  have q9 := cut_step 9 1 3 (us := cs)
  have q10 := cut_step 10 1 2 (us := cs)
  have q11 := cut_step 11 1 1 (us := cs)
  refine ⟨⟨z0, z1, z2, z3, z4, z5, z6, z7, z8, z9, z10, z11, z12⟩, ?_, ?_⟩
  · rw [FFrame.c_eq, hcs]
    rw [show (cs.drop 0).take 13 = (cs.drop 0).take 1 ++ (cs.drop 1).take 12 from q0]
    rw [show (cs.drop 1).take 12 = (cs.drop 1).take 1 ++ (cs.drop 2).take 11 from q1]
    rw [show (cs.drop 2).take 11 = (cs.drop 2).take 1 ++ (cs.drop 3).take 10 from q2]
    rw [show (cs.drop 3).take 10 = (cs.drop 3).take 1 ++ (cs.drop 4).take 9 from q3]
    rw [show (cs.drop 4).take 9 = (cs.drop 4).take 1 ++ (cs.drop 5).take 8 from q4]
    rw [show (cs.drop 5).take 8 = (cs.drop 5).take 1 ++ (cs.drop 6).take 7 from q5]
    rw [show (cs.drop 6).take 7 = (cs.drop 6).take 1 ++ (cs.drop 7).take 6 from q6]
    rw [show (cs.drop 7).take 6 = (cs.drop 7).take 1 ++ (cs.drop 8).take 5 from q7]
    rw [show (cs.drop 8).take 5 = (cs.drop 8).take 1 ++ (cs.drop 9).take 4 from q8]
    rw [show (cs.drop 9).take 4 = (cs.drop 9).take 1 ++ (cs.drop 10).take 3 from q9]
    rw [show (cs.drop 10).take 3 = (cs.drop 10).take 1 ++ (cs.drop 11).take 2 from q10]
    rw [show (cs.drop 11).take 2 = (cs.drop 11).take 1 ++ (cs.drop 12).take 1 from q11]
    rw [e0]
    rw [e1]
    rw [e2]
    rw [e3]
    rw [e4]
    rw [e5]
    rw [e6]
    rw [e7]
    rw [e8]
    rw [e9]
    rw [e10]
    rw [e11]
    rw [e12]
    exact (RdVs.cons (by unfold RdC; rfl) (RdVs.cons (by unfold RdC; rfl) (RdVs.cons r2 (RdVs.cons r3 (RdVs.cons r4 (RdVs.cons r5 (RdVs.cons r6 (RdVs.cons (by unfold RdC; rfl) (RdVs.cons (by unfold RdC; rfl) (RdVs.cons (by unfold RdC; rfl) (RdVs.cons (by unfold RdC; rfl) (RdVs.cons (by unfold RdC; rfl) (RdVs.cons (by unfold RdC; rfl) (RdVs.nil _ _))))))))))))))
  · rw [FFrame.ok_eq]
    have j8 := k8
    unfold maxLen at j8
    have j9 := k9
    unfold maxLen at j9
    exact ⟨FInt.oks_of _ k2, FValue.oks_of _ k3, FCall.oks_of _ k4, FTry.oks_of _ k5, FEnd.oks_of _ k6, j8, j9⟩
theorem read_Frame {H : Type} {enc : TypeId × Value → H} {w : World} {base : Nat} {spare : Nat → Bool} {held : Bool} (n : Nat) : ReadFrame enc w base spare held n := read_Frame_of n
/-! ### Gen -/
structure FGen where
  a0 : Int
  a1 : FValue
  a2 : FFrame
def FGen.c : FGen → List Cel
  | ⟨a0, a1, a2⟩ => [.v (.int .i64 a0)] ++ FValue.c a1 ++ FFrame.c a2
def FGen.wt : FGen → Nat
  | ⟨a0, a1, a2⟩ => FValue.wt a1 + FFrame.wt a2
def FGen.ok : FGen → Prop
  | ⟨a0, a1, a2⟩ => FValue.ok a1 ∧ FFrame.ok a2
def FGen.wts : List FGen → Nat
  | [] => 0
  | x :: r => x.wt + FGen.wts r
def FGen.oks : List FGen → Prop
  | [] => True
  | x :: r => x.ok ∧ FGen.oks r
abbrev FGen.flat (l : List FGen) : List Cel := l.flatMap FGen.c
theorem FGen.c_eq (z0 : Int) (z1 : Int) (z2 : Int) (z3 : ByteArray) (z4 : Int) (z5 : List FEntry) (z6 : Int) (z7 : Int) (z8 : List FInt) (z9 : List FValue) (z10 : List FCall) (z11 : List FTry) (z12 : List FEnd) (z13 : Int) (z14 : ByteArray) (z15 : ByteArray) (z16 : Int) (z17 : Int) (z18 : Int) : FGen.c ⟨z0, ⟨z1, z2, z3, z4, z5⟩, ⟨z6, z7, z8, z9, z10, z11, z12, z13, z14, z15, z16, z17, z18⟩⟩ = [.v (.int .i64 z0), .v (.int .i64 z1), .v (.int .i64 z2), .v (.string z3), .v (.int .i64 z4), .s 153 8 z5.length (FEntry.flat z5), .v (.int .i64 z6), .v (.int .i64 z7), .s 3 1 z8.length (FInt.flat z8), .s 82 5 z9.length (FValue.flat z9), .s 156 9 z10.length (FCall.flat z10), .s 224 6 z11.length (FTry.flat z11), .s 160 9 z12.length (FEnd.flat z12), .v (.int .i64 z13), .v (.string z14), .v (.string z15), .v (.int .i64 z16), .v (.int .i64 z17), .v (.int .i64 z18)] := by simp [FFrame.c, FGen.c, FValue.c, FEntry.cs_eq]
theorem FGen.len (x : FGen) : x.c.length = 19 := by
  obtain ⟨z0, ⟨z1, z2, z3, z4, z5⟩, ⟨z6, z7, z8, z9, z10, z11, z12, z13, z14, z15, z16, z17, z18⟩⟩ := x
  rw [FGen.c_eq]
  rfl
theorem FGen.wt_eq (z0 : Int) (z1 : Int) (z2 : Int) (z3 : ByteArray) (z4 : Int) (z5 : List FEntry) (z6 : Int) (z7 : Int) (z8 : List FInt) (z9 : List FValue) (z10 : List FCall) (z11 : List FTry) (z12 : List FEnd) (z13 : Int) (z14 : ByteArray) (z15 : ByteArray) (z16 : Int) (z17 : Int) (z18 : Int) : FGen.wt ⟨z0, ⟨z1, z2, z3, z4, z5⟩, ⟨z6, z7, z8, z9, z10, z11, z12, z13, z14, z15, z16, z17, z18⟩⟩ = z3.size + (z5.length + FEntry.wts z5) + (z8.length + FInt.wts z8) + (z9.length + FValue.wts z9) + (z10.length + FCall.wts z10) + (z11.length + FTry.wts z11) + (z12.length + FEnd.wts z12) + z14.size + z15.size := by simp [FFrame.wt, FGen.wt, FValue.wt, Nat.add_assoc]
theorem FGen.ok_eq (z0 : Int) (z1 : Int) (z2 : Int) (z3 : ByteArray) (z4 : Int) (z5 : List FEntry) (z6 : Int) (z7 : Int) (z8 : List FInt) (z9 : List FValue) (z10 : List FCall) (z11 : List FTry) (z12 : List FEnd) (z13 : Int) (z14 : ByteArray) (z15 : ByteArray) (z16 : Int) (z17 : Int) (z18 : Int) : FGen.ok ⟨z0, ⟨z1, z2, z3, z4, z5⟩, ⟨z6, z7, z8, z9, z10, z11, z12, z13, z14, z15, z16, z17, z18⟩⟩ ↔ (z3.size ≤ 9223372036854775807 ∧ FEntry.oks z5 ∧ FInt.oks z8 ∧ FValue.oks z9 ∧ FCall.oks z10 ∧ FTry.oks z11 ∧ FEnd.oks z12 ∧ z14.size ≤ 9223372036854775807 ∧ z15.size ≤ 9223372036854775807) := by simp [FFrame.ok, FGen.ok, FValue.ok, and_assoc]
theorem FGen.oks_mem : ∀ l : List FGen, FGen.oks l → ∀ x, x ∈ l → x.ok
  | [], _, x, hx => by cases hx
  | y :: r, h, x, hx => by
    unfold FGen.oks at h
    rcases List.mem_cons.1 hx with rfl | hx
    · exact h.1
    · exact FGen.oks_mem r h.2 x hx
theorem FGen.oks_of : ∀ l : List FGen, (∀ x, x ∈ l → x.ok) → FGen.oks l
  | [], _ => by unfold FGen.oks; trivial
  | y :: r, h => by
    unfold FGen.oks
    exact ⟨h y (by simp), FGen.oks_of r fun x hx => h x (by simp [hx])⟩
theorem FGen.wts_take : ∀ (l : List FGen) (k : Nat) (x : FGen), l[k]? = some x → FGen.wts (l.take (k + 1)) = FGen.wts (l.take k) + x.wt
  | [], k, x, h => by simp at h
  | y :: r, 0, x, h => by
    obtain rfl : y = x := by simpa using h
    simp [FGen.wts]
  | y :: r, k + 1, x, h => by
    rw [List.take_succ_cons, List.take_succ_cons, FGen.wts, FGen.wts, FGen.wts_take r k x (by simpa using h)]
    omega
theorem FGen.wts_le : ∀ (l : List FGen) (k : Nat), FGen.wts (l.take k) ≤ FGen.wts l
  | [], k => by simp
  | y :: r, 0 => by simp [FGen.wts]
  | y :: r, k + 1 => by
    rw [List.take_succ_cons, FGen.wts, FGen.wts]
    have := FGen.wts_le r k
    omega
theorem FGen.wts_at : ∀ (l : List FGen) (x : FGen), x ∈ l → x.wt ≤ FGen.wts l
  | [], x, h => by cases h
  | y :: r, x, h => by
    unfold FGen.wts
    rcases List.mem_cons.1 h with rfl | h
    · omega
    · have := FGen.wts_at r x h
      omega
def ReadGen {H : Type} (enc : TypeId × Value → H) (w : World) (base : Nat) (spare : Nat → Bool) (held : Bool) (n : Nat) : Prop := ∀ (cs : List Value) (y : DataW H × List MemPlace), DataW.trod enc Tryz.prog w base spare held n 134 cs = some y → ∃ x : FGen, RdVs w w.heap.size x.c cs ∧ x.ok
theorem read_Gen_of {H : Type} {enc : TypeId × Value → H} {w : World} {base : Nat} {spare : Nat → Bool} {held : Bool} (n : Nat) : ReadGen enc w base spare held n := by
  intro cs y h
  obtain ⟨hl, n1, rfl, hf⟩ := struct_span (by kernel_rfl) h
  have hC : Tryz.prog.cellsOf 134 = 19 := by kernel_rfl
  rw [hC] at hl
  obtain ⟨y0, t0⟩ := hf 0 3 0 1 (by kernel_rfl)
  obtain ⟨z0, e0, _, g0⟩ := DataW.trod_int Tryz.underlying3 t0
  obtain ⟨y1, t1⟩ := hf 1 115 1 5 (by kernel_rfl)
  obtain ⟨x1, r1, k1⟩ := read_Value n1 _ _ t1
  obtain ⟨z1, z2, z3, z4, z5⟩ := x1
  rw [FValue.c_eq] at r1
  rw [FValue.ok_eq] at k1
  obtain ⟨y2, t2⟩ := hf 2 132 6 13 (by kernel_rfl)
  obtain ⟨x2, r2, k2⟩ := read_Frame n1 _ _ t2
  obtain ⟨z6, z7, z8, z9, z10, z11, z12, z13, z14, z15, z16, z17, z18⟩ := x2
  rw [FFrame.c_eq] at r2
  rw [FFrame.ok_eq] at k2
  have hcs := cut_all hl
  have q0 := cut_step 0 1 18 (us := cs)
  have q1 := cut_step 1 5 13 (us := cs)
  refine ⟨⟨z0, ⟨z1, z2, z3, z4, z5⟩, ⟨z6, z7, z8, z9, z10, z11, z12, z13, z14, z15, z16, z17, z18⟩⟩, ?_, ?_⟩
  · rw [FGen.c_eq, hcs]
    rw [show (cs.drop 0).take 19 = (cs.drop 0).take 1 ++ (cs.drop 1).take 18 from q0]
    rw [show (cs.drop 1).take 18 = (cs.drop 1).take 5 ++ (cs.drop 6).take 13 from q1]
    rw [e0]
    exact (RdVs.cons (by unfold RdC; rfl) (RdVs.app r1 r2))
  · rw [FGen.ok_eq]
    exact ⟨k1.1, k1.2, k2.1, k2.2.1, k2.2.2.1, k2.2.2.2.1, k2.2.2.2.2.1, k2.2.2.2.2.2.1, k2.2.2.2.2.2.2⟩
theorem read_Gen {H : Type} {enc : TypeId × Value → H} {w : World} {base : Nat} {spare : Nat → Bool} {held : Bool} (n : Nat) : ReadGen enc w base spare held n := read_Gen_of n
/-! ### Header -/
structure FHeader where
  a0 : ByteArray
  a1 : ByteArray
def FHeader.c : FHeader → List Cel
  | ⟨a0, a1⟩ => [.v (.string a0), .v (.string a1)]
def FHeader.wt : FHeader → Nat
  | ⟨a0, a1⟩ => a0.size + a1.size
def FHeader.ok : FHeader → Prop
  | ⟨a0, a1⟩ => a0.size ≤ 9223372036854775807 ∧ a1.size ≤ 9223372036854775807
def FHeader.wts : List FHeader → Nat
  | [] => 0
  | x :: r => x.wt + FHeader.wts r
def FHeader.oks : List FHeader → Prop
  | [] => True
  | x :: r => x.ok ∧ FHeader.oks r
abbrev FHeader.flat (l : List FHeader) : List Cel := l.flatMap FHeader.c
theorem FHeader.c_eq (z0 : ByteArray) (z1 : ByteArray) : FHeader.c ⟨z0, z1⟩ = [.v (.string z0), .v (.string z1)] := by simp [FHeader.c]
theorem FHeader.len (x : FHeader) : x.c.length = 2 := by
  obtain ⟨z0, z1⟩ := x
  rw [FHeader.c_eq]
  rfl
theorem FHeader.wt_eq (z0 : ByteArray) (z1 : ByteArray) : FHeader.wt ⟨z0, z1⟩ = z0.size + z1.size := by simp [FHeader.wt, Nat.add_assoc]
theorem FHeader.ok_eq (z0 : ByteArray) (z1 : ByteArray) : FHeader.ok ⟨z0, z1⟩ ↔ (z0.size ≤ 9223372036854775807 ∧ z1.size ≤ 9223372036854775807) := by simp [FHeader.ok, and_assoc]
theorem FHeader.oks_mem : ∀ l : List FHeader, FHeader.oks l → ∀ x, x ∈ l → x.ok
  | [], _, x, hx => by cases hx
  | y :: r, h, x, hx => by
    unfold FHeader.oks at h
    rcases List.mem_cons.1 hx with rfl | hx
    · exact h.1
    · exact FHeader.oks_mem r h.2 x hx
theorem FHeader.oks_of : ∀ l : List FHeader, (∀ x, x ∈ l → x.ok) → FHeader.oks l
  | [], _ => by unfold FHeader.oks; trivial
  | y :: r, h => by
    unfold FHeader.oks
    exact ⟨h y (by simp), FHeader.oks_of r fun x hx => h x (by simp [hx])⟩
theorem FHeader.wts_take : ∀ (l : List FHeader) (k : Nat) (x : FHeader), l[k]? = some x → FHeader.wts (l.take (k + 1)) = FHeader.wts (l.take k) + x.wt
  | [], k, x, h => by simp at h
  | y :: r, 0, x, h => by
    obtain rfl : y = x := by simpa using h
    simp [FHeader.wts]
  | y :: r, k + 1, x, h => by
    rw [List.take_succ_cons, List.take_succ_cons, FHeader.wts, FHeader.wts, FHeader.wts_take r k x (by simpa using h)]
    omega
theorem FHeader.wts_le : ∀ (l : List FHeader) (k : Nat), FHeader.wts (l.take k) ≤ FHeader.wts l
  | [], k => by simp
  | y :: r, 0 => by simp [FHeader.wts]
  | y :: r, k + 1 => by
    rw [List.take_succ_cons, FHeader.wts, FHeader.wts]
    have := FHeader.wts_le r k
    omega
theorem FHeader.wts_at : ∀ (l : List FHeader) (x : FHeader), x ∈ l → x.wt ≤ FHeader.wts l
  | [], x, h => by cases h
  | y :: r, x, h => by
    unfold FHeader.wts
    rcases List.mem_cons.1 h with rfl | h
    · omega
    · have := FHeader.wts_at r x h
      omega
def ReadHeader {H : Type} (enc : TypeId × Value → H) (w : World) (base : Nat) (spare : Nat → Bool) (held : Bool) (n : Nat) : Prop := ∀ (cs : List Value) (y : DataW H × List MemPlace), DataW.trod enc Tryz.prog w base spare held n 192 cs = some y → ∃ x : FHeader, RdVs w w.heap.size x.c cs ∧ x.ok
theorem read_Header_of {H : Type} {enc : TypeId × Value → H} {w : World} {base : Nat} {spare : Nat → Bool} {held : Bool} (n : Nat) : ReadHeader enc w base spare held n := by
  intro cs y h
  obtain ⟨hl, n1, rfl, hf⟩ := struct_span (by kernel_rfl) h
  have hC : Tryz.prog.cellsOf 192 = 2 := by kernel_rfl
  rw [hC] at hl
  obtain ⟨y0, t0⟩ := hf 0 9 0 1 (by kernel_rfl)
  obtain ⟨z0, e0, _, k0⟩ := DataW.trod_string Tryz.underlying9 t0
  obtain ⟨y1, t1⟩ := hf 1 9 1 1 (by kernel_rfl)
  obtain ⟨z1, e1, _, k1⟩ := DataW.trod_string Tryz.underlying9 t1
  have hcs := cut_all hl
  have q0 := cut_step 0 1 1 (us := cs)
  refine ⟨⟨z0, z1⟩, ?_, ?_⟩
  · rw [FHeader.c_eq, hcs]
    rw [show (cs.drop 0).take 2 = (cs.drop 0).take 1 ++ (cs.drop 1).take 1 from q0]
    rw [e0]
    rw [e1]
    exact (RdVs.cons (by unfold RdC; rfl) (RdVs.cons (by unfold RdC; rfl) (RdVs.nil _ _)))
  · rw [FHeader.ok_eq]
    have j0 := k0
    unfold maxLen at j0
    have j1 := k1
    unfold maxLen at j1
    exact ⟨j0, j1⟩
theorem read_Header {H : Type} {enc : TypeId × Value → H} {w : World} {base : Nat} {spare : Nat → Bool} {held : Bool} (n : Nat) : ReadHeader enc w base spare held n := read_Header_of n
/-! ### Buffer -/
structure FBuffer where
  a0 : Int
  a1 : ByteArray
def FBuffer.c : FBuffer → List Cel
  | ⟨a0, a1⟩ => [.v (.int .i64 a0), .v (.string a1)]
def FBuffer.wt : FBuffer → Nat
  | ⟨a0, a1⟩ => a1.size
def FBuffer.ok : FBuffer → Prop
  | ⟨a0, a1⟩ => a1.size ≤ 9223372036854775807
def FBuffer.wts : List FBuffer → Nat
  | [] => 0
  | x :: r => x.wt + FBuffer.wts r
def FBuffer.oks : List FBuffer → Prop
  | [] => True
  | x :: r => x.ok ∧ FBuffer.oks r
abbrev FBuffer.flat (l : List FBuffer) : List Cel := l.flatMap FBuffer.c
theorem FBuffer.c_eq (z0 : Int) (z1 : ByteArray) : FBuffer.c ⟨z0, z1⟩ = [.v (.int .i64 z0), .v (.string z1)] := by simp [FBuffer.c]
theorem FBuffer.len (x : FBuffer) : x.c.length = 2 := by
  obtain ⟨z0, z1⟩ := x
  rw [FBuffer.c_eq]
  rfl
theorem FBuffer.wt_eq (z0 : Int) (z1 : ByteArray) : FBuffer.wt ⟨z0, z1⟩ = z1.size := by simp [FBuffer.wt]
theorem FBuffer.ok_eq (z0 : Int) (z1 : ByteArray) : FBuffer.ok ⟨z0, z1⟩ ↔ (z1.size ≤ 9223372036854775807) := by simp [FBuffer.ok]
theorem FBuffer.oks_mem : ∀ l : List FBuffer, FBuffer.oks l → ∀ x, x ∈ l → x.ok
  | [], _, x, hx => by cases hx
  | y :: r, h, x, hx => by
    unfold FBuffer.oks at h
    rcases List.mem_cons.1 hx with rfl | hx
    · exact h.1
    · exact FBuffer.oks_mem r h.2 x hx
theorem FBuffer.oks_of : ∀ l : List FBuffer, (∀ x, x ∈ l → x.ok) → FBuffer.oks l
  | [], _ => by unfold FBuffer.oks; trivial
  | y :: r, h => by
    unfold FBuffer.oks
    exact ⟨h y (by simp), FBuffer.oks_of r fun x hx => h x (by simp [hx])⟩
theorem FBuffer.wts_take : ∀ (l : List FBuffer) (k : Nat) (x : FBuffer), l[k]? = some x → FBuffer.wts (l.take (k + 1)) = FBuffer.wts (l.take k) + x.wt
  | [], k, x, h => by simp at h
  | y :: r, 0, x, h => by
    obtain rfl : y = x := by simpa using h
    simp [FBuffer.wts]
  | y :: r, k + 1, x, h => by
    rw [List.take_succ_cons, List.take_succ_cons, FBuffer.wts, FBuffer.wts, FBuffer.wts_take r k x (by simpa using h)]
    omega
theorem FBuffer.wts_le : ∀ (l : List FBuffer) (k : Nat), FBuffer.wts (l.take k) ≤ FBuffer.wts l
  | [], k => by simp
  | y :: r, 0 => by simp [FBuffer.wts]
  | y :: r, k + 1 => by
    rw [List.take_succ_cons, FBuffer.wts, FBuffer.wts]
    have := FBuffer.wts_le r k
    omega
theorem FBuffer.wts_at : ∀ (l : List FBuffer) (x : FBuffer), x ∈ l → x.wt ≤ FBuffer.wts l
  | [], x, h => by cases h
  | y :: r, x, h => by
    unfold FBuffer.wts
    rcases List.mem_cons.1 h with rfl | h
    · omega
    · have := FBuffer.wts_at r x h
      omega
def ReadBuffer {H : Type} (enc : TypeId × Value → H) (w : World) (base : Nat) (spare : Nat → Bool) (held : Bool) (n : Nat) : Prop := ∀ (cs : List Value) (y : DataW H × List MemPlace), DataW.trod enc Tryz.prog w base spare held n 195 cs = some y → ∃ x : FBuffer, RdVs w w.heap.size x.c cs ∧ x.ok
theorem read_Buffer_of {H : Type} {enc : TypeId × Value → H} {w : World} {base : Nat} {spare : Nat → Bool} {held : Bool} (n : Nat) : ReadBuffer enc w base spare held n := by
  intro cs y h
  obtain ⟨hl, n1, rfl, hf⟩ := struct_span (by kernel_rfl) h
  have hC : Tryz.prog.cellsOf 195 = 2 := by kernel_rfl
  rw [hC] at hl
  obtain ⟨y0, t0⟩ := hf 0 3 0 1 (by kernel_rfl)
  obtain ⟨z0, e0, _, g0⟩ := DataW.trod_int Tryz.underlying3 t0
  obtain ⟨y1, t1⟩ := hf 1 9 1 1 (by kernel_rfl)
  obtain ⟨z1, e1, _, k1⟩ := DataW.trod_string Tryz.underlying9 t1
  have hcs := cut_all hl
  have q0 := cut_step 0 1 1 (us := cs)
  refine ⟨⟨z0, z1⟩, ?_, ?_⟩
  · rw [FBuffer.c_eq, hcs]
    rw [show (cs.drop 0).take 2 = (cs.drop 0).take 1 ++ (cs.drop 1).take 1 from q0]
    rw [e0]
    rw [e1]
    exact (RdVs.cons (by unfold RdC; rfl) (RdVs.cons (by unfold RdC; rfl) (RdVs.nil _ _)))
  · rw [FBuffer.ok_eq]
    have j1 := k1
    unfold maxLen at j1
    exact j1
theorem read_Buffer {H : Type} {enc : TypeId × Value → H} {w : World} {base : Nat} {spare : Nat → Bool} {held : Bool} (n : Nat) : ReadBuffer enc w base spare held n := read_Buffer_of n
/-! ### Output -/
structure FOutput where
  a0 : ByteArray
  a1 : List FHeader
  a2 : List FBuffer
def FOutput.c : FOutput → List Cel
  | ⟨a0, a1, a2⟩ => [.v (.string a0), .s 208 2 a1.length (FHeader.flat a1), .s 210 2 a2.length (FBuffer.flat a2)]
def FOutput.wt : FOutput → Nat
  | ⟨a0, a1, a2⟩ => a0.size + (a1.length + FHeader.wts a1) + (a2.length + FBuffer.wts a2)
def FOutput.ok : FOutput → Prop
  | ⟨a0, a1, a2⟩ => a0.size ≤ 9223372036854775807 ∧ FHeader.oks a1 ∧ FBuffer.oks a2
theorem FOutput.c_eq (z0 : ByteArray) (z1 : List FHeader) (z2 : List FBuffer) : FOutput.c ⟨z0, z1, z2⟩ = [.v (.string z0), .s 208 2 z1.length (FHeader.flat z1), .s 210 2 z2.length (FBuffer.flat z2)] := by simp [FOutput.c]
theorem FOutput.wt_eq (z0 : ByteArray) (z1 : List FHeader) (z2 : List FBuffer) : FOutput.wt ⟨z0, z1, z2⟩ = z0.size + (z1.length + FHeader.wts z1) + (z2.length + FBuffer.wts z2) := by simp [FOutput.wt, Nat.add_assoc]
theorem FOutput.ok_eq (z0 : ByteArray) (z1 : List FHeader) (z2 : List FBuffer) : FOutput.ok ⟨z0, z1, z2⟩ ↔ (z0.size ≤ 9223372036854775807 ∧ FHeader.oks z1 ∧ FBuffer.oks z2) := by simp [FOutput.ok, and_assoc]
def ReadOutput {H : Type} (enc : TypeId × Value → H) (w : World) (base : Nat) (spare : Nat → Bool) (held : Bool) (n : Nat) : Prop := ∀ (cs : List Value) (y : DataW H × List MemPlace), DataW.trod enc Tryz.prog w base spare held n 34 cs = some y → ∃ x : FOutput, RdVs w w.heap.size x.c cs ∧ x.ok
theorem read_Output_of {H : Type} {enc : TypeId × Value → H} {w : World} {base : Nat} {spare : Nat → Bool} {held : Bool} (n : Nat) : ReadOutput enc w base spare held n := by
  intro cs y h
  obtain ⟨hl, n1, rfl, hf⟩ := struct_span (by kernel_rfl) h
  have hC : Tryz.prog.cellsOf 34 = 3 := by kernel_rfl
  rw [hC] at hl
  obtain ⟨y0, t0⟩ := hf 0 9 0 1 (by kernel_rfl)
  obtain ⟨z0, e0, _, k0⟩ := DataW.trod_string Tryz.underlying9 t0
  obtain ⟨y1, t1⟩ := hf 1 31 1 1 (by kernel_rfl)
  obtain ⟨v1, z1, e1, r1, k1⟩ := open_deep (ok := FHeader.ok) 208 FHeader.len (by omega) Tryz.underlying31 (by kernel_rfl) (fun m cs1 y1 hm h1 => read_Header m cs1 y1 h1) t1
  obtain ⟨y2, t2⟩ := hf 2 32 2 1 (by kernel_rfl)
  obtain ⟨v2, z2, e2, r2, k2⟩ := open_deep (ok := FBuffer.ok) 210 FBuffer.len (by omega) Tryz.underlying32 (by kernel_rfl) (fun m cs1 y1 hm h1 => read_Buffer m cs1 y1 h1) t2
  have hcs := cut_all hl
  have q0 := cut_step 0 1 2 (us := cs)
  have q1 := cut_step 1 1 1 (us := cs)
  refine ⟨⟨z0, z1, z2⟩, ?_, ?_⟩
  · rw [FOutput.c_eq, hcs]
    rw [show (cs.drop 0).take 3 = (cs.drop 0).take 1 ++ (cs.drop 1).take 2 from q0]
    rw [show (cs.drop 1).take 2 = (cs.drop 1).take 1 ++ (cs.drop 2).take 1 from q1]
    rw [e0]
    rw [e1]
    rw [e2]
    exact (RdVs.cons (by unfold RdC; rfl) (RdVs.cons r1 (RdVs.cons r2 (RdVs.nil _ _))))
  · rw [FOutput.ok_eq]
    have j0 := k0
    unfold maxLen at j0
    exact ⟨j0, FHeader.oks_of _ k1, FBuffer.oks_of _ k2⟩
theorem read_Output {H : Type} {enc : TypeId × Value → H} {w : World} {base : Nat} {spare : Nat → Bool} {held : Bool} (n : Nat) : ReadOutput enc w base spare held n := read_Output_of n
/-! ### Machine -/
structure FMachine where
  a0 : Int
  a1 : ByteArray
  a2 : Int
  a3 : Int
  a4 : List FValue
  a5 : List FPlace
  a6 : FHeap
  a7 : List FObject
  a8 : List FClosure
  a9 : List FGen
  a10 : List FFrame
  a11 : FOutput
def FMachine.c : FMachine → List Cel
  | ⟨a0, a1, a2, a3, a4, a5, a6, a7, a8, a9, a10, a11⟩ => [.v (.int .i64 a0), .v (.string a1), .v (.int .i64 a2), .v (.int .i64 a3), .s 82 5 a4.length (FValue.flat a4), .s 140 2 a5.length (FPlace.flat a5)] ++ FHeap.c a6 ++ [.s 79 3 a7.length (FObject.flat a7), .s 144 5 a8.length (FClosure.flat a8), .s 93 19 a9.length (FGen.flat a9), .s 91 13 a10.length (FFrame.flat a10)] ++ FOutput.c a11
def FMachine.wt : FMachine → Nat
  | ⟨a0, a1, a2, a3, a4, a5, a6, a7, a8, a9, a10, a11⟩ => a1.size + (a4.length + FValue.wts a4) + (a5.length + FPlace.wts a5) + FHeap.wt a6 + (a7.length + FObject.wts a7) + (a8.length + FClosure.wts a8) + (a9.length + FGen.wts a9) + (a10.length + FFrame.wts a10) + FOutput.wt a11
def FMachine.ok : FMachine → Prop
  | ⟨a0, a1, a2, a3, a4, a5, a6, a7, a8, a9, a10, a11⟩ => a1.size ≤ 9223372036854775807 ∧ FValue.oks a4 ∧ FPlace.oks a5 ∧ FHeap.ok a6 ∧ FObject.oks a7 ∧ FClosure.oks a8 ∧ FGen.oks a9 ∧ FFrame.oks a10 ∧ FOutput.ok a11
theorem FMachine.c_eq (z0 : Int) (z1 : ByteArray) (z2 : Int) (z3 : Int) (z4 : List FValue) (z5 : List FPlace) (z6 : List FBlock) (z7 : List FObject) (z8 : List FClosure) (z9 : List FGen) (z10 : List FFrame) (z11 : ByteArray) (z12 : List FHeader) (z13 : List FBuffer) : FMachine.c ⟨z0, z1, z2, z3, z4, z5, ⟨z6⟩, z7, z8, z9, z10, ⟨z11, z12, z13⟩⟩ = [.v (.int .i64 z0), .v (.string z1), .v (.int .i64 z2), .v (.int .i64 z3), .s 82 5 z4.length (FValue.flat z4), .s 140 2 z5.length (FPlace.flat z5), .s 201 6 z6.length (FBlock.flat z6), .s 79 3 z7.length (FObject.flat z7), .s 144 5 z8.length (FClosure.flat z8), .s 93 19 z9.length (FGen.flat z9), .s 91 13 z10.length (FFrame.flat z10), .v (.string z11), .s 208 2 z12.length (FHeader.flat z12), .s 210 2 z13.length (FBuffer.flat z13)] := by simp [FHeap.c, FMachine.c, FOutput.c]
theorem FMachine.wt_eq (z0 : Int) (z1 : ByteArray) (z2 : Int) (z3 : Int) (z4 : List FValue) (z5 : List FPlace) (z6 : List FBlock) (z7 : List FObject) (z8 : List FClosure) (z9 : List FGen) (z10 : List FFrame) (z11 : ByteArray) (z12 : List FHeader) (z13 : List FBuffer) : FMachine.wt ⟨z0, z1, z2, z3, z4, z5, ⟨z6⟩, z7, z8, z9, z10, ⟨z11, z12, z13⟩⟩ = z1.size + (z4.length + FValue.wts z4) + (z5.length + FPlace.wts z5) + (z6.length + FBlock.wts z6) + (z7.length + FObject.wts z7) + (z8.length + FClosure.wts z8) + (z9.length + FGen.wts z9) + (z10.length + FFrame.wts z10) + z11.size + (z12.length + FHeader.wts z12) + (z13.length + FBuffer.wts z13) := by simp [FHeap.wt, FMachine.wt, FOutput.wt, Nat.add_assoc]
theorem FMachine.ok_eq (z0 : Int) (z1 : ByteArray) (z2 : Int) (z3 : Int) (z4 : List FValue) (z5 : List FPlace) (z6 : List FBlock) (z7 : List FObject) (z8 : List FClosure) (z9 : List FGen) (z10 : List FFrame) (z11 : ByteArray) (z12 : List FHeader) (z13 : List FBuffer) : FMachine.ok ⟨z0, z1, z2, z3, z4, z5, ⟨z6⟩, z7, z8, z9, z10, ⟨z11, z12, z13⟩⟩ ↔ (z1.size ≤ 9223372036854775807 ∧ FValue.oks z4 ∧ FPlace.oks z5 ∧ FBlock.oks z6 ∧ FObject.oks z7 ∧ FClosure.oks z8 ∧ FGen.oks z9 ∧ FFrame.oks z10 ∧ z11.size ≤ 9223372036854775807 ∧ FHeader.oks z12 ∧ FBuffer.oks z13) := by simp [FHeap.ok, FMachine.ok, FOutput.ok, and_assoc]
def ReadMachine {H : Type} (enc : TypeId × Value → H) (w : World) (base : Nat) (spare : Nat → Bool) (held : Bool) (n : Nat) : Prop := ∀ (cs : List Value) (y : DataW H × List MemPlace), DataW.trod enc Tryz.prog w base spare held n 36 cs = some y → ∃ x : FMachine, RdVs w w.heap.size x.c cs ∧ x.ok
theorem read_Machine_of {H : Type} {enc : TypeId × Value → H} {w : World} {base : Nat} {spare : Nat → Bool} {held : Bool} (n : Nat) : ReadMachine enc w base spare held n := by
  intro cs y h
  obtain ⟨hl, n1, rfl, hf⟩ := struct_span (by kernel_rfl) h
  have hC : Tryz.prog.cellsOf 36 = 14 := by kernel_rfl
  rw [hC] at hl
  obtain ⟨y0, t0⟩ := hf 0 3 0 1 (by kernel_rfl)
  obtain ⟨z0, e0, _, g0⟩ := DataW.trod_int Tryz.underlying3 t0
  obtain ⟨y1, t1⟩ := hf 1 9 1 1 (by kernel_rfl)
  obtain ⟨z1, e1, _, k1⟩ := DataW.trod_string Tryz.underlying9 t1
  obtain ⟨y2, t2⟩ := hf 2 3 2 1 (by kernel_rfl)
  obtain ⟨z2, e2, _, g2⟩ := DataW.trod_int Tryz.underlying3 t2
  obtain ⟨y3, t3⟩ := hf 3 3 3 1 (by kernel_rfl)
  obtain ⟨z3, e3, _, g3⟩ := DataW.trod_int Tryz.underlying3 t3
  obtain ⟨y4, t4⟩ := hf 4 22 4 1 (by kernel_rfl)
  obtain ⟨v4, z4, e4, r4, k4⟩ := open_deep (ok := FValue.ok) 82 FValue.len (by omega) Tryz.underlying22 (by kernel_rfl) (fun m cs1 y1 hm h1 => read_Value m cs1 y1 h1) t4
  obtain ⟨y5, t5⟩ := hf 5 23 5 1 (by kernel_rfl)
  obtain ⟨v5, z5, e5, r5, k5⟩ := open_deep (ok := FPlace.ok) 140 FPlace.len (by omega) Tryz.underlying23 (by kernel_rfl) (fun m cs1 y1 hm h1 => read_Place m cs1 y1 h1) t5
  obtain ⟨y6, t6⟩ := hf 6 26 6 1 (by kernel_rfl)
  obtain ⟨x6, r6, k6⟩ := read_Heap n1 _ _ t6
  obtain ⟨z6⟩ := x6
  rw [FHeap.c_eq] at r6
  rw [FHeap.ok_eq] at k6
  obtain ⟨y7, t7⟩ := hf 7 27 7 1 (by kernel_rfl)
  obtain ⟨v7, z7, e7, r7, k7⟩ := open_deep (ok := FObject.ok) 79 FObject.len (by omega) Tryz.underlying27 (by kernel_rfl) (fun m cs1 y1 hm h1 => read_Object m cs1 y1 h1) t7
  obtain ⟨y8, t8⟩ := hf 8 28 8 1 (by kernel_rfl)
  obtain ⟨v8, z8, e8, r8, k8⟩ := open_deep (ok := FClosure.ok) 144 FClosure.len (by omega) Tryz.underlying28 (by kernel_rfl) (fun m cs1 y1 hm h1 => read_Closure m cs1 y1 h1) t8
  obtain ⟨y9, t9⟩ := hf 9 29 9 1 (by kernel_rfl)
  obtain ⟨v9, z9, e9, r9, k9⟩ := open_deep (ok := FGen.ok) 93 FGen.len (by omega) Tryz.underlying29 (by kernel_rfl) (fun m cs1 y1 hm h1 => read_Gen m cs1 y1 h1) t9
  obtain ⟨y10, t10⟩ := hf 10 30 10 1 (by kernel_rfl)
  obtain ⟨v10, z10, e10, r10, k10⟩ := open_deep (ok := FFrame.ok) 91 FFrame.len (by omega) Tryz.underlying30 (by kernel_rfl) (fun m cs1 y1 hm h1 => read_Frame m cs1 y1 h1) t10
  obtain ⟨y11, t11⟩ := hf 11 34 11 3 (by kernel_rfl)
  obtain ⟨x11, r11, k11⟩ := read_Output n1 _ _ t11
  obtain ⟨z11, z12, z13⟩ := x11
  rw [FOutput.c_eq] at r11
  rw [FOutput.ok_eq] at k11
  have hcs := cut_all hl
  have q0 := cut_step 0 1 13 (us := cs)
  have q1 := cut_step 1 1 12 (us := cs)
  have q2 := cut_step 2 1 11 (us := cs)
  have q3 := cut_step 3 1 10 (us := cs)
  have q4 := cut_step 4 1 9 (us := cs)
  have q5 := cut_step 5 1 8 (us := cs)
  have q6 := cut_step 6 1 7 (us := cs)
  have q7 := cut_step 7 1 6 (us := cs)
  have q8 := cut_step 8 1 5 (us := cs)
  have q9 := cut_step 9 1 4 (us := cs)
  have q10 := cut_step 10 1 3 (us := cs)
  refine ⟨⟨z0, z1, z2, z3, z4, z5, ⟨z6⟩, z7, z8, z9, z10, ⟨z11, z12, z13⟩⟩, ?_, ?_⟩
  · rw [FMachine.c_eq, hcs]
    rw [show (cs.drop 0).take 14 = (cs.drop 0).take 1 ++ (cs.drop 1).take 13 from q0]
    rw [show (cs.drop 1).take 13 = (cs.drop 1).take 1 ++ (cs.drop 2).take 12 from q1]
    rw [show (cs.drop 2).take 12 = (cs.drop 2).take 1 ++ (cs.drop 3).take 11 from q2]
    rw [show (cs.drop 3).take 11 = (cs.drop 3).take 1 ++ (cs.drop 4).take 10 from q3]
    rw [show (cs.drop 4).take 10 = (cs.drop 4).take 1 ++ (cs.drop 5).take 9 from q4]
    rw [show (cs.drop 5).take 9 = (cs.drop 5).take 1 ++ (cs.drop 6).take 8 from q5]
    rw [show (cs.drop 6).take 8 = (cs.drop 6).take 1 ++ (cs.drop 7).take 7 from q6]
    rw [show (cs.drop 7).take 7 = (cs.drop 7).take 1 ++ (cs.drop 8).take 6 from q7]
    rw [show (cs.drop 8).take 6 = (cs.drop 8).take 1 ++ (cs.drop 9).take 5 from q8]
    rw [show (cs.drop 9).take 5 = (cs.drop 9).take 1 ++ (cs.drop 10).take 4 from q9]
    rw [show (cs.drop 10).take 4 = (cs.drop 10).take 1 ++ (cs.drop 11).take 3 from q10]
    rw [e0]
    rw [e1]
    rw [e2]
    rw [e3]
    rw [e4]
    rw [e5]
    rw [e7]
    rw [e8]
    rw [e9]
    rw [e10]
    exact (RdVs.cons (by unfold RdC; rfl) (RdVs.cons (by unfold RdC; rfl) (RdVs.cons (by unfold RdC; rfl) (RdVs.cons (by unfold RdC; rfl) (RdVs.cons r4 (RdVs.cons r5 (RdVs.app r6 (RdVs.cons r7 (RdVs.cons r8 (RdVs.cons r9 (RdVs.cons r10 r11)))))))))))
  · rw [FMachine.ok_eq]
    have j1 := k1
    unfold maxLen at j1
    exact ⟨j1, FValue.oks_of _ k4, FPlace.oks_of _ k5, k6, FObject.oks_of _ k7, FClosure.oks_of _ k8, FGen.oks_of _ k9, FFrame.oks_of _ k10, k11.1, k11.2.1, k11.2.2⟩
theorem read_Machine {H : Type} {enc : TypeId × Value → H} {w : World} {base : Nat} {spare : Nat → Bool} {held : Bool} (n : Nat) : ReadMachine enc w base spare held n := read_Machine_of n
end Go.Proofs.YtahgcojmpafefaaGreat
