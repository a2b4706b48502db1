/-
  The data of the types string, int, Ins, Param, Func: their cells, their sizes, and how the arguments of the laws read. Conditions: none.
-/
import Derived.Test.YtiggmjiodbbceaaDoorDeep
namespace Go.Proofs.YtiggmjiodbbceaaDoor
open Go.ChangeShapes Go.WideShapes Go.ChangeAt Go.RowKit Go.Deep Go.Joins
open Go.ChangeMaps (open_string shut_string)
set_option linter.unusedVariables false
set_option linter.unusedSimpArgs false
set_option maxRecDepth 100000
/-! ### string -/
structure FStr where
  a0 : ByteArray
def FStr.c : FStr → List Cel
  | ⟨a0⟩ => [.v (.string a0)]
def FStr.wt : FStr → Nat
  | ⟨a0⟩ => a0.size
def FStr.ok : FStr → Prop
  | ⟨a0⟩ => a0.size ≤ 9223372036854775807
def FStr.wts : List FStr → Nat
  | [] => 0
  | x :: r => x.wt + FStr.wts r
def FStr.oks : List FStr → Prop
  | [] => True
  | x :: r => x.ok ∧ FStr.oks r
abbrev FStr.flat (l : List FStr) : List Cel := l.flatMap FStr.c
theorem FStr.c_eq (z0 : ByteArray) : FStr.c ⟨z0⟩ = [.v (.string z0)] := by simp [FStr.c]
theorem FStr.len (x : FStr) : x.c.length = 1 := by
  obtain ⟨z0⟩ := x
  rw [FStr.c_eq]
  rfl
theorem FStr.wt_eq (z0 : ByteArray) : FStr.wt ⟨z0⟩ = z0.size := by simp [FStr.wt]
theorem FStr.ok_eq (z0 : ByteArray) : FStr.ok ⟨z0⟩ ↔ (z0.size ≤ 9223372036854775807) := by simp [FStr.ok]
theorem FStr.oks_mem : ∀ l : List FStr, FStr.oks l → ∀ x, x ∈ l → x.ok
  | [], _, x, hx => by cases hx
  | y :: r, h, x, hx => by
    unfold FStr.oks at h
    rcases List.mem_cons.1 hx with rfl | hx
    · exact h.1
    · exact FStr.oks_mem r h.2 x hx
theorem FStr.oks_of : ∀ l : List FStr, (∀ x, x ∈ l → x.ok) → FStr.oks l
  | [], _ => by unfold FStr.oks; trivial
  | y :: r, h => by
    unfold FStr.oks
    exact ⟨h y (by simp), FStr.oks_of r fun x hx => h x (by simp [hx])⟩
theorem FStr.wts_take : ∀ (l : List FStr) (k : Nat) (x : FStr), l[k]? = some x → FStr.wts (l.take (k + 1)) = FStr.wts (l.take k) + x.wt
  | [], k, x, h => by simp at h
  | y :: r, 0, x, h => by
    obtain rfl : y = x := by simpa using h
    simp [FStr.wts]
  | y :: r, k + 1, x, h => by
    rw [List.take_succ_cons, List.take_succ_cons, FStr.wts, FStr.wts, FStr.wts_take r k x (by simpa using h)]
    omega
theorem FStr.wts_le : ∀ (l : List FStr) (k : Nat), FStr.wts (l.take k) ≤ FStr.wts l
  | [], k => by simp
  | y :: r, 0 => by simp [FStr.wts]
  | y :: r, k + 1 => by
    rw [List.take_succ_cons, FStr.wts, FStr.wts]
    have := FStr.wts_le r k
    omega
theorem FStr.wts_at : ∀ (l : List FStr) (x : FStr), x ∈ l → x.wt ≤ FStr.wts l
  | [], x, h => by cases h
  | y :: r, x, h => by
    unfold FStr.wts
    rcases List.mem_cons.1 h with rfl | h
    · omega
    · have := FStr.wts_at r x h
      omega
/-! ### int -/
structure FInt where
  a0 : Int
def FInt.c : FInt → List Cel
  | ⟨a0⟩ => [.v (.int .i64 a0)]
def FInt.wt : FInt → Nat
  | ⟨a0⟩ => 0
def FInt.ok : FInt → Prop
  | ⟨a0⟩ => True
def FInt.wts : List FInt → Nat
  | [] => 0
  | x :: r => x.wt + FInt.wts r
def FInt.oks : List FInt → Prop
  | [] => True
  | x :: r => x.ok ∧ FInt.oks r
abbrev FInt.flat (l : List FInt) : List Cel := l.flatMap FInt.c
theorem FInt.c_eq (z0 : Int) : FInt.c ⟨z0⟩ = [.v (.int .i64 z0)] := by simp [FInt.c]
theorem FInt.len (x : FInt) : x.c.length = 1 := by
  obtain ⟨z0⟩ := x
  rw [FInt.c_eq]
  rfl
theorem FInt.wt_eq (z0 : Int) : FInt.wt ⟨z0⟩ = 0 := by simp [FInt.wt]
theorem FInt.ok_eq (z0 : Int) : FInt.ok ⟨z0⟩ ↔ (True) := by simp [FInt.ok]
theorem FInt.oks_mem : ∀ l : List FInt, FInt.oks l → ∀ x, x ∈ l → x.ok
  | [], _, x, hx => by cases hx
  | y :: r, h, x, hx => by
    unfold FInt.oks at h
    rcases List.mem_cons.1 hx with rfl | hx
    · exact h.1
    · exact FInt.oks_mem r h.2 x hx
theorem FInt.oks_of : ∀ l : List FInt, (∀ x, x ∈ l → x.ok) → FInt.oks l
  | [], _ => by unfold FInt.oks; trivial
  | y :: r, h => by
    unfold FInt.oks
    exact ⟨h y (by simp), FInt.oks_of r fun x hx => h x (by simp [hx])⟩
theorem FInt.wts_take : ∀ (l : List FInt) (k : Nat) (x : FInt), l[k]? = some x → FInt.wts (l.take (k + 1)) = FInt.wts (l.take k) + x.wt
  | [], k, x, h => by simp at h
  | y :: r, 0, x, h => by
    obtain rfl : y = x := by simpa using h
    simp [FInt.wts]
  | y :: r, k + 1, x, h => by
    rw [List.take_succ_cons, List.take_succ_cons, FInt.wts, FInt.wts, FInt.wts_take r k x (by simpa using h)]
    omega
theorem FInt.wts_le : ∀ (l : List FInt) (k : Nat), FInt.wts (l.take k) ≤ FInt.wts l
  | [], k => by simp
  | y :: r, 0 => by simp [FInt.wts]
  | y :: r, k + 1 => by
    rw [List.take_succ_cons, FInt.wts, FInt.wts]
    have := FInt.wts_le r k
    omega
theorem FInt.wts_at : ∀ (l : List FInt) (x : FInt), x ∈ l → x.wt ≤ FInt.wts l
  | [], x, h => by cases h
  | y :: r, x, h => by
    unfold FInt.wts
    rcases List.mem_cons.1 h with rfl | h
    · omega
    · have := FInt.wts_at r x h
      omega

theorem read_string {H : Type} {enc : TypeId × Value → H} {w : World} {base : Nat} {spare : Nat → Bool} {held : Bool} (n : Nat) (cs : List Value) (y : DataW H × List MemPlace) (h : DataW.trod enc Tryd.prog w base spare held n 9 cs = some y) : ∃ x : FStr, RdVs w w.heap.size x.c cs ∧ x.ok := by
  obtain ⟨s, rfl, _, hs⟩ := DataW.trod_string Tryd.underlying9 h
  unfold maxLen at hs
  exact ⟨⟨s⟩, RdVs.cons (by unfold RdC; rfl) (RdVs.nil _ _), hs⟩
theorem read_int {H : Type} {enc : TypeId × Value → H} {w : World} {base : Nat} {spare : Nat → Bool} {held : Bool} (n : Nat) (cs : List Value) (y : DataW H × List MemPlace) (h : DataW.trod enc Tryd.prog w base spare held n 3 cs = some y) : ∃ x : FInt, RdVs w w.heap.size x.c cs ∧ x.ok := by
  obtain ⟨s, rfl, _, _⟩ := DataW.trod_int Tryd.underlying3 h
  exact ⟨⟨s⟩, RdVs.cons (by unfold RdC; rfl) (RdVs.nil _ _), trivial⟩
theorem wf_i64 {n : Int} (h : (Lit.int .i64 n).wf = true) : -9223372036854775808 ≤ n ∧ n ≤ 9223372036854775807 := by
  unfold Lit.wf at h
  rw [Bool.and_eq_true, decide_eq_true_iff, decide_eq_true_iff] at h
  exact h
/-! ### Ins -/
structure FIns where
  a0 : Int
  a1 : Int
  a2 : Int
  a3 : ByteArray
  a4 : ByteArray
def FIns.c : FIns → List Cel
  | ⟨a0, a1, a2, a3, a4⟩ => [.v (.int .i64 a0), .v (.int .i64 a1), .v (.int .i64 a2), .v (.string a3), .v (.string a4)]
def FIns.wt : FIns → Nat
  | ⟨a0, a1, a2, a3, a4⟩ => a3.size + a4.size
def FIns.ok : FIns → Prop
  | ⟨a0, a1, a2, a3, a4⟩ => (a3.size ≤ 9223372036854775807 ∧ a4.size ≤ 9223372036854775807) ∧ (-9223372036854775808 ≤ a0 ∧ a0 ≤ 9223372036854775807 ∧ -9223372036854775808 ≤ a1 ∧ a1 ≤ 9223372036854775807 ∧ -9223372036854775808 ≤ a2 ∧ a2 ≤ 9223372036854775807)
def FIns.wts : List FIns → Nat
  | [] => 0
  | x :: r => x.wt + FIns.wts r
def FIns.oks : List FIns → Prop
  | [] => True
  | x :: r => x.ok ∧ FIns.oks r
abbrev FIns.flat (l : List FIns) : List Cel := l.flatMap FIns.c
theorem FIns.c_eq (z0 : Int) (z1 : Int) (z2 : Int) (z3 : ByteArray) (z4 : ByteArray) : FIns.c ⟨z0, z1, z2, z3, z4⟩ = [.v (.int .i64 z0), .v (.int .i64 z1), .v (.int .i64 z2), .v (.string z3), .v (.string z4)] := by simp [FIns.c]
theorem FIns.len (x : FIns) : x.c.length = 5 := by
  obtain ⟨z0, z1, z2, z3, z4⟩ := x
  rw [FIns.c_eq]
  rfl
theorem FIns.wt_eq (z0 : Int) (z1 : Int) (z2 : Int) (z3 : ByteArray) (z4 : ByteArray) : FIns.wt ⟨z0, z1, z2, z3, z4⟩ = z3.size + z4.size := by simp [FIns.wt, Nat.add_assoc]
theorem FIns.ok_eq (z0 : Int) (z1 : Int) (z2 : Int) (z3 : ByteArray) (z4 : ByteArray) : FIns.ok ⟨z0, z1, z2, z3, z4⟩ ↔ ((z3.size ≤ 9223372036854775807 ∧ z4.size ≤ 9223372036854775807) ∧ (-9223372036854775808 ≤ z0 ∧ z0 ≤ 9223372036854775807 ∧ -9223372036854775808 ≤ z1 ∧ z1 ≤ 9223372036854775807 ∧ -9223372036854775808 ≤ z2 ∧ z2 ≤ 9223372036854775807)) := Iff.rfl
theorem FIns.oks_mem : ∀ l : List FIns, FIns.oks l → ∀ x, x ∈ l → x.ok
  | [], _, x, hx => by cases hx
  | y :: r, h, x, hx => by
    unfold FIns.oks at h
    rcases List.mem_cons.1 hx with rfl | hx
    · exact h.1
    · exact FIns.oks_mem r h.2 x hx
theorem FIns.oks_of : ∀ l : List FIns, (∀ x, x ∈ l → x.ok) → FIns.oks l
  | [], _ => by unfold FIns.oks; trivial
  | y :: r, h => by
    unfold FIns.oks
    exact ⟨h y (by simp), FIns.oks_of r fun x hx => h x (by simp [hx])⟩
theorem FIns.wts_take : ∀ (l : List FIns) (k : Nat) (x : FIns), l[k]? = some x → FIns.wts (l.take (k + 1)) = FIns.wts (l.take k) + x.wt
  | [], k, x, h => by simp at h
  | y :: r, 0, x, h => by
    obtain rfl : y = x := by simpa using h
    simp [FIns.wts]
  | y :: r, k + 1, x, h => by
    rw [List.take_succ_cons, List.take_succ_cons, FIns.wts, FIns.wts, FIns.wts_take r k x (by simpa using h)]
    omega
theorem FIns.wts_le : ∀ (l : List FIns) (k : Nat), FIns.wts (l.take k) ≤ FIns.wts l
  | [], k => by simp
  | y :: r, 0 => by simp [FIns.wts]
  | y :: r, k + 1 => by
    rw [List.take_succ_cons, FIns.wts, FIns.wts]
    have := FIns.wts_le r k
    omega
theorem FIns.wts_at : ∀ (l : List FIns) (x : FIns), x ∈ l → x.wt ≤ FIns.wts l
  | [], x, h => by cases h
  | y :: r, x, h => by
    unfold FIns.wts
    rcases List.mem_cons.1 h with rfl | h
    · omega
    · have := FIns.wts_at r x h
      omega
def ReadIns {H : Type} (enc : TypeId × Value → H) (w : World) (base : Nat) (spare : Nat → Bool) (held : Bool) (n : Nat) : Prop := ∀ (cs : List Value) (y : DataW H × List MemPlace), DataW.trod enc Tryd.prog w base spare held n 25 cs = some y → ∃ x : FIns, RdVs w w.heap.size x.c cs ∧ x.ok
theorem read_Ins_of {H : Type} {enc : TypeId × Value → H} {w : World} {base : Nat} {spare : Nat → Bool} {held : Bool} (n : Nat) : ReadIns enc w base spare held n := by
  intro cs y h
  obtain ⟨hl, n1, rfl, hf⟩ := struct_span (by kernel_rfl) h
  have hC : Tryd.prog.cellsOf 25 = 5 := by kernel_rfl
  rw [hC] at hl
  obtain ⟨y0, t0⟩ := hf 0 3 0 1 (by kernel_rfl)
  obtain ⟨z0, e0, _, g0⟩ := DataW.trod_int Tryd.underlying3 t0
  obtain ⟨y1, t1⟩ := hf 1 3 1 1 (by kernel_rfl)
  obtain ⟨z1, e1, _, g1⟩ := DataW.trod_int Tryd.underlying3 t1
  obtain ⟨y2, t2⟩ := hf 2 3 2 1 (by kernel_rfl)
  obtain ⟨z2, e2, _, g2⟩ := DataW.trod_int Tryd.underlying3 t2
  obtain ⟨y3, t3⟩ := hf 3 9 3 1 (by kernel_rfl)
  obtain ⟨z3, e3, _, k3⟩ := DataW.trod_string Tryd.underlying9 t3
  obtain ⟨y4, t4⟩ := hf 4 9 4 1 (by kernel_rfl)
  obtain ⟨z4, e4, _, k4⟩ := DataW.trod_string Tryd.underlying9 t4
  have hcs := cut_all hl
  have q0 := cut_step 0 1 4 (us := cs)
  have q1 := cut_step 1 1 3 (us := cs)
  have q2 := cut_step 2 1 2 (us := cs)
  have q3 := cut_step 3 1 1 (us := cs)
  refine ⟨⟨z0, z1, z2, z3, z4⟩, ?_, ?_⟩
  · rw [FIns.c_eq, hcs]
    rw [show (cs.drop 0).take 5 = (cs.drop 0).take 1 ++ (cs.drop 1).take 4 from q0]
    rw [show (cs.drop 1).take 4 = (cs.drop 1).take 1 ++ (cs.drop 2).take 3 from q1]
    rw [show (cs.drop 2).take 3 = (cs.drop 2).take 1 ++ (cs.drop 3).take 2 from q2]
    rw [show (cs.drop 3).take 2 = (cs.drop 3).take 1 ++ (cs.drop 4).take 1 from q3]
    rw [e0]
    rw [e1]
    rw [e2]
    rw [e3]
    rw [e4]
    exact (RdVs.cons (by unfold RdC; rfl) (RdVs.cons (by unfold RdC; rfl) (RdVs.cons (by unfold RdC; rfl) (RdVs.cons (by unfold RdC; rfl) (RdVs.cons (by unfold RdC; rfl) (RdVs.nil _ _))))))
  · rw [FIns.ok_eq]
    have j3 := k3
    unfold maxLen at j3
    have j4 := k4
    unfold maxLen at j4
    exact ⟨⟨j3, j4⟩, (wf_i64 g0).1, (wf_i64 g0).2, (wf_i64 g1).1, (wf_i64 g1).2, (wf_i64 g2).1, (wf_i64 g2).2⟩
theorem read_Ins {H : Type} {enc : TypeId × Value → H} {w : World} {base : Nat} {spare : Nat → Bool} {held : Bool} (n : Nat) : ReadIns enc w base spare held n := read_Ins_of n
/-! ### Param -/
structure FParam where
  a0 : ByteArray
  a1 : Bool
def FParam.c : FParam → List Cel
  | ⟨a0, a1⟩ => [.v (.string a0), .v (.bool a1)]
def FParam.wt : FParam → Nat
  | ⟨a0, a1⟩ => a0.size
def FParam.ok : FParam → Prop
  | ⟨a0, a1⟩ => a0.size ≤ 9223372036854775807
def FParam.wts : List FParam → Nat
  | [] => 0
  | x :: r => x.wt + FParam.wts r
def FParam.oks : List FParam → Prop
  | [] => True
  | x :: r => x.ok ∧ FParam.oks r
abbrev FParam.flat (l : List FParam) : List Cel := l.flatMap FParam.c
theorem FParam.c_eq (z0 : ByteArray) (z1 : Bool) : FParam.c ⟨z0, z1⟩ = [.v (.string z0), .v (.bool z1)] := by simp [FParam.c]
theorem FParam.len (x : FParam) : x.c.length = 2 := by
  obtain ⟨z0, z1⟩ := x
  rw [FParam.c_eq]
  rfl
theorem FParam.wt_eq (z0 : ByteArray) (z1 : Bool) : FParam.wt ⟨z0, z1⟩ = z0.size := by simp [FParam.wt]
theorem FParam.ok_eq (z0 : ByteArray) (z1 : Bool) : FParam.ok ⟨z0, z1⟩ ↔ (z0.size ≤ 9223372036854775807) := by simp [FParam.ok]
theorem FParam.oks_mem : ∀ l : List FParam, FParam.oks l → ∀ x, x ∈ l → x.ok
  | [], _, x, hx => by cases hx
  | y :: r, h, x, hx => by
    unfold FParam.oks at h
    rcases List.mem_cons.1 hx with rfl | hx
    · exact h.1
    · exact FParam.oks_mem r h.2 x hx
theorem FParam.oks_of : ∀ l : List FParam, (∀ x, x ∈ l → x.ok) → FParam.oks l
  | [], _ => by unfold FParam.oks; trivial
  | y :: r, h => by
    unfold FParam.oks
    exact ⟨h y (by simp), FParam.oks_of r fun x hx => h x (by simp [hx])⟩
theorem FParam.wts_take : ∀ (l : List FParam) (k : Nat) (x : FParam), l[k]? = some x → FParam.wts (l.take (k + 1)) = FParam.wts (l.take k) + x.wt
  | [], k, x, h => by simp at h
  | y :: r, 0, x, h => by
    obtain rfl : y = x := by simpa using h
    simp [FParam.wts]
  | y :: r, k + 1, x, h => by
    rw [List.take_succ_cons, List.take_succ_cons, FParam.wts, FParam.wts, FParam.wts_take r k x (by simpa using h)]
    omega
theorem FParam.wts_le : ∀ (l : List FParam) (k : Nat), FParam.wts (l.take k) ≤ FParam.wts l
  | [], k => by simp
  | y :: r, 0 => by simp [FParam.wts]
  | y :: r, k + 1 => by
    rw [List.take_succ_cons, FParam.wts, FParam.wts]
    have := FParam.wts_le r k
    omega
theorem FParam.wts_at : ∀ (l : List FParam) (x : FParam), x ∈ l → x.wt ≤ FParam.wts l
  | [], x, h => by cases h
  | y :: r, x, h => by
    unfold FParam.wts
    rcases List.mem_cons.1 h with rfl | h
    · omega
    · have := FParam.wts_at r x h
      omega
def ReadParam {H : Type} (enc : TypeId × Value → H) (w : World) (base : Nat) (spare : Nat → Bool) (held : Bool) (n : Nat) : Prop := ∀ (cs : List Value) (y : DataW H × List MemPlace), DataW.trod enc Tryd.prog w base spare held n 89 cs = some y → ∃ x : FParam, RdVs w w.heap.size x.c cs ∧ x.ok
theorem read_Param_of {H : Type} {enc : TypeId × Value → H} {w : World} {base : Nat} {spare : Nat → Bool} {held : Bool} (n : Nat) : ReadParam enc w base spare held n := by
  intro cs y h
  obtain ⟨hl, n1, rfl, hf⟩ := struct_span (by kernel_rfl) h
  have hC : Tryd.prog.cellsOf 89 = 2 := by kernel_rfl
  rw [hC] at hl
  obtain ⟨y0, t0⟩ := hf 0 9 0 1 (by kernel_rfl)
  obtain ⟨z0, e0, _, k0⟩ := DataW.trod_string Tryd.underlying9 t0
  obtain ⟨y1, t1⟩ := hf 1 4 1 1 (by kernel_rfl)
  obtain ⟨z1, e1, _⟩ := DataW.trod_bool Tryd.underlying4 t1
  have hcs := cut_all hl
  have q0 := cut_step 0 1 1 (us := cs)
  refine ⟨⟨z0, z1⟩, ?_, ?_⟩
  · rw [FParam.c_eq, hcs]
    rw [show (cs.drop 0).take 2 = (cs.drop 0).take 1 ++ (cs.drop 1).take 1 from q0]
    rw [e0]
    rw [e1]
    exact (RdVs.cons (by unfold RdC; rfl) (RdVs.cons (by unfold RdC; rfl) (RdVs.nil _ _)))
  · rw [FParam.ok_eq]
    have j0 := k0
    unfold maxLen at j0
    exact j0
theorem read_Param {H : Type} {enc : TypeId × Value → H} {w : World} {base : Nat} {spare : Nat → Bool} {held : Bool} (n : Nat) : ReadParam enc w base spare held n := read_Param_of n
/-! ### Func -/
structure FFunc where
  a0 : ByteArray
  a1 : List FParam
  a2 : List FParam
  a3 : List FStr
  a4 : Bool
  a5 : List FIns
def FFunc.c : FFunc → List Cel
  | ⟨a0, a1, a2, a3, a4, a5⟩ => [.v (.string a0), .s 90 2 a1.length (FParam.flat a1), .s 90 2 a2.length (FParam.flat a2), .s 9 1 a3.length (FStr.flat a3), .v (.bool a4), .s 28 5 a5.length (FIns.flat a5)]
def FFunc.wt : FFunc → Nat
  | ⟨a0, a1, a2, a3, a4, a5⟩ => a0.size + (a1.length + FParam.wts a1) + (a2.length + FParam.wts a2) + (a3.length + FStr.wts a3) + (a5.length + FIns.wts a5)
def FFunc.ok : FFunc → Prop
  | ⟨a0, a1, a2, a3, a4, a5⟩ => a0.size ≤ 9223372036854775807 ∧ FParam.oks a1 ∧ FParam.oks a2 ∧ FStr.oks a3 ∧ FIns.oks a5
def FFunc.wts : List FFunc → Nat
  | [] => 0
  | x :: r => x.wt + FFunc.wts r
def FFunc.oks : List FFunc → Prop
  | [] => True
  | x :: r => x.ok ∧ FFunc.oks r
abbrev FFunc.flat (l : List FFunc) : List Cel := l.flatMap FFunc.c
theorem FFunc.c_eq (z0 : ByteArray) (z1 : List FParam) (z2 : List FParam) (z3 : List FStr) (z4 : Bool) (z5 : List FIns) : FFunc.c ⟨z0, z1, z2, z3, z4, z5⟩ = [.v (.string z0), .s 90 2 z1.length (FParam.flat z1), .s 90 2 z2.length (FParam.flat z2), .s 9 1 z3.length (FStr.flat z3), .v (.bool z4), .s 28 5 z5.length (FIns.flat z5)] := by simp [FFunc.c]
theorem FFunc.len (x : FFunc) : x.c.length = 6 := by
  obtain ⟨z0, z1, z2, z3, z4, z5⟩ := x
  rw [FFunc.c_eq]
  rfl
theorem FFunc.wt_eq (z0 : ByteArray) (z1 : List FParam) (z2 : List FParam) (z3 : List FStr) (z4 : Bool) (z5 : List FIns) : FFunc.wt ⟨z0, z1, z2, z3, z4, z5⟩ = z0.size + (z1.length + FParam.wts z1) + (z2.length + FParam.wts z2) + (z3.length + FStr.wts z3) + (z5.length + FIns.wts z5) := by simp [FFunc.wt, Nat.add_assoc]
theorem FFunc.ok_eq (z0 : ByteArray) (z1 : List FParam) (z2 : List FParam) (z3 : List FStr) (z4 : Bool) (z5 : List FIns) : FFunc.ok ⟨z0, z1, z2, z3, z4, z5⟩ ↔ (z0.size ≤ 9223372036854775807 ∧ FParam.oks z1 ∧ FParam.oks z2 ∧ FStr.oks z3 ∧ FIns.oks z5) := by simp [FFunc.ok, and_assoc]
theorem FFunc.oks_mem : ∀ l : List FFunc, FFunc.oks l → ∀ x, x ∈ l → x.ok
  | [], _, x, hx => by cases hx
  | y :: r, h, x, hx => by
    unfold FFunc.oks at h
    rcases List.mem_cons.1 hx with rfl | hx
    · exact h.1
    · exact FFunc.oks_mem r h.2 x hx
theorem FFunc.oks_of : ∀ l : List FFunc, (∀ x, x ∈ l → x.ok) → FFunc.oks l
  | [], _ => by unfold FFunc.oks; trivial
  | y :: r, h => by
    unfold FFunc.oks
    exact ⟨h y (by simp), FFunc.oks_of r fun x hx => h x (by simp [hx])⟩
theorem FFunc.wts_take : ∀ (l : List FFunc) (k : Nat) (x : FFunc), l[k]? = some x → FFunc.wts (l.take (k + 1)) = FFunc.wts (l.take k) + x.wt
  | [], k, x, h => by simp at h
  | y :: r, 0, x, h => by
    obtain rfl : y = x := by simpa using h
    simp [FFunc.wts]
  | y :: r, k + 1, x, h => by
    rw [List.take_succ_cons, List.take_succ_cons, FFunc.wts, FFunc.wts, FFunc.wts_take r k x (by simpa using h)]
    omega
theorem FFunc.wts_le : ∀ (l : List FFunc) (k : Nat), FFunc.wts (l.take k) ≤ FFunc.wts l
  | [], k => by simp
  | y :: r, 0 => by simp [FFunc.wts]
  | y :: r, k + 1 => by
    rw [List.take_succ_cons, FFunc.wts, FFunc.wts]
    have := FFunc.wts_le r k
    omega
theorem FFunc.wts_at : ∀ (l : List FFunc) (x : FFunc), x ∈ l → x.wt ≤ FFunc.wts l
  | [], x, h => by cases h
  | y :: r, x, h => by
    unfold FFunc.wts
    rcases List.mem_cons.1 h with rfl | h
    · omega
    · have := FFunc.wts_at r x h
      omega
def ReadFunc {H : Type} (enc : TypeId × Value → H) (w : World) (base : Nat) (spare : Nat → Bool) (held : Bool) (n : Nat) : Prop := ∀ (cs : List Value) (y : DataW H × List MemPlace), DataW.trod enc Tryd.prog w base spare held n 42 cs = some y → ∃ x : FFunc, RdVs w w.heap.size x.c cs ∧ x.ok
theorem read_Func_of {H : Type} {enc : TypeId × Value → H} {w : World} {base : Nat} {spare : Nat → Bool} {held : Bool} (n : Nat) : ReadFunc enc w base spare held n := by
  intro cs y h
  obtain ⟨hl, n1, rfl, hf⟩ := struct_span (by kernel_rfl) h
  have hC : Tryd.prog.cellsOf 42 = 6 := by kernel_rfl
  rw [hC] at hl
  obtain ⟨y0, t0⟩ := hf 0 9 0 1 (by kernel_rfl)
  obtain ⟨z0, e0, _, k0⟩ := DataW.trod_string Tryd.underlying9 t0
  obtain ⟨y1, t1⟩ := hf 1 38 1 1 (by kernel_rfl)
  obtain ⟨v1, z1, e1, r1, k1⟩ := open_deep (ok := FParam.ok) 90 FParam.len (by omega) Tryd.underlying38 (by kernel_rfl) (fun m cs1 y1 hm h1 => read_Param m cs1 y1 h1) t1
  obtain ⟨y2, t2⟩ := hf 2 38 2 1 (by kernel_rfl)
  obtain ⟨v2, z2, e2, r2, k2⟩ := open_deep (ok := FParam.ok) 90 FParam.len (by omega) Tryd.underlying38 (by kernel_rfl) (fun m cs1 y1 hm h1 => read_Param m cs1 y1 h1) t2
  obtain ⟨y3, t3⟩ := hf 3 39 3 1 (by kernel_rfl)
  obtain ⟨v3, z3, e3, r3, k3⟩ := open_deep (ok := FStr.ok) 9 FStr.len (by omega) Tryd.underlying39 (by kernel_rfl) (fun m cs1 y1 _ h1 => read_string m cs1 y1 h1) t3
  obtain ⟨y4, t4⟩ := hf 4 4 4 1 (by kernel_rfl)
  obtain ⟨z4, e4, _⟩ := DataW.trod_bool Tryd.underlying4 t4
  obtain ⟨y5, t5⟩ := hf 5 40 5 1 (by kernel_rfl)
  obtain ⟨v5, z5, e5, r5, k5⟩ := open_deep (ok := FIns.ok) 28 FIns.len (by omega) Tryd.underlying40 (by kernel_rfl) (fun m cs1 y1 hm h1 => read_Ins m cs1 y1 h1) t5
  have hcs := cut_all hl
  have q0 := cut_step 0 1 5 (us := cs)
  have q1 := cut_step 1 1 4 (us := cs)
  have q2 := cut_step 2 1 3 (us := cs)
  have q3 := cut_step 3 1 2 (us := cs)
  have q4 := cut_step 4 1 1 (us := cs)
  refine ⟨⟨z0, z1, z2, z3, z4, z5⟩, ?_, ?_⟩
  · rw [FFunc.c_eq, hcs]
    rw [show (cs.drop 0).take 6 = (cs.drop 0).take 1 ++ (cs.drop 1).take 5 from q0]
    rw [show (cs.drop 1).take 5 = (cs.drop 1).take 1 ++ (cs.drop 2).take 4 from q1]
    rw [show (cs.drop 2).take 4 = (cs.drop 2).take 1 ++ (cs.drop 3).take 3 from q2]
    rw [show (cs.drop 3).take 3 = (cs.drop 3).take 1 ++ (cs.drop 4).take 2 from q3]
    rw [show (cs.drop 4).take 2 = (cs.drop 4).take 1 ++ (cs.drop 5).take 1 from q4]
    rw [e0]
    rw [e1]
    rw [e2]
    rw [e3]
    rw [e4]
    rw [e5]
    exact (RdVs.cons (by unfold RdC; rfl) (RdVs.cons r1 (RdVs.cons r2 (RdVs.cons r3 (RdVs.cons (by unfold RdC; rfl) (RdVs.cons r5 (RdVs.nil _ _)))))))
  · rw [FFunc.ok_eq]
    have j0 := k0
    unfold maxLen at j0
    exact ⟨j0, FParam.oks_of _ k1, FParam.oks_of _ k2, FStr.oks_of _ k3, FIns.oks_of _ k5⟩
theorem read_Func {H : Type} {enc : TypeId × Value → H} {w : World} {base : Nat} {spare : Nat → Bool} {held : Bool} (n : Nat) : ReadFunc enc w base spare held n := read_Func_of n
end Go.Proofs.YtiggmjiodbbceaaDoor
