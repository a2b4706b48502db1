/-
  What the line of an instruction reads; slotOp and l25Slot. Conditions: none.
-/
import Derived.Test.YtiggmjiodbbceaaDoorNmA
import Derived.Test.YtiggmjiodbbceaaDoorQuo
import Derived.Test.YtiggmjiodbbceaaDoorFmt
import Derived.Test.YtiggmjiodbbceaaDoorHtZ
namespace Go.Proofs.YtiggmjiodbbceaaDoor
open Go.ChangeShapes Go.WideShapes Go.ChangeAt Go.RowKit Go.Deep Go.Joins
open Go.ChangeMaps (open_string shut_string)
set_option linter.unusedVariables false
set_option linter.unusedSimpArgs false
set_option maxRecDepth 100000

def slotF (op : Int) : Bool := op == 5 || op == 6 || op == 18 || op == 21 || op == 24 || op == 26 || op == 38
theorem slot_impl (op : Int) (w : World) : Calls Tryd.prog 35 #[.int .i64 op] w fun e w' => e = .returned (.bool (slotF op)) ∧ w = w' := by
  go_enter Tryd.func35, Tryd.ntmps35
  go_wp2
  all_goals
    go_ret
    exact ⟨ret_bool (by simp_all [slotF]), rfl⟩
theorem slot_spec (op : Int) (w : World) : Calls Tryd.prog 30 #[.int .i64 op] w fun e w' => e = .returned (.bool (slotF op)) ∧ w = w' := by
  go_enter Tryd.func30, Tryd.ntmps30
  go_wp2
  all_goals
    go_ret
    exact ⟨ret_bool (by simp_all [slotF]), rfl⟩
/-- Whether a line shows the first operand. -/
def shA (op a : Int) : Bool := a != 0 || (op == 2 || (op == 4 || (slotF op || htF op)))
def ap (c : Bool) (p l f : ByteArray) : ByteArray := if c then (p ++ l) ++ f else p
theorem ap_t {c : Bool} (h : c = true) (p l f : ByteArray) : ap c p l f = (p ++ l) ++ f := by subst h; rfl
theorem ap_f {c : Bool} (h : c = false) (p l f : ByteArray) : ap c p l f = p := by subst h; rfl
theorem ap_size (c : Bool) (p l f : ByteArray) (hl : l.size ≤ 2) : (ap c p l f).size ≤ p.size + 2 + f.size := by
  cases c <;> simp only [ap, if_true, if_false, Bool.false_eq_true, ByteArray.size_append] <;> omega
def lnF (nm : ByteArray) (c : Bool) (fa : ByteArray) (cb : Bool) (fb : ByteArray) (cs : Bool) (qs : ByteArray) (ct : Bool) (qt : ByteArray) : ByteArray :=
  ap ct (ap cs (ap cb (ap c nm ⟨#[32]⟩ fa) ⟨#[32, 47]⟩ fb) ⟨#[32]⟩ qs) ⟨#[32]⟩ qt
def insLn (op a b : Int) (s t : ByteArray) : ByteArray := lnF (insNm op) (shA op a) (itoF a) (b != 0) (itoF b) (!s.toList.isEmpty) (quoF s) (!t.toList.isEmpty) (quoF t)
theorem insNm_size (op : Int) : (insNm op).size ≤ 12 := by
  unfold insNm
  split
  · rename_i h
    have h' : ∀ k : Fin 56, (insStr k.1).size ≤ 12 := by decide
    exact h' ⟨op.toNat - 1, by omega⟩
  · exact Nat.zero_le _
theorem lnF_size (nm : ByteArray) (c : Bool) (fa : ByteArray) (cb : Bool) (fb : ByteArray) (cs : Bool) (qs : ByteArray) (ct : Bool) (qt : ByteArray) : (lnF nm c fa cb fb cs qs ct qt).size ≤ nm.size + fa.size + fb.size + qs.size + qt.size + 8 := by
  unfold lnF
  have h1 := ap_size ct (ap cs (ap cb (ap c nm ⟨#[32]⟩ fa) ⟨#[32, 47]⟩ fb) ⟨#[32]⟩ qs) ⟨#[32]⟩ qt (by decide)
  have h2 := ap_size cs (ap cb (ap c nm ⟨#[32]⟩ fa) ⟨#[32, 47]⟩ fb) ⟨#[32]⟩ qs (by decide)
  have h3 := ap_size cb (ap c nm ⟨#[32]⟩ fa) ⟨#[32, 47]⟩ fb (by decide)
  have h4 := ap_size c nm ⟨#[32]⟩ fa (by decide)
  omega
theorem insLn_size (op a b : Int) (s t : ByteArray) (a0 : -9223372036854775808 ≤ a) (a1 : a ≤ 9223372036854775807) (b0 : -9223372036854775808 ≤ b) (b1 : b ≤ 9223372036854775807) : (insLn op a b s t).size ≤ 66 + 6 * s.size + 6 * t.size := by
  have := lnF_size (insNm op) (shA op a) (itoF a) (b != 0) (itoF b) (!s.toList.isEmpty) (quoF s) (!t.toList.isEmpty) (quoF t)
  have h1 := insNm_size op
  have h2 := itoF_size a a0 a1
  have h3 := itoF_size b b0 b1
  have h4 := quoF_size s
  have h5 := quoF_size t
  unfold insLn
  omega
theorem str_ne (s : ByteArray) (h : s.toList.isEmpty = false) : (s.toList == ((⟨#[]⟩ : ByteArray).toList)) = false ∧ ¬ s.toList = [] ∧ (s.toList == ([] : List UInt8)) = false := by
  have h3 : ¬ s.toList = [] := fun e => by rw [e] at h; cases h
  have h1 : (s.toList == ([] : List UInt8)) = false := by rw [beq_eq_false_iff_ne]; exact h3
  have e0 : ((⟨#[]⟩ : ByteArray).toList) = [] := List.eq_nil_of_length_eq_zero (by rw [size_toList]; rfl)
  exact ⟨by rw [e0]; exact h1, h3, h1⟩
theorem str_em2 (s : ByteArray) (h : s.toList.isEmpty = true) : (s.toList == ((⟨#[]⟩ : ByteArray).toList)) = true ∧ s.toList = [] ∧ (s.toList == ([] : List UInt8)) = true := by
  have h3 : s.toList = [] := List.isEmpty_iff.1 h
  have e0 : ((⟨#[]⟩ : ByteArray).toList) = [] := List.eq_nil_of_length_eq_zero (by rw [size_toList]; rfl)
  exact ⟨by rw [e0, h3]; rfl, h3, by rw [h3]; rfl⟩
theorem str_em (s : ByteArray) (h : s.toList.isEmpty = true) : s = ⟨#[]⟩ := by
  have h3 : s.toList = [] := List.isEmpty_iff.1 h
  have h4 := size_toList s
  rw [h3] at h4
  have h5 : s.data.size = 0 := h4.symm
  exact ByteArray.ext (Array.eq_empty_of_size_eq_zero h5)
end Go.Proofs.YtiggmjiodbbceaaDoor
