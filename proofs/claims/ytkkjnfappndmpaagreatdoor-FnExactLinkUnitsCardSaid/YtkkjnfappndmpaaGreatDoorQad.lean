/-
 Parts of the proof: Seen, VarP, Str, Name, IsP, IsQ, IsK6, VarS. Conditions: none.
-/
import Derived.Test.YtkkjnfappndmpaaGreatDoorQFold
import Derived.Test.YtkkjnfappndmpaaGreatDoorQaa
import Derived.Maps.OwnSet
import Derived.Lib.Index
import Derived.Deep.CutRange
import Derived.Deep.CutBlock
import Derived.Deep.QuietTactic
import Derived.BigQuiet
set_option linter.unusedVariables false
set_option linter.unusedSimpArgs false
namespace Go.Proofs.YtkkjnfappndmpaaGreatDoor
open Go.ChangeShapes Go.WideShapes Go.ChangeAt Go.RowKit Go.Deep Go.Joins
open Go.ChangeMaps (open_string shut_string)
open Go.WideMaps (keyOf_string_mk)
set_option maxRecDepth 100000
def hasS (S : List (List UInt8)) (s : List UInt8) : Bool := S.contains s
theorem hasS_cons (S : List (List UInt8)) (x s : List UInt8) : hasS (x :: S) s = (s == x || hasS S s) := by unfold hasS; rw [List.contains_cons]
/-- Block b is a map from strings to bools, of at most n entries; true at the strings of S. -/
def Seen (P : Program) (ks eb : TypeId) (w : World) (b n : Nat) (S : List (List UInt8)) : Prop :=
 ∃ D : DataW Unit, w.ownsMap P ks (plainElem P eb) b n D ∧ ∀ s : List UInt8, D.atKey (.string s) (.lit (.bool false)) = .lit (.bool (hasS S s))
section
variable {P : Program} {ks eb t : TypeId} {w w' : World} {b n : Nat} {S : List (List UInt8)}
theorem Seen.made (w : World) : Seen P ks eb (w.alloc (.map #[] 0)) w.heap.size 0 [] := ⟨.map [], World.ownsMap_made _ _ _ _, fun s => rfl⟩
theorem Seen.lt (h : Seen P ks eb w b n S) : b < w.heap.size := by obtain ⟨D, h1, _⟩ := h; exact h1.lt
theorem Seen.block (h : Seen P ks eb w b n S) (hb : w'.heap[b]? = w.heap[b]?) : Seen P ks eb w' b n S := by
 obtain ⟨D, ⟨es, clock, h1, h3⟩, h2⟩ := h
 exact ⟨D, ⟨es, clock, hb.trans h1, h3⟩, h2⟩
theorem Seen.alloc (h : Seen P ks eb w b n S) (o : Obj) : Seen P ks eb (w.alloc o) b n S := h.block (Below.heap_alloc w o b h.lt)
theorem Seen.look (h : Seen P ks eb w b n S) (hks : P.underlying ks = some .string) (heb : P.underlying eb = some .bool) (hz : ∀ W : World, (zeroValue eb).run P W = .ok (.bool false) W) (ht : P.underlying t = some (.map ks eb))
  (s : ByteArray) (hs : s.size ≤ maxLen) : (Instr.lookup t (.map (some b)) (.string s) false).run P w = .ok (.bool (hasS S s.toList)) w := by
 obtain ⟨D, h1, h2⟩ := h
 obtain ⟨v, ps, hrun, hv⟩ := h1.lookup (Maps.string_keyed hks) ht (hz w) (plainElem_bool heb false) (keyOf_string_mk hks hs)
 rw [h2 s.data.toList, ← ByteArray.toList_eq] at hv
 rw [hrun]
 unfold plainElem at hv
 rw [heb] at hv
 cases v <;> simp at hv
 rw [hv.1]
theorem Seen.put (h : Seen P ks eb w b n S) (hks : P.underlying ks = some .string) (heb : P.underlying eb = some .bool) (ht : P.underlying t = some (.map ks eb)) (hn : n < maxLen)
  (s : ByteArray) (hs : s.size ≤ maxLen) : ∃ w', (Instr.mapUpdate t (.map (some b)) (.string s) (.bool true)).run P w = .ok () w' ∧ Seen P ks eb w' b (n + 1) (s.toList :: S) ∧ w.grownBy w' (some b) := by
 obtain ⟨D, h1, h2⟩ := h
 have hkey := keyOf_string_mk hks hs
 obtain ⟨w', hrun, h3, h4⟩ := h1.update (Maps.string_keyed hks) ht hn hkey (plainElem_bool heb true)
 refine ⟨w', hrun, ⟨_, h3, fun x => ?_⟩, h4⟩
 by_cases hx : x = s.data.toList
 ·subst hx
  rw [Maps.atKey_put_same h1.isMap ((Maps.string_keyed hks).key hkey), ← ByteArray.toList_eq]
  rw [hasS_cons]; simp
 ·rw [Maps.atKey_put_other (by intro e; injection e with e; exact hx e), h2, hasS_cons, ByteArray.toList_eq]
  have : (x == s.data.toList) = false := by rw [beq_eq_false_iff_ne]; exact hx
  rw [this, Bool.false_or]
end
/-- m[k] at such a map, at the operation. -/
theorem wpList_look_seen {P : Program} (w : World) {ops : Array Oper} {rest : List Oper} {o : Oper} {a : Act} {Q : Exit → Act → World → Prop}
  (hg : o.guard = none) (m x : Operand) (t : TypeId) (hop : o.op = Op.lookup t m x false)
  (ks eb : TypeId) (hks : P.underlying ks = some .string) (heb : P.underlying eb = some .bool) (hz : ∀ W : World, (zeroValue eb).run P W = .ok (.bool false) W) (ht : P.underlying t = some (.map ks eb))
  (b n : Nat) (S : List (List UInt8)) (hm : a.eval m = .map (some b)) (hown : Seen P ks eb w b n S) (s : ByteArray) (hs : s.size ≤ maxLen) (hx : a.eval x = .string s)
  (hK : wpList P ops Q rest (a.put o.dst (.bool (hasS S s.toList))) w) : wpList P ops Q (o :: rest) a w := by
 refine wpList_plain hg fun K' hK' => ?_
 have hrun := hown.look hks heb hz ht s hs
 unfold Oper.wp
 simp [execOp, hop, hm, hx, hrun, Result.andThen]
 exact hK' _ _ hK
/-- m[k] = true at such a map, at the operation. -/
theorem wpList_put_seen {P : Program} (w : World) {ops : Array Oper} {rest : List Oper} {o : Oper} {a : Act} {Q : Exit → Act → World → Prop}
  (hg : o.guard = none) (m x v : Operand) (t : TypeId) (hop : o.op = Op.mapUpdate t m x v)
  (ks eb : TypeId) (hks : P.underlying ks = some .string) (heb : P.underlying eb = some .bool) (ht : P.underlying t = some (.map ks eb))
  (b n : Nat) (S : List (List UInt8)) (hm : a.eval m = .map (some b)) (hown : Seen P ks eb w b n S) (hn : n < maxLen) (s : ByteArray) (hs : s.size ≤ maxLen) (hx : a.eval x = .string s) (hv : a.eval v = .bool true)
  (hK : ∀ w', Seen P ks eb w' b (n + 1) (s.toList :: S) → w.grownBy w' (some b) → wpList P ops Q rest (a.put o.dst undef) w') : wpList P ops Q (o :: rest) a w := by
 refine wpList_plain hg fun K' hK' => ?_
 obtain ⟨w', hrun, r1, r2⟩ := hown.put hks heb ht hn s hs
 unfold Oper.wp
 simp [execOp, hop, hm, hx, hv, hrun, Result.andThen]
 exact hK' _ _ (hK w' r1 r2)
def isV (k : Int) : Bool := k == 4 || (k == 24 || (k == 25 || (k == 17 || k == 40)))
abbrev thisL : List UInt8 := [116, 104, 105, 115]
def inV (l : List FStr) (s : ByteArray) : Bool := l.any fun y => y.a0.toList == s.toList
def addV (k : Int) (s : ByteArray) (l : List FStr) : List FStr := if (isV k && (!(s.toList == thisL) && !inV l s)) = true then l ++ [⟨s⟩] else l
def FNode.kd : FNode → Int | .mk a0 _ _ _ => a0
mutual
/-- The names of a node behind those that are listed already. -/
def visN : FNode → List FStr → List FStr
 | .mk a0 a1 a2 a3, l => visL (a0 == 23) a3 (addV a0 a2 l)
def visL (cl : Bool) : List FNode → List FStr → List FStr
 | [], l => l
 | x :: r, l => visL cl r (if (!cl || x.kd == 25) = true then visN x l else l)
end
/-! ### rows of strings -/
def sVals (l : List FStr) : List Value := l.map fun y => .string y.a0
theorem sVals_snoc (l : List FStr) (s : ByteArray) : sVals (l ++ [⟨s⟩]) = sVals l ++ [.string s] := by simp [sVals]
theorem inV_take (l : List FStr) (s : ByteArray) (k : Nat) (y : FStr) (h : l[k]? = some y) : inV (l.take (k + 1)) s = (inV (l.take k) s || y.a0.toList == s.toList) := by
 unfold inV
 rw [List.take_add_one, h, List.any_append]
 simp
theorem sv_cell {w : World} {base c : Nat} {A : Option Addr} {l : List FStr} (h : w.ownsRow base 9 1 (.slice A l.length c) l.length (sVals l)) {k : Nat} {y : FStr} (hk : l[k]? = some y) :
  ∃ g o, A = some ⟨g, o, none⟩ ∧ w.cell? ⟨g, o + k, none⟩ = some (.string y.a0) := by
 have hkl := (List.getElem?_eq_some_iff.1 hk).1
 obtain ⟨A', c', e, _, _, _, hc⟩ := rd_of_own h
 injection e with e1 e2 e3
 subst e1 e3
 obtain ⟨g, o, rfl, _, hcell⟩ := hc qaa
 exact ⟨g, o, rfl, hcell k _ (by unfold sVals; rw [List.getElem?_map, hk]; rfl)⟩
theorem sInfoV : (Tryz.prog.info? 9).map (fun i => (i.zero.map Value.cells, i.size, i.bytes)) = some (some #[.string ByteArray.empty], 1, 16) := by kernel_rfl
theorem srd_oneV (w : World) (u : Value) (e : TypeId) : Rd (w.alloc (.cells #[u] e)) (w.heap.size + 1) 1 (.slice (some ⟨w.heap.size, 0, none⟩) 1 1) 1 [u] := by
 refine ⟨_, _, rfl, Nat.le_refl _, by unfold maxLen; omega, rfl, fun _ => ⟨_, _, rfl, by omega, fun j x hx => ?_⟩⟩
 cases j with
 | zero => simpa [World.cell?_alloc_new] using hx
 | succ j => simp at hx
set_option maxHeartbeats 40000000
open Lib (hid)
/-! ### plain -/
def scan (p : Nat → Bool) : Nat → Nat → Nat
 | 0, i => i
 | f + 1, i => if p i then scan p f (i + 1) else i
theorem scan_eq (p : Nat → Bool) : ∀ (f i k : Nat), i ≤ k → k ≤ i + f → (∀ j, i ≤ j → j < k → p j = true) → (k = i + f ∨ p k = false) → scan p f i = k
 | 0, i, k, h1, h2, _, _ => by simp [scan]; omega
 | f + 1, i, k, h1, h2, h3, h4 => by
  unfold scan
  by_cases hk : i = k
  ·subst hk
   have : p i = false := by
    rcases h4 with h | h
    ·omega
    ·exact h
   simp [this]
  ·rw [if_pos (h3 i nr qaa)]
   exact scan_eq p f (i + 1) k qaa qaa (fun j a b => h3 j qaa b) (by rcases h4 with h | h; exact .inl qaa; exact .inr h)
/-- Every number below n answers yes. -/
def allB (p : Nat → Bool) (n : Nat) : Bool := (List.range n).all p
theorem allB_true {p : Nat → Bool} {n : Nat} (h : ∀ j, j < n → p j = true) : allB p n = true := by
 unfold allB; rw [List.all_eq_true]; exact fun j hj => h j (List.mem_range.1 hj)
theorem allB_false {p : Nat → Bool} {n k : Nat} (hk : k < n) (h : p k = false) : allB p n = false := by
 unfold allB; rw [Bool.eq_false_iff]; intro hc
 have := List.all_eq_true.1 hc k (List.mem_range.2 hk)
 rw [h] at this; cases this
theorem allB_get {p : Nat → Bool} {n : Nat} (h : allB p n = true) : ∀ j, j < n → p j = true := fun j hj => List.all_eq_true.1 h j (List.mem_range.2 hj)
/-- The byte at an index, as a number; 0 behind the end. -/
def bI (s : ByteArray) (k : Nat) : Int := ((s.toList.getD k 0).toNat : Int)
theorem bI_eq (s : ByteArray) (k : Nat) (h : k < s.size) : bI s k = (s[k].toNat : Int) := by
 unfold bI
 rw [ByteArray.toList_eq, List.getD_eq_getElem?_getD, List.getElem?_eq_getElem (by simpa using h)]
 rfl
theorem u8_lt (c : UInt8) : (c.toNat : Int) ≤ 255 ∧ 0 ≤ (c.toNat : Int) := by have := c.toNat_lt; omega
theorem size_toList (s : ByteArray) : s.toList.length = s.size := by rw [ByteArray.toList_eq]; simp
def ltrI (x : Int) : Bool := decide (65 ≤ x ∧ x ≤ 90) || decide (97 ≤ x ∧ x ≤ 122)
def digI (x : Int) : Bool := decide (48 ≤ x ∧ x ≤ 57)
def inB (x a b : Int) : Bool := decide (a ≤ x ∧ x ≤ b)
theorem ltrI_t {x : Int} (h : 65 ≤ x ∧ x ≤ 90 ∨ 97 ≤ x ∧ x ≤ 122) : ltrI x = true := by unfold ltrI; rcases h with h | h <;> simp [h]
theorem ltrI_f {x : Int} (h : ¬ (65 ≤ x ∧ x ≤ 90 ∨ 97 ≤ x ∧ x ≤ 122)) : ltrI x = false := by
 unfold ltrI; rw [decide_eq_false (fun e => h (.inl e)), decide_eq_false (fun e => h (.inr e))]; rfl
theorem digI_t {x : Int} (h : 48 ≤ x ∧ x ≤ 57) : digI x = true := by unfold digI; simp [h]
theorem digI_f {x : Int} (h : ¬ (48 ≤ x ∧ x ≤ 57)) : digI x = false := by unfold digI; rw [decide_eq_false h]
theorem inB_t {x a b : Int} (h : a ≤ x ∧ x ≤ b) : inB x a b = true := by unfold inB; simp [h]
theorem inB_f {x a b : Int} (h : ¬ (a ≤ x ∧ x ≤ b)) : inB x a b = false := by unfold inB; rw [decide_eq_false h]
theorem inB_iff {x a b : Int} : inB x a b = true ↔ a ≤ x ∧ x ≤ b := by unfold inB; exact decide_eq_true_iff
/-! ### walks -/
theorem inRange_any (x a b : Int) (w : World) : Calls Tryz.prog 67 #[.int .i64 x, .int .i64 a, .int .i64 b] w fun e w' => e = .returned (.bool (inB x a b)) ∧ w = w' := by
 by_cases h1 : a ≤ x
 ·by_cases h2 : x ≤ b
  ·go_enter Tryz.func67, Tryz.ntmps67
   go_wp2
   go_ret
   exact ⟨ret_bool (inB_t ⟨h1, h2⟩).symm, rfl⟩
  ·go_enter Tryz.func67, Tryz.ntmps67
   exact zz131
 ·have hd : decide (a ≤ x) = false := by simpa using h1
  go_enter Tryz.func67, Tryz.ntmps67
  exact zz131
theorem l1In_any (x a b : Int) (w : World) : Calls Tryz.prog 51 #[.int .i64 x, .int .i64 a, .int .i64 b] w fun e w' => e = .returned (.bool (inB x a b)) ∧ w = w' := by
 by_cases h1 : a ≤ x
 ·by_cases h2 : x ≤ b
  ·go_enter Tryz.func51, Tryz.ntmps51
   go_wp2
   go_ret
   exact ⟨ret_bool (inB_t ⟨h1, h2⟩).symm, rfl⟩
  ·go_enter Tryz.func51, Tryz.ntmps51
   exact zz131
 ·have hd : decide (a ≤ x) = false := by simpa using h1
  go_enter Tryz.func51, Tryz.ntmps51
  exact zz131
theorem isLetter_any (x : Int) (w : World) (h0 : 0 ≤ x) (h255 : x ≤ 255) : Calls Tryz.prog 127 #[.int .u8 x] w fun e w' => e = .returned (.bool (ltrI x)) ∧ w = w' := by
 by_cases a1 : 65 ≤ x <;> by_cases a2 : x ≤ 90 <;> by_cases a3 : 97 ≤ x <;> by_cases a4 : x ≤ 122
 all_goals first
  | omega
  | (go_enter Tryz.func127, Tryz.ntmps127
     go_wp2
     go_ret
     exact ⟨ret_bool (by first | rw [ltrI_t qaa] | rw [ltrI_f qaa]), rfl⟩)
theorem isDigit_any (x : Int) (w : World) (h0 : 0 ≤ x) (h255 : x ≤ 255) : Calls Tryz.prog 128 #[.int .u8 x] w fun e w' => e = .returned (.bool (digI x)) ∧ w = w' := by
 by_cases a1 : 48 ≤ x <;> by_cases a2 : x ≤ 57
 all_goals first
  | omega
  | (go_enter Tryz.func128, Tryz.ntmps128
     go_wp2
     go_ret
     exact ⟨ret_bool (by first | rw [digI_t qaa] | rw [digI_f qaa]), rfl⟩)
theorem l14Letter_any (x : Int) (w : World) (h0 : 0 ≤ x) (h255 : x ≤ 255) : Calls Tryz.prog 121 #[.int .u8 x] w fun e w' => e = .returned (.bool (ltrI x || x == 95)) ∧ w = w' := by
 by_cases a1 : inB x 97 122 = true
 ·go_enter Tryz.func121, Tryz.ntmps121
  go_wp2_with (go_at_call 51; refine zkp (l1In_any _ _ _ _) ?_)
  go_ret
  have b1 := inB_iff.1 a1
  exact ⟨ret_bool (by rw [ltrI_t qaa]; rfl), rfl⟩
 ·have a1' : inB x 97 122 = false := by simpa using a1
  by_cases a2 : inB x 65 90 = true
  ·go_enter Tryz.func121, Tryz.ntmps121
   go_wp2_with (go_at_call 51; refine zkp (l1In_any _ _ _ _) ?_)
   go_ret
   have b1 := inB_iff.1 a2
   exact ⟨ret_bool (by rw [ltrI_t qaa]; rfl), rfl⟩
  ·have a2' : inB x 65 90 = false := by simpa using a2
   go_enter Tryz.func121, Tryz.ntmps121
   go_wp2_with (go_at_call 51; refine zkp (l1In_any _ _ _ _) ?_)
   go_ret
   rw [inB_iff] at a1 a2
   exact ⟨ret_bool (by rw [ltrI_f qaa]; rfl), rfl⟩
theorem l14Digit_any (x : Int) (w : World) (h0 : 0 ≤ x) (h255 : x ≤ 255) : Calls Tryz.prog 122 #[.int .u8 x] w fun e w' => e = .returned (.bool (digI x)) ∧ w = w' := by
 go_enter Tryz.func122, Tryz.ntmps122
 go_wp2_with (go_at_call 51; refine zkp (l1In_any _ _ _ _) ?_)
 go_ret
 exact ⟨ret_bool rfl, rfl⟩
def resWords : List (List UInt8) := [[101, 99, 104, 111], [105, 102], [101, 108, 115, 101], [119, 104, 105, 108, 101], [102, 111, 114, 101, 97, 99, 104], [97, 115], [98, 114, 101, 97, 107], [99, 111, 110, 116, 105, 110, 117, 101], [114, 101, 116, 117, 114, 110], [103, 108, 111, 98, 97, 108], [117, 110, 115, 101, 116], [116, 104, 114, 111, 119], [116, 114, 121], [99, 97, 116, 99, 104], [102, 105, 110, 97, 108, 108, 121], [121, 105, 101, 108, 100], [105, 110, 99, 108, 117, 100, 101], [102, 117, 110, 99, 116, 105, 111, 110], [99, 108, 97, 115, 115], [116, 114, 97, 105, 116], [101, 120, 116, 101, 110, 100, 115], [117, 115, 101], [112, 114, 105, 118, 97, 116, 101], [115, 116, 97, 116, 105, 99], [110, 101, 119], [116, 114, 117, 101], [102, 97, 108, 115, 101], [110, 117, 108, 108]]
def resF (s : List UInt8) : Bool := resWords.any fun x => x == s
theorem resWords_len : resWords.length = 28 := rfl
def resCells : Array Value := (resWords.map fun l => Value.string ⟨l.toArray⟩).toArray
theorem resString_at (k : Nat) (hk : k < 28) : ∃ (x : ByteArray), resCells[k]? = some (.string x) ∧ resWords[k]? = some x.toList := by
 have hk' : k < resWords.length := by rw [resWords_len]; exact hk
 refine ⟨⟨(resWords[k]).toArray⟩, ?_, ?_⟩
 ·unfold resCells
  rw [List.getElem?_toArray, List.getElem?_map, List.getElem?_eq_getElem hk']
  rfl
 ·rw [List.getElem?_eq_getElem hk', ByteArray.toList_mk]
theorem resF_no (s : List UInt8) (h : ∀ (j : Nat) (x : List UInt8), resWords[j]? = some x → (x == s) = false) : resF s = false := by
 unfold resF; rw [List.any_eq_false]
 intro x hx
 obtain ⟨j, hj⟩ := List.mem_iff_getElem?.1 hx
 rw [h j x hj]; simp
theorem resF_yes (s : List UInt8) (k : Nat) (x : List UInt8) (h : resWords[k]? = some x) (hs : (x == s) = true) : resF s = true := by
 unfold resF; rw [List.any_eq_true]
 exact ⟨x, List.mem_of_getElem? h, hs⟩
theorem res_impl (s : ByteArray) (w : World) : Calls Tryz.prog 133 #[.string s] w fun e w' => e = .returned (.bool (resF s.toList)) ∧ w = w' := by
 go_enter Tryz.func133, Tryz.ntmps133
 go_wp2
 all_goals
  go_ret
  refine ⟨ret_bool ?_, rfl⟩
  symm
  first
   | (refine resF_no _ fun j x hx => ?_
      have hm := List.mem_of_getElem? hx
      rw [Bool.eq_false_iff]
      intro he
      rw [beq_iff_eq] at he
      subst he
      simp_all [resWords]; done)
   | (unfold resF resWords
      simp_all [List.any_cons])
theorem res_spec (s : ByteArray) (w : World) : Calls Tryz.prog 125 #[.string s] w fun e w' => e = .returned (.bool (resF s.toList)) ∧ Below w.heap.size w w' := by
 go_enter Tryz.func125, Tryz.ntmps125
 go_wp2
 go_loopw [4] (fun i wr => ∃ k : Nat, k ≤ 28 ∧ i = .int .i64 k ∧ (∀ (j : Nat) (q : List UInt8), j < k → resWords[j]? = some q → (q == s.toList) = false) ∧ (∀ j, j < 28 → wr.cell? ⟨w.heap.size, j, none⟩ = resCells[j]?) ∧ Below w.heap.size w wr) (fun i _ => 28 - (intOf i).toNat)
 case atStart => exact ⟨0, by omega, rfl, fun j q hj => absurd hj qaa, fun j hj => World.cell?_alloc_new _ _ _ _, (Below.refl _ _).alloc nr _⟩
 case round =>
  obtain ⟨k, hk, rfl, hno, hcs, hb⟩ := hrel
  by_cases hlt : k < 28
  ·obtain ⟨x, hx, hxl⟩ := resString_at k hlt
   have hc : wr.cell? ⟨w.heap.size, k, none⟩ = some (.string x) := (hcs k hlt).trans hx
   have HCS := hid hcs
   have HNO := hid hno
   have HX := hid hxl
   clear hcs hno hx hxl
   by_cases hq : (x.toList == s.toList) = true
   ·have HQ := hid hq
    go_wp2
    go_ret
    exact ⟨ret_bool (resF_yes _ k _ HX.out HQ.out).symm, hb⟩
   ·have hq' : (x.toList == s.toList) = false := by simpa using hq
    have HQ := hid hq'
    clear hq
    go_wp2
    go_roundw
    case rel =>
     refine ⟨k + 1, by omega, by go_num, fun j q hj hjq => ?_, HCS.out, hb⟩
     by_cases e : j = k
     ·subst e
      rw [HX.out] at hjq
      injection hjq with hjq
      subst hjq
      exact HQ.out
     ·exact HNO.out j q qaa hjq
    case measure => simp [intOf]; omega
  ·obtain rfl : k = 28 := qaa
   have HNO := hid hno
   clear hno hcs
   go_wp2
   go_ret
   exact ⟨ret_bool (resF_no _ fun j q hq => HNO.out j q (by have := (List.getElem?_eq_some_iff.1 hq).1; rw [resWords_len] at this; exact this) hq).symm, hb⟩
def nmP (s : ByteArray) (k : Nat) : Bool := ltrI (bI s k) || bI s k == 95 || (decide (0 < k) && digI (bI s k))
def nmLen (s : ByteArray) : Nat := scan (nmP s) s.size 0
def nameF (s : ByteArray) : Bool := decide (1 ≤ s.size) && decide (s.size ≤ 20) && allB (nmP s) s.size
def goodF (s : ByteArray) : Bool := nameF s && !resF s.toList
theorem nmLen_eq (s : ByteArray) (k : Nat) (hk : k ≤ s.size) (h : ∀ j, j < k → nmP s j = true) (he : k = s.size ∨ nmP s k = false) : nmLen s = k :=
 scan_eq _ _ _ _ (Nat.zero_le _) qaa (fun j _ => h j) (by rcases he with h | h; exact .inl qaa; exact .inr h)
theorem scan_le (p : Nat → Bool) : ∀ (f i : Nat), scan p f i ≤ i + f ∧ i ≤ scan p f i ∧ (∀ j, i ≤ j → j < scan p f i → p j = true) ∧ (scan p f i = i + f ∨ p (scan p f i) = false)
 | 0, i => ⟨by simp [scan], by simp [scan], fun j a b => by simp [scan] at b; omega, .inl rfl⟩
 | f + 1, i => by
  unfold scan
  by_cases hp : p i = true
  ·rw [if_pos hp]
   obtain ⟨a, b, c, d⟩ := scan_le p f (i + 1)
   refine ⟨by omega, by omega, fun j h1 h2 => ?_, by rcases d with d | d; exact .inl qaa; exact .inr d⟩
   by_cases e : j = i
   ·subst e; exact hp
   ·exact c j qaa h2
  ·rw [if_neg hp]
   exact ⟨by omega, Nat.le_refl _, fun j a b => by omega, .inr (by simpa using hp)⟩
theorem nmLen_all (s : ByteArray) (h : allB (nmP s) s.size = true) : nmLen s = s.size := nmLen_eq s _ nr (allB_get h) (.inl rfl)
theorem nmLen_lt (s : ByteArray) (h : allB (nmP s) s.size = false) : nmLen s < s.size := by
 obtain ⟨a, b, c, d⟩ := scan_le (nmP s) s.size 0
 rcases Nat.lt_or_ge (nmLen s) s.size with hlt | hge
 ·exact hlt
 ·have : allB (nmP s) s.size = true := allB_true fun j hj => c j qaa (by unfold nmLen at hge; omega)
  rw [h] at this; cases this
theorem nmP_let {s : ByteArray} {k : Nat} (hk : k < s.size) (h : ltrI (s[k].toNat : Int) = true) : nmP s k = true := by unfold nmP; rw [bI_eq s k hk, h]; rfl
theorem nmP_95 {s : ByteArray} {k : Nat} (hk : k < s.size) (h : ((s[k].toNat : Int) == 95) = true) : nmP s k = true := by unfold nmP; rw [bI_eq s k hk, h]; simp
theorem nmP_dig {s : ByteArray} {k : Nat} (hk : k < s.size) (h0 : 0 < k) (h : digI (s[k].toNat : Int) = true) : nmP s k = true := by unfold nmP; rw [bI_eq s k hk, h]; simp [h0]
theorem nmP_no {s : ByteArray} {k : Nat} (hk : k < s.size) (h1 : ltrI (s[k].toNat : Int) = false) (h2 : ((s[k].toNat : Int) == 95) = false) (h3 : k = 0 ∨ digI (s[k].toNat : Int) = false) : nmP s k = false := by
 unfold nmP; rw [bI_eq s k hk, h1, h2]
 rcases h3 with h | h
 ·subst h; rfl
 ·rw [h]; simp
theorem nameLength_any (s : ByteArray) (n : Nat) (hn : nmLen s = n) (w : World) (hs : s.size ≤ 9223372036854775807) : Calls Tryz.prog 147 #[.string s] w fun e w' => e = .returned (.int .i64 n) ∧ w = w' := by
 have HN := hid hn
 clear hn
 go_enter Tryz.func147, Tryz.ntmps147
 go_wp2
 go_loop [3] (fun i => ∃ k : Nat, k ≤ s.size ∧ i = .int .i64 k ∧ ∀ j, j < k → nmP s j = true) (fun i => s.size - (intOf i).toNat)
 case atStart => exact ⟨0, Nat.zero_le _, rfl, fun j hj => absurd hj qaa⟩
 case round =>
  obtain ⟨k, hk, rfl, hall⟩ := hrel
  have HALL := hid hall
  clear hall
  by_cases hlt : k < s.size
  ·have hx1 := (u8_lt s[k]).1
   have hx0 := (u8_lt s[k]).2
   have go_on : nmP s k = true → ∀ j, j < k + 1 → nmP s j = true := fun h j hj => by
    by_cases e : j = k
    ·subst e; exact h
    ·exact HALL.out j qaa
   have GO := hid go_on
   clear go_on
   have out_ : nmP s k = false → (k : Int) = n := fun h => by rw [← HN.out, nmLen_eq s k hk HALL.out (.inr h)]
   have OUT := hid out_
   clear out_
   by_cases hl : ltrI (s[k].toNat : Int) = true
   ·go_wp2_with (first | (go_at_call 127; refine zkp (isLetter_any _ _ qaa qaa) ?_) | (go_at_call 128; refine zkp (isDigit_any _ _ qaa qaa) ?_))
    go_round
    case rel => exact ⟨k + 1, by omega, by go_num, GO.out (nmP_let hlt hl)⟩
    case measure => simp [intOf]; omega
   ·have hl' : ltrI (s[k].toNat : Int) = false := by simpa using hl
    clear hl
    by_cases h95 : ((s[k].toNat : Int) == 95) = true
    ·go_wp2_with (first | (go_at_call 127; refine zkp (isLetter_any _ _ qaa qaa) ?_) | (go_at_call 128; refine zkp (isDigit_any _ _ qaa qaa) ?_))
     go_round
     case rel => exact ⟨k + 1, by omega, by go_num, GO.out (nmP_95 hlt h95)⟩
     case measure => simp [intOf]; omega
    ·have h95' : ((s[k].toNat : Int) == 95) = false := by simpa using h95
     clear h95
     by_cases hk0 : 0 < k
     ·by_cases hd : digI (s[k].toNat : Int) = true
      ·go_wp2_with (first | (go_at_call 127; refine zkp (isLetter_any _ _ qaa qaa) ?_) | (go_at_call 128; refine zkp (isDigit_any _ _ qaa qaa) ?_))
       exact zz138
      ·have hd' : digI (s[k].toNat : Int) = false := by simpa using hd
       clear hd
       go_wp2_with (first | (go_at_call 127; refine zkp (isLetter_any _ _ qaa qaa) ?_) | (go_at_call 128; refine zkp (isDigit_any _ _ qaa qaa) ?_))
       go_ret
       exact ⟨ret_int (OUT.out (nmP_no hlt hl' h95' (.inr hd'))), rfl⟩
     ·obtain rfl : k = 0 := qaa
      go_wp2_with (first | (go_at_call 127; refine zkp (isLetter_any _ _ qaa qaa) ?_) | (go_at_call 128; refine zkp (isDigit_any _ _ qaa qaa) ?_))
      go_ret
      exact ⟨ret_int (OUT.out (nmP_no hlt hl' h95' (.inl rfl))), rfl⟩
  ·have hd : decide ((k : Int) < (s.size : Int)) = false := by simpa using hlt
   have hd2 : decide (k < s.size) = false := by simpa using hlt
   obtain rfl : k = s.size := qaa
   go_wp2_with (first | (go_at_call 127; refine zkp (isLetter_any _ _ qaa qaa) ?_) | (go_at_call 128; refine zkp (isDigit_any _ _ qaa qaa) ?_))
   go_ret
   exact ⟨ret_int (by rw [← HN.out, nmLen_eq s _ nr HALL.out (.inl rfl)]), rfl⟩
theorem l14Name_any (s : ByteArray) (n : Nat) (hn : nmLen s = n) (w : World) (hs : s.size ≤ 9223372036854775807) : Calls Tryz.prog 142 #[.string s, .int .i64 0] w fun e w' => e = .returned (.int .i64 n) ∧ w = w' := by
 have HN := hid hn
 clear hn
 go_enter Tryz.func142, Tryz.ntmps142
 go_wp2
 go_loop [5] (fun i => ∃ k : Nat, k ≤ s.size ∧ i = .int .i64 k ∧ ∀ j, j < k → nmP s j = true) (fun i => s.size - (intOf i).toNat)
 case atStart => exact ⟨0, Nat.zero_le _, rfl, fun j hj => absurd hj qaa⟩
 case round =>
  obtain ⟨k, hk, rfl, hall⟩ := hrel
  have HALL := hid hall
  clear hall
  by_cases hlt : k < s.size
  ·have hx1 := (u8_lt s[k]).1
   have hx0 := (u8_lt s[k]).2
   have go_on : nmP s k = true → ∀ j, j < k + 1 → nmP s j = true := fun h j hj => by
    by_cases e : j = k
    ·subst e; exact h
    ·exact HALL.out j qaa
   have GO := hid go_on
   clear go_on
   have out_ : nmP s k = false → (k : Int) = n := fun h => by rw [← HN.out, nmLen_eq s k hk HALL.out (.inr h)]
   have OUT := hid out_
   clear out_
   by_cases hl : (ltrI (s[k].toNat : Int) || (s[k].toNat : Int) == 95) = true
   ·have hyes : nmP s k = true := by
     rcases (Bool.or_eq_true _ _).mp hl with h | h
     ·exact nmP_let hlt h
     ·exact nmP_95 hlt h
    have HY := hid hyes
    clear hyes
    go_wp2_with (first | (go_at_call 121; refine zkp (l14Letter_any _ _ qaa qaa) ?_) | (go_at_call 122; refine zkp (l14Digit_any _ _ qaa qaa) ?_))
    all_goals
     go_round
     case rel => exact ⟨k + 1, by omega, by go_num, GO.out HY.out⟩
     case measure => simp [intOf]; omega
   ·have hl' : (ltrI (s[k].toNat : Int) || (s[k].toNat : Int) == 95) = false := by simpa using hl
    have hl1 : ltrI (s[k].toNat : Int) = false := (Bool.or_eq_false_iff.mp hl').1
    have hl2 : ((s[k].toNat : Int) == 95) = false := (Bool.or_eq_false_iff.mp hl').2
    clear hl hl'
    by_cases hk0 : 0 < k
    ·by_cases hd : digI (s[k].toNat : Int) = true
     ·go_wp2_with (first | (go_at_call 121; refine zkp (l14Letter_any _ _ qaa qaa) ?_) | (go_at_call 122; refine zkp (l14Digit_any _ _ qaa qaa) ?_))
      exact zz138
     ·have hd' : digI (s[k].toNat : Int) = false := by simpa using hd
      clear hd
      go_wp2_with (first | (go_at_call 121; refine zkp (l14Letter_any _ _ qaa qaa) ?_) | (go_at_call 122; refine zkp (l14Digit_any _ _ qaa qaa) ?_))
      go_ret
      exact ⟨ret_int (OUT.out (nmP_no hlt hl1 hl2 (.inr hd'))), rfl⟩
    ·obtain rfl : k = 0 := qaa
     go_wp2_with (first | (go_at_call 121; refine zkp (l14Letter_any _ _ qaa qaa) ?_) | (go_at_call 122; refine zkp (l14Digit_any _ _ qaa qaa) ?_))
     go_ret
     exact ⟨ret_int (OUT.out (nmP_no hlt hl1 hl2 (.inl rfl))), rfl⟩
  ·have hd : decide ((k : Int) < (s.size : Int)) = false := by simpa using hlt
   have hd2 : decide (k < s.size) = false := by simpa using hlt
   obtain rfl : k = s.size := qaa
   go_wp2_with (first | (go_at_call 121; refine zkp (l14Letter_any _ _ qaa qaa) ?_) | (go_at_call 122; refine zkp (l14Digit_any _ _ qaa qaa) ?_))
   go_ret
   exact ⟨ret_int (by rw [← HN.out, nmLen_eq s _ nr HALL.out (.inl rfl)]), rfl⟩
theorem name_impl (s : ByteArray) (w : World) (hs : s.size ≤ 9223372036854775807) : Calls Tryz.prog 132 #[.string s] w fun e w' => e = .returned (.bool (nameF s)) ∧ w = w' := by
 by_cases h20 : s.size ≤ 20
 ·by_cases h0 : s.size = 0
  ·have he : s.toList.isEmpty = true := by rw [List.isEmpty_iff]; exact List.eq_nil_of_length_eq_zero (by rw [size_toList, h0])
   have hn : nmLen s = 0 := by have := scan_le (nmP s) s.size 0; unfold nmLen; omega
   have h00 : ((0 : Nat) : Int) = (s.size : Int) := qaa
   have hi : ((s.size : Int) == 0) = true := by rw [h0]; rfl
   have hi' : ((0 : Int) == (s.size : Int)) = true := by rw [h0]; rfl
   have hf : nameF s = false := by unfold nameF; rw [h0]; rfl
   have HF := hid hf
   have HNN := hid hn
   clear hf hn h00 h0
   go_enter Tryz.func132, Tryz.ntmps132
   go_wp2_with (go_at_call 147; refine zkp (nameLength_any _ 0 HNN.out _ qaa) ?_)
   exact zz90
  ·have he : s.toList.isEmpty = false := by
    rw [Bool.eq_false_iff]; intro h; rw [List.isEmpty_iff] at h; exact h0 (by rw [← size_toList, h]; rfl)
   by_cases ha : allB (nmP s) s.size = true
   ·have hf : nameF s = true := by unfold nameF; rw [ha, decide_eq_true (by omega : 1 ≤ s.size), decide_eq_true h20]; rfl
    have HF := hid hf
    have HNN := hid (nmLen_all s ha)
    clear hf ha h0
    go_enter Tryz.func132, Tryz.ntmps132
    go_wp2_with (go_at_call 147; refine zkp (nameLength_any _ s.size HNN.out _ qaa) ?_)
    exact zz90
   ·have ha' : allB (nmP s) s.size = false := by simpa using ha
    have hlt := nmLen_lt s ha'
    have hf : nameF s = false := by unfold nameF; rw [ha']; simp
    have HF := hid hf
    obtain ⟨n, hn⟩ : ∃ n, nmLen s = n := ⟨_, rfl⟩
    have hlt' : n < s.size := qaa
    have hne : ((n : Int) == (s.size : Int)) = false := by rw [beq_eq_false_iff_ne]; omega
    have hne2 : (n == s.size) = false := by rw [beq_eq_false_iff_ne]; omega
    have HNN := hid hn
    clear hf ha ha' h0 hn hlt
    go_enter Tryz.func132, Tryz.ntmps132
    go_wp2_with (go_at_call 147; refine zkp (nameLength_any _ n HNN.out _ qaa) ?_)
    exact zz90
 ·have hd : decide ((s.size : Int) ≤ 20) = false := by simpa using (by omega : ¬ ((s.size : Int) ≤ 20))
  have hf : nameF s = false := by unfold nameF; rw [decide_eq_false h20]; simp
  have HF := hid hf
  clear hf
  go_enter Tryz.func132, Tryz.ntmps132
  go_wp2_with fail
  exact zz90
theorem name_spec (s : ByteArray) (w : World) (hs : s.size ≤ 9223372036854775807) : Calls Tryz.prog 124 #[.string s] w fun e w' => e = .returned (.bool (nameF s)) ∧ w = w' := by
 by_cases h1 : 1 ≤ s.size
 ·by_cases h20 : s.size ≤ 20
  ·by_cases ha : allB (nmP s) s.size = true
   ·have hf : nameF s = true := by unfold nameF; rw [ha, decide_eq_true (by omega : 1 ≤ s.size), decide_eq_true h20]; rfl
    have HF := hid hf
    have HNN := hid (nmLen_all s ha)
    clear hf ha
    go_enter Tryz.func124, Tryz.ntmps124
    go_wp2_with (go_at_call 142; refine zkp (l14Name_any _ s.size HNN.out _ qaa) ?_)
    exact zz90
   ·have ha' : allB (nmP s) s.size = false := by simpa using ha
    have hlt := nmLen_lt s ha'
    have hf : nameF s = false := by unfold nameF; rw [ha']; simp
    have HF := hid hf
    obtain ⟨n, hn⟩ : ∃ n, nmLen s = n := ⟨_, rfl⟩
    have hlt' : n < s.size := qaa
    have hne : ((n : Int) == (s.size : Int)) = false := by rw [beq_eq_false_iff_ne]; omega
    have hne2 : (n == s.size) = false := by rw [beq_eq_false_iff_ne]; omega
    have HNN := hid hn
    clear hf ha ha' hn hlt
    go_enter Tryz.func124, Tryz.ntmps124
    go_wp2_with (go_at_call 142; refine zkp (l14Name_any _ n HNN.out _ qaa) ?_)
    exact zz90
  ·have hd : decide ((s.size : Int) ≤ 20) = false := by simpa using (by omega : ¬ ((s.size : Int) ≤ 20))
   have hf : nameF s = false := by unfold nameF; rw [decide_eq_false h20]; simp
   have HF := hid hf
   clear hf
   go_enter Tryz.func124, Tryz.ntmps124
   go_wp2_with fail
   exact zz90
 ·have hd : decide ((1 : Int) ≤ (s.size : Int)) = false := by simpa using (by omega : ¬ ((1 : Int) ≤ (s.size : Int)))
  have hf : nameF s = false := by unfold nameF; rw [decide_eq_false h1]; simp
  have HF := hid hf
  clear hf
  go_enter Tryz.func124, Tryz.ntmps124
  go_wp2_with fail
  exact zz90
theorem good_impl (s : ByteArray) (w : World) (hs : s.size ≤ 9223372036854775807) : Calls Tryz.prog 104 #[.string s] w fun e w' => e = .returned (.bool (goodF s)) ∧ w = w' := by
 by_cases hn : nameF s = true
 ·have HF := hid (show goodF s = !resF s.toList by unfold goodF; rw [hn]; rfl)
  exact zz205
 ·have hn' : nameF s = false := by simpa using hn
  have HF := hid (show goodF s = false by unfold goodF; rw [hn']; rfl)
  clear hn
  exact zz205
theorem good_spec (s : ByteArray) (w : World) (hs : s.size ≤ 9223372036854775807) : Calls Tryz.prog 85 #[.string s] w fun e w' => e = .returned (.bool (goodF s)) ∧ Below w.heap.size w w' := by
 by_cases hn : nameF s = true
 ·have HF := hid (show goodF s = !resF s.toList by unfold goodF; rw [hn]; rfl)
  go_enter Tryz.func85, Tryz.ntmps85
  go_wp2_with (first | (go_at_call 124; refine zkp (name_spec _ _ qaa) ?_) | (go_at_call 125; refine (res_spec _ _).mono ?_; rintro e w1 ⟨rfl, hb1⟩))
  go_ret
  exact ⟨ret_bool HF.out.symm, hb1⟩
 ·have hn' : nameF s = false := by simpa using hn
  have HF := hid (show goodF s = false by unfold goodF; rw [hn']; rfl)
  clear hn
  go_enter Tryz.func85, Tryz.ntmps85
  go_wp2_with (first | (go_at_call 124; refine zkp (name_spec _ _ qaa) ?_) | (go_at_call 125; refine (res_spec _ _).mono ?_; rintro e w1 ⟨rfl, hb1⟩))
  go_ret
  exact ⟨ret_bool HF.out.symm, Below.refl _ _⟩
def FNode.nu : FNode → Int | .mk _ a1 _ _ => a1
def FNode.tx : FNode → ByteArray | .mk _ _ a2 _ => a2
def FNode.kids : FNode → List FNode | .mk _ _ _ a3 => a3
/-! ### size and depth -/
mutual
def szN : FNode → Nat
 | .mk _ _ _ ks => 1 + szL ks
def szL : List FNode → Nat
 | [] => 0
 | x :: r => szN x + szL r
end
mutual
def dpN : FNode → Nat
 | .mk _ _ _ ks => dpL ks + 1
def dpL : List FNode → Nat
 | [] => 0
 | x :: r => max (dpN x) (dpL r)
end
def smF (x : FNode) : Bool := decide (szN x ≤ 600) && decide (dpN x ≤ 30)
/-! ### numbers and texts -/
def emT (t : ByteArray) : Bool := t.toList.isEmpty
def statL : List UInt8 := [115, 116, 97, 116, 105, 99]
/-- The place of the first two colons. -/
def ccAt (t : ByteArray) : Option Nat := (List.range (t.size - 1)).find? fun i => bI t i == 58 && bI t (i + 1) == 58
def stcF (t : ByteArray) : Bool := match ccAt t with
 | some i => (goodF (t.extract 0 i) || (t.extract 0 i).toList == statL) && goodF (t.extract (i + 2) t.size)
 | none => false
/-- Does "<?" stand in a text? -/
def phF (t : ByteArray) : Bool := (List.range (t.size - 1)).any fun i => bI t i == 60 && bI t (i + 1) == 63
def fN (k n : Int) : Bool :=
 if k = 1 then inB n 0 1000000000 else if k = 3 then inB n 0 2 else if k = 9 then inB n 1 2 else if k = 10 then inB n 1 15 else if k = 54 then inB n 0 1 else if k = 55 then inB n 0 3 else n == 0
def gdK (k : Int) : Bool := k == 4 || (k == 8 || (k == 17 || (k == 18 || (k == 20 || (k == 40 || (k == 44 || (k == 49 || (k == 50 || (k == 51 || (k == 52 || k == 53))))))))))
def fT (k : Int) (t : ByteArray) : Bool :=
 if k = 2 then decide (t.size ≤ 400) else if k = 47 then decide (t.size ≤ 400) else if gdK k = true then goodF t else if k = 22 then (goodF t || t.toList == statL) else if k = 54 then goodF t else if k = 55 then goodF t
 else if k = 21 then stcF t else if k = 31 then (!emT t && !phF t) else emT t
/-! ### nodes -/
structure NF where
 ex : Bool
 it : Bool
 st : Bool
 bl : Bool
 ct : Bool
 fn : Bool
/-- The node that the target of an assignment leads to. -/
def tgN : FNode → Bool
 | .mk k _ _ ks => if k = 7 then (match ks with | [a, _] => tgN a | _ => false) else (k == 4 || k == 8)
def prmF (use : Bool) : Bool → List FNode → Bool
 | _, [] => true
 | seen, x :: r => (x.kd == 24 && !seen || x.kd == 25 && use) && (inB x.nu 0 1 && (goodF x.tx && (x.kids.isEmpty && prmF use (seen || x.kd == 25) r)))
def hd4 (ks : List FNode) : Bool := match ks with | x :: _ => x.kd == 4 | [] => false
def hdT (ks : List FNode) : Bool := match ks with | x :: _ => tgN x | [] => false
def usB (use : Bool) (ks : List FNode) (fs : List NF) : Bool := (match fs.getLast? with | some b => b.bl | none => false) && prmF use false ks.dropLast
def ifB (fs : List NF) : Bool := match fs with | [a, b] => a.ex && b.bl | [a, b, d] => a.ex && (b.bl && d.bl) | _ => false
def whB (fs : List NF) : Bool := match fs with | [a, b] => a.ex && b.bl | _ => false
def feB (fs : List NF) (ks : List FNode) : Bool := match fs, ks with | [a, b, d], [_, y, _] => a.ex && (b.ex && (y.kd == 4 && d.bl)) | [a, b, d, e], [_, y, z, _] => a.ex && (b.ex && (d.ex && (y.kd == 4 && (z.kd == 4 && e.bl)))) | _, _ => false
def tyB (fs : List NF) : Bool := match fs with | [a, b] => a.bl && (b.ct || b.fn) | [a, b, d] => a.bl && (b.ct && d.fn) | _ => false
def ctB (fs : List NF) (ks : List FNode) : Bool := match fs, ks with | [a, b], [y, _] => y.kd == 4 && (a.ex && b.bl) | _, _ => false
def fnB (fs : List NF) : Bool := match fs with | [b] => b.bl | _ => false
def exB (k : Int) (ks : List FNode) (fs : List NF) : Bool :=
 if k = 1 ∨ k = 2 ∨ k = 3 ∨ k = 4 then ks.length == 0 else if k = 5 then fs.all (·.it) else if k = 8 ∨ k = 9 then ks.length == 1 && fs.all (·.ex) else if k = 7 ∨ k = 10 ∨ k = 11 ∨ k = 12 ∨ k = 13 then ks.length == 2 && fs.all (·.ex)
 else if k = 14 then ks.length == 3 && fs.all (·.ex) else if k = 15 ∨ k = 16 then ks.length == 2 && (hdT ks && fs.all (·.ex)) else if k = 17 then ks.length == 1 && (hd4 ks && fs.all (·.ex)) else if k = 18 ∨ k = 21 ∨ k = 22 then fs.all (·.ex)
 else if k = 19 ∨ k = 20 then decide (1 ≤ ks.length) && fs.all (·.ex) else if k = 23 then usB true ks fs else false
def stB (k : Int) (ks : List FNode) (fs : List NF) : Bool :=
 if k = 31 ∨ k = 37 ∨ k = 38 ∨ k = 40 ∨ k = 47 then ks.length == 0 else if k = 32 ∨ k = 33 ∨ k = 42 then ks.length == 1 && fs.all (·.ex) else if k = 39 then decide (ks.length ≤ 1) && fs.all (·.ex) else if k = 41 then ks.length == 1 && (hdT ks && fs.all (·.ex))
 else if k = 34 then ifB fs else if k = 35 then whB fs else if k = 36 then feB fs ks else if k = 46 then (decide (1 ≤ ks.length ∧ ks.length ≤ 2) && (fs.all (·.ex) && (ks.length == 1 || hd4 ks))) else if k = 48 then fs.all (·.st) else if k = 43 then tyB fs else false
def nodeF (k n : Int) (t : ByteArray) (ks : List FNode) (fs : List NF) : NF :=
 { ex := (fN k n && fT k t) && exB k ks fs
   it := k == 6 && (n == 0 && (emT t && (decide (1 ≤ ks.length ∧ ks.length ≤ 2) && fs.all (·.ex))))
   bl := k == 48 && (n == 0 && (emT t && fs.all (·.st)))
   st := (fN k n && fT k t) && stB k ks fs
   ct := k == 44 && ((fN k n && fT k t) && ctB fs ks)
   fn := k == 45 && ((fN k n && fT k t) && fnB fs) }
mutual
def nf : FNode → NF
 | .mk k n t ks => nodeF k n t ks (nfL ks)
def nfL : List FNode → List NF
 | [] => []
 | x :: r => nf x :: nfL r
end
theorem nfL_map : ∀ l : List FNode, nfL l = l.map nf
 | [] => rfl
 | x :: r => by rw [nfL, nfL_map r]; rfl
def exF (x : FNode) : Bool := (nf x).ex
def itF (x : FNode) : Bool := (nf x).it
def stF (x : FNode) : Bool := (nf x).st
def blF (x : FNode) : Bool := (nf x).bl
def ctF (x : FNode) : Bool := (nf x).ct
def fnF (x : FNode) : Bool := (nf x).fn
def usF (use : Bool) (ks : List FNode) : Bool := (match ks.getLast? with | some b => blF b | none => false) && prmF use false ks.dropLast
/-! ### scripts -/
def clsF (cl : Bool) : Nat → Bool → List FNode → Bool
 | _, _, [] => true
 | sg, first, x :: r => (fN x.kd x.nu && fT x.kd x.tx) &&
   (if x.kd = 52 then (first && (cl && (x.kids.isEmpty && (sg == 0 && clsF cl 0 false r))))
    else if x.kd = 53 then (x.kids.isEmpty && (decide (sg ≤ 1) && clsF cl 1 false r))
    else if x.kd = 54 then ((match x.kids with | [y] => inB y.kd 1 3 && exF y | _ => false) && clsF cl 2 false r)
    else if x.kd = 55 then (usF false x.kids && clsF cl 2 false r) else false)
def topF (x : FNode) : Bool :=
 if x.kd = 49 then (fN x.kd x.nu && fT x.kd x.tx) && usF false x.kids
 else if x.kd = 50 ∨ x.kd = 51 then (fN x.kd x.nu && fT x.kd x.tx) && clsF (x.kd == 50) 0 true x.kids
 else stF x
def scF (x : FNode) : Bool := smF x && (x.kd == 56 && (x.nu == 0 && (emT x.tx && x.kids.all topF)))
def exK (k : Int) (ks : List FNode) : Bool :=
 if k = 1 ∨ k = 2 ∨ k = 3 ∨ k = 4 then ks.length == 0 else if k = 5 then ks.all itF else if k = 8 ∨ k = 9 then ks.length == 1 && ks.all exF else if k = 7 ∨ k = 10 ∨ k = 11 ∨ k = 12 ∨ k = 13 then ks.length == 2 && ks.all exF
 else if k = 14 then ks.length == 3 && ks.all exF else if k = 15 ∨ k = 16 then ks.length == 2 && (hdT ks && ks.all exF) else if k = 17 then ks.length == 1 && (hd4 ks && ks.all exF) else if k = 18 ∨ k = 21 ∨ k = 22 then ks.all exF
 else if k = 19 ∨ k = 20 then decide (1 ≤ ks.length) && ks.all exF else if k = 23 then usF true ks else false
def ifK (ks : List FNode) : Bool := match ks with | [a, b] => exF a && blF b | [a, b, d] => exF a && (blF b && blF d) | _ => false
def whK (ks : List FNode) : Bool := match ks with | [a, b] => exF a && blF b | _ => false
def feK (ks : List FNode) : Bool := match ks with | [a, y, d] => exF a && (exF y && (y.kd == 4 && blF d)) | [a, y, z, e] => exF a && (exF y && (exF z && (y.kd == 4 && (z.kd == 4 && blF e)))) | _ => false
def tyK (ks : List FNode) : Bool := match ks with | [a, b] => blF a && (ctF b || fnF b) | [a, b, d] => blF a && (ctF b && fnF d) | _ => false
def ctK (ks : List FNode) : Bool := match ks with | [y, b] => y.kd == 4 && (exF y && blF b) | _ => false
def fnK (ks : List FNode) : Bool := match ks with | [b] => blF b | _ => false
def stK (k : Int) (ks : List FNode) : Bool :=
 if k = 31 ∨ k = 37 ∨ k = 38 ∨ k = 40 ∨ k = 47 then ks.length == 0 else if k = 32 ∨ k = 33 ∨ k = 42 then ks.length == 1 && ks.all exF else if k = 39 then decide (ks.length ≤ 1) && ks.all exF else if k = 41 then ks.length == 1 && (hdT ks && ks.all exF)
 else if k = 34 then ifK ks else if k = 35 then whK ks else if k = 36 then feK ks else if k = 46 then (decide (1 ≤ ks.length ∧ ks.length ≤ 2) && (ks.all exF && (ks.length == 1 || hd4 ks))) else if k = 48 then ks.all stF else if k = 43 then tyK ks else false
theorem al_ex (ks : List FNode) : (nfL ks).all (·.ex) = ks.all exF := by rw [nfL_map, List.all_map]; rfl
theorem al_it (ks : List FNode) : (nfL ks).all (·.it) = ks.all itF := by rw [nfL_map, List.all_map]; rfl
theorem al_st (ks : List FNode) : (nfL ks).all (·.st) = ks.all stF := by rw [nfL_map, List.all_map]; rfl
theorem us_eq (use : Bool) (ks : List FNode) : usB use ks (nfL ks) = usF use ks := by
 unfold usF usB
 rw [nfL_map, List.getLast?_map]
 cases ks.getLast? <;> rfl
theorem if_eq (ks : List FNode) : ifB (nfL ks) = ifK ks := by
 exact zz159
theorem wh_eq (ks : List FNode) : whB (nfL ks) = whK ks := by
 rw [nfL_map]
 match ks with
 | [] => rfl
 | [_] => rfl
 | [_, _] => rfl
 | _ :: _ :: _ :: _ => rfl
theorem fe_eq (ks : List FNode) : feB (nfL ks) ks = feK ks := by
 rw [nfL_map]
 match ks with
 | [] => rfl
 | [_] => rfl
 | [_, _] => rfl
 | [_, _, _] => rfl
 | [_, _, _, _] => rfl
 | _ :: _ :: _ :: _ :: _ :: _ => rfl
theorem ty_eq (ks : List FNode) : tyB (nfL ks) = tyK ks := by
 exact zz159
theorem ct_eq (ks : List FNode) : ctB (nfL ks) ks = ctK ks := by
 rw [nfL_map]
 match ks with
 | [] => rfl
 | [_] => rfl
 | [_, _] => rfl
 | _ :: _ :: _ :: _ => rfl
theorem fn_eq (ks : List FNode) : fnB (nfL ks) = fnK ks := by
 rw [nfL_map]
 match ks with
 | [] => rfl
 | [_] => rfl
 | _ :: _ :: _ => rfl
theorem exF_mk (k n : Int) (t : ByteArray) (ks : List FNode) : exF (.mk k n t ks) = ((fN k n && fT k t) && exK k ks) := by
 show ((fN k n && fT k t) && exB k ks (nfL ks)) = _
 congr 1
 unfold exB exK
 simp only [al_ex, al_it, us_eq]
theorem itF_mk (k n : Int) (t : ByteArray) (ks : List FNode) : itF (.mk k n t ks) = (k == 6 && (n == 0 && (emT t && (decide (1 ≤ ks.length ∧ ks.length ≤ 2) && ks.all exF)))) := by
 rw [← al_ex]
 rfl
theorem blF_mk (k n : Int) (t : ByteArray) (ks : List FNode) : blF (.mk k n t ks) = (k == 48 && (n == 0 && (emT t && ks.all stF))) := by
 rw [← al_st]
 rfl
theorem stF_mk (k n : Int) (t : ByteArray) (ks : List FNode) : stF (.mk k n t ks) = ((fN k n && fT k t) && stK k ks) := by
 show ((fN k n && fT k t) && stB k ks (nfL ks)) = _
 congr 1
 unfold stB stK
 simp only [al_ex, al_st, if_eq, wh_eq, fe_eq, ty_eq]
theorem ctF_mk (k n : Int) (t : ByteArray) (ks : List FNode) : ctF (.mk k n t ks) = (k == 44 && ((fN k n && fT k t) && ctK ks)) := by
 rw [← ct_eq]
 rfl
theorem fnF_mk (k n : Int) (t : ByteArray) (ks : List FNode) : fnF (.mk k n t ks) = (k == 45 && ((fN k n && fT k t) && fnK ks)) := by
 rw [← fn_eq]
 rfl
theorem blF_48 (n : Int) (t : ByteArray) (ks : List FNode) : stF (.mk 48 n t ks) = blF (.mk 48 n t ks) := by
 rw [stF_mk, blF_mk]
 have h1 : fN 48 n = (n == 0) := rfl
 have h2 : fT 48 t = emT t := rfl
 have h3 : stK 48 ks = ks.all stF := rfl
 rw [h1, h2, h3]
 simp [Bool.and_assoc]
theorem szN_pos0 : ∀ x : FNode, 0 < szN x
 | .mk _ _ _ ks => by rw [szN]; omega
theorem szL_mem : ∀ (l : List FNode) (x : FNode), x ∈ l → szN x ≤ szL l
 | [], _, h => absurd h List.not_mem_nil
 | y :: r, x, h => by
  rw [szL]
  rcases List.mem_cons.mp h with rfl | h
  ·omega
  ·have := szL_mem r x h
   omega
mutual
theorem szN_wt : ∀ x : FNode, szN x ≤ x.wt + 1
 | .mk k n t ks => by
  have := szL_wt ks
  rw [szN, FNode.wt_eq]
  omega
theorem szL_wt : ∀ l : List FNode, szL l ≤ FNode.wts l + l.length
 | [] => by rw [szL]; omega
 | x :: r => by
  have h1 := szN_wt x
  have h2 := szL_wt r
  rw [szL, FNode.wts, List.length_cons]
  omega
end
theorem szL_take : ∀ (l : List FNode) (k : Nat) (x : FNode), l[k]? = some x → szL (l.take (k + 1)) = szL (l.take k) + szN x
 | [], k, x, h => by simp at h
 | y :: r, 0, x, h => by
  obtain rfl : y = x := by simpa using h
  simp [szL]
 | y :: r, k + 1, x, h => by
  rw [List.take_succ_cons, List.take_succ_cons, szL, szL, szL_take r k x (by simpa using h)]
  omega
theorem szL_le : ∀ (l : List FNode) (k : Nat), szL (l.take k) ≤ szL l
 | [], k => by simp
 | y :: r, 0 => by simp [szL]
 | y :: r, k + 1 => by
  rw [List.take_succ_cons, szL, szL]
  have := szL_le r k
  omega
mutual
theorem dpN_sz : ∀ x : FNode, dpN x ≤ szN x
 | .mk k n t ks => by
  have := dpL_sz ks
  rw [szN, dpN]
  omega
theorem dpL_sz : ∀ l : List FNode, dpL l ≤ szL l
 | [] => by rw [szL, dpL]; omega
 | x :: r => by
  have h1 := dpN_sz x
  have h2 := dpL_sz r
  rw [szL, dpL]
  omega
end
theorem dpL_take : ∀ (l : List FNode) (k : Nat) (x : FNode), l[k]? = some x → dpL (l.take (k + 1)) = max (dpL (l.take k)) (dpN x)
 | [], k, x, h => by simp at h
 | y :: r, 0, x, h => by
  obtain rfl : y = x := by simpa using h
  simp [dpL]
 | y :: r, k + 1, x, h => by
  rw [List.take_succ_cons, List.take_succ_cons, dpL, dpL, dpL_take r k x (by simpa using h)]
  omega
theorem dpL_le : ∀ (l : List FNode) (k : Nat), dpL (l.take k) ≤ dpL l
 | [], k => by simp
 | y :: r, 0 => by simp [dpL]
 | y :: r, k + 1 => by
  rw [List.take_succ_cons, dpL, dpL]
  have := dpL_le r k
  omega
theorem kid_sz {x y : FNode} (h : y ∈ x.kids) : szN y < szN x := by
 obtain ⟨k, n, t, ks⟩ := x
 have := szL_mem ks y h
 rw [szN]
 omega
def imax (a b : Int) : Int := if a < b then b else a
theorem max_i (a b : Int) (w : World) : Calls Tryz.prog 131 #[.int .i64 a, .int .i64 b] w fun e w' => e = .returned (.int .i64 (imax a b)) ∧ w = w' := by
 have hd : (a < b) = (a < b) := rfl
 unfold imax
 by_cases h : a < b
 ·rw [if_pos h]
  go_enter Tryz.func131, Tryz.ntmps131
  exact zz141
 ·rw [if_neg h]
  go_enter Tryz.func131, Tryz.ntmps131
  exact zz141
theorem max_s (a b : Int) (w : World) : Calls Tryz.prog 123 #[.int .i64 a, .int .i64 b] w fun e w' => e = .returned (.int .i64 (imax a b)) ∧ w = w' := by
 have hd : (a < b) = (a < b) := rfl
 unfold imax
 by_cases h : a < b
 ·rw [if_pos h]
  go_enter Tryz.func123, Tryz.ntmps123
  exact zz141
 ·rw [if_neg h]
  go_enter Tryz.func123, Tryz.ntmps123
  exact zz141
def SzI (x : FNode) : Prop := ∀ (us : List Value) (w : World) (B : Nat), B ≤ w.heap.size → RdVs w B x.c us → Calls Tryz.prog 102 #[.agg us.toArray] w fun e w' => e = .returned (.int .i64 (szN x : Nat)) ∧ Below w.heap.size w w'
theorem szI_of (z0 z1 : Int) (z2 : ByteArray) (z3 : List FNode) (hw : (FNode.mk z0 z1 z2 z3).wt ≤ 1000000000) (hE : ∀ x, x ∈ z3 → SzI x) : SzI ⟨z0, z1, z2, z3⟩ := by
 intro us w B hB0 hr
 obtain ⟨A3, c3, rfl, r3⟩ := hr.node
 have hsz := szN_wt ⟨z0, z1, z2, z3⟩
 rw [szN] at hsz
 have hdz := dpL_sz z3
 rw [FNode.wt_eq] at hw hsz
 have hl : z3.length ≤ 9223372036854775807 := qaa
 have hS : szL z3 ≤ 2000000000 := qaa
 have HC := hid r3
 have HE := hid hE
 clear hr r3 hw hE hsz
 go_enter Tryz.func102, Tryz.ntmps102
 go_wp2_with fail
 go_loopw [9, 3] (fun i s wr => ∃ k : Nat, k ≤ z3.length ∧ i = .int .i64 k ∧ s = .int .i64 (1 + szL (z3.take k) : Nat) ∧ Below w.heap.size w wr) (fun i _ _ => z3.length - (intOf i).toNat)
 case atStart => exact ⟨0, Nat.zero_le _, rfl, by simp [szL, dpL], (Below.refl _ _).alloc nr _⟩
 case round =>
  obtain ⟨k, hk, rfl, rfl, hb⟩ := hrel
  have hbs := hb.size
  by_cases hlt : k < z3.length
  ·skip
   obtain ⟨x, hx⟩ : ∃ x, z3[k]? = some x := ⟨_, List.getElem?_eq_getElem hlt⟩
   obtain ⟨bc, offc, rfl, hblc, hcc⟩ := RdC.at_ FNode.len HC.out hx
   have HX := hid hx
   have HM := hid (List.mem_of_getElem? hx)
   clear hx
   obtain ⟨y0, y1, y2, y3⟩ := x
   obtain ⟨D, d, c_0, c_1, c_2, c_3, q3⟩ := opN hb qaa hcc (offc + k * 4) (offc + k * 4 + 1) (offc + k * 4 + 2) (offc + k * 4 + 3) qaa
   have Q3 := hid q3
   clear hcc q3
   have HV := hid (HE.out _ HM.out)
   have hb2 := hb.alloc hbs (.cells #[.int .i64 y0, .int .i64 y1, .string y2, .slice D y3.length d] 44)
   have CALL := hid (HV.out [.int .i64 y0, .int .i64 y1, .string y2, .slice D y3.length d] _ w.heap.size hb2.size (ndV ((Q3.out.up hB0).below hb2 nr)))
   have t1 := szL_take z3 k _ HX.out
   have t2 := szL_le z3 (k + 1)
   have t3 := dpL_take z3 k _ HX.out
   obtain ⟨N, hN⟩ : ∃ N, szN ⟨y0, y1, y2, y3⟩ = N := ⟨_, rfl⟩
   obtain ⟨P, hP⟩ : ∃ P, dpN ⟨y0, y1, y2, y3⟩ = P := ⟨_, rfl⟩
   rw [hN] at t1
   rw [hP] at t3
   try rw [hN] at CALL
   try rw [hP] at CALL
   go_wp2_with ((go_at_call 102; refine CALL.out.mono ?_; rintro e w2 ⟨rfl, hb3⟩))
   go_roundw
   case rel => exact ⟨k + 1, by omega, by go_num, by rw [t1]; go_num, hb2.trans (hb3.mono hb2.size)⟩
   case measure => simp [intOf]; omega
  ·obtain rfl : k = z3.length := qaa
   clear hlt
   go_wp2_with fail
   go_ret
   rw [List.take_length]
   exact ⟨by rfl, hb⟩
theorem szI : ∀ (N : Nat) (x : FNode), szN x ≤ N → x.wt ≤ 1000000000 → SzI x
 | 0, x, h, _ => absurd (szN_pos0 x) qaa
 | N + 1, ⟨k, z1, z2, z3⟩, h, hw => szI_of k z1 z2 z3 hw fun y hy => szI N y qau (by
   have h1 := FNode.wts_at z3 y hy
   rw [FNode.wt_eq] at hw
   omega)
def DpI (x : FNode) : Prop := ∀ (us : List Value) (w : World) (B : Nat), B ≤ w.heap.size → RdVs w B x.c us → Calls Tryz.prog 103 #[.agg us.toArray] w fun e w' => e = .returned (.int .i64 (dpN x : Nat)) ∧ Below w.heap.size w w'
theorem dpI_of (z0 z1 : Int) (z2 : ByteArray) (z3 : List FNode) (hw : (FNode.mk z0 z1 z2 z3).wt ≤ 1000000000) (hE : ∀ x, x ∈ z3 → DpI x) : DpI ⟨z0, z1, z2, z3⟩ := by
 intro us w B hB0 hr
 obtain ⟨A3, c3, rfl, r3⟩ := hr.node
 have hsz := szN_wt ⟨z0, z1, z2, z3⟩
 rw [szN] at hsz
 have hdz := dpL_sz z3
 rw [FNode.wt_eq] at hw hsz
 have hl : z3.length ≤ 9223372036854775807 := qaa
 have hS : szL z3 ≤ 2000000000 := qaa
 have HC := hid r3
 have HE := hid hE
 clear hr r3 hw hE hsz
 go_enter Tryz.func103, Tryz.ntmps103
 go_wp2_with fail
 go_loopw [9, 3] (fun i s wr => ∃ k : Nat, k ≤ z3.length ∧ i = .int .i64 k ∧ s = .int .i64 (dpL (z3.take k) : Nat) ∧ Below w.heap.size w wr) (fun i _ _ => z3.length - (intOf i).toNat)
 case atStart => exact ⟨0, Nat.zero_le _, rfl, by simp [szL, dpL], (Below.refl _ _).alloc nr _⟩
 case round =>
  obtain ⟨k, hk, rfl, rfl, hb⟩ := hrel
  have hbs := hb.size
  by_cases hlt : k < z3.length
  ·skip
   obtain ⟨x, hx⟩ : ∃ x, z3[k]? = some x := ⟨_, List.getElem?_eq_getElem hlt⟩
   obtain ⟨bc, offc, rfl, hblc, hcc⟩ := RdC.at_ FNode.len HC.out hx
   have HX := hid hx
   have HM := hid (List.mem_of_getElem? hx)
   clear hx
   obtain ⟨y0, y1, y2, y3⟩ := x
   obtain ⟨D, d, c_0, c_1, c_2, c_3, q3⟩ := opN hb qaa hcc (offc + k * 4) (offc + k * 4 + 1) (offc + k * 4 + 2) (offc + k * 4 + 3) qaa
   have Q3 := hid q3
   clear hcc q3
   have HV := hid (HE.out _ HM.out)
   have hb2 := hb.alloc hbs (.cells #[.int .i64 y0, .int .i64 y1, .string y2, .slice D y3.length d] 44)
   have CALL := hid (HV.out [.int .i64 y0, .int .i64 y1, .string y2, .slice D y3.length d] _ w.heap.size hb2.size (ndV ((Q3.out.up hB0).below hb2 nr)))
   have t1 := szL_take z3 k _ HX.out
   have t2 := szL_le z3 (k + 1)
   have t3 := dpL_take z3 k _ HX.out
   obtain ⟨N, hN⟩ : ∃ N, szN ⟨y0, y1, y2, y3⟩ = N := ⟨_, rfl⟩
   obtain ⟨P, hP⟩ : ∃ P, dpN ⟨y0, y1, y2, y3⟩ = P := ⟨_, rfl⟩
   rw [hN] at t1
   rw [hP] at t3
   try rw [hN] at CALL
   try rw [hP] at CALL
   go_wp2_with (first | (go_at_call 103; refine CALL.out.mono ?_; rintro e w2 ⟨rfl, hb3⟩) | (go_at_call 131; refine zkp (max_i _ _ _) ?_))
   go_roundw
   case rel => exact ⟨k + 1, by omega, by go_num, by rw [t3]; unfold imax; split <;> (congr 1; omega), hb2.trans (hb3.mono hb2.size)⟩
   case measure => simp [intOf]; omega
  ·exact zz144
theorem dpI : ∀ (N : Nat) (x : FNode), szN x ≤ N → x.wt ≤ 1000000000 → DpI x
 | 0, x, h, _ => absurd (szN_pos0 x) qaa
 | N + 1, ⟨k, z1, z2, z3⟩, h, hw => dpI_of k z1 z2 z3 hw fun y hy => dpI N y qau (by
   have h1 := FNode.wts_at z3 y hy
   rw [FNode.wt_eq] at hw
   omega)
/-- The row lies where it lay, or in a block that is new since w. -/
def RowTo (r r' : Option Nat) (w : World) : Prop := r' = r ∨ ∃ g, r' = some g ∧ w.heap.size ≤ g
theorem grown_next {a b c : World} {r r' : Option Nat} (h : a.grownBy b r) (t : RowTo r r' a) (k : b.grownBy c r') : a.grownBy c r := by
 refine ⟨k.os.trans h.os, k.tape.trans h.tape, k.output.trans h.output, Nat.le_trans h.size k.size, fun i hi hn => ?_⟩
 have hs := h.size
 refine (k.block i qaa ?_).trans (h.block i hi hn)
 rcases t with rfl | ⟨g, rfl, hg⟩
 ·exact hn
 ·exact fun e => by have := Option.some.inj e; omega
theorem RowTo.next {a b : World} {r r' r'' : Option Nat} (h : RowTo r r' a) (k : RowTo r' r'' b) (hs : a.heap.size ≤ b.heap.size) : RowTo r r'' a := by
 rcases k with rfl | ⟨g, rfl, hg⟩
 ·exact h
 ·exact .inr ⟨g, rfl, by omega⟩
/-- A row of strings of one's own that grows: at world v, since world w. -/
structure VsS (w v : World) (base : Nat) (r0 : Option Nat) (A : Option Addr) (c : Nat) (l : List FStr) : Prop where
 own : v.ownsRow base 9 1 (.slice A l.length c) l.length (sVals l)
 fr : w.grownBy v r0
 rt : RowTo r0 (Value.slice A l.length c).ownBlock w
section
variable {w v v' : World} {base : Nat} {r0 : Option Nat} {A : Option Addr} {c : Nat} {l : List FStr}
theorem VsS.start (h : w.ownsRow base 9 1 (.slice A l.length c) l.length (sVals l)) : VsS w w base (Value.slice A l.length c).ownBlock A c l := ⟨h, grown_refl _ _, .inl rfl⟩
theorem VsS.below (h : VsS w v base r0 A c l) (hb : Below v.heap.size v v') : VsS w v' base r0 A c l :=
 ⟨own_below h.own hb nr, grown_next h.fr h.rt (grown_below hb), h.rt⟩
theorem VsS.app (h : VsS w v base r0 A c l) (s : ByteArray) {v2 : World} {u2 : Value} (ho : v2.ownsRow base 9 1 u2 (l.length + 1) (sVals l ++ [.string s])) (hg : v.grownBy v2 (Value.slice A l.length c).ownBlock) (ha : u2.ownBlock = (Value.slice A l.length c).ownBlock ∨ u2.ownBlock = some v.heap.size) :
  ∃ A' c', u2 = .slice A' (l ++ [(⟨s⟩ : FStr)]).length c' ∧ VsS w v2 base r0 A' c' (l ++ [⟨s⟩]) := by
 obtain ⟨A', c', rfl⟩ := own_form ho
 have e : (l ++ [(⟨s⟩ : FStr)]).length = l.length + 1 := by simp
 refine ⟨A', c', by rw [e], by rw [e, sVals_snoc]; exact ho, grown_next h.fr h.rt hg, ?_⟩
 rw [e]
 refine h.rt.next (b := v) ?_ h.fr.size
 rcases ha with ha | ha
 ·exact .inl ha
 ·exact .inr ⟨_, ha, Nat.le_refl _⟩
theorem VsS.lo (h : VsS w v base r0 A c l) (hr : ∀ g, r0 = some g → base ≤ g) (hB : base ≤ w.heap.size) : Below base w v :=
 ⟨h.fr.os, h.fr.tape, h.fr.output, h.fr.size, fun i hi => h.fr.block i qaa (fun e => by have := hr i e.symm; omega)⟩
end
end Go.Proofs.YtkkjnfappndmpaaGreatDoor
