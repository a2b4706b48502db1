/-
  FindField: plain; and what fieldAt returns. Conditions: none.
-/
import Derived.Test.YtphcpllafddpfaaFindM
import Derived.Test.YtphcpllafddpfaaCopyV
namespace Go.Proofs.Ytphcpllafddpfaa
open Go.ChangeShapes Go.WideShapes Go.ChangeAt Go.RowKit Go.Deep Go.Joins
open Go.ChangeMaps (open_string shut_string)
set_option linter.unusedVariables false
set_option linter.unusedSimpArgs false
set_option maxRecDepth 100000
def FField.nm : FField → ByteArray
  | ⟨z0, _, _, ⟨_, _, _, _, _⟩⟩ => z0
theorem fieldAt1_any (z0 : ByteArray) (z1 : ByteArray) (z2 : Bool) (z3 : Int) (z4 : Int) (z5 : ByteArray) (z6 : Int) (z7 : List FEntry) (Az7 : Option Addr) (cz7 : Nat) (s : ByteArray) (b : Nat) (w : World) (hb : b < w.heap.size) (hc : w.cell? ⟨b, 0, none⟩ = some (.string s)) :
    Calls Try.prog 43 #[.agg #[.string z0, .string z1, .bool z2, .int .i64 z3, .int .i64 z4, .string z5, .int .i64 z6, .slice Az7 z7.length cz7], .pointer (some ⟨b, 0, none⟩)] w fun e w' => e = .returned (.bool (z0.toList == s.toList)) ∧ Below w.heap.size w w' := by
  go_enter Try.func43, Try.ntmps43
  go_wp2_with fail
  go_ret
  exact ⟨rfl, (Below.refl _ _).alloc (Nat.le_refl _) _⟩
set_option maxHeartbeats 1000000 in
theorem indexField_any (l : List FField) (s : ByteArray) (u : Value) (b : Nat) (w : World) (hl : l.length ≤ 1000000000) {B : Nat} (hB0 : B ≤ w.heap.size) (hb0 : b < w.heap.size) (hc : w.cell? ⟨b, 0, none⟩ = some (.string s)) (hr0 : RdC w B (.s 39 8 l.length (FField.flat l)) u) :
    Calls Try.prog 42 #[u, .func (Fn.func 43) #[] #[.pointer (some ⟨b, 0, none⟩)]] w fun e w' => e = .returned (.int .i64 (fidx FField.nm l s)) ∧ Below w.heap.size w w' := by
  have hr := hr0.up hB0
  clear hr0
  obtain ⟨A, c, rfl⟩ := hr.form
  have HC := Lib.hid hr
  have hn : l.length ≤ 9223372036854775807 := by omega
  have HCC := Lib.hid hc
  clear hr hc
  go_enter Try.func42, Try.ntmps42
  go_wp2_with fail
  go_loopw [8] (fun i wr => ∃ k : Nat, k ≤ l.length ∧ i = .int .i64 k ∧ (∀ (j : Nat) (y : FField), j < k → l[j]? = some y → ((FField.nm y).toList == s.toList) = false) ∧ Below w.heap.size w wr) (fun i _ => l.length - (intOf i).toNat)
  case atStart => exact ⟨0, Nat.zero_le _, rfl, fun j y hj => absurd hj (by omega), Below.refl _ _⟩
  case round =>
    obtain ⟨k, hk, rfl, hno, hb⟩ := hrel
    have HNO := Lib.hid hno
    clear hno
    by_cases hlt : k < l.length
    · obtain ⟨x, hx⟩ : ∃ x, l[k]? = some x := ⟨_, List.getElem?_eq_getElem hlt⟩
      obtain ⟨bc, offc, rfl, hblc, hcc⟩ := RdC.at_ FField.len HC.out hx
      have HX := Lib.hid hx
      have hbs := hb.size
      have HS := Lib.hid ((hb.cell (p := ⟨b, 0, none⟩) hb0).trans HCC.out)
      clear hx
      obtain ⟨z0, z1, z2, ⟨z3, z4, z5, z6, z7⟩⟩ := x
      rw [FField.c_eq] at hcc
      obtain ⟨u0, e0, q0⟩ := hcc 0 _ rfl
      obtain rfl := q0.val
      have kz_0 : wr.cell? ⟨bc, offc + k * 8, none⟩ = some (.string z0) := (hb.cell (p := ⟨bc, _, none⟩) hblc).trans (by simpa using e0)
      obtain ⟨u1, e1, q1⟩ := hcc 1 _ rfl
      obtain rfl := q1.val
      have kz_1 : wr.cell? ⟨bc, offc + k * 8 + 1, none⟩ = some (.string z1) := (hb.cell (p := ⟨bc, _, none⟩) hblc).trans (by simpa using e1)
      obtain ⟨u2, e2, q2⟩ := hcc 2 _ rfl
      obtain rfl := q2.val
      have kz_2 : wr.cell? ⟨bc, offc + k * 8 + 2, none⟩ = some (.bool z2) := (hb.cell (p := ⟨bc, _, none⟩) hblc).trans (by simpa using e2)
      obtain ⟨u3, e3, q3⟩ := hcc 3 _ rfl
      obtain rfl := q3.val
      have kz_3 : wr.cell? ⟨bc, offc + k * 8 + 3, none⟩ = some (.int .i64 z3) := (hb.cell (p := ⟨bc, _, none⟩) hblc).trans (by simpa using e3)
      obtain ⟨u4, e4, q4⟩ := hcc 4 _ rfl
      obtain rfl := q4.val
      have kz_4 : wr.cell? ⟨bc, offc + k * 8 + 4, none⟩ = some (.int .i64 z4) := (hb.cell (p := ⟨bc, _, none⟩) hblc).trans (by simpa using e4)
      obtain ⟨u5, e5, q5⟩ := hcc 5 _ rfl
      obtain rfl := q5.val
      have kz_5 : wr.cell? ⟨bc, offc + k * 8 + 5, none⟩ = some (.string z5) := (hb.cell (p := ⟨bc, _, none⟩) hblc).trans (by simpa using e5)
      obtain ⟨u6, e6, q6⟩ := hcc 6 _ rfl
      obtain rfl := q6.val
      have kz_6 : wr.cell? ⟨bc, offc + k * 8 + 6, none⟩ = some (.int .i64 z6) := (hb.cell (p := ⟨bc, _, none⟩) hblc).trans (by simpa using e6)
      obtain ⟨u7, e7, q7⟩ := hcc 7 _ rfl
      obtain ⟨Az7, cz7, rfl⟩ := q7.form
      have Qz7 := Lib.hid q7
      have kz_7 : wr.cell? ⟨bc, offc + k * 8 + 7, none⟩ = some (.slice Az7 z7.length cz7) := (hb.cell (p := ⟨bc, _, none⟩) hblc).trans (by simpa using e7)
      clear hcc e0 q0 e1 q1 e2 q2 e3 q3 e4 q4 e5 q5 e6 q6 e7 q7
      go_wp2_with fail
      refine (fieldAt1_any z0 z1 z2 z3 z4 z5 z6 z7 _ _ s b _ (by omega) HS.out).mono ?_
      by_cases hq : (z0.toList == s.toList) = true
      · have HQ := Lib.hid hq
        rw [hq]
        clear hq
        rintro e w2 ⟨rfl, hb2⟩
        go_wp2_with fail
        go_ret
        exact ⟨ret_int (fidx_hit HX.out HQ.out HNO.out).symm, hb.trans (hb2.mono hbs)⟩
      · have hq' : (z0.toList == s.toList) = false := by simpa using hq
        have HQ := Lib.hid hq'
        rw [hq']
        clear hq hq'
        rintro e w2 ⟨rfl, hb2⟩
        go_wp2_with fail
        go_roundw
        case rel =>
          refine ⟨k + 1, by omega, by go_num, fun j y hj hjy => ?_, hb.trans (hb2.mono hbs)⟩
          by_cases e : j = k
          · subst e
            rw [HX.out] at hjy
            injection hjy with hjy
            subst hjy
            exact HQ.out
          · exact HNO.out j y (by omega) hjy
        case measure => simp [intOf]; omega
    · obtain rfl : k = l.length := by omega
      clear hlt
      go_wp2_with fail
      go_ret
      exact ⟨ret_int (fidx_miss fun j y hy => HNO.out j y (List.getElem?_eq_some_iff.1 hy).1 hy).symm, hb⟩
theorem fieldAt_any (l : List FField) (s : ByteArray) (u : Value) (w : World) (hl : l.length ≤ 1000000000) {B : Nat} (hB0 : B ≤ w.heap.size) (hr : RdC w B (.s 39 8 l.length (FField.flat l)) u) :
    Calls Try.prog 26 #[u, .string s] w fun e w' => e = .returned (.int .i64 (fidx FField.nm l s)) ∧ Below w.heap.size w w' := by
  have HR := Lib.hid hr
  clear hr
  go_enter Try.func26, Try.ntmps26
  go_wp2_with fail
  refine (indexField_any l s u _ _ hl (B := B) (by simp; omega) (by simp) (World.cell?_alloc_new _ _ _ _) (HR.out.below ((Below.refl _ _).alloc (Nat.le_refl _) _) hB0)).mono ?_
  rintro e w2 ⟨rfl, hb2⟩
  go_wp2_with fail
  go_ret
  exact ⟨rfl, ((Below.refl _ _).alloc (Nat.le_refl _) _).trans (hb2.mono (by simp))⟩

def FClass.fields : FClass → List FField
  | ⟨_, _, l, _⟩ => l
def ffO (l : List FClass) (a s : ByteArray) : Option FField := (atI l (fidx FClass.nm l a)).bind fun c => atI c.fields (fidx FField.nm c.fields s)
def zeroF : FField := ⟨⟨#[]⟩, ⟨#[]⟩, false, .mk 0 0 ⟨#[]⟩ 0 []⟩
def ffQ (l : List FClass) (a s : ByteArray) : FField := (ffO l a s).getD zeroF
def ffB (l : List FClass) (a s : ByteArray) : Bool := (ffO l a s).isSome
theorem ff_no1 {l : List FClass} {a s : ByteArray} (h : fidx FClass.nm l a = -1) : ffQ l a s = zeroF ∧ ffB l a s = false := by
  unfold ffQ ffB ffO
  rw [h, atI_neg]
  exact ⟨rfl, rfl⟩
theorem ff_no2 {l : List FClass} {a s : ByteArray} {k : Nat} {x : FClass} (h : fidx FClass.nm l a = k) (hx : l[k]? = some x) (h2 : fidx FField.nm x.fields s = -1) : ffQ l a s = zeroF ∧ ffB l a s = false := by
  unfold ffQ ffB ffO
  rw [h, atI_nat hx]
  simp only [Option.bind]
  rw [h2, atI_neg]
  exact ⟨rfl, rfl⟩
theorem ff_yes {l : List FClass} {a s : ByteArray} {k m : Nat} {x : FClass} {y : FField} (h : fidx FClass.nm l a = k) (hx : l[k]? = some x) (h2 : fidx FField.nm x.fields s = m) (hy : x.fields[m]? = some y) : ffQ l a s = y ∧ ffB l a s = true := by
  unfold ffQ ffB ffO
  rw [h, atI_nat hx]
  simp only [Option.bind]
  rw [h2, atI_nat hy]
  exact ⟨rfl, rfl⟩
theorem fields_wt {l : List FClass} {x : FClass} {k : Nat} (hx : l[k]? = some x) : x.fields.length + FField.wts x.fields ≤ FClass.wts l := by
  have h1 := FClass.wts_at l x (List.mem_of_getElem? hx)
  obtain ⟨z0, z1, z2, z3⟩ := x
  rw [FClass.wt_eq] at h1
  show z2.length + FField.wts z2 ≤ _
  omega
theorem zeroF_wt : zeroF.wt = 0 := by unfold zeroF; rw [FField.wt_eq]; rfl
theorem ffQ_wt (l : List FClass) (a s : ByteArray) : (ffQ l a s).wt ≤ FClass.wts l := by
  unfold ffQ
  cases h : ffO l a s with
  | none =>
    show zeroF.wt ≤ _
    rw [zeroF_wt]
    omega
  | some y =>
    show y.wt ≤ _
    unfold ffO at h
    obtain ⟨c, hc, hy⟩ := Option.bind_eq_some_iff.1 h
    obtain ⟨k, hk⟩ := List.mem_iff_getElem?.1 (atI_some hc)
    have h1 := fields_wt hk
    have h2 := FField.wts_at _ y (atI_some hy)
    omega
/-- The value of a field. -/
def FField.init : FField → FValue
  | ⟨_, _, _, v⟩ => v
theorem init_wt (x : FField) : x.init.wt ≤ x.wt := by
  obtain ⟨y0, y1, y2, ⟨y3, y4, y5, y6, y7⟩⟩ := x
  show FValue.wt (.mk y3 y4 y5 y6 y7) ≤ _
  rw [FField.wt_eq, FValue.wt_eq]
  omega
theorem rd_init {w : World} {B : Nat} {y3 y4 y6 : Int} {y5 : ByteArray} {y7 : List FEntry} {v : Value} (h : RdC w B (.s 75 8 y7.length (FEntry.flat y7)) v) : RdVs w B (FValue.mk y3 y4 y5 y6 y7).c [.int .i64 y3, .int .i64 y4, .string y5, .int .i64 y6, v] := by
  rw [FValue.c_eq]
  exact RdVs.cons (by unfold RdC; rfl) (RdVs.cons (by unfold RdC; rfl) (RdVs.cons (by unfold RdC; rfl) (RdVs.cons (by unfold RdC; rfl) (RdVs.cons h (RdVs.nil _ _)))))
theorem rd_field {w : World} {B : Nat} {y0 y1 y5 : ByteArray} {y2 : Bool} {y3 y4 y6 : Int} {y7 : List FEntry} {v : Value} (h : RdC w B (.s 75 8 y7.length (FEntry.flat y7)) v) : RdVs w B (FField.c ⟨y0, y1, y2, .mk y3 y4 y5 y6 y7⟩) [.string y0, .string y1, .bool y2, .int .i64 y3, .int .i64 y4, .string y5, .int .i64 y6, v] := by
  rw [FField.c_eq]
  exact RdVs.cons (by unfold RdC; rfl) (RdVs.cons (by unfold RdC; rfl) (RdVs.cons (by unfold RdC; rfl) (RdVs.cons (by unfold RdC; rfl) (RdVs.cons (by unfold RdC; rfl) (RdVs.cons (by unfold RdC; rfl) (RdVs.cons (by unfold RdC; rfl) (RdVs.cons h (RdVs.nil _ _))))))))
theorem rd_nilE (w : World) (B : Nat) : RdC w B (.s 75 8 ([] : List FEntry).length (FEntry.flat [])) (.slice none 0 0) := by
  unfold RdC
  exact ⟨none, 0, rfl, Nat.le_refl _, by unfold maxLen; omega, rfl, fun h => absurd h (by simp)⟩
theorem and_of_below {a b : Prop} (h1 : b) (h2 : b → a) : a ∧ b := ⟨h2 h1, h1⟩
end Go.Proofs.Ytphcpllafddpfaa
