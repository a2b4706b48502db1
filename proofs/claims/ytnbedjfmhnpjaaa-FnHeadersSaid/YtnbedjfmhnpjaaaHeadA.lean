/-
  SetHeader: plain; and what the search for a header's name returns. Conditions: none.
-/
import Derived.Test.YtnbedjfmhnpjaaaOutM
import Derived.Test.YtnbedjfmhnpjaaaHdr
import Derived.Test.YtnbedjfmhnpjaaaFind
namespace Go.Proofs.Ytnbedjfmhnpjaaa
open Go.ChangeShapes Go.WideShapes Go.ChangeAt Go.RowKit Go.Deep Go.Joins
open Go.ChangeMaps (open_string shut_string)
set_option linter.unusedVariables false
set_option linter.unusedSimpArgs false
set_option maxRecDepth 100000
theorem own_hat {w : World} {base k c4 : Nat} {e : TypeId} {A4 : Option Addr} {l : List FHeader} {x : FHeader} (h : w.ownsRow base e 2 (.slice A4 l.length c4) l.length (FHeader.flat l)) (hx : l[k]? = some x) :
    ∃ g, A4 = some ⟨g, 0, none⟩ ∧ base ≤ g ∧ g < w.heap.size ∧ w.cell? ⟨g, k * 2, none⟩ = some (.string x.a0) ∧ w.cell? ⟨g, k * 2 + 1, none⟩ = some (.string x.a1) ∧ (∀ i, w.frozen? ⟨g, i, none⟩ = false) := by
  have hk : k < l.length := (List.getElem?_eq_some_iff.1 hx).1
  rcases own_row h with ⟨hv, h0, _⟩ | ⟨g, cap1, f, hv, hg, hn, hc, hrow, hf⟩
  · omega
  · injection hv with e1 e2 e3
    subst e1 e3
    refine ⟨g, rfl, hg, hrow.lt, ?_, ?_, hrow.frozen⟩
    · have e := hf (k * 2) (by omega)
      rw [hrow.cell (by omega), ← e]
      have := flat_get FHeader.len l k x hx 0 (by omega)
      exact this
    · have e := hf (k * 2 + 1) (by omega)
      rw [hrow.cell (by omega), ← e]
      exact flat_get FHeader.len l k x hx 1 (by omega)
theorem hflat_set (l : List FHeader) (n : Nat) (x y : FHeader) (hx : l[n]? = some x) (h0 : y.a0 = x.a0) : FHeader.flat (l.set n y) = (FHeader.flat l).set (n * 2 + 1) (.string y.a1) := by
  induction l generalizing n with
  | nil => cases hx
  | cons a t ih =>
    cases n with
    | zero =>
      have : a = x := by simpa using hx
      subst this
      show [Value.string y.a0, Value.string y.a1] ++ FHeader.flat t = _
      rw [h0]
      rfl
    | succ n =>
      show [Value.string a.a0, Value.string a.a1] ++ FHeader.flat (t.set n y) = ([Value.string a.a0, Value.string a.a1] ++ FHeader.flat t).set _ _
      rw [ih n (by simpa using hx), show (n + 1) * 2 + 1 = (n * 2 + 1) + 2 from by omega]
      rfl
theorem Bx.grown {w w' : World} {b : Nat} {t : TypeId} {c0 c1 c2 : Value} {row : Option Nat} (h : Bx w b t c0 c1 c2) (hg : w.grownBy w' row) (hne : some b ≠ row) : Bx w' b t c0 c1 c2 := (hg.block b h.lt hne).trans h
def hdSet (o : Out) (k : Nat) (x : FHeader) (vl : ByteArray) : Out := ⟨o.sent, o.heads.set k ⟨x.a0, vl⟩, o.bufs⟩
def hdApp (o : Out) (nm vl : ByteArray) : Out := ⟨o.sent, o.heads ++ [⟨nm, vl⟩], o.bufs⟩
def hdP (o : Out) (nm vl : ByteArray) : Out × Int :=
  if o.sent.toList.isEmpty = false then (o, 1)
  else if hnF nm = false then (o, 2)
  else if hvF vl = false then (o, 3)
  else match o.heads.findIdx? (fun x => x.a0.toList == nm.toList) with
    | some k => (match o.heads[k]? with | some x => (hdSet o k x vl, 0) | none => (o, 0))
    | none => if 8 ≤ o.heads.length then (o, 4) else (hdApp o nm vl, 0)
/-- The ways of SetHeader. -/
theorem hd_ways (o : Out) (nm vl : ByteArray) :
    (o.sent.toList.isEmpty = false ∧ hdP o nm vl = (o, 1)) ∨
    (o.sent.toList.isEmpty = true ∧ hnF nm = false ∧ hdP o nm vl = (o, 2)) ∨
    (o.sent.toList.isEmpty = true ∧ hnF nm = true ∧ hvF vl = false ∧ hdP o nm vl = (o, 3)) ∨
    (o.sent.toList.isEmpty = true ∧ hnF nm = true ∧ hvF vl = true ∧ (∀ (j : Nat) (y : FHeader), o.heads[j]? = some y → (y.a0.toList == nm.toList) = false) ∧ 8 ≤ o.heads.length ∧ hdP o nm vl = (o, 4)) ∨
    (o.sent.toList.isEmpty = true ∧ hnF nm = true ∧ hvF vl = true ∧ (∀ (j : Nat) (y : FHeader), o.heads[j]? = some y → (y.a0.toList == nm.toList) = false) ∧ o.heads.length < 8 ∧ hdP o nm vl = (hdApp o nm vl, 0)) ∨
    (o.sent.toList.isEmpty = true ∧ hnF nm = true ∧ hvF vl = true ∧ ∃ (k : Nat) (x : FHeader), o.heads[k]? = some x ∧ (x.a0.toList == nm.toList) = true ∧ (∀ (j : Nat) (y : FHeader), j < k → o.heads[j]? = some y → (y.a0.toList == nm.toList) = false) ∧ hdP o nm vl = (hdSet o k x vl, 0)) := by
  by_cases h1 : o.sent.toList.isEmpty = true
  case neg =>
    have h1' : o.sent.toList.isEmpty = false := by simpa using h1
    exact .inl ⟨h1', by unfold hdP; rw [if_pos h1']⟩
  have n1 : ¬ o.sent.toList.isEmpty = false := by rw [h1]; decide
  by_cases h2 : hnF nm = true
  case neg =>
    have h2' : hnF nm = false := by simpa using h2
    exact .inr (.inl ⟨h1, h2', by unfold hdP; rw [if_neg n1, if_pos h2']⟩)
  have n2 : ¬ hnF nm = false := by rw [h2]; decide
  by_cases h3 : hvF vl = true
  case neg =>
    have h3' : hvF vl = false := by simpa using h3
    exact .inr (.inr (.inl ⟨h1, h2, h3', by unfold hdP; rw [if_neg n1, if_neg n2, if_pos h3']⟩))
  have n3 : ¬ hvF vl = false := by rw [h3]; decide
  cases hf : o.heads.findIdx? (fun x => x.a0.toList == nm.toList) with
  | none =>
    have hno : ∀ (j : Nat) (y : FHeader), o.heads[j]? = some y → (y.a0.toList == nm.toList) = false := fun j y hy => List.findIdx?_eq_none_iff.1 hf y (List.mem_of_getElem? hy)
    by_cases h8 : 8 ≤ o.heads.length
    · exact .inr (.inr (.inr (.inl ⟨h1, h2, h3, hno, h8, by unfold hdP; rw [if_neg n1, if_neg n2, if_neg n3, hf]; exact if_pos h8⟩)))
    · exact .inr (.inr (.inr (.inr (.inl ⟨h1, h2, h3, hno, by omega, by unfold hdP; rw [if_neg n1, if_neg n2, if_neg n3, hf]; exact if_neg h8⟩))))
  | some k =>
    have hf' := hf
    rw [List.findIdx?_eq_some_iff_getElem] at hf'
    obtain ⟨hk, hq, hno⟩ := hf'
    have hx : o.heads[k]? = some o.heads[k] := List.getElem?_eq_getElem hk
    refine .inr (.inr (.inr (.inr (.inr ⟨h1, h2, h3, k, o.heads[k], hx, hq, fun j y hj hy => ?_, by unfold hdP; rw [if_neg n1, if_neg n2, if_neg n3, hf]; simp only [hx]⟩))))
    have := hno j hj
    have hy' : o.heads[j] = y := (List.getElem?_eq_some_iff.1 hy).2
    rw [hy'] at this
    simpa using this
theorem hd_small {o : Out} {nm vl : ByteArray} (h : o.small) : ((hdP o nm vl).1).small := by
  rcases hd_ways o nm vl with ⟨_, e⟩ | ⟨_, _, e⟩ | ⟨_, _, _, e⟩ | ⟨_, _, _, _, _, e⟩ | ⟨_, _, _, _, hl, e⟩ | ⟨_, _, _, k, x, _, _, _, e⟩ <;> rw [e]
  · exact h
  · exact h
  · exact h
  · exact h
  · refine ⟨?_, h.2⟩
    show (o.heads ++ [(⟨nm, vl⟩ : FHeader)]).length ≤ 1048576
    simp
    omega
  · refine ⟨?_, h.2⟩
    show (o.heads.set k _).length ≤ 1048576
    simpa using h.1
theorem setHead1_any (z0 z1 s : ByteArray) (b : Nat) (w : World) (hb : b < w.heap.size) (hc : w.cell? ⟨b, 0, none⟩ = some (.string s)) :
    Calls Try.prog 29 #[.agg #[.string z0, .string z1], .pointer (some ⟨b, 0, none⟩)] w fun e w' => e = .returned (.bool (z0.toList == s.toList)) ∧ Below w.heap.size w w' := by
  go_enter Try.func29, Try.ntmps29
  go_wp2_with fail
  go_ret
  exact ⟨rfl, (Below.refl _ _).alloc (Nat.le_refl _) _⟩
set_option maxHeartbeats 1000000 in
theorem indexHead_any (l : List FHeader) (s : ByteArray) (u : Value) (b : Nat) (w : World) (hl : l.length ≤ 1000000000) {B : Nat} (hB0 : B ≤ w.heap.size) (hb0 : b < w.heap.size) (hc : w.cell? ⟨b, 0, none⟩ = some (.string s)) (hr : Rd w B 2 u l.length (FHeader.flat l)) :
    Calls Try.prog 28 #[u, .func (Fn.func 29) #[] #[.pointer (some ⟨b, 0, none⟩)]] w fun e w' => e = .returned (.int .i64 (fidx FHeader.a0 l s)) ∧ Below w.heap.size w w' := by
  obtain ⟨A, c, rfl, q1, q2, q3, hcell⟩ := hr
  have HC := Lib.hid hcell
  have hn : l.length ≤ 9223372036854775807 := by omega
  have HCC := Lib.hid hc
  clear hcell hc q1 q2 q3
  go_enter Try.func28, Try.ntmps28
  go_wp2_with fail
  go_loopw [8] (fun i wr => ∃ k : Nat, k ≤ l.length ∧ i = .int .i64 k ∧ (∀ (j : Nat) (y : FHeader), j < k → l[j]? = some y → (y.a0.toList == s.toList) = false) ∧ Below w.heap.size w wr) (fun i _ => l.length - (intOf i).toNat)
  case atStart => exact ⟨0, Nat.zero_le _, rfl, fun j y hj => absurd hj (by omega), Below.refl _ _⟩
  case round =>
    obtain ⟨k, hk, rfl, hno, hb⟩ := hrel
    have HNO := Lib.hid hno
    clear hno
    by_cases hlt : k < l.length
    · obtain ⟨x, hx⟩ : ∃ x, l[k]? = some x := ⟨_, List.getElem?_eq_getElem hlt⟩
      obtain ⟨bc, offc, rfl, hblc, hcc⟩ := Rd.at_ FHeader.len HC.out hx
      have HX := Lib.hid hx
      have hbs := hb.size
      have HS := Lib.hid ((hb.cell (p := ⟨b, 0, none⟩) hb0).trans HCC.out)
      clear hx
      obtain ⟨z0, z1⟩ := x
      have g0 : wr.cell? ⟨bc, offc + k * 2, none⟩ = some (.string z0) := (hb.cell (p := ⟨bc, _, none⟩) (by show bc < w.heap.size; omega)).trans (hcc 0 _ rfl)
      have g1 : wr.cell? ⟨bc, offc + k * 2 + 1, none⟩ = some (.string z1) := (hb.cell (p := ⟨bc, _, none⟩) (by show bc < w.heap.size; omega)).trans (hcc 1 _ rfl)
      clear hcc
      go_wp2_with fail
      refine (setHead1_any z0 z1 s b _ (by omega) HS.out).mono ?_
      by_cases hq : (z0.toList == s.toList) = true
      · have HQ := Lib.hid hq
        rw [hq]
        clear hq
        rintro e w2 ⟨rfl, hb2⟩
        go_wp2_with fail
        go_ret
        exact ⟨ret_int (fidx_hit HX.out HQ.out HNO.out).symm, hb.trans (hb2.mono hbs)⟩
      · have hq' : (z0.toList == s.toList) = false := by simpa using hq
        have HQ := Lib.hid hq'
        rw [hq']
        clear hq hq'
        rintro e w2 ⟨rfl, hb2⟩
        go_wp2_with fail
        go_roundw
        case rel =>
          refine ⟨k + 1, by omega, by go_num, fun j y hj hjy => ?_, hb.trans (hb2.mono hbs)⟩
          by_cases e : j = k
          · subst e
            rw [HX.out] at hjy
            injection hjy with hjy
            subst hjy
            exact HQ.out
          · exact HNO.out j y (by omega) hjy
        case measure => simp [intOf]; omega
    · obtain rfl : k = l.length := by omega
      clear hlt
      go_wp2_with fail
      go_ret
      exact ⟨ret_int (fidx_miss fun j y hy => HNO.out j y (List.getElem?_eq_some_iff.1 hy).1 hy).symm, hb⟩
theorem OutR.heads {w : World} {B : Nat} {A1 A2 : Option Addr} {c1 c2 : Nat} {o : Out} (h : OutR w B (.agg #[.string o.sent, .slice A1 o.heads.length c1, .slice A2 o.bufs.length c2]) o) : Rd w B 2 (.slice A1 o.heads.length c1) o.heads.length (FHeader.flat o.heads) := by
  obtain ⟨hv, bv, he, r1, r2⟩ := h
  simp only [Value.agg.injEq, Array.mk.injEq, List.cons.injEq, true_and, and_true] at he
  obtain ⟨rfl, rfl⟩ := he
  exact r1
end Go.Proofs.Ytnbedjfmhnpjaaa
