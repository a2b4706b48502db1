/-
  What the laws FnHeaders and FnOutput ask of outputs. Plain: no program in sight. Conditions: none.
-/
import Derived.Test.YtnbedjfmhnpjaaaIsOutA
import Derived.Test.YtnbedjfmhnpjaaaOutP
namespace Go.Proofs.Ytnbedjfmhnpjaaa
open Go.ChangeShapes Go.WideShapes Go.ChangeAt Go.RowKit Go.Deep Go.Joins
set_option linter.unusedVariables false
set_option linter.unusedSimpArgs false
set_option maxRecDepth 100000
structure IsOs (o : Out) : Prop where
  t : totF o ≤ 3000
  b : o.bufs.length ≤ 5
  h : o.heads.length ≤ 8
  f : okB o.bufs = true
  n : ∀ k, k < o.heads.length → hdAt o.heads k = true
theorem isO_iff (o : Out) : isO o = true ↔ IsOs o := by
  unfold isO
  simp only [Bool.and_eq_true, decide_eq_true_iff]
  exact ⟨fun h => ⟨h.1, h.2.1, h.2.2.1, h.2.2.2.1, allB_get h.2.2.2.2⟩, fun h => ⟨h.t, h.b, h.h, h.f, allB_true h.n⟩⟩
/-! ### headers -/
def cntH (l : List FHeader) (s : List UInt8) (k : Nat) : Nat := (l.take k).countP (fun x => x.a0.toList == s)
theorem cntH_zero (l : List FHeader) (s : List UInt8) : cntH l s 0 = 0 := rfl
theorem cntH_t (l : List FHeader) (s : List UInt8) (k : Nat) (x : FHeader) (h : l[k]? = some x) (hq : (x.a0.toList == s) = true) : cntH l s (k + 1) = cntH l s k + 1 := by
  unfold cntH
  rw [List.take_add_one, h, List.countP_append]
  simp [hq]
theorem cntH_f (l : List FHeader) (s : List UInt8) (k : Nat) (x : FHeader) (h : l[k]? = some x) (hq : (x.a0.toList == s) = false) : cntH l s (k + 1) = cntH l s k := by
  unfold cntH
  rw [List.take_add_one, h, List.countP_append]
  simp [hq]
theorem cntH_le (l : List FHeader) (s : List UInt8) (k : Nat) : cntH l s k ≤ k := by
  unfold cntH
  have h1 := List.countP_le_length (p := fun x : FHeader => x.a0.toList == s) (l := l.take k)
  have h2 := List.length_take_le k l
  omega
theorem cntH_one (l : List FHeader) (s : List UInt8) (k : Nat) (x : FHeader) (hx : l[k]? = some x) (hq : (x.a0.toList == s) = true) (hu : ∀ (j : Nat) (y : FHeader), j ≠ k → l[j]? = some y → (y.a0.toList == s) = false) : cntH l s l.length = 1 := by
  have key : ∀ m, m ≤ l.length → cntH l s m = if k < m then 1 else 0 := by
    intro m
    induction m with
    | zero => intro _; rfl
    | succ m ih =>
      intro hm
      have hy : l[m]? = some l[m] := List.getElem?_eq_getElem (by omega)
      by_cases e : m = k
      · subst e
        rw [cntH_t l s m x hx hq, ih (by omega), if_neg (by omega), if_pos (by omega)]
      · rw [cntH_f l s m _ hy (hu m _ e hy), ih (by omega)]
        by_cases h2 : k < m
        · rw [if_pos h2, if_pos (by omega)]
        · rw [if_neg h2, if_neg (by omega)]
  rw [key _ (Nat.le_refl _), if_pos (List.getElem?_eq_some_iff.1 hx).1]
theorem hdAt_parts {l : List FHeader} {k : Nat} {x : FHeader} (hx : l[k]? = some x) (h : hdAt l k = true) : hasS (nmsF l k) x.a0.toList = false ∧ hnF x.a0 = true ∧ hvF x.a1 = true := by
  unfold hdAt at h
  rw [hx] at h
  simpa [Bool.and_eq_true] using h
/-- Two headers of an allowed output bear two names. -/
theorem hd_apart {l : List FHeader} (h : ∀ k, k < l.length → hdAt l k = true) {j k : Nat} {x y : FHeader} (hx : l[k]? = some x) (hy : l[j]? = some y) (hne : j ≠ k) : (y.a0.toList == x.a0.toList) = false := by
  have hk := (List.getElem?_eq_some_iff.1 hx).1
  have hj := (List.getElem?_eq_some_iff.1 hy).1
  rw [Bool.eq_false_iff]
  intro he
  rcases Nat.lt_or_ge j k with h1 | h1
  · have := (hdAt_parts hx (h k hk)).1
    rw [nms_yes l k j y _ h1 hy he] at this
    cases this
  · have := (hdAt_parts hy (h j hj)).1
    rw [nms_yes l j k x _ (by omega) hx (by rw [beq_iff_eq] at he ⊢; exact he.symm)] at this
    cases this
theorem hdP_again {x : Out} {nm vl : ByteArray} (hs : x.sent.toList.isEmpty = true) (hn : hnF nm = true) (hv : hvF vl = true) {k : Nat} {y : FHeader} (hk : x.heads[k]? = some y) (hq : (y.a0.toList == nm.toList) = true)
    (hy : ∀ (j : Nat) (z : FHeader), x.heads[j]? = some z → (z.a0.toList == nm.toList) = true → z.a1 = vl) : hdP x nm vl = (x, 0) := by
  rcases hd_ways x nm vl with ⟨h, _⟩ | ⟨_, h, _⟩ | ⟨_, _, h, _⟩ | ⟨_, _, _, h, _, _⟩ | ⟨_, _, _, h, _, _⟩ | ⟨_, _, _, j, z, hz, hzq, _, e⟩
  · rw [hs] at h; cases h
  · rw [hn] at h; cases h
  · rw [hv] at h; cases h
  · rw [h k y hk] at hq; cases hq
  · rw [h k y hk] at hq; cases hq
  · rw [e]
    have hz1 := hy j z hz hzq
    obtain ⟨hj, hg⟩ := List.getElem?_eq_some_iff.1 hz
    have : hdSet x j z vl = x := by
      unfold hdSet
      rw [← hz1]
      have e2 : (⟨z.a0, z.a1⟩ : FHeader) = x.heads[j] := hg.symm
      rw [e2, List.set_getElem_self]
    rw [this]
theorem hdAt_app (l : List FHeader) (z : FHeader) {k : Nat} (hk : k < l.length) : hdAt (l ++ [z]) k = hdAt l k := by
  unfold hdAt nmsF
  rw [List.getElem?_append_left hk, List.take_append_of_le_length (by omega)]
theorem nms_set (l : List FHeader) (k j : Nat) (x : FHeader) (vl : ByteArray) (hx : l[k]? = some x) : nmsF (l.set k ⟨x.a0, vl⟩) j = nmsF l j := by
  unfold nmsF
  congr 1
  rw [List.map_take, List.map_take, List.map_set]
  congr 1
  obtain ⟨hk, hg⟩ := List.getElem?_eq_some_iff.1 hx
  have : x.a0.toList = (l.map fun x => x.a0.toList)[k]'(by simpa using hk) := by simp [hg]
  rw [this, List.set_getElem_self]
/-- What the law asks where a header was set. -/
structure HdOK (o : Out) (nm vl : ByteArray) (x : Out) : Prop where
  se : o.sent.toList.isEmpty = true
  vals : ∀ (j : Nat) (y : FHeader), x.heads[j]? = some y → (y.a0.toList == nm.toList) = true → y.a1 = vl
  one : cntH x.heads nm.toList x.heads.length = 1
  byt : hvF vl = true
  again : hdP x nm vl = (x, 0)
  iso : isO x = true
theorem hd_ok {o : Out} {nm vl : ByteArray} (h0 : (hdP o nm vl).2 = 0) (hi : isO o = true) : HdOK o nm vl (hdP o nm vl).1 := by
  have hI := (isO_iff o).1 hi
  rcases hd_ways o nm vl with ⟨_, e⟩ | ⟨_, _, e⟩ | ⟨_, _, _, e⟩ | ⟨_, _, _, _, _, e⟩ | ⟨h1, h2, h3, hno, hl, e⟩ | ⟨h1, h2, h3, k, x, hx, hq, hno, e⟩
  · rw [e] at h0; cases h0
  · rw [e] at h0; cases h0
  · rw [e] at h0; cases h0
  · rw [e] at h0; cases h0
  · rw [e]
    show HdOK o nm vl (hdApp o nm vl)
    have hz : (hdApp o nm vl).heads[o.heads.length]? = some ⟨nm, vl⟩ := by
      show (o.heads ++ [(⟨nm, vl⟩ : FHeader)])[o.heads.length]? = _
      simp
    have hold : ∀ (j : Nat) (y : FHeader), j ≠ o.heads.length → (hdApp o nm vl).heads[j]? = some y → o.heads[j]? = some y := by
      intro j y hj hy
      have hlt := (List.getElem?_eq_some_iff.1 hy).1
      have hlen : (hdApp o nm vl).heads.length = o.heads.length + 1 := by show (o.heads ++ [_]).length = _; simp
      have hy' : (o.heads ++ [(⟨nm, vl⟩ : FHeader)])[j]? = some y := hy
      rwa [List.getElem?_append_left (by omega)] at hy'
    have hvals : ∀ (j : Nat) (y : FHeader), (hdApp o nm vl).heads[j]? = some y → (y.a0.toList == nm.toList) = true → y.a1 = vl := by
      intro j y hy hyq
      by_cases hj : j = o.heads.length
      · subst hj
        rw [hz] at hy
        injection hy with hy
        rw [← hy]
      · rw [hno j y (hold j y hj hy)] at hyq
        cases hyq
    refine ⟨h1, hvals, ?_, h3, ?_, ?_⟩
    · exact cntH_one _ _ _ _ hz (beq_self_eq_true _) fun j y hj hy => hno j y (hold j y hj hy)
    · exact hdP_again h1 h2 h3 hz (beq_self_eq_true _) hvals
    · rw [isO_iff]
      refine ⟨hI.t, hI.b, ?_, hI.f, ?_⟩
      · show (o.heads ++ [_]).length ≤ 8
        simp
        omega
      · intro j hj
        show hdAt (o.heads ++ [(⟨nm, vl⟩ : FHeader)]) j = true
        have hlen : (hdApp o nm vl).heads.length = o.heads.length + 1 := by show (o.heads ++ [_]).length = _; simp
        by_cases e2 : j = o.heads.length
        · subst e2
          refine hd_t (l := o.heads ++ [(⟨nm, vl⟩ : FHeader)]) hz (nms_no _ _ _ fun i y hi hy => ?_) h2 h3
          rw [List.getElem?_append_left hi] at hy
          exact hno i y hy
        · rw [hdAt_app _ _ (by omega)]
          exact hI.n j (by omega)
  · rw [e]
    show HdOK o nm vl (hdSet o k x vl)
    have hk := (List.getElem?_eq_some_iff.1 hx).1
    have hz : (hdSet o k x vl).heads[k]? = some ⟨x.a0, vl⟩ := by
      show (o.heads.set k (⟨x.a0, vl⟩ : FHeader))[k]? = _
      simp [hk]
    have hold : ∀ (j : Nat) (y : FHeader), j ≠ k → (hdSet o k x vl).heads[j]? = some y → o.heads[j]? = some y := by
      intro j y hj hy
      have hy' : (o.heads.set k (⟨x.a0, vl⟩ : FHeader))[j]? = some y := hy
      rwa [List.getElem?_set_ne (fun e => hj e.symm)] at hy'
    have hap : ∀ (j : Nat) (y : FHeader), j ≠ k → (hdSet o k x vl).heads[j]? = some y → (y.a0.toList == nm.toList) = false := by
      intro j y hj hy
      have := hd_apart hI.n hx (hold j y hj hy) hj
      rw [beq_iff_eq] at hq
      rwa [← hq]
    have hvals : ∀ (j : Nat) (y : FHeader), (hdSet o k x vl).heads[j]? = some y → (y.a0.toList == nm.toList) = true → y.a1 = vl := by
      intro j y hy hyq
      by_cases hj : j = k
      · subst hj
        rw [hz] at hy
        injection hy with hy
        rw [← hy]
      · rw [hap j y hj hy] at hyq
        cases hyq
    refine ⟨h1, hvals, ?_, h3, ?_, ?_⟩
    · exact cntH_one _ _ _ _ hz hq hap
    · exact hdP_again h1 h2 h3 hz hq hvals
    · rw [isO_iff]
      refine ⟨hI.t, hI.b, ?_, hI.f, ?_⟩
      · show (o.heads.set k _).length ≤ 8
        simpa using hI.h
      · intro j hj
        have hj' : j < o.heads.length := by
          have : (hdSet o k x vl).heads.length = o.heads.length := by show (o.heads.set k _).length = _; simp
          omega
        show hdAt (o.heads.set k (⟨x.a0, vl⟩ : FHeader)) j = true
        by_cases e2 : j = k
        · subst e2
          obtain ⟨p1, p2, p3⟩ := hdAt_parts hx (hI.n j hj')
          exact hd_t hz (by show hasS (nmsF (o.heads.set j _) j) _ = false; rw [nms_set _ _ _ _ _ hx]; exact p1) p2 h3
        · have hy : o.heads[j]? = some o.heads[j] := List.getElem?_eq_getElem hj'
          obtain ⟨p1, p2, p3⟩ := hdAt_parts hy (hI.n j hj')
          have hy2 : (o.heads.set k (⟨x.a0, vl⟩ : FHeader))[j]? = some o.heads[j] := by rw [List.getElem?_set_ne (fun e => e2 e.symm)]; exact hy
          exact hd_t hy2 (by rw [nms_set _ _ _ _ _ hx]; exact p1) p2 p3
/-- Where no header was set. -/
theorem hd_not {o : Out} {nm vl : ByteArray} (h0 : (hdP o nm vl).2 ≠ 0) : (hdP o nm vl).1 = o ∧ (o.sent.toList.isEmpty = false → (hdP o nm vl).2 = 1) := by
  rcases hd_ways o nm vl with ⟨_, e⟩ | ⟨h, _, e⟩ | ⟨h, _, _, e⟩ | ⟨h, _, _, _, _, e⟩ | ⟨h1, h2, h3, hno, hl, e⟩ | ⟨h1, h2, h3, k, x, hx, hq, hno, e⟩ <;> rw [e] at h0 ⊢
  · exact ⟨rfl, fun _ => rfl⟩
  · exact ⟨rfl, fun h' => by rw [h] at h'; cases h'⟩
  · exact ⟨rfl, fun h' => by rw [h] at h'; cases h'⟩
  · exact ⟨rfl, fun h' => by rw [h] at h'; cases h'⟩
  · exact absurd rfl h0
  · exact absurd rfl h0
theorem hdP_range (o : Out) (nm vl : ByteArray) : 0 ≤ (hdP o nm vl).2 ∧ (hdP o nm vl).2 ≤ 4 := by
  rcases hd_ways o nm vl with ⟨_, e⟩ | ⟨h, _, e⟩ | ⟨h, _, _, e⟩ | ⟨h, _, _, _, _, e⟩ | ⟨h1, h2, h3, hno, hl, e⟩ | ⟨h1, h2, h3, k, x, hx, hq, hno, e⟩ <;> rw [e] <;> simp
/-! ### buffers -/
theorem isO_echo {o : Out} (h : isO o = true) (s : ByteArray) : isO (echoF o s) = true := by
  rw [isO_iff] at h ⊢
  by_cases hb : echoB o s = true
  case neg => unfold echoF; rw [if_neg hb]; exact h
  have hh : (echoF o s).heads = o.heads := by unfold echoF echoY; rw [if_pos hb]; split <;> rfl
  refine ⟨?_, ?_, ?_, ?_, ?_⟩
  · unfold echoF
    rw [if_pos hb, echoY_tot]
    unfold echoB at hb
    simpa using hb
  · rw [(echoF_len o s).1]; exact h.b
  · rw [(echoF_len o s).2]; exact h.h
  · unfold echoF echoY
    rw [if_pos hb]
    split
    · exact h.f
    · show okB (echoL o.bufs s) = true
      unfold echoL
      split
      · exact h.f
      · rename_i x hx
        have hf := h.f
        unfold okB at hf ⊢
        rw [List.all_eq_true] at hf ⊢
        intro y hy
        rcases List.mem_or_eq_of_mem_set hy with hy | hy
        · exact hf y hy
        · rw [hy]
          exact hf x (List.mem_of_getElem? hx)
  · rw [hh]; exact h.n
theorem isO_clean {o : Out} (h : isO o = true) : isO (cleanF o) = true := by
  rw [isO_iff] at h ⊢
  refine ⟨Nat.le_trans (tot_clean o) h.t, ?_, h.h, ?_, h.n⟩
  · have := h.b
    unfold cleanF
    simp only [List.length_take]
    omega
  · have hf := h.f
    unfold okB at hf ⊢
    rw [List.all_eq_true] at hf ⊢
    intro y hy
    exact hf y (List.mem_of_mem_take hy)
theorem isO_end {o : Out} (h : isO o = true) : isO (endF o) = true := by
  unfold endF
  split
  · exact h
  · exact isO_echo (isO_clean h) _
theorem isO_flushN : ∀ (n : Nat) (o : Out), isO o = true → isO (flushN n o) = true
  | 0, _, h => h
  | n + 1, o, h => isO_flushN n _ (isO_end h)
theorem isO_flush {o : Out} (h : isO o = true) : isO (flushF o) = true := isO_flushN _ _ h
theorem flushN_len : ∀ (n : Nat) (o : Out), (flushN n o).bufs.length = o.bufs.length - n
  | 0, _ => rfl
  | n + 1, o => by
    show (flushN n (endF o)).bufs.length = _
    rw [flushN_len n, (end_len o).1]
    omega
theorem flush_none (o : Out) : (flushF o).bufs.length = 0 := by unfold flushF; rw [flushN_len]; omega
theorem start_b {o : Out} {k : Int} (h0 : 0 ≤ k) (h3 : k ≤ 3) : startB o k = decide (o.bufs.length < 5) := by
  unfold startB
  rw [inB_t ⟨h0, h3⟩]
  rfl
theorem echo_start (o : Out) (k : Int) (s : ByteArray) : echoF (startY o k) s = ⟨o.sent, o.heads, o.bufs ++ [⟨k, if echoB (startY o k) s = true then s else ⟨#[]⟩⟩]⟩ := by
  unfold echoF
  by_cases hb : echoB (startY o k) s = true
  · rw [if_pos hb, if_pos hb]
    unfold echoY
    have hl : (startY o k).bufs.length = o.bufs.length + 1 := by show (o.bufs ++ [_]).length = _; simp
    rw [if_neg (by omega)]
    unfold echoL
    rw [hl]
    have hx : (startY o k).bufs[o.bufs.length + 1 - 1]? = some ⟨k, ⟨#[]⟩⟩ := by show (o.bufs ++ [_])[_]? = _; simp
    rw [hx]
    show (⟨o.sent, o.heads, (o.bufs ++ [(⟨k, ⟨#[]⟩⟩ : FBuffer)]).set (o.bufs.length + 1 - 1) ⟨k, ⟨#[]⟩ ++ s⟩⟩ : Out) = _
    have e : (⟨#[]⟩ : ByteArray) ++ s = s := ByteArray.empty_append
    rw [e]
    simp
  · rw [if_neg hb, if_neg hb]
    rfl
/-- What the law asks of a buffer that is started, filled and ended. -/
structure BfOK (o : Out) (k : Int) (s : ByteArray) (b : Out) : Prop where
  bt : btB b = true
  cl : cleanF b = o
  tx : echoB (startY o k) s = true → btS b = s
  en : echoB (startY o k) s = true → endF b = echoF o (escF k s)
  ec : echoB (startY o k) s = true → endC b = if echoB o (escF k s) = true then 0 else 2
  is : isO o = true → isO (endF b) = true
theorem bf_ok (o : Out) (k : Int) (s : ByteArray) : BfOK o k s (echoF (startY o k) s) := by
  rw [echo_start]
  generalize hb : echoB (startY o k) s = b
  have hl : (o.bufs ++ [(⟨k, if b = true then s else ⟨#[]⟩⟩ : FBuffer)]).length = o.bufs.length + 1 := by simp
  have hx : (o.bufs ++ [(⟨k, if b = true then s else ⟨#[]⟩⟩ : FBuffer)])[o.bufs.length + 1 - 1]? = some ⟨k, if b = true then s else ⟨#[]⟩⟩ := by simp
  have hc : cleanF ⟨o.sent, o.heads, o.bufs ++ [⟨k, if b = true then s else ⟨#[]⟩⟩]⟩ = o := by
    unfold cleanF
    simp
  have he : endF ⟨o.sent, o.heads, o.bufs ++ [⟨k, if b = true then s else ⟨#[]⟩⟩]⟩ = echoF o (escF k (if b = true then s else ⟨#[]⟩)) := by
    unfold endF
    simp only [hl, hx, hc]
  refine ⟨by unfold btB; simp, hc, fun h => ?_, fun h => ?_, fun h => ?_, fun h => ?_⟩
  · unfold btS
    rw [hb] at h
    simp only [hl, hx]
    rw [if_pos h]
  · rw [hb] at h
    rw [he, if_pos h]
  · unfold endC
    rw [hb] at h
    simp only [hl, hx, hc]
    rw [if_pos h]
  · rw [he]
    exact isO_echo h _
end Go.Proofs.Ytnbedjfmhnpjaaa
