/-
  What the law FnFiles asks of paths and of sites. Plain: no program in sight. Conditions: none.
-/
import Derived.Test.YtnkidlahmplgnaaDoorWrL
namespace Go.Proofs.YtnkidlahmplgnaaDoor
open Go.ChangeShapes Go.WideShapes Go.ChangeAt Go.RowKit Go.Deep Go.Joins
set_option linter.unusedVariables false
set_option linter.unusedSimpArgs false
set_option maxRecDepth 100000
/-! ### a normal path is a fixed point -/
structure Good (x : ByteArray) : Prop where
  e : (x.toList == ([] : List UInt8)) = false
  d : (x.toList == dotL) = false
  u : (x.toList == upL) = false
  p : partF x = true
theorem fold_good : ∀ (r acc V : List ByteArray), foldP r acc = some V → (∀ x ∈ acc, Good x) → ∀ x ∈ V, Good x
  | [], acc, V, h, ha => by
    rw [foldP] at h
    injection h with h
    subst h
    exact ha
  | p :: r, acc, V, h, ha => by
    cases h0 : (p.toList == ([] : List UInt8)) with
    | true => rw [fold_e h0] at h; exact fold_good r acc V h ha
    | false =>
      cases h1 : (p.toList == dotL) with
      | true => rw [fold_d h0 h1] at h; exact fold_good r acc V h ha
      | false =>
        cases h2 : (p.toList == upL) with
        | true =>
          by_cases hz : acc.length = 0
          · rw [fold_u0 h0 h1 h2 hz] at h; cases h
          · rw [fold_u h0 h1 h2 hz] at h
            exact fold_good r _ V h fun x hx => ha x (by rw [List.dropLast_eq_take] at hx; exact List.mem_of_mem_take hx)
        | false =>
          cases h3 : partF p with
          | true =>
            rw [fold_p h0 h1 h2 h3] at h
            refine fold_good r _ V h fun x hx => ?_
            rcases List.mem_append.1 hx with hx | hx
            · exact ha x hx
            · rw [List.mem_singleton.1 hx]
              exact ⟨h0, h1, h2, h3⟩
          | false => rw [fold_n h0 h1 h2 h3] at h; cases h
theorem fold_id : ∀ (V acc : List ByteArray), (∀ x ∈ V, Good x) → foldP V acc = some (acc ++ V)
  | [], acc, _ => by rw [foldP, List.append_nil]
  | x :: r, acc, h => by
    have hx := h x (by simp)
    rw [fold_p hx.e hx.d hx.u hx.p, fold_id r _ fun y hy => h y (by simp [hy]), List.append_assoc]
    rfl
theorem good_no {x : ByteArray} (h : Good x) : ∀ c ∈ x.data.toList, c ≠ 47 := by
  intro c hc e
  subst e
  obtain ⟨k, hk⟩ := List.mem_iff_getElem?.1 hc
  have hks : k < x.size := by
    have := (List.getElem?_eq_some_iff.1 hk).1
    rwa [← Lib.size_eq] at this
  have hp := h.p
  unfold partF at hp
  rw [Bool.and_eq_true] at hp
  have h1 := allB_get hp.2 k hks
  have h2 := getD_b x k hks
  rw [hk] at h2
  have h3 : x[k] = 47 := (Option.some.inj h2).symm
  unfold ptP at h1
  rw [bI_eq x k hks, h3] at h1
  revert h1
  decide
theorem jn_two (x y : ByteArray) (r : List ByteArray) : jn (x :: y :: r) = x.data.toList ++ 47 :: jn (y :: r) := by
  unfold jn
  rw [List.map_cons, Lib.join_cons, List.map_cons, Lib.join_cons]
  simp [Lib.joinTail]
theorem jn_one (x : ByteArray) : jn [x] = x.data.toList := by
  unfold jn
  rw [List.map_cons, List.map_nil, Lib.join_one]
theorem mk_size (l : List UInt8) : (⟨l.toArray⟩ : ByteArray).size = l.length := by
  show l.toArray.size = _
  simp
theorem pcs_one (l : List UInt8) (h : ∀ c ∈ l, c ≠ 47) : pcs ⟨l.toArray⟩ 0 = [⟨l.toArray⟩] := by
  rw [pcs_end _ 0 (Nat.zero_le _) fun j _ hj e => h 47 (List.mem_of_getElem? (by simpa using e)) rfl, pcs_zero]
theorem pcs_more (x r : List UInt8) (h : ∀ c ∈ x, c ≠ 47) : pcs ⟨(x ++ 47 :: r).toArray⟩ 0 = ⟨x.toArray⟩ :: pcs ⟨r.toArray⟩ 0 := by
  have hsz : (⟨(x ++ 47 :: r).toArray⟩ : ByteArray).size = x.length + (r.length + 1) := by rw [mk_size]; simp
  have hl : (⟨(x ++ 47 :: r).toArray⟩ : ByteArray).data.toList = x ++ 47 :: r := by simp
  rw [pcs_hit _ 0 x.length (Nat.zero_le _) (by rw [hsz]; omega) (fun j _ hj e => ?_) (by rw [hl]; simp)]
  · congr 1
    · apply ba_ext
      rw [ext_list, hl]
      simp
    · have e : (⟨(x ++ 47 :: r).toArray⟩ : ByteArray).extract (x.length + 1) (⟨(x ++ 47 :: r).toArray⟩ : ByteArray).size = ⟨r.toArray⟩ := by
        apply ba_ext
        rw [ext_end, hl]
        simp
      have e2 : ∀ (s : ByteArray) (a : Nat), pcs s a = pcs (s.extract a s.size) 0 := fun s a => by unfold pcs; rw [pcs_zero]
      rw [e2, e]
  · rw [hl, List.getElem?_append_left hj] at e
    exact h 47 (List.mem_of_getElem? e) rfl
theorem mk_of (x : ByteArray) : (⟨x.data.toList.toArray⟩ : ByteArray) = x := by obtain ⟨⟨l⟩⟩ := x; rfl
theorem pcs_jn : ∀ (V : List ByteArray), V ≠ [] → (∀ x ∈ V, Good x) → pcs ⟨(jn V).toArray⟩ 0 = V
  | [], h, _ => absurd rfl h
  | [x], _, h => by rw [jn_one, pcs_one _ (good_no (h x (by simp))), mk_of]
  | x :: y :: r, _, h => by
    rw [jn_two, pcs_more _ _ (good_no (h x (by simp))), mk_of, pcs_jn (y :: r) (by simp) fun z hz => h z (by simp [hz])]
/-- What is true of a normal path. -/
structure NmFix (p : ByteArray) : Prop where
  ok : nmOk p = true
  same : nmS p = p
  isn : isnF p = true
  ne : (spV p).length ≠ 0
  pos : 0 < p.size
  head : ∀ h : 0 < p.size, ((p[0]'h).toNat : Int) ≠ 47
  parts : ∀ x ∈ spV p, (x.toList == upL) = false ∧ (x.toList == dotL) = false ∧ (x.toList == ([] : List UInt8)) = false
theorem nm_fix {s : ByteArray} (h : nmOk s = true) : NmFix (nmS s) := by
  have hs := nm_t h
  have h' := h
  unfold nmOk at h'
  simp only [Bool.and_eq_true, decide_eq_true_eq] at h'
  obtain ⟨_, hb, hr⟩ := h'
  obtain ⟨V, hV⟩ : ∃ V, spO s = some V := by
    unfold spB at hb
    exact Option.isSome_iff_exists.1 hb
  have hv := (sp_some hV).1
  rw [hv] at hs hr
  have hg : ∀ x ∈ V, Good x := fold_good _ _ V hV (fun x hx => by cases hx)
  have hl := inB_iff.1 hr
  have hne : V ≠ [] := by
    rintro rfl
    have : jn [] = [] := rfl
    rw [this] at hl
    simp at hl
  have ho : spO (nmS s) = some V := by
    unfold spO
    rw [hs, pcs_jn V hne hg, fold_id V [] hg]
    rfl
  have hv2 := (sp_some ho).1
  have hok : nmOk (nmS s) = true := by
    unfold nmOk
    rw [hv2, (sp_some ho).2, hr, hs, mk_size, decide_eq_true (show (jn V).length ≤ 400 by omega)]
    rfl
  have hsame : nmS (nmS s) = nmS s := by rw [nm_t hok, hv2, hs]
  refine ⟨hok, hsame, ?_, ?_, ?_, ?_, ?_⟩
  · unfold isnF
    rw [hok, hsame]
    simp
  · rw [hv2]
    intro e
    exact hne (List.length_eq_zero_iff.1 e)
  · rw [hs, mk_size]; omega
  · intro hh e
    obtain ⟨x, r, rfl⟩ : ∃ x r, V = x :: r := by
      cases V with
      | nil => exact absurd rfl hne
      | cons x r => exact ⟨x, r, rfl⟩
    have hx := hg x (by simp)
    have hx1 := nonempty_size hx.e
    have h0 := getD_b (nmS s) 0 hh
    have e47 : (nmS s)[0]'hh = 47 := by
      apply UInt8.toNat_inj.1
      show _ = 47
      omega
    rw [e47] at h0
    have hlist : (nmS s).data.toList = jn (x :: r) := by rw [hs]
    have hmem : (47 : UInt8) ∈ x.data.toList := by
      rw [hlist] at h0
      have hxl : 0 < x.data.toList.length := by rw [← Lib.size_eq]; omega
      apply List.mem_of_getElem? (i := 0)
      cases r with
      | nil => rwa [jn_one] at h0
      | cons y r => rwa [jn_two, List.getElem?_append_left hxl] at h0
    exact good_no hx 47 hmem rfl
  · intro x hx
    rw [hv2] at hx
    exact ⟨(hg x hx).u, (hg x hx).d, (hg x hx).e⟩
/-! ### what is written is found -/
theorem fidx_some {α : Type} {nm : α → ByteArray} {l : List α} {s : ByteArray} {k : Nat} (h : fidx nm l s = (k : Int)) : ∃ x, l[k]? = some x ∧ ((nm x).toList == s.toList) = true ∧ ∀ (j : Nat) (y : α), j < k → l[j]? = some y → ((nm y).toList == s.toList) = false := by
  unfold fidx at h
  cases hf : l.findIdx? (fun x => (nm x).toList == s.toList) with
  | none =>
    rw [hf] at h
    have h : (-1 : Int) = (k : Int) := h
    omega
  | some i =>
    rw [hf] at h
    have h : (i : Int) = (k : Int) := h
    have hi : i = k := by omega
    subst hi
    rw [List.findIdx?_eq_some_iff_getElem] at hf
    obtain ⟨hk, h1, h2⟩ := hf
    refine ⟨l[i], List.getElem?_eq_getElem hk, h1, fun j y hj hy => ?_⟩
    obtain ⟨hj2, rfl⟩ := List.getElem?_eq_some_iff.1 hy
    have := h2 j hj
    simpa using this
theorem fidx_none {α : Type} {nm : α → ByteArray} {l : List α} {s : ByteArray} (h : fidx nm l s < 0) : ∀ (j : Nat) (y : α), l[j]? = some y → ((nm y).toList == s.toList) = false := by
  unfold fidx at h
  cases hf : l.findIdx? (fun x => (nm x).toList == s.toList) with
  | some i =>
    rw [hf] at h
    have h : (i : Int) < 0 := h
    omega
  | none =>
    rw [List.findIdx?_eq_none_iff] at hf
    exact fun j y hy => hf y (List.mem_of_getElem? hy)
theorem fnm_set (l : List FFile) (k j : Nat) (x : FFile) (s : ByteArray) (v : Int) (hx : l[k]? = some x) : fnm (l.set k ⟨x.a0, s, v⟩) j = fnm l j := by
  unfold fnm
  congr 1
  rw [List.map_take, List.map_take, List.map_set]
  congr 1
  obtain ⟨hk, hg⟩ := List.getElem?_eq_some_iff.1 hx
  have : x.a0.toList = (l.map fun x => x.a0.toList)[k]'(by simpa using hk) := by simp [hg]
  rw [this, List.set_getElem_self]
theorem allK_get {f : Nat → Bool} {n : Nat} (h : allK f n = true) {j : Nat} (hj : j < n) : f j = true := by
  unfold allK at h
  exact List.all_eq_true.1 h j (List.mem_range.2 hj)
theorem siAt_parts {l : List FFile} {k : Nat} {x : FFile} (hx : l[k]? = some x) (h : siAt l k = true) : hasS (fnm l k) x.a0.toList = false ∧ isnF x.a0 = true ∧ x.a1.size ≤ 4000 ∧ inB x.a2 1 1000000000 = true := by
  unfold siAt at h
  rw [hx] at h
  simpa [Bool.and_eq_true] using h
/-- What the law asks of a file that was written. -/
inductive WrOK (l : List FFile) (p s : ByteArray) (x : List FFile) : Prop
  | put (k : Nat) (y : FFile) (h1 : siF x = true) (h2 : fif x p = (k : Int)) (h3 : x[k]? = some y) (h4 : y.a1 = s) (h5 : fif l p = (k : Int)) : WrOK l p s x
  | new (h1 : siF x = true) (h2 : fif x p = (l.length : Int)) (h3 : x.length = l.length + 1) (h4 : fif l p = -1) (q : ByteArray) (h5 : x[l.length]? = some ⟨q, s, 1⟩) : WrOK l p s x
theorem wr_not {l : List FFile} {p s : ByteArray} (h : (wrO l p s).2 = false) : (wrO l p s).1 = l := by
  cases hg : (nmOk p && (siF l && decide (s.size ≤ 4000))) with
  | false => rw [wr_bad hg]
  | true =>
    rcases fif_cases l p with hf | ⟨k, x, hf, hk, hx⟩
    · by_cases h8 : 8 ≤ l.length
      · rw [wr_full hg (by omega) h8]
      · rw [wr_new hg (by omega) h8] at h; cases h
    · by_cases hm : x.a2 = 1000000000
      · rw [wr_max hg hf hx hm]
      · rw [wr_put hg hf hx hm] at h; cases h
theorem wr_ok {l : List FFile} {p s : ByteArray} (h : (wrO l p s).2 = true) : WrOK l p s (wrO l p s).1 := by
  cases hg : (nmOk p && (siF l && decide (s.size ≤ 4000))) with
  | false => rw [wr_bad hg] at h; cases h
  | true =>
    have hg' := hg
    simp only [Bool.and_eq_true, decide_eq_true_eq] at hg'
    obtain ⟨hp, hs, hz⟩ := hg'
    have hs' := hs
    unfold siF at hs'
    rw [Bool.and_eq_true, decide_eq_true_eq] at hs'
    obtain ⟨hall, h8l⟩ := hs'
    have hff : fif l p = fidx FFile.nm l (nmS p) := by unfold fif; rw [if_pos hp]
    rcases fif_cases l p with hf | ⟨k, x, hf, hk, hx⟩
    · by_cases h8 : 8 ≤ l.length
      · rw [wr_full hg (by omega) h8] at h; cases h
      · rw [wr_new hg (by omega) h8]
        have hno := fidx_none (nm := FFile.nm) (l := l) (s := nmS p) (by rw [← hff, hf]; decide)
        have hlen : (l ++ [(⟨nmS p, s, 1⟩ : FFile)]).length = l.length + 1 := by simp
        have hlast : (l ++ [(⟨nmS p, s, 1⟩ : FFile)])[l.length]? = some ⟨nmS p, s, 1⟩ := by simp
        have hfn : ∀ j, j ≤ l.length → fnm (l ++ [(⟨nmS p, s, 1⟩ : FFile)]) j = fnm l j := fun j hj => by
          unfold fnm
          rw [List.take_append_of_le_length hj]
        refine .new ?_ ?_ hlen hf (nmS p) hlast
        · unfold siF
          rw [Bool.and_eq_true, decide_eq_true_eq, hlen]
          refine ⟨allK_t fun j hj => ?_, by omega⟩
          by_cases e : j = l.length
          · subst e
            refine si_t hlast ?_ (nm_fix hp).isn hz (by decide)
            rw [hfn _ (Nat.le_refl _), Bool.eq_false_iff]
            intro hh
            obtain ⟨i, y, hi, hy, e⟩ := (fnm_mem _ _ _).1 hh
            have h2 : (y.a0.toList == (nmS p).toList) = false := hno i y hy
            rw [h2] at e
            cases e
          · have hjl : j < l.length := by omega
            obtain ⟨y0, y1, y2, hyy⟩ : ∃ y0 y1 y2, l[j] = (⟨y0, y1, y2⟩ : FFile) := ⟨_, _, _, rfl⟩
            have hy : l[j]? = some ⟨y0, y1, y2⟩ := by rw [List.getElem?_eq_getElem hjl, hyy]
            obtain ⟨p1, p2, p3, p4⟩ := siAt_parts hy (allK_get hall hjl)
            exact si_t (by rw [List.getElem?_append_left hjl]; exact hy) (by rw [hfn _ (by omega)]; exact p1) p2 p3 p4
        · unfold fif
          rw [if_pos hp]
          refine fidx_hit hlast (by show ((nmS p).toList == _) = true; simp) fun j y hj hy => ?_
          rw [List.getElem?_append_left hj] at hy
          exact hno j y hy
    · by_cases hm : x.a2 = 1000000000
      · rw [wr_max hg hf hx hm] at h; cases h
      · rw [wr_put hg hf hx hm]
        obtain ⟨x', hx', hq, hno⟩ := fidx_some (nm := FFile.nm) (l := l) (s := nmS p) (k := k) (by rw [← hff, hf])
        rw [hx] at hx'
        injection hx' with hx'
        subst hx'
        have hset : (l.set k (⟨x.a0, s, x.a2 + 1⟩ : FFile))[k]? = some ⟨x.a0, s, x.a2 + 1⟩ := by simp [hk]
        refine .put k _ ?_ ?_ hset rfl hf
        · unfold siF
          rw [Bool.and_eq_true, decide_eq_true_eq, List.length_set]
          refine ⟨allK_t fun j hj => ?_, h8l⟩
          by_cases e : j = k
          · subst e
            obtain ⟨p1, p2, p3, p4⟩ := siAt_parts hx (allK_get hall hk)
            refine si_t hset (by rw [fnm_set _ _ _ _ _ _ hx]; exact p1) p2 hz ?_
            rw [inB_iff] at p4 ⊢
            omega
          · obtain ⟨y0, y1, y2, hyy⟩ : ∃ y0 y1 y2, l[j] = (⟨y0, y1, y2⟩ : FFile) := ⟨_, _, _, rfl⟩
            have hy : l[j]? = some ⟨y0, y1, y2⟩ := by rw [List.getElem?_eq_getElem hj, hyy]
            obtain ⟨p1, p2, p3, p4⟩ := siAt_parts hy (allK_get hall hj)
            exact si_t (by rw [List.getElem?_set_ne (fun e2 => e e2.symm)]; exact hy) (by rw [fnm_set _ _ _ _ _ _ hx]; exact p1) p2 p3 p4
        · unfold fif
          rw [if_pos hp]
          refine fidx_hit hset hq fun j y hj hy => ?_
          rw [List.getElem?_set_ne (by omega)] at hy
          exact hno j y hj hy
end Go.Proofs.YtnkidlahmplgnaaDoor
