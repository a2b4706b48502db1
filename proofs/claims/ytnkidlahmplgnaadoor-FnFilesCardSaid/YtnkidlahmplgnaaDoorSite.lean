/-
  IsSite of both packages. Conditions: none.
-/
import Derived.Test.YtnkidlahmplgnaaDoorFFile
import Derived.Test.YtnkidlahmplgnaaDoorSeen
namespace Go.Proofs.YtnkidlahmplgnaaDoor
open Go.ChangeShapes Go.WideShapes Go.ChangeAt Go.RowKit Go.Deep Go.Joins
open Go.ChangeMaps (open_string shut_string)
set_option linter.unusedVariables false
set_option linter.unusedSimpArgs false
set_option maxRecDepth 100000
theorem zeroBl (w : World) : (zeroValue 4).run Tryd.prog w = .ok (.bool false) w := by kernel_rfl
def fnm (l : List FFile) (k : Nat) : List (List UInt8) := ((l.take k).map (fun x => x.a0.toList)).reverse
theorem fnm_succ (l : List FFile) (k : Nat) (x : FFile) (h : l[k]? = some x) : fnm l (k + 1) = x.a0.toList :: fnm l k := by
  unfold fnm
  rw [List.take_add_one, h]
  simp
theorem fnm_mem (l : List FFile) (k : Nat) (s : List UInt8) : hasS (fnm l k) s = true ↔ ∃ (j : Nat) (y : FFile), j < k ∧ l[j]? = some y ∧ (y.a0.toList == s) = true := by
  unfold hasS fnm
  rw [List.contains_iff_mem, List.mem_reverse, List.mem_map]
  constructor
  · rintro ⟨y, hy, e⟩
    obtain ⟨j, hj⟩ := List.mem_iff_getElem?.1 hy
    rw [List.getElem?_take] at hj
    split at hj
    · next hlt => exact ⟨j, y, hlt, hj, by simpa using e⟩
    · cases hj
  · rintro ⟨j, y, hj, hy, e⟩
    refine ⟨y, List.mem_iff_getElem?.2 ⟨j, ?_⟩, by simpa using e⟩
    rw [List.getElem?_take, if_pos hj]
    exact hy
def siAt (l : List FFile) (k : Nat) : Bool := match l[k]? with
  | some x => !hasS (fnm l k) x.a0.toList && (isnF x.a0 && (decide (x.a1.size ≤ 4000) && inB x.a2 1 1000000000))
  | none => true
def allK (f : Nat → Bool) (n : Nat) : Bool := (List.range n).all f
theorem allK_t {f : Nat → Bool} {n : Nat} (h : ∀ j, j < n → f j = true) : allK f n = true := by
  unfold allK
  rw [List.all_eq_true]
  exact fun x hx => h x (List.mem_range.1 hx)
theorem allK_f {f : Nat → Bool} {n j : Nat} (hj : j < n) (h : f j = false) : allK f n = false := by
  unfold allK
  rw [List.all_eq_false]
  exact ⟨j, List.mem_range.2 hj, by rw [h]; simp⟩
theorem on_succ {f : Nat → Bool} {k : Nat} (h : ∀ j, j < k → f j = true) (hk : f k = true) : ∀ j, j < k + 1 → f j = true := fun j hj => by
  by_cases e : j < k
  · exact h j e
  · rw [show j = k by omega]; exact hk
section
variable {l : List FFile} {k : Nat} {y0 y1 : ByteArray} {y2 : Int}
theorem si_1 (hx : l[k]? = some ⟨y0, y1, y2⟩) (h : hasS (fnm l k) y0.toList = true) : siAt l k = false := by unfold siAt; rw [hx]; simp only; rw [h]; rfl
theorem si_2 (hx : l[k]? = some ⟨y0, y1, y2⟩) (h : isnF y0 = false) : siAt l k = false := by unfold siAt; rw [hx]; simp only; rw [h]; simp
theorem si_3 (hx : l[k]? = some ⟨y0, y1, y2⟩) (h : ¬ y1.size ≤ 4000) : siAt l k = false := by unfold siAt; rw [hx]; simp only; rw [decide_eq_false h]; simp
theorem si_4 (hx : l[k]? = some ⟨y0, y1, y2⟩) (h : inB y2 1 1000000000 = false) : siAt l k = false := by unfold siAt; rw [hx]; simp only; rw [h]; simp
theorem si_t (hx : l[k]? = some ⟨y0, y1, y2⟩) (h1 : hasS (fnm l k) y0.toList = false) (h2 : isnF y0 = true) (h3 : y1.size ≤ 4000) (h4 : inB y2 1 1000000000 = true) : siAt l k = true := by unfold siAt; rw [hx]; simp only; rw [h1, h2, decide_eq_true h3, h4]; rfl
theorem si_fif (hx : l[k]? = some ⟨y0, y1, y2⟩) (h2 : isnF y0 = true) : (fif l y0 != (k : Int)) = hasS (fnm l k) y0.toList := by
  have h3 : nmOk y0 = true ∧ ((nmS y0).toList == y0.toList) = true := by
    have h := h2
    unfold isnF at h
    simpa only [Bool.and_eq_true] using h
  have h4 : (nmS y0).toList = y0.toList := by simpa using h3.2
  have hf : fif l y0 = fidx FFile.nm l y0 := by
    unfold fif
    rw [if_pos h3.1]
    unfold fidx
    rw [h4]
  rw [hf]
  cases hh : hasS (fnm l k) y0.toList with
  | false =>
    have : fidx FFile.nm l y0 = (k : Int) := by
      refine fidx_hit hx (by show (y0.toList == y0.toList) = true; simp) fun j y hj hy => ?_
      cases hq : ((FFile.nm y).toList == y0.toList) with
      | false => rfl
      | true =>
        have := (fnm_mem l k y0.toList).2 ⟨j, y, hj, hy, hq⟩
        rw [hh] at this
        cases this
    rw [this]; simp
  | true =>
    obtain ⟨j, y, hj, hy, e⟩ := (fnm_mem l k y0.toList).1 hh
    have hne : fidx FFile.nm l y0 ≠ (k : Int) := by
      intro hc
      unfold fidx at hc
      cases hf : l.findIdx? (fun z => (FFile.nm z).toList == y0.toList) with
      | none => rw [hf] at hc; simp only at hc; omega
      | some q =>
        rw [hf] at hc
        simp only at hc
        have hq : q = k := by omega
        subst hq
        rw [List.findIdx?_eq_some_iff_getElem] at hf
        obtain ⟨_, _, h3⟩ := hf
        have h4 := h3 j hj
        have hj2 := (List.getElem?_eq_some_iff.1 hy)
        obtain ⟨hj3, hj4⟩ := hj2
        rw [hj4] at h4
        exact h4 e
    simpa using hne
end
def siF (l : List FFile) : Bool := allK (siAt l) l.length && decide (l.length ≤ 8)
theorem siF_f {l : List FFile} {k : Nat} (hk : k < l.length) (h : siAt l k = false) : siF l = false := by unfold siF; rw [allK_f hk h]; rfl
theorem siF_t {l : List FFile} (h : ∀ j, j < l.length → siAt l j = true) : siF l = decide (l.length ≤ 8) := by unfold siF; rw [allK_t h]; simp
theorem FFile.wts_mem : ∀ (l : List FFile) (x : FFile), x ∈ l → x.wt ≤ FFile.wts l
  | [], x, hx => by cases hx
  | y :: r, x, hx => by
    rw [FFile.wts]
    rcases List.mem_cons.1 hx with rfl | hx
    · omega
    · have := FFile.wts_mem r x hx
      omega
set_option maxHeartbeats 4000000 in
theorem IsSite_spec (l : List FFile) (u : Value) (w : World) (hw : l.length + FFile.wts l ≤ 1048576) {B : Nat} (hB0 : B ≤ w.heap.size) (hr0 : RdC w B (.s 39 3 l.length (FFile.flat l)) u) :
    Calls Tryd.prog 35 #[u] w fun e w' => e = .returned (.bool (siF l)) ∧ Below w.heap.size w w' := by
  have hr := hr0.up hB0
  clear hr0
  obtain ⟨A, c, rfl⟩ := hr.form
  have HC := Lib.hid hr
  have hl : l.length ≤ 1048576 := by omega
  have HSZ := Lib.hid (fun x (hx : x ∈ l) => (show x.wt ≤ 1048576 from by have := FFile.wts_mem l x hx; omega))
  clear hr
  go_enter Tryd.func35, Tryd.ntmps35
  go_wp2_with fail
  go_loopw [3] (fun i wr => ∃ k : Nat, k ≤ l.length ∧ i = .int .i64 k ∧ (∀ j, j < k → siAt l j = true) ∧ Below w.heap.size w wr) (fun i _ => l.length - (intOf i).toNat)
  case atStart => exact ⟨0, Nat.zero_le _, rfl, fun j hj => absurd hj (by omega), Below.refl _ _⟩
  case round =>
    obtain ⟨k, hk, rfl, hs, hb⟩ := hrel
    have HS := Lib.hid hs
    have hbs := hb.size
    clear hs
    by_cases hlt : k < l.length
    · obtain ⟨x, hx⟩ : ∃ x, l[k]? = some x := ⟨_, List.getElem?_eq_getElem hlt⟩
      obtain ⟨bc, offc, rfl, hblc, hcc⟩ := RdC.at_ FFile.len HC.out hx
      have HX := Lib.hid hx
      have hxz := HSZ.out x (List.mem_of_getElem? hx)
      clear hx
      obtain ⟨y0, y1, y2⟩ := x
      rw [FFile.wt_eq] at hxz
      rw [FFile.c_eq] at hcc
      obtain ⟨u0, e0, q0⟩ := hcc 0 _ rfl
      obtain rfl := q0.val
      have c_0 : wr.cell? ⟨bc, offc + k * 3, none⟩ = some (.string y0) := (hb.cell (p := ⟨bc, _, none⟩) hblc).trans (by simpa using e0)
      clear e0 q0
      obtain ⟨u1, e1, q1⟩ := hcc 1 _ rfl
      obtain rfl := q1.val
      have c_1 : wr.cell? ⟨bc, offc + k * 3 + 1, none⟩ = some (.string y1) := (hb.cell (p := ⟨bc, _, none⟩) hblc).trans (by simpa using e1)
      clear e1 q1
      obtain ⟨u2, e2, q2⟩ := hcc 2 _ rfl
      obtain rfl := q2.val
      have c_2 : wr.cell? ⟨bc, offc + k * 3 + 2, none⟩ = some (.int .i64 y2) := (hb.cell (p := ⟨bc, _, none⟩) hblc).trans (by simpa using e2)
      clear e2 q2
      clear hcc
      have hy0 : y0.size ≤ 1048576 := by omega
      have hy1 : y1.size ≤ 9223372036854775807 := by omega
      cases h2 : isnF y0 with
      | false =>
        have H2 := Lib.hid h2
        clear h2
        go_wp2_with (go_at_call 44; refine (IsNormal_spec y0 _ hy0).mono ?_; rw [H2.out]; rintro e w2 ⟨rfl, hb2⟩; have B2 := Lib.hid (hb.trans (hb2.mono hbs)); have d1_0 := ((bcell hb2).1 bc (offc + k * 3) (by omega)).trans c_0; have d1_1 := ((bcell hb2).1 bc (offc + k * 3 + 1) (by omega)).trans c_1; have d1_2 := ((bcell hb2).1 bc (offc + k * 3 + 2) (by omega)).trans c_2; have hs2 := hb2.size; clear hb2)
        go_ret
        exact ⟨ret_bool (siF_f hlt (si_2 HX.out H2.out)).symm, B2.out⟩
      | true =>
        have H2 := Lib.hid h2
        clear h2
        obtain ⟨q, hq⟩ : ∃ q, q = fif l y0 := ⟨_, rfl⟩
        have hqk : (q != (k : Int)) = hasS (fnm l k) y0.toList := by rw [hq]; exact si_fif HX.out H2.out
        have HQ := Lib.hid hq
        clear hq
        cases h1 : hasS (fnm l k) y0.toList with
        | true =>
          have H1 := Lib.hid h1
          rw [h1] at hqk
          clear h1
          go_wp2_with (first | (go_at_call 44; refine (IsNormal_spec y0 _ hy0).mono ?_; rw [H2.out]; rintro e w2 ⟨rfl, hb2⟩; have B2 := Lib.hid (hb.trans (hb2.mono hbs)); have d1_0 := ((bcell hb2).1 bc (offc + k * 3) (by omega)).trans c_0; have d1_1 := ((bcell hb2).1 bc (offc + k * 3 + 1) (by omega)).trans c_1; have d1_2 := ((bcell hb2).1 bc (offc + k * 3 + 2) (by omega)).trans c_2; have hs2 := hb2.size; clear hb2) | (go_at_call 34; refine (FindFile_spec l y0 _ _ hy0 (by omega) (B := w.heap.size) B2.out.size (HC.out.on B2.out (Nat.le_refl _) (Nat.le_refl _))).mono ?_; rw [← HQ.out]; rintro e w3 ⟨rfl, hb3⟩; have B3 := Lib.hid (B2.out.trans (hb3.mono B2.out.size)); have d2_1 := ((bcell hb3).1 bc (offc + k * 3 + 1) (by omega)).trans d1_1; have d2_2 := ((bcell hb3).1 bc (offc + k * 3 + 2) (by omega)).trans d1_2; have hs3 := hb3.size; clear hb3))
          go_ret
          exact ⟨ret_bool (siF_f hlt (si_1 HX.out H1.out)).symm, B3.out⟩
        | false =>
          have H1 := Lib.hid h1
          rw [h1] at hqk
          clear h1
          by_cases h3 : y1.size ≤ 4000
          case neg =>
            have d3 : decide ((4000 : Int) < (y1.size : Int)) = true := decide_eq_true (by omega)
            go_wp2_with (first | (go_at_call 44; refine (IsNormal_spec y0 _ hy0).mono ?_; rw [H2.out]; rintro e w2 ⟨rfl, hb2⟩; have B2 := Lib.hid (hb.trans (hb2.mono hbs)); have d1_0 := ((bcell hb2).1 bc (offc + k * 3) (by omega)).trans c_0; have d1_1 := ((bcell hb2).1 bc (offc + k * 3 + 1) (by omega)).trans c_1; have d1_2 := ((bcell hb2).1 bc (offc + k * 3 + 2) (by omega)).trans c_2; have hs2 := hb2.size; clear hb2) | (go_at_call 34; refine (FindFile_spec l y0 _ _ hy0 (by omega) (B := w.heap.size) B2.out.size (HC.out.on B2.out (Nat.le_refl _) (Nat.le_refl _))).mono ?_; rw [← HQ.out]; rintro e w3 ⟨rfl, hb3⟩; have B3 := Lib.hid (B2.out.trans (hb3.mono B2.out.size)); have d2_1 := ((bcell hb3).1 bc (offc + k * 3 + 1) (by omega)).trans d1_1; have d2_2 := ((bcell hb3).1 bc (offc + k * 3 + 2) (by omega)).trans d1_2; have hs3 := hb3.size; clear hb3))
            go_ret
            exact ⟨ret_bool (siF_f hlt (si_3 HX.out h3)).symm, B3.out⟩
          have d3 : decide ((4000 : Int) < (y1.size : Int)) = false := decide_eq_false (by omega)
          cases h4 : inB y2 1 1000000000 with
          | false =>
            have H4 := Lib.hid h4
            clear h4
            go_wp2_with (first | (go_at_call 44; refine (IsNormal_spec y0 _ hy0).mono ?_; rw [H2.out]; rintro e w2 ⟨rfl, hb2⟩; have B2 := Lib.hid (hb.trans (hb2.mono hbs)); have d1_0 := ((bcell hb2).1 bc (offc + k * 3) (by omega)).trans c_0; have d1_1 := ((bcell hb2).1 bc (offc + k * 3 + 1) (by omega)).trans c_1; have d1_2 := ((bcell hb2).1 bc (offc + k * 3 + 2) (by omega)).trans c_2; have hs2 := hb2.size; clear hb2) | (go_at_call 34; refine (FindFile_spec l y0 _ _ hy0 (by omega) (B := w.heap.size) B2.out.size (HC.out.on B2.out (Nat.le_refl _) (Nat.le_refl _))).mono ?_; rw [← HQ.out]; rintro e w3 ⟨rfl, hb3⟩; have B3 := Lib.hid (B2.out.trans (hb3.mono B2.out.size)); have d2_1 := ((bcell hb3).1 bc (offc + k * 3 + 1) (by omega)).trans d1_1; have d2_2 := ((bcell hb3).1 bc (offc + k * 3 + 2) (by omega)).trans d1_2; have hs3 := hb3.size; clear hb3) | (go_at_call 43; refine (l1In_any _ _ _ _).mono ?_; rw [H4.out]; rintro e w' ⟨rfl, rfl⟩))
            go_ret
            exact ⟨ret_bool (siF_f hlt (si_4 HX.out H4.out)).symm, B3.out⟩
          | true =>
            have H4 := Lib.hid h4
            have HT := Lib.hid (si_t HX.out H1.out H2.out h3 h4)
            clear h4
            go_wp2_with (first | (go_at_call 44; refine (IsNormal_spec y0 _ hy0).mono ?_; rw [H2.out]; rintro e w2 ⟨rfl, hb2⟩; have B2 := Lib.hid (hb.trans (hb2.mono hbs)); have d1_0 := ((bcell hb2).1 bc (offc + k * 3) (by omega)).trans c_0; have d1_1 := ((bcell hb2).1 bc (offc + k * 3 + 1) (by omega)).trans c_1; have d1_2 := ((bcell hb2).1 bc (offc + k * 3 + 2) (by omega)).trans c_2; have hs2 := hb2.size; clear hb2) | (go_at_call 34; refine (FindFile_spec l y0 _ _ hy0 (by omega) (B := w.heap.size) B2.out.size (HC.out.on B2.out (Nat.le_refl _) (Nat.le_refl _))).mono ?_; rw [← HQ.out]; rintro e w3 ⟨rfl, hb3⟩; have B3 := Lib.hid (B2.out.trans (hb3.mono B2.out.size)); have d2_1 := ((bcell hb3).1 bc (offc + k * 3 + 1) (by omega)).trans d1_1; have d2_2 := ((bcell hb3).1 bc (offc + k * 3 + 2) (by omega)).trans d1_2; have hs3 := hb3.size; clear hb3) | (go_at_call 43; refine (l1In_any _ _ _ _).mono ?_; rw [H4.out]; rintro e w' ⟨rfl, rfl⟩))
            go_roundw
            case rel => exact ⟨k + 1, by omega, by go_num, on_succ HS.out HT.out, B3.out⟩
            case measure => simp [intOf]; omega
    · obtain rfl : k = l.length := by omega
      clear hlt
      have R := Lib.hid (siF_t HS.out)
      go_wp2_with fail
      go_ret
      exact ⟨ret_bool (by rw [R.out]; exact decide_eq_decide.2 (by omega)), hb⟩
set_option maxHeartbeats 4000000 in
theorem IsSite_impl (l : List FFile) (u : Value) (w : World) (hm : MaxAt w) (hw : l.length + FFile.wts l ≤ 1048576) {B : Nat} (hB0 : B ≤ w.heap.size) (hr0 : RdC w B (.s 39 3 l.length (FFile.flat l)) u) :
    Calls Tryd.prog 12 #[u] w fun e w' => e = .returned (.bool (siF l)) ∧ Below w.heap.size w w' := by
  have hr := hr0.up hB0
  clear hr0
  obtain ⟨A, c, rfl⟩ := hr.form
  have HC := Lib.hid hr
  have hl : l.length ≤ 1048576 := by omega
  have HSZ := Lib.hid (fun x (hx : x ∈ l) => (show x.wt ≤ 1048576 from by have := FFile.wts_mem l x hx; omega))
  clear hr
  have MX := Lib.hid hm
  clear hm
  have hmm := @run_makeMap Tryd.prog
  go_enter Tryd.func12, Tryd.ntmps12
  go_wp2_with fail
  go_loopw [9] (fun i wr => ∃ k : Nat, k ≤ l.length ∧ i = .int .i64 k ∧ (∀ j, j < k → siAt l j = true) ∧ Seen Tryd.prog 9 4 wr w.heap.size k (fnm l k) ∧ Below w.heap.size w wr) (fun i _ => l.length - (intOf i).toNat)
  case atStart => exact ⟨0, Nat.zero_le _, rfl, fun j hj => absurd hj (by omega), Seen.made w, (Below.refl _ _).alloc (Nat.le_refl _) _⟩
  case round =>
    obtain ⟨k, hk, rfl, hs, hse, hb⟩ := hrel
    have HS := Lib.hid hs
    have SE := Lib.hid hse
    have hbs := hb.size
    have hkm : k < maxLen := by unfold maxLen; omega
    clear hs hse
    by_cases hlt : k < l.length
    · obtain ⟨x, hx⟩ : ∃ x, l[k]? = some x := ⟨_, List.getElem?_eq_getElem hlt⟩
      obtain ⟨bc, offc, rfl, hblc, hcc⟩ := RdC.at_ FFile.len HC.out hx
      have HX := Lib.hid hx
      have hxz := HSZ.out x (List.mem_of_getElem? hx)
      clear hx
      obtain ⟨y0, y1, y2⟩ := x
      rw [FFile.wt_eq] at hxz
      rw [FFile.c_eq] at hcc
      obtain ⟨u0, e0, q0⟩ := hcc 0 _ rfl
      obtain rfl := q0.val
      have c_0 : wr.cell? ⟨bc, offc + k * 3, none⟩ = some (.string y0) := (hb.cell (p := ⟨bc, _, none⟩) hblc).trans (by simpa using e0)
      clear e0 q0
      obtain ⟨u1, e1, q1⟩ := hcc 1 _ rfl
      obtain rfl := q1.val
      have c_1 : wr.cell? ⟨bc, offc + k * 3 + 1, none⟩ = some (.string y1) := (hb.cell (p := ⟨bc, _, none⟩) hblc).trans (by simpa using e1)
      clear e1 q1
      obtain ⟨u2, e2, q2⟩ := hcc 2 _ rfl
      obtain rfl := q2.val
      have c_2 : wr.cell? ⟨bc, offc + k * 3 + 2, none⟩ = some (.int .i64 y2) := (hb.cell (p := ⟨bc, _, none⟩) hblc).trans (by simpa using e2)
      clear e2 q2
      clear hcc
      have hy0 : y0.size ≤ 1048576 := by omega
      have hy1 : y1.size ≤ 9223372036854775807 := by omega
      have hsm : y0.size ≤ maxLen := by unfold maxLen; omega
      have HBX := Lib.hid (hb.alloc hbs (.cells #[.string y0, .string y1, .int .i64 y2] 39))
      cases h1 : hasS (fnm l k) y0.toList with
      | true =>
        have H1 := Lib.hid h1
        clear h1
        go_wp2_with (at_lookup; refine wpList_look_seen _ rfl _ _ 50 rfl 9 4 Tryd.underlying9 Tryd.underlying4 zeroBl Tryd.underlying50 w.heap.size k (fnm l k) rfl (SE.out.alloc _) y0 hsm rfl ?_; rw [H1.out])
        go_ret
        exact ⟨ret_bool (siF_f hlt (si_1 HX.out H1.out)).symm, HBX.out⟩
      | false =>
        have H1 := Lib.hid h1
        clear h1
        cases h2 : isnF y0 with
        | false =>
          have H2 := Lib.hid h2
          clear h2
          go_wp2_with (first | (at_lookup; refine wpList_look_seen _ rfl _ _ 50 rfl 9 4 Tryd.underlying9 Tryd.underlying4 zeroBl Tryd.underlying50 w.heap.size k (fnm l k) rfl (SE.out.alloc _) y0 hsm rfl ?_; rw [H1.out]) | (go_at_call 8; refine (IsNormal_impl y0 _ hy0 (MX.out.below HBX.out)).mono ?_; rw [H2.out]; rintro e w2 ⟨rfl, hb2⟩; have B2 := Lib.hid (HBX.out.trans (hb2.mono HBX.out.size)); have S2 := Lib.hid ((SE.out.alloc _).below hb2 (Nat.le_refl _)); have bx := (Blk.new wr 39 #[.string y0, .string y1, .int .i64 y2]).below hb2 (Nat.le_refl _); have x0 := bx.cell 0; have x1 := bx.cell 1; have x2 := bx.cell 2; have xl := bx.lt; clear hb2 bx))
          go_ret
          exact ⟨ret_bool (siF_f hlt (si_2 HX.out H2.out)).symm, B2.out⟩
        | true =>
          have H2 := Lib.hid h2
          clear h2
          by_cases h3 : y1.size ≤ 4000
          case neg =>
            have d3 : decide ((4000 : Int) < (y1.size : Int)) = true := decide_eq_true (by omega)
            go_wp2_with (first | (at_lookup; refine wpList_look_seen _ rfl _ _ 50 rfl 9 4 Tryd.underlying9 Tryd.underlying4 zeroBl Tryd.underlying50 w.heap.size k (fnm l k) rfl (SE.out.alloc _) y0 hsm rfl ?_; rw [H1.out]) | (go_at_call 8; refine (IsNormal_impl y0 _ hy0 (MX.out.below HBX.out)).mono ?_; rw [H2.out]; rintro e w2 ⟨rfl, hb2⟩; have B2 := Lib.hid (HBX.out.trans (hb2.mono HBX.out.size)); have S2 := Lib.hid ((SE.out.alloc _).below hb2 (Nat.le_refl _)); have bx := (Blk.new wr 39 #[.string y0, .string y1, .int .i64 y2]).below hb2 (Nat.le_refl _); have x0 := bx.cell 0; have x1 := bx.cell 1; have x2 := bx.cell 2; have xl := bx.lt; clear hb2 bx))
            go_ret
            exact ⟨ret_bool (siF_f hlt (si_3 HX.out h3)).symm, B2.out⟩
          have d3 : decide ((4000 : Int) < (y1.size : Int)) = false := decide_eq_false (by omega)
          cases h4 : inB y2 1 1000000000 with
          | false =>
            have H4 := Lib.hid h4
            clear h4
            go_wp2_with (first | (at_lookup; refine wpList_look_seen _ rfl _ _ 50 rfl 9 4 Tryd.underlying9 Tryd.underlying4 zeroBl Tryd.underlying50 w.heap.size k (fnm l k) rfl (SE.out.alloc _) y0 hsm rfl ?_; rw [H1.out]) | (go_at_call 8; refine (IsNormal_impl y0 _ hy0 (MX.out.below HBX.out)).mono ?_; rw [H2.out]; rintro e w2 ⟨rfl, hb2⟩; have B2 := Lib.hid (HBX.out.trans (hb2.mono HBX.out.size)); have S2 := Lib.hid ((SE.out.alloc _).below hb2 (Nat.le_refl _)); have bx := (Blk.new wr 39 #[.string y0, .string y1, .int .i64 y2]).below hb2 (Nat.le_refl _); have x0 := bx.cell 0; have x1 := bx.cell 1; have x2 := bx.cell 2; have xl := bx.lt; clear hb2 bx) | (go_at_call 18; refine (inRange_any _ _ _ _).mono ?_; rw [H4.out]; rintro e w' ⟨rfl, rfl⟩))
            go_ret
            exact ⟨ret_bool (siF_f hlt (si_4 HX.out H4.out)).symm, B2.out⟩
          | true =>
            have H4 := Lib.hid h4
            have HT := Lib.hid (si_t HX.out H1.out H2.out h3 h4)
            clear h4
            go_wp2_with (first | (at_lookup; refine wpList_look_seen _ rfl _ _ 50 rfl 9 4 Tryd.underlying9 Tryd.underlying4 zeroBl Tryd.underlying50 w.heap.size k (fnm l k) rfl (SE.out.alloc _) y0 hsm rfl ?_; rw [H1.out]) | (go_at_call 8; refine (IsNormal_impl y0 _ hy0 (MX.out.below HBX.out)).mono ?_; rw [H2.out]; rintro e w2 ⟨rfl, hb2⟩; have B2 := Lib.hid (HBX.out.trans (hb2.mono HBX.out.size)); have S2 := Lib.hid ((SE.out.alloc _).below hb2 (Nat.le_refl _)); have bx := (Blk.new wr 39 #[.string y0, .string y1, .int .i64 y2]).below hb2 (Nat.le_refl _); have x0 := bx.cell 0; have x1 := bx.cell 1; have x2 := bx.cell 2; have xl := bx.lt; clear hb2 bx) | (go_at_call 18; refine (inRange_any _ _ _ _).mono ?_; rw [H4.out]; rintro e w' ⟨rfl, rfl⟩) | (at_mapUpdate; refine wpList_put_seen _ rfl _ _ _ 50 rfl 9 4 Tryd.underlying9 Tryd.underlying4 Tryd.underlying50 w.heap.size k (fnm l k) rfl S2.out hkm y0 hsm rfl rfl ?_; intro w3 hse3 hg3; have HG3 := Lib.hid hg3; clear hg3))
            go_roundw
            case rel =>
              refine ⟨k + 1, by omega, by go_num, on_succ HS.out HT.out, ?_, B2.out.grown HG3.out B2.out.size (fun g hg => by injection hg with hg; omega)⟩
              rw [fnm_succ _ _ _ HX.out]
              exact hse3
            case measure => simp [intOf]; omega
    · obtain rfl : k = l.length := by omega
      clear hlt
      have R := Lib.hid (siF_t HS.out)
      go_wp2_with fail
      go_ret
      exact ⟨ret_bool (by rw [R.out]; exact decide_eq_decide.2 (by omega)), hb⟩
end Go.Proofs.YtnkidlahmplgnaaDoor
