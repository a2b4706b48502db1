/-
  DeadCode of both packages. Conditions: none.
-/
import Derived.Test.YthkmfdjkldipjaaHtL
namespace Go.Proofs.Ythkmfdjkldipjaa
open Go.ChangeShapes Go.WideShapes Go.ChangeAt Go.RowKit Go.Deep Go.Joins
open Go.ChangeMaps (open_string shut_string)
set_option linter.unusedVariables false
set_option linter.unusedSimpArgs false
set_option maxRecDepth 100000
/-- The first k indexes that have no height. -/
def dd (V : List Int) (k : Nat) : List Int := ((List.range k).filter (fun i => decide (V.getD i 0 < 0))).map (fun (i : Nat) => (i : Int))
theorem dd_t (V : List Int) (k : Nat) (h : V.getD k 0 < 0) : dd V (k + 1) = dd V k ++ [(k : Int)] := by
  unfold dd
  rw [List.range_succ, List.filter_append, List.map_append]
  congr 1
  rw [List.filter_cons, if_pos (decide_eq_true h)]
  rfl
theorem dd_f (V : List Int) (k : Nat) (h : ¬ V.getD k 0 < 0) : dd V (k + 1) = dd V k := by
  unfold dd
  rw [List.range_succ, List.filter_append, List.map_append]
  rw [show ([k].filter (fun i => decide (V.getD i 0 < 0))) = [] from by rw [List.filter_cons, if_neg (by simpa using h)]; rfl]
  simp
theorem dd_len (V : List Int) (k : Nat) : (dd V k).length ≤ k := by
  unfold dd
  rw [List.length_map]
  refine Nat.le_trans (List.length_filter_le _ _) ?_
  simp
def DdRel (w : World) (V : List Int) (A : Option Addr) (c : Nat) (v i : Value) (wr : World) : Prop := ∃ (k g cc : Nat), k ≤ V.length ∧ i = .int .i64 k ∧ v = .slice (some ⟨g, 0, none⟩) (dd V k).length cc ∧ Tbl wr (w.heap.size + 1) g cc (dd V k) ∧ wr.ownsRow (w.heap.size + 2) 3 1 (.slice A V.length c) V.length (V.map (Value.int .i64)) ∧ (∀ g2, A = some ⟨g2, 0, none⟩ → g ≠ g2) ∧ Below w.heap.size w wr
noncomputable def ddF (l : List FIns) (n : Nat) : List Int := dd (htV l n) (htV l n).length
set_option maxHeartbeats 4000000 in
theorem DeadCode_impl (z0 : ByteArray) (z1 : List FParam) (z2 : List FParam) (z3 : List FStr) (z4 : Bool) (z5 : List FIns) (us : List Value) (w : World) (hl : z5.length ≤ 1000000000) (hl3 : z3.length ≤ 1000000000) (hok : ∀ x, x ∈ z5 → x.ok) {B : Nat} (hB0 : B ≤ w.heap.size) (hr : RdVs w B (FFunc.c ⟨z0, z1, z2, z3, z4, z5⟩) us) :
    Calls Try.prog 18 #[.agg us.toArray] w fun e w' => ∃ A c, e = .returned (.slice A (ddF z5 z3.length).length c) ∧ w'.ownsRow w.heap.size 3 1 (.slice A (ddF z5 z3.length).length c) (ddF z5 z3.length).length ((ddF z5 z3.length).map (Value.int .i64)) ∧ Below w.heap.size w w' := by
  have RV0 := hr
  rw [FFunc.c_eq] at hr
  obtain ⟨us0, rfl, hr_0⟩ := hr.unv
  obtain ⟨A1, c1, us1, rfl, r1, hr_1⟩ := hr_0.uns
  obtain ⟨A2, c2, us2, rfl, r2, hr_2⟩ := hr_1.uns
  obtain ⟨A3, c3, us3, rfl, r3, hr_3⟩ := hr_2.uns
  obtain ⟨us4, rfl, hr_4⟩ := hr_3.unv
  obtain ⟨A5, c5, us5, rfl, r5, hr_5⟩ := hr_4.uns
  obtain rfl := hr_5.un0
  have RV := Lib.hid RV0
  clear RV0 hr hr_0 hr_1 hr_2 hr_3 hr_4 hr_5 r1 r2 r3 r5
  have HL := Lib.hid (htV_len z5 z3.length)
  have HB0 := Lib.hid hB0
  go_enter Try.func18, Try.ntmps18
  go_wp2_with fail
  refine (HeightsOf_impl isIns_impl z0 z1 z2 z3 z4 z5 [.string z0, .slice A1 z1.length c1, .slice A2 z2.length c2, .slice A3 z3.length c3, .bool z4, .slice A5 z5.length c5] _ hl hl3 hok (B := w.heap.size) (by simp; omega) ((RV.out.on (((Below.refl w.heap.size w).alloc (Nat.le_refl _) (.cells #[.string z0, .slice A1 z1.length c1, .slice A2 z2.length c2, .slice A3 z3.length c3, .bool z4, .slice A5 z5.length c5] 32)).alloc (by simp) (.cells #[] 3)) HB0.out HB0.out))).mono ?_
  rintro e w2 ⟨A, c, rfl, own2, hb2⟩
  have hB2 : Below w.heap.size w w2 := ((((Below.refl w.heap.size w).alloc (Nat.le_refl _) (.cells #[.string z0, .slice A1 z1.length c1, .slice A2 z2.length c2, .slice A3 z3.length c3, .bool z4, .slice A5 z5.length c5] 32)).alloc (by simp) (.cells #[] 3))).trans (hb2.mono (by simp; omega))
  have hT0 := own_empty (w.alloc (.cells #[.string z0, .slice A1 z1.length c1, .slice A2 z2.length c2, .slice A3 z3.length c3, .bool z4, .slice A5 z5.length c5] 32)) 3 1
  have hT1 : Tbl w2 (w.heap.size + 1) (w.heap.size + 1) 0 [] := by
    have h : Tbl ((w.alloc (.cells #[.string z0, .slice A1 z1.length c1, .slice A2 z2.length c2, .slice A3 z3.length c3, .bool z4, .slice A5 z5.length c5] 32)).alloc (.cells #[] 3)) (w.heap.size + 1) (w.heap.size + 1) 0 [] := by simpa [Tbl] using hT0
    exact h.keep hb2 (Nat.le_refl _)
  have hsz : ((w.alloc (.cells #[.string z0, .slice A1 z1.length c1, .slice A2 z2.length c2, .slice A3 z3.length c3, .bool z4, .slice A5 z5.length c5] 32)).alloc (.cells #[] 3)).heap.size = w.heap.size + 2 := by simp
  rw [hsz] at own2
  obtain ⟨V, hV⟩ : ∃ V, V = htV z5 z3.length := ⟨_, rfl⟩
  rw [← hV] at own2 HL ⊢
  have HD := Lib.hid (show ddF z5 z3.length = dd V V.length from by rw [hV]; rfl)
  have HL2 := HL.out
  have hs2 := hB2.size
  clear hV hT0 hsz hb2
  generalize htB z5 z3.length = bb
  go_wp2_with fail
  go_loopw [3, 16] (fun v i wr => DdRel w V A c v i wr) (fun _ i _ => V.length - (intOf i).toNat)
  case atStart =>
    unfold DdRel
    refine ⟨0, w.heap.size + 1, 0, Nat.zero_le _, rfl, rfl, hT1, own2, fun g2 h => ?_, hB2⟩
    have := (own_lt own2 g2 (by rw [h]; rfl)).1
    omega
  case round =>
    clear hT1 own2 hB2
    obtain ⟨k, g, cc, hk, rfl, rfl, own, hts, hne, hb⟩ := hrel
    have hbs := hb.size
    have tl := dd_len V k
    obtain ⟨hgl1, hgl2⟩ := Tbl.lt own
    have OWN := Lib.hid own
    have HTS := Lib.hid hts
    have HNE := Lib.hid hne
    clear own hts hne
    by_cases hlt : k < V.length
    · rcases own_row HTS.out with ⟨_, h0, _⟩ | ⟨g2, cap2, f2, hv, _, _, _, _, _⟩
      · omega
      injection hv with e1 e2 e3
      subst e1 e3
      obtain ⟨hc, _⟩ := Tbl.at_ HTS.out k hlt
      have hgne := HNE.out g2 rfl
      obtain ⟨h, hh⟩ : ∃ h, h = V.getD k 0 := ⟨_, rfl⟩
      rw [← hh] at hc
      by_cases hneg : h < 0
      · have dneg : decide (h < 0) = true := by simpa using hneg
        have HS := Lib.hid (dd_t V k (by rw [← hh]; exact hneg))
        have RDX := Lib.hid (rd_one wr (.int .i64 k) 3)
        clear hh
        go_wp2_with (at_builtin; go_must (refine wpList_append_rd _ rfl (.tmp 23) (.tmp 25) _ rfl (w.heap.size + 1) _ _ _ 8 Try.underlying36 htInfo rfl (by omega) (.slice (some ⟨g, 0, none⟩) (dd V k).length cc) _ _ rfl (OWN.out.alloc _) (wr.heap.size + 1) _ 1 _ [.int .i64 k] rfl RDX.out (by intro u hu; simp only [List.mem_cons, List.not_mem_nil, or_false] at hu; rcases hu with rfl; rfl) (by unfold maxLen; omega) (by omega) (by simp; omega) ?_); intro v2 w4 hown2 hg2 hat2; obtain ⟨A6, c6, rfl⟩ := own_form hown2; have HG2 := Lib.hid hg2; have HW2 := Lib.hid hown2; have HA2 := Lib.hid hat2; clear hg2 hat2 hown2)
        go_roundw
        case rel =>
          have hown2 := HW2.out
          have hg2 : (wr.alloc (.cells #[.int .i64 k] 3)).grownBy w4 (some g) := HG2.out
          have hat2 := HA2.out
          rcases own_row hown2 with ⟨hv, h0, _⟩ | ⟨g6, cap6, f6, hv, _, _, _, _, _⟩
          · omega
          · injection hv with e1 e2 e3
            subst e1
            have hl2 := (Tbl.lt HTS.out).2

            unfold DdRel
            refine ⟨k + 1, g6, c6, by omega, by go_num, by rw [HS.out, List.length_append]; rfl, ?_, ?_, fun q hq => ?_, (hb.alloc (by omega) _).grown hg2 (by simp; omega) (fun j hj => by have := Option.some.inj hj; omega)⟩
            · unfold Tbl
              rw [HS.out, List.length_append, List.map_append]
              exact hown2
            · exact Tbl.grown (Tbl.alloc HTS.out _) hg2 (Ne.symm hgne)
            · have hq2 : g2 = q := by injection hq with hq; injection hq
              rcases hat2 with e | e
              · have : g6 = g := Option.some.inj e
                omega
              · have : g6 = _ := Option.some.inj e
                simp at this
                omega
        case measure => simp [intOf]; omega
      · have dneg : decide (h < 0) = false := by simpa using hneg
        have HS := Lib.hid (dd_f V k (by rw [← hh]; exact hneg))
        clear hh
        go_wp2_with fail
        go_roundw
        case rel =>
          unfold DdRel
          exact ⟨k + 1, g, cc, by omega, by go_num, by rw [HS.out], by rw [HS.out]; exact OWN.out, HTS.out, HNE.out, hb⟩
        case measure => simp [intOf]; omega
    · obtain rfl : k = V.length := by omega
      clear hlt
      go_wp2_with fail
      go_ret
      rw [HD.out]
      exact ⟨_, _, rfl, ownsRow_le OWN.out (by omega), hb⟩
set_option maxHeartbeats 4000000 in
theorem DeadCode_spec (z0 : ByteArray) (z1 : List FParam) (z2 : List FParam) (z3 : List FStr) (z4 : Bool) (z5 : List FIns) (us : List Value) (w : World) (hl : z5.length ≤ 1000000000) (hl3 : z3.length ≤ 1000000000) (hok : ∀ x, x ∈ z5 → x.ok) {B : Nat} (hB0 : B ≤ w.heap.size) (hr : RdVs w B (FFunc.c ⟨z0, z1, z2, z3, z4, z5⟩) us) :
    Calls Try.prog 17 #[.agg us.toArray] w fun e w' => ∃ A c, e = .returned (.slice A (ddF z5 z3.length).length c) ∧ w'.ownsRow w.heap.size 3 1 (.slice A (ddF z5 z3.length).length c) (ddF z5 z3.length).length ((ddF z5 z3.length).map (Value.int .i64)) ∧ Below w.heap.size w w' := by
  have RV0 := hr
  rw [FFunc.c_eq] at hr
  obtain ⟨us0, rfl, hr_0⟩ := hr.unv
  obtain ⟨A1, c1, us1, rfl, r1, hr_1⟩ := hr_0.uns
  obtain ⟨A2, c2, us2, rfl, r2, hr_2⟩ := hr_1.uns
  obtain ⟨A3, c3, us3, rfl, r3, hr_3⟩ := hr_2.uns
  obtain ⟨us4, rfl, hr_4⟩ := hr_3.unv
  obtain ⟨A5, c5, us5, rfl, r5, hr_5⟩ := hr_4.uns
  obtain rfl := hr_5.un0
  have RV := Lib.hid RV0
  clear RV0 hr hr_0 hr_1 hr_2 hr_3 hr_4 hr_5 r1 r2 r3 r5
  have HL := Lib.hid (htV_len z5 z3.length)
  have HB0 := Lib.hid hB0
  go_enter Try.func17, Try.ntmps17
  go_wp2_with fail
  refine (HeightsOf_spec isIns_spec z0 z1 z2 z3 z4 z5 [.string z0, .slice A1 z1.length c1, .slice A2 z2.length c2, .slice A3 z3.length c3, .bool z4, .slice A5 z5.length c5] _ hl hl3 hok (B := w.heap.size) (by simp; omega) ((RV.out.on (((Below.refl w.heap.size w).alloc (Nat.le_refl _) (.cells #[.string z0, .slice A1 z1.length c1, .slice A2 z2.length c2, .slice A3 z3.length c3, .bool z4, .slice A5 z5.length c5] 32)).alloc (by simp) (.cells #[] 3)) HB0.out HB0.out))).mono ?_
  rintro e w2 ⟨A, c, rfl, own2, hb2⟩
  have hB2 : Below w.heap.size w w2 := ((((Below.refl w.heap.size w).alloc (Nat.le_refl _) (.cells #[.string z0, .slice A1 z1.length c1, .slice A2 z2.length c2, .slice A3 z3.length c3, .bool z4, .slice A5 z5.length c5] 32)).alloc (by simp) (.cells #[] 3))).trans (hb2.mono (by simp; omega))
  have hT0 := own_empty (w.alloc (.cells #[.string z0, .slice A1 z1.length c1, .slice A2 z2.length c2, .slice A3 z3.length c3, .bool z4, .slice A5 z5.length c5] 32)) 3 1
  have hT1 : Tbl w2 (w.heap.size + 1) (w.heap.size + 1) 0 [] := by
    have h : Tbl ((w.alloc (.cells #[.string z0, .slice A1 z1.length c1, .slice A2 z2.length c2, .slice A3 z3.length c3, .bool z4, .slice A5 z5.length c5] 32)).alloc (.cells #[] 3)) (w.heap.size + 1) (w.heap.size + 1) 0 [] := by simpa [Tbl] using hT0
    exact h.keep hb2 (Nat.le_refl _)
  have hsz : ((w.alloc (.cells #[.string z0, .slice A1 z1.length c1, .slice A2 z2.length c2, .slice A3 z3.length c3, .bool z4, .slice A5 z5.length c5] 32)).alloc (.cells #[] 3)).heap.size = w.heap.size + 2 := by simp
  rw [hsz] at own2
  obtain ⟨V, hV⟩ : ∃ V, V = htV z5 z3.length := ⟨_, rfl⟩
  rw [← hV] at own2 HL ⊢
  have HD := Lib.hid (show ddF z5 z3.length = dd V V.length from by rw [hV]; rfl)
  have HL2 := HL.out
  have hs2 := hB2.size
  clear hV hT0 hsz hb2
  generalize htB z5 z3.length = bb
  go_wp2_with fail
  go_loopw [3, 6] (fun v i wr => DdRel w V A c v i wr) (fun _ i _ => V.length - (intOf i).toNat)
  case atStart =>
    unfold DdRel
    refine ⟨0, w.heap.size + 1, 0, Nat.zero_le _, rfl, rfl, hT1, own2, fun g2 h => ?_, hB2⟩
    have := (own_lt own2 g2 (by rw [h]; rfl)).1
    omega
  case round =>
    clear hT1 own2 hB2
    obtain ⟨k, g, cc, hk, rfl, rfl, own, hts, hne, hb⟩ := hrel
    have hbs := hb.size
    have tl := dd_len V k
    obtain ⟨hgl1, hgl2⟩ := Tbl.lt own
    have OWN := Lib.hid own
    have HTS := Lib.hid hts
    have HNE := Lib.hid hne
    clear own hts hne
    by_cases hlt : k < V.length
    · rcases own_row HTS.out with ⟨_, h0, _⟩ | ⟨g2, cap2, f2, hv, _, _, _, _, _⟩
      · omega
      injection hv with e1 e2 e3
      subst e1 e3
      obtain ⟨hc, _⟩ := Tbl.at_ HTS.out k hlt
      have hgne := HNE.out g2 rfl
      obtain ⟨h, hh⟩ : ∃ h, h = V.getD k 0 := ⟨_, rfl⟩
      rw [← hh] at hc
      by_cases hneg : h < 0
      · have dneg : decide (h < 0) = true := by simpa using hneg
        have HS := Lib.hid (dd_t V k (by rw [← hh]; exact hneg))
        have RDX := Lib.hid (rd_one wr (.int .i64 k) 3)
        clear hh
        go_wp2_with (at_builtin; go_must (refine wpList_append_rd _ rfl (.tmp 24) (.tmp 26) _ rfl (w.heap.size + 1) _ _ _ 8 Try.underlying36 htInfo rfl (by omega) (.slice (some ⟨g, 0, none⟩) (dd V k).length cc) _ _ rfl (OWN.out.alloc _) (wr.heap.size + 1) _ 1 _ [.int .i64 k] rfl RDX.out (by intro u hu; simp only [List.mem_cons, List.not_mem_nil, or_false] at hu; rcases hu with rfl; rfl) (by unfold maxLen; omega) (by omega) (by simp; omega) ?_); intro v2 w4 hown2 hg2 hat2; obtain ⟨A6, c6, rfl⟩ := own_form hown2; have HG2 := Lib.hid hg2; have HW2 := Lib.hid hown2; have HA2 := Lib.hid hat2; clear hg2 hat2 hown2)
        go_roundw
        case rel =>
          have hown2 := HW2.out
          have hg2 : (wr.alloc (.cells #[.int .i64 k] 3)).grownBy w4 (some g) := HG2.out
          have hat2 := HA2.out
          rcases own_row hown2 with ⟨hv, h0, _⟩ | ⟨g6, cap6, f6, hv, _, _, _, _, _⟩
          · omega
          · injection hv with e1 e2 e3
            subst e1
            have hl2 := (Tbl.lt HTS.out).2

            unfold DdRel
            refine ⟨k + 1, g6, c6, by omega, by go_num, by rw [HS.out, List.length_append]; rfl, ?_, ?_, fun q hq => ?_, (hb.alloc (by omega) _).grown hg2 (by simp; omega) (fun j hj => by have := Option.some.inj hj; omega)⟩
            · unfold Tbl
              rw [HS.out, List.length_append, List.map_append]
              exact hown2
            · exact Tbl.grown (Tbl.alloc HTS.out _) hg2 (Ne.symm hgne)
            · have hq2 : g2 = q := by injection hq with hq; injection hq
              rcases hat2 with e | e
              · have : g6 = g := Option.some.inj e
                omega
              · have : g6 = _ := Option.some.inj e
                simp at this
                omega
        case measure => simp [intOf]; omega
      · have dneg : decide (h < 0) = false := by simpa using hneg
        have HS := Lib.hid (dd_f V k (by rw [← hh]; exact hneg))
        clear hh
        go_wp2_with fail
        go_roundw
        case rel =>
          unfold DdRel
          exact ⟨k + 1, g, cc, by omega, by go_num, by rw [HS.out], by rw [HS.out]; exact OWN.out, HTS.out, HNE.out, hb⟩
        case measure => simp [intOf]; omega
    · obtain rfl : k = V.length := by omega
      clear hlt
      go_wp2_with fail
      go_ret
      rw [HD.out]
      exact ⟨_, _, rfl, ownsRow_le OWN.out (by omega), hb⟩
noncomputable def ddQ (l : List FIns) (n : Nat) : List FInt := (ddF l n).map FInt.mk
theorem ddQ_len (l : List FIns) (n : Nat) : (ddQ l n).length = (ddF l n).length := by unfold ddQ; simp
theorem ddQ_wt (l : List FIns) (n : Nat) (h : l.length ≤ 1000000000) : (ddQ l n).length + FInt.wts (ddQ l n) ≤ 1000000000 := by
  have h1 : FInt.wts (ddQ l n) = 0 := h_wts _
  have h2 := htV_len l n
  have h3 := dd_len (htV l n) (htV l n).length
  rw [h1, ddQ_len]
  unfold ddF
  omega
theorem Dead_impl (z0 : ByteArray) (z1 : List FParam) (z2 : List FParam) (z3 : List FStr) (z4 : Bool) (z5 : List FIns) (us : List Value) (w : World) (hl : z5.length ≤ 1000000000) (hl3 : z3.length ≤ 1000000000) (hok : ∀ x, x ∈ z5 → x.ok) {B : Nat} (hB0 : B ≤ w.heap.size) (hr : RdVs w B (FFunc.c ⟨z0, z1, z2, z3, z4, z5⟩) us) :
    Calls Try.prog 18 #[.agg us.toArray] w fun e w' => ∃ A c, e = .returned (.slice A (ddQ z5 z3.length).length c) ∧ OwnI w' w.heap.size w'.heap.size [.s 3 1 (ddQ z5 z3.length).length (FInt.flat (ddQ z5 z3.length))] [.slice A (ddQ z5 z3.length).length c] ∧ Below w.heap.size w w' :=
  (DeadCode_impl z0 z1 z2 z3 z4 z5 us w hl hl3 hok hB0 hr).mono fun e w' ⟨A, c, h1, h2, h3⟩ => ⟨A, c, by rw [ddQ_len]; exact h1, own_table h2 h3.size, h3⟩
theorem Dead_spec (z0 : ByteArray) (z1 : List FParam) (z2 : List FParam) (z3 : List FStr) (z4 : Bool) (z5 : List FIns) (us : List Value) (w : World) (hl : z5.length ≤ 1000000000) (hl3 : z3.length ≤ 1000000000) (hok : ∀ x, x ∈ z5 → x.ok) {B : Nat} (hB0 : B ≤ w.heap.size) (hr : RdVs w B (FFunc.c ⟨z0, z1, z2, z3, z4, z5⟩) us) :
    Calls Try.prog 17 #[.agg us.toArray] w fun e w' => ∃ A c, e = .returned (.slice A (ddQ z5 z3.length).length c) ∧ OwnI w' w.heap.size w'.heap.size [.s 3 1 (ddQ z5 z3.length).length (FInt.flat (ddQ z5 z3.length))] [.slice A (ddQ z5 z3.length).length c] ∧ Below w.heap.size w w' :=
  (DeadCode_spec z0 z1 z2 z3 z4 z5 us w hl hl3 hok hB0 hr).mono fun e w' ⟨A, c, h1, h2, h3⟩ => ⟨A, c, by rw [ddQ_len]; exact h1, own_table h2 h3.size, h3⟩
end Go.Proofs.Ythkmfdjkldipjaa
