/-
  Parts of the proof: HtJ. Conditions: none.
-/
import Derived.Test.YtdmbhmhfjappcaaGreatDoorQHtH
import Derived.Deep.DeepMust
namespace Go.Proofs.YtdmbhmhfjappcaaGreatDoor
open Go.ChangeShapes Go.WideShapes Go.ChangeAt Go.RowKit Go.Deep Go.Joins
open Go.ChangeMaps (open_string shut_string)
set_option linter.unusedVariables false
set_option linter.unusedSimpArgs false
set_option maxRecDepth 100000
theorem Tbl.far {w : World} {base g c : Nat} {V : List Int} (h : Tbl w base g c V) {p : Addr} (hp : g ≠ p.block) (u : Value) : Tbl (w.setCell p u) base g c V :=
  own_keep h fun k hk => Below.heap_setCell w p u k (by have : g = k := Option.some.inj hk; omega)
theorem Tbl.grown {w w' : World} {base g c r : Nat} {V : List Int} (h : Tbl w base g c V) (hg : w.grownBy w' (some r)) (hne : g ≠ r) : Tbl w' base g c V :=
  own_keep h fun k hk => hg.block k (by have := (own_lt h k hk).2; omega) (fun e => by have h1 : g = k := Option.some.inj hk; have h2 := Option.some.inj e; omega)
/-- The memory of a round: the function's copy, the table and its box, the work list and its box. -/
structure IS0 (w : World) (O Wb g gw c cw N : Nat) (fs : Array Value) (V L : List Int) (W : World) : Prop where
  tb : Tbl W (w.heap.size + 1) g c V
  wk : Tbl W (w.heap.size + 1) gw cw L
  bf : Blk W w.heap.size 51 fs
  bo : Blk W O 78 #[.slice (some ⟨g, 0, none⟩) N c]
  bw : Blk W Wb 78 #[.slice (some ⟨gw, 0, none⟩) L.length cw]
  bl : Below w.heap.size w W
  hn : V.length = N
  ne : w.heap.size < O ∧ w.heap.size < Wb ∧ O ≠ Wb ∧ O ≠ g ∧ O ≠ gw ∧ Wb ≠ g ∧ Wb ≠ gw ∧ g ≠ gw
/-- The same, with the instruction's copy. -/
structure IS1 (w : World) (O Wb X g gw c cw N : Nat) (fs xs : Array Value) (V L : List Int) (W : World) : Prop where
  st : IS0 w O Wb g gw c cw N fs V L W
  bx : Blk W X 77 xs
  nx : w.heap.size < X ∧ X ≠ O ∧ X ≠ Wb ∧ X ≠ g ∧ X ≠ gw
section
variable {w W W' : World} {O Wb X g gw c cw N : Nat} {fs xs : Array Value} {V V' L : List Int}
theorem IS0.below (s : IS0 w O Wb g gw c cw N fs V L W) (hb : Below W.heap.size W W') : IS0 w O Wb g gw c cw N fs V L W' :=
  ⟨s.tb.keep hb (Nat.le_refl _), s.wk.keep hb (Nat.le_refl _), s.bf.below hb (Nat.le_refl _), s.bo.below hb (Nat.le_refl _), s.bw.below hb (Nat.le_refl _), s.bl.trans (hb.mono s.bl.size), s.hn, s.ne⟩
theorem IS1.below (s : IS1 w O Wb X g gw c cw N fs xs V L W) (hb : Below W.heap.size W W') : IS1 w O Wb X g gw c cw N fs xs V L W' :=
  ⟨s.st.below hb, s.bx.below hb (Nat.le_refl _), s.nx⟩
theorem IS0.drew (s : IS0 w O Wb g gw c cw N fs V L W) : IS0 w O Wb g gw c cw N fs V L W.drew :=
  ⟨own_keep s.tb fun _ _ => rfl, own_keep s.wk fun _ _ => rfl, s.bf, s.bo, s.bw, s.bl.drew, s.hn, s.ne⟩
theorem IS1.drew (s : IS1 w O Wb X g gw c cw N fs xs V L W) : IS1 w O Wb X g gw c cw N fs xs V L W.drew := ⟨s.st.drew, s.bx, s.nx⟩
end
set_option maxHeartbeats 2000000 in
theorem giveI_none {w W : World} {O Wb X g gw c cw N : Nat} {fs xs : Array Value} {V L : List Int} (s : IS1 w O Wb X g gw c cw N fs xs V L W) (at_ n : Int) (m : Nat) (hm : at_ = (m : Int)) (hl : N ≤ 1000000000) (hg : giveF V at_ n = none) (hm1 : m ≤ 1000000000) :
    Calls Tryz.prog 68 #[.int .i64 at_, .int .i64 n, .pointer (some ⟨O, 0, none⟩), .pointer (some ⟨Wb, 0, none⟩)] W fun e W' => e = .returned (.bool false) ∧ W = W' := by
  subst hm
  have hb0 : W.cell? ⟨O, 0, none⟩ = some (.slice (some ⟨g, 0, none⟩) N c) := s.st.bo.cell 0
  have hN := s.st.hn
  rcases giveF_bad hg with h | ⟨h1, h2⟩ | ⟨h1, h2, h3, h4⟩
  · rw [hN] at h
    have hle : decide ((N : Int) ≤ (m : Int)) = true := by simp; omega
    clear hg s hN
    go_enter Tryz.func68, Tryz.ntmps68
    go_wp2_with (go_at_call 22; refine (inRange_any _ _ _ _).mono ?_; rintro e w' ⟨rfl, rfl⟩)
    go_ret
    exact ⟨rfl, rfl⟩
  · rw [hN] at h1
    have hle : decide ((N : Int) ≤ (m : Int)) = false := by simp; omega
    clear hg s hN
    go_enter Tryz.func68, Tryz.ntmps68
    go_wp2_with (go_at_call 22; refine (inRange_any _ _ _ _).mono ?_; rintro e w' ⟨rfl, rfl⟩)
    go_ret
    exact ⟨rfl, rfl⟩
  · obtain ⟨hc, hf⟩ := s.st.tb.at_ m h1
    rw [hN] at h1
    have hle : decide ((N : Int) ≤ (m : Int)) = false := by simp; omega
    generalize V.getD m 0 = u at *
    have d1 : decide (0 ≤ u) = true := by simp; omega
    have d3 : (u != n) = true := by simpa using h4
    clear hg s hN
    go_enter Tryz.func68, Tryz.ntmps68
    go_wp2_with (go_at_call 22; refine (inRange_any _ _ _ _).mono ?_; rintro e w' ⟨rfl, rfl⟩)
    go_ret
    exact ⟨rfl, rfl⟩
set_option maxHeartbeats 2000000 in
theorem giveI_old {w W : World} {O Wb X g gw c cw N : Nat} {fs xs : Array Value} {V V' L : List Int} (s : IS1 w O Wb X g gw c cw N fs xs V L W) (at_ n : Int) (m : Nat) (hm : at_ = (m : Int)) (hl : N ≤ 1000000000) (hg : giveF V at_ n = some V') (ho : 0 ≤ V.getD at_.toNat 0) :
    Calls Tryz.prog 68 #[.int .i64 at_, .int .i64 n, .pointer (some ⟨O, 0, none⟩), .pointer (some ⟨Wb, 0, none⟩)] W fun e W' => e = .returned (.bool true) ∧ W = W' := by
  subst hm
  have hb0 : W.cell? ⟨O, 0, none⟩ = some (.slice (some ⟨g, 0, none⟩) N c) := s.st.bo.cell 0
  have hN := s.st.hn
  rw [Int.toNat_natCast] at ho
  obtain ⟨h1, h2, h3, h4, h5⟩ := giveF_cases hg
  have hb : inB n 0 500 = true := by unfold inB; simp; omega
  obtain ⟨hc, hf⟩ := s.st.tb.at_ m h1
  rw [hN] at h1
  have hle : decide ((N : Int) ≤ (m : Int)) = false := by simp; omega
  have h6 : V.getD m 0 = n := by omega
  generalize V.getD m 0 = u at *
  subst h6
  have d1 : decide (0 ≤ u) = true := by simp; omega
  have d2 : decide (u < 0) = false := by simp; omega
  have d3 : (u != u) = false := by simp
  clear hg s hN h4 h5
  go_enter Tryz.func68, Tryz.ntmps68
  go_wp2_with (go_at_call 22; refine (inRange_any _ _ _ _).mono ?_; rintro e w' ⟨rfl, rfl⟩)
  go_ret
  exact ⟨rfl, rfl⟩
set_option maxHeartbeats 4000000 in
theorem giveI_new {w W : World} {O Wb X g gw c cw N : Nat} {fs xs : Array Value} {V V' L : List Int} (s : IS1 w O Wb X g gw c cw N fs xs V L W) (at_ n : Int) (m : Nat) (hm : at_ = (m : Int)) (hl : N ≤ 1000000000) (hL : L.length ≤ 1000000000) (hg : giveF V at_ n = some V') (ho : V.getD at_.toNat 0 < 0) :
    Calls Tryz.prog 68 #[.int .i64 at_, .int .i64 n, .pointer (some ⟨O, 0, none⟩), .pointer (some ⟨Wb, 0, none⟩)] W fun e W' => e = .returned (.bool true) ∧ ∃ gw' cw', IS1 w O Wb X g gw' c cw' N fs xs V' (L ++ [at_]) W' := by
  subst hm
  have hb0 : W.cell? ⟨O, 0, none⟩ = some (.slice (some ⟨g, 0, none⟩) N c) := s.st.bo.cell 0
  have hw0 : W.cell? ⟨Wb, 0, none⟩ = some (.slice (some ⟨gw, 0, none⟩) L.length cw) := s.st.bw.cell 0
  have hN := s.st.hn
  rw [Int.toNat_natCast] at ho
  obtain ⟨h1, h2, h3, h4, h5⟩ := giveF_cases hg
  have hb : inB n 0 500 = true := by unfold inB; simp; omega
  obtain ⟨hc, hf⟩ := s.st.tb.at_ m h1
  obtain ⟨hT, hGr⟩ := s.st.tb.put m n
  rw [← h5] at hT
  rw [hN] at h1
  have hle : decide ((N : Int) ≤ (m : Int)) = false := by simp; omega
  have d1 : decide (0 ≤ V.getD m 0) = false := decide_eq_false (by omega)
  have d2 : decide (V.getD m 0 < 0) = true := decide_eq_true ho
  obtain ⟨n1, n2, n3, n4, n5, n6, n7, n8⟩ := s.st.ne
  obtain ⟨q1, q2, q3, q4, q5⟩ := s.nx
  have hbs := s.st.bl.size
  have hOl := s.st.bo.lt
  have hWl := s.st.bw.lt
  have hXl := s.bx.lt
  have hgl := (Tbl.lt s.st.tb).2
  have hwl := (Tbl.lt s.st.wk).2
  have hgl1 := (Tbl.lt s.st.tb).1
  have hwl1 := (Tbl.lt s.st.wk).1
  have hn' : V'.length = N := by rw [h5, List.length_set]; exact hN
  have hfarO : ((W.setCell ⟨g, m, none⟩ (.int .i64 n)).cell? ⟨Wb, 0, none⟩) = some (.slice (some ⟨gw, 0, none⟩) L.length cw) := (s.st.bw.far (p := ⟨g, m, none⟩) n6 _).cell 0
  have HT := Lib.hid hT
  have HGR := Lib.hid hGr
  have S := Lib.hid s
  have OW := Lib.hid (Tbl.alloc (s.st.wk.far (p := ⟨g, m, none⟩) (u := .int .i64 n) (Ne.symm n8)) (.cells #[.int .i64 m] 3))
  have hrd := rd_one (W.setCell ⟨g, m, none⟩ (.int .i64 n)) (.int .i64 m) 3
  have hsz : (W.setCell ⟨g, m, none⟩ (.int .i64 n)).heap.size = W.heap.size := by simp
  rw [hsz] at hrd
  have RDX := Lib.hid hrd
  have BWA := Lib.hid ((s.st.bw.far (p := ⟨g, m, none⟩) n6 (.int .i64 n)).alloc (.cells #[.int .i64 m] 3))
  clear hrd hsz s hT hGr hN hg h4 h5
  generalize hu : V.getD m 0 = u at *
  clear hu
  go_enter Tryz.func68, Tryz.ntmps68
  go_wp2_with (first | (go_at_call 22; refine (inRange_any _ _ _ _).mono ?_; rintro e w' ⟨rfl, rfl⟩) | (at_builtin; go_must (refine wpList_append_rd _ rfl (.tmp 40) (.tmp 42) _ rfl (w.heap.size + 1) _ _ _ 8 Tryz.underlying78 htInfo rfl (by omega) (.slice (some ⟨gw, 0, none⟩) L.length cw) _ _ rfl OW.out (W.heap.size + 1) _ 1 _ [.int .i64 m] rfl RDX.out (by intro u hu; simp only [List.mem_cons, List.not_mem_nil, or_false] at hu; rcases hu with rfl; rfl) (by unfold maxLen; omega) (by omega) (by simp; omega) ?_); intro v2 W4 hown2 hg2 hat2; obtain ⟨A6, c6, rfl⟩ := own_form hown2; have HG2 := Lib.hid hg2; have HW2 := Lib.hid hown2; have HA2 := Lib.hid hat2; have b4 := (Blk.grown (g := gw) BWA.out HG2.out n7).cell 0; have f4 := (Blk.grown (g := gw) BWA.out HG2.out n7).frozen 0; have l4 := (Blk.grown (g := gw) BWA.out HG2.out n7).lt; clear hg2 hat2 hown2))
  go_ret
  refine ⟨rfl, ?_⟩
  have hown2 := HW2.out
  have hg2 : ((W.setCell ⟨g, m, none⟩ (.int .i64 n)).alloc (.cells #[.int .i64 m] 3)).grownBy W4 (some gw) := HG2.out
  have hat2 := HA2.out
  have s := S.out
  rcases own_row hown2 with ⟨hv, h0, _⟩ | ⟨g6, cap6, f6, hv, _, _, _, _, _⟩
  · omega
  · injection hv with e1 e2 e3
    subst e1
    have hg6 : g6 = gw ∨ W.heap.size < g6 := by
      rcases hat2 with e | e
      · left; exact Option.some.inj e
      · right
        have : g6 = _ := Option.some.inj e
        rw [this]
        simp
    have hsz4 := hg2.size
    have hz4 : W.heap.size < W4.heap.size := by simp at hsz4; omega
    refine ⟨g6, c6, ⟨⟨(((HT.out.alloc _).grown hg2 n8).far (p := ⟨Wb, 0, none⟩) (Ne.symm n6) _), ?_, ((((s.st.bf.far (p := ⟨g, m, none⟩) (by show _ ≠ g; omega) _).alloc _).grown hg2 (by omega)).far (p := ⟨Wb, 0, none⟩) (by show _ ≠ Wb; omega) _), ((((s.st.bo.far (p := ⟨g, m, none⟩) n4 _).alloc _).grown hg2 n5).far (p := ⟨Wb, 0, none⟩) n3 _), ?_, ?_, hn', n1, n2, n3, n4, by omega, n6, by omega, by omega⟩, ((((s.bx.far (p := ⟨g, m, none⟩) q4 _).alloc _).grown hg2 q5).far (p := ⟨Wb, 0, none⟩) q3 _), q1, q2, q3, q4, by omega⟩⟩
    · have h7 : Tbl W4 (w.heap.size + 1) g6 c6 (L ++ [(m : Int)]) := by
        unfold Tbl
        rw [List.length_append, List.map_append]
        exact hown2
      exact h7.far (p := ⟨Wb, 0, none⟩) (by show g6 ≠ Wb; omega) _
    · have h8 := Blk.set_ (Blk.grown (g := gw) BWA.out HG2.out n7) 0 (.slice (some ⟨g6, 0, none⟩) (L.length + 1) c6)
      rw [List.length_append]
      exact h8
    · exact ((((s.st.bl.grown HGR.out hbs (fun j hj => by have := Option.some.inj hj; omega)).alloc (by simp; omega) _).grown hg2 (by simp; omega) (fun j hj => by have := Option.some.inj hj; omega)).trans ⟨rfl, rfl, rfl, by simp [World.setCell], fun k hk => Below.heap_setCell _ _ _ _ (by show k ≠ Wb; omega)⟩)
theorem giveI_some {w W : World} {O Wb X g gw c cw N : Nat} {fs xs : Array Value} {V V' L : List Int} (s : IS1 w O Wb X g gw c cw N fs xs V L W) (at_ n : Int) (m : Nat) (hm : at_ = (m : Int)) (hl : N ≤ 1000000000) (hL : L.length ≤ 1000000000) (hg : giveF V at_ n = some V') :
    Calls Tryz.prog 68 #[.int .i64 at_, .int .i64 n, .pointer (some ⟨O, 0, none⟩), .pointer (some ⟨Wb, 0, none⟩)] W fun e W' => e = .returned (.bool true) ∧ ∃ gw' cw', IS1 w O Wb X g gw' c cw' N fs xs V' (actL V L at_) W' := by
  unfold actL
  by_cases ho : V.getD at_.toNat 0 < 0
  · rw [if_pos ho]
    exact giveI_new s at_ n m hm hl hL hg ho
  · rw [if_neg ho]
    have hV : V' = V := by
      subst hm
      obtain ⟨h1, h2, h3, h4, h5⟩ := giveF_cases hg
      rw [Int.toNat_natCast] at ho
      have h6 : V.getD m 0 = n := by omega
      rw [h5, ← h6]
      refine List.ext_getElem? fun j => ?_
      rw [List.getElem?_set]
      split
      · next e => subst e; simp [h1]
      · rfl
    subst hV
    refine (giveI_old s at_ n m hm hl hg (by omega)).mono ?_
    rintro e W' ⟨rfl, rfl⟩
    exact ⟨rfl, gw, cw, s⟩
/-- What one giving (or none) did to the table and the work list. -/
def GvI (c : HCode) (k : Nat) (V L V' L' : List Int) (go : Bool) (at_ n : Int) : Prop :=
  PInv c V' ∧ Ext V V' ∧ (go = true → 0 ≤ at_ ∧ at_ < (c.n : Int) ∧ 0 ≤ n ∧ n ≤ 500 ∧ V'[at_.toNat]? = some n) ∧ WMid c V' L' k ∧ 2 * nocnt V' + L'.length ≤ 2 * nocnt V + L.length
theorem GvI.skip {c : HCode} {k : Nat} {V L : List Int} {at_ n : Int} (p : PInv c V) (m : WMid c V L k) : GvI c k V L V L false at_ n := ⟨p, Ext.refl V, fun e => (by cases e), m, Nat.le_refl _⟩
theorem GvI.some {c : HCode} {k : Nat} {V L V' : List Int} {go : Bool} {h at_ n : Int} (p : PInv c V) (m : WMid c V L k) (r : HR c k h) (hp : (at_, n) ∈ c.nxt k h) (ha : 0 ≤ at_) (g : giveF V at_ n = Option.some V') : GvI c k V L V' (actL V L at_) go at_ n := by
  obtain ⟨p', e, h1, h2, h3, h4, h5, h6, h7⟩ := giveF_some p r hp ha g
  obtain ⟨m', q⟩ := m.give p r hp ha g
  exact ⟨p', e, fun _ => ⟨ha, h1, h2, h3, h4⟩, m', q⟩
theorem work_done {l : List FIns} {V L V1 L1 V2 L2 : List Int} {k : Nat} {h : Int} {x : FIns} (hx : l[k]? = Option.some x) (hk : V[k]? = Option.some h) (h0 : 0 ≤ h) (hn : needF x.a0 x.a2 ≤ h)
    (g1 : GvI (hC l) k V L V1 L1 (!ifF x.a0) ((k : Int) + 1) (wrap64 (h + changeF x.a0 x.a2))) (g2 : GvI (hC l) k V1 L1 V2 L2 (htF x.a0) x.a1 (wrap64 (h + tcF x.a0))) :
    PInv (hC l) V2 ∧ WInv (hC l) V2 L2 ∧ 2 * nocnt V2 + L2.length ≤ 2 * nocnt V + L.length := by
  obtain ⟨p1, e1, o1, m1, q1⟩ := g1
  obtain ⟨p2, e2, o2, m2, q2⟩ := g2
  refine ⟨p2, m2.shut (done_of hx ((e1.trans e2).2 _ _ hk h0) hn (fun hi => ?_) fun ht => o2 ht), by omega⟩
  obtain ⟨r1, r2, r3, r4, r5⟩ := o1 (by rw [hi]; rfl)
  refine ⟨r2, r3, r4, ?_⟩
  have := e2.2 _ _ r5 r3
  rwa [show ((k : Int) + 1).toNat = k + 1 by omega] at this
end Go.Proofs.YtdmbhmhfjappcaaGreatDoor
