/-
  AreVars, plain; of the program. Conditions: none: the listed variables.
-/
import Derived.Test.YtgbeenieacnanaaDoorIvK
import Derived.Test.YtgbeenieacnanaaDoorName
import Derived.Test.YtgbeenieacnanaaDoorSeen
namespace Go.Proofs.YtgbeenieacnanaaDoor
open Go.ChangeShapes Go.WideShapes Go.ChangeAt Go.RowKit Go.Deep Go.Joins
open Go.ChangeMaps (open_string shut_string)
set_option linter.unusedVariables false
set_option linter.unusedSimpArgs false
set_option maxRecDepth 100000
def thisL : List UInt8 := [116, 104, 105, 115]
def FBinding.nmL : FBinding → List UInt8
  | ⟨a, _⟩ => a.toList
def bnF (S : List (List UInt8)) : List FBinding → Bool
  | [] => true
  | ⟨a, v⟩ :: r => goodF a && !(a.toList == thisL) && !hasS S a.toList && isV v && plF v && bnF (a.toList :: S) r
def nsF (l : List FBinding) (k : Nat) : List (List UInt8) := ((l.take k).map FBinding.nmL).reverse
theorem nsF_succ {l : List FBinding} {k : Nat} {e : FBinding} (h : l[k]? = some e) : nsF l (k + 1) = e.nmL :: nsF l k := by
  obtain ⟨hk, rfl⟩ := List.getElem?_eq_some_iff.1 h
  unfold nsF
  rw [List.take_succ_eq_append_getElem hk, List.map_append, List.reverse_append]
  rfl
theorem nsF_mem {l : List FBinding} {k : Nat} {a : List UInt8} : hasS (nsF l k) a = true ↔ ∃ j e, j < k ∧ l[j]? = some e ∧ e.nmL = a := by
  unfold nsF hasS
  rw [List.contains_iff_mem, List.mem_reverse, List.mem_map]
  constructor
  · rintro ⟨e, he, rfl⟩
    obtain ⟨j, hj⟩ := List.mem_iff_getElem?.1 he
    rw [List.getElem?_take] at hj
    split at hj
    · exact ⟨j, e, by assumption, hj, rfl⟩
    · cases hj
  · rintro ⟨j, e, hj, he, rfl⟩
    exact ⟨e, List.mem_iff_getElem?.2 ⟨j, by rw [List.getElem?_take, if_pos hj]; exact he⟩, rfl⟩
theorem bdrop_of {l : List FBinding} {k : Nat} {e : FBinding} (h : l[k]? = some e) : l.drop k = e :: l.drop (k + 1) := by
  obtain ⟨hk, rfl⟩ := List.getElem?_eq_some_iff.1 h
  exact List.drop_eq_getElem_cons hk
theorem bnd_wt {l : List FBinding} {y0 : ByteArray} {v : FValue} (h : (⟨y0, v⟩ : FBinding) ∈ l) : y0.size + v.wt ≤ FBinding.wts l := by
  have h1 := FBinding.wts_at l _ h
  obtain ⟨y1, y2, y3, y4, y5⟩ := v
  rw [FBinding.wt_eq] at h1
  rw [FValue.wt_eq]
  omega
set_option maxHeartbeats 4000000 in
theorem av_impl (l : List FBinding) (A : Option Addr) (c : Nat) (w : World) (B : Nat) (hw : l.length + FBinding.wts l ≤ 1000000000) (hV : TabV w) (hB0 : B ≤ w.heap.size) (hr : RdC w B (.s 60 6 l.length (FBinding.flat l)) (.slice A l.length c)) :
    Calls Tryd.prog 15 #[.slice A l.length c] w fun e w' => e = .returned (.bool (bnF [] l)) ∧ Below w.heap.size w w' := by
  have HC := Lib.hid (hr.up hB0)
  have HV := Lib.hid hV
  clear hr hB0 hV
  have hn : l.length ≤ 9223372036854775807 := by omega
  have hmm := @run_makeMap Tryd.prog
  go_enter Tryd.func15, Tryd.ntmps15
  go_wp2_with fail
  go_loopw [9] (fun i wr => ∃ k : Nat, k ≤ l.length ∧ i = .int .i64 k ∧ bnF [] l = bnF (nsF l k) (l.drop k) ∧ Seen Tryd.prog 9 4 wr w.heap.size k (nsF l k) ∧ Below w.heap.size w wr) (fun i _ => l.length - (intOf i).toNat)
  case atStart => exact ⟨0, Nat.zero_le _, rfl, rfl, Seen.made w, (Below.refl _ _).alloc (Nat.le_refl _) _⟩
  case round =>
    obtain ⟨k, hk, rfl, hm, se, hb0⟩ := hrel
    by_cases hlt : k < l.length
    · skip
      obtain ⟨x, hx⟩ : ∃ x, l[k]? = some x := ⟨_, List.getElem?_eq_getElem hlt⟩
      obtain ⟨bc, offc, rfl, hblc, hcc⟩ := RdC.at_ FBinding.len HC.out hx
      have hns := nsF_succ hx
      rw [bdrop_of hx] at hm
      have hmem := List.mem_of_getElem? hx
      clear hx
      obtain ⟨y0, ⟨y1, y2, y3, y4, y5⟩⟩ := x
      have hbw := bnd_wt hmem
      have hvw : (FValue.mk y1 y2 y3 y4 y5).wt ≤ 1000000000 := by omega
      have hxo : y0.size ≤ 9223372036854775807 := by omega
      have hsm : y0.size ≤ maxLen := by unfold maxLen; omega
      have hkm : k < maxLen := by unfold maxLen; omega
      rw [FBinding.c_eq] at hcc
      obtain ⟨u0, e0, q0⟩ := hcc 0 _ rfl
      obtain rfl := q0.val
      obtain ⟨u1, e1, q1⟩ := hcc 1 _ rfl
      obtain rfl := q1.val
      obtain ⟨u2, e2, q2⟩ := hcc 2 _ rfl
      obtain rfl := q2.val
      obtain ⟨u3, e3, q3⟩ := hcc 3 _ rfl
      obtain rfl := q3.val
      obtain ⟨u4, e4, q4⟩ := hcc 4 _ rfl
      obtain rfl := q4.val
      obtain ⟨u5, e5, q5⟩ := hcc 5 _ rfl
      obtain ⟨A5, c5, rfl⟩ := q5.form
      have g0 : wr.cell? ⟨bc, offc + k * 6, none⟩ = some (.string y0) := (hb0.cell (p := ⟨bc, _, none⟩) hblc).trans (by simpa using e0)
      have g1 : wr.cell? ⟨bc, offc + k * 6 + 1, none⟩ = some (.int .i64 y1) := (hb0.cell (p := ⟨bc, _, none⟩) hblc).trans (by simpa using e1)
      have g2 : wr.cell? ⟨bc, offc + k * 6 + 2, none⟩ = some (.int .i64 y2) := (hb0.cell (p := ⟨bc, _, none⟩) hblc).trans (by simpa using e2)
      have g3 : wr.cell? ⟨bc, offc + k * 6 + 3, none⟩ = some (.string y3) := (hb0.cell (p := ⟨bc, _, none⟩) hblc).trans (by simpa using e3)
      have g4 : wr.cell? ⟨bc, offc + k * 6 + 4, none⟩ = some (.int .i64 y4) := (hb0.cell (p := ⟨bc, _, none⟩) hblc).trans (by simpa using e4)
      have g5 : wr.cell? ⟨bc, offc + k * 6 + 5, none⟩ = some (.slice A5 y5.length c5) := (hb0.cell (p := ⟨bc, _, none⟩) hblc).trans (by simpa using e5)
      have Q5 := Lib.hid q5
      clear hcc e0 q0 e1 q1 e2 q2 e3 q3 e4 q4 e5 q5 hmem
      have HNS := Lib.hid (show nsF l (k + 1) = y0.toList :: nsF l k from hns)
      rw [bnF] at hm
      have HPL := Lib.hid (wpv_impl _ hvw).2.1
      have HB1 := Lib.hid (hb0.alloc hb0.size (.cells #[.string y0, .int .i64 y1, .int .i64 y2, .string y3, .int .i64 y4, .slice A5 y5.length c5] 60))
      have SE1 := Lib.hid (se.alloc (.cells #[.string y0, .int .i64 y1, .int .i64 y2, .string y3, .int .i64 y4, .slice A5 y5.length c5] 60))
      have hsl := se.lt
      clear hns hb0 se
      cases hgf : goodF y0 with
      | false =>
        have HGF := Lib.hid hgf
        have HM := Lib.hid (show false = bnF [] l from by rw [hm, hgf]; simp)
        clear hm
        go_wp2_with (first | (go_at_call 37; refine (good_impl y0 _ hxo).mono ?_; rw [HGF.out]; rintro e w' ⟨rfl, rfl⟩))
        go_ret
        exact ⟨ret_bool HM.out, HB1.out⟩
      | true =>
        have HGF := Lib.hid hgf
        rw [hgf] at hm
        cases hth : (y0.toList == thisL) with
        | true =>
          have hth2 : (y0.toList == [116, 104, 105, 115]) = true := hth
          have HM := Lib.hid (show false = bnF [] l from by rw [hm, hth]; simp)
          clear hm
          go_wp2_with (first | (go_at_call 37; refine (good_impl y0 _ hxo).mono ?_; rw [HGF.out]; rintro e w' ⟨rfl, rfl⟩))
          go_ret
          exact ⟨ret_bool HM.out, HB1.out⟩
        | false =>
          have hth2 : (y0.toList == [116, 104, 105, 115]) = false := hth
          rw [hth] at hm
          cases has : hasS (nsF l k) y0.toList with
          | true =>
            have HAS := Lib.hid has
            have HM := Lib.hid (show false = bnF [] l from by rw [hm, has]; simp)
            clear hm
            go_wp2_with (first | (go_at_call 37; refine (good_impl y0 _ hxo).mono ?_; rw [HGF.out]; rintro e w' ⟨rfl, rfl⟩) | (at_lookup; refine wpList_look_seen_g _ rfl _ _ 64 rfl 9 4 Tryd.underlying9 Tryd.underlying4 (fun W => by kernel_rfl) Tryd.underlying64 w.heap.size k (nsF l k) rfl SE1.out y0 hsm rfl ?_; rw [HAS.out]))
            go_ret
            exact ⟨ret_bool HM.out, HB1.out⟩
          | false =>
            have HAS := Lib.hid has
            rw [has] at hm
            cases hiv : isV ⟨y1, y2, y3, y4, y5⟩ with
            | false =>
              have HIV := Lib.hid hiv
              have HM := Lib.hid (show false = bnF [] l from by rw [hm, hiv]; simp)
              clear hm
              go_wp2_with (first | (go_at_call 37; refine (good_impl y0 _ hxo).mono ?_; rw [HGF.out]; rintro e w' ⟨rfl, rfl⟩) | (at_lookup; refine wpList_look_seen_g _ rfl _ _ 64 rfl 9 4 Tryd.underlying9 Tryd.underlying4 (fun W => by kernel_rfl) Tryd.underlying64 w.heap.size k (nsF l k) rfl SE1.out y0 hsm rfl ?_; rw [HAS.out]) | (go_at_call 38; refine (isV_impl ⟨y1, y2, y3, y4, y5⟩ hvw [.int .i64 y1, .int .i64 y2, .string y3, .int .i64 y4, .slice A5 y5.length c5] _ w.heap.size (HV.out.up HB1.out (Nat.le_refl _)) HB1.out.size (by rw [FValue.c_eq]; exact RdVs.cons (by unfold RdC; rfl) (RdVs.cons (by unfold RdC; rfl) (RdVs.cons (by unfold RdC; rfl) (RdVs.cons (by unfold RdC; rfl) (RdVs.cons (Q5.out.below HB1.out (Nat.le_refl _)) (RdVs.nil _ _))))))).mono ?_; rw [HIV.out]; rintro e w2 ⟨rfl, hb2⟩; have HB2 := Lib.hid (HB1.out.trans (hb2.mono HB1.out.size)); have E2 := Lib.hid ((Blk.new wr 60 #[.string y0, .int .i64 y1, .int .i64 y2, .string y3, .int .i64 y4, .slice A5 y5.length c5]).below hb2 (Nat.le_refl _)); have E2l := E2.out.lt; have p2_0 := E2.out.cell 0; have p2_1 := E2.out.cell 1; have p2_2 := E2.out.cell 2; have p2_3 := E2.out.cell 3; have p2_4 := E2.out.cell 4; have p2_5 := E2.out.cell 5; have SE2 := Lib.hid (SE1.out.below hb2 (Nat.le_refl _))))
              go_ret
              exact ⟨ret_bool HM.out, HB2.out⟩
            | true =>
              have HIV := Lib.hid hiv
              rw [hiv] at hm
              cases hip : plF ⟨y1, y2, y3, y4, y5⟩ with
              | false =>
                have HIP := Lib.hid hip
                have HM := Lib.hid (show false = bnF [] l from by rw [hm, hip]; simp)
                clear hm
                go_wp2_with (first | (go_at_call 37; refine (good_impl y0 _ hxo).mono ?_; rw [HGF.out]; rintro e w' ⟨rfl, rfl⟩) | (at_lookup; refine wpList_look_seen_g _ rfl _ _ 64 rfl 9 4 Tryd.underlying9 Tryd.underlying4 (fun W => by kernel_rfl) Tryd.underlying64 w.heap.size k (nsF l k) rfl SE1.out y0 hsm rfl ?_; rw [HAS.out]) | (go_at_call 38; refine (isV_impl ⟨y1, y2, y3, y4, y5⟩ hvw [.int .i64 y1, .int .i64 y2, .string y3, .int .i64 y4, .slice A5 y5.length c5] _ w.heap.size (HV.out.up HB1.out (Nat.le_refl _)) HB1.out.size (by rw [FValue.c_eq]; exact RdVs.cons (by unfold RdC; rfl) (RdVs.cons (by unfold RdC; rfl) (RdVs.cons (by unfold RdC; rfl) (RdVs.cons (by unfold RdC; rfl) (RdVs.cons (Q5.out.below HB1.out (Nat.le_refl _)) (RdVs.nil _ _))))))).mono ?_; rw [HIV.out]; rintro e w2 ⟨rfl, hb2⟩; have HB2 := Lib.hid (HB1.out.trans (hb2.mono HB1.out.size)); have E2 := Lib.hid ((Blk.new wr 60 #[.string y0, .int .i64 y1, .int .i64 y2, .string y3, .int .i64 y4, .slice A5 y5.length c5]).below hb2 (Nat.le_refl _)); have E2l := E2.out.lt; have p2_0 := E2.out.cell 0; have p2_1 := E2.out.cell 1; have p2_2 := E2.out.cell 2; have p2_3 := E2.out.cell 3; have p2_4 := E2.out.cell 4; have p2_5 := E2.out.cell 5; have SE2 := Lib.hid (SE1.out.below hb2 (Nat.le_refl _))) | (go_at_call 39; refine (HPL.out [.int .i64 y1, .int .i64 y2, .string y3, .int .i64 y4, .slice A5 y5.length c5] _ w.heap.size HB2.out.size (by rw [FValue.c_eq]; exact RdVs.cons (by unfold RdC; rfl) (RdVs.cons (by unfold RdC; rfl) (RdVs.cons (by unfold RdC; rfl) (RdVs.cons (by unfold RdC; rfl) (RdVs.cons (Q5.out.below HB2.out (Nat.le_refl _)) (RdVs.nil _ _))))))).mono ?_; rw [HIP.out]; rintro e w3 ⟨rfl, hb3⟩; have HB3 := Lib.hid (HB2.out.trans (hb3.mono HB2.out.size)); have E3 := Lib.hid (E2.out.below hb3 (Nat.le_refl _)); have E3l := E3.out.lt; have p3_0 := E3.out.cell 0; have p3_1 := E3.out.cell 1; have p3_2 := E3.out.cell 2; have p3_3 := E3.out.cell 3; have p3_4 := E3.out.cell 4; have p3_5 := E3.out.cell 5; have SE3 := Lib.hid (SE2.out.below hb3 (Nat.le_refl _))))
                go_ret
                exact ⟨ret_bool HM.out, HB3.out⟩
              | true =>
                have HIP := Lib.hid hip
                have HM := Lib.hid (show bnF [] l = bnF (nsF l (k + 1)) (l.drop (k + 1)) from by rw [hm, hip, HNS.out]; simp)
                clear hm
                go_wp2_with (first | (go_at_call 37; refine (good_impl y0 _ hxo).mono ?_; rw [HGF.out]; rintro e w' ⟨rfl, rfl⟩) | (at_lookup; refine wpList_look_seen_g _ rfl _ _ 64 rfl 9 4 Tryd.underlying9 Tryd.underlying4 (fun W => by kernel_rfl) Tryd.underlying64 w.heap.size k (nsF l k) rfl SE1.out y0 hsm rfl ?_; rw [HAS.out]) | (go_at_call 38; refine (isV_impl ⟨y1, y2, y3, y4, y5⟩ hvw [.int .i64 y1, .int .i64 y2, .string y3, .int .i64 y4, .slice A5 y5.length c5] _ w.heap.size (HV.out.up HB1.out (Nat.le_refl _)) HB1.out.size (by rw [FValue.c_eq]; exact RdVs.cons (by unfold RdC; rfl) (RdVs.cons (by unfold RdC; rfl) (RdVs.cons (by unfold RdC; rfl) (RdVs.cons (by unfold RdC; rfl) (RdVs.cons (Q5.out.below HB1.out (Nat.le_refl _)) (RdVs.nil _ _))))))).mono ?_; rw [HIV.out]; rintro e w2 ⟨rfl, hb2⟩; have HB2 := Lib.hid (HB1.out.trans (hb2.mono HB1.out.size)); have E2 := Lib.hid ((Blk.new wr 60 #[.string y0, .int .i64 y1, .int .i64 y2, .string y3, .int .i64 y4, .slice A5 y5.length c5]).below hb2 (Nat.le_refl _)); have E2l := E2.out.lt; have p2_0 := E2.out.cell 0; have p2_1 := E2.out.cell 1; have p2_2 := E2.out.cell 2; have p2_3 := E2.out.cell 3; have p2_4 := E2.out.cell 4; have p2_5 := E2.out.cell 5; have SE2 := Lib.hid (SE1.out.below hb2 (Nat.le_refl _))) | (go_at_call 39; refine (HPL.out [.int .i64 y1, .int .i64 y2, .string y3, .int .i64 y4, .slice A5 y5.length c5] _ w.heap.size HB2.out.size (by rw [FValue.c_eq]; exact RdVs.cons (by unfold RdC; rfl) (RdVs.cons (by unfold RdC; rfl) (RdVs.cons (by unfold RdC; rfl) (RdVs.cons (by unfold RdC; rfl) (RdVs.cons (Q5.out.below HB2.out (Nat.le_refl _)) (RdVs.nil _ _))))))).mono ?_; rw [HIP.out]; rintro e w3 ⟨rfl, hb3⟩; have HB3 := Lib.hid (HB2.out.trans (hb3.mono HB2.out.size)); have E3 := Lib.hid (E2.out.below hb3 (Nat.le_refl _)); have E3l := E3.out.lt; have p3_0 := E3.out.cell 0; have p3_1 := E3.out.cell 1; have p3_2 := E3.out.cell 2; have p3_3 := E3.out.cell 3; have p3_4 := E3.out.cell 4; have p3_5 := E3.out.cell 5; have SE3 := Lib.hid (SE2.out.below hb3 (Nat.le_refl _))) | (at_mapUpdate; go_must (refine wpList_put_seen _ rfl _ _ _ 64 rfl 9 4 Tryd.underlying9 Tryd.underlying4 Tryd.underlying64 w.heap.size k (nsF l k) rfl SE3.out hkm y0 hsm rfl rfl ?_); intro v1 hs1 hg1))
                go_roundw
                case rel => exact ⟨k + 1, by omega, by go_num, HM.out, by rw [HNS.out]; exact hs1, below_grownK HB3.out hg1 (fun g hg => by injection hg with hg; omega) HB3.out.size⟩
                case measure => simp [intOf]; omega
    · obtain rfl : k = l.length := by omega
      have HM := Lib.hid (show true = bnF [] l from by rw [hm, List.drop_length, bnF])
      have HB1 := Lib.hid hb0
      clear hm se hb0
      go_wp2_with fail
      go_ret
      exact ⟨ret_bool HM.out, HB1.out⟩
end Go.Proofs.YtgbeenieacnanaaDoor
