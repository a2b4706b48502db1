/-
  Parts of the proof: CwS. Conditions: none.
-/
import Derived.Test.YtahgcojmpafefaaGreatQaf
set_option linter.unusedVariables false
set_option linter.unusedSimpArgs false
namespace Go.Proofs.YtahgcojmpafefaaGreat
set_option maxHeartbeats 40000000
open Lib (hid)
open Go.ChangeShapes Go.WideShapes Go.ChangeAt Go.RowKit Go.Deep Go.Joins
open Go.ChangeMaps (open_string shut_string)
set_option maxRecDepth 100000

theorem cpValS_of (z0 z1 : Int) (z2 : ByteArray) (z3 : Int) (l : List FEntry) (hl : l.length ≤ 1000000000) (he : ∀ y, y ∈ l → CpVal 61 y.val) : CpVal 61 (.mk z0 z1 z2 z3 l) := by
  intro us w B hB0 hr
  rw [FValue.c_eq] at hr ⊢
  obtain ⟨us0, rfl, hr_0⟩ := hr.unv
  obtain ⟨us1, rfl, hr_1⟩ := hr_0.unv
  obtain ⟨us2, rfl, hr_2⟩ := hr_1.unv
  obtain ⟨us3, rfl, hr_3⟩ := hr_2.unv
  obtain ⟨A, c, us4, rfl, r4, hr_4⟩ := hr_3.uns
  obtain rfl := hr_4.un0
  have HC := hid (r4.up hB0)
  have HE := hid he
  have hn : l.length ≤ 9223372036854775807 := by omega
  clear r4 he hr hr_0 hr_1 hr_2 hr_3 hr_4
  go_enter Tryz.func61, Tryz.ntmps61
  go_wp2_with fail
  go_loopw [4] (fun i wr => ∃ (k : Nat) (A' : Option Addr) (c' : Nat), k ≤ l.length ∧ i = .int .i64 k ∧ Blk wr w.heap.size 82 #[.int .i64 z0, .int .i64 z1, .string z2, .int .i64 z3, .slice A l.length c] ∧ Blk wr (w.heap.size + 1) 82 #[.int .i64 0, .int .i64 0, .string ⟨#[]⟩, .int .i64 0, .slice none 0 0] ∧ Blk wr (w.heap.size + 1 + 1) 82 #[.int .i64 z0, .int .i64 z1, .string z2, .int .i64 z3, .slice A' k c'] ∧ OwnI wr (w.heap.size + 3) wr.heap.size [.s 153 8 k (FEntry.flat (l.take k))] [.slice A' k c'] ∧ Below w.heap.size w wr) (fun i _ => l.length - (intOf i).toNat)
  case atStart => exact ⟨0, none, 0, Nat.zero_le _, rfl, ((Blk.new w _ _).alloc _).alloc _, (Blk.new' (w.alloc _) _ _ _ (by simp)).alloc _, Blk.new' ((w.alloc _).alloc _) _ _ _ (by simp), by simpa using OwnI.none _ _ _ 153 8, (((Below.refl _ _).alloc (Nat.le_refl _) _).alloc (by simp) _).alloc (by simp; omega) _⟩
  case round =>
    obtain ⟨k, A', c', hk, rfl, ba0, br0, bo0, hown0, hb0⟩ := hrel
    by_cases hlt : k < l.length
    · obtain ⟨x, hx⟩ : ∃ x, l[k]? = some x := ⟨_, List.getElem?_eq_getElem hlt⟩
      obtain ⟨bc, offc, rfl, hblc, hcc⟩ := RdC.at_ FEntry.len HC.out hx
      have HX := hid hx
      have HP := hid (HE.out x (List.mem_of_getElem? hx))
      clear hx
      obtain ⟨⟨y0, y1, y2⟩, ⟨y3, y4, y5, y6, y7⟩⟩ := x
      rw [FEntry.c_eq] at hcc
      obtain ⟨u0, e0, q0⟩ := hcc 0 _ rfl
      obtain rfl := q0.val
      have HE0 := hid e0
      obtain ⟨u1, e1, q1⟩ := hcc 1 _ rfl
      obtain rfl := q1.val
      have HE1 := hid e1
      obtain ⟨u2, e2, q2⟩ := hcc 2 _ rfl
      obtain rfl := q2.val
      have HE2 := hid e2
      obtain ⟨u3, e3, q3⟩ := hcc 3 _ rfl
      obtain rfl := q3.val
      have HE3 := hid e3
      obtain ⟨u4, e4, q4⟩ := hcc 4 _ rfl
      obtain rfl := q4.val
      have HE4 := hid e4
      obtain ⟨u5, e5, q5⟩ := hcc 5 _ rfl
      obtain rfl := q5.val
      have HE5 := hid e5
      obtain ⟨u6, e6, q6⟩ := hcc 6 _ rfl
      obtain rfl := q6.val
      have HE6 := hid e6
      obtain ⟨u7, e7, q7⟩ := hcc 7 _ rfl
      obtain ⟨A7, c7, rfl⟩ := q7.form
      have Q7 := hid q7
      have HE7 := hid e7
      clear hcc e0 q0 e1 q1 e2 q2 e3 q3 e4 q4 e5 q5 e6 q6 e7 q7
      have ba := ba0
      have br := br0
      have bo := bo0
      have HOWN := hid hown0
      have hb := hb0
      have hbs0 := hb0.size
      have hbo0 := bo0.lt
      clear ba0 br0 bo0 hown0 hb0
      have b_0 : wr.cell? ⟨w.heap.size + 1 + 1, 4, none⟩ = some (.slice A' k c') := bo.cell 4
      have b_1 : wr.cell? ⟨w.heap.size, 4, none⟩ = some (.slice (some ⟨bc, offc, none⟩) l.length c) := ba.cell 4
      have b_2 : wr.cell? ⟨bc, offc + k * 8, none⟩ = some (.bool y0) := (hb.cell (p := ⟨bc, _, none⟩) hblc).trans (by simpa [Nat.add_assoc] using HE0.out)
      have b_3 : wr.cell? ⟨bc, offc + k * 8 + 1, none⟩ = some (.int .i64 y1) := (hb.cell (p := ⟨bc, _, none⟩) hblc).trans (by simpa [Nat.add_assoc] using HE1.out)
      have b_4 : wr.cell? ⟨bc, offc + k * 8 + 2, none⟩ = some (.string y2) := (hb.cell (p := ⟨bc, _, none⟩) hblc).trans (by simpa [Nat.add_assoc] using HE2.out)
      have b_5 : wr.cell? ⟨bc, offc + k * 8 + 3, none⟩ = some (.int .i64 y3) := (hb.cell (p := ⟨bc, _, none⟩) hblc).trans (by simpa [Nat.add_assoc] using HE3.out)
      have b_6 : wr.cell? ⟨bc, offc + k * 8 + 3 + 1, none⟩ = some (.int .i64 y4) := (hb.cell (p := ⟨bc, _, none⟩) hblc).trans (by simpa [Nat.add_assoc] using HE4.out)
      have b_7 : wr.cell? ⟨bc, offc + k * 8 + 3 + 2, none⟩ = some (.string y5) := (hb.cell (p := ⟨bc, _, none⟩) hblc).trans (by simpa [Nat.add_assoc] using HE5.out)
      have b_8 : wr.cell? ⟨bc, offc + k * 8 + 3 + 3, none⟩ = some (.int .i64 y6) := (hb.cell (p := ⟨bc, _, none⟩) hblc).trans (by simpa [Nat.add_assoc] using HE6.out)
      have b_9 : wr.cell? ⟨bc, offc + k * 8 + 3 + 4, none⟩ = some (.slice A7 y7.length c7) := (hb.cell (p := ⟨bc, _, none⟩) hblc).trans (by simpa [Nat.add_assoc] using HE7.out)
      have hbs := hb.size
      have bol := bo.lt
      have bal := ba.lt
      have hbcl : bc < wr.heap.size := by omega
      have hk0 : (0 : Int) ≤ (k : Int) := by omega
      have hkl : (k : Int) < (l.length : Int) := by omega
      go_wp2_with fail
      have HV0 := hid (show RdVs wr.drew w.heap.size (FEntry.val ⟨⟨y0, y1, y2⟩, .mk y3 y4 y5 y6 y7⟩).c [.int .i64 y3, .int .i64 y4, .string y5, .int .i64 y6, .slice A7 y7.length c7] from by rw [show FEntry.val ⟨⟨y0, y1, y2⟩, .mk y3 y4 y5 y6 y7⟩ = FValue.mk y3 y4 y5 y6 y7 from rfl, FValue.c_eq]; exact RdVs.cons (by unfold RdC; rfl) (RdVs.cons (by unfold RdC; rfl) (RdVs.cons (by unfold RdC; rfl) (RdVs.cons (by unfold RdC; rfl) (RdVs.cons (Q7.out.below hb.drew (Nat.le_refl _)) (RdVs.nil _ _))))))
      have tw : w.heap.size ≤ wr.drew.heap.size := hbs
      have HVc : Hid (FEntry.val ⟨⟨y0, y1, y2⟩, .mk y3 y4 y5 y6 y7⟩ = FValue.mk y3 y4 y5 y6 y7) := hid rfl
      have HNc := hid (FEntry.c_eq y0 y1 y2 y3 y4 y5 y6 y7)
      have hp4 : 0 < 8 := by omega
      have hgl : ∀ (W : World) (o : Obj) (x : Nat), x ≤ W.heap.size → x ≤ (W.alloc o).heap.size := fun W o x h => by rw [size_al]; omega
      have hmx : k + 1 ≤ maxLen := by unfold maxLen; omega
      have hmb : (k + 1) * 96 ≤ 140737488355328 := by omega
      have hn1 : ¬ (w.heap.size + 3 ≤ w.heap.size) := by omega
      have hn2 : ¬ (w.heap.size + 3 ≤ w.heap.size + 1 + 1) := by omega
      have hnr : ¬ (w.heap.size + 3 ≤ w.heap.size + 1) := by omega
      have hbl3 : w.heap.size + 3 ≤ wr.heap.size := by omega
      have hal_ : w.heap.size < wr.heap.size := by omega
      have hcE : bc < wr.heap.size := by omega
      go_region_law
        ((first
          | (go_simp
             go_at_call 61
             refine (HP.out _ _ w.heap.size tw HV0.out).mono ?_
             rw [HVc.out, FValue.c_eq]
             rintro e w2 ⟨us2, rfl, own2, hb2⟩
             have hv := own2.vs
             obtain ⟨us2_0, rfl, hv_0⟩ := hv.unv
             obtain ⟨us2_1, rfl, hv_1⟩ := hv_0.unv
             obtain ⟨us2_2, rfl, hv_2⟩ := hv_1.unv
             obtain ⟨us2_3, rfl, hv_3⟩ := hv_2.unv
             obtain ⟨D7, d7, us2_4, rfl, _, hv_4⟩ := hv_3.uns
             obtain rfl := hv_4.un0
             clear hv hv_0 hv_1 hv_2 hv_3 hv_4
             have BEL2 := hid hb2
             have m_0 := (hb2.cell (p := ⟨w.heap.size + 1 + 1, 4, none⟩) bol).trans b_0
             have m_1 := (hb2.cell (p := ⟨w.heap.size, 4, none⟩) bal).trans b_1
             have m_2 := (hb2.cell (p := ⟨bc, offc + k * 8, none⟩) hcE).trans b_2
             have m_3 := (hb2.cell (p := ⟨bc, offc + k * 8 + 1, none⟩) hcE).trans b_3
             have m_4 := (hb2.cell (p := ⟨bc, offc + k * 8 + 2, none⟩) hcE).trans b_4
             have m_5 := (hb2.cell (p := ⟨bc, offc + k * 8 + 3, none⟩) hcE).trans b_5
             have m_6 := (hb2.cell (p := ⟨bc, offc + k * 8 + 3 + 1, none⟩) hcE).trans b_6
             have m_7 := (hb2.cell (p := ⟨bc, offc + k * 8 + 3 + 2, none⟩) hcE).trans b_7
             have m_8 := (hb2.cell (p := ⟨bc, offc + k * 8 + 3 + 3, none⟩) hcE).trans b_8
             have m_9 := (hb2.cell (p := ⟨bc, offc + k * 8 + 3 + 4, none⟩) hcE).trans b_9
             obtain ⟨us, G, ho, hol, hG, hGb, hGv⟩ := (HOWN.out.drew.below hb2 (Nat.le_refl _)).row
             obtain ⟨G2, g1, g2, g3⟩ := own2
             have g1' := OwnL.consv (x := .bool y0) (OwnL.consv (x := .int .i64 y1) (OwnL.consv (x := .string y2) g1))
             have hs2 : wr.heap.size ≤ w2.heap.size := hb2.size
             have HO := hid (World.ownsRow.alloc ho (.cells #[.bool y0, .int .i64 y1, .string y2, .int .i64 y3, .int .i64 y4, .string y5, .int .i64 y6, .slice D7 y7.length d7] 153))
             have HN := hid (rd_new w2 153 8 [.bool y0, .int .i64 y1, .string y2, .int .i64 y3, .int .i64 y4, .string y5, .int .i64 y6, .slice D7 y7.length d7] rfl)
             have g1e := g1'
             rw [← HNc.out] at g1e
             have H1 := hid (entry_onecell _ g1e)
             have HG1 := hid (OwnL.keep _ _ _ hol (w' := (w2.alloc (.cells #[.bool y0, .int .i64 y1, .string y2, .int .i64 y3, .int .i64 y4, .string y5, .int .i64 y6, .slice D7 y7.length d7] 153))) fun g hg => Below.heap_alloc w2 _ g (OwnL.lt _ _ _ hol g hg))
             have HG2 := hid (OwnL.keep _ _ _ g1e (w' := (w2.alloc (.cells #[.bool y0, .int .i64 y1, .string y2, .int .i64 y3, .int .i64 y4, .string y5, .int .i64 y6, .slice D7 y7.length d7] 153))) fun g hg => Below.heap_alloc w2 _ g (OwnL.lt _ _ _ g1e g hg))
             have HV := hid hGv
             have HB := hid hGb
             have HB2 := hid g3
             have HD1 := hid hG
             have HD2 := hid g2
             have BO2 := hid ((bo.drew.below hb2 (Nat.le_refl _)).alloc (.cells #[.bool y0, .int .i64 y1, .string y2, .int .i64 y3, .int .i64 y4, .string y5, .int .i64 y6, .slice D7 y7.length d7] 153))
             have hbse := hgl _ (.cells #[.bool y0, .int .i64 y1, .string y2, .int .i64 y3, .int .i64 y4, .string y5, .int .i64 y6, .slice D7 y7.length d7] 153) _ (Nat.le_trans hbl3 hs2)
             have hlA := Nat.lt_of_lt_of_le hal_ hs2
             have hlO := Nat.lt_of_lt_of_le bol hs2
             have hlE := Nat.lt_of_lt_of_le hcE hs2
             have hneA : some w.heap.size ≠ (Value.slice A' k c').ownBlock := fun e => hn1 (hGv _ e.symm).2.1
             have hneO : some (w.heap.size + 1 + 1) ≠ (Value.slice A' k c').ownBlock := fun e => hn2 (hGv _ e.symm).2.1
             have hneR : some (w.heap.size + 1) ≠ (Value.slice A' k c').ownBlock := fun e => hnr (hGv _ e.symm).2.1
             have n_0 := (World.cell?_alloc_lt w2 (.cells #[.bool y0, .int .i64 y1, .string y2, .int .i64 y3, .int .i64 y4, .string y5, .int .i64 y6, .slice D7 y7.length d7] 153) ⟨w.heap.size + 1 + 1, 4, none⟩ hlO).trans m_0
             have n_1 := (World.cell?_alloc_lt w2 (.cells #[.bool y0, .int .i64 y1, .string y2, .int .i64 y3, .int .i64 y4, .string y5, .int .i64 y6, .slice D7 y7.length d7] 153) ⟨w.heap.size, 4, none⟩ hlA).trans m_1
             have n_2 := (World.cell?_alloc_lt w2 (.cells #[.bool y0, .int .i64 y1, .string y2, .int .i64 y3, .int .i64 y4, .string y5, .int .i64 y6, .slice D7 y7.length d7] 153) ⟨bc, offc + k * 8, none⟩ hlE).trans m_2
             have n_3 := (World.cell?_alloc_lt w2 (.cells #[.bool y0, .int .i64 y1, .string y2, .int .i64 y3, .int .i64 y4, .string y5, .int .i64 y6, .slice D7 y7.length d7] 153) ⟨bc, offc + k * 8 + 1, none⟩ hlE).trans m_3
             have n_4 := (World.cell?_alloc_lt w2 (.cells #[.bool y0, .int .i64 y1, .string y2, .int .i64 y3, .int .i64 y4, .string y5, .int .i64 y6, .slice D7 y7.length d7] 153) ⟨bc, offc + k * 8 + 2, none⟩ hlE).trans m_4
             have n_5 := (World.cell?_alloc_lt w2 (.cells #[.bool y0, .int .i64 y1, .string y2, .int .i64 y3, .int .i64 y4, .string y5, .int .i64 y6, .slice D7 y7.length d7] 153) ⟨bc, offc + k * 8 + 3, none⟩ hlE).trans m_5
             have n_6 := (World.cell?_alloc_lt w2 (.cells #[.bool y0, .int .i64 y1, .string y2, .int .i64 y3, .int .i64 y4, .string y5, .int .i64 y6, .slice D7 y7.length d7] 153) ⟨bc, offc + k * 8 + 3 + 1, none⟩ hlE).trans m_6
             have n_7 := (World.cell?_alloc_lt w2 (.cells #[.bool y0, .int .i64 y1, .string y2, .int .i64 y3, .int .i64 y4, .string y5, .int .i64 y6, .slice D7 y7.length d7] 153) ⟨bc, offc + k * 8 + 3 + 2, none⟩ hlE).trans m_7
             have n_8 := (World.cell?_alloc_lt w2 (.cells #[.bool y0, .int .i64 y1, .string y2, .int .i64 y3, .int .i64 y4, .string y5, .int .i64 y6, .slice D7 y7.length d7] 153) ⟨bc, offc + k * 8 + 3 + 3, none⟩ hlE).trans m_8
             have n_9 := (World.cell?_alloc_lt w2 (.cells #[.bool y0, .int .i64 y1, .string y2, .int .i64 y3, .int .i64 y4, .string y5, .int .i64 y6, .slice D7 y7.length d7] 153) ⟨bc, offc + k * 8 + 3 + 4, none⟩ hlE).trans m_9
             clear ho hol g1 g1' g1e hGv hGb g3 hG g2 hb2)
          | (refine step_append_rd _ (by rfl) _ _ _ (by rfl) (w.heap.size + 3) _ _ _ 96 Tryz.underlying80 infoEntryC rfl hp4 (.slice A' k c') k us (by rfl) HO.out (w2.heap.size + 1) _ 1 1 [.bool y0, .int .i64 y1, .string y2, .int .i64 y3, .int .i64 y4, .string y5, .int .i64 y6, .slice D7 y7.length d7] (by rfl) HN.out H1.out hmx hmb hbse ?_
             intro v1 w1 hown1 hg1 hat1
             obtain ⟨A4, c4, rfl⟩ := own_form hown1
             have fo1 := fun i => (Blk.bgrown BO2.out hg1 hneO).frozen i
             have lo1 := (Blk.bgrown BO2.out hg1 hneO).lt
             have p_0 : w1.cell? ⟨w.heap.size + 1 + 1, 4, none⟩ = some (.slice A' k c') := (Blk.bgrown BO2.out hg1 hneO).cell 4)))
      all_goals
        have hd2 : Below wr.heap.size wr w2 := (Below.refl wr.heap.size wr).drew.trans BEL2.out
        have hb3 := hb.trans (hd2.mono hbs)
        have hbw : w.heap.size ≤ w2.heap.size := by omega
        have ga := Blk.bgrown (((ba.below hd2 (Nat.le_refl _))).alloc (.cells #[.bool y0, .int .i64 y1, .string y2, .int .i64 y3, .int .i64 y4, .string y5, .int .i64 y6, .slice D7 y7.length d7] 153)) hg1 hneA
        have gr := Blk.bgrown (((br.below hd2 (Nat.le_refl _))).alloc (.cells #[.bool y0, .int .i64 y1, .string y2, .int .i64 y3, .int .i64 y4, .string y5, .int .i64 y6, .slice D7 y7.length d7] 153)) hg1 hneR
        have go := Blk.bgrown (((bo.below hd2 (Nat.le_refl _))).alloc (.cells #[.bool y0, .int .i64 y1, .string y2, .int .i64 y3, .int .i64 y4, .string y5, .int .i64 y6, .slice D7 y7.length d7] 153)) hg1 hneO
        have hdr : wr.drew.heap.size = wr.heap.size := rfl
        have hp := OwnI.pushed hown1 hg1 hat1 HG1.out HG2.out HD1.out HD2.out (fun b hb1 hb2 => by have := HB.out b hb1; have := HB2.out b hb2; omega) (fun b hb1 => (HB.out b hb1).1) (fun b hb1 => by have := HB2.out b hb1; omega) (fun g hg => ⟨(HV.out g hg).1, fun h2 => by have := (HV.out g hg).2; have := HB2.out g h2; omega⟩)
        rw [← eflat_take l k _ HX.out] at hp
        have hbl := Below.grownI (hb3.alloc hbw (.cells #[.bool y0, .int .i64 y1, .string y2, .int .i64 y3, .int .i64 y4, .string y5, .int .i64 y6, .slice D7 y7.length d7] 153)) hg1 (fun g hg => by have := (HV.out g hg).2.1; omega) (by rw [size_al]; omega)
        have HGA := hid ga
        have HGR := hid gr
        have HGO := hid go
        have HHP := hid hp
        have hol_ := go.lt
        have gof := fun i => go.frozen i
        clear ga gr go hp hdr hneA hneO hneR m_0 n_0 b_0 m_1 n_1 b_1 m_2 n_2 b_2 m_3 n_3 b_3 m_4 n_4 b_4 m_5 n_5 b_5 m_6 n_6 b_6 m_7 n_7 b_7 m_8 n_8 b_8 m_9 n_9 b_9
        go_wp2_with fail
        go_roundw
        case rel =>
          refine ⟨k + 1, A4, c4, by omega, by go_num, HGA.out.far (by simp; try omega) _, HGR.out.far (by simp; try omega) _, by simpa using HGO.out.set_ 4 (.slice A4 (k + 1) c4), ?_, hbl.setCell (by simp; try omega) _⟩
          exact (HHP.out.set (.inl (by simp)) _).wide (Nat.le_refl _) (by simp)
        case measure => simp [intOf]; omega
    · obtain rfl : k = l.length := by omega
      clear hlt
      have br_0 : wr.cell? ⟨w.heap.size + 1, 0, none⟩ = some (.int .i64 0) := br0.cell 0
      have br_1 : wr.cell? ⟨w.heap.size + 1, 1, none⟩ = some (.int .i64 0) := br0.cell 1
      have br_2 : wr.cell? ⟨w.heap.size + 1, 2, none⟩ = some (.string ⟨#[]⟩) := br0.cell 2
      have br_3 : wr.cell? ⟨w.heap.size + 1, 3, none⟩ = some (.int .i64 0) := br0.cell 3
      have br_4 : wr.cell? ⟨w.heap.size + 1, 4, none⟩ = some (.slice none 0 0) := br0.cell 4
      have br_l := br0.lt
      have br_f := fun i => br0.frozen i
      have bo_0 : wr.cell? ⟨w.heap.size + 1 + 1, 0, none⟩ = some (.int .i64 z0) := bo0.cell 0
      have bo_1 : wr.cell? ⟨w.heap.size + 1 + 1, 1, none⟩ = some (.int .i64 z1) := bo0.cell 1
      have bo_2 : wr.cell? ⟨w.heap.size + 1 + 1, 2, none⟩ = some (.string z2) := bo0.cell 2
      have bo_3 : wr.cell? ⟨w.heap.size + 1 + 1, 3, none⟩ = some (.int .i64 z3) := bo0.cell 3
      have bo_4 : wr.cell? ⟨w.heap.size + 1 + 1, 4, none⟩ = some (.slice A' l.length c') := bo0.cell 4
      have bo_l := bo0.lt
      have bo_f := fun i => bo0.frozen i
      have ba_4 : wr.cell? ⟨w.heap.size, 4, none⟩ = some (.slice A l.length c) := ba0.cell 4
      have ba_l := ba0.lt
      go_wp2_with fail
      refine bodyPost_ret (v := .agg #[.int .i64 z0, .int .i64 z1, .string z2, .int .i64 z3, .slice A' l.length c']) (by simp [results, Tryz.results61, go_sem, br_0, br_1, br_2, br_3, br_4, br_l, br_f, bo_0, bo_1, bo_2, bo_3, bo_4, bo_l, bo_f]) rfl ⟨_, rfl, ?_, ?_⟩
      · have ho := hown0
        rw [List.take_length] at ho
        refine OwnI.wide (lo := w.heap.size + 3) (hi := wr.heap.size) ?_ (by omega) (by simp)
        repeat (refine OwnI.set ?_ (.inl (by simp; try omega)) _)
        exact OwnI.consv (OwnI.consv (OwnI.consv (OwnI.consv ho _) _) _) _
      · repeat (refine Below.setCell ?_ (by simp; try omega) _)
        exact hb0

mutual
theorem cpValS_any : ∀ (x : FValue), x.wt ≤ 1000000000 → CpVal 61 x
  | .mk a0 a1 a2 a3 a4, hw => by
    unfold FValue.wt at hw
    exact cpValS_of a0 a1 a2 a3 a4 (by omega) (cpValS_all a4 (by omega))
theorem cpValS_ent : ∀ (x : FEntry), x.wt ≤ 1000000000 → CpVal 61 x.val
  | .mk k v, hw => by
    unfold FEntry.wt at hw
    exact cpValS_any v (by omega)
theorem cpValS_all : ∀ (l : List FEntry), l.length + FEntry.wts l ≤ 1000000000 → ∀ x, x ∈ l → CpVal 61 x.val
  | [], _, x, hx => by cases hx
  | y :: r, hw, x, hx => by
    unfold FEntry.wts at hw
    simp only [List.length_cons] at hw
    rcases List.mem_cons.1 hx with e | hx
    · rw [e]
      exact cpValS_ent y (by omega)
    · exact cpValS_all r (by omega) x hx
end
end Go.Proofs.YtahgcojmpafefaaGreat
