/-
  Parts of the proof: HtS. Conditions: none.
-/
import Derived.Test.YtdmbhmhfjappcaaGreatDoorQHtH
import Derived.Deep.DeepMust
import Derived.StillTailTactics
import Derived.Deep.RegionHeld3
import Derived.Deep.DeepCutAuto
import Derived.IntWalk
namespace Go.Proofs.YtdmbhmhfjappcaaGreatDoor
open Go.ChangeShapes Go.WideShapes Go.ChangeAt Go.RowKit Go.Deep Go.Joins
open Go.ChangeMaps (open_string shut_string)
set_option linter.unusedVariables false
set_option linter.unusedSimpArgs false
set_option maxRecDepth 100000
abbrev mins (k : Nat) : List Int := List.replicate k (-1)
theorem mins_len (k : Nat) : (mins k).length = k := List.length_replicate
theorem Tbl.mins {w : World} {base g c k : Nat} (h : Tbl w base g c (mins k)) : w.ownsRow base 3 1 (.slice (some ⟨g, 0, none⟩) k c) k ((mins k).map (Value.int .i64)) := by
  unfold Tbl at h
  rwa [mins_len] at h
theorem mins_zero (n : Nat) (h : 0 < n) : (mins n).set 0 0 = 0 :: List.replicate (n - 1) (-1) := by
  obtain ⟨m, rfl⟩ : ∃ m, n = m + 1 := ⟨n - 1, by omega⟩
  simp [mins, List.replicate_succ]
set_option maxHeartbeats 8000000 in
theorem HeightsOf_spec (HI : InsSpec) (z0 : ByteArray) (z1 : List FParam) (z2 : List FParam) (z3 : List FStr) (z4 : Bool) (z5 : List FIns) (us : List Value) (w : World) (hl : z5.length ≤ 1000000000) (hl3 : z3.length ≤ 1000000000) (hok : ∀ x, x ∈ z5 → x.ok) {B : Nat} (hB0 : B ≤ w.heap.size) (hr : RdVs w B (FFunc.c ⟨z0, z1, z2, z3, z4, z5⟩) us) :
    Calls Tryz.prog 30 #[.agg us.toArray] w fun e w' => ∃ A c, e = .returned (.tuple #[.slice A (htV z5 z3.length).length c, .bool (htB z5 z3.length)]) ∧ w'.ownsRow w.heap.size 3 1 (.slice A (htV z5 z3.length).length c) (htV z5 z3.length).length ((htV z5 z3.length).map (Value.int .i64)) ∧ Below w.heap.size w w' := by
  rw [FFunc.c_eq] at hr
  obtain ⟨us0, rfl, hr_0⟩ := hr.unv
  obtain ⟨A1, c1, us1, rfl, r1, hr_1⟩ := hr_0.uns
  obtain ⟨A2, c2, us2, rfl, r2, hr_2⟩ := hr_1.uns
  obtain ⟨A3, c3, us3, rfl, r3, hr_3⟩ := hr_2.uns
  obtain ⟨us4, rfl, hr_4⟩ := hr_3.unv
  obtain ⟨A5, c5, us5, rfl, r5, hr_5⟩ := hr_4.uns
  obtain rfl := hr_5.un0
  have HC := Lib.hid (r5.up hB0)
  have hn : z5.length ≤ 9223372036854775807 := by omega
  have hn3 : z3.length ≤ 9223372036854775807 := by omega
  clear r5 hr hr_0 hr_1 hr_2 hr_3 hr_4 hr_5 r1 r2 r3
  have HOK := Lib.hid hok
  clear hok
  have HE := Lib.hid (show ∀ (w' : World) (q : List Int) (b : Bool), htV z5 z3.length = q → htB z5 z3.length = b → ∀ (A : Option Addr) (c : Nat), w'.ownsRow w.heap.size 3 1 (.slice A q.length c) q.length (q.map (Value.int .i64)) → Below w.heap.size w w' → ∃ A' c', Ending.returned (.tuple #[.slice A q.length c, .bool b]) = Ending.returned (.tuple #[.slice A' (htV z5 z3.length).length c', .bool (htB z5 z3.length)]) ∧ w'.ownsRow w.heap.size 3 1 (.slice A' (htV z5 z3.length).length c') (htV z5 z3.length).length ((htV z5 z3.length).map (Value.int .i64)) ∧ Below w.heap.size w w' from by
    rintro w' q b rfl rfl A c h1 h2
    exact ⟨A, c, rfl, h1, h2⟩)
  go_enter Tryz.func30, Tryz.ntmps30
  go_wp2_with fail
  go_loopw [4, 5] (fun v i wr => ∃ (k g c : Nat), k ≤ z5.length ∧ i = .int .i64 k ∧ v = .slice (some ⟨g, 0, none⟩) k c ∧ Tbl wr (w.heap.size + 1) g c (mins k) ∧ (∀ j x, j < k → z5[j]? = some x → insOk x z3.length z5.length = true) ∧ Blk wr w.heap.size 51 #[.string z0, .slice A1 z1.length c1, .slice A2 z2.length c2, .slice A3 z3.length c3, .bool z4, .slice A5 z5.length c5] ∧ Below w.heap.size w wr) (fun _ i _ => z5.length - (intOf i).toNat)
  case atStart => exact ⟨0, w.heap.size + 1, 0, Nat.zero_le _, rfl, rfl, by simpa [mins, Tbl] using own_empty (w.alloc (.cells #[.string z0, .slice A1 z1.length c1, .slice A2 z2.length c2, .slice A3 z3.length c3, .bool z4, .slice A5 z5.length c5] 51)) 3 1, fun j x hj => absurd hj (by omega), (Blk.new _ _ _).alloc _, ((Below.refl _ _).alloc (Nat.le_refl _) _).alloc (by simp) _⟩
  case round =>
    obtain ⟨k, g, c, hk, rfl, rfl, own, hall, ba, hb⟩ := hrel
    have hbs := hb.size
    have bal := ba.lt
    have tl := mins_len k
    have ba_5 : wr.cell? ⟨w.heap.size, 5, none⟩ = some (.slice A5 z5.length c5) := ba.cell 5
    have ba_3 : wr.cell? ⟨w.heap.size, 3, none⟩ = some (.slice A3 z3.length c3) := ba.cell 3
    have OWN := Lib.hid own
    have HALL := Lib.hid hall
    clear own hall
    by_cases hlt : k < z5.length
    · obtain ⟨x, hx⟩ : ∃ x, z5[k]? = some x := ⟨_, List.getElem?_eq_getElem hlt⟩
      obtain ⟨bc, offc, rfl, hblc, hcc⟩ := RdC.at_ FIns.len HC.out hx
      have HX := Lib.hid hx
      have hxo := HOK.out x (List.mem_of_getElem? hx)
      clear hx
      obtain ⟨y0, y1, y2, y3, y4⟩ := x
      rw [FIns.ok_eq] at hxo
      obtain ⟨ok3, ok4⟩ := hxo
      rw [FIns.c_eq] at hcc
      obtain ⟨u0, e0, q0⟩ := hcc 0 _ rfl
      obtain rfl := q0.val
      have c_0 : wr.cell? ⟨bc, offc + k * 5, none⟩ = some (.int .i64 y0) := (hb.cell (p := ⟨bc, _, none⟩) hblc).trans (by simpa using e0)
      clear e0 q0
      obtain ⟨u1, e1, q1⟩ := hcc 1 _ rfl
      obtain rfl := q1.val
      have c_1 : wr.cell? ⟨bc, offc + k * 5 + 1, none⟩ = some (.int .i64 y1) := (hb.cell (p := ⟨bc, _, none⟩) hblc).trans (by simpa using e1)
      clear e1 q1
      obtain ⟨u2, e2, q2⟩ := hcc 2 _ rfl
      obtain rfl := q2.val
      have c_2 : wr.cell? ⟨bc, offc + k * 5 + 2, none⟩ = some (.int .i64 y2) := (hb.cell (p := ⟨bc, _, none⟩) hblc).trans (by simpa using e2)
      clear e2 q2
      obtain ⟨u3, e3, q3⟩ := hcc 3 _ rfl
      obtain rfl := q3.val
      have c_3 : wr.cell? ⟨bc, offc + k * 5 + 3, none⟩ = some (.string y3) := (hb.cell (p := ⟨bc, _, none⟩) hblc).trans (by simpa using e3)
      clear e3 q3
      obtain ⟨u4, e4, q4⟩ := hcc 4 _ rfl
      obtain rfl := q4.val
      have c_4 : wr.cell? ⟨bc, offc + k * 5 + 4, none⟩ = some (.string y4) := (hb.cell (p := ⟨bc, _, none⟩) hblc).trans (by simpa using e4)
      clear e4 q4
      clear hcc
      go_wp2_with fail
      go_still_tail 11, (by kernel_rfl)
      have hbd : Below w.heap.size w wr.drew := hb.drew
      have OD := Lib.hid (show Tbl wr.drew (w.heap.size + 1) g c (mins k) from own_keep OWN.out fun _ _ => rfl)
      have BD := Lib.hid ba.drew
      change wpList _ _ _ _ _ wr.drew
      have hsz : wr.drew.heap.size = wr.heap.size := rfl
      rw [← hsz] at bal hbs
      clear OWN ba ba_5 ba_3 c_0 c_1 c_2 c_3 c_4 hb hsz hblc
      generalize wr.drew = wd at *
      cases hI : insF y0 y1 y2 y3 y4 z3.length z5.length with
      | false =>
        go_wp2_with (go_at_call 52; refine (HI y0 y1 y2 y3 y4 z3.length z5.length wd ok3 ok4).mono ?_; rw [hI]; rintro e w2 ⟨rfl, hb2⟩; have hs2 := hb2.size)
        go_ret2
        obtain ⟨e1, e2⟩ := htV_none (ht_bad (slots := z3.length) HX.out hI)
        exact HE.out _ [] false e1 e2 _ _ (ownsRow_le (own_empty _ 3 1) (by omega)) ((hbd.trans (hb2.mono (by omega))).alloc (by omega) _)
      | true =>
        have HT := Lib.hid hI
        clear hI
        go_wp2_with (first | (go_at_call 52; refine (HI y0 y1 y2 y3 y4 z3.length z5.length wd ok3 ok4).mono ?_; rw [HT.out]; rintro e w2 ⟨rfl, hb2⟩; have O2 := Lib.hid (OD.out.keep hb2 (Nat.le_refl _)); have B2 := Lib.hid (BD.out.below hb2 (Nat.le_refl _)); have H2 := Lib.hid (hbd.trans (hb2.mono (by omega))); have RDX := Lib.hid (rd_one w2 (.int .i64 (-1)) 3); have hs2 := hb2.size; clear hb2) | (at_builtin; go_must (refine wpList_append_rd _ rfl (.tmp 35) (.tmp 36) _ rfl (w.heap.size + 1) _ _ _ 8 Tryz.underlying78 htInfo rfl (by omega) (.slice (some ⟨g, 0, none⟩) k c) _ _ rfl (O2.out.mins.alloc _) (w2.heap.size + 1) _ 1 _ [.int .i64 (-1)] rfl RDX.out (by intro u hu; simp only [List.mem_cons, List.not_mem_nil, or_false] at hu; rcases hu with rfl; rfl) (by unfold maxLen; omega) (by omega) (by simp; omega) ?_); intro v2 w4 hown2 hg2 hat2; obtain ⟨A6, c6, rfl⟩ := own_form hown2; have HG2 := Lib.hid hg2; have HW2 := Lib.hid hown2; clear hg2 hat2 hown2))
        go_roundw
        case rel =>
          have hown2 := HW2.out
          have hg2 : (w2.alloc (.cells #[.int .i64 (-1)] 3)).grownBy w4 (some g) := HG2.out
          have hgl := Tbl.lt O2.out
          obtain ⟨hgl1, hgl2⟩ := hgl
          rcases own_row hown2 with ⟨hv, h0, _⟩ | ⟨g6, cap6, f6, hv, _, _, _, _, _⟩
          · omega
          · injection hv with e1 e2 e3
            subst e1
            have e4 : mins (k + 1) = mins k ++ [-1] := List.replicate_succ'
            refine ⟨k + 1, g6, c6, by omega, by go_num, rfl, ?_, ?_, (B2.out.alloc _).grown hg2 (by omega), (H2.out.alloc (by omega) _).grown hg2 (by simp; omega) (fun j hj => by have := Option.some.inj hj; omega)⟩
            · unfold Tbl
              rw [mins_len, e4, List.map_append]
              exact hown2
            · intro j x hj hx
              by_cases hjk : j < k
              · exact HALL.out j x hjk hx
              · obtain rfl : j = k := by omega
                rw [HX.out] at hx
                injection hx with hx
                subst hx
                exact HT.out
        case measure => simp [intOf]; omega
    · obtain rfl : k = z5.length := by omega
      clear hlt
      by_cases hz : z5.length = 0
      · have ez : z5 = [] := List.length_eq_zero_iff.1 hz
        have dz : ((z5.length : Int) == 0) = true := by simp [hz]
        go_wp2_with fail
        go_ret2
        obtain ⟨e1, e2⟩ := htV_none (slots := z3.length) (l := z5) (if_pos (.inl hz))
        exact HE.out _ [] false e1 e2 _ _ (ownsRow_le (own_empty _ 3 1) (by omega)) (hb.alloc (by omega) _)
      have dz : ((z5.length : Int) == 0) = false := by simp [hz]
      have hpos : 0 < z5.length := by omega
      obtain ⟨hgl1, hgl2⟩ := Tbl.lt OWN.out
      obtain ⟨hc0, hf0⟩ := OWN.out.at_ 0 (by rw [mins_len]; omega)
      obtain ⟨hst, hgr⟩ := OWN.out.put 0 0
      rw [mins_zero _ hpos] at hst
      have HS0 := Lib.hid hst
      have HB0 := Lib.hid (show Below w.heap.size w (wr.setCell ⟨g, 0, none⟩ (.int .i64 0)) from hb.grown hgr (by omega) (fun j hj => by have := Option.some.inj hj; omega))
      have BA0 := Lib.hid (Blk.grown ba hgr (by omega))
      have HEQ := Lib.hid (ht_ok (slots := z3.length) hz fun x hx => by
        obtain ⟨j, hj, e⟩ := List.mem_iff_getElem.1 hx
        exact HALL.out j x hj (by rw [List.getElem?_eq_getElem hj, e]))
      have HP0 := Lib.hid (PInv.start (c := hC z5) hpos)
      clear hst hgr ba hb OWN
      go_wp2_with fail
      clear ba_5 ba_3 hc0 hf0
      have hgs : wr.heap.size = (wr.setCell ⟨g, 0, none⟩ (.int .i64 0)).heap.size := by simp
      rw [hgs] at bal hbs hgl2
      clear hgs
      generalize wr.setCell ⟨g, 0, none⟩ (.int .i64 0) = w1 at *
      go_loopg [6] (nocnt (0 :: List.replicate (z5.length - 1) (-1)) + 1) (fun gk m wr => ∃ (V : List Int) (b : Bool), m = .bool b ∧ gk = (if b = true then nocnt V + 1 else 0) ∧ PInv (hC z5) V ∧ (b = false → HTab (hC z5) 500 = some V) ∧ Tbl wr (w.heap.size + 1) g c V ∧ Blk wr w.heap.size 51 #[.string z0, .slice A1 z1.length c1, .slice A2 z2.length c2, .slice A3 z3.length c3, .bool z4, .slice A5 z5.length c5] ∧ Below w.heap.size w wr)
      case atStart => exact ⟨_, true, rfl, rfl, HP0.out, fun e => (by cases e), HS0.out, BA0.out, HB0.out⟩
      case round =>
        clear hgl2 bal hbs HS0 HB0 BA0 HP0
        obtain ⟨V0, b, rfl, hgk, hinv0, hfin, htb0, ba0, hb0⟩ := hrel
        have HF := Lib.hid hfin
        have HK := Lib.hid hgk
        have hlen0 : V0.length = z5.length := hinv0.len
        have HI0 := Lib.hid hinv0
        have HT0 := Lib.hid htb0
        clear hfin hgk hinv0 htb0
        cases b with
        | false =>
          obtain ⟨e1, e2⟩ := htV_some (HEQ.out.trans (HF.out rfl))
          have EE := Lib.hid (HE.out wr V0 true e1 e2 (some ⟨g, 0, none⟩) c (ownsRow_le HT0.out (by omega)) hb0)
          clear e1 e2 HF
          rw [hlen0] at EE
          go_wp2_with fail
          go_ret2
          exact EE.out
        | true =>
          obtain ⟨wo, hwo⟩ : ∃ wo : World, wo = wr := ⟨_, rfl⟩
          rw [← hwo] at HT0 ba0 hb0 ⊢
          clear hwo
          have hk1 : gk = nocnt V0 + 1 := by simpa using HK.out
          go_wp2_with fail
          go_loopg [6, 7] z5.length (fun gi m i wr => ∃ (V : List Int) (b : Bool) (k : Nat), m = .bool b ∧ i = .int .i64 k ∧ k ≤ z5.length ∧ gi = z5.length - k ∧ PassR (hC z5) V0 V k b ∧ Tbl wr (w.heap.size + 1) g c V ∧ Blk wr w.heap.size 51 #[.string z0, .slice A1 z1.length c1, .slice A2 z2.length c2, .slice A3 z3.length c3, .bool z4, .slice A5 z5.length c5] ∧ Below w.heap.size w wr)
          case atStart => exact ⟨V0, false, 0, rfl, rfl, Nat.zero_le _, rfl, PassR.zero HI0.out, HT0.out, ba0, hb0⟩
          case round =>
            clear HT0 ba0 hb0
            obtain ⟨V, b, k, rfl, rfl, hk, hgi, hps, htb, ba, hb⟩ := hrel
            have hbs := hb.size
            have bal := ba.lt
            have hlen : V.length = z5.length := hps.inv.len
            have ba_5 : wr.cell? ⟨w.heap.size, 5, none⟩ = some (.slice A5 z5.length c5) := ba.cell 5
            have PS := Lib.hid hps
            have HT := Lib.hid htb
            clear hps htb
            by_cases hlt : k < z5.length
            · obtain ⟨x, hx⟩ : ∃ x, z5[k]? = some x := ⟨_, List.getElem?_eq_getElem hlt⟩
              obtain ⟨bc, offc, rfl, hblc, hcc⟩ := RdC.at_ FIns.len HC.out hx
              have HX := Lib.hid hx
              clear hx
              obtain ⟨y0, y1, y2, y3, y4⟩ := x
              rw [FIns.c_eq] at hcc
              obtain ⟨u0, e0, q0⟩ := hcc 0 _ rfl
              obtain rfl := q0.val
              have c_0 : wr.cell? ⟨bc, offc + k * 5, none⟩ = some (.int .i64 y0) := (hb.cell (p := ⟨bc, _, none⟩) hblc).trans (by simpa using e0)
              clear e0 q0
              obtain ⟨u1, e1, q1⟩ := hcc 1 _ rfl
              obtain rfl := q1.val
              have c_1 : wr.cell? ⟨bc, offc + k * 5 + 1, none⟩ = some (.int .i64 y1) := (hb.cell (p := ⟨bc, _, none⟩) hblc).trans (by simpa using e1)
              clear e1 q1
              obtain ⟨u2, e2, q2⟩ := hcc 2 _ rfl
              obtain rfl := q2.val
              have c_2 : wr.cell? ⟨bc, offc + k * 5 + 2, none⟩ = some (.int .i64 y2) := (hb.cell (p := ⟨bc, _, none⟩) hblc).trans (by simpa using e2)
              clear e2 q2
              obtain ⟨u3, e3, q3⟩ := hcc 3 _ rfl
              obtain rfl := q3.val
              have c_3 : wr.cell? ⟨bc, offc + k * 5 + 3, none⟩ = some (.string y3) := (hb.cell (p := ⟨bc, _, none⟩) hblc).trans (by simpa using e3)
              clear e3 q3
              obtain ⟨u4, e4, q4⟩ := hcc 4 _ rfl
              obtain rfl := q4.val
              have c_4 : wr.cell? ⟨bc, offc + k * 5 + 4, none⟩ = some (.string y4) := (hb.cell (p := ⟨bc, _, none⟩) hblc).trans (by simpa using e4)
              clear e4 q4
              clear hcc
              obtain ⟨hck, hfk⟩ := HT.out.at_ k (by omega)
              obtain ⟨hgl1, hgl2⟩ := Tbl.lt HT.out
              obtain ⟨h, hh⟩ : ∃ h, h = V.getD k 0 := ⟨_, rfl⟩
              rw [← hh] at hck
              have HH := Lib.hid hh
              clear hh
              by_cases hneg : h < 0
              · have dneg : decide (h < 0) = true := by simpa using hneg
                go_wp2_with fail
                go_roundg (z5.length - (k + 1))
                case measure => omega
                case rel => exact ⟨V, b, k + 1, rfl, by go_num, by omega, rfl, PS.out.over (by rw [← HH.out]; exact hneg) (by omega), HT.out.alloc _, ba.alloc _, hb.alloc (by omega) _⟩
              · have dneg : decide (h < 0) = false := by simpa using hneg
                go_wp2_with fail
                have s1 := Lib.hid (show HSt w wr.heap.size g c #[.string z0, .slice A1 z1.length c1, .slice A2 z2.length c2, .slice A3 z3.length c3, .bool z4, .slice (some ⟨bc, offc, none⟩) z5.length c5] #[.int .i64 y0, .int .i64 y1, .int .i64 y2, .string y3, .string y4] V (wr.alloc (.cells #[.int .i64 y0, .int .i64 y1, .int .i64 y2, .string y3, .string y4] 77)) from ⟨HT.out.alloc _, ba.alloc _, Blk.new _ _ _, hb.alloc (by omega) _, by omega, by omega⟩)
                have hVk := Lib.hid (show V[k]? = some h from by rw [HH.out]; exact getD_some (by omega))
                have hXl : wr.heap.size < (wr.alloc (.cells #[.int .i64 y0, .int .i64 y1, .int .i64 y2, .string y3, .string y4] 77)).heap.size := by simp
                obtain ⟨X, hX⟩ : ∃ X, X = wr.heap.size := ⟨_, rfl⟩
                rw [← hX] at s1 hXl ⊢
                generalize (wr.alloc (.cells #[.int .i64 y0, .int .i64 y1, .int .i64 y2, .string y3, .string y4] 77)) = w1 at *
                clear hX ba hb ba_5 c_0 c_1 c_2 c_3 c_4 hck hfk hgl1 hgl2 HT bal hbs
                have x0 := s1.out.cell 0
                have x1 := s1.out.cell 1
                have x2 := s1.out.cell 2
                have x3 := s1.out.cell 3
                have x4 := s1.out.cell 4
                have xh := s1.out.tab k hVk.out
                by_cases hneed : h < needF y0 y2
                · have dneed : decide (h < needF y0 y2) = true := by simpa using hneed
                  go_region_held3 (fun w_ => w_.cell? ⟨X, 0, none⟩ = some (.int .i64 y0) ∧ w_.cell? ⟨X, 1, none⟩ = some (.int .i64 y1) ∧ w_.cell? ⟨X, 2, none⟩ = some (.int .i64 y2) ∧ w_.cell? ⟨X, 3, none⟩ = some (.string y3) ∧ w_.cell? ⟨X, 4, none⟩ = some (.string y4) ∧ w_.cell? ⟨g, k, none⟩ = some (.int .i64 h))
                    (first | exact ⟨x0, x1, x2, x3, x4, xh⟩ | exact ⟨s2.out.cell 0, s2.out.cell 1, s2.out.cell 2, s2.out.cell 3, s2.out.cell 4, s2.out.tab k hVk.out⟩)
                    ((first | (go_at_call 53; refine (need_spec _ _ _ _ _ _).mono ?_; rintro e w2 ⟨rfl, hb2⟩; have s2 := Lib.hid (s1.out.drew.below hb2))))
                  go_wp2_with fail
                  go_ret2
                  obtain ⟨e1, e2⟩ := htV_none (HEQ.out.trans (need_none PS.out.inv hVk.out (by omega) (by rw [hC_need HX.out]; exact hneed)))
                  exact HE.out _ [] false e1 e2 _ _ (ownsRow_le (own_empty _ 3 1) (by have := s2.out.bl.size; omega)) (s2.out.bl.alloc s2.out.bl.size _)
                · have dneed : decide (h < needF y0 y2) = false := by simpa using hneed
                  have hrch := Lib.hid (PS.out.inv.rch k h hVk.out (by omega))
                  go_region_held3 (fun w_ => w_.cell? ⟨X, 0, none⟩ = some (.int .i64 y0) ∧ w_.cell? ⟨X, 1, none⟩ = some (.int .i64 y1) ∧ w_.cell? ⟨X, 2, none⟩ = some (.int .i64 y2) ∧ w_.cell? ⟨X, 3, none⟩ = some (.string y3) ∧ w_.cell? ⟨X, 4, none⟩ = some (.string y4) ∧ w_.cell? ⟨g, k, none⟩ = some (.int .i64 h))
                    (first | exact ⟨x0, x1, x2, x3, x4, xh⟩ | exact ⟨s2.out.cell 0, s2.out.cell 1, s2.out.cell 2, s2.out.cell 3, s2.out.cell 4, s2.out.tab k hVk.out⟩)
                    ((first | (go_at_call 53; refine (need_spec _ _ _ _ _ _).mono ?_; rintro e w2 ⟨rfl, hb2⟩; have s2 := Lib.hid (s1.out.drew.below hb2))))
                  clear x0 x1 x2 x3 x4 xh s1 hb2
                  obtain ⟨n1, hn1⟩ : ∃ n1, n1 = wrap64 (h + changeF y0 y2) := ⟨_, rfl⟩
                  have HW1 := Lib.hid (show IntKind.i64.wrap (h + changeF y0 y2) = n1 from (wrap_eq _).trans hn1.symm)
                  have HWK := Lib.hid (show IntKind.i64.wrap ((k : Int) + 1) = (k : Int) + 1 from IntWalk.i64_in _ (by omega))
                  have HWC := Lib.hid (show ((k : Int) + 1) = ((k + 1 : Nat) : Int) by omega)
                  have hk9 : k + 1 ≤ 1000000000 := by omega
                  have hk0 : (0 : Int) ≤ (k : Int) + 1 := by omega
                  have hh0 : 0 ≤ h := by omega
                  have HN1 := Lib.hid hn1
                  clear hn1
                  go_upto_if 72 with (go_at_call 54; refine (if_spec _ _).mono ?_; rintro e w' ⟨rfl, rfl⟩)
                  go_cut [9, 10] (fun s9 s10 wx => ∃ (V1 : List Int) (a ok : Bool), s9 = .bool a ∧ s10 = .bool ok ∧ GvR (hC z5) V V1 (!ifF y0) ((k : Int) + 1) n1 a ok ∧ HSt w X g c #[.string z0, .slice A1 z1.length c1, .slice A2 z2.length c2, .slice A3 z3.length c3, .bool z4, .slice (some ⟨bc, offc, none⟩) z5.length c5] #[.int .i64 y0, .int .i64 y1, .int .i64 y2, .string y3, .string y4] V1 wx)
                  case first =>
                    cases hif : ifF y0 with
                    | true =>
                      go_wp2_with fail
                      go_meet
                      exact ⟨V, false, true, rfl, rfl, by rw [hif]; exact GvR.skip PS.out.inv, s2.out⟩
                    | false =>
                      have HIF := Lib.hid hif
                      clear hif
                      have x0 := s2.out.cell 0
                      have x1 := s2.out.cell 1
                      have x2 := s2.out.cell 2
                      have x3 := s2.out.cell 3
                      have x4 := s2.out.cell 4
                      have xh := s2.out.tab k hVk.out
                      have hmem := Lib.hid (nx_one (h := h) HX.out HIF.out)
                      rw [← HN1.out] at hmem
                      go_wp2_with fail
                      cases hgv : giveF V ((k : Int) + 1) n1 with
                      | none =>
                        have HGV := Lib.hid hgv
                        clear hgv
                        have hw1 := HW1.out
                        have hwk := HWK.out
                        go_region_held3 (fun w_ => w_.cell? ⟨X, 0, none⟩ = some (.int .i64 y0) ∧ w_.cell? ⟨X, 1, none⟩ = some (.int .i64 y1) ∧ w_.cell? ⟨X, 2, none⟩ = some (.int .i64 y2) ∧ w_.cell? ⟨X, 3, none⟩ = some (.string y3) ∧ w_.cell? ⟨X, 4, none⟩ = some (.string y4) ∧ w_.cell? ⟨g, k, none⟩ = some (.int .i64 h))
                          (first | exact ⟨x0, x1, x2, x3, x4, xh⟩ | exact ⟨s3.out.cell 0, s3.out.cell 1, s3.out.cell 2, s3.out.cell 3, s3.out.cell 4, s3.out.tab k hVk.out⟩)
                          ((first | (go_at_call 56; refine (change_spec _ _ _ _ _ _).mono ?_; rintro e w3 ⟨rfl, hb3⟩; have s3 := Lib.hid (s2.out.drew.below hb3)) | (go_at_call 55; refine (give_none' V ((k : Int) + 1) n1 (k + 1) _ HWC.out hlen s3.out.tb hl HGV.out hk9).mono ?_; rintro e w4 ⟨rfl, rfl⟩)))
                        go_wp2_with fail
                        go_meet
                        exact ⟨V, false, false, rfl, rfl, GvR.none PS.out.inv hrch.out hmem.out hk0 HGV.out, s3.out⟩
                      | some V1 =>
                        have HGV := Lib.hid hgv
                        clear hgv
                        have HG1 := Lib.hid (GvR.some (go := true) PS.out.inv hrch.out hmem.out hk0 HGV.out)
                        have hVk1 := Lib.hid (HG1.out.2.1.2 k h hVk.out hh0)
                        have hw1 := HW1.out
                        have hwk := HWK.out
                        go_region_held3 (fun w_ => w_.cell? ⟨X, 0, none⟩ = some (.int .i64 y0) ∧ w_.cell? ⟨X, 1, none⟩ = some (.int .i64 y1) ∧ w_.cell? ⟨X, 2, none⟩ = some (.int .i64 y2) ∧ w_.cell? ⟨X, 3, none⟩ = some (.string y3) ∧ w_.cell? ⟨X, 4, none⟩ = some (.string y4) ∧ w_.cell? ⟨g, k, none⟩ = some (.int .i64 h))
                          (first | exact ⟨x0, x1, x2, x3, x4, xh⟩ | exact ⟨s3.out.cell 0, s3.out.cell 1, s3.out.cell 2, s3.out.cell 3, s3.out.cell 4, s3.out.tab k hVk.out⟩ | exact ⟨s4.out.cell 0, s4.out.cell 1, s4.out.cell 2, s4.out.cell 3, s4.out.cell 4, s4.out.tab k hVk1.out⟩)
                          ((first | (go_at_call 56; refine (change_spec _ _ _ _ _ _).mono ?_; rintro e w3 ⟨rfl, hb3⟩; have s3 := Lib.hid (s2.out.drew.below hb3)) | (go_at_call 55; refine (give_some' V V1 ((k : Int) + 1) n1 (k + 1) _ HWC.out hlen s3.out.tb hl HGV.out).mono ?_; rintro e w4 ⟨rfl, ht4, hg4⟩; have s4 := Lib.hid (s3.out.give ht4 hg4))))
                        go_wp2_with fail
                        go_meet
                        exact ⟨V1, _, true, rfl, rfl, by rw [HIF.out]; exact HG1.out, s4.out⟩
                  case rest =>
                    clear s2
                    obtain ⟨V1, a, ok, rfl, rfl, G1, s2⟩ := hcut
                    have hinv1 := Lib.hid G1.1
                    have hext1 := Lib.hid G1.2.1
                    have hlen1 : V1.length = z5.length := G1.1.len
                    have hVk1 := Lib.hid (hext1.out.2 k h hVk.out hh0)
                    have hrch1 := Lib.hid (hinv1.out.rch k h hVk1.out hh0)
                    have HG1 := Lib.hid G1
                    have S2 := Lib.hid s2
                    have x0 := s2.cell 0
                    clear G1 s2
                    obtain ⟨n2, hn2⟩ : ∃ n2, n2 = wrap64 (h + tcF y0) := ⟨_, rfl⟩
                    have HW2 := Lib.hid (show IntKind.i64.wrap (h + tcF y0) = n2 from (wrap_eq _).trans hn2.symm)
                    have HN2 := Lib.hid hn2
                    clear hn2
                    go_upto_if 89 with (go_at_call 57; refine (ht_spec _ _).mono ?_; rintro e w' ⟨rfl, rfl⟩)
                    go_cut [11, 12] (fun s9 s10 wx => ∃ (V2 : List Int) (b2 ok2 : Bool), s9 = .bool b2 ∧ s10 = .bool ok2 ∧ GvR (hC z5) V1 V2 (htF y0) y1 n2 b2 ok2 ∧ HSt w X g c #[.string z0, .slice A1 z1.length c1, .slice A2 z2.length c2, .slice A3 z3.length c3, .bool z4, .slice (some ⟨bc, offc, none⟩) z5.length c5] #[.int .i64 y0, .int .i64 y1, .int .i64 y2, .string y3, .string y4] V2 wx)
                    case first =>
                      cases hif : htF y0 with
                      | false =>
                        go_wp2_with fail
                        go_meet
                        exact ⟨V1, false, true, rfl, rfl, by rw [hif]; exact GvR.skip hinv1.out, S2.out⟩
                      | true =>
                        have HIF := Lib.hid hif
                        clear hif
                        have hy1 : 0 ≤ y1 ∧ y1 < (z5.length : Int) := insF_tgt (HALL.out k _ hlt HX.out) HIF.out
                        obtain ⟨m1, hm1⟩ : ∃ m1 : Nat, y1 = (m1 : Int) := ⟨y1.toNat, by omega⟩
                        have HM1 := Lib.hid hm1
                        have hm9 : m1 ≤ 1000000000 := by omega
                        have hy0 : 0 ≤ y1 := hy1.1
                        clear hm1 hy1
                        have x1 := S2.out.cell 1
                        have x2 := S2.out.cell 2
                        have x3 := S2.out.cell 3
                        have x4 := S2.out.cell 4
                        have xh := S2.out.tab k hVk1.out
                        have hmem := Lib.hid (nx_two (h := h) HX.out HIF.out)
                        rw [← HN2.out] at hmem
                        go_wp2_with fail
                        cases hgv : giveF V1 y1 n2 with
                        | none =>
                          have HGV := Lib.hid hgv
                          clear hgv
                          have hw2 := HW2.out
                          go_region_held3 (fun w_ => w_.cell? ⟨X, 0, none⟩ = some (.int .i64 y0) ∧ w_.cell? ⟨X, 1, none⟩ = some (.int .i64 y1) ∧ w_.cell? ⟨X, 2, none⟩ = some (.int .i64 y2) ∧ w_.cell? ⟨X, 3, none⟩ = some (.string y3) ∧ w_.cell? ⟨X, 4, none⟩ = some (.string y4) ∧ w_.cell? ⟨g, k, none⟩ = some (.int .i64 h))
                            (first | exact ⟨x0, x1, x2, x3, x4, xh⟩ | exact ⟨s3.out.cell 0, s3.out.cell 1, s3.out.cell 2, s3.out.cell 3, s3.out.cell 4, s3.out.tab k hVk.out⟩)
                            ((first | (go_at_call 58; refine (tc_spec _ _).mono ?_; rintro e w3 ⟨rfl, rfl⟩) | (go_at_call 55; refine (give_none' V1 y1 n2 m1 _ HM1.out hlen1 S2.out.drew.tb hl HGV.out hm9).mono ?_; rintro e w4 ⟨rfl, rfl⟩)))
                          go_wp2_with fail
                          go_meet
                          exact ⟨V1, false, false, rfl, rfl, GvR.none hinv1.out hrch1.out hmem.out hy0 HGV.out, S2.out.drew⟩
                        | some V2 =>
                          have HGV := Lib.hid hgv
                          clear hgv
                          have HG2 := Lib.hid (GvR.some (go := true) hinv1.out hrch1.out hmem.out hy0 HGV.out)
                          have hVk2 := Lib.hid (HG2.out.2.1.2 k h hVk1.out hh0)
                          have hw2 := HW2.out
                          go_region_held3 (fun w_ => w_.cell? ⟨X, 0, none⟩ = some (.int .i64 y0) ∧ w_.cell? ⟨X, 1, none⟩ = some (.int .i64 y1) ∧ w_.cell? ⟨X, 2, none⟩ = some (.int .i64 y2) ∧ w_.cell? ⟨X, 3, none⟩ = some (.string y3) ∧ w_.cell? ⟨X, 4, none⟩ = some (.string y4) ∧ w_.cell? ⟨g, k, none⟩ = some (.int .i64 h))
                            (first | exact ⟨x0, x1, x2, x3, x4, xh⟩ | exact ⟨s4.out.cell 0, s4.out.cell 1, s4.out.cell 2, s4.out.cell 3, s4.out.cell 4, s4.out.tab k hVk2.out⟩)
                            ((first | (go_at_call 58; refine (tc_spec _ _).mono ?_; rintro e w3 ⟨rfl, rfl⟩) | (go_at_call 55; refine (give_some' V1 V2 y1 n2 m1 _ HM1.out hlen1 S2.out.drew.tb hl HGV.out).mono ?_; rintro e w4 ⟨rfl, ht4, hg4⟩; have s4 := Lib.hid (S2.out.drew.give ht4 hg4))))
                          go_wp2_with fail
                          go_meet
                          exact ⟨V2, _, true, rfl, rfl, by rw [HIF.out]; exact HG2.out, s4.out⟩
                    case rest =>
                      clear S2 x0
                      obtain ⟨V2, b2, ok2, rfl, rfl, G2, s2⟩ := hcut
                      have HG2 := Lib.hid G2
                      have S2 := Lib.hid s2
                      clear G2 s2
                      cases ok with
                      | false =>
                        obtain ⟨e1, e2⟩ := htV_none (HEQ.out.trans (HG1.out.2.2.1 rfl))
                        have EE := Lib.hid (And.intro e1 e2)
                        clear e1 e2
                        go_wp2_with fail
                        go_ret2
                        exact HE.out _ [] false EE.out.1 EE.out.2 _ _ (ownsRow_le (own_empty _ 3 1) (by have := S2.out.bl.size; omega)) (S2.out.bl.alloc S2.out.bl.size _)
                      | true =>
                        cases ok2 with
                        | false =>
                          obtain ⟨e1, e2⟩ := htV_none (HEQ.out.trans (HG2.out.2.2.1 rfl))
                          have EE := Lib.hid (And.intro e1 e2)
                          clear e1 e2
                          go_wp2_with fail
                          go_ret2
                          exact HE.out _ [] false EE.out.1 EE.out.2 _ _ (ownsRow_le (own_empty _ 3 1) (by have := S2.out.bl.size; omega)) (S2.out.bl.alloc S2.out.bl.size _)
                        | true =>
                          have PS2 := Lib.hid (fun (q : Bool) (e : (b || a || b2) = q) => e ▸ PS.out.step HX.out hVk.out hh0 (by omega) (by rw [← HN1.out]; exact HG1.out) (by rw [← HN2.out]; exact HG2.out))
                          go_wp2_with fail
                          all_goals
                            go_roundg (z5.length - (k + 1))
                            case measure => omega
                            case rel => exact ⟨V2, _, k + 1, rfl, by go_num, by omega, rfl, PS2.out _ (by simp [*]), S2.out.tb, S2.out.bf, S2.out.bl⟩
            · obtain rfl : k = z5.length := by omega
              clear hlt
              go_wp2_with fail
              go_roundg (if b = true then nocnt V + 1 else 0)
              case measure =>
                have hl1 := PS.out.less
                have hl2 := PS.out.few
                by_cases hb1 : b = true
                · rw [if_pos hb1]
                  have := hl1 hb1
                  omega
                · rw [if_neg hb1]
                  omega
              case rel =>
                refine ⟨V, b, rfl, rfl, PS.out.inv, fun e => ?_, HT.out, ba, hb⟩
                have := PS.out
                rw [e] at this
                exact this.good
end Go.Proofs.YtdmbhmhfjappcaaGreatDoor
