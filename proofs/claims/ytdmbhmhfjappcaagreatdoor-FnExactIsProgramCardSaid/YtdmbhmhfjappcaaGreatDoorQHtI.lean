/-
  Parts of the proof: HtI. Conditions: none.
-/
import Derived.Test.YtdmbhmhfjappcaaGreatDoorQHtJ
import Derived.Test.YtdmbhmhfjappcaaGreatDoorQReg
import Derived.OwnWalk
import Derived.WalkSmall
import Derived.Deep.DeepMust
import Derived.StillTailTactics
import Derived.Deep.RegionHeld3
import Derived.IntWalk
namespace Go.Proofs.YtdmbhmhfjappcaaGreatDoor
open Go.ChangeShapes Go.WideShapes Go.ChangeAt Go.RowKit Go.Deep Go.Joins
open Go.ChangeMaps (open_string shut_string)
set_option linter.unusedVariables false
set_option linter.unusedSimpArgs false
set_option maxRecDepth 100000
/-- A table of which k are -1 and the others 0. -/
def mz (k n : Nat) : List Int := List.replicate k (-1) ++ List.replicate (n - k) 0
theorem mz_len (k n : Nat) (h : k ≤ n) : (mz k n).length = n := by unfold mz; simp; omega
theorem mz_succ (k n : Nat) (h : k < n) : (mz k n).set k (-1) = mz (k + 1) n := by
  unfold mz
  obtain ⟨d, hd⟩ : ∃ d, n - k = d + 1 := ⟨n - k - 1, by omega⟩
  rw [hd, show n - (k + 1) = d by omega, List.replicate_succ (n := d), List.replicate_succ', List.append_assoc]
  rw [List.set_append_right _ _ (by simp)]
  simp
theorem mz_full (n : Nat) : (mz n n).set 0 0 = (List.replicate n (-1)).set 0 0 := by unfold mz; simp
theorem reps_zero (n : Nat) (h : 0 < n) : (List.replicate n (-1 : Int)).set 0 0 = 0 :: List.replicate (n - 1) (-1) := by
  obtain ⟨m, rfl⟩ : ∃ m, n = m + 1 := ⟨n - 1, by omega⟩
  simp [List.replicate_succ]
theorem Tbl.pop {w : World} {base g c : Nat} {L : List Int} {x : Int} (h : Tbl w base g c (L ++ [x])) : Tbl w base g c L := by
  unfold Tbl at h
  rw [List.length_append, List.map_append] at h
  exact ownsRow_pop (n := L.length) (size := 1) (xs := L.map (Value.int .i64)) (last := [x].map (Value.int .i64)) (by simp) h
theorem last_split : ∀ L : List Int, L ≠ [] → ∃ L' x, L = L' ++ [x]
  | L, h => ⟨L.dropLast, L.getLast h, (List.dropLast_concat_getLast h).symm⟩
theorem Blk.grownN {w w' : World} {b : Nat} {t : TypeId} {cs : Array Value} (h : Blk w b t cs) (hg : w.grownBy w' none) : Blk w' b t cs :=
  (hg.block b h.lt (fun e => by cases e)).trans h
theorem htInfoZ : (Tryz.prog.info? 3).map (fun i => (i.zero, i.size, i.bytes)) = some (some (.int .i64 0), 1, 8) := by kernel_rfl
set_option maxHeartbeats 8000000 in
theorem HeightsOf_impl (HI : InsImpl) (z0 : ByteArray) (z1 : List FParam) (z2 : List FParam) (z3 : List FStr) (z4 : Bool) (z5 : List FIns) (us : List Value) (w : World) (hl : z5.length ≤ 1000000000) (hl3 : z3.length ≤ 1000000000) (hok : ∀ x, x ∈ z5 → x.ok) {B : Nat} (hB0 : B ≤ w.heap.size) (hr : RdVs w B (FFunc.c ⟨z0, z1, z2, z3, z4, z5⟩) us) :
    Calls Tryz.prog 38 #[.agg us.toArray] w fun e w' => ∃ A c, e = .returned (.tuple #[.slice A (htV z5 z3.length).length c, .bool (htB z5 z3.length)]) ∧ w'.ownsRow w.heap.size 3 1 (.slice A (htV z5 z3.length).length c) (htV z5 z3.length).length ((htV z5 z3.length).map (Value.int .i64)) ∧ Below w.heap.size w w' := by
  rw [FFunc.c_eq] at hr
  obtain ⟨us0, rfl, hr_0⟩ := hr.unv
  obtain ⟨A1, c1, us1, rfl, r1, hr_1⟩ := hr_0.uns
  obtain ⟨A2, c2, us2, rfl, r2, hr_2⟩ := hr_1.uns
  obtain ⟨A3, c3, us3, rfl, r3, hr_3⟩ := hr_2.uns
  obtain ⟨us4, rfl, hr_4⟩ := hr_3.unv
  obtain ⟨A5, c5, us5, rfl, r5, hr_5⟩ := hr_4.uns
  obtain rfl := hr_5.un0
  have HC := Lib.hid (r5.up hB0)
  have hn : z5.length ≤ 9223372036854775807 := by omega
  have hn3 : z3.length ≤ 9223372036854775807 := by omega
  clear r5 hr hr_0 hr_1 hr_2 hr_3 hr_4 hr_5 r1 r2 r3
  have HOK := Lib.hid hok
  clear hok
  have HE := Lib.hid (show ∀ (w' : World) (q : List Int) (b : Bool), htV z5 z3.length = q → htB z5 z3.length = b → ∀ (A : Option Addr) (c : Nat), w'.ownsRow w.heap.size 3 1 (.slice A q.length c) q.length (q.map (Value.int .i64)) → Below w.heap.size w w' → ∃ A' c', Ending.returned (.tuple #[.slice A q.length c, .bool b]) = Ending.returned (.tuple #[.slice A' (htV z5 z3.length).length c', .bool (htB z5 z3.length)]) ∧ w'.ownsRow w.heap.size 3 1 (.slice A' (htV z5 z3.length).length c') (htV z5 z3.length).length ((htV z5 z3.length).map (Value.int .i64)) ∧ Below w.heap.size w w' from by
    rintro w' q b rfl rfl A c h1 h2
    exact ⟨A, c, rfl, h1, h2⟩)
  by_cases hz : z5.length = 0
  · have ez : z5 = [] := List.length_eq_zero_iff.1 hz
    have dz : ((z5.length : Int) == 0) = true := by simp [hz]
    obtain ⟨e1, e2⟩ := htV_none (slots := z3.length) (l := z5) (if_pos (.inl hz))
    have EE := Lib.hid (And.intro e1 e2)
    clear e1 e2 ez
    go_enter Tryz.func38, Tryz.ntmps38
    go_wp2_with fail
    go_ret2
    exact HE.out _ [] false EE.out.1 EE.out.2 none 0 (World.ownsRow_nil _ _ _ _) ((Below.refl _ _).alloc (Nat.le_refl _) _)
  have dz : ((z5.length : Int) == 0) = false := by simp [hz]
  have hpos : 0 < z5.length := by omega
  obtain ⟨iI, hiI, hzI, hsI, hyI⟩ := info_parts htInfoZ
  go_enter Tryz.func38, Tryz.ntmps38
  go_wp2_with (at_make; refine wpList_make_full _ rfl _ _ 78 rfl (w.heap.size + 1) 3 iI (.int .i64 0) 1 Tryz.underlying78 hiI hzI hsI _ _ _ _ z5.length rfl rfl rfl rfl (by rw [hyI]; omega) (by unfold maxLen; omega) (by simp) ?_; intro w1 hown hgrow; have HW1 := Lib.hid hown; have HG1 := Lib.hid hgrow; have HBF := Lib.hid (Blk.grownN (Blk.new w 51 _) hgrow); have b15 := HBF.out.cell 5; have b13 := HBF.out.cell 3; have l1 := HBF.out.lt; clear hown hgrow)
  have hgl := own_lt HW1.out _ rfl
  have hT0 : Tbl w1 (w.heap.size + 1) (w.heap.size + 1) z5.length (mz 0 z5.length) := by
    have h := HW1.out
    unfold Tbl
    rw [mz_len _ _ (Nat.zero_le _)]
    have e : (mz 0 z5.length).map (Value.int .i64) = (madeCells (Value.int IntKind.i64 0).cells (z5.length * 1)).toList := by
      rw [show (Value.int IntKind.i64 0).cells = #[Value.int IntKind.i64 0] from rfl, toList_madeCells_one]
      simp [mz]
    rw [e]
    simpa using h
  have hB1 : Below w.heap.size w w1 := ((Below.refl _ _).alloc (Nat.le_refl _) _).grown HG1.out (by simp) (fun j hj => by cases hj)
  have hO1 : w.heap.size + 1 < w1.heap.size := by simpa using hgl.2
  have HT0 := Lib.hid hT0
  clear hT0 hgl HW1 HG1
  obtain ⟨O, hO⟩ : ∃ O, O = w1.heap.size := ⟨_, rfl⟩
  have HBO := Lib.hid (show Blk (w1.alloc (.cells #[.slice (some ⟨w.heap.size + 1, 0, none⟩) z5.length z5.length] 78)) O 78 #[.slice (some ⟨w.heap.size + 1, 0, none⟩) z5.length z5.length] from by rw [hO]; exact Blk.new _ _ _)
  rw [← hO] at hO1 l1 ⊢
  have HO := Lib.hid hO
  clear hO
  have hB2 := Lib.hid (hB1.alloc (by have := hB1.size; omega) (.cells #[.slice (some ⟨w.heap.size + 1, 0, none⟩) z5.length z5.length] 78))
  go_loopw [23] (fun i wr => ∃ k : Nat, k ≤ z5.length ∧ i = .int .i64 k ∧ Tbl wr (w.heap.size + 1) (w.heap.size + 1) z5.length (mz k z5.length) ∧ (∀ j x, j < k → z5[j]? = some x → insOk x z3.length z5.length = true) ∧ Blk wr w.heap.size 51 #[.string z0, .slice A1 z1.length c1, .slice A2 z2.length c2, .slice A3 z3.length c3, .bool z4, .slice A5 z5.length c5] ∧ Blk wr O 78 #[.slice (some ⟨w.heap.size + 1, 0, none⟩) z5.length z5.length] ∧ Below w.heap.size w wr) (fun i _ => z5.length - (intOf i).toNat)
  case atStart => exact ⟨0, Nat.zero_le _, rfl, HT0.out.alloc _, fun j x hj => absurd hj (by omega), HBF.out.alloc _, HBO.out, hB2.out⟩
  case round =>
    clear HT0 HBF HBO hB2 hB1 b15 b13 l1
    obtain ⟨k, hk, rfl, htb, hall, ba, bo, hb⟩ := hrel
    have hbs := hb.size
    have bal := ba.lt
    have bol := bo.lt
    have ba_5 : wr.cell? ⟨w.heap.size, 5, none⟩ = some (.slice A5 z5.length c5) := ba.cell 5
    have ba_3 : wr.cell? ⟨w.heap.size, 3, none⟩ = some (.slice A3 z3.length c3) := ba.cell 3
    have bo_0 : wr.cell? ⟨O, 0, none⟩ = some (.slice (some ⟨w.heap.size + 1, 0, none⟩) z5.length z5.length) := bo.cell 0
    have HT := Lib.hid htb
    have HALL := Lib.hid hall
    clear htb hall
    by_cases hlt : k < z5.length
    · obtain ⟨x, hx⟩ : ∃ x, z5[k]? = some x := ⟨_, List.getElem?_eq_getElem hlt⟩
      obtain ⟨bc, offc, rfl, hblc, hcc⟩ := RdC.at_ FIns.len HC.out hx
      have HX := Lib.hid hx
      have hxo := HOK.out x (List.mem_of_getElem? hx)
      clear hx
      obtain ⟨y0, y1, y2, y3, y4⟩ := x
      rw [FIns.ok_eq] at hxo
      obtain ⟨ok3, ok4⟩ := hxo
      rw [FIns.c_eq] at hcc
      obtain ⟨u0, e0, q0⟩ := hcc 0 _ rfl
      obtain rfl := q0.val
      have c_0 : wr.cell? ⟨bc, offc + k * 5, none⟩ = some (.int .i64 y0) := (hb.cell (p := ⟨bc, _, none⟩) hblc).trans (by simpa using e0)
      clear e0 q0
      obtain ⟨u1, e1, q1⟩ := hcc 1 _ rfl
      obtain rfl := q1.val
      have c_1 : wr.cell? ⟨bc, offc + k * 5 + 1, none⟩ = some (.int .i64 y1) := (hb.cell (p := ⟨bc, _, none⟩) hblc).trans (by simpa using e1)
      clear e1 q1
      obtain ⟨u2, e2, q2⟩ := hcc 2 _ rfl
      obtain rfl := q2.val
      have c_2 : wr.cell? ⟨bc, offc + k * 5 + 2, none⟩ = some (.int .i64 y2) := (hb.cell (p := ⟨bc, _, none⟩) hblc).trans (by simpa using e2)
      clear e2 q2
      obtain ⟨u3, e3, q3⟩ := hcc 3 _ rfl
      obtain rfl := q3.val
      have c_3 : wr.cell? ⟨bc, offc + k * 5 + 3, none⟩ = some (.string y3) := (hb.cell (p := ⟨bc, _, none⟩) hblc).trans (by simpa using e3)
      clear e3 q3
      obtain ⟨u4, e4, q4⟩ := hcc 4 _ rfl
      obtain rfl := q4.val
      have c_4 : wr.cell? ⟨bc, offc + k * 5 + 4, none⟩ = some (.string y4) := (hb.cell (p := ⟨bc, _, none⟩) hblc).trans (by simpa using e4)
      clear e4 q4
      clear hcc
      cases hI : insF y0 y1 y2 y3 y4 z3.length z5.length with
      | false =>
        obtain ⟨e1, e2⟩ := htV_none (ht_bad (slots := z3.length) HX.out hI)
        have EE := Lib.hid (And.intro e1 e2)
        clear e1 e2
        go_wp2_with (go_at_call 67; refine (HI y0 y1 y2 y3 y4 z3.length z5.length _ ok3 ok4).mono ?_; rw [hI]; rintro e w2 ⟨rfl, hb2⟩; have HB2 := Lib.hid hb2)
        go_ret2
        exact HE.out _ [] false EE.out.1 EE.out.2 none 0 (World.ownsRow_nil _ _ _ _) ((hb.alloc (by omega) _).trans (HB2.out.mono (by simp; omega)))
      | true =>
        have HTI := Lib.hid hI
        clear hI
        have HFS := Lib.hid (fun (W : World) (hbW : Below (wr.alloc (.cells #[.int .i64 y0, .int .i64 y1, .int .i64 y2, .string y3, .string y4] 77)).heap.size (wr.alloc (.cells #[.int .i64 y0, .int .i64 y1, .int .i64 y2, .string y3, .string y4] 77)) W) => (⟨(HT.out.alloc _).keep hbW (Nat.le_refl _), ba.alloc _ |>.below hbW (Nat.le_refl _), bo.alloc _ |>.below hbW (Nat.le_refl _), (hb.alloc (by omega) _).trans (hbW.mono (by simp; omega))⟩ : Tbl W (w.heap.size + 1) (w.heap.size + 1) z5.length (mz k z5.length) ∧ Blk W w.heap.size 51 #[.string z0, .slice A1 z1.length c1, .slice A2 z2.length c2, .slice A3 z3.length c3, .bool z4, .slice (some ⟨bc, offc, none⟩) z5.length c5] ∧ Blk W O 78 #[.slice (some ⟨w.heap.size + 1, 0, none⟩) z5.length z5.length] ∧ Below w.heap.size w W))
        have hml := mz_len k z5.length hk
        go_wp2_with (go_at_call 67; refine (HI y0 y1 y2 y3 y4 z3.length z5.length _ ok3 ok4).mono ?_; rw [HTI.out]; rintro e w2 ⟨rfl, hb2⟩; have F2 := Lib.hid (HFS.out w2 hb2); have b20 := F2.out.2.2.1.cell 0; have b21 := (F2.out.1.at_ k (by omega)).1; have b22 := (F2.out.1.at_ k (by omega)).2; have b23 := (Tbl.lt F2.out.1).2; clear hb2)
        go_roundw
        case rel =>
          obtain ⟨t2, f2, o2, l2⟩ := F2.out
          obtain ⟨t3, g3⟩ := t2.put k (-1)
          rw [mz_succ _ _ hlt] at t3
          refine ⟨k + 1, by omega, by go_num, t3, ?_, f2.grown g3 (by omega), o2.grown g3 (by omega), l2.grown g3 (by have := l2.size; omega) (fun j hj => by have := Option.some.inj hj; omega)⟩
          intro j x hj hx
          by_cases hjk : j < k
          · exact HALL.out j x hjk hx
          · obtain rfl : j = k := by omega
            rw [HX.out] at hx
            injection hx with hx
            subst hx
            exact HTI.out
        case measure => simp [intOf]; omega
    · obtain rfl : k = z5.length := by omega
      clear hlt
      have hml := mz_len z5.length z5.length (Nat.le_refl _)
      obtain ⟨hc0, hf0⟩ := HT.out.at_ 0 (by omega)
      have hc0' := hf0
      obtain ⟨hst, hgr⟩ := HT.out.put 0 0
      rw [mz_full, reps_zero _ hpos] at hst
      have HEQ := Lib.hid (ht_ok (slots := z3.length) hz fun x hx => by
        obtain ⟨j, hj, e⟩ := List.mem_iff_getElem.1 hx
        exact HALL.out j x hj (by rw [List.getElem?_eq_getElem hj, e]))
      have HS0 := Lib.hid hst
      have hgl := (Tbl.lt HT.out).2
      have HB0 := Lib.hid (show Below w.heap.size w (wr.setCell ⟨w.heap.size + 1, 0, none⟩ (.int .i64 0)) from hb.grown hgr (by omega) (fun j hj => by have := Option.some.inj hj; omega))
      have BA0 := Lib.hid (Blk.grown ba hgr (by omega))
      have BO0 := Lib.hid (Blk.grown bo hgr (by omega))
      have HP0 := Lib.hid (PInv.start (c := hC z5) hpos)
      clear hst hgr
      go_wp2_with fail
      clear ba_5 ba_3 bo_0 hc0 hf0 hc0'
      obtain ⟨H, hH⟩ : ∃ H, H = wr.heap.size := ⟨_, rfl⟩
      have hs1 : (wr.setCell ⟨w.heap.size + 1, 0, none⟩ (.int .i64 0)).heap.size = H := by rw [hH]; simp
      have hs2 : ((wr.setCell ⟨w.heap.size + 1, 0, none⟩ (.int .i64 0)).alloc (.cells #[.int .i64 0] 3)).heap.size = H + 1 := by simp [hs1]
      have s0 := Lib.hid (show IS0 w O (H + 1) (w.heap.size + 1) H z5.length 1 z5.length #[.string z0, .slice A1 z1.length c1, .slice A2 z2.length c2, .slice A3 z3.length c3, .bool z4, .slice A5 z5.length c5] (0 :: List.replicate (z5.length - 1) (-1)) [0] (((wr.setCell ⟨w.heap.size + 1, 0, none⟩ (.int .i64 0)).alloc (.cells #[.int .i64 0] 3)).alloc (.cells #[.slice (some ⟨H, 0, none⟩) 1 1] 78)) from
        ⟨(HS0.out.alloc _).alloc _, ownsRow_le (base := H) (by
            have h := World.ownsRow_lit (base := H) (wr.setCell ⟨w.heap.size + 1, 0, none⟩ (.int .i64 0)) #[Value.int .i64 0] (e := 3) (size := 1) 1 (by omega) (by unfold maxLen; omega) rfl
            rw [hs1] at h
            exact h.alloc _) (by omega), (BA0.out.alloc _).alloc _, (BO0.out.alloc _).alloc _, by
            have h := Blk.new ((wr.setCell ⟨w.heap.size + 1, 0, none⟩ (.int .i64 0)).alloc (.cells #[.int .i64 0] 3)) 78 #[.slice (some ⟨H, 0, none⟩) 1 1]
            rw [hs2] at h
            exact h, (HB0.out.alloc (by omega) _).alloc (by omega) _, by simp; omega, by omega, by omega, by omega, by omega, by omega, by omega, by omega, by omega⟩)
      rw [← hH]
      have hHb : w.heap.size < H := by omega
      clear hs1 hs2 hH bal bol hbs hgl HS0 HB0 BA0 BO0 HT ba bo hb hml
      generalize (((wr.setCell ⟨w.heap.size + 1, 0, none⟩ (.int .i64 0)).alloc (.cells #[.int .i64 0] 3)).alloc (.cells #[.slice (some ⟨H, 0, none⟩) 1 1] 78)) = ws at *
      obtain ⟨Wb, hWb⟩ : ∃ Wb, Wb = H + 1 := ⟨_, rfl⟩
      obtain ⟨g, hg⟩ : ∃ g, g = w.heap.size + 1 := ⟨_, rfl⟩
      rw [← hWb, ← hg] at s0
      rw [← hWb]
      have HGG := Lib.hid hg
      clear hWb hg
      go_loopg [9] (2 * nocnt (0 :: List.replicate (z5.length - 1) (-1)) + 1) (fun gk x wr => ∃ (V L : List Int) (gw cw : Nat), gk = 2 * nocnt V + L.length ∧ PInv (hC z5) V ∧ WInv (hC z5) V L ∧ IS0 w O Wb g gw z5.length cw z5.length #[.string z0, .slice A1 z1.length c1, .slice A2 z2.length c2, .slice A3 z3.length c3, .bool z4, .slice A5 z5.length c5] V L wr)
      case atStart => exact ⟨_, [0], H, 1, rfl, HP0.out, WInv.start hpos, s0.out⟩
      case round =>
        clear s0 HP0
        obtain ⟨V, L, gw, cw, hgk, hinv, hwi, hst⟩ := hrel
        have HGK := Lib.hid hgk
        clear hgk
        obtain ⟨n1_, n2_, n3_, n4_, n5_, n6_, n7_, n8_⟩ := hst.ne
        have n3' := Ne.symm n3_
        have n6' := Ne.symm n6_
        have n7' := Ne.symm n7_
        have hbs := hst.bl.size
        have bO := hst.bo.cell 0
        have lO := hst.bo.lt
        have lW := hst.bw.lt
        by_cases hL0 : L = []
        · have hbw : wr.cell? ⟨Wb, 0, none⟩ = some (.slice (some ⟨gw, 0, none⟩) 0 cw) := by
            have h := hst.bw.cell 0
            rw [hL0] at h
            exact h
          obtain ⟨e1, e2⟩ := htV_some (HEQ.out.trans (WInv.good hinv (by rw [← hL0]; exact hwi)))
          have EE := Lib.hid (HE.out wr V true e1 e2 (some ⟨g, 0, none⟩) z5.length (ownsRow_le hst.tb (by omega)) hst.bl)
          rw [hst.hn] at EE
          have HST := Lib.hid hst
          clear e1 e2 hst hinv hwi HEQ HGK
          go_wp2_with fail
          go_ret2
          exact EE.out
        · obtain ⟨L', x, hLx⟩ := last_split L hL0
          subst hLx
          have hxi := hwi.inn x (by simp)
          have hnc : (hC z5).n = z5.length := rfl
          rw [hnc] at hxi
          obtain ⟨m, hm⟩ : ∃ m : Nat, x = (m : Int) := ⟨x.toNat, by omega⟩
          subst hm
          rw [Int.toNat_natCast] at hxi
          obtain ⟨_, hxi1, hxi2⟩ := hxi
          have hmlt : m < z5.length := by omega
          have hVm := getD_some (V := V) (i := m) (by rw [hst.hn]; exact hmlt)
          obtain ⟨h, hh⟩ : ∃ h, h = V.getD m 0 := ⟨_, rfl⟩
          rw [← hh] at hVm hxi2
          have HVM := Lib.hid hVm
          clear hVm hh
          have hh0 : 0 ≤ h := hxi2
          obtain ⟨ln, hln⟩ : ∃ ln, ln = L'.length := ⟨_, rfl⟩
          have hbw : wr.cell? ⟨Wb, 0, none⟩ = some (.slice (some ⟨gw, 0, none⟩) (ln + 1) cw) := by
            have h := hst.bw.cell 0
            rw [List.length_append, List.length_singleton, ← hln] at h
            exact h
          have hfw := hst.bw.frozen 0
          have hbx : wr.cell? ⟨gw, ln, none⟩ = some (.int .i64 m) := by
            have h := (hst.wk.at_ ln (by simp; omega)).1
            rw [hln, List.getD_eq_getElem?_getD, List.getElem?_append_right (Nat.le_refl _)] at h
            simpa [hln] using h
          have hgl := (Tbl.lt hst.tb).2
          have hgwl := (Tbl.lt hst.wk).2
          have hbt : wr.cell? ⟨g, m, none⟩ = some (.int .i64 h) := by
            have h1 := (hst.tb.at_ m (by rw [hst.hn]; exact hmlt)).1
            rw [getD_of HVM.out] at h1
            exact h1
          have hbf : wr.cell? ⟨w.heap.size, 5, none⟩ = some (.slice A5 z5.length c5) := hst.bf.cell 5
          have hWM := Lib.hid hwi.pop
          rw [Int.toNat_natCast] at hWM
          have hfewx := hWM.out.few
          rw [hnc] at hfewx
          have hLn : L'.length ≤ 1000000000 := by omega
          have hln9 : ln + 1 ≤ cw := by
            rcases own_row hst.wk with ⟨hv, _, _⟩ | ⟨g6, cap6, f6, hv, _, h9, _, _, _⟩
            · cases hv
            · injection hv with e1 e2 e3
              subst e3
              rw [List.length_append, List.length_singleton] at h9
              omega
          have hln1 : ln ≤ 1000000000 := by omega
          obtain ⟨y, hx⟩ : ∃ y, z5[m]? = some y := ⟨_, List.getElem?_eq_getElem hmlt⟩
          have hb := hst.bl
          obtain ⟨bc, offc, rfl, hblc, hcc⟩ := RdC.at_ FIns.len HC.out hx
          have HX := Lib.hid hx
          clear hx
          obtain ⟨y0, y1, y2, y3, y4⟩ := y
          rw [FIns.c_eq] at hcc
          obtain ⟨u0, e0, q0⟩ := hcc 0 _ rfl
          obtain rfl := q0.val
          have c_0 : wr.cell? ⟨bc, offc + m * 5, none⟩ = some (.int .i64 y0) := (hb.cell (p := ⟨bc, _, none⟩) hblc).trans (by simpa using e0)
          clear e0 q0
          obtain ⟨u1, e1, q1⟩ := hcc 1 _ rfl
          obtain rfl := q1.val
          have c_1 : wr.cell? ⟨bc, offc + m * 5 + 1, none⟩ = some (.int .i64 y1) := (hb.cell (p := ⟨bc, _, none⟩) hblc).trans (by simpa using e1)
          clear e1 q1
          obtain ⟨u2, e2, q2⟩ := hcc 2 _ rfl
          obtain rfl := q2.val
          have c_2 : wr.cell? ⟨bc, offc + m * 5 + 2, none⟩ = some (.int .i64 y2) := (hb.cell (p := ⟨bc, _, none⟩) hblc).trans (by simpa using e2)
          clear e2 q2
          obtain ⟨u3, e3, q3⟩ := hcc 3 _ rfl
          obtain rfl := q3.val
          have c_3 : wr.cell? ⟨bc, offc + m * 5 + 3, none⟩ = some (.string y3) := (hb.cell (p := ⟨bc, _, none⟩) hblc).trans (by simpa using e3)
          clear e3 q3
          obtain ⟨u4, e4, q4⟩ := hcc 4 _ rfl
          obtain rfl := q4.val
          have c_4 : wr.cell? ⟨bc, offc + m * 5 + 4, none⟩ = some (.string y4) := (hb.cell (p := ⟨bc, _, none⟩) hblc).trans (by simpa using e4)
          clear e4 q4
          clear hcc
          have hbcW : bc ≠ Wb := by omega
          have hbfW : w.heap.size ≠ Wb := by omega
          have HPI := Lib.hid hinv
          have HGK2 : gk = 2 * nocnt V + (ln + 1) := by rw [HGK.out, List.length_append, List.length_singleton, hln]
          have HLN := Lib.hid hln
          have HST := Lib.hid hst
          clear hinv hwi hst HGK hln hfewx
          have s1 := Lib.hid (show IS1 w O Wb wr.heap.size g gw z5.length cw z5.length #[.string z0, .slice A1 z1.length c1, .slice A2 z2.length c2, .slice A3 z3.length c3, .bool z4, .slice (some ⟨bc, offc, none⟩) z5.length c5] #[.int .i64 y0, .int .i64 y1, .int .i64 y2, .string y3, .string y4] V L' ((wr.setCell ⟨Wb, 0, none⟩ (.slice (some ⟨gw, 0, none⟩) ln cw)).alloc (.cells #[.int .i64 y0, .int .i64 y1, .int .i64 y2, .string y3, .string y4] 77)) from by
            have s := HST.out
            have e := HLN.out
            refine ⟨⟨(s.tb.far (p := ⟨Wb, 0, none⟩) n6' _).alloc _, (Tbl.pop s.wk |>.far (p := ⟨Wb, 0, none⟩) n7' _).alloc _, (s.bf.far (p := ⟨Wb, 0, none⟩) hbfW _).alloc _, (s.bo.far (p := ⟨Wb, 0, none⟩) n3_ _).alloc _, ?_, ?_, s.hn, s.ne⟩, ?_, by omega, by omega, by omega, by omega, by omega⟩
            · rw [← e]
              exact (Blk.set_ s.bw 0 (.slice (some ⟨gw, 0, none⟩) ln cw)).alloc _
            · exact (s.bl.trans (⟨rfl, rfl, rfl, by simp [World.setCell], fun k hk => Below.heap_setCell wr ⟨Wb, 0, none⟩ _ k (by show k ≠ Wb; omega)⟩ : Below w.heap.size wr (wr.setCell ⟨Wb, 0, none⟩ (.slice (some ⟨gw, 0, none⟩) ln cw)))).alloc (by simp; omega) _
            · exact Blk.new' _ _ _ _ (by simp only [World.setCell]; first | rfl | simp))
          go_wp2_with fail
          obtain ⟨X, hX⟩ : ∃ X, X = wr.heap.size := ⟨_, rfl⟩
          rw [← hX] at s1 ⊢
          have HXX := Lib.hid hX
          clear hX
          generalize ((wr.setCell ⟨Wb, 0, none⟩ (.slice (some ⟨gw, 0, none⟩) ln cw)).alloc (.cells #[.int .i64 y0, .int .i64 y1, .int .i64 y2, .string y3, .string y4] 77)) = w1 at *
          clear hbw hfw hbx hbt hbf c_0 c_1 c_2 c_3 c_4 bO lO lW HST hb hbs hgl hgwl
          have x0 := s1.out.bx.cell 0
          have x1 := s1.out.bx.cell 1
          have x2 := s1.out.bx.cell 2
          have x3 := s1.out.bx.cell 3
          have x4 := s1.out.bx.cell 4
          by_cases hneed : h < needF y0 y2
          · have dneed : decide (h < needF y0 y2) = true := by simpa using hneed
            refine wp_region_held_drew (S := (fun w_ => w_.cell? ⟨X, 0, none⟩ = some (.int .i64 y0) ∧ w_.cell? ⟨X, 1, none⟩ = some (.int .i64 y1) ∧ w_.cell? ⟨X, 2, none⟩ = some (.int .i64 y2) ∧ w_.cell? ⟨X, 3, none⟩ = some (.string y3) ∧ w_.cell? ⟨X, 4, none⟩ = some (.string y4))) (by kernel_rfl) ?_ (fun hHeld => ?_)
            · (try dsimp only)
              (first | exact ⟨x0, x1, x2, x3, x4⟩ | exact ⟨s2.out.bx.cell 0, s2.out.bx.cell 1, s2.out.bx.cell 2, s2.out.bx.cell 3, s2.out.bx.cell 4⟩)
            refine regTake (i := 0) (v := ?_) rfl (by kernel_rfl) (by kernel_rfl) (by kernel_rfl) (fun _ _ _ h => h) (by rfl) ?_ (by assumption) ?_
            rotate_left
            · intro w_ hSw
              (try dsimp only at hSw)
              go_simp
              (try with_reducible rfl)
            try simp only [Act.put, List.setIfInBounds_toArray, List.set_cons_zero, List.set_cons_succ]
            refine regTake (i := 2) (v := ?_) rfl (by kernel_rfl) (by kernel_rfl) (by kernel_rfl) (fun _ _ _ h => h) (by rfl) ?_ (by assumption) ?_
            rotate_left
            · intro w_ hSw
              (try dsimp only at hSw)
              go_simp
              (try with_reducible rfl)
            try simp only [Act.put, List.setIfInBounds_toArray, List.set_cons_zero, List.set_cons_succ]
            refine regCall (i := 1) (by kernel_rfl) rfl (by rfl) (fun K hK => ?_)
            go_simp
            (go_at_call 69; refine (need_impl _ _ _ _ _ _).mono ?_; rintro e w2 ⟨rfl, hb2⟩; have s2 := Lib.hid (s1.out.drew.below hb2))
            refine hK.out _ _ ?_ (fun hHeld => ?_)
            · (try dsimp only)
              (first | exact ⟨x0, x1, x2, x3, x4⟩ | exact ⟨s2.out.bx.cell 0, s2.out.bx.cell 1, s2.out.bx.cell 2, s2.out.bx.cell 3, s2.out.bx.cell 4⟩)
            clear hK K
            try simp only [Act.put, List.setIfInBounds_toArray, List.set_cons_zero, List.set_cons_succ]
            refine regTake (i := 3) (v := ?_) rfl (by kernel_rfl) (by kernel_rfl) (by kernel_rfl) (fun _ _ _ h => h) (by rfl) ?_ (by assumption) ?_
            rotate_left
            · intro w_ hSw
              (try dsimp only at hSw)
              go_simp
              (try with_reducible rfl)
            try simp only [Act.put, List.setIfInBounds_toArray, List.set_cons_zero, List.set_cons_succ]
            refine regTake (i := 4) (v := ?_) rfl (by kernel_rfl) (by kernel_rfl) (by kernel_rfl) (fun _ _ _ h => h) (by rfl) ?_ (by assumption) ?_
            rotate_left
            · intro w_ hSw
              (try dsimp only at hSw)
              go_simp
              (try with_reducible rfl)
            try simp only [Act.put, List.setIfInBounds_toArray, List.set_cons_zero, List.set_cons_succ]
            refine regSkip (i := 5) rfl (by kernel_rfl) (by kernel_rfl) (by kernel_rfl) (fun _ _ _ h => h) (by rfl) (by assumption) ?_
            try simp only [Act.put, List.setIfInBounds_toArray, List.set_cons_zero, List.set_cons_succ]
            refine regSkip (i := 6) rfl (by kernel_rfl) (by kernel_rfl) (by kernel_rfl) (fun _ _ _ h => h) (by rfl) (by assumption) ?_
            try simp only [Act.put, List.setIfInBounds_toArray, List.set_cons_zero, List.set_cons_succ]
            refine regSkip (i := 7) rfl (by kernel_rfl) (by kernel_rfl) (by kernel_rfl) (fun _ _ _ h => h) (by rfl) (by assumption) ?_
            try simp only [Act.put, List.setIfInBounds_toArray, List.set_cons_zero, List.set_cons_succ]
            refine regSkip (i := 8) rfl (by kernel_rfl) (by kernel_rfl) (by kernel_rfl) (fun _ _ _ h => h) (by rfl) (by assumption) ?_
            try simp only [Act.put, List.setIfInBounds_toArray, List.set_cons_zero, List.set_cons_succ]
            refine regSkip (i := 9) rfl (by kernel_rfl) (by kernel_rfl) (by kernel_rfl) (fun _ _ _ h => h) (by rfl) (by assumption) ?_
            try simp only [Act.put, List.setIfInBounds_toArray, List.set_cons_zero, List.set_cons_succ]
            refine regSkip (i := 10) rfl (by kernel_rfl) (by kernel_rfl) (by kernel_rfl) (fun _ _ _ h => h) (by rfl) (by assumption) ?_
            try simp only [Act.put, List.setIfInBounds_toArray, List.set_cons_zero, List.set_cons_succ]
            refine regSkip (i := 11) rfl (by kernel_rfl) (by kernel_rfl) (by kernel_rfl) (fun _ _ _ h => h) (by rfl) (by assumption) ?_
            try simp only [Act.put, List.setIfInBounds_toArray, List.set_cons_zero, List.set_cons_succ]
            refine regSkip (i := 12) rfl (by kernel_rfl) (by kernel_rfl) (by kernel_rfl) (fun _ _ _ h => h) (by rfl) (by assumption) ?_
            try simp only [Act.put, List.setIfInBounds_toArray, List.set_cons_zero, List.set_cons_succ]
            refine regSkip (i := 13) rfl (by kernel_rfl) (by kernel_rfl) (by kernel_rfl) (fun _ _ _ h => h) (by rfl) (by assumption) ?_
            try simp only [Act.put, List.setIfInBounds_toArray, List.set_cons_zero, List.set_cons_succ]
            refine regSkip (i := 14) rfl (by kernel_rfl) (by kernel_rfl) (by kernel_rfl) (fun _ _ _ h => h) (by rfl) (by assumption) ?_
            try simp only [Act.put, List.setIfInBounds_toArray, List.set_cons_zero, List.set_cons_succ]
            refine regSkip (i := 15) rfl (by kernel_rfl) (by kernel_rfl) (by kernel_rfl) (fun _ _ _ h => h) (by rfl) (by assumption) ?_
            try simp only [Act.put, List.setIfInBounds_toArray, List.set_cons_zero, List.set_cons_succ]
            refine regSkip (i := 16) rfl (by kernel_rfl) (by kernel_rfl) (by kernel_rfl) (fun _ _ _ h => h) (by rfl) (by assumption) ?_
            try simp only [Act.put, List.setIfInBounds_toArray, List.set_cons_zero, List.set_cons_succ]
            refine regSkip (i := 17) rfl (by kernel_rfl) (by kernel_rfl) (by kernel_rfl) (fun _ _ _ h => h) (by rfl) (by assumption) ?_
            try simp only [Act.put, List.setIfInBounds_toArray, List.set_cons_zero, List.set_cons_succ]
            refine regSkip (i := 18) rfl (by kernel_rfl) (by kernel_rfl) (by kernel_rfl) (fun _ _ _ h => h) (by rfl) (by assumption) ?_
            try simp only [Act.put, List.setIfInBounds_toArray, List.set_cons_zero, List.set_cons_succ]
            refine regSkip (i := 19) rfl (by kernel_rfl) (by kernel_rfl) (by kernel_rfl) (fun _ _ _ h => h) (by rfl) (by assumption) ?_
            try simp only [Act.put, List.setIfInBounds_toArray, List.set_cons_zero, List.set_cons_succ]
            refine regTake (i := 20) (v := ?_) rfl (by kernel_rfl) (by kernel_rfl) (by kernel_rfl) (fun _ _ _ h => h) (by rfl) ?_ (by assumption) ?_
            rotate_left
            · intro w_ hSw
              (try dsimp only at hSw)
              go_simp
              (try with_reducible rfl)
            try simp only [Act.put, List.setIfInBounds_toArray, List.set_cons_zero, List.set_cons_succ]
            refine regTake (i := 21) (v := ?_) rfl (by kernel_rfl) (by kernel_rfl) (by kernel_rfl) (fun _ _ _ h => h) (by rfl) ?_ (by assumption) ?_
            rotate_left
            · intro w_ hSw
              (try dsimp only at hSw)
              go_simp
              (try with_reducible rfl)
            try simp only [Act.put, List.setIfInBounds_toArray, List.set_cons_zero, List.set_cons_succ]
            refine regSkip (i := 22) rfl (by kernel_rfl) (by kernel_rfl) (by kernel_rfl) (fun _ _ _ h => h) (by rfl) (by assumption) ?_
            try simp only [Act.put, List.setIfInBounds_toArray, List.set_cons_zero, List.set_cons_succ]
            refine regSkip (i := 23) rfl (by kernel_rfl) (by kernel_rfl) (by kernel_rfl) (fun _ _ _ h => h) (by rfl) (by assumption) ?_
            try simp only [Act.put, List.setIfInBounds_toArray, List.set_cons_zero, List.set_cons_succ]
            refine regSkip (i := 24) rfl (by kernel_rfl) (by kernel_rfl) (by kernel_rfl) (fun _ _ _ h => h) (by rfl) (by assumption) ?_
            try simp only [Act.put, List.setIfInBounds_toArray, List.set_cons_zero, List.set_cons_succ]
            refine regSkip (i := 25) rfl (by kernel_rfl) (by kernel_rfl) (by kernel_rfl) (fun _ _ _ h => h) (by rfl) (by assumption) ?_
            try simp only [Act.put, List.setIfInBounds_toArray, List.set_cons_zero, List.set_cons_succ]
            refine regSkip (i := 26) rfl (by kernel_rfl) (by kernel_rfl) (by kernel_rfl) (fun _ _ _ h => h) (by rfl) (by assumption) ?_
            try simp only [Act.put, List.setIfInBounds_toArray, List.set_cons_zero, List.set_cons_succ]
            refine regSkip (i := 27) rfl (by kernel_rfl) (by kernel_rfl) (by kernel_rfl) (fun _ _ _ h => h) (by rfl) (by assumption) ?_
            try simp only [Act.put, List.setIfInBounds_toArray, List.set_cons_zero, List.set_cons_succ]
            refine regSkip (i := 28) rfl (by kernel_rfl) (by kernel_rfl) (by kernel_rfl) (fun _ _ _ h => h) (by rfl) (by assumption) ?_
            try simp only [Act.put, List.setIfInBounds_toArray, List.set_cons_zero, List.set_cons_succ]
            refine regSkip (i := 29) rfl (by kernel_rfl) (by kernel_rfl) (by kernel_rfl) (fun _ _ _ h => h) (by rfl) (by assumption) ?_
            try simp only [Act.put, List.setIfInBounds_toArray, List.set_cons_zero, List.set_cons_succ]
            refine regSkip (i := 30) rfl (by kernel_rfl) (by kernel_rfl) (by kernel_rfl) (fun _ _ _ h => h) (by rfl) (by assumption) ?_
            try simp only [Act.put, List.setIfInBounds_toArray, List.set_cons_zero, List.set_cons_succ]
            refine regSkip (i := 31) rfl (by kernel_rfl) (by kernel_rfl) (by kernel_rfl) (fun _ _ _ h => h) (by rfl) (by assumption) ?_
            try simp only [Act.put, List.setIfInBounds_toArray, List.set_cons_zero, List.set_cons_succ]
            refine regSkip (i := 32) rfl (by kernel_rfl) (by kernel_rfl) (by kernel_rfl) (fun _ _ _ h => h) (by rfl) (by assumption) ?_
            try simp only [Act.put, List.setIfInBounds_toArray, List.set_cons_zero, List.set_cons_succ]
            refine regSkip (i := 33) rfl (by kernel_rfl) (by kernel_rfl) (by kernel_rfl) (fun _ _ _ h => h) (by rfl) (by assumption) ?_
            try simp only [Act.put, List.setIfInBounds_toArray, List.set_cons_zero, List.set_cons_succ]
            refine regSkip (i := 34) rfl (by kernel_rfl) (by kernel_rfl) (by kernel_rfl) (fun _ _ _ h => h) (by rfl) (by assumption) ?_
            try simp only [Act.put, List.setIfInBounds_toArray, List.set_cons_zero, List.set_cons_succ]
            refine regSkip (i := 35) rfl (by kernel_rfl) (by kernel_rfl) (by kernel_rfl) (fun _ _ _ h => h) (by rfl) (by assumption) ?_
            try simp only [Act.put, List.setIfInBounds_toArray, List.set_cons_zero, List.set_cons_succ]
            refine regSkip (i := 36) rfl (by kernel_rfl) (by kernel_rfl) (by kernel_rfl) (fun _ _ _ h => h) (by rfl) (by assumption) ?_
            try simp only [Act.put, List.setIfInBounds_toArray, List.set_cons_zero, List.set_cons_succ]
            refine regTake (i := 37) (v := ?_) rfl (by kernel_rfl) (by kernel_rfl) (by kernel_rfl) (fun _ _ _ h => h) (by rfl) ?_ (by assumption) ?_
            rotate_left
            · intro w_ hSw
              (try dsimp only at hSw)
              go_simp
              (try with_reducible rfl)
            try simp only [Act.put, List.setIfInBounds_toArray, List.set_cons_zero, List.set_cons_succ]
            refine wpAnyH_done (by kernel_rfl) ?_ _
            obtain ⟨e1, e2⟩ := htV_none (HEQ.out.trans (need_none HPI.out HVM.out hh0 (by rw [hC_need HX.out]; exact hneed)))
            have EE := Lib.hid (And.intro e1 e2)
            clear e1 e2
            go_wp2_with fail
            go_ret2
            exact HE.out _ [] false EE.out.1 EE.out.2 none 0 (World.ownsRow_nil _ _ _ _) s2.out.st.bl
          have dneed : decide (h < needF y0 y2) = false := by simpa using hneed
          have hnd : needF y0 y2 ≤ h := by omega
          have hrch := Lib.hid (HPI.out.rch m h HVM.out hh0)
          obtain ⟨n1, hn1⟩ : ∃ n1, n1 = wrap64 (h + changeF y0 y2) := ⟨_, rfl⟩
          obtain ⟨n2, hn2⟩ : ∃ n2, n2 = wrap64 (h + tcF y0) := ⟨_, rfl⟩
          have HW1 := Lib.hid (show IntKind.i64.wrap (h + changeF y0 y2) = n1 from (wrap_eq _).trans hn1.symm)
          have HW2 := Lib.hid (show IntKind.i64.wrap (h + tcF y0) = n2 from (wrap_eq _).trans hn2.symm)
          have HWK := Lib.hid (show IntKind.i64.wrap ((m : Int) + 1) = (m : Int) + 1 from IntWalk.i64_in _ (by omega))
          have HWC := Lib.hid (show ((m : Int) + 1) = ((m + 1 : Nat) : Int) by omega)
          have hm9 : m + 1 ≤ 1000000000 := by omega
          have hm0 : (0 : Int) ≤ (m : Int) + 1 := by omega
          have HN1 := Lib.hid hn1
          have HN2 := Lib.hid hn2
          clear hn1 hn2
          have hml := hmlt
          have hgm : gk = 2 * nocnt V + (L'.length + 1) := by rw [HGK2, HLN.out]
          cases hif : ifF y0 with
          | true =>
            have GI1 := Lib.hid (show GvI (hC z5) m V L' V L' (!ifF y0) ((m : Int) + 1) n1 from by rw [hif]; exact GvI.skip HPI.out hWM.out)
            obtain ⟨V1, L1, hVL1⟩ : ∃ V1 L1, V1 = V ∧ L1 = L' := ⟨_, _, rfl, rfl⟩
            obtain ⟨hV1, hL1⟩ := hVL1
            subst hV1 hL1
            have hLn1 : L1.length ≤ 1000000000 := by have := GI1.out.2.2.2.1.few; have e : (hC z5).n = z5.length := rfl; omega
            have hVk1 := Lib.hid (GI1.out.2.1.2 m h HVM.out hh0)
            have hrch1 := Lib.hid (GI1.out.1.rch m h hVk1.out hh0)
            cases hif2 : htF y0 with
            | false =>
              have WD := Lib.hid (work_done (V2 := V1) (L2 := L1) HX.out HVM.out hh0 hnd (by rw [← HN1.out]; exact GI1.out) (by show GvI _ _ _ _ _ _ (htF y0) _ _; rw [hif2]; exact GvI.skip GI1.out.1 GI1.out.2.2.2.1))
              have hw1 := HW1.out
              have hwk := HWK.out
              refine wp_region_held_drew (S := (fun w_ => w_.cell? ⟨X, 0, none⟩ = some (.int .i64 y0) ∧ w_.cell? ⟨X, 1, none⟩ = some (.int .i64 y1) ∧ w_.cell? ⟨X, 2, none⟩ = some (.int .i64 y2) ∧ w_.cell? ⟨X, 3, none⟩ = some (.string y3) ∧ w_.cell? ⟨X, 4, none⟩ = some (.string y4))) (by kernel_rfl) ?_ (fun hHeld => ?_)
              · (try dsimp only)
                (first | exact ⟨x0, x1, x2, x3, x4⟩ | exact ⟨s2.out.bx.cell 0, s2.out.bx.cell 1, s2.out.bx.cell 2, s2.out.bx.cell 3, s2.out.bx.cell 4⟩)
              refine regTake (i := 0) (v := ?_) rfl (by kernel_rfl) (by kernel_rfl) (by kernel_rfl) (fun _ _ _ h => h) (by rfl) ?_ (by assumption) ?_
              rotate_left
              · intro w_ hSw
                (try dsimp only at hSw)
                go_simp
                (try with_reducible rfl)
              try simp only [Act.put, List.setIfInBounds_toArray, List.set_cons_zero, List.set_cons_succ]
              refine regTake (i := 2) (v := ?_) rfl (by kernel_rfl) (by kernel_rfl) (by kernel_rfl) (fun _ _ _ h => h) (by rfl) ?_ (by assumption) ?_
              rotate_left
              · intro w_ hSw
                (try dsimp only at hSw)
                go_simp
                (try with_reducible rfl)
              try simp only [Act.put, List.setIfInBounds_toArray, List.set_cons_zero, List.set_cons_succ]
              refine regCall (i := 1) (by kernel_rfl) rfl (by rfl) (fun K hK => ?_)
              go_simp
              (go_at_call 69; refine (need_impl _ _ _ _ _ _).mono ?_; rintro e w2 ⟨rfl, hb2⟩; have s2 := Lib.hid (s1.out.drew.below hb2))
              refine hK.out _ _ ?_ (fun hHeld => ?_)
              · (try dsimp only)
                (first | exact ⟨x0, x1, x2, x3, x4⟩ | exact ⟨s2.out.bx.cell 0, s2.out.bx.cell 1, s2.out.bx.cell 2, s2.out.bx.cell 3, s2.out.bx.cell 4⟩)
              clear hK K
              try simp only [Act.put, List.setIfInBounds_toArray, List.set_cons_zero, List.set_cons_succ]
              refine regTake (i := 3) (v := ?_) rfl (by kernel_rfl) (by kernel_rfl) (by kernel_rfl) (fun _ _ _ h => h) (by rfl) ?_ (by assumption) ?_
              rotate_left
              · intro w_ hSw
                (try dsimp only at hSw)
                go_simp
                (try with_reducible rfl)
              try simp only [Act.put, List.setIfInBounds_toArray, List.set_cons_zero, List.set_cons_succ]
              refine regTake (i := 4) (v := ?_) rfl (by kernel_rfl) (by kernel_rfl) (by kernel_rfl) (fun _ _ _ h => h) (by rfl) ?_ (by assumption) ?_
              rotate_left
              · intro w_ hSw
                (try dsimp only at hSw)
                go_simp
                (try with_reducible rfl)
              try simp only [Act.put, List.setIfInBounds_toArray, List.set_cons_zero, List.set_cons_succ]
              refine regTake (i := 5) (v := ?_) rfl (by kernel_rfl) (by kernel_rfl) (by kernel_rfl) (fun _ _ _ h => h) (by rfl) ?_ (by assumption) ?_
              rotate_left
              · intro w_ hSw
                (try dsimp only at hSw)
                go_simp
                (try with_reducible rfl)
              try simp only [Act.put, List.setIfInBounds_toArray, List.set_cons_zero, List.set_cons_succ]
              refine regTake (i := 6) (v := ?_) rfl (by kernel_rfl) (by kernel_rfl) (by kernel_rfl) (fun _ _ _ h => h) (by rfl) ?_ (by assumption) ?_
              rotate_left
              · intro w_ hSw
                (try dsimp only at hSw)
                go_simp
                (try with_reducible rfl)
              try simp only [Act.put, List.setIfInBounds_toArray, List.set_cons_zero, List.set_cons_succ]
              refine regCall (i := 7) (by kernel_rfl) rfl (by rfl) (fun K hK => ?_)
              go_simp
              (go_at_call 70; refine (if_impl _ _).mono ?_; rintro e w' ⟨rfl, rfl⟩)
              refine hK.out _ _ ?_ (fun hHeld => ?_)
              · (try dsimp only)
                (first | exact ⟨x0, x1, x2, x3, x4⟩ | exact ⟨s2.out.bx.cell 0, s2.out.bx.cell 1, s2.out.bx.cell 2, s2.out.bx.cell 3, s2.out.bx.cell 4⟩)
              clear hK K
              try simp only [Act.put, List.setIfInBounds_toArray, List.set_cons_zero, List.set_cons_succ]
              refine regTake (i := 8) (v := ?_) rfl (by kernel_rfl) (by kernel_rfl) (by kernel_rfl) (fun _ _ _ h => h) (by rfl) ?_ (by assumption) ?_
              rotate_left
              · intro w_ hSw
                (try dsimp only at hSw)
                go_simp
                (try with_reducible rfl)
              try simp only [Act.put, List.setIfInBounds_toArray, List.set_cons_zero, List.set_cons_succ]
              refine regTake (i := 9) (v := ?_) rfl (by kernel_rfl) (by kernel_rfl) (by kernel_rfl) (fun _ _ _ h => h) (by rfl) ?_ (by assumption) ?_
              rotate_left
              · intro w_ hSw
                (try dsimp only at hSw)
                go_simp
                (try with_reducible rfl)
              try simp only [Act.put, List.setIfInBounds_toArray, List.set_cons_zero, List.set_cons_succ]
              refine regSkip (i := 10) rfl (by kernel_rfl) (by kernel_rfl) (by kernel_rfl) (fun _ _ _ h => h) (by rfl) (by assumption) ?_
              try simp only [Act.put, List.setIfInBounds_toArray, List.set_cons_zero, List.set_cons_succ]
              refine regSkip (i := 11) rfl (by kernel_rfl) (by kernel_rfl) (by kernel_rfl) (fun _ _ _ h => h) (by rfl) (by assumption) ?_
              try simp only [Act.put, List.setIfInBounds_toArray, List.set_cons_zero, List.set_cons_succ]
              refine regSkip (i := 12) rfl (by kernel_rfl) (by kernel_rfl) (by kernel_rfl) (fun _ _ _ h => h) (by rfl) (by assumption) ?_
              try simp only [Act.put, List.setIfInBounds_toArray, List.set_cons_zero, List.set_cons_succ]
              refine regSkip (i := 13) rfl (by kernel_rfl) (by kernel_rfl) (by kernel_rfl) (fun _ _ _ h => h) (by rfl) (by assumption) ?_
              try simp only [Act.put, List.setIfInBounds_toArray, List.set_cons_zero, List.set_cons_succ]
              refine regSkip (i := 14) rfl (by kernel_rfl) (by kernel_rfl) (by kernel_rfl) (fun _ _ _ h => h) (by rfl) (by assumption) ?_
              try simp only [Act.put, List.setIfInBounds_toArray, List.set_cons_zero, List.set_cons_succ]
              refine regSkip (i := 15) rfl (by kernel_rfl) (by kernel_rfl) (by kernel_rfl) (fun _ _ _ h => h) (by rfl) (by assumption) ?_
              try simp only [Act.put, List.setIfInBounds_toArray, List.set_cons_zero, List.set_cons_succ]
              refine regSkip (i := 16) rfl (by kernel_rfl) (by kernel_rfl) (by kernel_rfl) (fun _ _ _ h => h) (by rfl) (by assumption) ?_
              try simp only [Act.put, List.setIfInBounds_toArray, List.set_cons_zero, List.set_cons_succ]
              refine regSkip (i := 17) rfl (by kernel_rfl) (by kernel_rfl) (by kernel_rfl) (fun _ _ _ h => h) (by rfl) (by assumption) ?_
              try simp only [Act.put, List.setIfInBounds_toArray, List.set_cons_zero, List.set_cons_succ]
              refine regSkip (i := 18) rfl (by kernel_rfl) (by kernel_rfl) (by kernel_rfl) (fun _ _ _ h => h) (by rfl) (by assumption) ?_
              try simp only [Act.put, List.setIfInBounds_toArray, List.set_cons_zero, List.set_cons_succ]
              refine regTake (i := 19) (v := ?_) rfl (by kernel_rfl) (by kernel_rfl) (by kernel_rfl) (fun _ _ _ h => h) (by rfl) ?_ (by assumption) ?_
              rotate_left
              · intro w_ hSw
                (try dsimp only at hSw)
                go_simp
                (try with_reducible rfl)
              try simp only [Act.put, List.setIfInBounds_toArray, List.set_cons_zero, List.set_cons_succ]
              refine regTake (i := 20) (v := ?_) rfl (by kernel_rfl) (by kernel_rfl) (by kernel_rfl) (fun _ _ _ h => h) (by rfl) ?_ (by assumption) ?_
              rotate_left
              · intro w_ hSw
                (try dsimp only at hSw)
                go_simp
                (try with_reducible rfl)
              try simp only [Act.put, List.setIfInBounds_toArray, List.set_cons_zero, List.set_cons_succ]
              refine regTake (i := 21) (v := ?_) rfl (by kernel_rfl) (by kernel_rfl) (by kernel_rfl) (fun _ _ _ h => h) (by rfl) ?_ (by assumption) ?_
              rotate_left
              · intro w_ hSw
                (try dsimp only at hSw)
                go_simp
                (try with_reducible rfl)
              try simp only [Act.put, List.setIfInBounds_toArray, List.set_cons_zero, List.set_cons_succ]
              refine regTake (i := 22) (v := ?_) rfl (by kernel_rfl) (by kernel_rfl) (by kernel_rfl) (fun _ _ _ h => h) (by rfl) ?_ (by assumption) ?_
              rotate_left
              · intro w_ hSw
                (try dsimp only at hSw)
                go_simp
                (try with_reducible rfl)
              try simp only [Act.put, List.setIfInBounds_toArray, List.set_cons_zero, List.set_cons_succ]
              refine regTake (i := 23) (v := ?_) rfl (by kernel_rfl) (by kernel_rfl) (by kernel_rfl) (fun _ _ _ h => h) (by rfl) ?_ (by assumption) ?_
              rotate_left
              · intro w_ hSw
                (try dsimp only at hSw)
                go_simp
                (try with_reducible rfl)
              try simp only [Act.put, List.setIfInBounds_toArray, List.set_cons_zero, List.set_cons_succ]
              refine regCall (i := 24) (by kernel_rfl) rfl (by rfl) (fun K hK => ?_)
              go_simp
              (go_at_call 72; refine (ht_impl _ _).mono ?_; rintro e w' ⟨rfl, rfl⟩)
              refine hK.out _ _ ?_ (fun hHeld => ?_)
              · (try dsimp only)
                (first | exact ⟨x0, x1, x2, x3, x4⟩ | exact ⟨s2.out.bx.cell 0, s2.out.bx.cell 1, s2.out.bx.cell 2, s2.out.bx.cell 3, s2.out.bx.cell 4⟩)
              clear hK K
              try simp only [Act.put, List.setIfInBounds_toArray, List.set_cons_zero, List.set_cons_succ]
              refine regTake (i := 25) (v := ?_) rfl (by kernel_rfl) (by kernel_rfl) (by kernel_rfl) (fun _ _ _ h => h) (by rfl) ?_ (by assumption) ?_
              rotate_left
              · intro w_ hSw
                (try dsimp only at hSw)
                go_simp
                (try with_reducible rfl)
              try simp only [Act.put, List.setIfInBounds_toArray, List.set_cons_zero, List.set_cons_succ]
              refine regSkip (i := 26) rfl (by kernel_rfl) (by kernel_rfl) (by kernel_rfl) (fun _ _ _ h => h) (by rfl) (by assumption) ?_
              try simp only [Act.put, List.setIfInBounds_toArray, List.set_cons_zero, List.set_cons_succ]
              refine regSkip (i := 27) rfl (by kernel_rfl) (by kernel_rfl) (by kernel_rfl) (fun _ _ _ h => h) (by rfl) (by assumption) ?_
              try simp only [Act.put, List.setIfInBounds_toArray, List.set_cons_zero, List.set_cons_succ]
              refine regSkip (i := 28) rfl (by kernel_rfl) (by kernel_rfl) (by kernel_rfl) (fun _ _ _ h => h) (by rfl) (by assumption) ?_
              try simp only [Act.put, List.setIfInBounds_toArray, List.set_cons_zero, List.set_cons_succ]
              refine regSkip (i := 29) rfl (by kernel_rfl) (by kernel_rfl) (by kernel_rfl) (fun _ _ _ h => h) (by rfl) (by assumption) ?_
              try simp only [Act.put, List.setIfInBounds_toArray, List.set_cons_zero, List.set_cons_succ]
              refine regSkip (i := 30) rfl (by kernel_rfl) (by kernel_rfl) (by kernel_rfl) (fun _ _ _ h => h) (by rfl) (by assumption) ?_
              try simp only [Act.put, List.setIfInBounds_toArray, List.set_cons_zero, List.set_cons_succ]
              refine regSkip (i := 31) rfl (by kernel_rfl) (by kernel_rfl) (by kernel_rfl) (fun _ _ _ h => h) (by rfl) (by assumption) ?_
              try simp only [Act.put, List.setIfInBounds_toArray, List.set_cons_zero, List.set_cons_succ]
              refine regSkip (i := 32) rfl (by kernel_rfl) (by kernel_rfl) (by kernel_rfl) (fun _ _ _ h => h) (by rfl) (by assumption) ?_
              try simp only [Act.put, List.setIfInBounds_toArray, List.set_cons_zero, List.set_cons_succ]
              refine regSkip (i := 33) rfl (by kernel_rfl) (by kernel_rfl) (by kernel_rfl) (fun _ _ _ h => h) (by rfl) (by assumption) ?_
              try simp only [Act.put, List.setIfInBounds_toArray, List.set_cons_zero, List.set_cons_succ]
              refine regSkip (i := 34) rfl (by kernel_rfl) (by kernel_rfl) (by kernel_rfl) (fun _ _ _ h => h) (by rfl) (by assumption) ?_
              try simp only [Act.put, List.setIfInBounds_toArray, List.set_cons_zero, List.set_cons_succ]
              refine regSkip (i := 35) rfl (by kernel_rfl) (by kernel_rfl) (by kernel_rfl) (fun _ _ _ h => h) (by rfl) (by assumption) ?_
              try simp only [Act.put, List.setIfInBounds_toArray, List.set_cons_zero, List.set_cons_succ]
              refine regTake (i := 36) (v := ?_) rfl (by kernel_rfl) (by kernel_rfl) (by kernel_rfl) (fun _ _ _ h => h) (by rfl) ?_ (by assumption) ?_
              rotate_left
              · intro w_ hSw
                (try dsimp only at hSw)
                go_simp
                (try with_reducible rfl)
              try simp only [Act.put, List.setIfInBounds_toArray, List.set_cons_zero, List.set_cons_succ]
              refine regTake (i := 37) (v := ?_) rfl (by kernel_rfl) (by kernel_rfl) (by kernel_rfl) (fun _ _ _ h => h) (by rfl) ?_ (by assumption) ?_
              rotate_left
              · intro w_ hSw
                (try dsimp only at hSw)
                go_simp
                (try with_reducible rfl)
              try simp only [Act.put, List.setIfInBounds_toArray, List.set_cons_zero, List.set_cons_succ]
              refine wpAnyH_done (by kernel_rfl) ?_ _
              go_wp2_with fail
              clear hw1 hwk
              go_roundg (2 * nocnt V1 + L1.length)
              case measure => have := WD.out.2.2; omega
              case rel => exact ⟨V1, L1, _, _, rfl, WD.out.1, WD.out.2.1, s2.out.st⟩
            | true =>
              have HIF2 := Lib.hid hif2
              have hy1 : 0 ≤ y1 ∧ y1 < (z5.length : Int) := insF_tgt (HALL.out m _ hml HX.out) hif2
              obtain ⟨m1, hm1⟩ : ∃ m1 : Nat, y1 = (m1 : Int) := ⟨y1.toNat, by omega⟩
              have HM1 := Lib.hid hm1
              have hm19 : m1 ≤ 1000000000 := by omega
              have hy0 : 0 ≤ y1 := hy1.1
              clear hm1 hy1
              have hmem2 := Lib.hid (nx_two (h := h) HX.out HIF2.out)
              rw [← HN2.out] at hmem2
              cases hgu : giveF V1 y1 n2 with
              | none =>
                have HGU := Lib.hid hgu
                clear hgu
                have hw1 := HW1.out
                have hwk := HWK.out
                have hw2 := HW2.out
                refine wp_region_held_drew (S := (fun w_ => w_.cell? ⟨X, 0, none⟩ = some (.int .i64 y0) ∧ w_.cell? ⟨X, 1, none⟩ = some (.int .i64 y1) ∧ w_.cell? ⟨X, 2, none⟩ = some (.int .i64 y2) ∧ w_.cell? ⟨X, 3, none⟩ = some (.string y3) ∧ w_.cell? ⟨X, 4, none⟩ = some (.string y4))) (by kernel_rfl) ?_ (fun hHeld => ?_)
                · (try dsimp only)
                  (first | exact ⟨x0, x1, x2, x3, x4⟩ | exact ⟨s2.out.bx.cell 0, s2.out.bx.cell 1, s2.out.bx.cell 2, s2.out.bx.cell 3, s2.out.bx.cell 4⟩)
                refine regTake (i := 0) (v := ?_) rfl (by kernel_rfl) (by kernel_rfl) (by kernel_rfl) (fun _ _ _ h => h) (by rfl) ?_ (by assumption) ?_
                rotate_left
                · intro w_ hSw
                  (try dsimp only at hSw)
                  go_simp
                  (try with_reducible rfl)
                try simp only [Act.put, List.setIfInBounds_toArray, List.set_cons_zero, List.set_cons_succ]
                refine regTake (i := 2) (v := ?_) rfl (by kernel_rfl) (by kernel_rfl) (by kernel_rfl) (fun _ _ _ h => h) (by rfl) ?_ (by assumption) ?_
                rotate_left
                · intro w_ hSw
                  (try dsimp only at hSw)
                  go_simp
                  (try with_reducible rfl)
                try simp only [Act.put, List.setIfInBounds_toArray, List.set_cons_zero, List.set_cons_succ]
                refine regCall (i := 1) (by kernel_rfl) rfl (by rfl) (fun K hK => ?_)
                go_simp
                (go_at_call 69; refine (need_impl _ _ _ _ _ _).mono ?_; rintro e w2 ⟨rfl, hb2⟩; have s2 := Lib.hid (s1.out.drew.below hb2))
                refine hK.out _ _ ?_ (fun hHeld => ?_)
                · (try dsimp only)
                  (first | exact ⟨x0, x1, x2, x3, x4⟩ | exact ⟨s2.out.bx.cell 0, s2.out.bx.cell 1, s2.out.bx.cell 2, s2.out.bx.cell 3, s2.out.bx.cell 4⟩)
                clear hK K
                try simp only [Act.put, List.setIfInBounds_toArray, List.set_cons_zero, List.set_cons_succ]
                refine regTake (i := 3) (v := ?_) rfl (by kernel_rfl) (by kernel_rfl) (by kernel_rfl) (fun _ _ _ h => h) (by rfl) ?_ (by assumption) ?_
                rotate_left
                · intro w_ hSw
                  (try dsimp only at hSw)
                  go_simp
                  (try with_reducible rfl)
                try simp only [Act.put, List.setIfInBounds_toArray, List.set_cons_zero, List.set_cons_succ]
                refine regTake (i := 4) (v := ?_) rfl (by kernel_rfl) (by kernel_rfl) (by kernel_rfl) (fun _ _ _ h => h) (by rfl) ?_ (by assumption) ?_
                rotate_left
                · intro w_ hSw
                  (try dsimp only at hSw)
                  go_simp
                  (try with_reducible rfl)
                try simp only [Act.put, List.setIfInBounds_toArray, List.set_cons_zero, List.set_cons_succ]
                refine regTake (i := 5) (v := ?_) rfl (by kernel_rfl) (by kernel_rfl) (by kernel_rfl) (fun _ _ _ h => h) (by rfl) ?_ (by assumption) ?_
                rotate_left
                · intro w_ hSw
                  (try dsimp only at hSw)
                  go_simp
                  (try with_reducible rfl)
                try simp only [Act.put, List.setIfInBounds_toArray, List.set_cons_zero, List.set_cons_succ]
                refine regTake (i := 6) (v := ?_) rfl (by kernel_rfl) (by kernel_rfl) (by kernel_rfl) (fun _ _ _ h => h) (by rfl) ?_ (by assumption) ?_
                rotate_left
                · intro w_ hSw
                  (try dsimp only at hSw)
                  go_simp
                  (try with_reducible rfl)
                try simp only [Act.put, List.setIfInBounds_toArray, List.set_cons_zero, List.set_cons_succ]
                refine regCall (i := 7) (by kernel_rfl) rfl (by rfl) (fun K hK => ?_)
                go_simp
                (go_at_call 70; refine (if_impl _ _).mono ?_; rintro e w' ⟨rfl, rfl⟩)
                refine hK.out _ _ ?_ (fun hHeld => ?_)
                · (try dsimp only)
                  (first | exact ⟨x0, x1, x2, x3, x4⟩ | exact ⟨s2.out.bx.cell 0, s2.out.bx.cell 1, s2.out.bx.cell 2, s2.out.bx.cell 3, s2.out.bx.cell 4⟩)
                clear hK K
                try simp only [Act.put, List.setIfInBounds_toArray, List.set_cons_zero, List.set_cons_succ]
                refine regTake (i := 8) (v := ?_) rfl (by kernel_rfl) (by kernel_rfl) (by kernel_rfl) (fun _ _ _ h => h) (by rfl) ?_ (by assumption) ?_
                rotate_left
                · intro w_ hSw
                  (try dsimp only at hSw)
                  go_simp
                  (try with_reducible rfl)
                try simp only [Act.put, List.setIfInBounds_toArray, List.set_cons_zero, List.set_cons_succ]
                refine regTake (i := 9) (v := ?_) rfl (by kernel_rfl) (by kernel_rfl) (by kernel_rfl) (fun _ _ _ h => h) (by rfl) ?_ (by assumption) ?_
                rotate_left
                · intro w_ hSw
                  (try dsimp only at hSw)
                  go_simp
                  (try with_reducible rfl)
                try simp only [Act.put, List.setIfInBounds_toArray, List.set_cons_zero, List.set_cons_succ]
                refine regSkip (i := 10) rfl (by kernel_rfl) (by kernel_rfl) (by kernel_rfl) (fun _ _ _ h => h) (by rfl) (by assumption) ?_
                try simp only [Act.put, List.setIfInBounds_toArray, List.set_cons_zero, List.set_cons_succ]
                refine regSkip (i := 11) rfl (by kernel_rfl) (by kernel_rfl) (by kernel_rfl) (fun _ _ _ h => h) (by rfl) (by assumption) ?_
                try simp only [Act.put, List.setIfInBounds_toArray, List.set_cons_zero, List.set_cons_succ]
                refine regSkip (i := 12) rfl (by kernel_rfl) (by kernel_rfl) (by kernel_rfl) (fun _ _ _ h => h) (by rfl) (by assumption) ?_
                try simp only [Act.put, List.setIfInBounds_toArray, List.set_cons_zero, List.set_cons_succ]
                refine regSkip (i := 13) rfl (by kernel_rfl) (by kernel_rfl) (by kernel_rfl) (fun _ _ _ h => h) (by rfl) (by assumption) ?_
                try simp only [Act.put, List.setIfInBounds_toArray, List.set_cons_zero, List.set_cons_succ]
                refine regSkip (i := 14) rfl (by kernel_rfl) (by kernel_rfl) (by kernel_rfl) (fun _ _ _ h => h) (by rfl) (by assumption) ?_
                try simp only [Act.put, List.setIfInBounds_toArray, List.set_cons_zero, List.set_cons_succ]
                refine regSkip (i := 15) rfl (by kernel_rfl) (by kernel_rfl) (by kernel_rfl) (fun _ _ _ h => h) (by rfl) (by assumption) ?_
                try simp only [Act.put, List.setIfInBounds_toArray, List.set_cons_zero, List.set_cons_succ]
                refine regSkip (i := 16) rfl (by kernel_rfl) (by kernel_rfl) (by kernel_rfl) (fun _ _ _ h => h) (by rfl) (by assumption) ?_
                try simp only [Act.put, List.setIfInBounds_toArray, List.set_cons_zero, List.set_cons_succ]
                refine regSkip (i := 17) rfl (by kernel_rfl) (by kernel_rfl) (by kernel_rfl) (fun _ _ _ h => h) (by rfl) (by assumption) ?_
                try simp only [Act.put, List.setIfInBounds_toArray, List.set_cons_zero, List.set_cons_succ]
                refine regSkip (i := 18) rfl (by kernel_rfl) (by kernel_rfl) (by kernel_rfl) (fun _ _ _ h => h) (by rfl) (by assumption) ?_
                try simp only [Act.put, List.setIfInBounds_toArray, List.set_cons_zero, List.set_cons_succ]
                refine regTake (i := 19) (v := ?_) rfl (by kernel_rfl) (by kernel_rfl) (by kernel_rfl) (fun _ _ _ h => h) (by rfl) ?_ (by assumption) ?_
                rotate_left
                · intro w_ hSw
                  (try dsimp only at hSw)
                  go_simp
                  (try with_reducible rfl)
                try simp only [Act.put, List.setIfInBounds_toArray, List.set_cons_zero, List.set_cons_succ]
                refine regTake (i := 20) (v := ?_) rfl (by kernel_rfl) (by kernel_rfl) (by kernel_rfl) (fun _ _ _ h => h) (by rfl) ?_ (by assumption) ?_
                rotate_left
                · intro w_ hSw
                  (try dsimp only at hSw)
                  go_simp
                  (try with_reducible rfl)
                try simp only [Act.put, List.setIfInBounds_toArray, List.set_cons_zero, List.set_cons_succ]
                refine regTake (i := 21) (v := ?_) rfl (by kernel_rfl) (by kernel_rfl) (by kernel_rfl) (fun _ _ _ h => h) (by rfl) ?_ (by assumption) ?_
                rotate_left
                · intro w_ hSw
                  (try dsimp only at hSw)
                  go_simp
                  (try with_reducible rfl)
                try simp only [Act.put, List.setIfInBounds_toArray, List.set_cons_zero, List.set_cons_succ]
                refine regTake (i := 22) (v := ?_) rfl (by kernel_rfl) (by kernel_rfl) (by kernel_rfl) (fun _ _ _ h => h) (by rfl) ?_ (by assumption) ?_
                rotate_left
                · intro w_ hSw
                  (try dsimp only at hSw)
                  go_simp
                  (try with_reducible rfl)
                try simp only [Act.put, List.setIfInBounds_toArray, List.set_cons_zero, List.set_cons_succ]
                refine regTake (i := 23) (v := ?_) rfl (by kernel_rfl) (by kernel_rfl) (by kernel_rfl) (fun _ _ _ h => h) (by rfl) ?_ (by assumption) ?_
                rotate_left
                · intro w_ hSw
                  (try dsimp only at hSw)
                  go_simp
                  (try with_reducible rfl)
                try simp only [Act.put, List.setIfInBounds_toArray, List.set_cons_zero, List.set_cons_succ]
                refine regCall (i := 24) (by kernel_rfl) rfl (by rfl) (fun K hK => ?_)
                go_simp
                (go_at_call 72; refine (ht_impl _ _).mono ?_; rintro e w' ⟨rfl, rfl⟩)
                refine hK.out _ _ ?_ (fun hHeld => ?_)
                · (try dsimp only)
                  (first | exact ⟨x0, x1, x2, x3, x4⟩ | exact ⟨s2.out.bx.cell 0, s2.out.bx.cell 1, s2.out.bx.cell 2, s2.out.bx.cell 3, s2.out.bx.cell 4⟩)
                clear hK K
                try simp only [Act.put, List.setIfInBounds_toArray, List.set_cons_zero, List.set_cons_succ]
                refine regTake (i := 25) (v := ?_) rfl (by kernel_rfl) (by kernel_rfl) (by kernel_rfl) (fun _ _ _ h => h) (by rfl) ?_ (by assumption) ?_
                rotate_left
                · intro w_ hSw
                  (try dsimp only at hSw)
                  go_simp
                  (try with_reducible rfl)
                try simp only [Act.put, List.setIfInBounds_toArray, List.set_cons_zero, List.set_cons_succ]
                refine regTake (i := 26) (v := ?_) rfl (by kernel_rfl) (by kernel_rfl) (by kernel_rfl) (fun _ _ _ h => h) (by rfl) ?_ (by assumption) ?_
                rotate_left
                · intro w_ hSw
                  (try dsimp only at hSw)
                  go_simp
                  (try with_reducible rfl)
                try simp only [Act.put, List.setIfInBounds_toArray, List.set_cons_zero, List.set_cons_succ]
                refine regTake (i := 27) (v := ?_) rfl (by kernel_rfl) (by kernel_rfl) (by kernel_rfl) (fun _ _ _ h => h) (by rfl) ?_ (by assumption) ?_
                rotate_left
                · intro w_ hSw
                  (try dsimp only at hSw)
                  go_simp
                  (try with_reducible rfl)
                try simp only [Act.put, List.setIfInBounds_toArray, List.set_cons_zero, List.set_cons_succ]
                refine regTake (i := 28) (v := ?_) rfl (by kernel_rfl) (by kernel_rfl) (by kernel_rfl) (fun _ _ _ h => h) (by rfl) ?_ (by assumption) ?_
                rotate_left
                · intro w_ hSw
                  (try dsimp only at hSw)
                  go_simp
                  (try with_reducible rfl)
                try simp only [Act.put, List.setIfInBounds_toArray, List.set_cons_zero, List.set_cons_succ]
                refine regTake (i := 29) (v := ?_) rfl (by kernel_rfl) (by kernel_rfl) (by kernel_rfl) (fun _ _ _ h => h) (by rfl) ?_ (by assumption) ?_
                rotate_left
                · intro w_ hSw
                  (try dsimp only at hSw)
                  go_simp
                  (try with_reducible rfl)
                try simp only [Act.put, List.setIfInBounds_toArray, List.set_cons_zero, List.set_cons_succ]
                refine regTake (i := 30) (v := ?_) rfl (by kernel_rfl) (by kernel_rfl) (by kernel_rfl) (fun _ _ _ h => h) (by rfl) ?_ (by assumption) ?_
                rotate_left
                · intro w_ hSw
                  (try dsimp only at hSw)
                  go_simp
                  (try with_reducible rfl)
                try simp only [Act.put, List.setIfInBounds_toArray, List.set_cons_zero, List.set_cons_succ]
                refine regTake (i := 31) (v := ?_) rfl (by kernel_rfl) (by kernel_rfl) (by kernel_rfl) (fun _ _ _ h => h) (by rfl) ?_ (by assumption) ?_
                rotate_left
                · intro w_ hSw
                  (try dsimp only at hSw)
                  go_simp
                  (try with_reducible rfl)
                try simp only [Act.put, List.setIfInBounds_toArray, List.set_cons_zero, List.set_cons_succ]
                refine regCall (i := 32) (by kernel_rfl) rfl (by rfl) (fun K hK => ?_)
                go_simp
                (go_at_call 73; refine (tc_impl _ _).mono ?_; rintro e w' ⟨rfl, rfl⟩)
                refine hK.out _ _ ?_ (fun hHeld => ?_)
                · (try dsimp only)
                  (first | exact ⟨x0, x1, x2, x3, x4⟩ | exact ⟨s2.out.bx.cell 0, s2.out.bx.cell 1, s2.out.bx.cell 2, s2.out.bx.cell 3, s2.out.bx.cell 4⟩)
                clear hK K
                try simp only [Act.put, List.setIfInBounds_toArray, List.set_cons_zero, List.set_cons_succ]
                refine regTake (i := 33) (v := ?_) rfl (by kernel_rfl) (by kernel_rfl) (by kernel_rfl) (fun _ _ _ h => h) (by rfl) ?_ (by assumption) ?_
                rotate_left
                · intro w_ hSw
                  (try dsimp only at hSw)
                  go_simp
                  (try with_reducible rfl)
                try simp only [Act.put, List.setIfInBounds_toArray, List.set_cons_zero, List.set_cons_succ]
                refine regCall (i := 34) (by kernel_rfl) rfl (by rfl) (fun K hK => ?_)
                go_simp
                (go_at_call 68; refine (giveI_none s2.out y1 n2 m1 HM1.out hl HGU.out hm19).mono ?_; rintro e w5 ⟨rfl, rfl⟩)
                refine hK.out _ _ ?_ (fun hHeld => ?_)
                · (try dsimp only)
                  (first | exact ⟨x0, x1, x2, x3, x4⟩ | exact ⟨s2.out.bx.cell 0, s2.out.bx.cell 1, s2.out.bx.cell 2, s2.out.bx.cell 3, s2.out.bx.cell 4⟩)
                clear hK K
                try simp only [Act.put, List.setIfInBounds_toArray, List.set_cons_zero, List.set_cons_succ]
                refine regTake (i := 35) (v := ?_) rfl (by kernel_rfl) (by kernel_rfl) (by kernel_rfl) (fun _ _ _ h => h) (by rfl) ?_ (by assumption) ?_
                rotate_left
                · intro w_ hSw
                  (try dsimp only at hSw)
                  go_simp
                  (try with_reducible rfl)
                try simp only [Act.put, List.setIfInBounds_toArray, List.set_cons_zero, List.set_cons_succ]
                refine regTake (i := 36) (v := ?_) rfl (by kernel_rfl) (by kernel_rfl) (by kernel_rfl) (fun _ _ _ h => h) (by rfl) ?_ (by assumption) ?_
                rotate_left
                · intro w_ hSw
                  (try dsimp only at hSw)
                  go_simp
                  (try with_reducible rfl)
                try simp only [Act.put, List.setIfInBounds_toArray, List.set_cons_zero, List.set_cons_succ]
                refine regTake (i := 37) (v := ?_) rfl (by kernel_rfl) (by kernel_rfl) (by kernel_rfl) (fun _ _ _ h => h) (by rfl) ?_ (by assumption) ?_
                rotate_left
                · intro w_ hSw
                  (try dsimp only at hSw)
                  go_simp
                  (try with_reducible rfl)
                try simp only [Act.put, List.setIfInBounds_toArray, List.set_cons_zero, List.set_cons_succ]
                refine wpAnyH_done (by kernel_rfl) ?_ _
                clear hw1 hwk hw2
                obtain ⟨e1, e2⟩ := htV_none (HEQ.out.trans (giveF_none GI1.out.1 hrch1.out hmem2.out hy0 HGU.out))
                have EE := Lib.hid (And.intro e1 e2)
                clear e1 e2
                go_wp2_with fail
                go_ret2
                exact HE.out _ [] false EE.out.1 EE.out.2 none 0 (World.ownsRow_nil _ _ _ _) s2.out.st.bl
              | some V2 =>
                have HGU := Lib.hid hgu
                clear hgu
                obtain ⟨L2, hL2⟩ : ∃ L2, L2 = actL V1 L1 y1 := ⟨_, rfl⟩
                have HL2 := Lib.hid hL2
                clear hL2
                have WD := Lib.hid (work_done (V2 := V2) (L2 := L2) HX.out HVM.out hh0 hnd (by rw [← HN1.out]; exact GI1.out) (by show GvI _ _ _ _ _ _ (htF y0) _ _; rw [← HN2.out, HL2.out]; exact GvI.some GI1.out.1 GI1.out.2.2.2.1 hrch1.out hmem2.out hy0 HGU.out))
                have hw1 := HW1.out
                have hwk := HWK.out
                have hw2 := HW2.out
                refine wp_region_held_drew (S := (fun w_ => w_.cell? ⟨X, 0, none⟩ = some (.int .i64 y0) ∧ w_.cell? ⟨X, 1, none⟩ = some (.int .i64 y1) ∧ w_.cell? ⟨X, 2, none⟩ = some (.int .i64 y2) ∧ w_.cell? ⟨X, 3, none⟩ = some (.string y3) ∧ w_.cell? ⟨X, 4, none⟩ = some (.string y4))) (by kernel_rfl) ?_ (fun hHeld => ?_)
                · (try dsimp only)
                  (first | exact ⟨x0, x1, x2, x3, x4⟩ | exact ⟨s2.out.bx.cell 0, s2.out.bx.cell 1, s2.out.bx.cell 2, s2.out.bx.cell 3, s2.out.bx.cell 4⟩ | exact ⟨s5.out.bx.cell 0, s5.out.bx.cell 1, s5.out.bx.cell 2, s5.out.bx.cell 3, s5.out.bx.cell 4⟩)
                refine regTake (i := 0) (v := ?_) rfl (by kernel_rfl) (by kernel_rfl) (by kernel_rfl) (fun _ _ _ h => h) (by rfl) ?_ (by assumption) ?_
                rotate_left
                · intro w_ hSw
                  (try dsimp only at hSw)
                  go_simp
                  (try with_reducible rfl)
                try simp only [Act.put, List.setIfInBounds_toArray, List.set_cons_zero, List.set_cons_succ]
                refine regTake (i := 2) (v := ?_) rfl (by kernel_rfl) (by kernel_rfl) (by kernel_rfl) (fun _ _ _ h => h) (by rfl) ?_ (by assumption) ?_
                rotate_left
                · intro w_ hSw
                  (try dsimp only at hSw)
                  go_simp
                  (try with_reducible rfl)
                try simp only [Act.put, List.setIfInBounds_toArray, List.set_cons_zero, List.set_cons_succ]
                refine regCall (i := 1) (by kernel_rfl) rfl (by rfl) (fun K hK => ?_)
                go_simp
                (go_at_call 69; refine (need_impl _ _ _ _ _ _).mono ?_; rintro e w2 ⟨rfl, hb2⟩; have s2 := Lib.hid (s1.out.drew.below hb2))
                refine hK.out _ _ ?_ (fun hHeld => ?_)
                · (try dsimp only)
                  (first | exact ⟨x0, x1, x2, x3, x4⟩ | exact ⟨s2.out.bx.cell 0, s2.out.bx.cell 1, s2.out.bx.cell 2, s2.out.bx.cell 3, s2.out.bx.cell 4⟩ | exact ⟨s5.out.bx.cell 0, s5.out.bx.cell 1, s5.out.bx.cell 2, s5.out.bx.cell 3, s5.out.bx.cell 4⟩)
                clear hK K
                try simp only [Act.put, List.setIfInBounds_toArray, List.set_cons_zero, List.set_cons_succ]
                refine regTake (i := 3) (v := ?_) rfl (by kernel_rfl) (by kernel_rfl) (by kernel_rfl) (fun _ _ _ h => h) (by rfl) ?_ (by assumption) ?_
                rotate_left
                · intro w_ hSw
                  (try dsimp only at hSw)
                  go_simp
                  (try with_reducible rfl)
                try simp only [Act.put, List.setIfInBounds_toArray, List.set_cons_zero, List.set_cons_succ]
                refine regTake (i := 4) (v := ?_) rfl (by kernel_rfl) (by kernel_rfl) (by kernel_rfl) (fun _ _ _ h => h) (by rfl) ?_ (by assumption) ?_
                rotate_left
                · intro w_ hSw
                  (try dsimp only at hSw)
                  go_simp
                  (try with_reducible rfl)
                try simp only [Act.put, List.setIfInBounds_toArray, List.set_cons_zero, List.set_cons_succ]
                refine regTake (i := 5) (v := ?_) rfl (by kernel_rfl) (by kernel_rfl) (by kernel_rfl) (fun _ _ _ h => h) (by rfl) ?_ (by assumption) ?_
                rotate_left
                · intro w_ hSw
                  (try dsimp only at hSw)
                  go_simp
                  (try with_reducible rfl)
                try simp only [Act.put, List.setIfInBounds_toArray, List.set_cons_zero, List.set_cons_succ]
                refine regTake (i := 6) (v := ?_) rfl (by kernel_rfl) (by kernel_rfl) (by kernel_rfl) (fun _ _ _ h => h) (by rfl) ?_ (by assumption) ?_
                rotate_left
                · intro w_ hSw
                  (try dsimp only at hSw)
                  go_simp
                  (try with_reducible rfl)
                try simp only [Act.put, List.setIfInBounds_toArray, List.set_cons_zero, List.set_cons_succ]
                refine regCall (i := 7) (by kernel_rfl) rfl (by rfl) (fun K hK => ?_)
                go_simp
                (go_at_call 70; refine (if_impl _ _).mono ?_; rintro e w' ⟨rfl, rfl⟩)
                refine hK.out _ _ ?_ (fun hHeld => ?_)
                · (try dsimp only)
                  (first | exact ⟨x0, x1, x2, x3, x4⟩ | exact ⟨s2.out.bx.cell 0, s2.out.bx.cell 1, s2.out.bx.cell 2, s2.out.bx.cell 3, s2.out.bx.cell 4⟩ | exact ⟨s5.out.bx.cell 0, s5.out.bx.cell 1, s5.out.bx.cell 2, s5.out.bx.cell 3, s5.out.bx.cell 4⟩)
                clear hK K
                try simp only [Act.put, List.setIfInBounds_toArray, List.set_cons_zero, List.set_cons_succ]
                refine regTake (i := 8) (v := ?_) rfl (by kernel_rfl) (by kernel_rfl) (by kernel_rfl) (fun _ _ _ h => h) (by rfl) ?_ (by assumption) ?_
                rotate_left
                · intro w_ hSw
                  (try dsimp only at hSw)
                  go_simp
                  (try with_reducible rfl)
                try simp only [Act.put, List.setIfInBounds_toArray, List.set_cons_zero, List.set_cons_succ]
                refine regTake (i := 9) (v := ?_) rfl (by kernel_rfl) (by kernel_rfl) (by kernel_rfl) (fun _ _ _ h => h) (by rfl) ?_ (by assumption) ?_
                rotate_left
                · intro w_ hSw
                  (try dsimp only at hSw)
                  go_simp
                  (try with_reducible rfl)
                try simp only [Act.put, List.setIfInBounds_toArray, List.set_cons_zero, List.set_cons_succ]
                refine regSkip (i := 10) rfl (by kernel_rfl) (by kernel_rfl) (by kernel_rfl) (fun _ _ _ h => h) (by rfl) (by assumption) ?_
                try simp only [Act.put, List.setIfInBounds_toArray, List.set_cons_zero, List.set_cons_succ]
                refine regSkip (i := 11) rfl (by kernel_rfl) (by kernel_rfl) (by kernel_rfl) (fun _ _ _ h => h) (by rfl) (by assumption) ?_
                try simp only [Act.put, List.setIfInBounds_toArray, List.set_cons_zero, List.set_cons_succ]
                refine regSkip (i := 12) rfl (by kernel_rfl) (by kernel_rfl) (by kernel_rfl) (fun _ _ _ h => h) (by rfl) (by assumption) ?_
                try simp only [Act.put, List.setIfInBounds_toArray, List.set_cons_zero, List.set_cons_succ]
                refine regSkip (i := 13) rfl (by kernel_rfl) (by kernel_rfl) (by kernel_rfl) (fun _ _ _ h => h) (by rfl) (by assumption) ?_
                try simp only [Act.put, List.setIfInBounds_toArray, List.set_cons_zero, List.set_cons_succ]
                refine regSkip (i := 14) rfl (by kernel_rfl) (by kernel_rfl) (by kernel_rfl) (fun _ _ _ h => h) (by rfl) (by assumption) ?_
                try simp only [Act.put, List.setIfInBounds_toArray, List.set_cons_zero, List.set_cons_succ]
                refine regSkip (i := 15) rfl (by kernel_rfl) (by kernel_rfl) (by kernel_rfl) (fun _ _ _ h => h) (by rfl) (by assumption) ?_
                try simp only [Act.put, List.setIfInBounds_toArray, List.set_cons_zero, List.set_cons_succ]
                refine regSkip (i := 16) rfl (by kernel_rfl) (by kernel_rfl) (by kernel_rfl) (fun _ _ _ h => h) (by rfl) (by assumption) ?_
                try simp only [Act.put, List.setIfInBounds_toArray, List.set_cons_zero, List.set_cons_succ]
                refine regSkip (i := 17) rfl (by kernel_rfl) (by kernel_rfl) (by kernel_rfl) (fun _ _ _ h => h) (by rfl) (by assumption) ?_
                try simp only [Act.put, List.setIfInBounds_toArray, List.set_cons_zero, List.set_cons_succ]
                refine regSkip (i := 18) rfl (by kernel_rfl) (by kernel_rfl) (by kernel_rfl) (fun _ _ _ h => h) (by rfl) (by assumption) ?_
                try simp only [Act.put, List.setIfInBounds_toArray, List.set_cons_zero, List.set_cons_succ]
                refine regTake (i := 19) (v := ?_) rfl (by kernel_rfl) (by kernel_rfl) (by kernel_rfl) (fun _ _ _ h => h) (by rfl) ?_ (by assumption) ?_
                rotate_left
                · intro w_ hSw
                  (try dsimp only at hSw)
                  go_simp
                  (try with_reducible rfl)
                try simp only [Act.put, List.setIfInBounds_toArray, List.set_cons_zero, List.set_cons_succ]
                refine regTake (i := 20) (v := ?_) rfl (by kernel_rfl) (by kernel_rfl) (by kernel_rfl) (fun _ _ _ h => h) (by rfl) ?_ (by assumption) ?_
                rotate_left
                · intro w_ hSw
                  (try dsimp only at hSw)
                  go_simp
                  (try with_reducible rfl)
                try simp only [Act.put, List.setIfInBounds_toArray, List.set_cons_zero, List.set_cons_succ]
                refine regTake (i := 21) (v := ?_) rfl (by kernel_rfl) (by kernel_rfl) (by kernel_rfl) (fun _ _ _ h => h) (by rfl) ?_ (by assumption) ?_
                rotate_left
                · intro w_ hSw
                  (try dsimp only at hSw)
                  go_simp
                  (try with_reducible rfl)
                try simp only [Act.put, List.setIfInBounds_toArray, List.set_cons_zero, List.set_cons_succ]
                refine regTake (i := 22) (v := ?_) rfl (by kernel_rfl) (by kernel_rfl) (by kernel_rfl) (fun _ _ _ h => h) (by rfl) ?_ (by assumption) ?_
                rotate_left
                · intro w_ hSw
                  (try dsimp only at hSw)
                  go_simp
                  (try with_reducible rfl)
                try simp only [Act.put, List.setIfInBounds_toArray, List.set_cons_zero, List.set_cons_succ]
                refine regTake (i := 23) (v := ?_) rfl (by kernel_rfl) (by kernel_rfl) (by kernel_rfl) (fun _ _ _ h => h) (by rfl) ?_ (by assumption) ?_
                rotate_left
                · intro w_ hSw
                  (try dsimp only at hSw)
                  go_simp
                  (try with_reducible rfl)
                try simp only [Act.put, List.setIfInBounds_toArray, List.set_cons_zero, List.set_cons_succ]
                refine regCall (i := 24) (by kernel_rfl) rfl (by rfl) (fun K hK => ?_)
                go_simp
                (go_at_call 72; refine (ht_impl _ _).mono ?_; rintro e w' ⟨rfl, rfl⟩)
                refine hK.out _ _ ?_ (fun hHeld => ?_)
                · (try dsimp only)
                  (first | exact ⟨x0, x1, x2, x3, x4⟩ | exact ⟨s2.out.bx.cell 0, s2.out.bx.cell 1, s2.out.bx.cell 2, s2.out.bx.cell 3, s2.out.bx.cell 4⟩ | exact ⟨s5.out.bx.cell 0, s5.out.bx.cell 1, s5.out.bx.cell 2, s5.out.bx.cell 3, s5.out.bx.cell 4⟩)
                clear hK K
                try simp only [Act.put, List.setIfInBounds_toArray, List.set_cons_zero, List.set_cons_succ]
                refine regTake (i := 25) (v := ?_) rfl (by kernel_rfl) (by kernel_rfl) (by kernel_rfl) (fun _ _ _ h => h) (by rfl) ?_ (by assumption) ?_
                rotate_left
                · intro w_ hSw
                  (try dsimp only at hSw)
                  go_simp
                  (try with_reducible rfl)
                try simp only [Act.put, List.setIfInBounds_toArray, List.set_cons_zero, List.set_cons_succ]
                refine regTake (i := 26) (v := ?_) rfl (by kernel_rfl) (by kernel_rfl) (by kernel_rfl) (fun _ _ _ h => h) (by rfl) ?_ (by assumption) ?_
                rotate_left
                · intro w_ hSw
                  (try dsimp only at hSw)
                  go_simp
                  (try with_reducible rfl)
                try simp only [Act.put, List.setIfInBounds_toArray, List.set_cons_zero, List.set_cons_succ]
                refine regTake (i := 27) (v := ?_) rfl (by kernel_rfl) (by kernel_rfl) (by kernel_rfl) (fun _ _ _ h => h) (by rfl) ?_ (by assumption) ?_
                rotate_left
                · intro w_ hSw
                  (try dsimp only at hSw)
                  go_simp
                  (try with_reducible rfl)
                try simp only [Act.put, List.setIfInBounds_toArray, List.set_cons_zero, List.set_cons_succ]
                refine regTake (i := 28) (v := ?_) rfl (by kernel_rfl) (by kernel_rfl) (by kernel_rfl) (fun _ _ _ h => h) (by rfl) ?_ (by assumption) ?_
                rotate_left
                · intro w_ hSw
                  (try dsimp only at hSw)
                  go_simp
                  (try with_reducible rfl)
                try simp only [Act.put, List.setIfInBounds_toArray, List.set_cons_zero, List.set_cons_succ]
                refine regTake (i := 29) (v := ?_) rfl (by kernel_rfl) (by kernel_rfl) (by kernel_rfl) (fun _ _ _ h => h) (by rfl) ?_ (by assumption) ?_
                rotate_left
                · intro w_ hSw
                  (try dsimp only at hSw)
                  go_simp
                  (try with_reducible rfl)
                try simp only [Act.put, List.setIfInBounds_toArray, List.set_cons_zero, List.set_cons_succ]
                refine regTake (i := 30) (v := ?_) rfl (by kernel_rfl) (by kernel_rfl) (by kernel_rfl) (fun _ _ _ h => h) (by rfl) ?_ (by assumption) ?_
                rotate_left
                · intro w_ hSw
                  (try dsimp only at hSw)
                  go_simp
                  (try with_reducible rfl)
                try simp only [Act.put, List.setIfInBounds_toArray, List.set_cons_zero, List.set_cons_succ]
                refine regTake (i := 31) (v := ?_) rfl (by kernel_rfl) (by kernel_rfl) (by kernel_rfl) (fun _ _ _ h => h) (by rfl) ?_ (by assumption) ?_
                rotate_left
                · intro w_ hSw
                  (try dsimp only at hSw)
                  go_simp
                  (try with_reducible rfl)
                try simp only [Act.put, List.setIfInBounds_toArray, List.set_cons_zero, List.set_cons_succ]
                refine regCall (i := 32) (by kernel_rfl) rfl (by rfl) (fun K hK => ?_)
                go_simp
                (go_at_call 73; refine (tc_impl _ _).mono ?_; rintro e w' ⟨rfl, rfl⟩)
                refine hK.out _ _ ?_ (fun hHeld => ?_)
                · (try dsimp only)
                  (first | exact ⟨x0, x1, x2, x3, x4⟩ | exact ⟨s2.out.bx.cell 0, s2.out.bx.cell 1, s2.out.bx.cell 2, s2.out.bx.cell 3, s2.out.bx.cell 4⟩ | exact ⟨s5.out.bx.cell 0, s5.out.bx.cell 1, s5.out.bx.cell 2, s5.out.bx.cell 3, s5.out.bx.cell 4⟩)
                clear hK K
                try simp only [Act.put, List.setIfInBounds_toArray, List.set_cons_zero, List.set_cons_succ]
                refine regTake (i := 33) (v := ?_) rfl (by kernel_rfl) (by kernel_rfl) (by kernel_rfl) (fun _ _ _ h => h) (by rfl) ?_ (by assumption) ?_
                rotate_left
                · intro w_ hSw
                  (try dsimp only at hSw)
                  go_simp
                  (try with_reducible rfl)
                try simp only [Act.put, List.setIfInBounds_toArray, List.set_cons_zero, List.set_cons_succ]
                refine regCall (i := 34) (by kernel_rfl) rfl (by rfl) (fun K hK => ?_)
                go_simp
                (go_at_call 68; refine (giveI_some s2.out y1 n2 m1 HM1.out hl hLn1 HGU.out).mono ?_; rintro e w5 ⟨rfl, gw5, cw5, q5⟩; rw [← HL2.out] at q5; have s5 := Lib.hid q5)
                refine hK.out _ _ ?_ (fun hHeld => ?_)
                · (try dsimp only)
                  (first | exact ⟨x0, x1, x2, x3, x4⟩ | exact ⟨s2.out.bx.cell 0, s2.out.bx.cell 1, s2.out.bx.cell 2, s2.out.bx.cell 3, s2.out.bx.cell 4⟩ | exact ⟨s5.out.bx.cell 0, s5.out.bx.cell 1, s5.out.bx.cell 2, s5.out.bx.cell 3, s5.out.bx.cell 4⟩)
                clear hK K
                try simp only [Act.put, List.setIfInBounds_toArray, List.set_cons_zero, List.set_cons_succ]
                refine regTake (i := 35) (v := ?_) rfl (by kernel_rfl) (by kernel_rfl) (by kernel_rfl) (fun _ _ _ h => h) (by rfl) ?_ (by assumption) ?_
                rotate_left
                · intro w_ hSw
                  (try dsimp only at hSw)
                  go_simp
                  (try with_reducible rfl)
                try simp only [Act.put, List.setIfInBounds_toArray, List.set_cons_zero, List.set_cons_succ]
                refine regTake (i := 36) (v := ?_) rfl (by kernel_rfl) (by kernel_rfl) (by kernel_rfl) (fun _ _ _ h => h) (by rfl) ?_ (by assumption) ?_
                rotate_left
                · intro w_ hSw
                  (try dsimp only at hSw)
                  go_simp
                  (try with_reducible rfl)
                try simp only [Act.put, List.setIfInBounds_toArray, List.set_cons_zero, List.set_cons_succ]
                refine regTake (i := 37) (v := ?_) rfl (by kernel_rfl) (by kernel_rfl) (by kernel_rfl) (fun _ _ _ h => h) (by rfl) ?_ (by assumption) ?_
                rotate_left
                · intro w_ hSw
                  (try dsimp only at hSw)
                  go_simp
                  (try with_reducible rfl)
                try simp only [Act.put, List.setIfInBounds_toArray, List.set_cons_zero, List.set_cons_succ]
                refine wpAnyH_done (by kernel_rfl) ?_ _
                clear hw1 hwk hw2
                go_wp2_with fail
                go_roundg (2 * nocnt V2 + L2.length)
                case measure => have := WD.out.2.2; omega
                case rel => exact ⟨V2, L2, _, _, rfl, WD.out.1, WD.out.2.1, s5.out.st⟩
          | false =>
            have HIF := Lib.hid hif
            have hmem := Lib.hid (nx_one (h := h) HX.out HIF.out)
            rw [← HN1.out] at hmem
            cases hgv : giveF V ((m : Int) + 1) n1 with
            | none =>
              have HGV := Lib.hid hgv
              clear hgv
              have hw1 := HW1.out
              have hwk := HWK.out
              refine wp_region_held_drew (S := (fun w_ => w_.cell? ⟨X, 0, none⟩ = some (.int .i64 y0) ∧ w_.cell? ⟨X, 1, none⟩ = some (.int .i64 y1) ∧ w_.cell? ⟨X, 2, none⟩ = some (.int .i64 y2) ∧ w_.cell? ⟨X, 3, none⟩ = some (.string y3) ∧ w_.cell? ⟨X, 4, none⟩ = some (.string y4))) (by kernel_rfl) ?_ (fun hHeld => ?_)
              · (try dsimp only)
                (first | exact ⟨x0, x1, x2, x3, x4⟩ | exact ⟨s2.out.bx.cell 0, s2.out.bx.cell 1, s2.out.bx.cell 2, s2.out.bx.cell 3, s2.out.bx.cell 4⟩ | exact ⟨s3.out.bx.cell 0, s3.out.bx.cell 1, s3.out.bx.cell 2, s3.out.bx.cell 3, s3.out.bx.cell 4⟩)
              refine regTake (i := 0) (v := ?_) rfl (by kernel_rfl) (by kernel_rfl) (by kernel_rfl) (fun _ _ _ h => h) (by rfl) ?_ (by assumption) ?_
              rotate_left
              · intro w_ hSw
                (try dsimp only at hSw)
                go_simp
                (try with_reducible rfl)
              try simp only [Act.put, List.setIfInBounds_toArray, List.set_cons_zero, List.set_cons_succ]
              refine regTake (i := 2) (v := ?_) rfl (by kernel_rfl) (by kernel_rfl) (by kernel_rfl) (fun _ _ _ h => h) (by rfl) ?_ (by assumption) ?_
              rotate_left
              · intro w_ hSw
                (try dsimp only at hSw)
                go_simp
                (try with_reducible rfl)
              try simp only [Act.put, List.setIfInBounds_toArray, List.set_cons_zero, List.set_cons_succ]
              refine regCall (i := 1) (by kernel_rfl) rfl (by rfl) (fun K hK => ?_)
              go_simp
              (go_at_call 69; refine (need_impl _ _ _ _ _ _).mono ?_; rintro e w2 ⟨rfl, hb2⟩; have s2 := Lib.hid (s1.out.drew.below hb2))
              refine hK.out _ _ ?_ (fun hHeld => ?_)
              · (try dsimp only)
                (first | exact ⟨x0, x1, x2, x3, x4⟩ | exact ⟨s2.out.bx.cell 0, s2.out.bx.cell 1, s2.out.bx.cell 2, s2.out.bx.cell 3, s2.out.bx.cell 4⟩ | exact ⟨s3.out.bx.cell 0, s3.out.bx.cell 1, s3.out.bx.cell 2, s3.out.bx.cell 3, s3.out.bx.cell 4⟩)
              clear hK K
              try simp only [Act.put, List.setIfInBounds_toArray, List.set_cons_zero, List.set_cons_succ]
              refine regTake (i := 3) (v := ?_) rfl (by kernel_rfl) (by kernel_rfl) (by kernel_rfl) (fun _ _ _ h => h) (by rfl) ?_ (by assumption) ?_
              rotate_left
              · intro w_ hSw
                (try dsimp only at hSw)
                go_simp
                (try with_reducible rfl)
              try simp only [Act.put, List.setIfInBounds_toArray, List.set_cons_zero, List.set_cons_succ]
              refine regTake (i := 4) (v := ?_) rfl (by kernel_rfl) (by kernel_rfl) (by kernel_rfl) (fun _ _ _ h => h) (by rfl) ?_ (by assumption) ?_
              rotate_left
              · intro w_ hSw
                (try dsimp only at hSw)
                go_simp
                (try with_reducible rfl)
              try simp only [Act.put, List.setIfInBounds_toArray, List.set_cons_zero, List.set_cons_succ]
              refine regTake (i := 5) (v := ?_) rfl (by kernel_rfl) (by kernel_rfl) (by kernel_rfl) (fun _ _ _ h => h) (by rfl) ?_ (by assumption) ?_
              rotate_left
              · intro w_ hSw
                (try dsimp only at hSw)
                go_simp
                (try with_reducible rfl)
              try simp only [Act.put, List.setIfInBounds_toArray, List.set_cons_zero, List.set_cons_succ]
              refine regTake (i := 6) (v := ?_) rfl (by kernel_rfl) (by kernel_rfl) (by kernel_rfl) (fun _ _ _ h => h) (by rfl) ?_ (by assumption) ?_
              rotate_left
              · intro w_ hSw
                (try dsimp only at hSw)
                go_simp
                (try with_reducible rfl)
              try simp only [Act.put, List.setIfInBounds_toArray, List.set_cons_zero, List.set_cons_succ]
              refine regCall (i := 7) (by kernel_rfl) rfl (by rfl) (fun K hK => ?_)
              go_simp
              (go_at_call 70; refine (if_impl _ _).mono ?_; rintro e w' ⟨rfl, rfl⟩)
              refine hK.out _ _ ?_ (fun hHeld => ?_)
              · (try dsimp only)
                (first | exact ⟨x0, x1, x2, x3, x4⟩ | exact ⟨s2.out.bx.cell 0, s2.out.bx.cell 1, s2.out.bx.cell 2, s2.out.bx.cell 3, s2.out.bx.cell 4⟩ | exact ⟨s3.out.bx.cell 0, s3.out.bx.cell 1, s3.out.bx.cell 2, s3.out.bx.cell 3, s3.out.bx.cell 4⟩)
              clear hK K
              try simp only [Act.put, List.setIfInBounds_toArray, List.set_cons_zero, List.set_cons_succ]
              refine regTake (i := 8) (v := ?_) rfl (by kernel_rfl) (by kernel_rfl) (by kernel_rfl) (fun _ _ _ h => h) (by rfl) ?_ (by assumption) ?_
              rotate_left
              · intro w_ hSw
                (try dsimp only at hSw)
                go_simp
                (try with_reducible rfl)
              try simp only [Act.put, List.setIfInBounds_toArray, List.set_cons_zero, List.set_cons_succ]
              refine regTake (i := 9) (v := ?_) rfl (by kernel_rfl) (by kernel_rfl) (by kernel_rfl) (fun _ _ _ h => h) (by rfl) ?_ (by assumption) ?_
              rotate_left
              · intro w_ hSw
                (try dsimp only at hSw)
                go_simp
                (try with_reducible rfl)
              try simp only [Act.put, List.setIfInBounds_toArray, List.set_cons_zero, List.set_cons_succ]
              refine regTake (i := 10) (v := ?_) rfl (by kernel_rfl) (by kernel_rfl) (by kernel_rfl) (fun _ _ _ h => h) (by rfl) ?_ (by assumption) ?_
              rotate_left
              · intro w_ hSw
                (try dsimp only at hSw)
                go_simp
                (try with_reducible rfl)
              try simp only [Act.put, List.setIfInBounds_toArray, List.set_cons_zero, List.set_cons_succ]
              refine regTake (i := 11) (v := ?_) rfl (by kernel_rfl) (by kernel_rfl) (by kernel_rfl) (fun _ _ _ h => h) (by rfl) ?_ (by assumption) ?_
              rotate_left
              · intro w_ hSw
                (try dsimp only at hSw)
                go_simp
                (try with_reducible rfl)
              try simp only [Act.put, List.setIfInBounds_toArray, List.set_cons_zero, List.set_cons_succ]
              refine regTake (i := 12) (v := ?_) rfl (by kernel_rfl) (by kernel_rfl) (by kernel_rfl) (fun _ _ _ h => h) (by rfl) ?_ (by assumption) ?_
              rotate_left
              · intro w_ hSw
                (try dsimp only at hSw)
                go_simp
                (try with_reducible rfl)
              try simp only [Act.put, List.setIfInBounds_toArray, List.set_cons_zero, List.set_cons_succ]
              refine regTake (i := 13) (v := ?_) rfl (by kernel_rfl) (by kernel_rfl) (by kernel_rfl) (fun _ _ _ h => h) (by rfl) ?_ (by assumption) ?_
              rotate_left
              · intro w_ hSw
                (try dsimp only at hSw)
                go_simp
                (try with_reducible rfl)
              try simp only [Act.put, List.setIfInBounds_toArray, List.set_cons_zero, List.set_cons_succ]
              refine regTake (i := 14) (v := ?_) rfl (by kernel_rfl) (by kernel_rfl) (by kernel_rfl) (fun _ _ _ h => h) (by rfl) ?_ (by assumption) ?_
              rotate_left
              · intro w_ hSw
                (try dsimp only at hSw)
                go_simp
                (try with_reducible rfl)
              try simp only [Act.put, List.setIfInBounds_toArray, List.set_cons_zero, List.set_cons_succ]
              refine regCall (i := 15) (by kernel_rfl) rfl (by rfl) (fun K hK => ?_)
              go_simp
              (go_at_call 71; refine (change_impl _ _ _ _ _ _).mono ?_; rintro e w3 ⟨rfl, hb3⟩; have s3 := Lib.hid (s2.out.below hb3))
              refine hK.out _ _ ?_ (fun hHeld => ?_)
              · (try dsimp only)
                (first | exact ⟨x0, x1, x2, x3, x4⟩ | exact ⟨s2.out.bx.cell 0, s2.out.bx.cell 1, s2.out.bx.cell 2, s2.out.bx.cell 3, s2.out.bx.cell 4⟩ | exact ⟨s3.out.bx.cell 0, s3.out.bx.cell 1, s3.out.bx.cell 2, s3.out.bx.cell 3, s3.out.bx.cell 4⟩)
              clear hK K
              try simp only [Act.put, List.setIfInBounds_toArray, List.set_cons_zero, List.set_cons_succ]
              refine regTake (i := 16) (v := ?_) rfl (by kernel_rfl) (by kernel_rfl) (by kernel_rfl) (fun _ _ _ h => h) (by rfl) ?_ (by assumption) ?_
              rotate_left
              · intro w_ hSw
                (try dsimp only at hSw)
                go_simp
                (try with_reducible rfl)
              try simp only [Act.put, List.setIfInBounds_toArray, List.set_cons_zero, List.set_cons_succ]
              refine regCall (i := 17) (by kernel_rfl) rfl (by rfl) (fun K hK => ?_)
              go_simp
              (go_at_call 68; refine (giveI_none s3.out ((m : Int) + 1) n1 (m + 1) HWC.out hl HGV.out hm9).mono ?_; rintro e w4 ⟨rfl, rfl⟩)
              refine hK.out _ _ ?_ (fun hHeld => ?_)
              · (try dsimp only)
                (first | exact ⟨x0, x1, x2, x3, x4⟩ | exact ⟨s2.out.bx.cell 0, s2.out.bx.cell 1, s2.out.bx.cell 2, s2.out.bx.cell 3, s2.out.bx.cell 4⟩ | exact ⟨s3.out.bx.cell 0, s3.out.bx.cell 1, s3.out.bx.cell 2, s3.out.bx.cell 3, s3.out.bx.cell 4⟩)
              clear hK K
              try simp only [Act.put, List.setIfInBounds_toArray, List.set_cons_zero, List.set_cons_succ]
              refine regTake (i := 18) (v := ?_) rfl (by kernel_rfl) (by kernel_rfl) (by kernel_rfl) (fun _ _ _ h => h) (by rfl) ?_ (by assumption) ?_
              rotate_left
              · intro w_ hSw
                (try dsimp only at hSw)
                go_simp
                (try with_reducible rfl)
              try simp only [Act.put, List.setIfInBounds_toArray, List.set_cons_zero, List.set_cons_succ]
              refine regTake (i := 19) (v := ?_) rfl (by kernel_rfl) (by kernel_rfl) (by kernel_rfl) (fun _ _ _ h => h) (by rfl) ?_ (by assumption) ?_
              rotate_left
              · intro w_ hSw
                (try dsimp only at hSw)
                go_simp
                (try with_reducible rfl)
              try simp only [Act.put, List.setIfInBounds_toArray, List.set_cons_zero, List.set_cons_succ]
              refine regTake (i := 20) (v := ?_) rfl (by kernel_rfl) (by kernel_rfl) (by kernel_rfl) (fun _ _ _ h => h) (by rfl) ?_ (by assumption) ?_
              rotate_left
              · intro w_ hSw
                (try dsimp only at hSw)
                go_simp
                (try with_reducible rfl)
              try simp only [Act.put, List.setIfInBounds_toArray, List.set_cons_zero, List.set_cons_succ]
              refine regTake (i := 21) (v := ?_) rfl (by kernel_rfl) (by kernel_rfl) (by kernel_rfl) (fun _ _ _ h => h) (by rfl) ?_ (by assumption) ?_
              rotate_left
              · intro w_ hSw
                (try dsimp only at hSw)
                go_simp
                (try with_reducible rfl)
              try simp only [Act.put, List.setIfInBounds_toArray, List.set_cons_zero, List.set_cons_succ]
              refine regSkip (i := 22) rfl (by kernel_rfl) (by kernel_rfl) (by kernel_rfl) (fun _ _ _ h => h) (by rfl) (by assumption) ?_
              try simp only [Act.put, List.setIfInBounds_toArray, List.set_cons_zero, List.set_cons_succ]
              refine regSkip (i := 23) rfl (by kernel_rfl) (by kernel_rfl) (by kernel_rfl) (fun _ _ _ h => h) (by rfl) (by assumption) ?_
              try simp only [Act.put, List.setIfInBounds_toArray, List.set_cons_zero, List.set_cons_succ]
              refine regSkip (i := 24) rfl (by kernel_rfl) (by kernel_rfl) (by kernel_rfl) (fun _ _ _ h => h) (by rfl) (by assumption) ?_
              try simp only [Act.put, List.setIfInBounds_toArray, List.set_cons_zero, List.set_cons_succ]
              refine regSkip (i := 25) rfl (by kernel_rfl) (by kernel_rfl) (by kernel_rfl) (fun _ _ _ h => h) (by rfl) (by assumption) ?_
              try simp only [Act.put, List.setIfInBounds_toArray, List.set_cons_zero, List.set_cons_succ]
              refine regSkip (i := 26) rfl (by kernel_rfl) (by kernel_rfl) (by kernel_rfl) (fun _ _ _ h => h) (by rfl) (by assumption) ?_
              try simp only [Act.put, List.setIfInBounds_toArray, List.set_cons_zero, List.set_cons_succ]
              refine regSkip (i := 27) rfl (by kernel_rfl) (by kernel_rfl) (by kernel_rfl) (fun _ _ _ h => h) (by rfl) (by assumption) ?_
              try simp only [Act.put, List.setIfInBounds_toArray, List.set_cons_zero, List.set_cons_succ]
              refine regSkip (i := 28) rfl (by kernel_rfl) (by kernel_rfl) (by kernel_rfl) (fun _ _ _ h => h) (by rfl) (by assumption) ?_
              try simp only [Act.put, List.setIfInBounds_toArray, List.set_cons_zero, List.set_cons_succ]
              refine regSkip (i := 29) rfl (by kernel_rfl) (by kernel_rfl) (by kernel_rfl) (fun _ _ _ h => h) (by rfl) (by assumption) ?_
              try simp only [Act.put, List.setIfInBounds_toArray, List.set_cons_zero, List.set_cons_succ]
              refine regSkip (i := 30) rfl (by kernel_rfl) (by kernel_rfl) (by kernel_rfl) (fun _ _ _ h => h) (by rfl) (by assumption) ?_
              try simp only [Act.put, List.setIfInBounds_toArray, List.set_cons_zero, List.set_cons_succ]
              refine regSkip (i := 31) rfl (by kernel_rfl) (by kernel_rfl) (by kernel_rfl) (fun _ _ _ h => h) (by rfl) (by assumption) ?_
              try simp only [Act.put, List.setIfInBounds_toArray, List.set_cons_zero, List.set_cons_succ]
              refine regSkip (i := 32) rfl (by kernel_rfl) (by kernel_rfl) (by kernel_rfl) (fun _ _ _ h => h) (by rfl) (by assumption) ?_
              try simp only [Act.put, List.setIfInBounds_toArray, List.set_cons_zero, List.set_cons_succ]
              refine regSkip (i := 33) rfl (by kernel_rfl) (by kernel_rfl) (by kernel_rfl) (fun _ _ _ h => h) (by rfl) (by assumption) ?_
              try simp only [Act.put, List.setIfInBounds_toArray, List.set_cons_zero, List.set_cons_succ]
              refine regSkip (i := 34) rfl (by kernel_rfl) (by kernel_rfl) (by kernel_rfl) (fun _ _ _ h => h) (by rfl) (by assumption) ?_
              try simp only [Act.put, List.setIfInBounds_toArray, List.set_cons_zero, List.set_cons_succ]
              refine regSkip (i := 35) rfl (by kernel_rfl) (by kernel_rfl) (by kernel_rfl) (fun _ _ _ h => h) (by rfl) (by assumption) ?_
              try simp only [Act.put, List.setIfInBounds_toArray, List.set_cons_zero, List.set_cons_succ]
              refine regSkip (i := 36) rfl (by kernel_rfl) (by kernel_rfl) (by kernel_rfl) (fun _ _ _ h => h) (by rfl) (by assumption) ?_
              try simp only [Act.put, List.setIfInBounds_toArray, List.set_cons_zero, List.set_cons_succ]
              refine regTake (i := 37) (v := ?_) rfl (by kernel_rfl) (by kernel_rfl) (by kernel_rfl) (fun _ _ _ h => h) (by rfl) ?_ (by assumption) ?_
              rotate_left
              · intro w_ hSw
                (try dsimp only at hSw)
                go_simp
                (try with_reducible rfl)
              try simp only [Act.put, List.setIfInBounds_toArray, List.set_cons_zero, List.set_cons_succ]
              refine wpAnyH_done (by kernel_rfl) ?_ _
              clear hw1 hwk
              obtain ⟨e1, e2⟩ := htV_none (HEQ.out.trans (giveF_none HPI.out hrch.out hmem.out hm0 HGV.out))
              have EE := Lib.hid (And.intro e1 e2)
              clear e1 e2
              go_wp2_with fail
              go_ret2
              exact HE.out _ [] false EE.out.1 EE.out.2 none 0 (World.ownsRow_nil _ _ _ _) s3.out.st.bl
            | some V1 =>
              have HGV := Lib.hid hgv
              clear hgv
              have GI0 := Lib.hid (GvI.some (go := !ifF y0) HPI.out hWM.out hrch.out hmem.out hm0 HGV.out)
              obtain ⟨L1, hL1⟩ : ∃ L1, L1 = actL V L' ((m : Int) + 1) := ⟨_, rfl⟩
              have HL1 := Lib.hid hL1
              have GI1 := Lib.hid (show GvI (hC z5) m V L' V1 L1 (!ifF y0) ((m : Int) + 1) n1 from by rw [hL1]; exact GI0.out)
              clear hL1 GI0
              have hLn1 : L1.length ≤ 1000000000 := by have := GI1.out.2.2.2.1.few; have e : (hC z5).n = z5.length := rfl; omega
              have hVk1 := Lib.hid (GI1.out.2.1.2 m h HVM.out hh0)
              have hrch1 := Lib.hid (GI1.out.1.rch m h hVk1.out hh0)
              cases hif2 : htF y0 with
              | false =>
                have WD := Lib.hid (work_done (V2 := V1) (L2 := L1) HX.out HVM.out hh0 hnd (by rw [← HN1.out]; exact GI1.out) (by show GvI _ _ _ _ _ _ (htF y0) _ _; rw [hif2]; exact GvI.skip GI1.out.1 GI1.out.2.2.2.1))
                have hw1 := HW1.out
                have hwk := HWK.out
                refine wp_region_held_drew (S := (fun w_ => w_.cell? ⟨X, 0, none⟩ = some (.int .i64 y0) ∧ w_.cell? ⟨X, 1, none⟩ = some (.int .i64 y1) ∧ w_.cell? ⟨X, 2, none⟩ = some (.int .i64 y2) ∧ w_.cell? ⟨X, 3, none⟩ = some (.string y3) ∧ w_.cell? ⟨X, 4, none⟩ = some (.string y4))) (by kernel_rfl) ?_ (fun hHeld => ?_)
                · (try dsimp only)
                  (first | exact ⟨x0, x1, x2, x3, x4⟩ | exact ⟨s2.out.bx.cell 0, s2.out.bx.cell 1, s2.out.bx.cell 2, s2.out.bx.cell 3, s2.out.bx.cell 4⟩ | exact ⟨s3.out.bx.cell 0, s3.out.bx.cell 1, s3.out.bx.cell 2, s3.out.bx.cell 3, s3.out.bx.cell 4⟩ | exact ⟨s4.out.bx.cell 0, s4.out.bx.cell 1, s4.out.bx.cell 2, s4.out.bx.cell 3, s4.out.bx.cell 4⟩)
                refine regTake (i := 0) (v := ?_) rfl (by kernel_rfl) (by kernel_rfl) (by kernel_rfl) (fun _ _ _ h => h) (by rfl) ?_ (by assumption) ?_
                rotate_left
                · intro w_ hSw
                  (try dsimp only at hSw)
                  go_simp
                  (try with_reducible rfl)
                try simp only [Act.put, List.setIfInBounds_toArray, List.set_cons_zero, List.set_cons_succ]
                refine regTake (i := 2) (v := ?_) rfl (by kernel_rfl) (by kernel_rfl) (by kernel_rfl) (fun _ _ _ h => h) (by rfl) ?_ (by assumption) ?_
                rotate_left
                · intro w_ hSw
                  (try dsimp only at hSw)
                  go_simp
                  (try with_reducible rfl)
                try simp only [Act.put, List.setIfInBounds_toArray, List.set_cons_zero, List.set_cons_succ]
                refine regCall (i := 1) (by kernel_rfl) rfl (by rfl) (fun K hK => ?_)
                go_simp
                (go_at_call 69; refine (need_impl _ _ _ _ _ _).mono ?_; rintro e w2 ⟨rfl, hb2⟩; have s2 := Lib.hid (s1.out.drew.below hb2))
                refine hK.out _ _ ?_ (fun hHeld => ?_)
                · (try dsimp only)
                  (first | exact ⟨x0, x1, x2, x3, x4⟩ | exact ⟨s2.out.bx.cell 0, s2.out.bx.cell 1, s2.out.bx.cell 2, s2.out.bx.cell 3, s2.out.bx.cell 4⟩ | exact ⟨s3.out.bx.cell 0, s3.out.bx.cell 1, s3.out.bx.cell 2, s3.out.bx.cell 3, s3.out.bx.cell 4⟩ | exact ⟨s4.out.bx.cell 0, s4.out.bx.cell 1, s4.out.bx.cell 2, s4.out.bx.cell 3, s4.out.bx.cell 4⟩)
                clear hK K
                try simp only [Act.put, List.setIfInBounds_toArray, List.set_cons_zero, List.set_cons_succ]
                refine regTake (i := 3) (v := ?_) rfl (by kernel_rfl) (by kernel_rfl) (by kernel_rfl) (fun _ _ _ h => h) (by rfl) ?_ (by assumption) ?_
                rotate_left
                · intro w_ hSw
                  (try dsimp only at hSw)
                  go_simp
                  (try with_reducible rfl)
                try simp only [Act.put, List.setIfInBounds_toArray, List.set_cons_zero, List.set_cons_succ]
                refine regTake (i := 4) (v := ?_) rfl (by kernel_rfl) (by kernel_rfl) (by kernel_rfl) (fun _ _ _ h => h) (by rfl) ?_ (by assumption) ?_
                rotate_left
                · intro w_ hSw
                  (try dsimp only at hSw)
                  go_simp
                  (try with_reducible rfl)
                try simp only [Act.put, List.setIfInBounds_toArray, List.set_cons_zero, List.set_cons_succ]
                refine regTake (i := 5) (v := ?_) rfl (by kernel_rfl) (by kernel_rfl) (by kernel_rfl) (fun _ _ _ h => h) (by rfl) ?_ (by assumption) ?_
                rotate_left
                · intro w_ hSw
                  (try dsimp only at hSw)
                  go_simp
                  (try with_reducible rfl)
                try simp only [Act.put, List.setIfInBounds_toArray, List.set_cons_zero, List.set_cons_succ]
                refine regTake (i := 6) (v := ?_) rfl (by kernel_rfl) (by kernel_rfl) (by kernel_rfl) (fun _ _ _ h => h) (by rfl) ?_ (by assumption) ?_
                rotate_left
                · intro w_ hSw
                  (try dsimp only at hSw)
                  go_simp
                  (try with_reducible rfl)
                try simp only [Act.put, List.setIfInBounds_toArray, List.set_cons_zero, List.set_cons_succ]
                refine regCall (i := 7) (by kernel_rfl) rfl (by rfl) (fun K hK => ?_)
                go_simp
                (go_at_call 70; refine (if_impl _ _).mono ?_; rintro e w' ⟨rfl, rfl⟩)
                refine hK.out _ _ ?_ (fun hHeld => ?_)
                · (try dsimp only)
                  (first | exact ⟨x0, x1, x2, x3, x4⟩ | exact ⟨s2.out.bx.cell 0, s2.out.bx.cell 1, s2.out.bx.cell 2, s2.out.bx.cell 3, s2.out.bx.cell 4⟩ | exact ⟨s3.out.bx.cell 0, s3.out.bx.cell 1, s3.out.bx.cell 2, s3.out.bx.cell 3, s3.out.bx.cell 4⟩ | exact ⟨s4.out.bx.cell 0, s4.out.bx.cell 1, s4.out.bx.cell 2, s4.out.bx.cell 3, s4.out.bx.cell 4⟩)
                clear hK K
                try simp only [Act.put, List.setIfInBounds_toArray, List.set_cons_zero, List.set_cons_succ]
                refine regTake (i := 8) (v := ?_) rfl (by kernel_rfl) (by kernel_rfl) (by kernel_rfl) (fun _ _ _ h => h) (by rfl) ?_ (by assumption) ?_
                rotate_left
                · intro w_ hSw
                  (try dsimp only at hSw)
                  go_simp
                  (try with_reducible rfl)
                try simp only [Act.put, List.setIfInBounds_toArray, List.set_cons_zero, List.set_cons_succ]
                refine regTake (i := 9) (v := ?_) rfl (by kernel_rfl) (by kernel_rfl) (by kernel_rfl) (fun _ _ _ h => h) (by rfl) ?_ (by assumption) ?_
                rotate_left
                · intro w_ hSw
                  (try dsimp only at hSw)
                  go_simp
                  (try with_reducible rfl)
                try simp only [Act.put, List.setIfInBounds_toArray, List.set_cons_zero, List.set_cons_succ]
                refine regTake (i := 10) (v := ?_) rfl (by kernel_rfl) (by kernel_rfl) (by kernel_rfl) (fun _ _ _ h => h) (by rfl) ?_ (by assumption) ?_
                rotate_left
                · intro w_ hSw
                  (try dsimp only at hSw)
                  go_simp
                  (try with_reducible rfl)
                try simp only [Act.put, List.setIfInBounds_toArray, List.set_cons_zero, List.set_cons_succ]
                refine regTake (i := 11) (v := ?_) rfl (by kernel_rfl) (by kernel_rfl) (by kernel_rfl) (fun _ _ _ h => h) (by rfl) ?_ (by assumption) ?_
                rotate_left
                · intro w_ hSw
                  (try dsimp only at hSw)
                  go_simp
                  (try with_reducible rfl)
                try simp only [Act.put, List.setIfInBounds_toArray, List.set_cons_zero, List.set_cons_succ]
                refine regTake (i := 12) (v := ?_) rfl (by kernel_rfl) (by kernel_rfl) (by kernel_rfl) (fun _ _ _ h => h) (by rfl) ?_ (by assumption) ?_
                rotate_left
                · intro w_ hSw
                  (try dsimp only at hSw)
                  go_simp
                  (try with_reducible rfl)
                try simp only [Act.put, List.setIfInBounds_toArray, List.set_cons_zero, List.set_cons_succ]
                refine regTake (i := 13) (v := ?_) rfl (by kernel_rfl) (by kernel_rfl) (by kernel_rfl) (fun _ _ _ h => h) (by rfl) ?_ (by assumption) ?_
                rotate_left
                · intro w_ hSw
                  (try dsimp only at hSw)
                  go_simp
                  (try with_reducible rfl)
                try simp only [Act.put, List.setIfInBounds_toArray, List.set_cons_zero, List.set_cons_succ]
                refine regTake (i := 14) (v := ?_) rfl (by kernel_rfl) (by kernel_rfl) (by kernel_rfl) (fun _ _ _ h => h) (by rfl) ?_ (by assumption) ?_
                rotate_left
                · intro w_ hSw
                  (try dsimp only at hSw)
                  go_simp
                  (try with_reducible rfl)
                try simp only [Act.put, List.setIfInBounds_toArray, List.set_cons_zero, List.set_cons_succ]
                refine regCall (i := 15) (by kernel_rfl) rfl (by rfl) (fun K hK => ?_)
                go_simp
                (go_at_call 71; refine (change_impl _ _ _ _ _ _).mono ?_; rintro e w3 ⟨rfl, hb3⟩; have s3 := Lib.hid (s2.out.below hb3))
                refine hK.out _ _ ?_ (fun hHeld => ?_)
                · (try dsimp only)
                  (first | exact ⟨x0, x1, x2, x3, x4⟩ | exact ⟨s2.out.bx.cell 0, s2.out.bx.cell 1, s2.out.bx.cell 2, s2.out.bx.cell 3, s2.out.bx.cell 4⟩ | exact ⟨s3.out.bx.cell 0, s3.out.bx.cell 1, s3.out.bx.cell 2, s3.out.bx.cell 3, s3.out.bx.cell 4⟩ | exact ⟨s4.out.bx.cell 0, s4.out.bx.cell 1, s4.out.bx.cell 2, s4.out.bx.cell 3, s4.out.bx.cell 4⟩)
                clear hK K
                try simp only [Act.put, List.setIfInBounds_toArray, List.set_cons_zero, List.set_cons_succ]
                refine regTake (i := 16) (v := ?_) rfl (by kernel_rfl) (by kernel_rfl) (by kernel_rfl) (fun _ _ _ h => h) (by rfl) ?_ (by assumption) ?_
                rotate_left
                · intro w_ hSw
                  (try dsimp only at hSw)
                  go_simp
                  (try with_reducible rfl)
                try simp only [Act.put, List.setIfInBounds_toArray, List.set_cons_zero, List.set_cons_succ]
                refine regCall (i := 17) (by kernel_rfl) rfl (by rfl) (fun K hK => ?_)
                go_simp
                (go_at_call 68; refine (giveI_some s3.out ((m : Int) + 1) n1 (m + 1) HWC.out hl hLn HGV.out).mono ?_; rintro e w4 ⟨rfl, gw4, cw4, q4⟩; rw [← HL1.out] at q4; have s4 := Lib.hid q4)
                refine hK.out _ _ ?_ (fun hHeld => ?_)
                · (try dsimp only)
                  (first | exact ⟨x0, x1, x2, x3, x4⟩ | exact ⟨s2.out.bx.cell 0, s2.out.bx.cell 1, s2.out.bx.cell 2, s2.out.bx.cell 3, s2.out.bx.cell 4⟩ | exact ⟨s3.out.bx.cell 0, s3.out.bx.cell 1, s3.out.bx.cell 2, s3.out.bx.cell 3, s3.out.bx.cell 4⟩ | exact ⟨s4.out.bx.cell 0, s4.out.bx.cell 1, s4.out.bx.cell 2, s4.out.bx.cell 3, s4.out.bx.cell 4⟩)
                clear hK K
                try simp only [Act.put, List.setIfInBounds_toArray, List.set_cons_zero, List.set_cons_succ]
                refine regTake (i := 18) (v := ?_) rfl (by kernel_rfl) (by kernel_rfl) (by kernel_rfl) (fun _ _ _ h => h) (by rfl) ?_ (by assumption) ?_
                rotate_left
                · intro w_ hSw
                  (try dsimp only at hSw)
                  go_simp
                  (try with_reducible rfl)
                try simp only [Act.put, List.setIfInBounds_toArray, List.set_cons_zero, List.set_cons_succ]
                refine regTake (i := 19) (v := ?_) rfl (by kernel_rfl) (by kernel_rfl) (by kernel_rfl) (fun _ _ _ h => h) (by rfl) ?_ (by assumption) ?_
                rotate_left
                · intro w_ hSw
                  (try dsimp only at hSw)
                  go_simp
                  (try with_reducible rfl)
                try simp only [Act.put, List.setIfInBounds_toArray, List.set_cons_zero, List.set_cons_succ]
                refine regTake (i := 20) (v := ?_) rfl (by kernel_rfl) (by kernel_rfl) (by kernel_rfl) (fun _ _ _ h => h) (by rfl) ?_ (by assumption) ?_
                rotate_left
                · intro w_ hSw
                  (try dsimp only at hSw)
                  go_simp
                  (try with_reducible rfl)
                try simp only [Act.put, List.setIfInBounds_toArray, List.set_cons_zero, List.set_cons_succ]
                refine regTake (i := 21) (v := ?_) rfl (by kernel_rfl) (by kernel_rfl) (by kernel_rfl) (fun _ _ _ h => h) (by rfl) ?_ (by assumption) ?_
                rotate_left
                · intro w_ hSw
                  (try dsimp only at hSw)
                  go_simp
                  (try with_reducible rfl)
                try simp only [Act.put, List.setIfInBounds_toArray, List.set_cons_zero, List.set_cons_succ]
                refine regTake (i := 22) (v := ?_) rfl (by kernel_rfl) (by kernel_rfl) (by kernel_rfl) (fun _ _ _ h => h) (by rfl) ?_ (by assumption) ?_
                rotate_left
                · intro w_ hSw
                  (try dsimp only at hSw)
                  go_simp
                  (try with_reducible rfl)
                try simp only [Act.put, List.setIfInBounds_toArray, List.set_cons_zero, List.set_cons_succ]
                refine regTake (i := 23) (v := ?_) rfl (by kernel_rfl) (by kernel_rfl) (by kernel_rfl) (fun _ _ _ h => h) (by rfl) ?_ (by assumption) ?_
                rotate_left
                · intro w_ hSw
                  (try dsimp only at hSw)
                  go_simp
                  (try with_reducible rfl)
                try simp only [Act.put, List.setIfInBounds_toArray, List.set_cons_zero, List.set_cons_succ]
                refine regCall (i := 24) (by kernel_rfl) rfl (by rfl) (fun K hK => ?_)
                go_simp
                (go_at_call 72; refine (ht_impl _ _).mono ?_; rintro e w' ⟨rfl, rfl⟩)
                refine hK.out _ _ ?_ (fun hHeld => ?_)
                · (try dsimp only)
                  (first | exact ⟨x0, x1, x2, x3, x4⟩ | exact ⟨s2.out.bx.cell 0, s2.out.bx.cell 1, s2.out.bx.cell 2, s2.out.bx.cell 3, s2.out.bx.cell 4⟩ | exact ⟨s3.out.bx.cell 0, s3.out.bx.cell 1, s3.out.bx.cell 2, s3.out.bx.cell 3, s3.out.bx.cell 4⟩ | exact ⟨s4.out.bx.cell 0, s4.out.bx.cell 1, s4.out.bx.cell 2, s4.out.bx.cell 3, s4.out.bx.cell 4⟩)
                clear hK K
                try simp only [Act.put, List.setIfInBounds_toArray, List.set_cons_zero, List.set_cons_succ]
                refine regTake (i := 25) (v := ?_) rfl (by kernel_rfl) (by kernel_rfl) (by kernel_rfl) (fun _ _ _ h => h) (by rfl) ?_ (by assumption) ?_
                rotate_left
                · intro w_ hSw
                  (try dsimp only at hSw)
                  go_simp
                  (try with_reducible rfl)
                try simp only [Act.put, List.setIfInBounds_toArray, List.set_cons_zero, List.set_cons_succ]
                refine regSkip (i := 26) rfl (by kernel_rfl) (by kernel_rfl) (by kernel_rfl) (fun _ _ _ h => h) (by rfl) (by assumption) ?_
                try simp only [Act.put, List.setIfInBounds_toArray, List.set_cons_zero, List.set_cons_succ]
                refine regSkip (i := 27) rfl (by kernel_rfl) (by kernel_rfl) (by kernel_rfl) (fun _ _ _ h => h) (by rfl) (by assumption) ?_
                try simp only [Act.put, List.setIfInBounds_toArray, List.set_cons_zero, List.set_cons_succ]
                refine regSkip (i := 28) rfl (by kernel_rfl) (by kernel_rfl) (by kernel_rfl) (fun _ _ _ h => h) (by rfl) (by assumption) ?_
                try simp only [Act.put, List.setIfInBounds_toArray, List.set_cons_zero, List.set_cons_succ]
                refine regSkip (i := 29) rfl (by kernel_rfl) (by kernel_rfl) (by kernel_rfl) (fun _ _ _ h => h) (by rfl) (by assumption) ?_
                try simp only [Act.put, List.setIfInBounds_toArray, List.set_cons_zero, List.set_cons_succ]
                refine regSkip (i := 30) rfl (by kernel_rfl) (by kernel_rfl) (by kernel_rfl) (fun _ _ _ h => h) (by rfl) (by assumption) ?_
                try simp only [Act.put, List.setIfInBounds_toArray, List.set_cons_zero, List.set_cons_succ]
                refine regSkip (i := 31) rfl (by kernel_rfl) (by kernel_rfl) (by kernel_rfl) (fun _ _ _ h => h) (by rfl) (by assumption) ?_
                try simp only [Act.put, List.setIfInBounds_toArray, List.set_cons_zero, List.set_cons_succ]
                refine regSkip (i := 32) rfl (by kernel_rfl) (by kernel_rfl) (by kernel_rfl) (fun _ _ _ h => h) (by rfl) (by assumption) ?_
                try simp only [Act.put, List.setIfInBounds_toArray, List.set_cons_zero, List.set_cons_succ]
                refine regSkip (i := 33) rfl (by kernel_rfl) (by kernel_rfl) (by kernel_rfl) (fun _ _ _ h => h) (by rfl) (by assumption) ?_
                try simp only [Act.put, List.setIfInBounds_toArray, List.set_cons_zero, List.set_cons_succ]
                refine regSkip (i := 34) rfl (by kernel_rfl) (by kernel_rfl) (by kernel_rfl) (fun _ _ _ h => h) (by rfl) (by assumption) ?_
                try simp only [Act.put, List.setIfInBounds_toArray, List.set_cons_zero, List.set_cons_succ]
                refine regSkip (i := 35) rfl (by kernel_rfl) (by kernel_rfl) (by kernel_rfl) (fun _ _ _ h => h) (by rfl) (by assumption) ?_
                try simp only [Act.put, List.setIfInBounds_toArray, List.set_cons_zero, List.set_cons_succ]
                refine regTake (i := 36) (v := ?_) rfl (by kernel_rfl) (by kernel_rfl) (by kernel_rfl) (fun _ _ _ h => h) (by rfl) ?_ (by assumption) ?_
                rotate_left
                · intro w_ hSw
                  (try dsimp only at hSw)
                  go_simp
                  (try with_reducible rfl)
                try simp only [Act.put, List.setIfInBounds_toArray, List.set_cons_zero, List.set_cons_succ]
                refine regTake (i := 37) (v := ?_) rfl (by kernel_rfl) (by kernel_rfl) (by kernel_rfl) (fun _ _ _ h => h) (by rfl) ?_ (by assumption) ?_
                rotate_left
                · intro w_ hSw
                  (try dsimp only at hSw)
                  go_simp
                  (try with_reducible rfl)
                try simp only [Act.put, List.setIfInBounds_toArray, List.set_cons_zero, List.set_cons_succ]
                refine wpAnyH_done (by kernel_rfl) ?_ _
                go_wp2_with fail
                clear hw1 hwk
                go_roundg (2 * nocnt V1 + L1.length)
                case measure => have := WD.out.2.2; omega
                case rel => exact ⟨V1, L1, _, _, rfl, WD.out.1, WD.out.2.1, s4.out.st⟩
              | true =>
                have HIF2 := Lib.hid hif2
                have hy1 : 0 ≤ y1 ∧ y1 < (z5.length : Int) := insF_tgt (HALL.out m _ hml HX.out) hif2
                obtain ⟨m1, hm1⟩ : ∃ m1 : Nat, y1 = (m1 : Int) := ⟨y1.toNat, by omega⟩
                have HM1 := Lib.hid hm1
                have hm19 : m1 ≤ 1000000000 := by omega
                have hy0 : 0 ≤ y1 := hy1.1
                clear hm1 hy1
                have hmem2 := Lib.hid (nx_two (h := h) HX.out HIF2.out)
                rw [← HN2.out] at hmem2
                cases hgu : giveF V1 y1 n2 with
                | none =>
                  have HGU := Lib.hid hgu
                  clear hgu
                  have hw1 := HW1.out
                  have hwk := HWK.out
                  have hw2 := HW2.out
                  refine wp_region_held_drew (S := (fun w_ => w_.cell? ⟨X, 0, none⟩ = some (.int .i64 y0) ∧ w_.cell? ⟨X, 1, none⟩ = some (.int .i64 y1) ∧ w_.cell? ⟨X, 2, none⟩ = some (.int .i64 y2) ∧ w_.cell? ⟨X, 3, none⟩ = some (.string y3) ∧ w_.cell? ⟨X, 4, none⟩ = some (.string y4))) (by kernel_rfl) ?_ (fun hHeld => ?_)
                  · (try dsimp only)
                    (first | exact ⟨x0, x1, x2, x3, x4⟩ | exact ⟨s2.out.bx.cell 0, s2.out.bx.cell 1, s2.out.bx.cell 2, s2.out.bx.cell 3, s2.out.bx.cell 4⟩ | exact ⟨s3.out.bx.cell 0, s3.out.bx.cell 1, s3.out.bx.cell 2, s3.out.bx.cell 3, s3.out.bx.cell 4⟩ | exact ⟨s4.out.bx.cell 0, s4.out.bx.cell 1, s4.out.bx.cell 2, s4.out.bx.cell 3, s4.out.bx.cell 4⟩)
                  refine regTake (i := 0) (v := ?_) rfl (by kernel_rfl) (by kernel_rfl) (by kernel_rfl) (fun _ _ _ h => h) (by rfl) ?_ (by assumption) ?_
                  rotate_left
                  · intro w_ hSw
                    (try dsimp only at hSw)
                    go_simp
                    (try with_reducible rfl)
                  try simp only [Act.put, List.setIfInBounds_toArray, List.set_cons_zero, List.set_cons_succ]
                  refine regTake (i := 2) (v := ?_) rfl (by kernel_rfl) (by kernel_rfl) (by kernel_rfl) (fun _ _ _ h => h) (by rfl) ?_ (by assumption) ?_
                  rotate_left
                  · intro w_ hSw
                    (try dsimp only at hSw)
                    go_simp
                    (try with_reducible rfl)
                  try simp only [Act.put, List.setIfInBounds_toArray, List.set_cons_zero, List.set_cons_succ]
                  refine regCall (i := 1) (by kernel_rfl) rfl (by rfl) (fun K hK => ?_)
                  go_simp
                  (go_at_call 69; refine (need_impl _ _ _ _ _ _).mono ?_; rintro e w2 ⟨rfl, hb2⟩; have s2 := Lib.hid (s1.out.drew.below hb2))
                  refine hK.out _ _ ?_ (fun hHeld => ?_)
                  · (try dsimp only)
                    (first | exact ⟨x0, x1, x2, x3, x4⟩ | exact ⟨s2.out.bx.cell 0, s2.out.bx.cell 1, s2.out.bx.cell 2, s2.out.bx.cell 3, s2.out.bx.cell 4⟩ | exact ⟨s3.out.bx.cell 0, s3.out.bx.cell 1, s3.out.bx.cell 2, s3.out.bx.cell 3, s3.out.bx.cell 4⟩ | exact ⟨s4.out.bx.cell 0, s4.out.bx.cell 1, s4.out.bx.cell 2, s4.out.bx.cell 3, s4.out.bx.cell 4⟩)
                  clear hK K
                  try simp only [Act.put, List.setIfInBounds_toArray, List.set_cons_zero, List.set_cons_succ]
                  refine regTake (i := 3) (v := ?_) rfl (by kernel_rfl) (by kernel_rfl) (by kernel_rfl) (fun _ _ _ h => h) (by rfl) ?_ (by assumption) ?_
                  rotate_left
                  · intro w_ hSw
                    (try dsimp only at hSw)
                    go_simp
                    (try with_reducible rfl)
                  try simp only [Act.put, List.setIfInBounds_toArray, List.set_cons_zero, List.set_cons_succ]
                  refine regTake (i := 4) (v := ?_) rfl (by kernel_rfl) (by kernel_rfl) (by kernel_rfl) (fun _ _ _ h => h) (by rfl) ?_ (by assumption) ?_
                  rotate_left
                  · intro w_ hSw
                    (try dsimp only at hSw)
                    go_simp
                    (try with_reducible rfl)
                  try simp only [Act.put, List.setIfInBounds_toArray, List.set_cons_zero, List.set_cons_succ]
                  refine regTake (i := 5) (v := ?_) rfl (by kernel_rfl) (by kernel_rfl) (by kernel_rfl) (fun _ _ _ h => h) (by rfl) ?_ (by assumption) ?_
                  rotate_left
                  · intro w_ hSw
                    (try dsimp only at hSw)
                    go_simp
                    (try with_reducible rfl)
                  try simp only [Act.put, List.setIfInBounds_toArray, List.set_cons_zero, List.set_cons_succ]
                  refine regTake (i := 6) (v := ?_) rfl (by kernel_rfl) (by kernel_rfl) (by kernel_rfl) (fun _ _ _ h => h) (by rfl) ?_ (by assumption) ?_
                  rotate_left
                  · intro w_ hSw
                    (try dsimp only at hSw)
                    go_simp
                    (try with_reducible rfl)
                  try simp only [Act.put, List.setIfInBounds_toArray, List.set_cons_zero, List.set_cons_succ]
                  refine regCall (i := 7) (by kernel_rfl) rfl (by rfl) (fun K hK => ?_)
                  go_simp
                  (go_at_call 70; refine (if_impl _ _).mono ?_; rintro e w' ⟨rfl, rfl⟩)
                  refine hK.out _ _ ?_ (fun hHeld => ?_)
                  · (try dsimp only)
                    (first | exact ⟨x0, x1, x2, x3, x4⟩ | exact ⟨s2.out.bx.cell 0, s2.out.bx.cell 1, s2.out.bx.cell 2, s2.out.bx.cell 3, s2.out.bx.cell 4⟩ | exact ⟨s3.out.bx.cell 0, s3.out.bx.cell 1, s3.out.bx.cell 2, s3.out.bx.cell 3, s3.out.bx.cell 4⟩ | exact ⟨s4.out.bx.cell 0, s4.out.bx.cell 1, s4.out.bx.cell 2, s4.out.bx.cell 3, s4.out.bx.cell 4⟩)
                  clear hK K
                  try simp only [Act.put, List.setIfInBounds_toArray, List.set_cons_zero, List.set_cons_succ]
                  refine regTake (i := 8) (v := ?_) rfl (by kernel_rfl) (by kernel_rfl) (by kernel_rfl) (fun _ _ _ h => h) (by rfl) ?_ (by assumption) ?_
                  rotate_left
                  · intro w_ hSw
                    (try dsimp only at hSw)
                    go_simp
                    (try with_reducible rfl)
                  try simp only [Act.put, List.setIfInBounds_toArray, List.set_cons_zero, List.set_cons_succ]
                  refine regTake (i := 9) (v := ?_) rfl (by kernel_rfl) (by kernel_rfl) (by kernel_rfl) (fun _ _ _ h => h) (by rfl) ?_ (by assumption) ?_
                  rotate_left
                  · intro w_ hSw
                    (try dsimp only at hSw)
                    go_simp
                    (try with_reducible rfl)
                  try simp only [Act.put, List.setIfInBounds_toArray, List.set_cons_zero, List.set_cons_succ]
                  refine regTake (i := 10) (v := ?_) rfl (by kernel_rfl) (by kernel_rfl) (by kernel_rfl) (fun _ _ _ h => h) (by rfl) ?_ (by assumption) ?_
                  rotate_left
                  · intro w_ hSw
                    (try dsimp only at hSw)
                    go_simp
                    (try with_reducible rfl)
                  try simp only [Act.put, List.setIfInBounds_toArray, List.set_cons_zero, List.set_cons_succ]
                  refine regTake (i := 11) (v := ?_) rfl (by kernel_rfl) (by kernel_rfl) (by kernel_rfl) (fun _ _ _ h => h) (by rfl) ?_ (by assumption) ?_
                  rotate_left
                  · intro w_ hSw
                    (try dsimp only at hSw)
                    go_simp
                    (try with_reducible rfl)
                  try simp only [Act.put, List.setIfInBounds_toArray, List.set_cons_zero, List.set_cons_succ]
                  refine regTake (i := 12) (v := ?_) rfl (by kernel_rfl) (by kernel_rfl) (by kernel_rfl) (fun _ _ _ h => h) (by rfl) ?_ (by assumption) ?_
                  rotate_left
                  · intro w_ hSw
                    (try dsimp only at hSw)
                    go_simp
                    (try with_reducible rfl)
                  try simp only [Act.put, List.setIfInBounds_toArray, List.set_cons_zero, List.set_cons_succ]
                  refine regTake (i := 13) (v := ?_) rfl (by kernel_rfl) (by kernel_rfl) (by kernel_rfl) (fun _ _ _ h => h) (by rfl) ?_ (by assumption) ?_
                  rotate_left
                  · intro w_ hSw
                    (try dsimp only at hSw)
                    go_simp
                    (try with_reducible rfl)
                  try simp only [Act.put, List.setIfInBounds_toArray, List.set_cons_zero, List.set_cons_succ]
                  refine regTake (i := 14) (v := ?_) rfl (by kernel_rfl) (by kernel_rfl) (by kernel_rfl) (fun _ _ _ h => h) (by rfl) ?_ (by assumption) ?_
                  rotate_left
                  · intro w_ hSw
                    (try dsimp only at hSw)
                    go_simp
                    (try with_reducible rfl)
                  try simp only [Act.put, List.setIfInBounds_toArray, List.set_cons_zero, List.set_cons_succ]
                  refine regCall (i := 15) (by kernel_rfl) rfl (by rfl) (fun K hK => ?_)
                  go_simp
                  (go_at_call 71; refine (change_impl _ _ _ _ _ _).mono ?_; rintro e w3 ⟨rfl, hb3⟩; have s3 := Lib.hid (s2.out.below hb3))
                  refine hK.out _ _ ?_ (fun hHeld => ?_)
                  · (try dsimp only)
                    (first | exact ⟨x0, x1, x2, x3, x4⟩ | exact ⟨s2.out.bx.cell 0, s2.out.bx.cell 1, s2.out.bx.cell 2, s2.out.bx.cell 3, s2.out.bx.cell 4⟩ | exact ⟨s3.out.bx.cell 0, s3.out.bx.cell 1, s3.out.bx.cell 2, s3.out.bx.cell 3, s3.out.bx.cell 4⟩ | exact ⟨s4.out.bx.cell 0, s4.out.bx.cell 1, s4.out.bx.cell 2, s4.out.bx.cell 3, s4.out.bx.cell 4⟩)
                  clear hK K
                  try simp only [Act.put, List.setIfInBounds_toArray, List.set_cons_zero, List.set_cons_succ]
                  refine regTake (i := 16) (v := ?_) rfl (by kernel_rfl) (by kernel_rfl) (by kernel_rfl) (fun _ _ _ h => h) (by rfl) ?_ (by assumption) ?_
                  rotate_left
                  · intro w_ hSw
                    (try dsimp only at hSw)
                    go_simp
                    (try with_reducible rfl)
                  try simp only [Act.put, List.setIfInBounds_toArray, List.set_cons_zero, List.set_cons_succ]
                  refine regCall (i := 17) (by kernel_rfl) rfl (by rfl) (fun K hK => ?_)
                  go_simp
                  (go_at_call 68; refine (giveI_some s3.out ((m : Int) + 1) n1 (m + 1) HWC.out hl hLn HGV.out).mono ?_; rintro e w4 ⟨rfl, gw4, cw4, q4⟩; rw [← HL1.out] at q4; have s4 := Lib.hid q4)
                  refine hK.out _ _ ?_ (fun hHeld => ?_)
                  · (try dsimp only)
                    (first | exact ⟨x0, x1, x2, x3, x4⟩ | exact ⟨s2.out.bx.cell 0, s2.out.bx.cell 1, s2.out.bx.cell 2, s2.out.bx.cell 3, s2.out.bx.cell 4⟩ | exact ⟨s3.out.bx.cell 0, s3.out.bx.cell 1, s3.out.bx.cell 2, s3.out.bx.cell 3, s3.out.bx.cell 4⟩ | exact ⟨s4.out.bx.cell 0, s4.out.bx.cell 1, s4.out.bx.cell 2, s4.out.bx.cell 3, s4.out.bx.cell 4⟩)
                  clear hK K
                  try simp only [Act.put, List.setIfInBounds_toArray, List.set_cons_zero, List.set_cons_succ]
                  refine regTake (i := 18) (v := ?_) rfl (by kernel_rfl) (by kernel_rfl) (by kernel_rfl) (fun _ _ _ h => h) (by rfl) ?_ (by assumption) ?_
                  rotate_left
                  · intro w_ hSw
                    (try dsimp only at hSw)
                    go_simp
                    (try with_reducible rfl)
                  try simp only [Act.put, List.setIfInBounds_toArray, List.set_cons_zero, List.set_cons_succ]
                  refine regTake (i := 19) (v := ?_) rfl (by kernel_rfl) (by kernel_rfl) (by kernel_rfl) (fun _ _ _ h => h) (by rfl) ?_ (by assumption) ?_
                  rotate_left
                  · intro w_ hSw
                    (try dsimp only at hSw)
                    go_simp
                    (try with_reducible rfl)
                  try simp only [Act.put, List.setIfInBounds_toArray, List.set_cons_zero, List.set_cons_succ]
                  refine regTake (i := 20) (v := ?_) rfl (by kernel_rfl) (by kernel_rfl) (by kernel_rfl) (fun _ _ _ h => h) (by rfl) ?_ (by assumption) ?_
                  rotate_left
                  · intro w_ hSw
                    (try dsimp only at hSw)
                    go_simp
                    (try with_reducible rfl)
                  try simp only [Act.put, List.setIfInBounds_toArray, List.set_cons_zero, List.set_cons_succ]
                  refine regTake (i := 21) (v := ?_) rfl (by kernel_rfl) (by kernel_rfl) (by kernel_rfl) (fun _ _ _ h => h) (by rfl) ?_ (by assumption) ?_
                  rotate_left
                  · intro w_ hSw
                    (try dsimp only at hSw)
                    go_simp
                    (try with_reducible rfl)
                  try simp only [Act.put, List.setIfInBounds_toArray, List.set_cons_zero, List.set_cons_succ]
                  refine regTake (i := 22) (v := ?_) rfl (by kernel_rfl) (by kernel_rfl) (by kernel_rfl) (fun _ _ _ h => h) (by rfl) ?_ (by assumption) ?_
                  rotate_left
                  · intro w_ hSw
                    (try dsimp only at hSw)
                    go_simp
                    (try with_reducible rfl)
                  try simp only [Act.put, List.setIfInBounds_toArray, List.set_cons_zero, List.set_cons_succ]
                  refine regTake (i := 23) (v := ?_) rfl (by kernel_rfl) (by kernel_rfl) (by kernel_rfl) (fun _ _ _ h => h) (by rfl) ?_ (by assumption) ?_
                  rotate_left
                  · intro w_ hSw
                    (try dsimp only at hSw)
                    go_simp
                    (try with_reducible rfl)
                  try simp only [Act.put, List.setIfInBounds_toArray, List.set_cons_zero, List.set_cons_succ]
                  refine regCall (i := 24) (by kernel_rfl) rfl (by rfl) (fun K hK => ?_)
                  go_simp
                  (go_at_call 72; refine (ht_impl _ _).mono ?_; rintro e w' ⟨rfl, rfl⟩)
                  refine hK.out _ _ ?_ (fun hHeld => ?_)
                  · (try dsimp only)
                    (first | exact ⟨x0, x1, x2, x3, x4⟩ | exact ⟨s2.out.bx.cell 0, s2.out.bx.cell 1, s2.out.bx.cell 2, s2.out.bx.cell 3, s2.out.bx.cell 4⟩ | exact ⟨s3.out.bx.cell 0, s3.out.bx.cell 1, s3.out.bx.cell 2, s3.out.bx.cell 3, s3.out.bx.cell 4⟩ | exact ⟨s4.out.bx.cell 0, s4.out.bx.cell 1, s4.out.bx.cell 2, s4.out.bx.cell 3, s4.out.bx.cell 4⟩)
                  clear hK K
                  try simp only [Act.put, List.setIfInBounds_toArray, List.set_cons_zero, List.set_cons_succ]
                  refine regTake (i := 25) (v := ?_) rfl (by kernel_rfl) (by kernel_rfl) (by kernel_rfl) (fun _ _ _ h => h) (by rfl) ?_ (by assumption) ?_
                  rotate_left
                  · intro w_ hSw
                    (try dsimp only at hSw)
                    go_simp
                    (try with_reducible rfl)
                  try simp only [Act.put, List.setIfInBounds_toArray, List.set_cons_zero, List.set_cons_succ]
                  refine regTake (i := 26) (v := ?_) rfl (by kernel_rfl) (by kernel_rfl) (by kernel_rfl) (fun _ _ _ h => h) (by rfl) ?_ (by assumption) ?_
                  rotate_left
                  · intro w_ hSw
                    (try dsimp only at hSw)
                    go_simp
                    (try with_reducible rfl)
                  try simp only [Act.put, List.setIfInBounds_toArray, List.set_cons_zero, List.set_cons_succ]
                  refine regTake (i := 27) (v := ?_) rfl (by kernel_rfl) (by kernel_rfl) (by kernel_rfl) (fun _ _ _ h => h) (by rfl) ?_ (by assumption) ?_
                  rotate_left
                  · intro w_ hSw
                    (try dsimp only at hSw)
                    go_simp
                    (try with_reducible rfl)
                  try simp only [Act.put, List.setIfInBounds_toArray, List.set_cons_zero, List.set_cons_succ]
                  refine regTake (i := 28) (v := ?_) rfl (by kernel_rfl) (by kernel_rfl) (by kernel_rfl) (fun _ _ _ h => h) (by rfl) ?_ (by assumption) ?_
                  rotate_left
                  · intro w_ hSw
                    (try dsimp only at hSw)
                    go_simp
                    (try with_reducible rfl)
                  try simp only [Act.put, List.setIfInBounds_toArray, List.set_cons_zero, List.set_cons_succ]
                  refine regTake (i := 29) (v := ?_) rfl (by kernel_rfl) (by kernel_rfl) (by kernel_rfl) (fun _ _ _ h => h) (by rfl) ?_ (by assumption) ?_
                  rotate_left
                  · intro w_ hSw
                    (try dsimp only at hSw)
                    go_simp
                    (try with_reducible rfl)
                  try simp only [Act.put, List.setIfInBounds_toArray, List.set_cons_zero, List.set_cons_succ]
                  refine regTake (i := 30) (v := ?_) rfl (by kernel_rfl) (by kernel_rfl) (by kernel_rfl) (fun _ _ _ h => h) (by rfl) ?_ (by assumption) ?_
                  rotate_left
                  · intro w_ hSw
                    (try dsimp only at hSw)
                    go_simp
                    (try with_reducible rfl)
                  try simp only [Act.put, List.setIfInBounds_toArray, List.set_cons_zero, List.set_cons_succ]
                  refine regTake (i := 31) (v := ?_) rfl (by kernel_rfl) (by kernel_rfl) (by kernel_rfl) (fun _ _ _ h => h) (by rfl) ?_ (by assumption) ?_
                  rotate_left
                  · intro w_ hSw
                    (try dsimp only at hSw)
                    go_simp
                    (try with_reducible rfl)
                  try simp only [Act.put, List.setIfInBounds_toArray, List.set_cons_zero, List.set_cons_succ]
                  refine regCall (i := 32) (by kernel_rfl) rfl (by rfl) (fun K hK => ?_)
                  go_simp
                  (go_at_call 73; refine (tc_impl _ _).mono ?_; rintro e w' ⟨rfl, rfl⟩)
                  refine hK.out _ _ ?_ (fun hHeld => ?_)
                  · (try dsimp only)
                    (first | exact ⟨x0, x1, x2, x3, x4⟩ | exact ⟨s2.out.bx.cell 0, s2.out.bx.cell 1, s2.out.bx.cell 2, s2.out.bx.cell 3, s2.out.bx.cell 4⟩ | exact ⟨s3.out.bx.cell 0, s3.out.bx.cell 1, s3.out.bx.cell 2, s3.out.bx.cell 3, s3.out.bx.cell 4⟩ | exact ⟨s4.out.bx.cell 0, s4.out.bx.cell 1, s4.out.bx.cell 2, s4.out.bx.cell 3, s4.out.bx.cell 4⟩)
                  clear hK K
                  try simp only [Act.put, List.setIfInBounds_toArray, List.set_cons_zero, List.set_cons_succ]
                  refine regTake (i := 33) (v := ?_) rfl (by kernel_rfl) (by kernel_rfl) (by kernel_rfl) (fun _ _ _ h => h) (by rfl) ?_ (by assumption) ?_
                  rotate_left
                  · intro w_ hSw
                    (try dsimp only at hSw)
                    go_simp
                    (try with_reducible rfl)
                  try simp only [Act.put, List.setIfInBounds_toArray, List.set_cons_zero, List.set_cons_succ]
                  refine regCall (i := 34) (by kernel_rfl) rfl (by rfl) (fun K hK => ?_)
                  go_simp
                  (go_at_call 68; refine (giveI_none s4.out y1 n2 m1 HM1.out hl HGU.out hm19).mono ?_; rintro e w5 ⟨rfl, rfl⟩)
                  refine hK.out _ _ ?_ (fun hHeld => ?_)
                  · (try dsimp only)
                    (first | exact ⟨x0, x1, x2, x3, x4⟩ | exact ⟨s2.out.bx.cell 0, s2.out.bx.cell 1, s2.out.bx.cell 2, s2.out.bx.cell 3, s2.out.bx.cell 4⟩ | exact ⟨s3.out.bx.cell 0, s3.out.bx.cell 1, s3.out.bx.cell 2, s3.out.bx.cell 3, s3.out.bx.cell 4⟩ | exact ⟨s4.out.bx.cell 0, s4.out.bx.cell 1, s4.out.bx.cell 2, s4.out.bx.cell 3, s4.out.bx.cell 4⟩)
                  clear hK K
                  try simp only [Act.put, List.setIfInBounds_toArray, List.set_cons_zero, List.set_cons_succ]
                  refine regTake (i := 35) (v := ?_) rfl (by kernel_rfl) (by kernel_rfl) (by kernel_rfl) (fun _ _ _ h => h) (by rfl) ?_ (by assumption) ?_
                  rotate_left
                  · intro w_ hSw
                    (try dsimp only at hSw)
                    go_simp
                    (try with_reducible rfl)
                  try simp only [Act.put, List.setIfInBounds_toArray, List.set_cons_zero, List.set_cons_succ]
                  refine regTake (i := 36) (v := ?_) rfl (by kernel_rfl) (by kernel_rfl) (by kernel_rfl) (fun _ _ _ h => h) (by rfl) ?_ (by assumption) ?_
                  rotate_left
                  · intro w_ hSw
                    (try dsimp only at hSw)
                    go_simp
                    (try with_reducible rfl)
                  try simp only [Act.put, List.setIfInBounds_toArray, List.set_cons_zero, List.set_cons_succ]
                  refine regTake (i := 37) (v := ?_) rfl (by kernel_rfl) (by kernel_rfl) (by kernel_rfl) (fun _ _ _ h => h) (by rfl) ?_ (by assumption) ?_
                  rotate_left
                  · intro w_ hSw
                    (try dsimp only at hSw)
                    go_simp
                    (try with_reducible rfl)
                  try simp only [Act.put, List.setIfInBounds_toArray, List.set_cons_zero, List.set_cons_succ]
                  refine wpAnyH_done (by kernel_rfl) ?_ _
                  clear hw1 hwk hw2
                  obtain ⟨e1, e2⟩ := htV_none (HEQ.out.trans (giveF_none GI1.out.1 hrch1.out hmem2.out hy0 HGU.out))
                  have EE := Lib.hid (And.intro e1 e2)
                  clear e1 e2
                  go_wp2_with fail
                  go_ret2
                  exact HE.out _ [] false EE.out.1 EE.out.2 none 0 (World.ownsRow_nil _ _ _ _) s4.out.st.bl
                | some V2 =>
                  have HGU := Lib.hid hgu
                  clear hgu
                  obtain ⟨L2, hL2⟩ : ∃ L2, L2 = actL V1 L1 y1 := ⟨_, rfl⟩
                  have HL2 := Lib.hid hL2
                  clear hL2
                  have WD := Lib.hid (work_done (V2 := V2) (L2 := L2) HX.out HVM.out hh0 hnd (by rw [← HN1.out]; exact GI1.out) (by show GvI _ _ _ _ _ _ (htF y0) _ _; rw [← HN2.out, HL2.out]; exact GvI.some GI1.out.1 GI1.out.2.2.2.1 hrch1.out hmem2.out hy0 HGU.out))
                  have hw1 := HW1.out
                  have hwk := HWK.out
                  have hw2 := HW2.out
                  refine wp_region_held_drew (S := (fun w_ => w_.cell? ⟨X, 0, none⟩ = some (.int .i64 y0) ∧ w_.cell? ⟨X, 1, none⟩ = some (.int .i64 y1) ∧ w_.cell? ⟨X, 2, none⟩ = some (.int .i64 y2) ∧ w_.cell? ⟨X, 3, none⟩ = some (.string y3) ∧ w_.cell? ⟨X, 4, none⟩ = some (.string y4))) (by kernel_rfl) ?_ (fun hHeld => ?_)
                  · (try dsimp only)
                    (first | exact ⟨x0, x1, x2, x3, x4⟩ | exact ⟨s2.out.bx.cell 0, s2.out.bx.cell 1, s2.out.bx.cell 2, s2.out.bx.cell 3, s2.out.bx.cell 4⟩ | exact ⟨s3.out.bx.cell 0, s3.out.bx.cell 1, s3.out.bx.cell 2, s3.out.bx.cell 3, s3.out.bx.cell 4⟩ | exact ⟨s4.out.bx.cell 0, s4.out.bx.cell 1, s4.out.bx.cell 2, s4.out.bx.cell 3, s4.out.bx.cell 4⟩ | exact ⟨s5.out.bx.cell 0, s5.out.bx.cell 1, s5.out.bx.cell 2, s5.out.bx.cell 3, s5.out.bx.cell 4⟩)
                  refine regTake (i := 0) (v := ?_) rfl (by kernel_rfl) (by kernel_rfl) (by kernel_rfl) (fun _ _ _ h => h) (by rfl) ?_ (by assumption) ?_
                  rotate_left
                  · intro w_ hSw
                    (try dsimp only at hSw)
                    go_simp
                    (try with_reducible rfl)
                  try simp only [Act.put, List.setIfInBounds_toArray, List.set_cons_zero, List.set_cons_succ]
                  refine regTake (i := 2) (v := ?_) rfl (by kernel_rfl) (by kernel_rfl) (by kernel_rfl) (fun _ _ _ h => h) (by rfl) ?_ (by assumption) ?_
                  rotate_left
                  · intro w_ hSw
                    (try dsimp only at hSw)
                    go_simp
                    (try with_reducible rfl)
                  try simp only [Act.put, List.setIfInBounds_toArray, List.set_cons_zero, List.set_cons_succ]
                  refine regCall (i := 1) (by kernel_rfl) rfl (by rfl) (fun K hK => ?_)
                  go_simp
                  (go_at_call 69; refine (need_impl _ _ _ _ _ _).mono ?_; rintro e w2 ⟨rfl, hb2⟩; have s2 := Lib.hid (s1.out.drew.below hb2))
                  refine hK.out _ _ ?_ (fun hHeld => ?_)
                  · (try dsimp only)
                    (first | exact ⟨x0, x1, x2, x3, x4⟩ | exact ⟨s2.out.bx.cell 0, s2.out.bx.cell 1, s2.out.bx.cell 2, s2.out.bx.cell 3, s2.out.bx.cell 4⟩ | exact ⟨s3.out.bx.cell 0, s3.out.bx.cell 1, s3.out.bx.cell 2, s3.out.bx.cell 3, s3.out.bx.cell 4⟩ | exact ⟨s4.out.bx.cell 0, s4.out.bx.cell 1, s4.out.bx.cell 2, s4.out.bx.cell 3, s4.out.bx.cell 4⟩ | exact ⟨s5.out.bx.cell 0, s5.out.bx.cell 1, s5.out.bx.cell 2, s5.out.bx.cell 3, s5.out.bx.cell 4⟩)
                  clear hK K
                  try simp only [Act.put, List.setIfInBounds_toArray, List.set_cons_zero, List.set_cons_succ]
                  refine regTake (i := 3) (v := ?_) rfl (by kernel_rfl) (by kernel_rfl) (by kernel_rfl) (fun _ _ _ h => h) (by rfl) ?_ (by assumption) ?_
                  rotate_left
                  · intro w_ hSw
                    (try dsimp only at hSw)
                    go_simp
                    (try with_reducible rfl)
                  try simp only [Act.put, List.setIfInBounds_toArray, List.set_cons_zero, List.set_cons_succ]
                  refine regTake (i := 4) (v := ?_) rfl (by kernel_rfl) (by kernel_rfl) (by kernel_rfl) (fun _ _ _ h => h) (by rfl) ?_ (by assumption) ?_
                  rotate_left
                  · intro w_ hSw
                    (try dsimp only at hSw)
                    go_simp
                    (try with_reducible rfl)
                  try simp only [Act.put, List.setIfInBounds_toArray, List.set_cons_zero, List.set_cons_succ]
                  refine regTake (i := 5) (v := ?_) rfl (by kernel_rfl) (by kernel_rfl) (by kernel_rfl) (fun _ _ _ h => h) (by rfl) ?_ (by assumption) ?_
                  rotate_left
                  · intro w_ hSw
                    (try dsimp only at hSw)
                    go_simp
                    (try with_reducible rfl)
                  try simp only [Act.put, List.setIfInBounds_toArray, List.set_cons_zero, List.set_cons_succ]
                  refine regTake (i := 6) (v := ?_) rfl (by kernel_rfl) (by kernel_rfl) (by kernel_rfl) (fun _ _ _ h => h) (by rfl) ?_ (by assumption) ?_
                  rotate_left
                  · intro w_ hSw
                    (try dsimp only at hSw)
                    go_simp
                    (try with_reducible rfl)
                  try simp only [Act.put, List.setIfInBounds_toArray, List.set_cons_zero, List.set_cons_succ]
                  refine regCall (i := 7) (by kernel_rfl) rfl (by rfl) (fun K hK => ?_)
                  go_simp
                  (go_at_call 70; refine (if_impl _ _).mono ?_; rintro e w' ⟨rfl, rfl⟩)
                  refine hK.out _ _ ?_ (fun hHeld => ?_)
                  · (try dsimp only)
                    (first | exact ⟨x0, x1, x2, x3, x4⟩ | exact ⟨s2.out.bx.cell 0, s2.out.bx.cell 1, s2.out.bx.cell 2, s2.out.bx.cell 3, s2.out.bx.cell 4⟩ | exact ⟨s3.out.bx.cell 0, s3.out.bx.cell 1, s3.out.bx.cell 2, s3.out.bx.cell 3, s3.out.bx.cell 4⟩ | exact ⟨s4.out.bx.cell 0, s4.out.bx.cell 1, s4.out.bx.cell 2, s4.out.bx.cell 3, s4.out.bx.cell 4⟩ | exact ⟨s5.out.bx.cell 0, s5.out.bx.cell 1, s5.out.bx.cell 2, s5.out.bx.cell 3, s5.out.bx.cell 4⟩)
                  clear hK K
                  try simp only [Act.put, List.setIfInBounds_toArray, List.set_cons_zero, List.set_cons_succ]
                  refine regTake (i := 8) (v := ?_) rfl (by kernel_rfl) (by kernel_rfl) (by kernel_rfl) (fun _ _ _ h => h) (by rfl) ?_ (by assumption) ?_
                  rotate_left
                  · intro w_ hSw
                    (try dsimp only at hSw)
                    go_simp
                    (try with_reducible rfl)
                  try simp only [Act.put, List.setIfInBounds_toArray, List.set_cons_zero, List.set_cons_succ]
                  refine regTake (i := 9) (v := ?_) rfl (by kernel_rfl) (by kernel_rfl) (by kernel_rfl) (fun _ _ _ h => h) (by rfl) ?_ (by assumption) ?_
                  rotate_left
                  · intro w_ hSw
                    (try dsimp only at hSw)
                    go_simp
                    (try with_reducible rfl)
                  try simp only [Act.put, List.setIfInBounds_toArray, List.set_cons_zero, List.set_cons_succ]
                  refine regTake (i := 10) (v := ?_) rfl (by kernel_rfl) (by kernel_rfl) (by kernel_rfl) (fun _ _ _ h => h) (by rfl) ?_ (by assumption) ?_
                  rotate_left
                  · intro w_ hSw
                    (try dsimp only at hSw)
                    go_simp
                    (try with_reducible rfl)
                  try simp only [Act.put, List.setIfInBounds_toArray, List.set_cons_zero, List.set_cons_succ]
                  refine regTake (i := 11) (v := ?_) rfl (by kernel_rfl) (by kernel_rfl) (by kernel_rfl) (fun _ _ _ h => h) (by rfl) ?_ (by assumption) ?_
                  rotate_left
                  · intro w_ hSw
                    (try dsimp only at hSw)
                    go_simp
                    (try with_reducible rfl)
                  try simp only [Act.put, List.setIfInBounds_toArray, List.set_cons_zero, List.set_cons_succ]
                  refine regTake (i := 12) (v := ?_) rfl (by kernel_rfl) (by kernel_rfl) (by kernel_rfl) (fun _ _ _ h => h) (by rfl) ?_ (by assumption) ?_
                  rotate_left
                  · intro w_ hSw
                    (try dsimp only at hSw)
                    go_simp
                    (try with_reducible rfl)
                  try simp only [Act.put, List.setIfInBounds_toArray, List.set_cons_zero, List.set_cons_succ]
                  refine regTake (i := 13) (v := ?_) rfl (by kernel_rfl) (by kernel_rfl) (by kernel_rfl) (fun _ _ _ h => h) (by rfl) ?_ (by assumption) ?_
                  rotate_left
                  · intro w_ hSw
                    (try dsimp only at hSw)
                    go_simp
                    (try with_reducible rfl)
                  try simp only [Act.put, List.setIfInBounds_toArray, List.set_cons_zero, List.set_cons_succ]
                  refine regTake (i := 14) (v := ?_) rfl (by kernel_rfl) (by kernel_rfl) (by kernel_rfl) (fun _ _ _ h => h) (by rfl) ?_ (by assumption) ?_
                  rotate_left
                  · intro w_ hSw
                    (try dsimp only at hSw)
                    go_simp
                    (try with_reducible rfl)
                  try simp only [Act.put, List.setIfInBounds_toArray, List.set_cons_zero, List.set_cons_succ]
                  refine regCall (i := 15) (by kernel_rfl) rfl (by rfl) (fun K hK => ?_)
                  go_simp
                  (go_at_call 71; refine (change_impl _ _ _ _ _ _).mono ?_; rintro e w3 ⟨rfl, hb3⟩; have s3 := Lib.hid (s2.out.below hb3))
                  refine hK.out _ _ ?_ (fun hHeld => ?_)
                  · (try dsimp only)
                    (first | exact ⟨x0, x1, x2, x3, x4⟩ | exact ⟨s2.out.bx.cell 0, s2.out.bx.cell 1, s2.out.bx.cell 2, s2.out.bx.cell 3, s2.out.bx.cell 4⟩ | exact ⟨s3.out.bx.cell 0, s3.out.bx.cell 1, s3.out.bx.cell 2, s3.out.bx.cell 3, s3.out.bx.cell 4⟩ | exact ⟨s4.out.bx.cell 0, s4.out.bx.cell 1, s4.out.bx.cell 2, s4.out.bx.cell 3, s4.out.bx.cell 4⟩ | exact ⟨s5.out.bx.cell 0, s5.out.bx.cell 1, s5.out.bx.cell 2, s5.out.bx.cell 3, s5.out.bx.cell 4⟩)
                  clear hK K
                  try simp only [Act.put, List.setIfInBounds_toArray, List.set_cons_zero, List.set_cons_succ]
                  refine regTake (i := 16) (v := ?_) rfl (by kernel_rfl) (by kernel_rfl) (by kernel_rfl) (fun _ _ _ h => h) (by rfl) ?_ (by assumption) ?_
                  rotate_left
                  · intro w_ hSw
                    (try dsimp only at hSw)
                    go_simp
                    (try with_reducible rfl)
                  try simp only [Act.put, List.setIfInBounds_toArray, List.set_cons_zero, List.set_cons_succ]
                  refine regCall (i := 17) (by kernel_rfl) rfl (by rfl) (fun K hK => ?_)
                  go_simp
                  (go_at_call 68; refine (giveI_some s3.out ((m : Int) + 1) n1 (m + 1) HWC.out hl hLn HGV.out).mono ?_; rintro e w4 ⟨rfl, gw4, cw4, q4⟩; rw [← HL1.out] at q4; have s4 := Lib.hid q4)
                  refine hK.out _ _ ?_ (fun hHeld => ?_)
                  · (try dsimp only)
                    (first | exact ⟨x0, x1, x2, x3, x4⟩ | exact ⟨s2.out.bx.cell 0, s2.out.bx.cell 1, s2.out.bx.cell 2, s2.out.bx.cell 3, s2.out.bx.cell 4⟩ | exact ⟨s3.out.bx.cell 0, s3.out.bx.cell 1, s3.out.bx.cell 2, s3.out.bx.cell 3, s3.out.bx.cell 4⟩ | exact ⟨s4.out.bx.cell 0, s4.out.bx.cell 1, s4.out.bx.cell 2, s4.out.bx.cell 3, s4.out.bx.cell 4⟩ | exact ⟨s5.out.bx.cell 0, s5.out.bx.cell 1, s5.out.bx.cell 2, s5.out.bx.cell 3, s5.out.bx.cell 4⟩)
                  clear hK K
                  try simp only [Act.put, List.setIfInBounds_toArray, List.set_cons_zero, List.set_cons_succ]
                  refine regTake (i := 18) (v := ?_) rfl (by kernel_rfl) (by kernel_rfl) (by kernel_rfl) (fun _ _ _ h => h) (by rfl) ?_ (by assumption) ?_
                  rotate_left
                  · intro w_ hSw
                    (try dsimp only at hSw)
                    go_simp
                    (try with_reducible rfl)
                  try simp only [Act.put, List.setIfInBounds_toArray, List.set_cons_zero, List.set_cons_succ]
                  refine regTake (i := 19) (v := ?_) rfl (by kernel_rfl) (by kernel_rfl) (by kernel_rfl) (fun _ _ _ h => h) (by rfl) ?_ (by assumption) ?_
                  rotate_left
                  · intro w_ hSw
                    (try dsimp only at hSw)
                    go_simp
                    (try with_reducible rfl)
                  try simp only [Act.put, List.setIfInBounds_toArray, List.set_cons_zero, List.set_cons_succ]
                  refine regTake (i := 20) (v := ?_) rfl (by kernel_rfl) (by kernel_rfl) (by kernel_rfl) (fun _ _ _ h => h) (by rfl) ?_ (by assumption) ?_
                  rotate_left
                  · intro w_ hSw
                    (try dsimp only at hSw)
                    go_simp
                    (try with_reducible rfl)
                  try simp only [Act.put, List.setIfInBounds_toArray, List.set_cons_zero, List.set_cons_succ]
                  refine regTake (i := 21) (v := ?_) rfl (by kernel_rfl) (by kernel_rfl) (by kernel_rfl) (fun _ _ _ h => h) (by rfl) ?_ (by assumption) ?_
                  rotate_left
                  · intro w_ hSw
                    (try dsimp only at hSw)
                    go_simp
                    (try with_reducible rfl)
                  try simp only [Act.put, List.setIfInBounds_toArray, List.set_cons_zero, List.set_cons_succ]
                  refine regTake (i := 22) (v := ?_) rfl (by kernel_rfl) (by kernel_rfl) (by kernel_rfl) (fun _ _ _ h => h) (by rfl) ?_ (by assumption) ?_
                  rotate_left
                  · intro w_ hSw
                    (try dsimp only at hSw)
                    go_simp
                    (try with_reducible rfl)
                  try simp only [Act.put, List.setIfInBounds_toArray, List.set_cons_zero, List.set_cons_succ]
                  refine regTake (i := 23) (v := ?_) rfl (by kernel_rfl) (by kernel_rfl) (by kernel_rfl) (fun _ _ _ h => h) (by rfl) ?_ (by assumption) ?_
                  rotate_left
                  · intro w_ hSw
                    (try dsimp only at hSw)
                    go_simp
                    (try with_reducible rfl)
                  try simp only [Act.put, List.setIfInBounds_toArray, List.set_cons_zero, List.set_cons_succ]
                  refine regCall (i := 24) (by kernel_rfl) rfl (by rfl) (fun K hK => ?_)
                  go_simp
                  (go_at_call 72; refine (ht_impl _ _).mono ?_; rintro e w' ⟨rfl, rfl⟩)
                  refine hK.out _ _ ?_ (fun hHeld => ?_)
                  · (try dsimp only)
                    (first | exact ⟨x0, x1, x2, x3, x4⟩ | exact ⟨s2.out.bx.cell 0, s2.out.bx.cell 1, s2.out.bx.cell 2, s2.out.bx.cell 3, s2.out.bx.cell 4⟩ | exact ⟨s3.out.bx.cell 0, s3.out.bx.cell 1, s3.out.bx.cell 2, s3.out.bx.cell 3, s3.out.bx.cell 4⟩ | exact ⟨s4.out.bx.cell 0, s4.out.bx.cell 1, s4.out.bx.cell 2, s4.out.bx.cell 3, s4.out.bx.cell 4⟩ | exact ⟨s5.out.bx.cell 0, s5.out.bx.cell 1, s5.out.bx.cell 2, s5.out.bx.cell 3, s5.out.bx.cell 4⟩)
                  clear hK K
                  try simp only [Act.put, List.setIfInBounds_toArray, List.set_cons_zero, List.set_cons_succ]
                  refine regTake (i := 25) (v := ?_) rfl (by kernel_rfl) (by kernel_rfl) (by kernel_rfl) (fun _ _ _ h => h) (by rfl) ?_ (by assumption) ?_
                  rotate_left
                  · intro w_ hSw
                    (try dsimp only at hSw)
                    go_simp
                    (try with_reducible rfl)
                  try simp only [Act.put, List.setIfInBounds_toArray, List.set_cons_zero, List.set_cons_succ]
                  refine regTake (i := 26) (v := ?_) rfl (by kernel_rfl) (by kernel_rfl) (by kernel_rfl) (fun _ _ _ h => h) (by rfl) ?_ (by assumption) ?_
                  rotate_left
                  · intro w_ hSw
                    (try dsimp only at hSw)
                    go_simp
                    (try with_reducible rfl)
                  try simp only [Act.put, List.setIfInBounds_toArray, List.set_cons_zero, List.set_cons_succ]
                  refine regTake (i := 27) (v := ?_) rfl (by kernel_rfl) (by kernel_rfl) (by kernel_rfl) (fun _ _ _ h => h) (by rfl) ?_ (by assumption) ?_
                  rotate_left
                  · intro w_ hSw
                    (try dsimp only at hSw)
                    go_simp
                    (try with_reducible rfl)
                  try simp only [Act.put, List.setIfInBounds_toArray, List.set_cons_zero, List.set_cons_succ]
                  refine regTake (i := 28) (v := ?_) rfl (by kernel_rfl) (by kernel_rfl) (by kernel_rfl) (fun _ _ _ h => h) (by rfl) ?_ (by assumption) ?_
                  rotate_left
                  · intro w_ hSw
                    (try dsimp only at hSw)
                    go_simp
                    (try with_reducible rfl)
                  try simp only [Act.put, List.setIfInBounds_toArray, List.set_cons_zero, List.set_cons_succ]
                  refine regTake (i := 29) (v := ?_) rfl (by kernel_rfl) (by kernel_rfl) (by kernel_rfl) (fun _ _ _ h => h) (by rfl) ?_ (by assumption) ?_
                  rotate_left
                  · intro w_ hSw
                    (try dsimp only at hSw)
                    go_simp
                    (try with_reducible rfl)
                  try simp only [Act.put, List.setIfInBounds_toArray, List.set_cons_zero, List.set_cons_succ]
                  refine regTake (i := 30) (v := ?_) rfl (by kernel_rfl) (by kernel_rfl) (by kernel_rfl) (fun _ _ _ h => h) (by rfl) ?_ (by assumption) ?_
                  rotate_left
                  · intro w_ hSw
                    (try dsimp only at hSw)
                    go_simp
                    (try with_reducible rfl)
                  try simp only [Act.put, List.setIfInBounds_toArray, List.set_cons_zero, List.set_cons_succ]
                  refine regTake (i := 31) (v := ?_) rfl (by kernel_rfl) (by kernel_rfl) (by kernel_rfl) (fun _ _ _ h => h) (by rfl) ?_ (by assumption) ?_
                  rotate_left
                  · intro w_ hSw
                    (try dsimp only at hSw)
                    go_simp
                    (try with_reducible rfl)
                  try simp only [Act.put, List.setIfInBounds_toArray, List.set_cons_zero, List.set_cons_succ]
                  refine regCall (i := 32) (by kernel_rfl) rfl (by rfl) (fun K hK => ?_)
                  go_simp
                  (go_at_call 73; refine (tc_impl _ _).mono ?_; rintro e w' ⟨rfl, rfl⟩)
                  refine hK.out _ _ ?_ (fun hHeld => ?_)
                  · (try dsimp only)
                    (first | exact ⟨x0, x1, x2, x3, x4⟩ | exact ⟨s2.out.bx.cell 0, s2.out.bx.cell 1, s2.out.bx.cell 2, s2.out.bx.cell 3, s2.out.bx.cell 4⟩ | exact ⟨s3.out.bx.cell 0, s3.out.bx.cell 1, s3.out.bx.cell 2, s3.out.bx.cell 3, s3.out.bx.cell 4⟩ | exact ⟨s4.out.bx.cell 0, s4.out.bx.cell 1, s4.out.bx.cell 2, s4.out.bx.cell 3, s4.out.bx.cell 4⟩ | exact ⟨s5.out.bx.cell 0, s5.out.bx.cell 1, s5.out.bx.cell 2, s5.out.bx.cell 3, s5.out.bx.cell 4⟩)
                  clear hK K
                  try simp only [Act.put, List.setIfInBounds_toArray, List.set_cons_zero, List.set_cons_succ]
                  refine regTake (i := 33) (v := ?_) rfl (by kernel_rfl) (by kernel_rfl) (by kernel_rfl) (fun _ _ _ h => h) (by rfl) ?_ (by assumption) ?_
                  rotate_left
                  · intro w_ hSw
                    (try dsimp only at hSw)
                    go_simp
                    (try with_reducible rfl)
                  try simp only [Act.put, List.setIfInBounds_toArray, List.set_cons_zero, List.set_cons_succ]
                  refine regCall (i := 34) (by kernel_rfl) rfl (by rfl) (fun K hK => ?_)
                  go_simp
                  (go_at_call 68; refine (giveI_some s4.out y1 n2 m1 HM1.out hl hLn1 HGU.out).mono ?_; rintro e w5 ⟨rfl, gw5, cw5, q5⟩; rw [← HL2.out] at q5; have s5 := Lib.hid q5)
                  refine hK.out _ _ ?_ (fun hHeld => ?_)
                  · (try dsimp only)
                    (first | exact ⟨x0, x1, x2, x3, x4⟩ | exact ⟨s2.out.bx.cell 0, s2.out.bx.cell 1, s2.out.bx.cell 2, s2.out.bx.cell 3, s2.out.bx.cell 4⟩ | exact ⟨s3.out.bx.cell 0, s3.out.bx.cell 1, s3.out.bx.cell 2, s3.out.bx.cell 3, s3.out.bx.cell 4⟩ | exact ⟨s4.out.bx.cell 0, s4.out.bx.cell 1, s4.out.bx.cell 2, s4.out.bx.cell 3, s4.out.bx.cell 4⟩ | exact ⟨s5.out.bx.cell 0, s5.out.bx.cell 1, s5.out.bx.cell 2, s5.out.bx.cell 3, s5.out.bx.cell 4⟩)
                  clear hK K
                  try simp only [Act.put, List.setIfInBounds_toArray, List.set_cons_zero, List.set_cons_succ]
                  refine regTake (i := 35) (v := ?_) rfl (by kernel_rfl) (by kernel_rfl) (by kernel_rfl) (fun _ _ _ h => h) (by rfl) ?_ (by assumption) ?_
                  rotate_left
                  · intro w_ hSw
                    (try dsimp only at hSw)
                    go_simp
                    (try with_reducible rfl)
                  try simp only [Act.put, List.setIfInBounds_toArray, List.set_cons_zero, List.set_cons_succ]
                  refine regTake (i := 36) (v := ?_) rfl (by kernel_rfl) (by kernel_rfl) (by kernel_rfl) (fun _ _ _ h => h) (by rfl) ?_ (by assumption) ?_
                  rotate_left
                  · intro w_ hSw
                    (try dsimp only at hSw)
                    go_simp
                    (try with_reducible rfl)
                  try simp only [Act.put, List.setIfInBounds_toArray, List.set_cons_zero, List.set_cons_succ]
                  refine regTake (i := 37) (v := ?_) rfl (by kernel_rfl) (by kernel_rfl) (by kernel_rfl) (fun _ _ _ h => h) (by rfl) ?_ (by assumption) ?_
                  rotate_left
                  · intro w_ hSw
                    (try dsimp only at hSw)
                    go_simp
                    (try with_reducible rfl)
                  try simp only [Act.put, List.setIfInBounds_toArray, List.set_cons_zero, List.set_cons_succ]
                  refine wpAnyH_done (by kernel_rfl) ?_ _
                  clear hw1 hwk hw2
                  go_wp2_with fail
                  go_roundg (2 * nocnt V2 + L2.length)
                  case measure => have := WD.out.2.2; omega
                  case rel => exact ⟨V2, L2, _, _, rfl, WD.out.1, WD.out.2.1, s5.out.st⟩
end Go.Proofs.YtdmbhmhfjappcaaGreatDoor
