/-
  Parts of the proof: LmL. Conditions: none.
-/
import Derived.Test.YtimiieckkdogeaaGreatQLmK
import Derived.Test.YtimiieckkdogeaaGreatQIsU9
set_option linter.unusedVariables false
set_option linter.unusedSimpArgs false
namespace Go.Proofs.YtimiieckkdogeaaGreat
set_option maxHeartbeats 40000000
open Lib (hid)
open Go.ChangeShapes Go.WideShapes Go.ChangeAt Go.RowKit Go.Deep Go.Joins
open Go.ChangeMaps (open_string shut_string)
set_option maxRecDepth 100000
theorem owni_emp0 {w X : World} (h : Below w.heap.size w X) : OwnI (X.alloc (.cells #[] 40)) w.heap.size (X.alloc (.cells #[] 40)).heap.size [.s 40 4 ([] : List FClass).length (FClass.flat [])] [.slice (some ⟨X.heap.size, 0, none⟩) 0 0] := by
  have hs := h.size
  refine ⟨[X.heap.size], OwnL.one (by simpa [ownB, Value.ownBlock] using OwnC.mk (ownsRow_leC (own_empty X 40 4) hs) (OwnL.nil _)), by simp, fun b hb => ?_⟩
  rw [List.mem_singleton.1 hb]
  exact ⟨hs, by simp⟩
theorem below_emp0 {w X : World} (h : Below w.heap.size w X) : Below w.heap.size w (X.alloc (.cells #[] 40)) := h.alloc h.size _
theorem owni_emp1 {w X : World} {o : Obj} (h : Below w.heap.size w X) : OwnI ((X.alloc o).alloc (.cells #[] 40)) w.heap.size ((X.alloc o).alloc (.cells #[] 40)).heap.size [.s 40 4 ([] : List FClass).length (FClass.flat [])] [.slice (some ⟨X.heap.size + 1, 0, none⟩) 0 0] := by
  have h1 := owni_emp0 (h.alloc h.size o)
  rwa [show (X.alloc o).heap.size = X.heap.size + 1 from by simp] at h1
theorem below_emp1 {w X : World} {o : Obj} (h : Below w.heap.size w X) : Below w.heap.size w ((X.alloc o).alloc (.cells #[] 40)) := below_emp0 (h.alloc h.size o)
theorem LinkClasses_spec (l : List FNode) (hw : l.length + FNode.wts l ≤ 900000000) (A : Option Addr) (c : Nat) (w : World) {B : Nat} (hB0 : B ≤ w.heap.size) (hr : RdC w B (.s 61 4 l.length (FNode.flat l)) (.slice A l.length c)) :
    Calls Tryz.prog 6 #[.slice A l.length c] w fun e w' => ∃ A' n c', e = .returned (.tuple #[.slice A' n c', .int .i64 (linkL l).1]) ∧ OwnI w' w.heap.size w'.heap.size [.s 40 4 (linkL l).2.length (FClass.flat (linkL l).2)] [.slice A' n c'] ∧ Below w.heap.size w w' := by
  have HR := hid hr
  clear hr
  go_enter Tryz.func6, Tryz.ntmps6
  go_upto_region 3 with (go_at_call 22; refine (err_spec _).mono ?_; rintro e w1 ⟨rfl, hF, hb⟩; have HF := hid hF; have HB1 := hid hb; clear hF hb)
  have T0 := two_errS HF.out HB1.out rfl rfl
  have b0 : Below w.heap.size w ((w1.alloc (.cells #[.string ⟨#[69, 114, 114, 111, 114]⟩, .string ⟨#[]⟩, .slice (some ⟨w.heap.size + 1, 0, none⟩) 1 1, .slice none 0 0] 40)).alloc (.cells #[] 40)) := (HB1.out.alloc HB1.out.size _).alloc (by have := HB1.out.size; simp; omega) _
  obtain ⟨N, hN⟩ : ∃ N, N = FNode.wts l + 1 := ⟨_, rfl⟩
  have G0 := link_start l N (by omega)
  have hN9 : N ≤ 900000001 := by omega
  have hGl : (namesG l).length ≤ 1000000000 := by have := names_len l; omega
  generalize (w1.alloc (.cells #[.string ⟨#[69, 114, 114, 111, 114]⟩, .string ⟨#[]⟩, .slice (some ⟨w.heap.size + 1, 0, none⟩) 1 1, .slice none 0 0] 40)).alloc (.cells #[] 40) = X3 at *
  have L0 : LcT l N w X3 (nodesL (l.drop 0)) (.slice (some ⟨w1.heap.size, 0, none⟩) 1 1) (.slice (some ⟨w1.heap.size + 1, 0, none⟩) 0 0) := ⟨_, _, _, _, _, _, rfl, rfl, T0, G0, rfl, b0⟩
  clear T0 G0 b0 hN
  go_wp2_with fail
  go_loopw [6, 4, 5] (fun iv u v wr => ∃ k : Nat, k ≤ l.length ∧ iv = .int .i64 k ∧ LcT l N w wr (nodesL (l.drop k)) u v) (fun iv _ _ _ => l.length - (intOf iv).toNat)
  case atStart => exact ⟨0, Nat.zero_le _, rfl, L0⟩
  case round =>
    clear L0
    obtain ⟨k, hk, rfl, L1⟩ := hrel
    obtain ⟨wo, rfl⟩ : ∃ X : World, X = wr := ⟨_, rfl⟩
    by_cases hlt : k < l.length
    · obtain ⟨x, hx⟩ : ∃ x, l[k]? = some x := ⟨_, List.getElem?_eq_getElem hlt⟩
      obtain ⟨bx, offx, Ex, hbl, hcc⟩ := RdC.at_ FNode.len HR.out hx
      subst Ex
      have hwx : x.wt ≤ 1000000000 := by have := FNode.wts_at l x (List.mem_of_getElem? hx); omega
      have SC := hid (script_spec x hwx)
      have ND := hid (nodes_drop hx)
      have hkw : x.kids.length ≤ 1000000000 := by have := kids_wt x; omega
      have HKW := hid (fun y (hy : y ∈ x.kids) => show y.kids.length ≤ 1000000000 from by have := (kid_wt hy).1; have := kids_wt y; omega)
      have hlt2 : (k : Int) < (l.length : Int) := by omega
      have hk0 : (0 : Int) ≤ (k : Int) := by omega
      obtain ⟨z0, z1, z2, z3⟩ := x
      have hz3l : z3.length ≤ 1000000000 := hkw
      obtain ⟨D, d, -, -, -, -, q3⟩ := opN (Below.refl w.heap.size w) (Nat.lt_of_lt_of_le hbl hB0) hcc (offx + k * 4) (offx + k * 4 + 1) (offx + k * 4 + 2) (offx + k * 4 + 3) (by omega)
      have QX := hid q3
      have XC := hid (fun (X : World) (hb : Below w.heap.size w X) => show ∃ D', ∃ d', X.cell? ⟨bx, offx + k * 4, none⟩ = some (.int .i64 z0) ∧ X.cell? ⟨bx, offx + k * 4 + 1, none⟩ = some (.int .i64 z1) ∧ X.cell? ⟨bx, offx + k * 4 + 2, none⟩ = some (.string z2) ∧ X.cell? ⟨bx, offx + k * 4 + 3, none⟩ = some (.slice D' z3.length d') ∧ RdC w B (.s 61 4 z3.length (FNode.flat z3)) (.slice D' z3.length d') from opN hb (Nat.lt_of_lt_of_le hbl hB0) hcc (offx + k * 4) (offx + k * 4 + 1) (offx + k * 4 + 2) (offx + k * 4 + 3) (by omega))
      clear hcc hx q3 QX
      generalize hs : scF ⟨z0, z1, z2, z3⟩ = sb at *
      go_wp2_with fail
      cases sb with
      | false =>
        have ND2 : nodesL (l.drop k) = nodesL (l.drop (k + 1)) := by rw [ND.out]; rfl
        rw [ND2] at L1
        clear ND ND2
        go_loopw [7, 4, 5] (fun iv u v wr => iv = .int .i64 0 ∧ LcT l N w wr (nodesL (l.drop (k + 1))) u v) (fun iv _ _ _ => 0)
        case atStart => exact ⟨rfl, L1⟩
        case round =>
          clear L1
          obtain ⟨rfl, L4⟩ := hrel
          obtain ⟨D2, d2, x0, x1, x2, x3, qq⟩ := XC.out wr L4.be
          have CALL := hid (SC.out [.int .i64 z0, .int .i64 z1, .string z2, .slice D2 z3.length d2] wr w.heap.size L4.be.size (ndV (qq.on L4.be hB0 hB0)))
          have L4h := hid L4
          clear L4 qq
          go_wp2_with (go_at_call 23; refine CALL.out.mono ?_; rintro e w4 ⟨rfl, hb⟩; have L5 := hid (L4h.out.below hb); clear hb)
          go_roundw
          case rel => exact ⟨k + 1, by omega, by go_num, L5.out⟩
          case measure => simp [intOf]; omega
      | true =>
        have ND2 : nodesL (l.drop k) = z3 ++ nodesL (l.drop (k + 1)) := by rw [ND.out]; rfl
        rw [ND2] at L1
        clear ND ND2
        obtain ⟨RS, hRS⟩ : ∃ RS, nodesL (l.drop (k + 1)) = RS := ⟨_, rfl⟩
        rw [hRS] at L1
        have HRS := hid hRS
        clear hRS
        go_loopw [7, 4, 5] (fun iv u v wr => ∃ m : Nat, m ≤ z3.length ∧ iv = .int .i64 m ∧ LcT l N w wr (z3.drop m ++ RS) u v) (fun iv _ _ _ => z3.length - (intOf iv).toNat)
        case atStart => exact ⟨0, Nat.zero_le _, rfl, L1⟩
        case round =>
          clear L1
          obtain ⟨m, hm, rfl, L4⟩ := hrel
          obtain ⟨wj, rfl⟩ : ∃ X : World, X = wr := ⟨_, rfl⟩
          have hm0 : (0 : Int) ≤ (m : Int) := by omega
          obtain ⟨D, d, x0_, x1_, x2_, x3_, qq⟩ := XC.out wj L4.be
          have CALL := hid (SC.out [.int .i64 z0, .int .i64 z1, .string z2, .slice D z3.length d] wj w.heap.size L4.be.size (ndV (qq.on L4.be hB0 hB0)))
          have QX := hid qq
          have XC3 := hid (fun (X : World) (hb : Below wj.heap.size wj X) => show X.cell? ⟨bx, offx + k * 4 + 3, none⟩ = some (.slice D z3.length d) from (hb.cell (p := ⟨bx, offx + k * 4 + 3, none⟩) (Nat.lt_of_lt_of_le (Nat.lt_of_lt_of_le hbl hB0) L4.be.size)).trans x3_)
          have L4h := hid L4
          clear L4 qq
          by_cases hmt : m < z3.length
          · obtain ⟨y, hy⟩ : ∃ y, z3[m]? = some y := ⟨_, List.getElem?_eq_getElem hmt⟩
            obtain ⟨by_, offy, Ey, hbly, hcc⟩ := RdC.at_ FNode.len QX.out hy
            subst Ey
            have HY := hid hy
            have hmt2 : (m : Int) < (z3.length : Int) := by omega
            obtain ⟨y0, y1, y2, y3⟩ := y
            go_upto_region 9 with (go_at_call 23; refine CALL.out.mono ?_; rintro e wi ⟨rfl, hb⟩; have L4 := L4h.out.below hb; have x3n := XC3.out _ hb; clear hb)
            rw [show z3.drop m ++ RS = FNode.mk y0 y1 y2 y3 :: (z3.drop (m + 1) ++ RS) from by rw [drop_cons hy]; rfl] at L4
            have bw : ∀ o, Below wi.heap.size wi (wi.alloc o) := fun o => (Below.refl _ _).alloc (Nat.le_refl _) o
            obtain ⟨Dy, dy, d_0, d_1, d_2, d_3, q3y⟩ := opN L4.be (Nat.lt_of_lt_of_le hbly hB0) hcc (offy + m * 4) (offy + m * 4 + 1) (offy + m * 4 + 2) (offy + m * 4 + 3) (by omega)
            clear hcc hy x0_ x1_ x2_ x3_ CALL
            by_cases h50 : y0 = 50
            · subst h50
              have L5 := L4.below (bw (.cells #[.int .i64 50, .int .i64 y1, .string y2, .slice Dy y3.length dy] 61))
              have bY := Blk.new wi 61 #[.int .i64 50, .int .i64 y1, .string y2, .slice Dy y3.length dy]
              have BYS := hid (show wi.heap.size < (wi.alloc (.cells #[.int .i64 50, .int .i64 y1, .string y2, .slice Dy y3.length dy] 61)).heap.size from by simp)
              go_upto_region 10 with fail
              generalize wi.alloc (.cells #[.int .i64 50, .int .i64 y1, .string y2, .slice Dy y3.length dy] 61) = X5 at *
              obtain ⟨K, J, AK, cK, AJ, cJ, eu, ev, T1, G1, E1, B1⟩ := L5
              subst eu ev
              have hg := G1.top ⟨50, y1, y2, y3⟩ (List.mem_cons_self ..)
              have hnc := G1.nc
              have hnt := G1.nt
              rw [List.length_map] at hnc hnt
              have hKl : K.length ≤ 900000001 := by omega
              have hJl : J.length ≤ 900000001 := by omega
              have PLK := hid (fun p (hp : p ∈ K) => show PlC p.1 from fun x hx => ((G1.gc p.1 (List.mem_map.2 ⟨p, hp, rfl⟩)).f.mem x hx).1)
              have PLJ := hid (fun p (hp : p ∈ J) => show PlC p.1 from fun x hx => ((G1.gt p.1 (List.mem_map.2 ⟨p, hp, rfl⟩)).f.mem x hx).1)
              have RKK := hid T1.a.rdK
              have RKJ := hid T1.b.rdK
              have FI := hid (fun (s : ByteArray) X (hb : Below X5.heap.size X5 X) => find_K K s AK cK X5 X (by omega) RKK.out PLK.out hb)
              have FJ := hid (fun (s : ByteArray) X (hb : Below X5.heap.size X5 X) => find_K J s AJ cJ X5 X (by omega) RKJ.out PLJ.out hb)
              have hcl := top_cl hg.1 (.inl rfl)
              have T1h := hid T1
              have G1h := hid G1
              have E1h := hid E1
              have B1h := hid B1
              have hkl3 : y3.length ≤ 1000000000 := HKW.out _ (List.mem_of_getElem? HY.out)
              have HCLO := hid hcl
              have bYl := bY.lt
              have bY0 := bY.cell 0; have bY1 := bY.cell 1; have bY2 := bY.cell 2; have bY3 := bY.cell 3; have bYl := bY.lt; have bYf := fun i => bY.frozen i
              have B5 := hid (Below.refl X5.heap.size X5)
              clear T1 G1 E1 L4 hnc hnt bw hcl PLK PLJ
              cases hbad : badN (K.map Prod.fst) (J.map Prod.fst) y2 with
              | true =>
                have EB := hid (show linkL l = (1, []) from by rw [E1h.out, addK_bad (.inl rfl) (by rw [linkC_1 hbad]; decide), linkC_1 hbad])
                have hq : (y2.toList == [115, 101, 108, 102] || (y2.toList == [112, 97, 114, 101, 110, 116] || (decide (0 ≤ fidx FClass.nm (K.map Prod.fst) y2) || decide (0 ≤ fidx FClass.nm (J.map Prod.fst) y2)))) = true := hbad
                have F1 := hid (FI.out y2)
                have F2 := hid (FJ.out y2)
                clear FI FJ hbad
                generalize fidx FClass.nm (K.map Prod.fst) y2 = fi at *
                generalize fidx FClass.nm (J.map Prod.fst) y2 = fj at *
                cases h1 : (y2.toList == [115, 101, 108, 102]) <;> rw [h1] at hq
                · cases h2 : (y2.toList == [112, 97, 114, 101, 110, 116]) <;> rw [h2] at hq
                  · cases h3 : decide (0 ≤ fi) <;> rw [h3] at hq
                    · cases h4 : decide (0 ≤ fj) <;> rw [h4] at hq
                      · simp at hq
                      · clear hq
                        have tok1 : True := trivial
                        go_wp2_with (first | (have _q := tok2; go_at_call 24; refine (F2.out _ HB1.out).mono ?_; rintro e w2 ⟨rfl, hb, hb2⟩; have HB2 := hid hb2; replace bY := bY.below hb (Nat.le_refl _); have bY2 := bY.cell 2; clear hb hb2) | (go_at_call 24; refine (F1.out _ B5.out).mono ?_; rintro e w1 ⟨rfl, hb, hb2⟩; have HB1 := hid hb2; replace bY := bY.below hb (Nat.le_refl _); have bY2 := bY.cell 2; have tok2 : True := trivial; clear hb hb2))
                        refine bodyPost_ret (v := .tuple #[.slice (some ⟨w2.heap.size, 0, none⟩) 0 0, .int .i64 1]) (by simp [results, Tryz.results6, go_sem]) rfl ⟨_, 0, 0, by rw [EB.out], by rw [EB.out]; first | exact owni_emp0 (B1h.out.trans (HB2.out.mono B1h.out.size)) | exact owni_emp1 (B1h.out.trans (HB2.out.mono B1h.out.size)), by first | exact below_emp0 (B1h.out.trans (HB2.out.mono B1h.out.size)) | exact below_emp1 (B1h.out.trans (HB2.out.mono B1h.out.size))⟩
                    · clear hq
                      go_wp2_with (go_at_call 24; refine (F1.out _ B5.out).mono ?_; rintro e w1 ⟨rfl, hb, hb2⟩; have HB1 := hid hb2; replace bY := bY.below hb (Nat.le_refl _); have bY2 := bY.cell 2; clear hb hb2)
                      refine bodyPost_ret (v := .tuple #[.slice (some ⟨w1.heap.size, 0, none⟩) 0 0, .int .i64 1]) (by simp [results, Tryz.results6, go_sem]) rfl ⟨_, 0, 0, by rw [EB.out], by rw [EB.out]; first | exact owni_emp0 (B1h.out.trans (HB1.out.mono B1h.out.size)) | exact owni_emp1 (B1h.out.trans (HB1.out.mono B1h.out.size)), by first | exact below_emp0 (B1h.out.trans (HB1.out.mono B1h.out.size)) | exact below_emp1 (B1h.out.trans (HB1.out.mono B1h.out.size))⟩
                  · clear hq
                    go_wp2_with fail
                    refine bodyPost_ret (v := .tuple #[.slice (some ⟨X5.heap.size, 0, none⟩) 0 0, .int .i64 1]) (by simp [results, Tryz.results6, go_sem]) rfl ⟨_, 0, 0, by rw [EB.out], by rw [EB.out]; first | exact owni_emp0 B1h.out | exact owni_emp1 B1h.out, by first | exact below_emp0 B1h.out | exact below_emp1 B1h.out⟩
                · clear hq
                  go_wp2_with fail
                  refine bodyPost_ret (v := .tuple #[.slice (some ⟨X5.heap.size, 0, none⟩) 0 0, .int .i64 1]) (by simp [results, Tryz.results6, go_sem]) rfl ⟨_, 0, 0, by rw [EB.out], by rw [EB.out]; first | exact owni_emp0 B1h.out | exact owni_emp1 B1h.out, by first | exact below_emp0 B1h.out | exact below_emp1 B1h.out⟩
              | false =>
                have hq : (y2.toList == [115, 101, 108, 102] || (y2.toList == [112, 97, 114, 101, 110, 116] || (decide (0 ≤ fidx FClass.nm (K.map Prod.fst) y2) || decide (0 ≤ fidx FClass.nm (J.map Prod.fst) y2)))) = false := hbad
                have HBD := hid hbad
                simp only [Bool.or_eq_false_iff] at hq
                obtain ⟨h1, h2, h3, h4⟩ := hq
                have F1 := hid (FI.out y2)
                have F2 := hid (FJ.out y2)
                clear hbad FJ
                generalize fidx FClass.nm (K.map Prod.fst) y2 = fi at *
                generalize fidx FClass.nm (J.map Prod.fst) y2 = fj at *
                have tok1 : True := trivial
                go_upto_region 13 with (first | (have _q := tok2; go_at_call 24; refine (F2.out _ HB1.out).mono ?_; rintro e w2 ⟨rfl, hb, hb2⟩; have HB2 := hid hb2; replace bY := bY.below hb (Nat.le_refl _); have bY2 := bY.cell 2; clear hb hb2) | (go_at_call 24; refine (F1.out _ B5.out).mono ?_; rintro e w1 ⟨rfl, hb, hb2⟩; have HB1 := hid hb2; replace bY := bY.below hb (Nat.le_refl _); have bY2 := bY.cell 2; have tok2 : True := trivial; clear hb hb2))
                go_upto_region 14 with fail
                have bX9 := Blk.new w2 40 #[.string ⟨#[]⟩, .string ⟨#[]⟩, .slice none 0 0, .slice none 0 0]
                have HB3 := hid (HB2.out.alloc HB2.out.size (.cells #[.string ⟨#[]⟩, .string ⟨#[]⟩, .slice none 0 0, .slice none 0 0] 40))
                replace bY := bY.alloc (.cells #[.string ⟨#[]⟩, .string ⟨#[]⟩, .slice none 0 0, .slice none 0 0] 40)
                clear bY2 bY0 bY1 bY3 bYl bYf F1 F2 HB1
                generalize w2.alloc (.cells #[.string ⟨#[]⟩, .string ⟨#[]⟩, .slice none 0 0, .slice none 0 0] 40) = W8 at *
                have bYl := bY.lt
                have bY0 := bY.cell 0; have bY1 := bY.cell 1; have bY2 := bY.cell 2; have bY3 := bY.cell 3; have bYl := bY.lt; have bYf := fun i => bY.frozen i
                have bX90 := bX9.cell 0; have bX91 := bX9.cell 1; have bX92 := bX9.cell 2; have bX93 := bX9.cell 3; have bX9l := bX9.lt; have bX9f := fun i => bX9.frozen i
                by_cases hx52 : (hdN y3).kd = 52
                · obtain ⟨y, hy0⟩ : ∃ y, y3[0]? = some y := by
                    cases hy3 : y3 with
                    | nil => rw [hy3] at hx52; exact absurd hx52 (by decide)
                    | cons a r => exact ⟨a, rfl⟩
                  have hhd := hdN_0 hy0
                  rw [hhd] at hx52
                  have hlen : 0 < y3.length := (List.getElem?_eq_some_iff.1 hy0).1
                  obtain ⟨bq, offq, Eq_, hblq, hcq⟩ := RdC.at_ FNode.len q3y hy0
                  subst Eq_
                  obtain ⟨x0, x1, x2, x3⟩ := y
                  obtain rfl : x0 = 52 := hx52
                  have BW8 := hid (B1h.out.trans (HB3.out.mono B1h.out.size))
                  obtain ⟨Dq, dq, u0, u1, u2, u3, -⟩ := opN BW8.out (Nat.lt_of_lt_of_le hblq hB0) hcq (offq) (offq + 1) (offq + 2) (offq + 3) (by omega)
                  have QC := hid (fun (X : World) (hb : Below w.heap.size w X) => show X.cell? ⟨bq, offq, none⟩ = some (.int .i64 52) ∧ X.cell? ⟨bq, offq + 2, none⟩ = some (.string x2) from by
                    obtain ⟨Dq, dq, u0, u1, u2, u3, -⟩ := opN hb (Nat.lt_of_lt_of_le hblq hB0) hcq (offq) (offq + 1) (offq + 2) (offq + 3) (by omega)
                    exact ⟨u0, u2⟩)
                  have hlen2 : (0 : Int) < (y3.length : Int) := by omega
                  have F3 := hid (FI.out x2)
                  rcases fidx_lt FClass.nm (K.map Prod.fst) x2 with hi | ⟨i, c9, hi, hil, hci⟩
                  · have EB := hid (show linkL l = (2, []) from by
                      have hn : linkC ⟨50, y1, y2, y3⟩ (K.map Prod.fst) (J.map Prod.fst) = (2, ⟨⟨#[]⟩, ⟨#[]⟩, [], []⟩) := linkC_none HBD.out (parC_no hy0 hi)
                      rw [E1h.out, addK_bad (.inl rfl) (by rw [hn]; decide), hn])
                    rw [hi] at F3
                    clear hcq hi FI
                    go_wp2_with (go_at_call 24; refine (F3.out _ HB3.out).mono ?_; rintro e w4 ⟨rfl, hb, hb2⟩; have HB4 := hid hb2; clear hb hb2)
                    refine bodyPost_ret (v := .tuple #[.slice (some ⟨w4.heap.size, 0, none⟩) 0 0, .int .i64 2]) (by simp [results, Tryz.results6, go_sem]) rfl ⟨_, 0, 0, by rw [EB.out], by rw [EB.out]; first | exact owni_emp0 (B1h.out.trans (HB4.out.mono B1h.out.size)) | exact owni_emp1 (B1h.out.trans (HB4.out.mono B1h.out.size)), by first | exact below_emp0 (B1h.out.trans (HB4.out.mono B1h.out.size)) | exact below_emp1 (B1h.out.trans (HB4.out.mono B1h.out.size))⟩
                  · obtain ⟨p, hp, hpc⟩ : ∃ p, K[i]? = some p ∧ p.1 = c9 := by
                      rw [List.getElem?_map] at hci
                      cases e : K[i]? with
                      | none => rw [e] at hci; cases hci
                      | some p => rw [e] at hci; exact ⟨p, rfl, Option.some.inj hci⟩
                    have hnm : FClass.nm c9 = x2 := ba_inj (by have := fidx_hitS hi hci; simpa using this)
                    have PCC := hid (parC_at hy0 hi hci)
                    have RM := hid (RKK.out.mem p (List.mem_of_getElem? hp))
                    have RK := hid (fun (X : World) (hb : Below X5.heap.size X5 X) => RKK.out.at_ hb (Nat.le_refl _) hp)
                    obtain ⟨⟨ca, cb, cfs, cms⟩, uFi, uMi⟩ := p
                    subst hpc
                    obtain rfl : ca = x2 := hnm
                    obtain ⟨AF, cF, eF⟩ : ∃ A c, uFi = .slice A cfs.length c := RM.out.1.form
                    obtain ⟨AM, cM, eM⟩ : ∃ A c, uMi = .slice A cms.length c := RM.out.2.form
                    subst eF eM
                    obtain ⟨bk, offk, Ek, hbk, -⟩ := RK.out X5 (Below.refl _ _)
                    subst Ek
                    have RK2 := hid (fun (X : World) (hb : Below X5.heap.size X5 X) => show X.cell? ⟨bk, offk + i * 4, none⟩ = some (.string ca) ∧ X.cell? ⟨bk, offk + i * 4 + 1, none⟩ = some (.string cb) ∧ X.cell? ⟨bk, offk + i * 4 + 2, none⟩ = some (.slice AF cfs.length cF) ∧ X.cell? ⟨bk, offk + i * 4 + 3, none⟩ = some (.slice AM cms.length cM) from by
                      obtain ⟨b', off', e', -, -, k0, k1, k2, k3⟩ := RK.out X hb
                      cases e'
                      exact ⟨k0, k1, k2, k3⟩)
                    have LB := hid (show linkC ⟨50, y1, y2, y3⟩ (K.map Prod.fst) (J.map Prod.fst) = bldC ⟨50, y1, y2, y3⟩ ca cfs cms (J.map Prod.fst) from linkC_bld (x := ⟨50, y1, y2, y3⟩) HBD.out PCC.out)
                    have HPG := hid (parC_good (x := ⟨50, y1, y2, y3⟩) G1h.out.gc HCLO.out PCC.out)
                    rw [hi] at F3
                    have hi0 : (0 : Int) ≤ (i : Int) := by omega
                    have hi2 : (i : Int) < (K.length : Int) := by rw [List.length_map] at hil; omega
                    clear hcq hp hci RK hi FI
                    go_upto_region 19 with (go_at_call 24; refine (F3.out _ HB3.out).mono ?_; rintro e w4 ⟨rfl, hb, hb2⟩; have HB4 := hid hb2; obtain ⟨g0, g1, g2, g3⟩ := RK2.out _ hb2; replace bY := bY.below hb (Nat.le_refl _); replace bX9 := bX9.below hb (Nat.le_refl _); have bX90 := bX9.cell 0; have bX91 := bX9.cell 1; have bX92 := bX9.cell 2; have bX93 := bX9.cell 3; have bX9l := bX9.lt; have bX9f := fun i => bX9.frozen i; clear hb hb2)
                    have bP : Blk ((((w4.setCell ⟨w2.heap.size, 0, none⟩ (.string ca)).setCell ⟨w2.heap.size, 1, none⟩ (.string cb)).setCell ⟨w2.heap.size, 2, none⟩ (.slice AF cfs.length cF)).setCell ⟨w2.heap.size, 3, none⟩ (.slice AM cms.length cM)) w2.heap.size 40 #[.string ca, .string cb, .slice AF cfs.length cF, .slice AM cms.length cM] := by simpa using (((bX9.set_ 0 (.string ca)).set_ 1 (.string cb)).set_ 2 (.slice AF cfs.length cF)).set_ 3 (.slice AM cms.length cM)
                    have hgt2 : X5.heap.size ≤ w2.heap.size := HB2.out.size
                    have hyne : wi.heap.size ≠ w2.heap.size := Nat.ne_of_lt (Nat.lt_of_lt_of_le BYS.out hgt2)
                    have HB9 := hid ((((HB4.out.setCell (p := ⟨w2.heap.size, 0, none⟩) hgt2 (.string ca)).setCell (p := ⟨w2.heap.size, 1, none⟩) hgt2 (.string cb)).setCell (p := ⟨w2.heap.size, 2, none⟩) hgt2 (.slice AF cfs.length cF)).setCell (p := ⟨w2.heap.size, 3, none⟩) hgt2 (.slice AM cms.length cM))
                    replace bY := (((bY.far (p := ⟨w2.heap.size, 0, none⟩) hyne (.string ca)).far (p := ⟨w2.heap.size, 1, none⟩) hyne (.string cb)).far (p := ⟨w2.heap.size, 2, none⟩) hyne (.slice AF cfs.length cF)).far (p := ⟨w2.heap.size, 3, none⟩) hyne (.slice AM cms.length cM)
                    try clear g0; try clear g1; try clear g2; try clear g3; try clear bX9; try clear bX90; try clear bX91; try clear bX92; try clear bX93; try clear bX9l; try clear bX9f; try clear bY0; try clear bY1; try clear bY2; try clear bY3; try clear bYl; try clear bYf; try clear u0; try clear u1; try clear u2; try clear u3
                    generalize (((w4.setCell ⟨w2.heap.size, 0, none⟩ (.string ca)).setCell ⟨w2.heap.size, 1, none⟩ (.string cb)).setCell ⟨w2.heap.size, 2, none⟩ (.slice AF cfs.length cF)).setCell ⟨w2.heap.size, 3, none⟩ (.slice AM cms.length cM) = W9 at *
                    have BW := hid (B1h.out.trans (HB9.out.mono B1h.out.size))
                    have TW := hid (T1h.out.below HB9.out (Nat.le_refl _))
                    have bYl := bY.lt
                    have bY0 := bY.cell 0; have bY1 := bY.cell 1; have bY2 := bY.cell 2; have bY3 := bY.cell 3; have bYl := bY.lt; have bYf := fun i => bY.frozen i
                    have bP0 := bP.cell 0; have bP1 := bP.cell 1; have bP2 := bP.cell 2; have bP3 := bP.cell 3; have bPl := bP.lt; have bPf := fun i => bP.frozen i
                    have LI := hid (build_K ⟨50, y1, y2, y3⟩ (top_cl hg.1 (.inl rfl)) J (some ⟨bq, offq, none⟩) dy AJ cJ ca cb cfs cms AF cF AM cM W9 (TW.out.b.rdK) ((RM.out.1.below HB9.out (Nat.le_refl _)).more HB9.out.size) ((RM.out.2.below HB9.out (Nat.le_refl _)).more HB9.out.size) (q3y.on BW.out hB0 (Nat.le_trans hB0 BW.out.size)) (namesG l) hGl HPG.out.2.1 HPG.out.2.2 G1h.out.gt hg.2 (HKW.out _ (List.mem_of_getElem? HY.out)) (by omega) 50 y1 y2 ⟨rfl, rfl, rfl⟩)
                    obtain ⟨R, hR⟩ : ∃ R, linkC ⟨50, y1, y2, y3⟩ (K.map Prod.fst) (J.map Prod.fst) = R := ⟨_, rfl⟩
                    rw [← LB.out, hR] at LI
                    have HRr := hid hR
                    clear hR
                    by_cases h0 : R.1 = 0
                    · go_upto_region 23 with (go_at_call 25; refine LI.out.mono ?_; rintro e w5 ⟨va, vb, A1, n1, c1, A2, n2, c2, rfl, hb, hr⟩; obtain ⟨rfl, rfl, RF, RM, FM⟩ := hr h0; rw [h0]; have HB5 := hid hb; replace bY := bY.below hb (Nat.le_refl _); have bY0 := bY.cell 0; have bYl := bY.lt; have RFh := hid RF; have RMh := hid RM; have FMh := hid FM; clear hr hb RF RM FM)
                      have bZ := Blk.new w5 40 #[.string (FClass.nm R.2), .string R.2.pa, .slice A1 n1 c1, .slice A2 n2 c2]
                      have HB6 := hid ((HB5.out.alloc HB5.out.size (.cells #[.string (FClass.nm R.2), .string R.2.pa, .slice A1 n1 c1, .slice A2 n2 c2] 40)).alloc (by have := HB5.out.size; simp; omega) (.cells #[.string (FClass.nm R.2), .string R.2.pa, .slice A1 n1 c1, .slice A2 n2 c2] 40))
                      have OW := hid (own_below (own_below TW.out.a.row HB5.out (Nat.le_refl _)) (((Below.refl w5.heap.size w5).alloc (Nat.le_refl _) (.cells #[.string (FClass.nm R.2), .string R.2.pa, .slice A1 n1 c1, .slice A2 n2 c2] 40)).alloc (by simp) (.cells #[.string (FClass.nm R.2), .string R.2.pa, .slice A1 n1 c1, .slice A2 n2 c2] 40)) (Nat.le_refl _))
                      have RFz := hid (own_below RFh.out (((Below.refl w5.heap.size w5).alloc (Nat.le_refl _) (.cells #[.string (FClass.nm R.2), .string R.2.pa, .slice A1 n1 c1, .slice A2 n2 c2] 40)).alloc (by simp) (.cells #[.string (FClass.nm R.2), .string R.2.pa, .slice A1 n1 c1, .slice A2 n2 c2] 40)) (Nat.le_refl _))
                      have RMz := hid (own_below RMh.out (((Below.refl w5.heap.size w5).alloc (Nat.le_refl _) (.cells #[.string (FClass.nm R.2), .string R.2.pa, .slice A1 n1 c1, .slice A2 n2 c2] 40)).alloc (by simp) (.cells #[.string (FClass.nm R.2), .string R.2.pa, .slice A1 n1 c1, .slice A2 n2 c2] 40)) (Nat.le_refl _))
                      have ON := hid (show ∀ u ∈ ([.string (FClass.nm R.2), .string R.2.pa, .slice A1 n1 c1, .slice A2 n2 c2] : List Value), u.oneCell' = true from by intro u hu; simp only [List.mem_cons, List.not_mem_nil, or_false] at hu; rcases hu with rfl | rfl | rfl | rfl <;> rfl)
                      have s6 : w5.heap.size ≤ (w5.alloc (.cells #[.string (FClass.nm R.2), .string R.2.pa, .slice A1 n1 c1, .slice A2 n2 c2] 40)).heap.size := by simp
                      generalize w5.alloc (.cells #[.string (FClass.nm R.2), .string R.2.pa, .slice A1 n1 c1, .slice A2 n2 c2] 40) = W6 at *
                      have RN := hid (rd_new W6 40 4 [.string (FClass.nm R.2), .string R.2.pa, .slice A1 n1 c1, .slice A2 n2 c2] rfl)
                      have hw6 : w.heap.size ≤ (W6.alloc (.cells #[.string (FClass.nm R.2), .string R.2.pa, .slice A1 n1 c1, .slice A2 n2 c2] 40)).heap.size := Nat.le_trans BW.out.size (Nat.le_trans HB5.out.size (Nat.le_trans s6 (by simp)))
                      have bZ0 := bZ.cell 0; have bZ1 := bZ.cell 1; have bZ2 := bZ.cell 2; have bZ3 := bZ.cell 3; have bZl := bZ.lt; have bZf := fun i => bZ.frozen i
                      go_wp2_with (at_builtin; go_must (refine wpList_append_rd _ rfl (.tmp 119) (.tmp 121) _ rfl w.heap.size _ _ _ 80 Tryz.underlying24 infoClassL rfl (by omega) (.slice (some ⟨bk, offk, none⟩) K.length cK) K.length _ rfl OW.out (W6.heap.size + 1) _ 1 1 [.string (FClass.nm R.2), .string R.2.pa, .slice A1 n1 c1, .slice A2 n2 c2] rfl RN.out ON.out (by unfold maxLen; omega) (by omega) hw6 ?_); intro v7 w7 own7 hg7 hat7; have hS := hid (LcT.cls TW.out G1h.out E1h.out BW.out rfl HRr.out h0 HB6.out RFz.out RMz.out FMh.out own7 hg7 hat7 ⟨AJ, cJ, rfl⟩); clear own7 hg7 hat7)
                      go_roundw
                      case rel => exact ⟨m + 1, by omega, by go_num, hS.out⟩
                      case measure => simp [intOf]; omega
                    · have EB := hid (show linkL l = (R.1, []) from by rw [E1h.out, addK_bad (.inl rfl) (by rw [HRr.out]; exact h0), HRr.out])
                      have n1_ : (R.1 == 0) = false := by rw [beq_eq_false_iff_ne]; exact h0
                      have n2_ : (R.1 != 0) = true := by rw [bne_iff_ne]; exact h0
                      go_wp2_with (go_at_call 25; refine LI.out.mono ?_; rintro e w5 ⟨va, vb, A1, n1, c1, A2, n2, c2, rfl, hb, hr⟩; have HB5 := hid (BW.out.trans (hb.mono BW.out.size)); clear hr hb)
                      refine bodyPost_ret (v := .tuple #[.slice (some ⟨w5.heap.size + 1, 0, none⟩) 0 0, .int .i64 R.1]) (by simp [results, Tryz.results6, go_sem]) rfl ⟨_, 0, 0, by rw [EB.out], by rw [EB.out]; first | exact owni_emp0 HB5.out | exact owni_emp1 HB5.out, by first | exact below_emp0 HB5.out | exact below_emp1 HB5.out⟩
                · have PCC := hid (parC_ne (cs := K.map Prod.fst) hx52)
                  have LB := hid (linkC_bld (x := ⟨50, y1, y2, y3⟩) HBD.out PCC.out)
                  have HPG := hid (parC_good (x := ⟨50, y1, y2, y3⟩) G1h.out.gc HCLO.out PCC.out)
                  have BW := hid (B1h.out.trans (HB3.out.mono B1h.out.size))
                  have TW := hid (T1h.out.below HB3.out (Nat.le_refl _))
                  clear FI
                  by_cases hlen : 0 < y3.length
                  · obtain ⟨y, hy0⟩ : ∃ y, y3[0]? = some y := ⟨_, List.getElem?_eq_getElem hlen⟩
                    have hhd := hdN_0 hy0
                    rw [hhd] at hx52
                    obtain ⟨bq, offq, Eq_, hblq, hcq⟩ := RdC.at_ FNode.len q3y hy0
                    subst Eq_
                    obtain ⟨x0, x1, x2, x3⟩ := y
                    have hx5 : (x0 == 52) = false := by rw [beq_eq_false_iff_ne]; exact hx52
                    obtain ⟨Dq, dq, u0, u1, u2, u3, -⟩ := opN BW.out (Nat.lt_of_lt_of_le hblq hB0) hcq (offq) (offq + 1) (offq + 2) (offq + 3) (by omega)
                    have hlen2 : (0 : Int) < (y3.length : Int) := by omega
                    clear hcq hhd hy0
                    go_upto_region 19 with fail
                    clear u0 u1 u2 u3
                    generalize W8 = W9 at *
                    have LI := hid (build_K ⟨50, y1, y2, y3⟩ (top_cl hg.1 (.inl rfl)) J (some ⟨bq, offq, none⟩) dy AJ cJ ⟨#[]⟩ ⟨#[]⟩ [] [] none 0 none 0 W9 (TW.out.b.rdK) (rd_nil9 _ _ _) (rd_nil9 _ _ _) (q3y.on BW.out hB0 (Nat.le_trans hB0 BW.out.size)) (namesG l) hGl HPG.out.2.1 HPG.out.2.2 G1h.out.gt hg.2 (HKW.out _ (List.mem_of_getElem? HY.out)) (by omega) 50 y1 y2 ⟨rfl, rfl, rfl⟩)
                    obtain ⟨R, hR⟩ : ∃ R, linkC ⟨50, y1, y2, y3⟩ (K.map Prod.fst) (J.map Prod.fst) = R := ⟨_, rfl⟩
                    rw [← LB.out, hR] at LI
                    have HRr := hid hR
                    clear hR
                    by_cases h0 : R.1 = 0
                    · go_upto_region 23 with (go_at_call 25; refine LI.out.mono ?_; rintro e w5 ⟨va, vb, A1, n1, c1, A2, n2, c2, rfl, hb, hr⟩; obtain ⟨rfl, rfl, RF, RM, FM⟩ := hr h0; rw [h0]; have HB5 := hid hb; replace bY := bY.below hb (Nat.le_refl _); have bY0 := bY.cell 0; have bYl := bY.lt; have RFh := hid RF; have RMh := hid RM; have FMh := hid FM; clear hr hb RF RM FM)
                      have bZ := Blk.new w5 40 #[.string (FClass.nm R.2), .string R.2.pa, .slice A1 n1 c1, .slice A2 n2 c2]
                      have HB6 := hid ((HB5.out.alloc HB5.out.size (.cells #[.string (FClass.nm R.2), .string R.2.pa, .slice A1 n1 c1, .slice A2 n2 c2] 40)).alloc (by have := HB5.out.size; simp; omega) (.cells #[.string (FClass.nm R.2), .string R.2.pa, .slice A1 n1 c1, .slice A2 n2 c2] 40))
                      have OW := hid (own_below (own_below TW.out.a.row HB5.out (Nat.le_refl _)) (((Below.refl w5.heap.size w5).alloc (Nat.le_refl _) (.cells #[.string (FClass.nm R.2), .string R.2.pa, .slice A1 n1 c1, .slice A2 n2 c2] 40)).alloc (by simp) (.cells #[.string (FClass.nm R.2), .string R.2.pa, .slice A1 n1 c1, .slice A2 n2 c2] 40)) (Nat.le_refl _))
                      have RFz := hid (own_below RFh.out (((Below.refl w5.heap.size w5).alloc (Nat.le_refl _) (.cells #[.string (FClass.nm R.2), .string R.2.pa, .slice A1 n1 c1, .slice A2 n2 c2] 40)).alloc (by simp) (.cells #[.string (FClass.nm R.2), .string R.2.pa, .slice A1 n1 c1, .slice A2 n2 c2] 40)) (Nat.le_refl _))
                      have RMz := hid (own_below RMh.out (((Below.refl w5.heap.size w5).alloc (Nat.le_refl _) (.cells #[.string (FClass.nm R.2), .string R.2.pa, .slice A1 n1 c1, .slice A2 n2 c2] 40)).alloc (by simp) (.cells #[.string (FClass.nm R.2), .string R.2.pa, .slice A1 n1 c1, .slice A2 n2 c2] 40)) (Nat.le_refl _))
                      have ON := hid (show ∀ u ∈ ([.string (FClass.nm R.2), .string R.2.pa, .slice A1 n1 c1, .slice A2 n2 c2] : List Value), u.oneCell' = true from by intro u hu; simp only [List.mem_cons, List.not_mem_nil, or_false] at hu; rcases hu with rfl | rfl | rfl | rfl <;> rfl)
                      have s6 : w5.heap.size ≤ (w5.alloc (.cells #[.string (FClass.nm R.2), .string R.2.pa, .slice A1 n1 c1, .slice A2 n2 c2] 40)).heap.size := by simp
                      generalize w5.alloc (.cells #[.string (FClass.nm R.2), .string R.2.pa, .slice A1 n1 c1, .slice A2 n2 c2] 40) = W6 at *
                      have RN := hid (rd_new W6 40 4 [.string (FClass.nm R.2), .string R.2.pa, .slice A1 n1 c1, .slice A2 n2 c2] rfl)
                      have hw6 : w.heap.size ≤ (W6.alloc (.cells #[.string (FClass.nm R.2), .string R.2.pa, .slice A1 n1 c1, .slice A2 n2 c2] 40)).heap.size := Nat.le_trans BW.out.size (Nat.le_trans HB5.out.size (Nat.le_trans s6 (by simp)))
                      have bZ0 := bZ.cell 0; have bZ1 := bZ.cell 1; have bZ2 := bZ.cell 2; have bZ3 := bZ.cell 3; have bZl := bZ.lt; have bZf := fun i => bZ.frozen i
                      go_wp2_with (at_builtin; go_must (refine wpList_append_rd _ rfl (.tmp 119) (.tmp 121) _ rfl w.heap.size _ _ _ 80 Tryz.underlying24 infoClassL rfl (by omega) (.slice AK K.length cK) K.length _ rfl OW.out (W6.heap.size + 1) _ 1 1 [.string (FClass.nm R.2), .string R.2.pa, .slice A1 n1 c1, .slice A2 n2 c2] rfl RN.out ON.out (by unfold maxLen; omega) (by omega) hw6 ?_); intro v7 w7 own7 hg7 hat7; have hS := hid (LcT.cls TW.out G1h.out E1h.out BW.out rfl HRr.out h0 HB6.out RFz.out RMz.out FMh.out own7 hg7 hat7 ⟨AJ, cJ, rfl⟩); clear own7 hg7 hat7)
                      go_roundw
                      case rel => exact ⟨m + 1, by omega, by go_num, hS.out⟩
                      case measure => simp [intOf]; omega
                    · have EB := hid (show linkL l = (R.1, []) from by rw [E1h.out, addK_bad (.inl rfl) (by rw [HRr.out]; exact h0), HRr.out])
                      have n1_ : (R.1 == 0) = false := by rw [beq_eq_false_iff_ne]; exact h0
                      have n2_ : (R.1 != 0) = true := by rw [bne_iff_ne]; exact h0
                      go_wp2_with (go_at_call 25; refine LI.out.mono ?_; rintro e w5 ⟨va, vb, A1, n1, c1, A2, n2, c2, rfl, hb, hr⟩; have HB5 := hid (BW.out.trans (hb.mono BW.out.size)); clear hr hb)
                      refine bodyPost_ret (v := .tuple #[.slice (some ⟨w5.heap.size + 1, 0, none⟩) 0 0, .int .i64 R.1]) (by simp [results, Tryz.results6, go_sem]) rfl ⟨_, 0, 0, by rw [EB.out], by rw [EB.out]; first | exact owni_emp0 HB5.out | exact owni_emp1 HB5.out, by first | exact below_emp0 HB5.out | exact below_emp1 HB5.out⟩
                  · obtain rfl : y3 = [] := List.eq_nil_of_length_eq_zero (by omega)
                    go_upto_region 19 with fail
                    generalize W8 = W9 at *
                    have LI := hid (build_K ⟨50, y1, y2, []⟩ (top_cl hg.1 (.inl rfl)) J Dy dy AJ cJ ⟨#[]⟩ ⟨#[]⟩ [] [] none 0 none 0 W9 (TW.out.b.rdK) (rd_nil9 _ _ _) (rd_nil9 _ _ _) (q3y.on BW.out hB0 (Nat.le_trans hB0 BW.out.size)) (namesG l) hGl HPG.out.2.1 HPG.out.2.2 G1h.out.gt hg.2 (HKW.out _ (List.mem_of_getElem? HY.out)) (by omega) 50 y1 y2 ⟨rfl, rfl, rfl⟩)
                    obtain ⟨R, hR⟩ : ∃ R, linkC ⟨50, y1, y2, []⟩ (K.map Prod.fst) (J.map Prod.fst) = R := ⟨_, rfl⟩
                    rw [← LB.out, hR] at LI
                    have HRr := hid hR
                    clear hR
                    by_cases h0 : R.1 = 0
                    · go_upto_region 23 with (go_at_call 25; refine LI.out.mono ?_; rintro e w5 ⟨va, vb, A1, n1, c1, A2, n2, c2, rfl, hb, hr⟩; obtain ⟨rfl, rfl, RF, RM, FM⟩ := hr h0; rw [h0]; have HB5 := hid hb; replace bY := bY.below hb (Nat.le_refl _); have bY0 := bY.cell 0; have bYl := bY.lt; have RFh := hid RF; have RMh := hid RM; have FMh := hid FM; clear hr hb RF RM FM)
                      have bZ := Blk.new w5 40 #[.string (FClass.nm R.2), .string R.2.pa, .slice A1 n1 c1, .slice A2 n2 c2]
                      have HB6 := hid ((HB5.out.alloc HB5.out.size (.cells #[.string (FClass.nm R.2), .string R.2.pa, .slice A1 n1 c1, .slice A2 n2 c2] 40)).alloc (by have := HB5.out.size; simp; omega) (.cells #[.string (FClass.nm R.2), .string R.2.pa, .slice A1 n1 c1, .slice A2 n2 c2] 40))
                      have OW := hid (own_below (own_below TW.out.a.row HB5.out (Nat.le_refl _)) (((Below.refl w5.heap.size w5).alloc (Nat.le_refl _) (.cells #[.string (FClass.nm R.2), .string R.2.pa, .slice A1 n1 c1, .slice A2 n2 c2] 40)).alloc (by simp) (.cells #[.string (FClass.nm R.2), .string R.2.pa, .slice A1 n1 c1, .slice A2 n2 c2] 40)) (Nat.le_refl _))
                      have RFz := hid (own_below RFh.out (((Below.refl w5.heap.size w5).alloc (Nat.le_refl _) (.cells #[.string (FClass.nm R.2), .string R.2.pa, .slice A1 n1 c1, .slice A2 n2 c2] 40)).alloc (by simp) (.cells #[.string (FClass.nm R.2), .string R.2.pa, .slice A1 n1 c1, .slice A2 n2 c2] 40)) (Nat.le_refl _))
                      have RMz := hid (own_below RMh.out (((Below.refl w5.heap.size w5).alloc (Nat.le_refl _) (.cells #[.string (FClass.nm R.2), .string R.2.pa, .slice A1 n1 c1, .slice A2 n2 c2] 40)).alloc (by simp) (.cells #[.string (FClass.nm R.2), .string R.2.pa, .slice A1 n1 c1, .slice A2 n2 c2] 40)) (Nat.le_refl _))
                      have ON := hid (show ∀ u ∈ ([.string (FClass.nm R.2), .string R.2.pa, .slice A1 n1 c1, .slice A2 n2 c2] : List Value), u.oneCell' = true from by intro u hu; simp only [List.mem_cons, List.not_mem_nil, or_false] at hu; rcases hu with rfl | rfl | rfl | rfl <;> rfl)
                      have s6 : w5.heap.size ≤ (w5.alloc (.cells #[.string (FClass.nm R.2), .string R.2.pa, .slice A1 n1 c1, .slice A2 n2 c2] 40)).heap.size := by simp
                      generalize w5.alloc (.cells #[.string (FClass.nm R.2), .string R.2.pa, .slice A1 n1 c1, .slice A2 n2 c2] 40) = W6 at *
                      have RN := hid (rd_new W6 40 4 [.string (FClass.nm R.2), .string R.2.pa, .slice A1 n1 c1, .slice A2 n2 c2] rfl)
                      have hw6 : w.heap.size ≤ (W6.alloc (.cells #[.string (FClass.nm R.2), .string R.2.pa, .slice A1 n1 c1, .slice A2 n2 c2] 40)).heap.size := Nat.le_trans BW.out.size (Nat.le_trans HB5.out.size (Nat.le_trans s6 (by simp)))
                      have bZ0 := bZ.cell 0; have bZ1 := bZ.cell 1; have bZ2 := bZ.cell 2; have bZ3 := bZ.cell 3; have bZl := bZ.lt; have bZf := fun i => bZ.frozen i
                      go_wp2_with (at_builtin; go_must (refine wpList_append_rd _ rfl (.tmp 119) (.tmp 121) _ rfl w.heap.size _ _ _ 80 Tryz.underlying24 infoClassL rfl (by omega) (.slice AK K.length cK) K.length _ rfl OW.out (W6.heap.size + 1) _ 1 1 [.string (FClass.nm R.2), .string R.2.pa, .slice A1 n1 c1, .slice A2 n2 c2] rfl RN.out ON.out (by unfold maxLen; omega) (by omega) hw6 ?_); intro v7 w7 own7 hg7 hat7; have hS := hid (LcT.cls TW.out G1h.out E1h.out BW.out rfl HRr.out h0 HB6.out RFz.out RMz.out FMh.out own7 hg7 hat7 ⟨AJ, cJ, rfl⟩); clear own7 hg7 hat7)
                      go_roundw
                      case rel => exact ⟨m + 1, by omega, by go_num, hS.out⟩
                      case measure => simp [intOf]; omega
                    · have EB := hid (show linkL l = (R.1, []) from by rw [E1h.out, addK_bad (.inl rfl) (by rw [HRr.out]; exact h0), HRr.out])
                      have n1_ : (R.1 == 0) = false := by rw [beq_eq_false_iff_ne]; exact h0
                      have n2_ : (R.1 != 0) = true := by rw [bne_iff_ne]; exact h0
                      go_wp2_with (go_at_call 25; refine LI.out.mono ?_; rintro e w5 ⟨va, vb, A1, n1, c1, A2, n2, c2, rfl, hb, hr⟩; have HB5 := hid (BW.out.trans (hb.mono BW.out.size)); clear hr hb)
                      refine bodyPost_ret (v := .tuple #[.slice (some ⟨w5.heap.size + 1, 0, none⟩) 0 0, .int .i64 R.1]) (by simp [results, Tryz.results6, go_sem]) rfl ⟨_, 0, 0, by rw [EB.out], by rw [EB.out]; first | exact owni_emp0 HB5.out | exact owni_emp1 HB5.out, by first | exact below_emp0 HB5.out | exact below_emp1 HB5.out⟩
            by_cases h51 : y0 = 51
            · subst h51
              have L5 := L4.below (bw (.cells #[.int .i64 51, .int .i64 y1, .string y2, .slice Dy y3.length dy] 61))
              have bY := Blk.new wi 61 #[.int .i64 51, .int .i64 y1, .string y2, .slice Dy y3.length dy]
              have BYS := hid (show wi.heap.size < (wi.alloc (.cells #[.int .i64 51, .int .i64 y1, .string y2, .slice Dy y3.length dy] 61)).heap.size from by simp)
              go_upto_region 10 with fail
              generalize wi.alloc (.cells #[.int .i64 51, .int .i64 y1, .string y2, .slice Dy y3.length dy] 61) = X5 at *
              obtain ⟨K, J, AK, cK, AJ, cJ, eu, ev, T1, G1, E1, B1⟩ := L5
              subst eu ev
              have hg := G1.top ⟨51, y1, y2, y3⟩ (List.mem_cons_self ..)
              have hnc := G1.nc
              have hnt := G1.nt
              rw [List.length_map] at hnc hnt
              have hKl : K.length ≤ 900000001 := by omega
              have hJl : J.length ≤ 900000001 := by omega
              have PLK := hid (fun p (hp : p ∈ K) => show PlC p.1 from fun x hx => ((G1.gc p.1 (List.mem_map.2 ⟨p, hp, rfl⟩)).f.mem x hx).1)
              have PLJ := hid (fun p (hp : p ∈ J) => show PlC p.1 from fun x hx => ((G1.gt p.1 (List.mem_map.2 ⟨p, hp, rfl⟩)).f.mem x hx).1)
              have RKK := hid T1.a.rdK
              have RKJ := hid T1.b.rdK
              have FI := hid (fun (s : ByteArray) X (hb : Below X5.heap.size X5 X) => find_K K s AK cK X5 X (by omega) RKK.out PLK.out hb)
              have FJ := hid (fun (s : ByteArray) X (hb : Below X5.heap.size X5 X) => find_K J s AJ cJ X5 X (by omega) RKJ.out PLJ.out hb)
              have hcl := top_cl hg.1 (.inr rfl)
              have T1h := hid T1
              have G1h := hid G1
              have E1h := hid E1
              have B1h := hid B1
              have hkl3 : y3.length ≤ 1000000000 := HKW.out _ (List.mem_of_getElem? HY.out)
              have HCLO := hid hcl
              have bYl := bY.lt
              have bY0 := bY.cell 0; have bY1 := bY.cell 1; have bY2 := bY.cell 2; have bY3 := bY.cell 3; have bYl := bY.lt; have bYf := fun i => bY.frozen i
              have B5 := hid (Below.refl X5.heap.size X5)
              clear T1 G1 E1 L4 hnc hnt bw hcl PLK PLJ
              cases hbad : badN (K.map Prod.fst) (J.map Prod.fst) y2 with
              | true =>
                have EB := hid (show linkL l = (1, []) from by rw [E1h.out, addK_bad (.inr rfl) (by rw [linkC_1 hbad]; decide), linkC_1 hbad])
                have hq : (y2.toList == [115, 101, 108, 102] || (y2.toList == [112, 97, 114, 101, 110, 116] || (decide (0 ≤ fidx FClass.nm (K.map Prod.fst) y2) || decide (0 ≤ fidx FClass.nm (J.map Prod.fst) y2)))) = true := hbad
                have F1 := hid (FI.out y2)
                have F2 := hid (FJ.out y2)
                clear FI FJ hbad
                generalize fidx FClass.nm (K.map Prod.fst) y2 = fi at *
                generalize fidx FClass.nm (J.map Prod.fst) y2 = fj at *
                cases h1 : (y2.toList == [115, 101, 108, 102]) <;> rw [h1] at hq
                · cases h2 : (y2.toList == [112, 97, 114, 101, 110, 116]) <;> rw [h2] at hq
                  · cases h3 : decide (0 ≤ fi) <;> rw [h3] at hq
                    · cases h4 : decide (0 ≤ fj) <;> rw [h4] at hq
                      · simp at hq
                      · clear hq
                        have tok1 : True := trivial
                        go_wp2_with (first | (have _q := tok2; go_at_call 24; refine (F2.out _ HB1.out).mono ?_; rintro e w2 ⟨rfl, hb, hb2⟩; have HB2 := hid hb2; replace bY := bY.below hb (Nat.le_refl _); have bY2 := bY.cell 2; clear hb hb2) | (go_at_call 24; refine (F1.out _ B5.out).mono ?_; rintro e w1 ⟨rfl, hb, hb2⟩; have HB1 := hid hb2; replace bY := bY.below hb (Nat.le_refl _); have bY2 := bY.cell 2; have tok2 : True := trivial; clear hb hb2))
                        refine bodyPost_ret (v := .tuple #[.slice (some ⟨w2.heap.size, 0, none⟩) 0 0, .int .i64 1]) (by simp [results, Tryz.results6, go_sem]) rfl ⟨_, 0, 0, by rw [EB.out], by rw [EB.out]; first | exact owni_emp0 (B1h.out.trans (HB2.out.mono B1h.out.size)) | exact owni_emp1 (B1h.out.trans (HB2.out.mono B1h.out.size)), by first | exact below_emp0 (B1h.out.trans (HB2.out.mono B1h.out.size)) | exact below_emp1 (B1h.out.trans (HB2.out.mono B1h.out.size))⟩
                    · clear hq
                      go_wp2_with (go_at_call 24; refine (F1.out _ B5.out).mono ?_; rintro e w1 ⟨rfl, hb, hb2⟩; have HB1 := hid hb2; replace bY := bY.below hb (Nat.le_refl _); have bY2 := bY.cell 2; clear hb hb2)
                      refine bodyPost_ret (v := .tuple #[.slice (some ⟨w1.heap.size, 0, none⟩) 0 0, .int .i64 1]) (by simp [results, Tryz.results6, go_sem]) rfl ⟨_, 0, 0, by rw [EB.out], by rw [EB.out]; first | exact owni_emp0 (B1h.out.trans (HB1.out.mono B1h.out.size)) | exact owni_emp1 (B1h.out.trans (HB1.out.mono B1h.out.size)), by first | exact below_emp0 (B1h.out.trans (HB1.out.mono B1h.out.size)) | exact below_emp1 (B1h.out.trans (HB1.out.mono B1h.out.size))⟩
                  · clear hq
                    go_wp2_with fail
                    refine bodyPost_ret (v := .tuple #[.slice (some ⟨X5.heap.size, 0, none⟩) 0 0, .int .i64 1]) (by simp [results, Tryz.results6, go_sem]) rfl ⟨_, 0, 0, by rw [EB.out], by rw [EB.out]; first | exact owni_emp0 B1h.out | exact owni_emp1 B1h.out, by first | exact below_emp0 B1h.out | exact below_emp1 B1h.out⟩
                · clear hq
                  go_wp2_with fail
                  refine bodyPost_ret (v := .tuple #[.slice (some ⟨X5.heap.size, 0, none⟩) 0 0, .int .i64 1]) (by simp [results, Tryz.results6, go_sem]) rfl ⟨_, 0, 0, by rw [EB.out], by rw [EB.out]; first | exact owni_emp0 B1h.out | exact owni_emp1 B1h.out, by first | exact below_emp0 B1h.out | exact below_emp1 B1h.out⟩
              | false =>
                have hq : (y2.toList == [115, 101, 108, 102] || (y2.toList == [112, 97, 114, 101, 110, 116] || (decide (0 ≤ fidx FClass.nm (K.map Prod.fst) y2) || decide (0 ≤ fidx FClass.nm (J.map Prod.fst) y2)))) = false := hbad
                have HBD := hid hbad
                simp only [Bool.or_eq_false_iff] at hq
                obtain ⟨h1, h2, h3, h4⟩ := hq
                have F1 := hid (FI.out y2)
                have F2 := hid (FJ.out y2)
                clear hbad FJ
                generalize fidx FClass.nm (K.map Prod.fst) y2 = fi at *
                generalize fidx FClass.nm (J.map Prod.fst) y2 = fj at *
                have tok1 : True := trivial
                go_upto_region 13 with (first | (have _q := tok2; go_at_call 24; refine (F2.out _ HB1.out).mono ?_; rintro e w2 ⟨rfl, hb, hb2⟩; have HB2 := hid hb2; replace bY := bY.below hb (Nat.le_refl _); have bY2 := bY.cell 2; clear hb hb2) | (go_at_call 24; refine (F1.out _ B5.out).mono ?_; rintro e w1 ⟨rfl, hb, hb2⟩; have HB1 := hid hb2; replace bY := bY.below hb (Nat.le_refl _); have bY2 := bY.cell 2; have tok2 : True := trivial; clear hb hb2))
                go_upto_region 14 with fail
                have bX9 := Blk.new w2 40 #[.string ⟨#[]⟩, .string ⟨#[]⟩, .slice none 0 0, .slice none 0 0]
                have HB3 := hid (HB2.out.alloc HB2.out.size (.cells #[.string ⟨#[]⟩, .string ⟨#[]⟩, .slice none 0 0, .slice none 0 0] 40))
                replace bY := bY.alloc (.cells #[.string ⟨#[]⟩, .string ⟨#[]⟩, .slice none 0 0, .slice none 0 0] 40)
                clear bY2 bY0 bY1 bY3 bYl bYf F1 F2 HB1
                generalize w2.alloc (.cells #[.string ⟨#[]⟩, .string ⟨#[]⟩, .slice none 0 0, .slice none 0 0] 40) = W8 at *
                have bYl := bY.lt
                have bY0 := bY.cell 0; have bY1 := bY.cell 1; have bY2 := bY.cell 2; have bY3 := bY.cell 3; have bYl := bY.lt; have bYf := fun i => bY.frozen i
                have bX90 := bX9.cell 0; have bX91 := bX9.cell 1; have bX92 := bX9.cell 2; have bX93 := bX9.cell 3; have bX9l := bX9.lt; have bX9f := fun i => bX9.frozen i
                by_cases hx52 : (hdN y3).kd = 52
                · obtain ⟨y, hy0⟩ : ∃ y, y3[0]? = some y := by
                    cases hy3 : y3 with
                    | nil => rw [hy3] at hx52; exact absurd hx52 (by decide)
                    | cons a r => exact ⟨a, rfl⟩
                  have hhd := hdN_0 hy0
                  rw [hhd] at hx52
                  have hlen : 0 < y3.length := (List.getElem?_eq_some_iff.1 hy0).1
                  obtain ⟨bq, offq, Eq_, hblq, hcq⟩ := RdC.at_ FNode.len q3y hy0
                  subst Eq_
                  obtain ⟨x0, x1, x2, x3⟩ := y
                  obtain rfl : x0 = 52 := hx52
                  have BW8 := hid (B1h.out.trans (HB3.out.mono B1h.out.size))
                  obtain ⟨Dq, dq, u0, u1, u2, u3, -⟩ := opN BW8.out (Nat.lt_of_lt_of_le hblq hB0) hcq (offq) (offq + 1) (offq + 2) (offq + 3) (by omega)
                  have QC := hid (fun (X : World) (hb : Below w.heap.size w X) => show X.cell? ⟨bq, offq, none⟩ = some (.int .i64 52) ∧ X.cell? ⟨bq, offq + 2, none⟩ = some (.string x2) from by
                    obtain ⟨Dq, dq, u0, u1, u2, u3, -⟩ := opN hb (Nat.lt_of_lt_of_le hblq hB0) hcq (offq) (offq + 1) (offq + 2) (offq + 3) (by omega)
                    exact ⟨u0, u2⟩)
                  have hlen2 : (0 : Int) < (y3.length : Int) := by omega
                  have F3 := hid (FI.out x2)
                  rcases fidx_lt FClass.nm (K.map Prod.fst) x2 with hi | ⟨i, c9, hi, hil, hci⟩
                  · have EB := hid (show linkL l = (2, []) from by
                      have hn : linkC ⟨51, y1, y2, y3⟩ (K.map Prod.fst) (J.map Prod.fst) = (2, ⟨⟨#[]⟩, ⟨#[]⟩, [], []⟩) := linkC_none HBD.out (parC_no hy0 hi)
                      rw [E1h.out, addK_bad (.inr rfl) (by rw [hn]; decide), hn])
                    rw [hi] at F3
                    clear hcq hi FI
                    go_wp2_with (go_at_call 24; refine (F3.out _ HB3.out).mono ?_; rintro e w4 ⟨rfl, hb, hb2⟩; have HB4 := hid hb2; clear hb hb2)
                    refine bodyPost_ret (v := .tuple #[.slice (some ⟨w4.heap.size, 0, none⟩) 0 0, .int .i64 2]) (by simp [results, Tryz.results6, go_sem]) rfl ⟨_, 0, 0, by rw [EB.out], by rw [EB.out]; first | exact owni_emp0 (B1h.out.trans (HB4.out.mono B1h.out.size)) | exact owni_emp1 (B1h.out.trans (HB4.out.mono B1h.out.size)), by first | exact below_emp0 (B1h.out.trans (HB4.out.mono B1h.out.size)) | exact below_emp1 (B1h.out.trans (HB4.out.mono B1h.out.size))⟩
                  · obtain ⟨p, hp, hpc⟩ : ∃ p, K[i]? = some p ∧ p.1 = c9 := by
                      rw [List.getElem?_map] at hci
                      cases e : K[i]? with
                      | none => rw [e] at hci; cases hci
                      | some p => rw [e] at hci; exact ⟨p, rfl, Option.some.inj hci⟩
                    have hnm : FClass.nm c9 = x2 := ba_inj (by have := fidx_hitS hi hci; simpa using this)
                    have PCC := hid (parC_at hy0 hi hci)
                    have RM := hid (RKK.out.mem p (List.mem_of_getElem? hp))
                    have RK := hid (fun (X : World) (hb : Below X5.heap.size X5 X) => RKK.out.at_ hb (Nat.le_refl _) hp)
                    obtain ⟨⟨ca, cb, cfs, cms⟩, uFi, uMi⟩ := p
                    subst hpc
                    obtain rfl : ca = x2 := hnm
                    obtain ⟨AF, cF, eF⟩ : ∃ A c, uFi = .slice A cfs.length c := RM.out.1.form
                    obtain ⟨AM, cM, eM⟩ : ∃ A c, uMi = .slice A cms.length c := RM.out.2.form
                    subst eF eM
                    obtain ⟨bk, offk, Ek, hbk, -⟩ := RK.out X5 (Below.refl _ _)
                    subst Ek
                    have RK2 := hid (fun (X : World) (hb : Below X5.heap.size X5 X) => show X.cell? ⟨bk, offk + i * 4, none⟩ = some (.string ca) ∧ X.cell? ⟨bk, offk + i * 4 + 1, none⟩ = some (.string cb) ∧ X.cell? ⟨bk, offk + i * 4 + 2, none⟩ = some (.slice AF cfs.length cF) ∧ X.cell? ⟨bk, offk + i * 4 + 3, none⟩ = some (.slice AM cms.length cM) from by
                      obtain ⟨b', off', e', -, -, k0, k1, k2, k3⟩ := RK.out X hb
                      cases e'
                      exact ⟨k0, k1, k2, k3⟩)
                    have LB := hid (show linkC ⟨51, y1, y2, y3⟩ (K.map Prod.fst) (J.map Prod.fst) = bldC ⟨51, y1, y2, y3⟩ ca cfs cms (J.map Prod.fst) from linkC_bld (x := ⟨51, y1, y2, y3⟩) HBD.out PCC.out)
                    have HPG := hid (parC_good (x := ⟨51, y1, y2, y3⟩) G1h.out.gc HCLO.out PCC.out)
                    rw [hi] at F3
                    have hi0 : (0 : Int) ≤ (i : Int) := by omega
                    have hi2 : (i : Int) < (K.length : Int) := by rw [List.length_map] at hil; omega
                    clear hcq hp hci RK hi FI
                    go_upto_region 19 with (go_at_call 24; refine (F3.out _ HB3.out).mono ?_; rintro e w4 ⟨rfl, hb, hb2⟩; have HB4 := hid hb2; obtain ⟨g0, g1, g2, g3⟩ := RK2.out _ hb2; replace bY := bY.below hb (Nat.le_refl _); replace bX9 := bX9.below hb (Nat.le_refl _); have bX90 := bX9.cell 0; have bX91 := bX9.cell 1; have bX92 := bX9.cell 2; have bX93 := bX9.cell 3; have bX9l := bX9.lt; have bX9f := fun i => bX9.frozen i; clear hb hb2)
                    have bP : Blk ((((w4.setCell ⟨w2.heap.size, 0, none⟩ (.string ca)).setCell ⟨w2.heap.size, 1, none⟩ (.string cb)).setCell ⟨w2.heap.size, 2, none⟩ (.slice AF cfs.length cF)).setCell ⟨w2.heap.size, 3, none⟩ (.slice AM cms.length cM)) w2.heap.size 40 #[.string ca, .string cb, .slice AF cfs.length cF, .slice AM cms.length cM] := by simpa using (((bX9.set_ 0 (.string ca)).set_ 1 (.string cb)).set_ 2 (.slice AF cfs.length cF)).set_ 3 (.slice AM cms.length cM)
                    have hgt2 : X5.heap.size ≤ w2.heap.size := HB2.out.size
                    have hyne : wi.heap.size ≠ w2.heap.size := Nat.ne_of_lt (Nat.lt_of_lt_of_le BYS.out hgt2)
                    have HB9 := hid ((((HB4.out.setCell (p := ⟨w2.heap.size, 0, none⟩) hgt2 (.string ca)).setCell (p := ⟨w2.heap.size, 1, none⟩) hgt2 (.string cb)).setCell (p := ⟨w2.heap.size, 2, none⟩) hgt2 (.slice AF cfs.length cF)).setCell (p := ⟨w2.heap.size, 3, none⟩) hgt2 (.slice AM cms.length cM))
                    replace bY := (((bY.far (p := ⟨w2.heap.size, 0, none⟩) hyne (.string ca)).far (p := ⟨w2.heap.size, 1, none⟩) hyne (.string cb)).far (p := ⟨w2.heap.size, 2, none⟩) hyne (.slice AF cfs.length cF)).far (p := ⟨w2.heap.size, 3, none⟩) hyne (.slice AM cms.length cM)
                    try clear g0; try clear g1; try clear g2; try clear g3; try clear bX9; try clear bX90; try clear bX91; try clear bX92; try clear bX93; try clear bX9l; try clear bX9f; try clear bY0; try clear bY1; try clear bY2; try clear bY3; try clear bYl; try clear bYf; try clear u0; try clear u1; try clear u2; try clear u3
                    generalize (((w4.setCell ⟨w2.heap.size, 0, none⟩ (.string ca)).setCell ⟨w2.heap.size, 1, none⟩ (.string cb)).setCell ⟨w2.heap.size, 2, none⟩ (.slice AF cfs.length cF)).setCell ⟨w2.heap.size, 3, none⟩ (.slice AM cms.length cM) = W9 at *
                    have BW := hid (B1h.out.trans (HB9.out.mono B1h.out.size))
                    have TW := hid (T1h.out.below HB9.out (Nat.le_refl _))
                    have bYl := bY.lt
                    have bY0 := bY.cell 0; have bY1 := bY.cell 1; have bY2 := bY.cell 2; have bY3 := bY.cell 3; have bYl := bY.lt; have bYf := fun i => bY.frozen i
                    have bP0 := bP.cell 0; have bP1 := bP.cell 1; have bP2 := bP.cell 2; have bP3 := bP.cell 3; have bPl := bP.lt; have bPf := fun i => bP.frozen i
                    have LI := hid (build_K ⟨51, y1, y2, y3⟩ (top_cl hg.1 (.inr rfl)) J (some ⟨bq, offq, none⟩) dy AJ cJ ca cb cfs cms AF cF AM cM W9 (TW.out.b.rdK) ((RM.out.1.below HB9.out (Nat.le_refl _)).more HB9.out.size) ((RM.out.2.below HB9.out (Nat.le_refl _)).more HB9.out.size) (q3y.on BW.out hB0 (Nat.le_trans hB0 BW.out.size)) (namesG l) hGl HPG.out.2.1 HPG.out.2.2 G1h.out.gt hg.2 (HKW.out _ (List.mem_of_getElem? HY.out)) (by omega) 51 y1 y2 ⟨rfl, rfl, rfl⟩)
                    obtain ⟨R, hR⟩ : ∃ R, linkC ⟨51, y1, y2, y3⟩ (K.map Prod.fst) (J.map Prod.fst) = R := ⟨_, rfl⟩
                    rw [← LB.out, hR] at LI
                    have HRr := hid hR
                    clear hR
                    by_cases h0 : R.1 = 0
                    · go_upto_region 24 with (go_at_call 25; refine LI.out.mono ?_; rintro e w5 ⟨va, vb, A1, n1, c1, A2, n2, c2, rfl, hb, hr⟩; obtain ⟨rfl, rfl, RF, RM, FM⟩ := hr h0; rw [h0]; have HB5 := hid hb; replace bY := bY.below hb (Nat.le_refl _); have bY0 := bY.cell 0; have bYl := bY.lt; have RFh := hid RF; have RMh := hid RM; have FMh := hid FM; clear hr hb RF RM FM)
                      have bZ := Blk.new w5 40 #[.string (FClass.nm R.2), .string R.2.pa, .slice A1 n1 c1, .slice A2 n2 c2]
                      have HB6 := hid ((HB5.out.alloc HB5.out.size (.cells #[.string (FClass.nm R.2), .string R.2.pa, .slice A1 n1 c1, .slice A2 n2 c2] 40)).alloc (by have := HB5.out.size; simp; omega) (.cells #[.string (FClass.nm R.2), .string R.2.pa, .slice A1 n1 c1, .slice A2 n2 c2] 40))
                      have OW := hid (own_below (own_below TW.out.b.row HB5.out (Nat.le_refl _)) (((Below.refl w5.heap.size w5).alloc (Nat.le_refl _) (.cells #[.string (FClass.nm R.2), .string R.2.pa, .slice A1 n1 c1, .slice A2 n2 c2] 40)).alloc (by simp) (.cells #[.string (FClass.nm R.2), .string R.2.pa, .slice A1 n1 c1, .slice A2 n2 c2] 40)) (Nat.le_refl _))
                      have RFz := hid (own_below RFh.out (((Below.refl w5.heap.size w5).alloc (Nat.le_refl _) (.cells #[.string (FClass.nm R.2), .string R.2.pa, .slice A1 n1 c1, .slice A2 n2 c2] 40)).alloc (by simp) (.cells #[.string (FClass.nm R.2), .string R.2.pa, .slice A1 n1 c1, .slice A2 n2 c2] 40)) (Nat.le_refl _))
                      have RMz := hid (own_below RMh.out (((Below.refl w5.heap.size w5).alloc (Nat.le_refl _) (.cells #[.string (FClass.nm R.2), .string R.2.pa, .slice A1 n1 c1, .slice A2 n2 c2] 40)).alloc (by simp) (.cells #[.string (FClass.nm R.2), .string R.2.pa, .slice A1 n1 c1, .slice A2 n2 c2] 40)) (Nat.le_refl _))
                      have ON := hid (show ∀ u ∈ ([.string (FClass.nm R.2), .string R.2.pa, .slice A1 n1 c1, .slice A2 n2 c2] : List Value), u.oneCell' = true from by intro u hu; simp only [List.mem_cons, List.not_mem_nil, or_false] at hu; rcases hu with rfl | rfl | rfl | rfl <;> rfl)
                      have s6 : w5.heap.size ≤ (w5.alloc (.cells #[.string (FClass.nm R.2), .string R.2.pa, .slice A1 n1 c1, .slice A2 n2 c2] 40)).heap.size := by simp
                      generalize w5.alloc (.cells #[.string (FClass.nm R.2), .string R.2.pa, .slice A1 n1 c1, .slice A2 n2 c2] 40) = W6 at *
                      have RN := hid (rd_new W6 40 4 [.string (FClass.nm R.2), .string R.2.pa, .slice A1 n1 c1, .slice A2 n2 c2] rfl)
                      have hw6 : w.heap.size ≤ (W6.alloc (.cells #[.string (FClass.nm R.2), .string R.2.pa, .slice A1 n1 c1, .slice A2 n2 c2] 40)).heap.size := Nat.le_trans BW.out.size (Nat.le_trans HB5.out.size (Nat.le_trans s6 (by simp)))
                      have bZ0 := bZ.cell 0; have bZ1 := bZ.cell 1; have bZ2 := bZ.cell 2; have bZ3 := bZ.cell 3; have bZl := bZ.lt; have bZf := fun i => bZ.frozen i
                      go_wp2_with (at_builtin; go_must (refine wpList_append_rd _ rfl (.tmp 123) (.tmp 125) _ rfl w.heap.size _ _ _ 80 Tryz.underlying24 infoClassL rfl (by omega) (.slice AJ J.length cJ) J.length _ rfl OW.out (W6.heap.size + 1) _ 1 1 [.string (FClass.nm R.2), .string R.2.pa, .slice A1 n1 c1, .slice A2 n2 c2] rfl RN.out ON.out (by unfold maxLen; omega) (by omega) hw6 ?_); intro v7 w7 own7 hg7 hat7; have hS := hid (LcT.trt TW.out G1h.out E1h.out BW.out rfl HRr.out h0 HB6.out RFz.out RMz.out FMh.out own7 hg7 hat7 ⟨(some ⟨bk, offk, none⟩), cK, rfl⟩); clear own7 hg7 hat7)
                      go_roundw
                      case rel => exact ⟨m + 1, by omega, by go_num, hS.out⟩
                      case measure => simp [intOf]; omega
                    · have EB := hid (show linkL l = (R.1, []) from by rw [E1h.out, addK_bad (.inr rfl) (by rw [HRr.out]; exact h0), HRr.out])
                      have n1_ : (R.1 == 0) = false := by rw [beq_eq_false_iff_ne]; exact h0
                      have n2_ : (R.1 != 0) = true := by rw [bne_iff_ne]; exact h0
                      go_wp2_with (go_at_call 25; refine LI.out.mono ?_; rintro e w5 ⟨va, vb, A1, n1, c1, A2, n2, c2, rfl, hb, hr⟩; have HB5 := hid (BW.out.trans (hb.mono BW.out.size)); clear hr hb)
                      refine bodyPost_ret (v := .tuple #[.slice (some ⟨w5.heap.size + 1, 0, none⟩) 0 0, .int .i64 R.1]) (by simp [results, Tryz.results6, go_sem]) rfl ⟨_, 0, 0, by rw [EB.out], by rw [EB.out]; first | exact owni_emp0 HB5.out | exact owni_emp1 HB5.out, by first | exact below_emp0 HB5.out | exact below_emp1 HB5.out⟩
                · have PCC := hid (parC_ne (cs := K.map Prod.fst) hx52)
                  have LB := hid (linkC_bld (x := ⟨51, y1, y2, y3⟩) HBD.out PCC.out)
                  have HPG := hid (parC_good (x := ⟨51, y1, y2, y3⟩) G1h.out.gc HCLO.out PCC.out)
                  have BW := hid (B1h.out.trans (HB3.out.mono B1h.out.size))
                  have TW := hid (T1h.out.below HB3.out (Nat.le_refl _))
                  clear FI
                  by_cases hlen : 0 < y3.length
                  · obtain ⟨y, hy0⟩ : ∃ y, y3[0]? = some y := ⟨_, List.getElem?_eq_getElem hlen⟩
                    have hhd := hdN_0 hy0
                    rw [hhd] at hx52
                    obtain ⟨bq, offq, Eq_, hblq, hcq⟩ := RdC.at_ FNode.len q3y hy0
                    subst Eq_
                    obtain ⟨x0, x1, x2, x3⟩ := y
                    have hx5 : (x0 == 52) = false := by rw [beq_eq_false_iff_ne]; exact hx52
                    obtain ⟨Dq, dq, u0, u1, u2, u3, -⟩ := opN BW.out (Nat.lt_of_lt_of_le hblq hB0) hcq (offq) (offq + 1) (offq + 2) (offq + 3) (by omega)
                    have hlen2 : (0 : Int) < (y3.length : Int) := by omega
                    clear hcq hhd hy0
                    go_upto_region 19 with fail
                    clear u0 u1 u2 u3
                    generalize W8 = W9 at *
                    have LI := hid (build_K ⟨51, y1, y2, y3⟩ (top_cl hg.1 (.inr rfl)) J (some ⟨bq, offq, none⟩) dy AJ cJ ⟨#[]⟩ ⟨#[]⟩ [] [] none 0 none 0 W9 (TW.out.b.rdK) (rd_nil9 _ _ _) (rd_nil9 _ _ _) (q3y.on BW.out hB0 (Nat.le_trans hB0 BW.out.size)) (namesG l) hGl HPG.out.2.1 HPG.out.2.2 G1h.out.gt hg.2 (HKW.out _ (List.mem_of_getElem? HY.out)) (by omega) 51 y1 y2 ⟨rfl, rfl, rfl⟩)
                    obtain ⟨R, hR⟩ : ∃ R, linkC ⟨51, y1, y2, y3⟩ (K.map Prod.fst) (J.map Prod.fst) = R := ⟨_, rfl⟩
                    rw [← LB.out, hR] at LI
                    have HRr := hid hR
                    clear hR
                    by_cases h0 : R.1 = 0
                    · go_upto_region 24 with (go_at_call 25; refine LI.out.mono ?_; rintro e w5 ⟨va, vb, A1, n1, c1, A2, n2, c2, rfl, hb, hr⟩; obtain ⟨rfl, rfl, RF, RM, FM⟩ := hr h0; rw [h0]; have HB5 := hid hb; replace bY := bY.below hb (Nat.le_refl _); have bY0 := bY.cell 0; have bYl := bY.lt; have RFh := hid RF; have RMh := hid RM; have FMh := hid FM; clear hr hb RF RM FM)
                      have bZ := Blk.new w5 40 #[.string (FClass.nm R.2), .string R.2.pa, .slice A1 n1 c1, .slice A2 n2 c2]
                      have HB6 := hid ((HB5.out.alloc HB5.out.size (.cells #[.string (FClass.nm R.2), .string R.2.pa, .slice A1 n1 c1, .slice A2 n2 c2] 40)).alloc (by have := HB5.out.size; simp; omega) (.cells #[.string (FClass.nm R.2), .string R.2.pa, .slice A1 n1 c1, .slice A2 n2 c2] 40))
                      have OW := hid (own_below (own_below TW.out.b.row HB5.out (Nat.le_refl _)) (((Below.refl w5.heap.size w5).alloc (Nat.le_refl _) (.cells #[.string (FClass.nm R.2), .string R.2.pa, .slice A1 n1 c1, .slice A2 n2 c2] 40)).alloc (by simp) (.cells #[.string (FClass.nm R.2), .string R.2.pa, .slice A1 n1 c1, .slice A2 n2 c2] 40)) (Nat.le_refl _))
                      have RFz := hid (own_below RFh.out (((Below.refl w5.heap.size w5).alloc (Nat.le_refl _) (.cells #[.string (FClass.nm R.2), .string R.2.pa, .slice A1 n1 c1, .slice A2 n2 c2] 40)).alloc (by simp) (.cells #[.string (FClass.nm R.2), .string R.2.pa, .slice A1 n1 c1, .slice A2 n2 c2] 40)) (Nat.le_refl _))
                      have RMz := hid (own_below RMh.out (((Below.refl w5.heap.size w5).alloc (Nat.le_refl _) (.cells #[.string (FClass.nm R.2), .string R.2.pa, .slice A1 n1 c1, .slice A2 n2 c2] 40)).alloc (by simp) (.cells #[.string (FClass.nm R.2), .string R.2.pa, .slice A1 n1 c1, .slice A2 n2 c2] 40)) (Nat.le_refl _))
                      have ON := hid (show ∀ u ∈ ([.string (FClass.nm R.2), .string R.2.pa, .slice A1 n1 c1, .slice A2 n2 c2] : List Value), u.oneCell' = true from by intro u hu; simp only [List.mem_cons, List.not_mem_nil, or_false] at hu; rcases hu with rfl | rfl | rfl | rfl <;> rfl)
                      have s6 : w5.heap.size ≤ (w5.alloc (.cells #[.string (FClass.nm R.2), .string R.2.pa, .slice A1 n1 c1, .slice A2 n2 c2] 40)).heap.size := by simp
                      generalize w5.alloc (.cells #[.string (FClass.nm R.2), .string R.2.pa, .slice A1 n1 c1, .slice A2 n2 c2] 40) = W6 at *
                      have RN := hid (rd_new W6 40 4 [.string (FClass.nm R.2), .string R.2.pa, .slice A1 n1 c1, .slice A2 n2 c2] rfl)
                      have hw6 : w.heap.size ≤ (W6.alloc (.cells #[.string (FClass.nm R.2), .string R.2.pa, .slice A1 n1 c1, .slice A2 n2 c2] 40)).heap.size := Nat.le_trans BW.out.size (Nat.le_trans HB5.out.size (Nat.le_trans s6 (by simp)))
                      have bZ0 := bZ.cell 0; have bZ1 := bZ.cell 1; have bZ2 := bZ.cell 2; have bZ3 := bZ.cell 3; have bZl := bZ.lt; have bZf := fun i => bZ.frozen i
                      go_wp2_with (at_builtin; go_must (refine wpList_append_rd _ rfl (.tmp 123) (.tmp 125) _ rfl w.heap.size _ _ _ 80 Tryz.underlying24 infoClassL rfl (by omega) (.slice AJ J.length cJ) J.length _ rfl OW.out (W6.heap.size + 1) _ 1 1 [.string (FClass.nm R.2), .string R.2.pa, .slice A1 n1 c1, .slice A2 n2 c2] rfl RN.out ON.out (by unfold maxLen; omega) (by omega) hw6 ?_); intro v7 w7 own7 hg7 hat7; have hS := hid (LcT.trt TW.out G1h.out E1h.out BW.out rfl HRr.out h0 HB6.out RFz.out RMz.out FMh.out own7 hg7 hat7 ⟨AK, cK, rfl⟩); clear own7 hg7 hat7)
                      go_roundw
                      case rel => exact ⟨m + 1, by omega, by go_num, hS.out⟩
                      case measure => simp [intOf]; omega
                    · have EB := hid (show linkL l = (R.1, []) from by rw [E1h.out, addK_bad (.inr rfl) (by rw [HRr.out]; exact h0), HRr.out])
                      have n1_ : (R.1 == 0) = false := by rw [beq_eq_false_iff_ne]; exact h0
                      have n2_ : (R.1 != 0) = true := by rw [bne_iff_ne]; exact h0
                      go_wp2_with (go_at_call 25; refine LI.out.mono ?_; rintro e w5 ⟨va, vb, A1, n1, c1, A2, n2, c2, rfl, hb, hr⟩; have HB5 := hid (BW.out.trans (hb.mono BW.out.size)); clear hr hb)
                      refine bodyPost_ret (v := .tuple #[.slice (some ⟨w5.heap.size + 1, 0, none⟩) 0 0, .int .i64 R.1]) (by simp [results, Tryz.results6, go_sem]) rfl ⟨_, 0, 0, by rw [EB.out], by rw [EB.out]; first | exact owni_emp0 HB5.out | exact owni_emp1 HB5.out, by first | exact below_emp0 HB5.out | exact below_emp1 HB5.out⟩
                  · obtain rfl : y3 = [] := List.eq_nil_of_length_eq_zero (by omega)
                    go_upto_region 19 with fail
                    generalize W8 = W9 at *
                    have LI := hid (build_K ⟨51, y1, y2, []⟩ (top_cl hg.1 (.inr rfl)) J Dy dy AJ cJ ⟨#[]⟩ ⟨#[]⟩ [] [] none 0 none 0 W9 (TW.out.b.rdK) (rd_nil9 _ _ _) (rd_nil9 _ _ _) (q3y.on BW.out hB0 (Nat.le_trans hB0 BW.out.size)) (namesG l) hGl HPG.out.2.1 HPG.out.2.2 G1h.out.gt hg.2 (HKW.out _ (List.mem_of_getElem? HY.out)) (by omega) 51 y1 y2 ⟨rfl, rfl, rfl⟩)
                    obtain ⟨R, hR⟩ : ∃ R, linkC ⟨51, y1, y2, []⟩ (K.map Prod.fst) (J.map Prod.fst) = R := ⟨_, rfl⟩
                    rw [← LB.out, hR] at LI
                    have HRr := hid hR
                    clear hR
                    by_cases h0 : R.1 = 0
                    · go_upto_region 24 with (go_at_call 25; refine LI.out.mono ?_; rintro e w5 ⟨va, vb, A1, n1, c1, A2, n2, c2, rfl, hb, hr⟩; obtain ⟨rfl, rfl, RF, RM, FM⟩ := hr h0; rw [h0]; have HB5 := hid hb; replace bY := bY.below hb (Nat.le_refl _); have bY0 := bY.cell 0; have bYl := bY.lt; have RFh := hid RF; have RMh := hid RM; have FMh := hid FM; clear hr hb RF RM FM)
                      have bZ := Blk.new w5 40 #[.string (FClass.nm R.2), .string R.2.pa, .slice A1 n1 c1, .slice A2 n2 c2]
                      have HB6 := hid ((HB5.out.alloc HB5.out.size (.cells #[.string (FClass.nm R.2), .string R.2.pa, .slice A1 n1 c1, .slice A2 n2 c2] 40)).alloc (by have := HB5.out.size; simp; omega) (.cells #[.string (FClass.nm R.2), .string R.2.pa, .slice A1 n1 c1, .slice A2 n2 c2] 40))
                      have OW := hid (own_below (own_below TW.out.b.row HB5.out (Nat.le_refl _)) (((Below.refl w5.heap.size w5).alloc (Nat.le_refl _) (.cells #[.string (FClass.nm R.2), .string R.2.pa, .slice A1 n1 c1, .slice A2 n2 c2] 40)).alloc (by simp) (.cells #[.string (FClass.nm R.2), .string R.2.pa, .slice A1 n1 c1, .slice A2 n2 c2] 40)) (Nat.le_refl _))
                      have RFz := hid (own_below RFh.out (((Below.refl w5.heap.size w5).alloc (Nat.le_refl _) (.cells #[.string (FClass.nm R.2), .string R.2.pa, .slice A1 n1 c1, .slice A2 n2 c2] 40)).alloc (by simp) (.cells #[.string (FClass.nm R.2), .string R.2.pa, .slice A1 n1 c1, .slice A2 n2 c2] 40)) (Nat.le_refl _))
                      have RMz := hid (own_below RMh.out (((Below.refl w5.heap.size w5).alloc (Nat.le_refl _) (.cells #[.string (FClass.nm R.2), .string R.2.pa, .slice A1 n1 c1, .slice A2 n2 c2] 40)).alloc (by simp) (.cells #[.string (FClass.nm R.2), .string R.2.pa, .slice A1 n1 c1, .slice A2 n2 c2] 40)) (Nat.le_refl _))
                      have ON := hid (show ∀ u ∈ ([.string (FClass.nm R.2), .string R.2.pa, .slice A1 n1 c1, .slice A2 n2 c2] : List Value), u.oneCell' = true from by intro u hu; simp only [List.mem_cons, List.not_mem_nil, or_false] at hu; rcases hu with rfl | rfl | rfl | rfl <;> rfl)
                      have s6 : w5.heap.size ≤ (w5.alloc (.cells #[.string (FClass.nm R.2), .string R.2.pa, .slice A1 n1 c1, .slice A2 n2 c2] 40)).heap.size := by simp
                      generalize w5.alloc (.cells #[.string (FClass.nm R.2), .string R.2.pa, .slice A1 n1 c1, .slice A2 n2 c2] 40) = W6 at *
                      have RN := hid (rd_new W6 40 4 [.string (FClass.nm R.2), .string R.2.pa, .slice A1 n1 c1, .slice A2 n2 c2] rfl)
                      have hw6 : w.heap.size ≤ (W6.alloc (.cells #[.string (FClass.nm R.2), .string R.2.pa, .slice A1 n1 c1, .slice A2 n2 c2] 40)).heap.size := Nat.le_trans BW.out.size (Nat.le_trans HB5.out.size (Nat.le_trans s6 (by simp)))
                      have bZ0 := bZ.cell 0; have bZ1 := bZ.cell 1; have bZ2 := bZ.cell 2; have bZ3 := bZ.cell 3; have bZl := bZ.lt; have bZf := fun i => bZ.frozen i
                      go_wp2_with (at_builtin; go_must (refine wpList_append_rd _ rfl (.tmp 123) (.tmp 125) _ rfl w.heap.size _ _ _ 80 Tryz.underlying24 infoClassL rfl (by omega) (.slice AJ J.length cJ) J.length _ rfl OW.out (W6.heap.size + 1) _ 1 1 [.string (FClass.nm R.2), .string R.2.pa, .slice A1 n1 c1, .slice A2 n2 c2] rfl RN.out ON.out (by unfold maxLen; omega) (by omega) hw6 ?_); intro v7 w7 own7 hg7 hat7; have hS := hid (LcT.trt TW.out G1h.out E1h.out BW.out rfl HRr.out h0 HB6.out RFz.out RMz.out FMh.out own7 hg7 hat7 ⟨AK, cK, rfl⟩); clear own7 hg7 hat7)
                      go_roundw
                      case rel => exact ⟨m + 1, by omega, by go_num, hS.out⟩
                      case measure => simp [intOf]; omega
                    · have EB := hid (show linkL l = (R.1, []) from by rw [E1h.out, addK_bad (.inr rfl) (by rw [HRr.out]; exact h0), HRr.out])
                      have n1_ : (R.1 == 0) = false := by rw [beq_eq_false_iff_ne]; exact h0
                      have n2_ : (R.1 != 0) = true := by rw [bne_iff_ne]; exact h0
                      go_wp2_with (go_at_call 25; refine LI.out.mono ?_; rintro e w5 ⟨va, vb, A1, n1, c1, A2, n2, c2, rfl, hb, hr⟩; have HB5 := hid (BW.out.trans (hb.mono BW.out.size)); clear hr hb)
                      refine bodyPost_ret (v := .tuple #[.slice (some ⟨w5.heap.size + 1, 0, none⟩) 0 0, .int .i64 R.1]) (by simp [results, Tryz.results6, go_sem]) rfl ⟨_, 0, 0, by rw [EB.out], by rw [EB.out]; first | exact owni_emp0 HB5.out | exact owni_emp1 HB5.out, by first | exact below_emp0 HB5.out | exact below_emp1 HB5.out⟩
            have e1_ : (y0 == 50) = false := by rw [beq_eq_false_iff_ne]; exact h50
            have e2_ : (y0 == 51) = false := by rw [beq_eq_false_iff_ne]; exact h51
            have e3_ : (y0 != 50) = true := by rw [bne_iff_ne]; exact h50
            have e4_ : (y0 != 51) = true := by rw [bne_iff_ne]; exact h51
            have L5 := hid ((L4.below (bw (.cells #[.int .i64 y0, .int .i64 y1, .string y2, .slice Dy y3.length dy] 61))).skip (by intro h; rcases h with h | h; exact h50 h; exact h51 h))
            clear L4 bw
            go_wp2_with fail
            go_roundw
            case rel => exact ⟨m + 1, by omega, by go_num, L5.out⟩
            case measure => simp [intOf]; omega
          · obtain rfl : m = z3.length := by omega
            go_wp2_with (go_at_call 23; refine CALL.out.mono ?_; rintro e wi ⟨rfl, hb⟩; have L4 := L4h.out.below hb; have x3n := XC3.out _ hb; clear hb)
            rw [List.drop_length, List.nil_append] at L4
            go_roundw
            case rel => exact ⟨k + 1, by omega, by go_num, by rw [HRS.out]; exact L4⟩
            case measure => simp [intOf]; omega
    · obtain rfl : k = l.length := by omega
      rw [List.drop_length] at L1
      obtain ⟨K, J, AK, cK, AJ, cJ, eu, ev, T1, G1, E1, B1⟩ := L1
      subst eu ev
      have E2 := hid (show linkL l = (0, K.map Prod.fst) from E1)
      have hnc := G1.nc
      rw [List.length_map] at hnc
      have CP := hid (copies_spec K AK cK wo (Nat.le_refl _) T1.a.rdK (by omega) (fun p hp => by
        have hg := G1.gc p.1 (List.mem_map.2 ⟨p, hp, rfl⟩)
        exact ⟨fun x hx => (hg.f.mem x hx).1, Nat.le_trans hg.f.len hGl, Nat.le_trans hg.m.len hGl⟩))
      have B1h := hid B1
      clear T1 G1 E1 B1 hnc
      go_wp2_with (go_at_call 26; refine CP.out.mono ?_; rintro e w4 ⟨A', c', rfl, own, hb⟩; have OWN := hid own; have HB4 := hid hb; clear own hb)
      refine bodyPost_ret (v := .tuple #[.slice A' K.length c', .int .i64 0]) (by simp [results, Tryz.results6, go_sem]) rfl ⟨A', K.length, c', by rw [E2.out], by rw [E2.out]; exact OWN.out.wide B1h.out.size (Nat.le_refl _), B1h.out.trans (HB4.out.mono B1h.out.size)⟩
end Go.Proofs.YtimiieckkdogeaaGreat
