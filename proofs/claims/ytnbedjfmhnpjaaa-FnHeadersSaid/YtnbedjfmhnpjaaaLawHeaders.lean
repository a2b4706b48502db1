/-
  The law 'FnHeaders' returns true for every input and leaves its arguments as they read. Conditions: none.
-/
import Derived.Test.YtnbedjfmhnpjaaaBox
import Derived.Test.YtnbedjfmhnpjaaaDrH
import Derived.Test.YtnbedjfmhnpjaaaHeadI
namespace Go.Proofs.Ytnbedjfmhnpjaaa
open Go.ChangeShapes Go.WideShapes Go.ChangeAt Go.RowKit Go.Deep Go.Joins
open Go.ChangeMaps (open_string shut_string)
set_option linter.unusedVariables false
set_option linter.unusedSimpArgs false
set_option maxRecDepth 100000

theorem hv_at {s : ByteArray} (h : hvF s = true) {k : Nat} (hk : k < s.size) : ((s[k].toNat : Int) == 10) = false ∧ ((s[k].toNat : Int) == 13) = false := by
  unfold hvF at h
  rw [Bool.and_eq_true] at h
  have h1 := allB_get h.1 k hk
  rw [bI_eq s k hk] at h1
  have h2 := inB_iff.1 h1
  constructor <;> rw [beq_eq_false_iff_ne] <;> omega
set_option maxHeartbeats 8000000 in
theorem fnHeaders_walk {H : Type} {enc : TypeId × Value → H} (W : World) (base : Nat) (v0 : Value) {d0 : DataW H} {p0 : List MemPlace}
    (k0 : Value.okWide Try.prog W .any base 22 v0)
    (h0 : DataW.Trod enc Try.prog W 0 (fun _ => true) true 22 v0 d0 p0) :
    Calls Try.prog 3 #[v0] W fun e w' => e = .returned (.bool true) ∧ Below W.heap.size W w' := by
  obtain ⟨A, n, c, rfl, hy⟩ := open_byt k0 h0
  clear k0 h0
  have HY := Lib.hid hy
  clear hy
  by_cases hbig : 1048576 < n
  · have hd := Lib.hid (decide_eq_true hbig)
    go_enter Try.func3, Try.ntmps3
    go_wp2_with (go_at_call 5; refine (big_any _ _ _ _).mono ?_; rw [hd.out]; rintro e w' ⟨rfl, rfl⟩)
    go_ret
    exact ⟨rfl, Below.refl _ _⟩
  have hd := Lib.hid (decide_eq_false hbig)
  clear hbig
  go_enter Try.func3, Try.ntmps3
  go_upto_region 4 with (first | (go_at_call 5; refine (big_any _ _ _ _).mono ?_; rw [hd.out]; rintro e w' ⟨rfl, rfl⟩) | (go_at_call 6; refine (DrawSetHeader_any A n c _ HY.out).mono ?_; rintro e wk ⟨⟨o, u, nm, vl, ht, hn, hv, rfl, own⟩, hb⟩; obtain ⟨A1, c1, A2, c2, rfl⟩ := own.form; have HB := Lib.hid hb; clear hb))
  clear hd HY
  have N3 := Lib.hid (Bo.new own)
  have HA := Lib.hid (HB.out.alloc HB.out.size (.cells #[.string o.sent, .slice A1 o.heads.length c1, .slice A2 o.bufs.length c2] 27))
  clear own HB
  generalize wk.alloc (.cells #[.string o.sent, .slice A1 o.heads.length c1, .slice A2 o.bufs.length c2] 27) = X1 at *
  generalize wk.heap.size = b3 at *
  have HB := HA
  have B3 := N3
  clear HA N3
  have TO := Lib.hid ht
  have TX := Lib.hid (tiny_head ht nm vl)
  have SH := Lib.hid (fun (u : Value) (w : World) (hr : OutR w w.heap.size u o) => head_impl o nm vl u w ht.l1 ht.l2 (by omega) (by omega) (Nat.le_refl _) hr)
  have S2 := Lib.hid (fun (u : Value) (w : World) (hr : OutR w w.heap.size u (hdP o nm vl).1) => head_impl (hdP o nm vl).1 nm vl u w TX.out.l1 TX.out.l2 (by omega) (by omega) (Nat.le_refl _) hr)
  have IS := Lib.hid (fun (u : Value) (w : World) (hr : OutR w w.heap.size u o) => isOut_spec o u w ht.l1 ht.l2 ht.t12 (tiny_sz ht) (Nat.le_refl _) hr)
  have NOT := Lib.hid (@hd_not o nm vl)
  have OK := Lib.hid (@hd_ok o nm vl)
  have hr4 := hdP_range o nm vl
  clear ht
  generalize (hdP o nm vl).1 = x at *
  generalize (hdP o nm vl).2 = bad at *
  have x3_0 : X1.cell? ⟨b3, 0, none⟩ = some (.string o.sent) := B3.out.blk.cell 0
  have x3_1 : X1.cell? ⟨b3, 1, none⟩ = some (.slice A1 o.heads.length c1) := B3.out.blk.cell 1
  have x3_2 : X1.cell? ⟨b3, 2, none⟩ = some (.slice A2 o.bufs.length c2) := B3.out.blk.cell 2
  go_upto_region 5 with (go_at_call 7; refine (SH.out _ _ B3.out.rd).mono ?_; rintro e wk ⟨u, rfl, own, hb⟩; obtain ⟨A3, c3, A4, c4, rfl⟩ := own.form; replace B3 := Lib.hid (B3.out.below hb); replace HB := Lib.hid (HB.out.trans (hb.mono HB.out.size)); clear hb)
  clear x3_0 x3_1 x3_2
  have N6 := Lib.hid (Bo.new own)
  have HA := Lib.hid (HB.out.alloc HB.out.size (.cells #[.string x.sent, .slice A3 x.heads.length c3, .slice A4 x.bufs.length c4] 27))
  replace B3 := Lib.hid (B3.out.below ((Below.refl _ _).alloc (Nat.le_refl _) (.cells #[.string x.sent, .slice A3 x.heads.length c3, .slice A4 x.bufs.length c4] 27)))
  clear own HB
  generalize wk.alloc (.cells #[.string x.sent, .slice A3 x.heads.length c3, .slice A4 x.bufs.length c4] 27) = X2 at *
  generalize wk.heap.size = b6 at *
  have HB := HA
  have B6 := N6
  clear HA N6
  clear SH
  by_cases hbad : bad = 0
  case neg =>
    obtain ⟨hxo, hse⟩ := NOT.out hbad
    obtain rfl : o = x := hxo.symm
    have hb1 : (bad != 0) = true := by simpa using hbad
    have x3_0 : X2.cell? ⟨b3, 0, none⟩ = some (.string o.sent) := B3.out.blk.cell 0
    have x3_1 : X2.cell? ⟨b3, 1, none⟩ = some (.slice A1 o.heads.length c1) := B3.out.blk.cell 1
    have x3_2 : X2.cell? ⟨b3, 2, none⟩ = some (.slice A2 o.bufs.length c2) := B3.out.blk.cell 2
    have x6_0 : X2.cell? ⟨b6, 0, none⟩ = some (.string o.sent) := B6.out.blk.cell 0
    have x6_1 : X2.cell? ⟨b6, 1, none⟩ = some (.slice A3 o.heads.length c3) := B6.out.blk.cell 1
    have x6_2 : X2.cell? ⟨b6, 2, none⟩ = some (.slice A4 o.bufs.length c4) := B6.out.blk.cell 2
    cases hem : o.sent.toList.isEmpty with
    | true =>
      go_wp2_with (go_at_call 8; refine (sameOutput_same _ _ _ _ TX.out.l1 TX.out.l2 (Nat.le_refl _) B6.out.rd B3.out.rd).mono ?_; rintro e w7 ⟨rfl, hb⟩; replace B3 := Lib.hid (B3.out.below hb); replace B6 := Lib.hid (B6.out.below hb); replace HB := Lib.hid (HB.out.trans (hb.mono HB.out.size)); clear hb; clear x3_0 x3_1 x3_2 x6_0 x6_1 x6_2; have x3_0 : w7.cell? ⟨b3, 0, none⟩ = some (.string o.sent) := B3.out.blk.cell 0; have x3_1 : w7.cell? ⟨b3, 1, none⟩ = some (.slice A1 o.heads.length c1) := B3.out.blk.cell 1; have x3_2 : w7.cell? ⟨b3, 2, none⟩ = some (.slice A2 o.bufs.length c2) := B3.out.blk.cell 2)
      go_ret
      exact ⟨rfl, HB.out⟩
    | false =>
      obtain rfl : bad = 1 := hse hem
      go_wp2_with (go_at_call 8; refine (sameOutput_same _ _ _ _ TX.out.l1 TX.out.l2 (Nat.le_refl _) B6.out.rd B3.out.rd).mono ?_; rintro e w7 ⟨rfl, hb⟩; replace B3 := Lib.hid (B3.out.below hb); replace B6 := Lib.hid (B6.out.below hb); replace HB := Lib.hid (HB.out.trans (hb.mono HB.out.size)); clear hb; clear x3_0 x3_1 x3_2 x6_0 x6_1 x6_2; have x3_0 : w7.cell? ⟨b3, 0, none⟩ = some (.string o.sent) := B3.out.blk.cell 0; have x3_1 : w7.cell? ⟨b3, 1, none⟩ = some (.slice A1 o.heads.length c1) := B3.out.blk.cell 1; have x3_2 : w7.cell? ⟨b3, 2, none⟩ = some (.slice A2 o.bufs.length c2) := B3.out.blk.cell 2)
      go_ret
      exact ⟨rfl, HB.out⟩
  subst hbad
  cases hio : isO o with
  | false =>
    have x3_0 : X2.cell? ⟨b3, 0, none⟩ = some (.string o.sent) := B3.out.blk.cell 0
    have x3_1 : X2.cell? ⟨b3, 1, none⟩ = some (.slice A1 o.heads.length c1) := B3.out.blk.cell 1
    have x3_2 : X2.cell? ⟨b3, 2, none⟩ = some (.slice A2 o.bufs.length c2) := B3.out.blk.cell 2
    go_wp2_with (go_at_call 9; refine (IS.out _ _ B3.out.rd).mono ?_; rw [hio]; rintro e w7 ⟨rfl, hb⟩; replace B3 := Lib.hid (B3.out.below hb); replace B6 := Lib.hid (B6.out.below hb); replace HB := Lib.hid (HB.out.trans (hb.mono HB.out.size)); clear hb)
    go_ret
    exact ⟨rfl, HB.out⟩
  | true =>
    have x3_0 : X2.cell? ⟨b3, 0, none⟩ = some (.string o.sent) := B3.out.blk.cell 0
    have x3_1 : X2.cell? ⟨b3, 1, none⟩ = some (.slice A1 o.heads.length c1) := B3.out.blk.cell 1
    have x3_2 : X2.cell? ⟨b3, 2, none⟩ = some (.slice A2 o.bufs.length c2) := B3.out.blk.cell 2
    go_upto_region 9 with (go_at_call 9; refine (IS.out _ _ B3.out.rd).mono ?_; rw [hio]; rintro e w7 ⟨rfl, hb⟩; replace B3 := Lib.hid (B3.out.below hb); replace B6 := Lib.hid (B6.out.below hb); replace HB := Lib.hid (HB.out.trans (hb.mono HB.out.size)); clear hb)
    clear x3_0 x3_1 x3_2 IS NOT
    have OKK := Lib.hid (OK.out (by trivial) hio)
    clear OK hio hr4
    have x6_0 : w7.cell? ⟨b6, 0, none⟩ = some (.string x.sent) := B6.out.blk.cell 0
    have x6_1 : w7.cell? ⟨b6, 1, none⟩ = some (.slice A3 x.heads.length c3) := B6.out.blk.cell 1
    have x6_2 : w7.cell? ⟨b6, 2, none⟩ = some (.slice A4 x.bufs.length c4) := B6.out.blk.cell 2
    have hn9 : x.heads.length ≤ 9223372036854775807 := by have := TX.out.h; omega
    have RD := Lib.hid (show ∀ (k : Nat) (y : FHeader), x.heads[k]? = some y → ∃ b off, A3 = some ⟨b, off, none⟩ ∧ w7.cell? ⟨b, off + k * 2, none⟩ = some (.string y.a0) ∧ w7.cell? ⟨b, off + k * 2 + 1, none⟩ = some (.string y.a1) from fun k y hx => by
      obtain ⟨hv, bv, he, h1, h2⟩ := B6.out.rd
      simp only [Value.agg.injEq, Array.mk.injEq, List.cons.injEq, true_and, and_true] at he
      obtain ⟨rfl, rfl⟩ := he
      obtain ⟨A, c, he, _, _, _, hcell⟩ := h1
      injection he with e1 e2 e3
      subst e1 e3
      obtain ⟨b, off, rfl, _, hc⟩ := Rd.at_ FHeader.len hcell hx
      exact ⟨b, off, rfl, hc 0 _ rfl, hc 1 _ rfl⟩)
    go_wp2_with fail
    go_loop [8, 9] (fun n i => ∃ k : Nat, k ≤ x.heads.length ∧ i = .int .i64 k ∧ n = .int .i64 (cntH x.heads nm.toList k : Nat)) (fun _ i => x.heads.length - (intOf i).toNat)
    case atStart => exact ⟨0, Nat.zero_le _, rfl, rfl⟩
    case round =>
      obtain ⟨k, hk, rfl, rfl⟩ := hrel
      have hcl := cntH_le x.heads nm.toList k
      by_cases hlt : k < x.heads.length
      · obtain ⟨y, hy⟩ : ∃ y, x.heads[k]? = some y := ⟨_, List.getElem?_eq_getElem hlt⟩
        obtain ⟨bc, offc, rfl, y0, y1⟩ := RD.out k y hy
        have hkl : (k : Int) < (x.heads.length : Int) := by omega
        have hk0 : (0 : Int) ≤ (k : Int) := by omega
        cases hq : (y.a0.toList == nm.toList) with
        | true =>
          obtain rfl : y.a1 = vl := OKK.out.vals k y hy hq
          have hvq : (y.a1.toList != y.a1.toList) = false := by simp
          have CN := Lib.hid (cntH_t x.heads nm.toList k y hy hq)
          clear hy
          go_wp2_with fail
          go_round
          case rel => exact ⟨k + 1, by omega, by go_num, by rw [CN.out]; go_num⟩
          case measure => simp [intOf]; omega
        | false =>
          have CN := Lib.hid (cntH_f x.heads nm.toList k y hy hq)
          clear hy
          go_wp2_with fail
          go_round
          case rel => exact ⟨k + 1, by omega, by go_num, by rw [CN.out]⟩
          case measure => simp [intOf]; omega
      · obtain rfl : k = x.heads.length := by omega
        have ONE := Lib.hid OKK.out.one
        have hkl : ¬ (x.heads.length : Int) < (x.heads.length : Int) := by omega
        obtain ⟨z, hz⟩ : ∃ z : Nat, z = cntH x.heads nm.toList x.heads.length := ⟨_, rfl⟩
        rw [← hz]
        have hz1 : z = 1 := hz.trans ONE.out
        clear hz hcl hlt
        subst hz1
        go_wp2_with fail
        go_loop [10] (fun i => ∃ k : Nat, k ≤ vl.size ∧ i = .int .i64 k) (fun i => vl.size - (intOf i).toNat)
        case atStart => exact ⟨0, Nat.zero_le _, rfl⟩
        case round =>
          obtain ⟨k, hk, rfl⟩ := hrel
          by_cases hlt : k < vl.size
          · obtain ⟨q1, q2⟩ := hv_at OKK.out.byt hlt
            go_wp2_with fail
            go_round
            case rel => exact ⟨k + 1, by omega, by go_num⟩
            case measure => simp [intOf]; omega
          · have hlt' : ¬ (k : Int) < (vl.size : Int) := by omega
            clear hkl
            go_upto_region 23 with (go_at_call 7; refine (S2.out _ _ B6.out.rd).mono ?_; rw [OKK.out.again]; rintro e wk ⟨u, rfl, own, hb⟩; obtain ⟨A5, c5, A6, c6, rfl⟩ := own.form; replace B3 := Lib.hid (B3.out.below hb); replace B6 := Lib.hid (B6.out.below hb); replace HB := Lib.hid (HB.out.trans (hb.mono HB.out.size)); clear hb)
            clear x6_0 x6_1 x6_2
            have N11 := Lib.hid (Bo.new own)
            have HA := Lib.hid (HB.out.alloc HB.out.size (.cells #[.string x.sent, .slice A5 x.heads.length c5, .slice A6 x.bufs.length c6] 27))
            replace B3 := Lib.hid (B3.out.below ((Below.refl _ _).alloc (Nat.le_refl _) (.cells #[.string x.sent, .slice A5 x.heads.length c5, .slice A6 x.bufs.length c6] 27)))
            replace B6 := Lib.hid (B6.out.below ((Below.refl _ _).alloc (Nat.le_refl _) (.cells #[.string x.sent, .slice A5 x.heads.length c5, .slice A6 x.bufs.length c6] 27)))
            clear own HB
            generalize wk.alloc (.cells #[.string x.sent, .slice A5 x.heads.length c5, .slice A6 x.bufs.length c6] 27) = X3 at *
            generalize wk.heap.size = b11 at *
            have HB := HA
            have B11 := N11
            clear HA N11
            have x3_0 : X3.cell? ⟨b3, 0, none⟩ = some (.string o.sent) := B3.out.blk.cell 0
            have x3_1 : X3.cell? ⟨b3, 1, none⟩ = some (.slice A1 o.heads.length c1) := B3.out.blk.cell 1
            have x3_2 : X3.cell? ⟨b3, 2, none⟩ = some (.slice A2 o.bufs.length c2) := B3.out.blk.cell 2
            have x6_0 : X3.cell? ⟨b6, 0, none⟩ = some (.string x.sent) := B6.out.blk.cell 0
            have x6_1 : X3.cell? ⟨b6, 1, none⟩ = some (.slice A3 x.heads.length c3) := B6.out.blk.cell 1
            have x6_2 : X3.cell? ⟨b6, 2, none⟩ = some (.slice A4 x.bufs.length c4) := B6.out.blk.cell 2
            have x11_0 : X3.cell? ⟨b11, 0, none⟩ = some (.string x.sent) := B11.out.blk.cell 0
            have x11_1 : X3.cell? ⟨b11, 1, none⟩ = some (.slice A5 x.heads.length c5) := B11.out.blk.cell 1
            have x11_2 : X3.cell? ⟨b11, 2, none⟩ = some (.slice A6 x.bufs.length c6) := B11.out.blk.cell 2
            have hse := OKK.out.se
            have IX := Lib.hid (fun (u : Value) (w : World) (hr : OutR w w.heap.size u x) => isOut_impl x u w TX.out.l1 TX.out.l2 TX.out.t12 (tiny_sz TX.out) (Nat.le_refl _) hr)
            have HI := Lib.hid OKK.out.iso
            go_wp2_with (first | (go_at_call 8; refine (sameOutput_same _ _ _ _ TX.out.l1 TX.out.l2 (Nat.le_refl _) B6.out.rd B11.out.rd).mono ?_; rintro e w8 ⟨rfl, hb⟩; replace B3 := Lib.hid (B3.out.below hb); replace B6 := Lib.hid (B6.out.below hb); replace B11 := Lib.hid (B11.out.below hb); replace HB := Lib.hid (HB.out.trans (hb.mono HB.out.size)); clear hb; clear x3_0 x3_1 x3_2 x6_0 x6_1 x6_2 x11_0 x11_1 x11_2; have x6_0 : w8.cell? ⟨b6, 0, none⟩ = some (.string x.sent) := B6.out.blk.cell 0; have x6_1 : w8.cell? ⟨b6, 1, none⟩ = some (.slice A3 x.heads.length c3) := B6.out.blk.cell 1; have x6_2 : w8.cell? ⟨b6, 2, none⟩ = some (.slice A4 x.bufs.length c4) := B6.out.blk.cell 2) | (go_at_call 10; refine (IX.out _ _ B6.out.rd).mono ?_; rw [HI.out]; rintro e w9 ⟨rfl, hb⟩; replace B3 := Lib.hid (B3.out.below hb); replace B6 := Lib.hid (B6.out.below hb); replace B11 := Lib.hid (B11.out.below hb); replace HB := Lib.hid (HB.out.trans (hb.mono HB.out.size)); clear hb))
            go_ret
            exact ⟨rfl, HB.out⟩
set_option maxRecDepth 100000 in
theorem fnHeaders_lifted (os : Os) (started : os.Started) (H : Type) (enc : TypeId × Value → H) :
    ReturnsInHanded {} Try.checked os 3 .any (Rows.fnHeadersSpec.pre6 enc Try.prog Try.f3 Rows.fnHeadersRow.domain false) (Rows.fnHeadersSpec.post enc Try.prog Try.f3 false true false false) := by
  refine returnsInHanded_of_change (C := Try.checked) own started (by kernel_rfl) Try.func3
    (ChangeSpec.witness6 (enc := enc) (C := Try.checked) false ⟨#[], #[.slice none 0 0], []⟩ 8 (by kernel_rfl) (by kernel_rfl) (by kernel_rfl) (by kernel_rfl)) ?_
  intro W base args ds gs before hval0 hW hcnd _
  have hval : ∀ (j : Nat) t v, Try.f3.params[j]? = some t → args[j]? = some v → Value.okWide Try.prog W .any base t v := hval0
  have hW' := hW
  obtain ⟨p, q, hA0, hV, rfl, hfz, hnd⟩ := hW
  have hA : DataW.TrodAll enc Try.prog W 0 (fun _ => true) true Try.f3.params.toList args.toList ds p := hA0
  rw [Try.params3] at hA hval
  obtain ⟨v0, vs0, d0, ds0, p0, q0, hargs, rfl, rfl, h0, r0⟩ := trodAll_cons hA
  obtain ⟨rfl, rfl, rfl⟩ := trodAll_nil r0
  obtain rfl : args = #[v0] := by cases args; simp_all
  obtain ⟨rfl, rfl⟩ := trodVars_none hV
  have lt0 : ∀ x ∈ p0, x.block < W.heap.size := by obtain ⟨m, hm⟩ := h0; exact DataW.trod_lt m _ _ _ hm
  have k0 := hval 0 22 v0 rfl rfl
  clear hA0 hval0
  refine (fnHeaders_walk W base v0 k0 h0).mono fun e W' ⟨he, bel⟩ => ?_
  subst he
  exact ⟨_, rfl, _, _, _, [], _, [], hW', trodAll_mk1 (shut_bool Try.underlying4 _), (trodAll_cons_mk (Below.trod laidOut (by kernel_rfl) (of_decide_eq_true (by kernel_rfl)) h0 bel lt0) trodAll_mk0), rfl, bel.frame _, fun h => by cases h⟩

theorem fnHeaders_holds : Rows.FnHeadersSaid :=
  OpenClaim.holds_of_wide 3 Try.f3 rfl rfl rfl rfl rfl rfl rfl ⟨rfl, rfl, rfl, rfl, rfl⟩ rfl rfl rfl rfl rfl (by kernel_rfl) Try.func3 (by kernel_rfl)
    (of_decide_eq_true (by kernel_rfl)) (by unfold Func.isWrapper; rw [if_neg (of_decide_eq_false (by kernel_rfl))]; exact ⟨rfl, rfl⟩)
    (fun os started H enc _ => fnHeaders_lifted os started H enc)
#print axioms fnHeaders_holds

end Go.Proofs.Ytnbedjfmhnpjaaa
