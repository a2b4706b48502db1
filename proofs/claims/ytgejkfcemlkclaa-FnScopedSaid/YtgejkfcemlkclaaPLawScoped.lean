/-
  The law FnScoped: it returns true for every input and leaves its arguments as they read. Conditions: none.
-/
import Derived.Test.YtgejkfcemlkclaaPSdL
import Derived.Test.YtgejkfcemlkclaaPGIsTSdP
import Derived.Test.YtgejkfcemlkclaaPGIsS3SdK
import Derived.Test.YtgejkfcemlkclaaPGIsK8ScL
import Derived.Test.YtgejkfcemlkclaaPGScRScY
import Derived.Test.YtgejkfcemlkclaaPGVarSClI
import Derived.Test.YtgejkfcemlkclaaPGRegRegL
import Derived.HandedShaped
import Derived.Deep.QuietTactic
import Derived.BigQuiet
set_option linter.unusedVariables false
set_option linter.unusedSimpArgs false
namespace Go.Proofs.Ytgejkfcemlkclaa
set_option maxHeartbeats 40000000
open Lib (hid)
open Go.ChangeShapes Go.WideShapes Go.ChangeAt Go.RowKit Go.Deep Go.Joins
open Go.ChangeMaps (open_string shut_string)
set_option maxRecDepth 100000
theorem check_impl2 (x : FNode) (hw : x.wt ≤ 1000000000) (us : List Value) (w : World) (B : Nat) (hmx : MaxAt w) (hB0 : B ≤ w.heap.size) (hr : RdVs w B x.c us) :
    Calls Try.prog 8 #[.agg us.toArray] w fun e w' => e = .returned (.int .i64 (csI x)) ∧ Below w.heap.size w w' := check_impl x hw (tk_sc x) us w B hmx hB0 hr
theorem check_spec2 (x : FNode) (hw : x.wt ≤ 1000000000) (us : List Value) (w : World) (B : Nat) (hB0 : B ≤ w.heap.size) (hr : RdVs w B x.c us) :
    Calls Try.prog 6 #[.agg us.toArray] w fun e w' => e = .returned (.int .i64 (csI x)) ∧ Below w.heap.size w w' := by
  rw [cs_eq]
  exact check_spec x hw us w B hB0 hr
theorem Byts.up {w : World} {B B' n : Nat} {A : Option Addr} (h : Byts w B A n) (hB : B ≤ B') : Byts w B' A n := ⟨h.1, fun hn => by obtain ⟨b, o, e, hb, hc⟩ := h.2 hn; exact ⟨b, o, e, by omega, hc⟩⟩
theorem kn_le (q : Int) (x : FNode) (hw : x.wt ≤ 900000000) : knN q x ≤ 1000000000 := by
  have h1 := knN_sz q x
  have h2 := szN_wt x
  omega
theorem fnScoped_walk {H : Type} {enc : TypeId × Value → H} (W : World) (base : Nat) (v0 : Value) {d0 : DataW H} {p0 : List MemPlace}
    (k0 : Value.okWide Try.prog W .any base 33 v0)
    (h0 : DataW.Trod enc Try.prog W 0 (fun _ => true) true 33 v0 d0 p0) (hsh : W.ShapedOpen Try.prog) :
    Calls Try.prog 4 #[v0] W fun e w' => e = .returned (.bool true) ∧ Below W.heap.size W w' := by
  have HMX := hid (MaxAt.shaped hsh)
  clear hsh
  obtain ⟨A, n, c, rfl, hy⟩ := open_byt k0 h0
  clear k0 h0
  have HY := hid hy
  clear hy
  by_cases hbig : 1048576 < n
  · have hd := hid (decide_eq_true hbig)
    go_enter Try.func4, Try.ntmps4
    go_wp2_with (go_at_call 10; refine (big_any _ _ _ _).mono ?_; rw [hd.out]; rintro e w' ⟨rfl, rfl⟩)
    go_ret
    exact ⟨rfl, Below.refl _ _⟩
  have hd := hid (decide_eq_false hbig)
  clear hbig
  go_enter Try.func4, Try.ntmps4
  go_upto_region 4 with (first | (go_at_call 10; refine (big_any _ _ _ _).mono ?_; rw [hd.out]; rintro e w' ⟨rfl, rfl⟩) | (go_at_call 11; refine (DrawVarsOf_any A n c _ HY.out).mono ?_; rintro e w1 ⟨⟨l, A1, c1, rfl, hr1, hw1⟩, hb1⟩))
  clear hd
  have HV := hid (Vars_impl l A1 c1 w1 (by omega) (Nat.le_refl _) hr1)
  obtain ⟨q, hq⟩ : ∃ q, visQ l = q := ⟨_, rfl⟩
  rw [hq] at HV
  have NE := hid (fun (i k : Nat) (a b : FStr) (hk : k < i) (ha : q[k]? = some a) (hb : q[i]? = some b) => show (a.a0.toList == b.a0.toList) = false from by subst hq; exact vis_ne hk ha hb)
  have TH := hid (fun (i : Nat) (b : FStr) (hb : q[i]? = some b) => show (b.a0.toList == thisL) = false from by subst hq; exact vis_this hb)
  clear hq hr1
  go_upto_region 5 with (go_at_call 12; refine HV.out.mono ?_; rintro e w2 ⟨A2, c2, rfl, own2, hb2⟩)
  have HR := hid own2.read
  have HB2 := hid (hb1.trans (hb2.mono hb1.size))
  have hcap := own2.read.cap
  have hql : q.length ≤ 9223372036854775807 := by unfold maxLen at hcap; omega
  clear own2 hb2 HV hcap
  have hws2 : W.heap.size ≤ w2.heap.size := HB2.out.size
  go_wp2_with fail
  go_loopw [5] (fun i wr => ∃ k : Nat, k ≤ q.length ∧ i = .int .i64 k ∧ Below w2.heap.size w2 wr) (fun i _ => q.length - (intOf i).toNat)
  case atStart => exact ⟨0, Nat.zero_le _, rfl, Below.refl _ _⟩
  case round =>
    obtain ⟨k, hk, rfl, hbr⟩ := hrel
    by_cases hlt : k < q.length
    · obtain ⟨b, hxb⟩ : ∃ x, q[k]? = some x := ⟨_, List.getElem?_eq_getElem hlt⟩
      obtain ⟨bs, offs, rfl, hbl, hcc⟩ := RdC.at_ FStr.len HR.out hxb
      have hth := TH.out k b hxb
      have NK := hid (fun (j : Nat) (a : FStr) (hj : j < k) (ha : q[j]? = some a) => NE.out k j a b hj ha hxb)
      obtain ⟨b0⟩ := b
      rw [FStr.c_eq] at hcc
      obtain ⟨u0, e0, q0⟩ := hcc 0 _ rfl
      obtain rfl := q0.val
      have HK := hid (fun X (hb : Below w2.heap.size w2 X) => (hb.cell (p := ⟨bs, offs + k, none⟩) hbl).trans (show w2.cell? ⟨bs, offs + k, none⟩ = some (.string b0) from by simpa using e0))
      have hth2 : (b0.toList == [116, 104, 105, 115]) = false := hth
      clear hcc e0 q0 hth hxb
      have HBR := hid hbr
      clear hbr
      go_wp2_with fail
      obtain ⟨wo, rfl⟩ : ∃ X : World, X = wr := ⟨_, rfl⟩
      go_loopw [6] (fun i wr => ∃ j : Nat, j ≤ k ∧ i = .int .i64 j ∧ Below w2.heap.size w2 wr) (fun i _ => k - (intOf i).toNat)
      case atStart => exact ⟨0, Nat.zero_le _, rfl, HBR.out⟩
      case round =>
        obtain ⟨j, hj, rfl, hbj⟩ := hrel
        have g0 := HK.out _ hbj
        by_cases hjk : j < k
        · obtain ⟨a, hxa⟩ : ∃ x, q[j]? = some x := ⟨_, List.getElem?_eq_getElem (by omega)⟩
          obtain ⟨bs2, offs2, e9, hbl2, hcc⟩ := RdC.at_ FStr.len HR.out hxa
          simp only [Option.some.injEq, Addr.mk.injEq, and_true] at e9
          obtain ⟨rfl, rfl⟩ := e9
          have hne := NK.out j a hjk hxa
          obtain ⟨a0⟩ := a
          rw [FStr.c_eq] at hcc
          obtain ⟨u0, e0, q0⟩ := hcc 0 _ rfl
          obtain rfl := q0.val
          have gj : wr.cell? ⟨bs, offs + j, none⟩ = some (.string a0) := (hbj.cell (p := ⟨bs, offs + j, none⟩) hbl).trans (by simpa using e0)
          have hne2 : (a0.toList == b0.toList) = false := hne
          have hjl : j < q.length := by omega
          have HBJ := hid hbj
          clear hcc e0 q0 hne hxa hbj hbl2
          go_wp2_with fail
          go_quiet (fail)
          go_wp2_with fail
          go_roundw
          case rel => exact ⟨j + 1, by omega, by go_num, below_drewN HBJ.out _⟩
          case measure => simp [intOf]; omega
        · obtain rfl : j = k := by omega
          have HBJ := hid hbj
          clear hbj
          go_wp2_with fail
          go_roundw
          case rel => exact ⟨j + 1, by omega, by go_num, HBJ.out⟩
          case measure => simp [intOf]; omega
    · obtain rfl : k = q.length := by omega
      have HB3 := hid (HB2.out.trans (hbr.mono HB2.out.size))
      clear hbr HB2 HR NE TH

      have HY3 := hid ((HY.out.keep fun b o hb => HB3.out.cell (p := ⟨b, o, none⟩) hb).up HB3.out.size)
      go_upto_region 16 with (go_at_call 13; refine (DrawCheckScript_any A n c _ HY3.out).mono ?_; rintro e w4 ⟨⟨z0, z1, z2, z3, A3, c3, rfl, hr4, hw4⟩, hb4⟩)
      have HR4 := hid hr4
      have HB4 := hid ((HB3.out.trans (hb4.mono HB3.out.size)).alloc (Nat.le_trans HB3.out.size hb4.size) (.cells #[.int .i64 z0, .int .i64 z1, .string z2, .slice A3 z3.length c3] 29))
      have K4 := hid ((Below.refl w4.heap.size w4).alloc (Nat.le_refl _) (.cells #[.int .i64 z0, .int .i64 z1, .string z2, .slice A3 z3.length c3] 29))
      have NB := hid (Blk.new w4 29 #[.int .i64 z0, .int .i64 z1, .string z2, .slice A3 z3.length c3])
      have hws4 : W.heap.size ≤ w4.heap.size := Nat.le_trans HB3.out.size hb4.size
      generalize w4.alloc (.cells #[.int .i64 z0, .int .i64 z1, .string z2, .slice A3 z3.length c3] 29) = X4 at *
      have RV := hid (fun (w_ : World) (hb : Below w4.heap.size w4 w_) => (ndV (k := z0) (n := z1) (t := z2) (HR4.out.below hb (Nat.le_refl _)) : RdVs w_ w4.heap.size (FNode.mk z0 z1 z2 z3).c [.int .i64 z0, .int .i64 z1, .string z2, .slice A3 z3.length c3]))
      have hwx : (FNode.mk z0 z1 z2 z3).wt ≤ 1000000000 := by omega
      have hk23 := kn_le 23 ⟨z0, z1, z2, z3⟩ hw4
      have hk46 := kn_le 46 ⟨z0, z1, z2, z3⟩ hw4
      have hk35 := kn_le 35 ⟨z0, z1, z2, z3⟩ hw4
      have hk36 := kn_le 36 ⟨z0, z1, z2, z3⟩ hw4
      have hk37 := kn_le 37 ⟨z0, z1, z2, z3⟩ hw4
      have hk38 := kn_le 38 ⟨z0, z1, z2, z3⟩ hw4
      have hcl0 := clN_kn ⟨z0, z1, z2, z3⟩
      have hck0 := clN_kd ⟨z0, z1, z2, z3⟩
      have hhy0 := hyN_kn ⟨z0, z1, z2, z3⟩
      have hcz0 := fun h => cs_zero (x := ⟨z0, z1, z2, z3⟩) h
      have CLO := hid (clI_any ⟨z0, z1, z2, z3⟩ hwx)
      have HYI := hid (hyI _ ⟨z0, z1, z2, z3⟩ (Nat.le_refl _) hwx)
      have KN23 := hid (knI 23 _ ⟨z0, z1, z2, z3⟩ (Nat.le_refl _) hwx)
      have KN46 := hid (knI 46 _ ⟨z0, z1, z2, z3⟩ (Nat.le_refl _) hwx)
      have KN35 := hid (knI 35 _ ⟨z0, z1, z2, z3⟩ (Nat.le_refl _) hwx)
      have KN36 := hid (knI 36 _ ⟨z0, z1, z2, z3⟩ (Nat.le_refl _) hwx)
      have KN37 := hid (knI 37 _ ⟨z0, z1, z2, z3⟩ (Nat.le_refl _) hwx)
      have KN38 := hid (knI 38 _ ⟨z0, z1, z2, z3⟩ (Nat.le_refl _) hwx)
      have CI := hid (check_impl2 ⟨z0, z1, z2, z3⟩ hwx)
      have CS := hid (check_spec2 ⟨z0, z1, z2, z3⟩ hwx)
      have SC := hid (script_impl ⟨z0, z1, z2, z3⟩ hwx)
      unfold KnI at KN23 KN46 KN35 KN36 KN37 KN38
      unfold HyI at HYI
      unfold ClI at CLO
      generalize knN 23 ⟨z0, z1, z2, z3⟩ = n23 at *
      generalize knN 46 ⟨z0, z1, z2, z3⟩ = n46 at *
      generalize knN 35 ⟨z0, z1, z2, z3⟩ = n35 at *
      generalize knN 36 ⟨z0, z1, z2, z3⟩ = n36 at *
      generalize knN 37 ⟨z0, z1, z2, z3⟩ = n37 at *
      generalize knN 38 ⟨z0, z1, z2, z3⟩ = n38 at *
      generalize clN ⟨z0, z1, z2, z3⟩ = cl at *
      generalize hyN ⟨z0, z1, z2, z3⟩ = hy at *
      generalize hcs : csI ⟨z0, z1, z2, z3⟩ = cs at *
      generalize scF ⟨z0, z1, z2, z3⟩ = sc at *
      have CK := hid hck0
      have CZ := hid hcz0
      clear hck0 hcz0 hb4 hr4
      have hcl9 : cl.length ≤ 9223372036854775807 := by omega
      have bX4_0 : X4.cell? ⟨w4.heap.size, 0, none⟩ = some (.int .i64 z0) := NB.out.cell 0
      have bX4_1 : X4.cell? ⟨w4.heap.size, 1, none⟩ = some (.int .i64 z1) := NB.out.cell 1
      have bX4_2 : X4.cell? ⟨w4.heap.size, 2, none⟩ = some (.string z2) := NB.out.cell 2
      have bX4_3 : X4.cell? ⟨w4.heap.size, 3, none⟩ = some (.slice A3 z3.length c3) := NB.out.cell 3
      have bX4_l := NB.out.lt
      go_upto_region 17 with (go_at_call 14; refine (CLO.out [.int .i64 z0, .int .i64 z1, .string z2, .slice A3 z3.length c3] _ w4.heap.size K4.out.size (RV.out _ K4.out)).mono ?_; rintro e w5 ⟨A5, c5, rfl, own5, hb⟩; replace NB := hid (NB.out.below hb (Nat.le_refl _)); replace K4 := hid (K4.out.trans (hb.mono K4.out.size)); replace HB4 := hid (HB4.out.trans (hb.mono HB4.out.size)); clear hb; have bw5_0 : w5.cell? ⟨w4.heap.size, 0, none⟩ = some (.int .i64 z0) := NB.out.cell 0; have bw5_1 : w5.cell? ⟨w4.heap.size, 1, none⟩ = some (.int .i64 z1) := NB.out.cell 1; have bw5_2 : w5.cell? ⟨w4.heap.size, 2, none⟩ = some (.string z2) := NB.out.cell 2; have bw5_3 : w5.cell? ⟨w4.heap.size, 3, none⟩ = some (.slice A3 z3.length c3) := NB.out.cell 3; have bw5_l := NB.out.lt)
      have CR := hid own5.read
      have hls5 : cl.length ≤ 1000000000 := by omega
      clear own5
      have e23 : ((cl.length : Int) != (n23 : Int)) = false := by rw [bne_eq_false_iff_eq]; omega
      have e23b : ((cl.length : Int) == (n23 : Int)) = true := by rw [beq_iff_eq]; omega
      have K5 := hid (Below.refl w5.heap.size w5)
      go_cut [60] from 47 to 60 (fun v wx => v = .bool false ∧ Blk wx w4.heap.size 29 #[.int .i64 z0, .int .i64 z1, .string z2, .slice A3 z3.length c3] ∧ Below w4.heap.size w4 wx ∧ Below W.heap.size W wx ∧ Below w5.heap.size w5 wx)
      case first =>
        cases hy with
        | true =>
          have p46 := hhy0 rfl
          have e46 : ((n46 : Int) == 0) = false := by rw [beq_eq_false_iff_ne]; omega
          go_wp2_with (first | (have _q := tokA; go_at_call 15; refine (KN46.out [.int .i64 z0, .int .i64 z1, .string z2, .slice A3 z3.length c3] _ w4.heap.size K4.out.size (RV.out _ K4.out)).mono ?_; rintro e w8 ⟨rfl, hb⟩; replace NB := hid (NB.out.below hb (Nat.le_refl _)); replace K4 := hid (K4.out.trans (hb.mono K4.out.size)); replace HB4 := hid (HB4.out.trans (hb.mono HB4.out.size)); replace K5 := hid (K5.out.trans (hb.mono K5.out.size)); clear hb; have bw8_0 : w8.cell? ⟨w4.heap.size, 0, none⟩ = some (.int .i64 z0) := NB.out.cell 0; have bw8_1 : w8.cell? ⟨w4.heap.size, 1, none⟩ = some (.int .i64 z1) := NB.out.cell 1; have bw8_2 : w8.cell? ⟨w4.heap.size, 2, none⟩ = some (.string z2) := NB.out.cell 2; have bw8_3 : w8.cell? ⟨w4.heap.size, 3, none⟩ = some (.slice A3 z3.length c3) := NB.out.cell 3; have bw8_l := NB.out.lt; have tokB : True := trivial) | (go_at_call 15; refine (KN23.out [.int .i64 z0, .int .i64 z1, .string z2, .slice A3 z3.length c3] _ w4.heap.size K4.out.size (RV.out _ K4.out)).mono ?_; rintro e w6 ⟨rfl, hb⟩; replace NB := hid (NB.out.below hb (Nat.le_refl _)); replace K4 := hid (K4.out.trans (hb.mono K4.out.size)); replace HB4 := hid (HB4.out.trans (hb.mono HB4.out.size)); replace K5 := hid (K5.out.trans (hb.mono K5.out.size)); clear hb; have bw6_0 : w6.cell? ⟨w4.heap.size, 0, none⟩ = some (.int .i64 z0) := NB.out.cell 0; have bw6_1 : w6.cell? ⟨w4.heap.size, 1, none⟩ = some (.int .i64 z1) := NB.out.cell 1; have bw6_2 : w6.cell? ⟨w4.heap.size, 2, none⟩ = some (.string z2) := NB.out.cell 2; have bw6_3 : w6.cell? ⟨w4.heap.size, 3, none⟩ = some (.slice A3 z3.length c3) := NB.out.cell 3; have bw6_l := NB.out.lt; have tokA : True := trivial) | (go_at_call 16; refine (HYI.out [.int .i64 z0, .int .i64 z1, .string z2, .slice A3 z3.length c3] _ w4.heap.size K4.out.size (RV.out _ K4.out)).mono ?_; rintro e w7 ⟨rfl, hb⟩; replace NB := hid (NB.out.below hb (Nat.le_refl _)); replace K4 := hid (K4.out.trans (hb.mono K4.out.size)); replace HB4 := hid (HB4.out.trans (hb.mono HB4.out.size)); replace K5 := hid (K5.out.trans (hb.mono K5.out.size)); clear hb; have bw7_0 : w7.cell? ⟨w4.heap.size, 0, none⟩ = some (.int .i64 z0) := NB.out.cell 0; have bw7_1 : w7.cell? ⟨w4.heap.size, 1, none⟩ = some (.int .i64 z1) := NB.out.cell 1; have bw7_2 : w7.cell? ⟨w4.heap.size, 2, none⟩ = some (.string z2) := NB.out.cell 2; have bw7_3 : w7.cell? ⟨w4.heap.size, 3, none⟩ = some (.slice A3 z3.length c3) := NB.out.cell 3; have bw7_l := NB.out.lt))
          go_meet
          exact ⟨rfl, NB.out, K4.out, HB4.out, K5.out⟩
        | false =>
          go_wp2_with (first | (go_at_call 15; refine (KN23.out [.int .i64 z0, .int .i64 z1, .string z2, .slice A3 z3.length c3] _ w4.heap.size K4.out.size (RV.out _ K4.out)).mono ?_; rintro e w6 ⟨rfl, hb⟩; replace NB := hid (NB.out.below hb (Nat.le_refl _)); replace K4 := hid (K4.out.trans (hb.mono K4.out.size)); replace HB4 := hid (HB4.out.trans (hb.mono HB4.out.size)); replace K5 := hid (K5.out.trans (hb.mono K5.out.size)); clear hb; have bw6_0 : w6.cell? ⟨w4.heap.size, 0, none⟩ = some (.int .i64 z0) := NB.out.cell 0; have bw6_1 : w6.cell? ⟨w4.heap.size, 1, none⟩ = some (.int .i64 z1) := NB.out.cell 1; have bw6_2 : w6.cell? ⟨w4.heap.size, 2, none⟩ = some (.string z2) := NB.out.cell 2; have bw6_3 : w6.cell? ⟨w4.heap.size, 3, none⟩ = some (.slice A3 z3.length c3) := NB.out.cell 3; have bw6_l := NB.out.lt; have tokA : True := trivial) | (go_at_call 16; refine (HYI.out [.int .i64 z0, .int .i64 z1, .string z2, .slice A3 z3.length c3] _ w4.heap.size K4.out.size (RV.out _ K4.out)).mono ?_; rintro e w7 ⟨rfl, hb⟩; replace NB := hid (NB.out.below hb (Nat.le_refl _)); replace K4 := hid (K4.out.trans (hb.mono K4.out.size)); replace HB4 := hid (HB4.out.trans (hb.mono HB4.out.size)); replace K5 := hid (K5.out.trans (hb.mono K5.out.size)); clear hb; have bw7_0 : w7.cell? ⟨w4.heap.size, 0, none⟩ = some (.int .i64 z0) := NB.out.cell 0; have bw7_1 : w7.cell? ⟨w4.heap.size, 1, none⟩ = some (.int .i64 z1) := NB.out.cell 1; have bw7_2 : w7.cell? ⟨w4.heap.size, 2, none⟩ = some (.string z2) := NB.out.cell 2; have bw7_3 : w7.cell? ⟨w4.heap.size, 3, none⟩ = some (.slice A3 z3.length c3) := NB.out.cell 3; have bw7_l := NB.out.lt))
          go_meet
          exact ⟨rfl, NB.out, K4.out, HB4.out, K5.out⟩
      case rest =>
        clear NB K4 HB4 K5 e23 e23b hhy0
        obtain ⟨rfl, nb, k4, hb4, k5⟩ := hcut
        have NB := hid nb
        have K4 := hid k4
        have HB4 := hid hb4
        have K5 := hid k5
        clear nb k4 hb4 k5
        go_wp2_with fail
        go_loop [9] (fun i => ∃ k : Nat, k ≤ cl.length ∧ i = .int .i64 k) (fun i => cl.length - (intOf i).toNat)
        case atStart => exact ⟨0, Nat.zero_le _, rfl⟩
        case round =>
          obtain ⟨k, hk, rfl⟩ := hrel
          by_cases hlk : k < cl.length
          · obtain ⟨y, hy⟩ : ∃ x, cl[k]? = some x := ⟨_, List.getElem?_eq_getElem hlk⟩
            obtain ⟨bc, offc, rfl, hbl, hcc⟩ := RdC.at_ FNode.len CR.out hy
            have hyk := CK.out y (List.mem_of_getElem? hy)
            obtain ⟨y0, y1, y2, y3⟩ := y
            obtain rfl : y0 = 23 := hyk
            obtain ⟨Dy, dy, c_0, c_1, c_2, c_3, q3⟩ := opN K5.out hbl hcc (offc + k * 4) (offc + k * 4 + 1) (offc + k * 4 + 2) (offc + k * 4 + 3) (by omega)
            clear hcc q3 hy
            go_wp2_with fail
            go_round
            case rel => exact ⟨k + 1, by omega, by go_num⟩
            case measure => simp [intOf]; omega
          · obtain rfl : k = cl.length := by omega
            go_upto_region 24 with fail
            replace NB := hid NB.out.drew
            replace K4 := hid K4.out.drew
            replace HB4 := hid HB4.out.drew
            replace K5 := hid K5.out.drew
            have h10 : IntKind.i64.wrap ((n35 : Int) + (n36 : Int)) = ((n35 + n36 : Nat) : Int) := by rw [IntKind.wrap_i64]; omega
            refine wp_region_held_drew (S := (fun w_ => w_.cell? ⟨w4.heap.size, 0, none⟩ = some (.int .i64 z0) ∧ w_.cell? ⟨w4.heap.size, 1, none⟩ = some (.int .i64 z1) ∧ w_.cell? ⟨w4.heap.size, 2, none⟩ = some (.string z2) ∧ w_.cell? ⟨w4.heap.size, 3, none⟩ = some (.slice A3 z3.length c3))) (by kernel_rfl) ?_ (fun hHeld => ?_)
            · (try dsimp only)
              (exact ⟨NB.out.cell 0, NB.out.cell 1, NB.out.cell 2, NB.out.cell 3⟩)
            refine regTake (i := 0) (v := ?_) rfl (by kernel_rfl) (by kernel_rfl) (by kernel_rfl) (fun _ _ _ h => h) (by rfl) ?_ (by assumption) ?_
            rotate_left
            · intro w_ hSw
              (try dsimp only at hSw)
              go_simp
              (try with_reducible rfl)
            try simp only [aS]
            refine regTake (i := 2) (v := ?_) rfl (by kernel_rfl) (by kernel_rfl) (by kernel_rfl) (fun _ _ _ h => h) (by rfl) ?_ (by assumption) ?_
            rotate_left
            · intro w_ hSw
              (try dsimp only at hSw)
              go_simp
              (try with_reducible rfl)
            try simp only [aS]
            refine regCall (i := 1) (by kernel_rfl) rfl (by rfl) (fun K hK => ?_)
            go_simp
            (go_at_call 15; refine (KN35.out [.int .i64 z0, .int .i64 z1, .string z2, .slice A3 z3.length c3] _ w4.heap.size K4.out.size (RV.out _ K4.out)).mono ?_; rintro e wa24 ⟨rfl, hb⟩; replace NB := hid (NB.out.below hb (Nat.le_refl _)); replace K4 := hid (K4.out.trans (hb.mono K4.out.size)); replace HB4 := hid (HB4.out.trans (hb.mono HB4.out.size)); replace K5 := hid (K5.out.trans (hb.mono K5.out.size)); clear hb; have bwa24_0 : wa24.cell? ⟨w4.heap.size, 0, none⟩ = some (.int .i64 z0) := NB.out.cell 0; have bwa24_1 : wa24.cell? ⟨w4.heap.size, 1, none⟩ = some (.int .i64 z1) := NB.out.cell 1; have bwa24_2 : wa24.cell? ⟨w4.heap.size, 2, none⟩ = some (.string z2) := NB.out.cell 2; have bwa24_3 : wa24.cell? ⟨w4.heap.size, 3, none⟩ = some (.slice A3 z3.length c3) := NB.out.cell 3; have bwa24_l := NB.out.lt)
            refine hK.out _ _ ?_ (fun hHeld => ?_)
            · (try dsimp only)
              (exact ⟨NB.out.cell 0, NB.out.cell 1, NB.out.cell 2, NB.out.cell 3⟩)
            clear hK K
            try simp only [aS]
            refine regCall (i := 3) (by kernel_rfl) rfl (by rfl) (fun K hK => ?_)
            go_simp
            (go_at_call 15; refine (KN36.out [.int .i64 z0, .int .i64 z1, .string z2, .slice A3 z3.length c3] _ w4.heap.size K4.out.size (RV.out _ K4.out)).mono ?_; rintro e wb24 ⟨rfl, hb⟩; replace NB := hid (NB.out.below hb (Nat.le_refl _)); replace K4 := hid (K4.out.trans (hb.mono K4.out.size)); replace HB4 := hid (HB4.out.trans (hb.mono HB4.out.size)); replace K5 := hid (K5.out.trans (hb.mono K5.out.size)); clear hb; have bwb24_0 : wb24.cell? ⟨w4.heap.size, 0, none⟩ = some (.int .i64 z0) := NB.out.cell 0; have bwb24_1 : wb24.cell? ⟨w4.heap.size, 1, none⟩ = some (.int .i64 z1) := NB.out.cell 1; have bwb24_2 : wb24.cell? ⟨w4.heap.size, 2, none⟩ = some (.string z2) := NB.out.cell 2; have bwb24_3 : wb24.cell? ⟨w4.heap.size, 3, none⟩ = some (.slice A3 z3.length c3) := NB.out.cell 3; have bwb24_l := NB.out.lt)
            refine hK.out _ _ ?_ (fun hHeld => ?_)
            · (try dsimp only)
              (exact ⟨NB.out.cell 0, NB.out.cell 1, NB.out.cell 2, NB.out.cell 3⟩)
            clear hK K
            try simp only [aS]
            iterate 2 (refine rgt (v := ?_) rfl rfl ?_ (by assumption) ?_; rotate_left; (focus (intro w_ hSw; (try dsimp only at hSw); go_simp; (try with_reducible rfl); done)); try simp only [aS])
            refine wpAnyH_done (by kernel_rfl) ?_ _
            try simp only [h10]
            go_upto_region 25 with fail
            replace NB := hid NB.out.drew
            replace K4 := hid K4.out.drew
            replace HB4 := hid HB4.out.drew
            replace K5 := hid K5.out.drew
            have h11 : IntKind.i64.wrap ((n37 : Int) + (n38 : Int)) = ((n37 + n38 : Nat) : Int) := by rw [IntKind.wrap_i64]; omega
            refine wp_region_held_drew (S := (fun w_ => w_.cell? ⟨w4.heap.size, 0, none⟩ = some (.int .i64 z0) ∧ w_.cell? ⟨w4.heap.size, 1, none⟩ = some (.int .i64 z1) ∧ w_.cell? ⟨w4.heap.size, 2, none⟩ = some (.string z2) ∧ w_.cell? ⟨w4.heap.size, 3, none⟩ = some (.slice A3 z3.length c3))) (by kernel_rfl) ?_ (fun hHeld => ?_)
            · (try dsimp only)
              (exact ⟨NB.out.cell 0, NB.out.cell 1, NB.out.cell 2, NB.out.cell 3⟩)
            refine regTake (i := 0) (v := ?_) rfl (by kernel_rfl) (by kernel_rfl) (by kernel_rfl) (fun _ _ _ h => h) (by rfl) ?_ (by assumption) ?_
            rotate_left
            · intro w_ hSw
              (try dsimp only at hSw)
              go_simp
              (try with_reducible rfl)
            try simp only [aS]
            refine regTake (i := 2) (v := ?_) rfl (by kernel_rfl) (by kernel_rfl) (by kernel_rfl) (fun _ _ _ h => h) (by rfl) ?_ (by assumption) ?_
            rotate_left
            · intro w_ hSw
              (try dsimp only at hSw)
              go_simp
              (try with_reducible rfl)
            try simp only [aS]
            refine regCall (i := 1) (by kernel_rfl) rfl (by rfl) (fun K hK => ?_)
            go_simp
            (go_at_call 15; refine (KN37.out [.int .i64 z0, .int .i64 z1, .string z2, .slice A3 z3.length c3] _ w4.heap.size K4.out.size (RV.out _ K4.out)).mono ?_; rintro e wa25 ⟨rfl, hb⟩; replace NB := hid (NB.out.below hb (Nat.le_refl _)); replace K4 := hid (K4.out.trans (hb.mono K4.out.size)); replace HB4 := hid (HB4.out.trans (hb.mono HB4.out.size)); replace K5 := hid (K5.out.trans (hb.mono K5.out.size)); clear hb; have bwa25_0 : wa25.cell? ⟨w4.heap.size, 0, none⟩ = some (.int .i64 z0) := NB.out.cell 0; have bwa25_1 : wa25.cell? ⟨w4.heap.size, 1, none⟩ = some (.int .i64 z1) := NB.out.cell 1; have bwa25_2 : wa25.cell? ⟨w4.heap.size, 2, none⟩ = some (.string z2) := NB.out.cell 2; have bwa25_3 : wa25.cell? ⟨w4.heap.size, 3, none⟩ = some (.slice A3 z3.length c3) := NB.out.cell 3; have bwa25_l := NB.out.lt)
            refine hK.out _ _ ?_ (fun hHeld => ?_)
            · (try dsimp only)
              (exact ⟨NB.out.cell 0, NB.out.cell 1, NB.out.cell 2, NB.out.cell 3⟩)
            clear hK K
            try simp only [aS]
            refine regCall (i := 3) (by kernel_rfl) rfl (by rfl) (fun K hK => ?_)
            go_simp
            (go_at_call 15; refine (KN38.out [.int .i64 z0, .int .i64 z1, .string z2, .slice A3 z3.length c3] _ w4.heap.size K4.out.size (RV.out _ K4.out)).mono ?_; rintro e wb25 ⟨rfl, hb⟩; replace NB := hid (NB.out.below hb (Nat.le_refl _)); replace K4 := hid (K4.out.trans (hb.mono K4.out.size)); replace HB4 := hid (HB4.out.trans (hb.mono HB4.out.size)); replace K5 := hid (K5.out.trans (hb.mono K5.out.size)); clear hb; have bwb25_0 : wb25.cell? ⟨w4.heap.size, 0, none⟩ = some (.int .i64 z0) := NB.out.cell 0; have bwb25_1 : wb25.cell? ⟨w4.heap.size, 1, none⟩ = some (.int .i64 z1) := NB.out.cell 1; have bwb25_2 : wb25.cell? ⟨w4.heap.size, 2, none⟩ = some (.string z2) := NB.out.cell 2; have bwb25_3 : wb25.cell? ⟨w4.heap.size, 3, none⟩ = some (.slice A3 z3.length c3) := NB.out.cell 3; have bwb25_l := NB.out.lt)
            refine hK.out _ _ ?_ (fun hHeld => ?_)
            · (try dsimp only)
              (exact ⟨NB.out.cell 0, NB.out.cell 1, NB.out.cell 2, NB.out.cell 3⟩)
            clear hK K
            try simp only [aS]
            iterate 2 (refine rgt (v := ?_) rfl rfl ?_ (by assumption) ?_; rotate_left; (focus (intro w_ hSw; (try dsimp only at hSw); go_simp; (try with_reducible rfl); done)); try simp only [aS])
            refine wpAnyH_done (by kernel_rfl) ?_ _
            try simp only [h11]
            obtain ⟨M, hM⟩ : ∃ M : Nat, (M : Int) = (n35 : Int) + (n36 : Int) := ⟨n35 + n36, by omega⟩
            obtain ⟨N, hN⟩ : ∃ N : Nat, (N : Int) = (n37 : Int) + (n38 : Int) := ⟨n37 + n38, by omega⟩
            rw [← hM, ← hN]
            have CZ2 := CZ.out
            have bwb25_0 : wb25.cell? ⟨w4.heap.size, 0, none⟩ = some (.int .i64 z0) := NB.out.cell 0
            have bwb25_1 : wb25.cell? ⟨w4.heap.size, 1, none⟩ = some (.int .i64 z1) := NB.out.cell 1
            have bwb25_2 : wb25.cell? ⟨w4.heap.size, 2, none⟩ = some (.string z2) := NB.out.cell 2
            have bwb25_3 : wb25.cell? ⟨w4.heap.size, 3, none⟩ = some (.slice A3 z3.length c3) := NB.out.cell 3
            have bwb25_l := NB.out.lt
            by_cases hc0 : cs = 0
            · obtain ⟨rfl, hor⟩ := CZ2 hc0
              subst hc0
              by_cases hN0 : N = 0
              · subst hN0
                go_wp2_with (first | (go_at_call 8; refine (CI.out [.int .i64 z0, .int .i64 z1, .string z2, .slice A3 z3.length c3] _ w4.heap.size (HMX.out.below HB4.out) K4.out.size (RV.out _ K4.out)).mono ?_; rintro e wd ⟨rfl, hb⟩; replace NB := hid (NB.out.below hb (Nat.le_refl _)); replace K4 := hid (K4.out.trans (hb.mono K4.out.size)); replace HB4 := hid (HB4.out.trans (hb.mono HB4.out.size)); replace K5 := hid (K5.out.trans (hb.mono K5.out.size)); clear hb; have bwd_0 : wd.cell? ⟨w4.heap.size, 0, none⟩ = some (.int .i64 z0) := NB.out.cell 0; have bwd_1 : wd.cell? ⟨w4.heap.size, 1, none⟩ = some (.int .i64 z1) := NB.out.cell 1; have bwd_2 : wd.cell? ⟨w4.heap.size, 2, none⟩ = some (.string z2) := NB.out.cell 2; have bwd_3 : wd.cell? ⟨w4.heap.size, 3, none⟩ = some (.slice A3 z3.length c3) := NB.out.cell 3; have bwd_l := NB.out.lt) | (go_at_call 17; refine (SC.out [.int .i64 z0, .int .i64 z1, .string z2, .slice A3 z3.length c3] _ w4.heap.size (HMX.out.below HB4.out) K4.out.size (RV.out _ K4.out)).mono ?_; rintro e we ⟨rfl, hb⟩; replace NB := hid (NB.out.below hb (Nat.le_refl _)); replace K4 := hid (K4.out.trans (hb.mono K4.out.size)); replace HB4 := hid (HB4.out.trans (hb.mono HB4.out.size)); replace K5 := hid (K5.out.trans (hb.mono K5.out.size)); clear hb; have bwe_0 : we.cell? ⟨w4.heap.size, 0, none⟩ = some (.int .i64 z0) := NB.out.cell 0; have bwe_1 : we.cell? ⟨w4.heap.size, 1, none⟩ = some (.int .i64 z1) := NB.out.cell 1; have bwe_2 : we.cell? ⟨w4.heap.size, 2, none⟩ = some (.string z2) := NB.out.cell 2; have bwe_3 : we.cell? ⟨w4.heap.size, 3, none⟩ = some (.slice A3 z3.length c3) := NB.out.cell 3; have bwe_l := NB.out.lt))
                go_ret
                exact ⟨rfl, HB4.out⟩
              · have hM0 : decide ((0 : Int) < (M : Int)) = true := decide_eq_true (by omega)
                have hM1 : (0 : Int) < (M : Int) := by omega
                have hN1 : ((N : Int) == 0) = false := by rw [beq_eq_false_iff_ne]; omega
                go_wp2_with (first | (go_at_call 8; refine (CI.out [.int .i64 z0, .int .i64 z1, .string z2, .slice A3 z3.length c3] _ w4.heap.size (HMX.out.below HB4.out) K4.out.size (RV.out _ K4.out)).mono ?_; rintro e wd ⟨rfl, hb⟩; replace NB := hid (NB.out.below hb (Nat.le_refl _)); replace K4 := hid (K4.out.trans (hb.mono K4.out.size)); replace HB4 := hid (HB4.out.trans (hb.mono HB4.out.size)); replace K5 := hid (K5.out.trans (hb.mono K5.out.size)); clear hb; have bwd_0 : wd.cell? ⟨w4.heap.size, 0, none⟩ = some (.int .i64 z0) := NB.out.cell 0; have bwd_1 : wd.cell? ⟨w4.heap.size, 1, none⟩ = some (.int .i64 z1) := NB.out.cell 1; have bwd_2 : wd.cell? ⟨w4.heap.size, 2, none⟩ = some (.string z2) := NB.out.cell 2; have bwd_3 : wd.cell? ⟨w4.heap.size, 3, none⟩ = some (.slice A3 z3.length c3) := NB.out.cell 3; have bwd_l := NB.out.lt) | (go_at_call 17; refine (SC.out [.int .i64 z0, .int .i64 z1, .string z2, .slice A3 z3.length c3] _ w4.heap.size (HMX.out.below HB4.out) K4.out.size (RV.out _ K4.out)).mono ?_; rintro e we ⟨rfl, hb⟩; replace NB := hid (NB.out.below hb (Nat.le_refl _)); replace K4 := hid (K4.out.trans (hb.mono K4.out.size)); replace HB4 := hid (HB4.out.trans (hb.mono HB4.out.size)); replace K5 := hid (K5.out.trans (hb.mono K5.out.size)); clear hb; have bwe_0 : we.cell? ⟨w4.heap.size, 0, none⟩ = some (.int .i64 z0) := NB.out.cell 0; have bwe_1 : we.cell? ⟨w4.heap.size, 1, none⟩ = some (.int .i64 z1) := NB.out.cell 1; have bwe_2 : we.cell? ⟨w4.heap.size, 2, none⟩ = some (.string z2) := NB.out.cell 2; have bwe_3 : we.cell? ⟨w4.heap.size, 3, none⟩ = some (.slice A3 z3.length c3) := NB.out.cell 3; have bwe_l := NB.out.lt))
                go_ret
                exact ⟨rfl, HB4.out⟩
            · have hc1 : (cs == 0) = false := beq_false_of_ne hc0
              have hc2 : (cs != 0) = true := by simp [bne, hc1]
              go_upto_region 27 with (go_at_call 8; refine (CI.out [.int .i64 z0, .int .i64 z1, .string z2, .slice A3 z3.length c3] _ w4.heap.size (HMX.out.below HB4.out) K4.out.size (RV.out _ K4.out)).mono ?_; rintro e wd ⟨rfl, hb⟩; replace NB := hid (NB.out.below hb (Nat.le_refl _)); replace K4 := hid (K4.out.trans (hb.mono K4.out.size)); replace HB4 := hid (HB4.out.trans (hb.mono HB4.out.size)); replace K5 := hid (K5.out.trans (hb.mono K5.out.size)); clear hb; have bwd_0 : wd.cell? ⟨w4.heap.size, 0, none⟩ = some (.int .i64 z0) := NB.out.cell 0; have bwd_1 : wd.cell? ⟨w4.heap.size, 1, none⟩ = some (.int .i64 z1) := NB.out.cell 1; have bwd_2 : wd.cell? ⟨w4.heap.size, 2, none⟩ = some (.string z2) := NB.out.cell 2; have bwd_3 : wd.cell? ⟨w4.heap.size, 3, none⟩ = some (.slice A3 z3.length c3) := NB.out.cell 3; have bwd_l := NB.out.lt)
              replace NB := hid NB.out.drew
              replace K4 := hid K4.out.drew
              replace HB4 := hid HB4.out.drew
              replace K5 := hid K5.out.drew
              refine wp_region_held_drew (S := (fun w_ => w_.cell? ⟨w4.heap.size, 0, none⟩ = some (.int .i64 z0) ∧ w_.cell? ⟨w4.heap.size, 1, none⟩ = some (.int .i64 z1) ∧ w_.cell? ⟨w4.heap.size, 2, none⟩ = some (.string z2) ∧ w_.cell? ⟨w4.heap.size, 3, none⟩ = some (.slice A3 z3.length c3))) (by kernel_rfl) ?_ (fun hHeld => ?_)
              · (try dsimp only)
                (exact ⟨NB.out.cell 0, NB.out.cell 1, NB.out.cell 2, NB.out.cell 3⟩)
              refine regTake (i := 0) (v := ?_) rfl (by kernel_rfl) (by kernel_rfl) (by kernel_rfl) (fun _ _ _ h => h) (by rfl) ?_ (by assumption) ?_
              rotate_left
              · intro w_ hSw
                (try dsimp only at hSw)
                go_simp
                (try with_reducible rfl)
              try simp only [aS]
              refine regTake (i := 2) (v := ?_) rfl (by kernel_rfl) (by kernel_rfl) (by kernel_rfl) (fun _ _ _ h => h) (by rfl) ?_ (by assumption) ?_
              rotate_left
              · intro w_ hSw
                (try dsimp only at hSw)
                go_simp
                (try with_reducible rfl)
              try simp only [aS]
              refine regCall (i := 1) (by kernel_rfl) rfl (by rfl) (fun K hK => ?_)
              go_simp
              (go_at_call 8; refine (CI.out [.int .i64 z0, .int .i64 z1, .string z2, .slice A3 z3.length c3] _ w4.heap.size (HMX.out.below HB4.out) K4.out.size (RV.out _ K4.out)).mono ?_; rintro e wf ⟨rfl, hb⟩; replace NB := hid (NB.out.below hb (Nat.le_refl _)); replace K4 := hid (K4.out.trans (hb.mono K4.out.size)); replace HB4 := hid (HB4.out.trans (hb.mono HB4.out.size)); replace K5 := hid (K5.out.trans (hb.mono K5.out.size)); clear hb; have bwf_0 : wf.cell? ⟨w4.heap.size, 0, none⟩ = some (.int .i64 z0) := NB.out.cell 0; have bwf_1 : wf.cell? ⟨w4.heap.size, 1, none⟩ = some (.int .i64 z1) := NB.out.cell 1; have bwf_2 : wf.cell? ⟨w4.heap.size, 2, none⟩ = some (.string z2) := NB.out.cell 2; have bwf_3 : wf.cell? ⟨w4.heap.size, 3, none⟩ = some (.slice A3 z3.length c3) := NB.out.cell 3; have bwf_l := NB.out.lt)
              refine hK.out _ _ ?_ (fun hHeld => ?_)
              · (try dsimp only)
                (exact ⟨NB.out.cell 0, NB.out.cell 1, NB.out.cell 2, NB.out.cell 3⟩)
              clear hK K
              try simp only [aS]
              refine regCall (i := 3) (by kernel_rfl) rfl (by rfl) (fun K hK => ?_)
              go_simp
              (go_at_call 6; refine (CS.out [.int .i64 z0, .int .i64 z1, .string z2, .slice A3 z3.length c3] _ w4.heap.size K4.out.size (RV.out _ K4.out)).mono ?_; rintro e wg ⟨rfl, hb⟩; replace NB := hid (NB.out.below hb (Nat.le_refl _)); replace K4 := hid (K4.out.trans (hb.mono K4.out.size)); replace HB4 := hid (HB4.out.trans (hb.mono HB4.out.size)); replace K5 := hid (K5.out.trans (hb.mono K5.out.size)); clear hb; have bwg_0 : wg.cell? ⟨w4.heap.size, 0, none⟩ = some (.int .i64 z0) := NB.out.cell 0; have bwg_1 : wg.cell? ⟨w4.heap.size, 1, none⟩ = some (.int .i64 z1) := NB.out.cell 1; have bwg_2 : wg.cell? ⟨w4.heap.size, 2, none⟩ = some (.string z2) := NB.out.cell 2; have bwg_3 : wg.cell? ⟨w4.heap.size, 3, none⟩ = some (.slice A3 z3.length c3) := NB.out.cell 3; have bwg_l := NB.out.lt)
              refine hK.out _ _ ?_ (fun hHeld => ?_)
              · (try dsimp only)
                (exact ⟨NB.out.cell 0, NB.out.cell 1, NB.out.cell 2, NB.out.cell 3⟩)
              clear hK K
              try simp only [aS]
              iterate 2 (refine rgt (v := ?_) rfl rfl ?_ (by assumption) ?_; rotate_left; (focus (intro w_ hSw; (try dsimp only at hSw); go_simp; (try with_reducible rfl); done)); try simp only [aS])
              refine wpAnyH_done (by kernel_rfl) ?_ _
              go_wp2_with fail
              go_ret
              exact ⟨ret_bool (by simp), HB4.out⟩
theorem fnScoped_lifted (os : Os) (started : os.Started) (H : Type) (enc : TypeId × Value → H) :
    ReturnsInHanded {} Try.checked os 4 .any (Rows.fnScopedSpec.pre6 enc Try.prog Try.f4 Rows.fnScopedRow.domain false) (Rows.fnScopedSpec.post enc Try.prog Try.f4 false true false false) := by
  refine returnsInHanded_of_change_shaped (C := Try.checked) own started (by kernel_rfl) Try.func4
    (ChangeSpec.witness6 (enc := enc) (C := Try.checked) false ⟨#[], #[.slice none 0 0], []⟩ 8 (by kernel_rfl) (by kernel_rfl) (by kernel_rfl) (by kernel_rfl)) ?_
  intro W base args ds gs before hval0 hW hcnd _ hsh _
  have hval : ∀ (j : Nat) t v, Try.f4.params[j]? = some t → args[j]? = some v → Value.okWide Try.prog W .any base t v := hval0
  have hW' := hW
  obtain ⟨p, q, hA0, hV, rfl, hfz, hnd⟩ := hW
  have hA : DataW.TrodAll enc Try.prog W 0 (fun _ => true) true Try.f4.params.toList args.toList ds p := hA0
  rw [Try.params4] at hA hval
  obtain ⟨v0, vs0, d0, ds0, p0, q0, hargs, rfl, rfl, h0, r0⟩ := trodAll_cons hA
  obtain ⟨rfl, rfl, rfl⟩ := trodAll_nil r0
  obtain rfl : args = #[v0] := by cases args; simp_all
  obtain ⟨rfl, rfl⟩ := trodVars_none hV
  have lt0 : ∀ x ∈ p0, x.block < W.heap.size := by obtain ⟨m, hm⟩ := h0; exact DataW.trod_lt m _ _ _ hm
  have k0 := hval 0 33 v0 rfl rfl
  clear hA0 hval0
  refine (fnScoped_walk W base v0 k0 h0 hsh).mono fun e W' ⟨he, bel⟩ => ?_
  subst he
  exact ⟨_, rfl, _, _, _, [], _, [], hW', trodAll_mk1 (shut_bool Try.underlying4 _), (trodAll_cons_mk (Below.trod laidOut (by kernel_rfl) (of_decide_eq_true (by kernel_rfl)) h0 bel lt0) trodAll_mk0), rfl, bel.frame _, fun h => by cases h⟩

theorem fnScoped_holds : Rows.FnScopedSaid :=
  OpenClaim.holds_of_wide 4 Try.f4 rfl rfl rfl rfl rfl rfl rfl ⟨rfl, rfl, rfl, rfl, rfl⟩ rfl rfl rfl rfl rfl (by kernel_rfl) Try.func4 (by kernel_rfl)
    (of_decide_eq_true (by kernel_rfl)) (by unfold Func.isWrapper; rw [if_neg (of_decide_eq_false (by kernel_rfl))]; exact ⟨rfl, rfl⟩)
    (fun os started H enc _ => fnScoped_lifted os started H enc)
#print axioms fnScoped_holds

end Go.Proofs.Ytgejkfcemlkclaa
