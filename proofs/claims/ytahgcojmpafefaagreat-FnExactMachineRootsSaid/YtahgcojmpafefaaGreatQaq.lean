/-
  Parts of the proof: MkN. Conditions: none.
-/
import Derived.Test.YtahgcojmpafefaaGreatQaa
import Derived.Test.YtahgcojmpafefaaGreatQae
set_option linter.unusedVariables false
set_option linter.unusedSimpArgs false
namespace Go.Proofs.YtahgcojmpafefaaGreat
set_option maxHeartbeats 40000000
open Lib (hid)
open Go.ChangeShapes Go.WideShapes Go.ChangeAt Go.RowKit Go.Deep Go.Joins
open Go.ChangeMaps (open_string shut_string)
set_option maxRecDepth 100000
theorem FArg.flat_len (l : List FArg) : (FArg.flat l).length = l.length * 6 := by
  induction l with
  | nil => simp
  | cons x r ih =>
    have e : FArg.flat (x :: r) = x.c ++ FArg.flat r := List.flatMap_cons
    rw [e, List.length_append, ih, FArg.len, List.length_cons]
    omega
theorem FArg.flat_at (l : List FArg) (k : Nat) (x : FArg) (h : l[k]? = some x) : l.drop k = x :: l.drop (k + 1) := by
  have hk := (List.getElem?_eq_some_iff.1 h).1
  rw [List.drop_eq_getElem_cons hk, (List.getElem?_eq_some_iff.1 h).2]
theorem FArg.flat_take (l : List FArg) (k : Nat) (x : FArg) (h : l[k]? = some x) : FArg.flat (l.take (k + 1)) = FArg.flat (l.take k) ++ x.c := by
  rw [List.take_add_one, h]
  simp [FArg.flat]
theorem FArg.flat_split (l : List FArg) (k : Nat) (x : FArg) (h : l[k]? = some x) : FArg.flat l = FArg.flat (l.take k) ++ (x.c ++ FArg.flat (l.drop (k + 1))) := by
  have e : FArg.flat (l.take k ++ l.drop k) = FArg.flat (l.take k) ++ FArg.flat (l.drop k) := List.flatMap_append
  rw [List.take_append_drop] at e
  rw [e, FArg.flat_at l k x h]
  have e2 : FArg.flat (x :: l.drop (k + 1)) = x.c ++ FArg.flat (l.drop (k + 1)) := List.flatMap_cons
  rw [e2]
theorem FArg.cnt_at (l : List FArg) (k : Nat) (x : FArg) (h : l[k]? = some x) : cntL (FArg.flat (l.take k)) + cntL x.c ≤ cntL (FArg.flat l) := by
  rw [FArg.flat_split l k x h, cntL_append, cntL_append]
  omega
theorem FArg.cnt_eq (z0 : Int) (z1 : Int) (z2 : Int) (z3 : ByteArray) (z4 : Int) (z5 : List FEntry) : cntL (FArg.c ⟨z0, ⟨z1, z2, z3, z4, z5⟩⟩) = 5 + cntL (FEntry.flat z5) := by
  rw [FArg.c_eq]
  simp only [cntL, Cel.cnt]
  try omega
def MarkArgS (l : List FArg) : Prop := ∀ (u : Value) (k0 : Int) (F : List Nat) (w : World), 1 ≤ k0 → k0 + (cntL (FArg.flat l) : Int) ≤ 1000000000000000 → F.Nodup → OwnC w (.s 158 6 l.length (FArg.flat l)) F u → Calls Tryz.prog 117 #[u, .int .i64 k0] w fun e w' => e = .returned (.int .i64 (k0 + (cntL (FArg.flat l) : Int))) ∧ OwnC w' (.s 158 6 l.length (mkL (FArg.flat l) k0)) F u ∧ OnlyF F w w'
def MkArg : FArg → Prop
  | ⟨z0, ⟨z1, z2, z3, z4, z5⟩⟩ => MarkEntryS z5
theorem cntb1_Arg (x : FArg) : cntL x.c ≤ 20 + 20 * x.wt := by
  obtain ⟨z0, ⟨z1, z2, z3, z4, z5⟩⟩ := x
  rw [FArg.cnt_eq, FArg.wt_eq]
  have b5 := cntb_EntryS z5
  omega
theorem cntb_ArgS : ∀ l : List FArg, cntL (FArg.flat l) ≤ 20 * (l.length + FArg.wts l)
  | [] => by simp [cntL]
  | x :: r => by
    have e : FArg.flat (x :: r) = x.c ++ FArg.flat r := List.flatMap_cons
    have h1 := cntb1_Arg x
    have h2 := cntb_ArgS r
    rw [e, cntL_append, FArg.wts, List.length_cons]
    omega
theorem markArgS_of (l : List FArg) (he : ∀ x, x ∈ l → MkArg x) : MarkArgS l := by
  intro u k0 F w h1 h2 hF hO
  obtain ⟨A, c, rfl⟩ := hO.form
  have hcap := hO.read.cap
  have hn : l.length ≤ 9223372036854775807 := by unfold maxLen at hcap; omega
  have HO := hid hO
  clear hcap
  by_cases hl0 : l.length = 0
  · obtain rfl : l = [] := List.eq_nil_of_length_eq_zero hl0
    clear hO hl0 he
    go_enter Tryz.func117, Tryz.ntmps117
    go_wp2_with fail
    go_loop [1, 5] (fun kv i => kv = .int .i64 k0 ∧ i = .int .i64 0) (fun _ i => 0)
    case atStart => exact ⟨rfl, rfl⟩
    case round =>
      obtain ⟨rfl, rfl⟩ := hrel
      go_wp2_with fail
      go_ret
      exact ⟨ret_int (by simp [cntL]), by simpa [mkL] using HO.out, OnlyF.refl _ _⟩
  obtain ⟨g, hA, hg⟩ := hO.head (by omega)
  subst hA
  have HE := hid he
  clear he
  have HG := hid hg
  clear hO hg hl0
  go_enter Tryz.func117, Tryz.ntmps117
  go_wp2_with fail
  go_loopw [1, 5] (fun kv i wr => ∃ (k : Nat) (kk : Int), k ≤ l.length ∧ i = .int .i64 k ∧ kv = .int .i64 kk ∧ kk = k0 + (cntL (FArg.flat (l.take k)) : Int) ∧ OwnC wr (.s 158 6 l.length (mkL (FArg.flat (l.take k)) k0 ++ FArg.flat (l.drop k))) F (.slice (some ⟨g, 0, none⟩) l.length c) ∧ OnlyF F w wr) (fun _ i _ => l.length - (intOf i).toNat)
  case atStart => exact ⟨0, k0, Nat.zero_le _, rfl, rfl, by simp [cntL], by simpa [mkL] using HO.out, OnlyF.refl _ _⟩
  case round =>
    obtain ⟨k, kk, hk, rfl, rfl, hkk, hO, hG⟩ := hrel
    have HKK := hid hkk
    have HO1 := hid hO
    have HGG := hid hG
    clear hO hG
    by_cases hlt : k < l.length
    · obtain ⟨x, hx⟩ : ∃ x, l[k]? = some x := ⟨_, List.getElem?_eq_getElem hlt⟩
      have HX := hid hx
      have hca := FArg.cnt_at l k x hx
      have hD0 : (mkL (FArg.flat (l.take k)) k0).length = k * 6 := by rw [mkL_len, FArg.flat_len, List.length_take]; congr 1; omega
      have hO2 := HO1.out
      rw [FArg.flat_at l k x hx] at hO2
      have hmx := HE.out x (List.mem_of_getElem? hx)
      obtain ⟨z0, ⟨z1, z2, z3, z4, z5⟩⟩ := x
      rw [show FArg.flat (⟨z0, ⟨z1, z2, z3, z4, z5⟩⟩ :: l.drop (k + 1)) = (FArg.c ⟨z0, ⟨z1, z2, z3, z4, z5⟩⟩) ++ FArg.flat (l.drop (k + 1)) from List.flatMap_cons, FArg.c_eq] at hO2
      rw [FArg.cnt_eq] at hca
      have M5 : MarkEntryS z5 := hmx
      have HM5 := hid M5
      clear hmx M5
      obtain ⟨D, hDD⟩ : ∃ D, D = mkL (FArg.flat (l.take k)) k0 := ⟨_, rfl⟩
      rw [← hDD] at hD0 hO2
      obtain ⟨R, hRR⟩ : ∃ R, R = FArg.flat (l.drop (k + 1)) := ⟨_, rfl⟩
      rw [← hRR] at hO2
      have HD := hid hD0
      have HDD := hid hDD
      have HRR := hid hRR
      have hkp : 1 ≤ kk := by omega
      generalize hCC : cntL (FArg.flat (l.take k)) = CC at *
      obtain ⟨N5, hN5⟩ : ∃ N : Nat, N = cntL (FEntry.flat z5) := ⟨_, rfl⟩
      rw [← hN5] at hca
      have hkb : kk + ((5 + N5 : Nat) : Int) ≤ 1000000000000000 := by omega
      have HN5 := hid hN5
      have HCC := hid hCC
      clear hx hD0 hDD hRR hkk hca hCC hN5
      obtain ⟨f0, hrow0, hnc0, hln0⟩ := hO2.row
      have hkc : k * 6 + 6 ≤ c * 6 := by have := Nat.mul_le_mul_right 6 (show k + 1 ≤ c by omega); rw [Nat.succ_mul] at this; exact this
      have q0 := hrow0.cell (i := k * 6) (by omega)
      have y0 := hrow0.frozen (k * 6)
      have q1 := hrow0.cell (i := k * 6 + 1) (by omega)
      have y1 := hrow0.frozen (k * 6 + 1)
      have q2 := hrow0.cell (i := k * 6 + 1 + 1) (by omega)
      have y2 := hrow0.frozen (k * 6 + 1 + 1)
      have q3 := hrow0.cell (i := k * 6 + 1 + 2) (by omega)
      have y3 := hrow0.frozen (k * 6 + 1 + 2)
      have q4 := hrow0.cell (i := k * 6 + 1 + 3) (by omega)
      have y4 := hrow0.frozen (k * 6 + 1 + 3)
      have q5 := hrow0.cell (i := k * 6 + 1 + 4) (by omega)
      have y5 := hrow0.frozen (k * 6 + 1 + 4)
      clear hrow0
      go_wp2_with fail
      clear hkc y0 y1 y2 y3 y4 y5 q0 q1 q2 q3 q4 q5
      have O0_0 := OwnC.setv (D := D) (y := .int .i64 z0) (R := .v (.int .i64 z1) :: .v (.int .i64 z2) :: .v (.string z3) :: .v (.int .i64 z4) :: .s 153 8 z5.length (FEntry.flat z5) :: R) (by simp only [List.append_assoc, List.cons_append, List.nil_append] at hO2 ⊢; exact hO2) hF (.int .i64 (kk)) (k * 6) (by simp [HD.out])
      clear hO2
      have O0_1 := OwnC.setv (D := D ++ [.v (.int .i64 (kk))]) (y := .int .i64 z1) (R := .v (.int .i64 z2) :: .v (.string z3) :: .v (.int .i64 z4) :: .s 153 8 z5.length (FEntry.flat z5) :: R) (by simp only [List.append_assoc, List.cons_append, List.nil_append] at O0_0 ⊢; exact O0_0) hF (.int .i64 (kk + 1)) (k * 6 + 1) (by simp [HD.out])
      clear O0_0
      have O0_2 := OwnC.setv (D := D ++ [.v (.int .i64 (kk)), .v (.int .i64 (kk + 1))]) (y := .int .i64 z2) (R := .v (.string z3) :: .v (.int .i64 z4) :: .s 153 8 z5.length (FEntry.flat z5) :: R) (by simp only [List.append_assoc, List.cons_append, List.nil_append] at O0_1 ⊢; exact O0_1) hF (.int .i64 (kk + 1 + 1)) (k * 6 + 1 + 1) (by simp [HD.out])
      clear O0_1
      refine (markText_any _ _ (by omega)).mono ?_
      rintro e w2 ⟨rfl, hb1⟩
      have G1 := hid (OnlyF.of_below (OnlyF.set (OnlyF.set (OnlyF.set HGG.out (p := ⟨g, k * 6, none⟩) HG.out (.int .i64 (kk))) (p := ⟨g, k * 6 + 1, none⟩) HG.out (.int .i64 (kk + 1))) (p := ⟨g, k * 6 + 1 + 1, none⟩) HG.out (.int .i64 (kk + 1 + 1))) hb1)
      have P1 := O0_2.below hb1 (Nat.le_refl _)
      clear O0_2 hb1
      obtain ⟨f1, hrow1, hnc1, hln1⟩ := P1.row
      have hkc : k * 6 + 6 ≤ c * 6 := by have := Nat.mul_le_mul_right 6 (show k + 1 ≤ c by omega); rw [Nat.succ_mul] at this; exact this
      have q0 := hrow1.cell (i := k * 6) (by omega)
      have y0 := hrow1.frozen (k * 6)
      have q1 := hrow1.cell (i := k * 6 + 1) (by omega)
      have y1 := hrow1.frozen (k * 6 + 1)
      have q2 := hrow1.cell (i := k * 6 + 1 + 1) (by omega)
      have y2 := hrow1.frozen (k * 6 + 1 + 1)
      have q3 := hrow1.cell (i := k * 6 + 1 + 2) (by omega)
      have y3 := hrow1.frozen (k * 6 + 1 + 2)
      have q4 := hrow1.cell (i := k * 6 + 1 + 3) (by omega)
      have y4 := hrow1.frozen (k * 6 + 1 + 3)
      have q5 := hrow1.cell (i := k * 6 + 1 + 4) (by omega)
      have y5 := hrow1.frozen (k * 6 + 1 + 4)
      clear hrow1
      obtain ⟨g5_, a5, X5, hA5, hgF5, hc5, _, hx5, hsub5, hnd5, hgx5, hback5⟩ := OwnC.at_ (D := D ++ [.v (.int .i64 (kk)), .v (.int .i64 (kk + 1)), .v (.int .i64 (kk + 1 + 1)), .v (.string z3), .v (.int .i64 z4)]) (x := .s 153 8 z5.length (FEntry.flat z5)) (R := R) (by simp only [List.append_assoc, List.cons_append, List.nil_append] at P1 ⊢; exact P1) hF
      obtain ⟨A5, c5, rfl⟩ := hx5.form
      simp only [Option.some.injEq, Addr.mk.injEq, and_true] at hA5
      subst hA5
      rw [show (D ++ [.v (.int .i64 (kk)), .v (.int .i64 (kk + 1)), .v (.int .i64 (kk + 1 + 1)), .v (.string z3), .v (.int .i64 z4)] : List Cel).length = k * 6 + 1 + 4 from by simp [HD.out]] at hc5
      clear q5
      go_wp2_with fail
      have hcn := hid (show World.cell? ((w2.setCell ⟨g, k * 6 + 1 + 2, none⟩ (.string (mt (kk + 1 + 1 + 1)))).setCell ⟨g, k * 6 + 1 + 3, none⟩ (.int .i64 (kk + 1 + 1 + 1 + 1))) ⟨g, k * 6 + 1 + 4, none⟩ = some _ from (cell_set_other (by omega) (cell_set_other (by omega) hc5)))
      clear hkc y0 y1 y2 y3 y4 y5 q0 q1 q2 q3 q4 hc5 hx5 hsub5 hnd5 hgx5 hback5 hgF5
      have O1_3 := OwnC.setv (D := D ++ [.v (.int .i64 (kk)), .v (.int .i64 (kk + 1)), .v (.int .i64 (kk + 1 + 1))]) (y := .string z3) (R := .v (.int .i64 z4) :: .s 153 8 z5.length (FEntry.flat z5) :: R) (by simp only [List.append_assoc, List.cons_append, List.nil_append] at P1 ⊢; exact P1) hF (.string (mt (kk + 1 + 1 + 1))) (k * 6 + 1 + 2) (by simp [HD.out])
      clear P1
      have O1_4 := OwnC.setv (D := D ++ [.v (.int .i64 (kk)), .v (.int .i64 (kk + 1)), .v (.int .i64 (kk + 1 + 1)), .v (.string (mt (kk + 1 + 1 + 1)))]) (y := .int .i64 z4) (R := .s 153 8 z5.length (FEntry.flat z5) :: R) (by simp only [List.append_assoc, List.cons_append, List.nil_append] at O1_3 ⊢; exact O1_3) hF (.int .i64 (kk + 1 + 1 + 1 + 1)) (k * 6 + 1 + 3) (by simp [HD.out])
      clear O1_3
      obtain ⟨g_, b5, X, hA_, hgF, hc_, _, hx_, hsub, hnd, hgx, hback⟩ := OwnC.at_ (D := D ++ [.v (.int .i64 (kk)), .v (.int .i64 (kk + 1)), .v (.int .i64 (kk + 1 + 1)), .v (.string (mt (kk + 1 + 1 + 1))), .v (.int .i64 (kk + 1 + 1 + 1 + 1))]) (x := .s 153 8 z5.length (FEntry.flat z5)) (R := R) (by simp only [List.append_assoc, List.cons_append, List.nil_append] at O1_4 ⊢; exact O1_4) hF
      simp only [Option.some.injEq, Addr.mk.injEq, and_true] at hA_
      subst hA_
      rw [show (D ++ [.v (.int .i64 (kk)), .v (.int .i64 (kk + 1)), .v (.int .i64 (kk + 1 + 1)), .v (.string (mt (kk + 1 + 1 + 1))), .v (.int .i64 (kk + 1 + 1 + 1 + 1))] : List Cel).length = k * 6 + 1 + 4 from by simp [HD.out]] at hc_
      obtain rfl : .slice A5 z5.length c5 = b5 := Option.some.inj (hcn.out.symm.trans hc_)
      obtain ⟨k5_, hnk⟩ : ∃ k : Int, k = kk + 1 + 1 + 1 + 1 + 1 + (N5 : Int) := ⟨_, rfl⟩
      have hcall := HM5.out _ (kk + 1 + 1 + 1 + 1 + 1) X _ (by omega) (by rw [← HN5.out]; omega) hnd hx_
      rw [← HN5.out, ← hnk] at hcall
      have HNK5 := hid hnk
      have hkp5 : 1 ≤ k5_ := by omega
      have hkb5 : k5_ + ((0 : Nat) : Int) ≤ 1000000000000000 := by omega
      clear hnk hc_ hcn
      refine hcall.mono ?_
      clear hcall
      rintro e w3 ⟨rfl, own, hon⟩
      have P2 := hback w3 _ own (fun b hb hnb => hon.block b (OwnC.lt _ _ _ O1_4 b hb) hnb)
      have G2 := hid (OnlyF.call (OnlyF.set (OnlyF.set G1.out (p := ⟨g, k * 6 + 1 + 2, none⟩) HG.out (.string (mt (kk + 1 + 1 + 1)))) (p := ⟨g, k * 6 + 1 + 3, none⟩) HG.out (.int .i64 (kk + 1 + 1 + 1 + 1))) hon hsub)
      clear own hon hback hgx hnd hsub hx_ hgF O1_4
      go_wp2_with fail
      go_roundw
      case rel =>
        have hmk : mkL (FArg.c ⟨z0, ⟨z1, z2, z3, z4, z5⟩⟩) kk = [.v (.int .i64 (kk)), .v (.int .i64 (kk + 1)), .v (.int .i64 (kk + 1 + 1)), .v (.string (mt (kk + 1 + 1 + 1))), .v (.int .i64 (kk + 1 + 1 + 1 + 1)), .s 153 8 z5.length (mkL (FEntry.flat z5) (kk + 1 + 1 + 1 + 1 + 1))] := by
          rw [FArg.c_eq]
          rw [mkL_v (kk + 1) (by omega)]
          rw [mkL_v (kk + 1 + 1) (by omega)]
          rw [mkL_v (kk + 1 + 1 + 1) (by omega)]
          rw [mkL_v (kk + 1 + 1 + 1 + 1) (by omega)]
          rw [mkL_v (kk + 1 + 1 + 1 + 1 + 1) (by omega)]
          rw [mkL_s (k5_) (by rw [← HN5.out]; exact HNK5.out)]
          rw [mkL_nil]
          rfl
        have hcn : cntL (FArg.flat (l.take (k + 1))) = CC + (5 + N5) := by
          rw [FArg.flat_take l k _ HX.out, cntL_append, HCC.out, FArg.cnt_eq]
          rw [← HN5.out]; try omega
        have hall : mkL (FArg.flat (l.take (k + 1))) k0 = D ++ [.v (.int .i64 (kk)), .v (.int .i64 (kk + 1)), .v (.int .i64 (kk + 1 + 1)), .v (.string (mt (kk + 1 + 1 + 1))), .v (.int .i64 (kk + 1 + 1 + 1 + 1)), .s 153 8 z5.length (mkL (FEntry.flat z5) (kk + 1 + 1 + 1 + 1 + 1))] := by
          rw [FArg.flat_take l k _ HX.out, mkL_append, HCC.out, ← HKK.out, ← HDD.out, hmk]
        refine ⟨k + 1, _, by omega, by go_num, rfl, ?_, ?_, G2.out⟩
        · rw [hcn]
          have := HKK.out
          have := HNK5.out; omega
        · rw [hall, ← HRR.out]
          simp only [List.append_assoc, List.cons_append, List.nil_append] at P2 ⊢
          exact P2
      case measure => simp [intOf]; omega
    · obtain rfl : k = l.length := by omega
      clear hlt
      go_wp2_with fail
      go_ret
      have e := HO1.out
      rw [List.take_length, List.drop_length] at e
      have e2 := HKK.out
      rw [List.take_length] at e2
      exact ⟨ret_int e2, by simpa using e, HGG.out⟩
theorem markArgS_any (l : List FArg) : MarkArgS l := markArgS_of l (fun x _ => by
  obtain ⟨z0, ⟨z1, z2, z3, z4, z5⟩⟩ := x
  exact markEntryS_any z5)
theorem FCall.flat_len (l : List FCall) : (FCall.flat l).length = l.length * 9 := by
  induction l with
  | nil => simp
  | cons x r ih =>
    have e : FCall.flat (x :: r) = x.c ++ FCall.flat r := List.flatMap_cons
    rw [e, List.length_append, ih, FCall.len, List.length_cons]
    omega
theorem FCall.flat_at (l : List FCall) (k : Nat) (x : FCall) (h : l[k]? = some x) : l.drop k = x :: l.drop (k + 1) := by
  have hk := (List.getElem?_eq_some_iff.1 h).1
  rw [List.drop_eq_getElem_cons hk, (List.getElem?_eq_some_iff.1 h).2]
theorem FCall.flat_take (l : List FCall) (k : Nat) (x : FCall) (h : l[k]? = some x) : FCall.flat (l.take (k + 1)) = FCall.flat (l.take k) ++ x.c := by
  rw [List.take_add_one, h]
  simp [FCall.flat]
theorem FCall.flat_split (l : List FCall) (k : Nat) (x : FCall) (h : l[k]? = some x) : FCall.flat l = FCall.flat (l.take k) ++ (x.c ++ FCall.flat (l.drop (k + 1))) := by
  have e : FCall.flat (l.take k ++ l.drop k) = FCall.flat (l.take k) ++ FCall.flat (l.drop k) := List.flatMap_append
  rw [List.take_append_drop] at e
  rw [e, FCall.flat_at l k x h]
  have e2 : FCall.flat (x :: l.drop (k + 1)) = x.c ++ FCall.flat (l.drop (k + 1)) := List.flatMap_cons
  rw [e2]
theorem FCall.cnt_at (l : List FCall) (k : Nat) (x : FCall) (h : l[k]? = some x) : cntL (FCall.flat (l.take k)) + cntL x.c ≤ cntL (FCall.flat l) := by
  rw [FCall.flat_split l k x h, cntL_append, cntL_append]
  omega
theorem FCall.cnt_eq (z0 : Int) (z1 : ByteArray) (z2 : Bool) (z3 : Int) (z4 : Int) (z5 : ByteArray) (z6 : ByteArray) (z7 : List FInt) (z8 : List FArg) : cntL (FCall.c ⟨z0, z1, z2, z3, z4, z5, z6, z7, z8⟩) = 7 + cntL (FInt.flat z7) + cntL (FArg.flat z8) := by
  rw [FCall.c_eq]
  simp only [cntL, Cel.cnt]
  try omega
def MarkCallS (l : List FCall) : Prop := ∀ (u : Value) (k0 : Int) (F : List Nat) (w : World), 1 ≤ k0 → k0 + (cntL (FCall.flat l) : Int) ≤ 1000000000000000 → F.Nodup → OwnC w (.s 156 9 l.length (FCall.flat l)) F u → Calls Tryz.prog 84 #[u, .int .i64 k0] w fun e w' => e = .returned (.int .i64 (k0 + (cntL (FCall.flat l) : Int))) ∧ OwnC w' (.s 156 9 l.length (mkL (FCall.flat l) k0)) F u ∧ OnlyF F w w'
def MkCall : FCall → Prop
  | ⟨z0, z1, z2, z3, z4, z5, z6, z7, z8⟩ => MarkIntS z7 ∧ MarkArgS z8
theorem cntb1_Call (x : FCall) : cntL x.c ≤ 20 + 20 * x.wt := by
  obtain ⟨z0, z1, z2, z3, z4, z5, z6, z7, z8⟩ := x
  rw [FCall.cnt_eq, FCall.wt_eq]
  have b7 := cntb_IntS z7
  have b8 := cntb_ArgS z8
  omega
theorem cntb_CallS : ∀ l : List FCall, cntL (FCall.flat l) ≤ 20 * (l.length + FCall.wts l)
  | [] => by simp [cntL]
  | x :: r => by
    have e : FCall.flat (x :: r) = x.c ++ FCall.flat r := List.flatMap_cons
    have h1 := cntb1_Call x
    have h2 := cntb_CallS r
    rw [e, cntL_append, FCall.wts, List.length_cons]
    omega
theorem markCallS_of (l : List FCall) (he : ∀ x, x ∈ l → MkCall x) : MarkCallS l := by
  intro u k0 F w h1 h2 hF hO
  obtain ⟨A, c, rfl⟩ := hO.form
  have hcap := hO.read.cap
  have hn : l.length ≤ 9223372036854775807 := by unfold maxLen at hcap; omega
  have HO := hid hO
  clear hcap
  by_cases hl0 : l.length = 0
  · obtain rfl : l = [] := List.eq_nil_of_length_eq_zero hl0
    clear hO hl0 he
    go_enter Tryz.func84, Tryz.ntmps84
    go_wp2_with fail
    go_loop [1, 5] (fun kv i => kv = .int .i64 k0 ∧ i = .int .i64 0) (fun _ i => 0)
    case atStart => exact ⟨rfl, rfl⟩
    case round =>
      obtain ⟨rfl, rfl⟩ := hrel
      go_wp2_with fail
      go_ret
      exact ⟨ret_int (by simp [cntL]), by simpa [mkL] using HO.out, OnlyF.refl _ _⟩
  obtain ⟨g, hA, hg⟩ := hO.head (by omega)
  subst hA
  have HE := hid he
  clear he
  have HG := hid hg
  clear hO hg hl0
  go_enter Tryz.func84, Tryz.ntmps84
  go_wp2_with fail
  go_loopw [1, 5] (fun kv i wr => ∃ (k : Nat) (kk : Int), k ≤ l.length ∧ i = .int .i64 k ∧ kv = .int .i64 kk ∧ kk = k0 + (cntL (FCall.flat (l.take k)) : Int) ∧ OwnC wr (.s 156 9 l.length (mkL (FCall.flat (l.take k)) k0 ++ FCall.flat (l.drop k))) F (.slice (some ⟨g, 0, none⟩) l.length c) ∧ OnlyF F w wr) (fun _ i _ => l.length - (intOf i).toNat)
  case atStart => exact ⟨0, k0, Nat.zero_le _, rfl, rfl, by simp [cntL], by simpa [mkL] using HO.out, OnlyF.refl _ _⟩
  case round =>
    obtain ⟨k, kk, hk, rfl, rfl, hkk, hO, hG⟩ := hrel
    have HKK := hid hkk
    have HO1 := hid hO
    have HGG := hid hG
    clear hO hG
    by_cases hlt : k < l.length
    · obtain ⟨x, hx⟩ : ∃ x, l[k]? = some x := ⟨_, List.getElem?_eq_getElem hlt⟩
      have HX := hid hx
      have hca := FCall.cnt_at l k x hx
      have hD0 : (mkL (FCall.flat (l.take k)) k0).length = k * 9 := by rw [mkL_len, FCall.flat_len, List.length_take]; congr 1; omega
      have hO2 := HO1.out
      rw [FCall.flat_at l k x hx] at hO2
      have hmx := HE.out x (List.mem_of_getElem? hx)
      obtain ⟨z0, z1, z2, z3, z4, z5, z6, z7, z8⟩ := x
      rw [show FCall.flat (⟨z0, z1, z2, z3, z4, z5, z6, z7, z8⟩ :: l.drop (k + 1)) = (FCall.c ⟨z0, z1, z2, z3, z4, z5, z6, z7, z8⟩) ++ FCall.flat (l.drop (k + 1)) from List.flatMap_cons, FCall.c_eq] at hO2
      rw [FCall.cnt_eq] at hca
      have M7 : MarkIntS z7 := hmx.1
      have HM7 := hid M7
      have M8 : MarkArgS z8 := hmx.2
      have HM8 := hid M8
      clear hmx M7 M8
      obtain ⟨D, hDD⟩ : ∃ D, D = mkL (FCall.flat (l.take k)) k0 := ⟨_, rfl⟩
      rw [← hDD] at hD0 hO2
      obtain ⟨R, hRR⟩ : ∃ R, R = FCall.flat (l.drop (k + 1)) := ⟨_, rfl⟩
      rw [← hRR] at hO2
      have HD := hid hD0
      have HDD := hid hDD
      have HRR := hid hRR
      have hkp : 1 ≤ kk := by omega
      generalize hCC : cntL (FCall.flat (l.take k)) = CC at *
      obtain ⟨N7, hN7⟩ : ∃ N : Nat, N = cntL (FInt.flat z7) := ⟨_, rfl⟩
      rw [← hN7] at hca
      obtain ⟨N8, hN8⟩ : ∃ N : Nat, N = cntL (FArg.flat z8) := ⟨_, rfl⟩
      rw [← hN8] at hca
      have hkb : kk + ((7 + N7 + N8 : Nat) : Int) ≤ 1000000000000000 := by omega
      have HN7 := hid hN7
      have HN8 := hid hN8
      have HCC := hid hCC
      clear hx hD0 hDD hRR hkk hca hCC hN7 hN8
      obtain ⟨f0, hrow0, hnc0, hln0⟩ := hO2.row
      have hkc : k * 9 + 9 ≤ c * 9 := by have := Nat.mul_le_mul_right 9 (show k + 1 ≤ c by omega); rw [Nat.succ_mul] at this; exact this
      have q0 := hrow0.cell (i := k * 9) (by omega)
      have y0 := hrow0.frozen (k * 9)
      have q1 := hrow0.cell (i := k * 9 + 1) (by omega)
      have y1 := hrow0.frozen (k * 9 + 1)
      have q2 := hrow0.cell (i := k * 9 + 2) (by omega)
      have y2 := hrow0.frozen (k * 9 + 2)
      have q3 := hrow0.cell (i := k * 9 + 3) (by omega)
      have y3 := hrow0.frozen (k * 9 + 3)
      have q4 := hrow0.cell (i := k * 9 + 4) (by omega)
      have y4 := hrow0.frozen (k * 9 + 4)
      have q5 := hrow0.cell (i := k * 9 + 5) (by omega)
      have y5 := hrow0.frozen (k * 9 + 5)
      have q6 := hrow0.cell (i := k * 9 + 6) (by omega)
      have y6 := hrow0.frozen (k * 9 + 6)
      have q7 := hrow0.cell (i := k * 9 + 7) (by omega)
      have y7 := hrow0.frozen (k * 9 + 7)
      have q8 := hrow0.cell (i := k * 9 + 8) (by omega)
      have y8 := hrow0.frozen (k * 9 + 8)
      clear hrow0
      go_wp2_with fail
      clear hkc y0 y1 y2 y3 y4 y5 y6 y7 y8 q0 q1 q2 q3 q4 q5 q6 q7 q8
      have O0_0 := OwnC.setv (D := D) (y := .int .i64 z0) (R := .v (.string z1) :: .v (.bool z2) :: .v (.int .i64 z3) :: .v (.int .i64 z4) :: .v (.string z5) :: .v (.string z6) :: .s 3 1 z7.length (FInt.flat z7) :: .s 158 6 z8.length (FArg.flat z8) :: R) (by simp only [List.append_assoc, List.cons_append, List.nil_append] at hO2 ⊢; exact hO2) hF (.int .i64 (kk)) (k * 9) (by simp [HD.out])
      clear hO2
      refine (markText_any _ _ (by omega)).mono ?_
      rintro e w2 ⟨rfl, hb1⟩
      have G1 := hid (OnlyF.of_below (OnlyF.set HGG.out (p := ⟨g, k * 9, none⟩) HG.out (.int .i64 (kk))) hb1)
      have P1 := O0_0.below hb1 (Nat.le_refl _)
      clear O0_0 hb1
      obtain ⟨f1, hrow1, hnc1, hln1⟩ := P1.row
      have hkc : k * 9 + 9 ≤ c * 9 := by have := Nat.mul_le_mul_right 9 (show k + 1 ≤ c by omega); rw [Nat.succ_mul] at this; exact this
      have q0 := hrow1.cell (i := k * 9) (by omega)
      have y0 := hrow1.frozen (k * 9)
      have q1 := hrow1.cell (i := k * 9 + 1) (by omega)
      have y1 := hrow1.frozen (k * 9 + 1)
      have q2 := hrow1.cell (i := k * 9 + 2) (by omega)
      have y2 := hrow1.frozen (k * 9 + 2)
      have q3 := hrow1.cell (i := k * 9 + 3) (by omega)
      have y3 := hrow1.frozen (k * 9 + 3)
      have q4 := hrow1.cell (i := k * 9 + 4) (by omega)
      have y4 := hrow1.frozen (k * 9 + 4)
      have q5 := hrow1.cell (i := k * 9 + 5) (by omega)
      have y5 := hrow1.frozen (k * 9 + 5)
      have q6 := hrow1.cell (i := k * 9 + 6) (by omega)
      have y6 := hrow1.frozen (k * 9 + 6)
      have q7 := hrow1.cell (i := k * 9 + 7) (by omega)
      have y7 := hrow1.frozen (k * 9 + 7)
      have q8 := hrow1.cell (i := k * 9 + 8) (by omega)
      have y8 := hrow1.frozen (k * 9 + 8)
      clear hrow1
      go_wp2_with fail
      clear hkc y0 y1 y2 y3 y4 y5 y6 y7 y8 q0 q1 q2 q3 q4 q5 q6 q7 q8
      have O1_1 := OwnC.setv (D := D ++ [.v (.int .i64 (kk))]) (y := .string z1) (R := .v (.bool z2) :: .v (.int .i64 z3) :: .v (.int .i64 z4) :: .v (.string z5) :: .v (.string z6) :: .s 3 1 z7.length (FInt.flat z7) :: .s 158 6 z8.length (FArg.flat z8) :: R) (by simp only [List.append_assoc, List.cons_append, List.nil_append] at P1 ⊢; exact P1) hF (.string (mt (kk + 1))) (k * 9 + 1) (by simp [HD.out])
      clear P1
      have O1_2 := OwnC.setv (D := D ++ [.v (.int .i64 (kk)), .v (.string (mt (kk + 1)))]) (y := .bool z2) (R := .v (.int .i64 z3) :: .v (.int .i64 z4) :: .v (.string z5) :: .v (.string z6) :: .s 3 1 z7.length (FInt.flat z7) :: .s 158 6 z8.length (FArg.flat z8) :: R) (by simp only [List.append_assoc, List.cons_append, List.nil_append] at O1_1 ⊢; exact O1_1) hF (.bool ((kk + 1 + 1) % 3 == 0)) (k * 9 + 2) (by simp [HD.out])
      clear O1_1
      have O1_3 := OwnC.setv (D := D ++ [.v (.int .i64 (kk)), .v (.string (mt (kk + 1))), .v (.bool ((kk + 1 + 1) % 3 == 0))]) (y := .int .i64 z3) (R := .v (.int .i64 z4) :: .v (.string z5) :: .v (.string z6) :: .s 3 1 z7.length (FInt.flat z7) :: .s 158 6 z8.length (FArg.flat z8) :: R) (by simp only [List.append_assoc, List.cons_append, List.nil_append] at O1_2 ⊢; exact O1_2) hF (.int .i64 (kk + 1 + 1 + 1)) (k * 9 + 3) (by simp [HD.out])
      clear O1_2
      have O1_4 := OwnC.setv (D := D ++ [.v (.int .i64 (kk)), .v (.string (mt (kk + 1))), .v (.bool ((kk + 1 + 1) % 3 == 0)), .v (.int .i64 (kk + 1 + 1 + 1))]) (y := .int .i64 z4) (R := .v (.string z5) :: .v (.string z6) :: .s 3 1 z7.length (FInt.flat z7) :: .s 158 6 z8.length (FArg.flat z8) :: R) (by simp only [List.append_assoc, List.cons_append, List.nil_append] at O1_3 ⊢; exact O1_3) hF (.int .i64 (kk + 1 + 1 + 1 + 1)) (k * 9 + 4) (by simp [HD.out])
      clear O1_3
      refine (markText_any _ _ (by omega)).mono ?_
      rintro e w3 ⟨rfl, hb2⟩
      have G2 := hid (OnlyF.of_below (OnlyF.set (OnlyF.set (OnlyF.set (OnlyF.set G1.out (p := ⟨g, k * 9 + 1, none⟩) HG.out (.string (mt (kk + 1)))) (p := ⟨g, k * 9 + 2, none⟩) HG.out (.bool ((kk + 1 + 1) % 3 == 0))) (p := ⟨g, k * 9 + 3, none⟩) HG.out (.int .i64 (kk + 1 + 1 + 1))) (p := ⟨g, k * 9 + 4, none⟩) HG.out (.int .i64 (kk + 1 + 1 + 1 + 1))) hb2)
      have P2 := O1_4.below hb2 (Nat.le_refl _)
      clear O1_4 hb2
      obtain ⟨f2, hrow2, hnc2, hln2⟩ := P2.row
      have hkc : k * 9 + 9 ≤ c * 9 := by have := Nat.mul_le_mul_right 9 (show k + 1 ≤ c by omega); rw [Nat.succ_mul] at this; exact this
      have q0 := hrow2.cell (i := k * 9) (by omega)
      have y0 := hrow2.frozen (k * 9)
      have q1 := hrow2.cell (i := k * 9 + 1) (by omega)
      have y1 := hrow2.frozen (k * 9 + 1)
      have q2 := hrow2.cell (i := k * 9 + 2) (by omega)
      have y2 := hrow2.frozen (k * 9 + 2)
      have q3 := hrow2.cell (i := k * 9 + 3) (by omega)
      have y3 := hrow2.frozen (k * 9 + 3)
      have q4 := hrow2.cell (i := k * 9 + 4) (by omega)
      have y4 := hrow2.frozen (k * 9 + 4)
      have q5 := hrow2.cell (i := k * 9 + 5) (by omega)
      have y5 := hrow2.frozen (k * 9 + 5)
      have q6 := hrow2.cell (i := k * 9 + 6) (by omega)
      have y6 := hrow2.frozen (k * 9 + 6)
      have q7 := hrow2.cell (i := k * 9 + 7) (by omega)
      have y7 := hrow2.frozen (k * 9 + 7)
      have q8 := hrow2.cell (i := k * 9 + 8) (by omega)
      have y8 := hrow2.frozen (k * 9 + 8)
      clear hrow2
      go_wp2_with fail
      clear hkc y0 y1 y2 y3 y4 y5 y6 y7 y8 q0 q1 q2 q3 q4 q5 q6 q7 q8
      have O2_5 := OwnC.setv (D := D ++ [.v (.int .i64 (kk)), .v (.string (mt (kk + 1))), .v (.bool ((kk + 1 + 1) % 3 == 0)), .v (.int .i64 (kk + 1 + 1 + 1)), .v (.int .i64 (kk + 1 + 1 + 1 + 1))]) (y := .string z5) (R := .v (.string z6) :: .s 3 1 z7.length (FInt.flat z7) :: .s 158 6 z8.length (FArg.flat z8) :: R) (by simp only [List.append_assoc, List.cons_append, List.nil_append] at P2 ⊢; exact P2) hF (.string (mt (kk + 1 + 1 + 1 + 1 + 1))) (k * 9 + 5) (by simp [HD.out])
      clear P2
      refine (markText_any _ _ (by omega)).mono ?_
      rintro e w4 ⟨rfl, hb3⟩
      have G3 := hid (OnlyF.of_below (OnlyF.set G2.out (p := ⟨g, k * 9 + 5, none⟩) HG.out (.string (mt (kk + 1 + 1 + 1 + 1 + 1)))) hb3)
      have P3 := O2_5.below hb3 (Nat.le_refl _)
      clear O2_5 hb3
      obtain ⟨f3, hrow3, hnc3, hln3⟩ := P3.row
      have hkc : k * 9 + 9 ≤ c * 9 := by have := Nat.mul_le_mul_right 9 (show k + 1 ≤ c by omega); rw [Nat.succ_mul] at this; exact this
      have q0 := hrow3.cell (i := k * 9) (by omega)
      have y0 := hrow3.frozen (k * 9)
      have q1 := hrow3.cell (i := k * 9 + 1) (by omega)
      have y1 := hrow3.frozen (k * 9 + 1)
      have q2 := hrow3.cell (i := k * 9 + 2) (by omega)
      have y2 := hrow3.frozen (k * 9 + 2)
      have q3 := hrow3.cell (i := k * 9 + 3) (by omega)
      have y3 := hrow3.frozen (k * 9 + 3)
      have q4 := hrow3.cell (i := k * 9 + 4) (by omega)
      have y4 := hrow3.frozen (k * 9 + 4)
      have q5 := hrow3.cell (i := k * 9 + 5) (by omega)
      have y5 := hrow3.frozen (k * 9 + 5)
      have q6 := hrow3.cell (i := k * 9 + 6) (by omega)
      have y6 := hrow3.frozen (k * 9 + 6)
      have q7 := hrow3.cell (i := k * 9 + 7) (by omega)
      have y7 := hrow3.frozen (k * 9 + 7)
      have q8 := hrow3.cell (i := k * 9 + 8) (by omega)
      have y8 := hrow3.frozen (k * 9 + 8)
      clear hrow3
      obtain ⟨g7_, a7, X7, hA7, hgF7, hc7, _, hx7, hsub7, hnd7, hgx7, hback7⟩ := OwnC.at_ (D := D ++ [.v (.int .i64 (kk)), .v (.string (mt (kk + 1))), .v (.bool ((kk + 1 + 1) % 3 == 0)), .v (.int .i64 (kk + 1 + 1 + 1)), .v (.int .i64 (kk + 1 + 1 + 1 + 1)), .v (.string (mt (kk + 1 + 1 + 1 + 1 + 1))), .v (.string z6)]) (x := .s 3 1 z7.length (FInt.flat z7)) (R := .s 158 6 z8.length (FArg.flat z8) :: R) (by simp only [List.append_assoc, List.cons_append, List.nil_append] at P3 ⊢; exact P3) hF
      obtain ⟨A7, c7, rfl⟩ := hx7.form
      simp only [Option.some.injEq, Addr.mk.injEq, and_true] at hA7
      subst hA7
      rw [show (D ++ [.v (.int .i64 (kk)), .v (.string (mt (kk + 1))), .v (.bool ((kk + 1 + 1) % 3 == 0)), .v (.int .i64 (kk + 1 + 1 + 1)), .v (.int .i64 (kk + 1 + 1 + 1 + 1)), .v (.string (mt (kk + 1 + 1 + 1 + 1 + 1))), .v (.string z6)] : List Cel).length = k * 9 + 7 from by simp [HD.out]] at hc7
      clear q7
      go_wp2_with fail
      have hcn := hid (show World.cell? (w4.setCell ⟨g, k * 9 + 6, none⟩ (.string (mt (kk + 1 + 1 + 1 + 1 + 1 + 1)))) ⟨g, k * 9 + 7, none⟩ = some _ from (cell_set_other (by omega) hc7))
      clear hkc y0 y1 y2 y3 y4 y5 y6 y7 y8 q0 q1 q2 q3 q4 q5 q6 q8 hc7 hx7 hsub7 hnd7 hgx7 hback7 hgF7
      have O3_6 := OwnC.setv (D := D ++ [.v (.int .i64 (kk)), .v (.string (mt (kk + 1))), .v (.bool ((kk + 1 + 1) % 3 == 0)), .v (.int .i64 (kk + 1 + 1 + 1)), .v (.int .i64 (kk + 1 + 1 + 1 + 1)), .v (.string (mt (kk + 1 + 1 + 1 + 1 + 1)))]) (y := .string z6) (R := .s 3 1 z7.length (FInt.flat z7) :: .s 158 6 z8.length (FArg.flat z8) :: R) (by simp only [List.append_assoc, List.cons_append, List.nil_append] at P3 ⊢; exact P3) hF (.string (mt (kk + 1 + 1 + 1 + 1 + 1 + 1))) (k * 9 + 6) (by simp [HD.out])
      clear P3
      obtain ⟨g_, b7, X, hA_, hgF, hc_, _, hx_, hsub, hnd, hgx, hback⟩ := OwnC.at_ (D := D ++ [.v (.int .i64 (kk)), .v (.string (mt (kk + 1))), .v (.bool ((kk + 1 + 1) % 3 == 0)), .v (.int .i64 (kk + 1 + 1 + 1)), .v (.int .i64 (kk + 1 + 1 + 1 + 1)), .v (.string (mt (kk + 1 + 1 + 1 + 1 + 1))), .v (.string (mt (kk + 1 + 1 + 1 + 1 + 1 + 1)))]) (x := .s 3 1 z7.length (FInt.flat z7)) (R := .s 158 6 z8.length (FArg.flat z8) :: R) (by simp only [List.append_assoc, List.cons_append, List.nil_append] at O3_6 ⊢; exact O3_6) hF
      simp only [Option.some.injEq, Addr.mk.injEq, and_true] at hA_
      subst hA_
      rw [show (D ++ [.v (.int .i64 (kk)), .v (.string (mt (kk + 1))), .v (.bool ((kk + 1 + 1) % 3 == 0)), .v (.int .i64 (kk + 1 + 1 + 1)), .v (.int .i64 (kk + 1 + 1 + 1 + 1)), .v (.string (mt (kk + 1 + 1 + 1 + 1 + 1))), .v (.string (mt (kk + 1 + 1 + 1 + 1 + 1 + 1)))] : List Cel).length = k * 9 + 7 from by simp [HD.out]] at hc_
      obtain rfl : .slice A7 z7.length c7 = b7 := Option.some.inj (hcn.out.symm.trans hc_)
      obtain ⟨k7_, hnk⟩ : ∃ k : Int, k = kk + 1 + 1 + 1 + 1 + 1 + 1 + 1 + (N7 : Int) := ⟨_, rfl⟩
      have hcall := HM7.out _ (kk + 1 + 1 + 1 + 1 + 1 + 1 + 1) X _ (by omega) (by rw [← HN7.out]; omega) hnd hx_
      rw [← HN7.out, ← hnk] at hcall
      have HNK7 := hid hnk
      have hkp7 : 1 ≤ k7_ := by omega
      have hkb7 : k7_ + ((0 + N8 : Nat) : Int) ≤ 1000000000000000 := by omega
      clear hnk hc_ hcn
      refine hcall.mono ?_
      clear hcall
      rintro e w5 ⟨rfl, own, hon⟩
      have P4 := hback w5 _ own (fun b hb hnb => hon.block b (OwnC.lt _ _ _ O3_6 b hb) hnb)
      have G4 := hid (OnlyF.call (OnlyF.set G3.out (p := ⟨g, k * 9 + 6, none⟩) HG.out (.string (mt (kk + 1 + 1 + 1 + 1 + 1 + 1)))) hon hsub)
      clear own hon hback hgx hnd hsub hx_ hgF O3_6
      obtain ⟨f4, hrow4, hnc4, hln4⟩ := P4.row
      have hkc : k * 9 + 9 ≤ c * 9 := by have := Nat.mul_le_mul_right 9 (show k + 1 ≤ c by omega); rw [Nat.succ_mul] at this; exact this
      have q0 := hrow4.cell (i := k * 9) (by omega)
      have y0 := hrow4.frozen (k * 9)
      have q1 := hrow4.cell (i := k * 9 + 1) (by omega)
      have y1 := hrow4.frozen (k * 9 + 1)
      have q2 := hrow4.cell (i := k * 9 + 2) (by omega)
      have y2 := hrow4.frozen (k * 9 + 2)
      have q3 := hrow4.cell (i := k * 9 + 3) (by omega)
      have y3 := hrow4.frozen (k * 9 + 3)
      have q4 := hrow4.cell (i := k * 9 + 4) (by omega)
      have y4 := hrow4.frozen (k * 9 + 4)
      have q5 := hrow4.cell (i := k * 9 + 5) (by omega)
      have y5 := hrow4.frozen (k * 9 + 5)
      have q6 := hrow4.cell (i := k * 9 + 6) (by omega)
      have y6 := hrow4.frozen (k * 9 + 6)
      have q7 := hrow4.cell (i := k * 9 + 7) (by omega)
      have y7 := hrow4.frozen (k * 9 + 7)
      have q8 := hrow4.cell (i := k * 9 + 8) (by omega)
      have y8 := hrow4.frozen (k * 9 + 8)
      clear hrow4
      obtain ⟨g8_, a8, X8, hA8, hgF8, hc8, _, hx8, hsub8, hnd8, hgx8, hback8⟩ := OwnC.at_ (D := D ++ [.v (.int .i64 (kk)), .v (.string (mt (kk + 1))), .v (.bool ((kk + 1 + 1) % 3 == 0)), .v (.int .i64 (kk + 1 + 1 + 1)), .v (.int .i64 (kk + 1 + 1 + 1 + 1)), .v (.string (mt (kk + 1 + 1 + 1 + 1 + 1))), .v (.string (mt (kk + 1 + 1 + 1 + 1 + 1 + 1))), .s 3 1 z7.length (mkL (FInt.flat z7) (kk + 1 + 1 + 1 + 1 + 1 + 1 + 1))]) (x := .s 158 6 z8.length (FArg.flat z8)) (R := R) (by simp only [List.append_assoc, List.cons_append, List.nil_append] at P4 ⊢; exact P4) hF
      obtain ⟨A8, c8, rfl⟩ := hx8.form
      simp only [Option.some.injEq, Addr.mk.injEq, and_true] at hA8
      subst hA8
      rw [show (D ++ [.v (.int .i64 (kk)), .v (.string (mt (kk + 1))), .v (.bool ((kk + 1 + 1) % 3 == 0)), .v (.int .i64 (kk + 1 + 1 + 1)), .v (.int .i64 (kk + 1 + 1 + 1 + 1)), .v (.string (mt (kk + 1 + 1 + 1 + 1 + 1))), .v (.string (mt (kk + 1 + 1 + 1 + 1 + 1 + 1))), .s 3 1 z7.length (mkL (FInt.flat z7) (kk + 1 + 1 + 1 + 1 + 1 + 1 + 1))] : List Cel).length = k * 9 + 8 from by simp [HD.out]] at hc8
      clear q8
      go_wp2_with fail
      have hcn := hid (show World.cell? w5 ⟨g, k * 9 + 8, none⟩ = some _ from hc8)
      clear hkc y0 y1 y2 y3 y4 y5 y6 y7 y8 q0 q1 q2 q3 q4 q5 q6 q7 hc8 hx8 hsub8 hnd8 hgx8 hback8 hgF8
      obtain ⟨g_, b8, X, hA_, hgF, hc_, _, hx_, hsub, hnd, hgx, hback⟩ := OwnC.at_ (D := D ++ [.v (.int .i64 (kk)), .v (.string (mt (kk + 1))), .v (.bool ((kk + 1 + 1) % 3 == 0)), .v (.int .i64 (kk + 1 + 1 + 1)), .v (.int .i64 (kk + 1 + 1 + 1 + 1)), .v (.string (mt (kk + 1 + 1 + 1 + 1 + 1))), .v (.string (mt (kk + 1 + 1 + 1 + 1 + 1 + 1))), .s 3 1 z7.length (mkL (FInt.flat z7) (kk + 1 + 1 + 1 + 1 + 1 + 1 + 1))]) (x := .s 158 6 z8.length (FArg.flat z8)) (R := R) (by simp only [List.append_assoc, List.cons_append, List.nil_append] at P4 ⊢; exact P4) hF
      simp only [Option.some.injEq, Addr.mk.injEq, and_true] at hA_
      subst hA_
      rw [show (D ++ [.v (.int .i64 (kk)), .v (.string (mt (kk + 1))), .v (.bool ((kk + 1 + 1) % 3 == 0)), .v (.int .i64 (kk + 1 + 1 + 1)), .v (.int .i64 (kk + 1 + 1 + 1 + 1)), .v (.string (mt (kk + 1 + 1 + 1 + 1 + 1))), .v (.string (mt (kk + 1 + 1 + 1 + 1 + 1 + 1))), .s 3 1 z7.length (mkL (FInt.flat z7) (kk + 1 + 1 + 1 + 1 + 1 + 1 + 1))] : List Cel).length = k * 9 + 8 from by simp [HD.out]] at hc_
      obtain rfl : .slice A8 z8.length c8 = b8 := Option.some.inj (hcn.out.symm.trans hc_)
      obtain ⟨k8_, hnk⟩ : ∃ k : Int, k = k7_ + (N8 : Int) := ⟨_, rfl⟩
      have hcall := HM8.out _ (k7_) X _ (by omega) (by rw [← HN8.out]; omega) hnd hx_
      rw [← HN8.out, ← hnk] at hcall
      have HNK8 := hid hnk
      have hkp8 : 1 ≤ k8_ := by omega
      have hkb8 : k8_ + ((0 : Nat) : Int) ≤ 1000000000000000 := by omega
      clear hnk hc_ hcn
      refine hcall.mono ?_
      clear hcall
      rintro e w6 ⟨rfl, own, hon⟩
      have P5 := hback w6 _ own (fun b hb hnb => hon.block b (OwnC.lt _ _ _ P4 b hb) hnb)
      have G5 := hid (OnlyF.call G4.out hon hsub)
      clear own hon hback hgx hnd hsub hx_ hgF P4
      go_wp2_with fail
      go_roundw
      case rel =>
        have hmk : mkL (FCall.c ⟨z0, z1, z2, z3, z4, z5, z6, z7, z8⟩) kk = [.v (.int .i64 (kk)), .v (.string (mt (kk + 1))), .v (.bool ((kk + 1 + 1) % 3 == 0)), .v (.int .i64 (kk + 1 + 1 + 1)), .v (.int .i64 (kk + 1 + 1 + 1 + 1)), .v (.string (mt (kk + 1 + 1 + 1 + 1 + 1))), .v (.string (mt (kk + 1 + 1 + 1 + 1 + 1 + 1))), .s 3 1 z7.length (mkL (FInt.flat z7) (kk + 1 + 1 + 1 + 1 + 1 + 1 + 1)), .s 158 6 z8.length (mkL (FArg.flat z8) (k7_))] := by
          rw [FCall.c_eq]
          rw [mkL_v (kk + 1) (by omega)]
          rw [mkL_v (kk + 1 + 1) (by omega)]
          rw [mkL_v (kk + 1 + 1 + 1) (by omega)]
          rw [mkL_v (kk + 1 + 1 + 1 + 1) (by omega)]
          rw [mkL_v (kk + 1 + 1 + 1 + 1 + 1) (by omega)]
          rw [mkL_v (kk + 1 + 1 + 1 + 1 + 1 + 1) (by omega)]
          rw [mkL_v (kk + 1 + 1 + 1 + 1 + 1 + 1 + 1) (by omega)]
          rw [mkL_s (k7_) (by rw [← HN7.out]; exact HNK7.out)]
          rw [mkL_s (k8_) (by rw [← HN8.out]; exact HNK8.out)]
          rw [mkL_nil]
          rfl
        have hcn : cntL (FCall.flat (l.take (k + 1))) = CC + (7 + N7 + N8) := by
          rw [FCall.flat_take l k _ HX.out, cntL_append, HCC.out, FCall.cnt_eq]
          rw [← HN7.out]; rw [← HN8.out]; try omega
        have hall : mkL (FCall.flat (l.take (k + 1))) k0 = D ++ [.v (.int .i64 (kk)), .v (.string (mt (kk + 1))), .v (.bool ((kk + 1 + 1) % 3 == 0)), .v (.int .i64 (kk + 1 + 1 + 1)), .v (.int .i64 (kk + 1 + 1 + 1 + 1)), .v (.string (mt (kk + 1 + 1 + 1 + 1 + 1))), .v (.string (mt (kk + 1 + 1 + 1 + 1 + 1 + 1))), .s 3 1 z7.length (mkL (FInt.flat z7) (kk + 1 + 1 + 1 + 1 + 1 + 1 + 1)), .s 158 6 z8.length (mkL (FArg.flat z8) (k7_))] := by
          rw [FCall.flat_take l k _ HX.out, mkL_append, HCC.out, ← HKK.out, ← HDD.out, hmk]
        refine ⟨k + 1, _, by omega, by go_num, rfl, ?_, ?_, G5.out⟩
        · rw [hcn]
          have := HKK.out
          have := HNK7.out; have := HNK8.out; omega
        · rw [hall, ← HRR.out]
          simp only [List.append_assoc, List.cons_append, List.nil_append] at P5 ⊢
          exact P5
      case measure => simp [intOf]; omega
    · obtain rfl : k = l.length := by omega
      clear hlt
      go_wp2_with fail
      go_ret
      have e := HO1.out
      rw [List.take_length, List.drop_length] at e
      have e2 := HKK.out
      rw [List.take_length] at e2
      exact ⟨ret_int e2, by simpa using e, HGG.out⟩
theorem markCallS_any (l : List FCall) : MarkCallS l := markCallS_of l (fun x _ => by
  obtain ⟨z0, z1, z2, z3, z4, z5, z6, z7, z8⟩ := x
  exact ⟨markIntS_any z7, markArgS_any z8⟩)
theorem FTry.flat_len (l : List FTry) : (FTry.flat l).length = l.length * 6 := by
  induction l with
  | nil => simp
  | cons x r ih =>
    have e : FTry.flat (x :: r) = x.c ++ FTry.flat r := List.flatMap_cons
    rw [e, List.length_append, ih, FTry.len, List.length_cons]
    omega
theorem FTry.flat_at (l : List FTry) (k : Nat) (x : FTry) (h : l[k]? = some x) : l.drop k = x :: l.drop (k + 1) := by
  have hk := (List.getElem?_eq_some_iff.1 h).1
  rw [List.drop_eq_getElem_cons hk, (List.getElem?_eq_some_iff.1 h).2]
theorem FTry.flat_take (l : List FTry) (k : Nat) (x : FTry) (h : l[k]? = some x) : FTry.flat (l.take (k + 1)) = FTry.flat (l.take k) ++ x.c := by
  rw [List.take_add_one, h]
  simp [FTry.flat]
theorem FTry.flat_split (l : List FTry) (k : Nat) (x : FTry) (h : l[k]? = some x) : FTry.flat l = FTry.flat (l.take k) ++ (x.c ++ FTry.flat (l.drop (k + 1))) := by
  have e : FTry.flat (l.take k ++ l.drop k) = FTry.flat (l.take k) ++ FTry.flat (l.drop k) := List.flatMap_append
  rw [List.take_append_drop] at e
  rw [e, FTry.flat_at l k x h]
  have e2 : FTry.flat (x :: l.drop (k + 1)) = x.c ++ FTry.flat (l.drop (k + 1)) := List.flatMap_cons
  rw [e2]
theorem FTry.cnt_at (l : List FTry) (k : Nat) (x : FTry) (h : l[k]? = some x) : cntL (FTry.flat (l.take k)) + cntL x.c ≤ cntL (FTry.flat l) := by
  rw [FTry.flat_split l k x h, cntL_append, cntL_append]
  omega
theorem FTry.cnt_eq (z0 : Bool) (z1 : ByteArray) (z2 : Int) (z3 : Int) (z4 : Int) (z5 : Int) : cntL (FTry.c ⟨z0, z1, z2, z3, z4, z5⟩) = 6 := by
  rw [FTry.c_eq]
  simp only [cntL, Cel.cnt]
  try omega
def MarkTryS (l : List FTry) : Prop := ∀ (u : Value) (k0 : Int) (F : List Nat) (w : World), 1 ≤ k0 → k0 + (cntL (FTry.flat l) : Int) ≤ 1000000000000000 → F.Nodup → OwnC w (.s 224 6 l.length (FTry.flat l)) F u → Calls Tryz.prog 85 #[u, .int .i64 k0] w fun e w' => e = .returned (.int .i64 (k0 + (cntL (FTry.flat l) : Int))) ∧ OwnC w' (.s 224 6 l.length (mkL (FTry.flat l) k0)) F u ∧ OnlyF F w w'
theorem cntb1_Try (x : FTry) : cntL x.c ≤ 20 + 20 * x.wt := by
  obtain ⟨z0, z1, z2, z3, z4, z5⟩ := x
  rw [FTry.cnt_eq, FTry.wt_eq]
  omega
theorem cntb_TryS : ∀ l : List FTry, cntL (FTry.flat l) ≤ 20 * (l.length + FTry.wts l)
  | [] => by simp [cntL]
  | x :: r => by
    have e : FTry.flat (x :: r) = x.c ++ FTry.flat r := List.flatMap_cons
    have h1 := cntb1_Try x
    have h2 := cntb_TryS r
    rw [e, cntL_append, FTry.wts, List.length_cons]
    omega
theorem markTryS_of (l : List FTry) : MarkTryS l := by
  intro u k0 F w h1 h2 hF hO
  obtain ⟨A, c, rfl⟩ := hO.form
  have hcap := hO.read.cap
  have hn : l.length ≤ 9223372036854775807 := by unfold maxLen at hcap; omega
  have HO := hid hO
  clear hcap
  by_cases hl0 : l.length = 0
  · obtain rfl : l = [] := List.eq_nil_of_length_eq_zero hl0
    clear hO hl0
    go_enter Tryz.func85, Tryz.ntmps85
    go_wp2_with fail
    go_loop [1, 5] (fun kv i => kv = .int .i64 k0 ∧ i = .int .i64 0) (fun _ i => 0)
    case atStart => exact ⟨rfl, rfl⟩
    case round =>
      obtain ⟨rfl, rfl⟩ := hrel
      go_wp2_with fail
      go_ret
      exact ⟨ret_int (by simp [cntL]), by simpa [mkL] using HO.out, OnlyF.refl _ _⟩
  obtain ⟨g, hA, hg⟩ := hO.head (by omega)
  subst hA
  have HG := hid hg
  clear hO hg hl0
  go_enter Tryz.func85, Tryz.ntmps85
  go_wp2_with fail
  go_loopw [1, 5] (fun kv i wr => ∃ (k : Nat) (kk : Int), k ≤ l.length ∧ i = .int .i64 k ∧ kv = .int .i64 kk ∧ kk = k0 + (cntL (FTry.flat (l.take k)) : Int) ∧ OwnC wr (.s 224 6 l.length (mkL (FTry.flat (l.take k)) k0 ++ FTry.flat (l.drop k))) F (.slice (some ⟨g, 0, none⟩) l.length c) ∧ OnlyF F w wr) (fun _ i _ => l.length - (intOf i).toNat)
  case atStart => exact ⟨0, k0, Nat.zero_le _, rfl, rfl, by simp [cntL], by simpa [mkL] using HO.out, OnlyF.refl _ _⟩
  case round =>
    obtain ⟨k, kk, hk, rfl, rfl, hkk, hO, hG⟩ := hrel
    have HKK := hid hkk
    have HO1 := hid hO
    have HGG := hid hG
    clear hO hG
    by_cases hlt : k < l.length
    · obtain ⟨x, hx⟩ : ∃ x, l[k]? = some x := ⟨_, List.getElem?_eq_getElem hlt⟩
      have HX := hid hx
      have hca := FTry.cnt_at l k x hx
      have hD0 : (mkL (FTry.flat (l.take k)) k0).length = k * 6 := by rw [mkL_len, FTry.flat_len, List.length_take]; congr 1; omega
      have hO2 := HO1.out
      rw [FTry.flat_at l k x hx] at hO2
      obtain ⟨z0, z1, z2, z3, z4, z5⟩ := x
      rw [show FTry.flat (⟨z0, z1, z2, z3, z4, z5⟩ :: l.drop (k + 1)) = (FTry.c ⟨z0, z1, z2, z3, z4, z5⟩) ++ FTry.flat (l.drop (k + 1)) from List.flatMap_cons, FTry.c_eq] at hO2
      rw [FTry.cnt_eq] at hca
      obtain ⟨D, hDD⟩ : ∃ D, D = mkL (FTry.flat (l.take k)) k0 := ⟨_, rfl⟩
      rw [← hDD] at hD0 hO2
      obtain ⟨R, hRR⟩ : ∃ R, R = FTry.flat (l.drop (k + 1)) := ⟨_, rfl⟩
      rw [← hRR] at hO2
      have HD := hid hD0
      have HDD := hid hDD
      have HRR := hid hRR
      have hkp : 1 ≤ kk := by omega
      generalize hCC : cntL (FTry.flat (l.take k)) = CC at *
      have hkb : kk + ((6 : Nat) : Int) ≤ 1000000000000000 := by omega
      have HCC := hid hCC
      clear hx hD0 hDD hRR hkk hca hCC 
      obtain ⟨f0, hrow0, hnc0, hln0⟩ := hO2.row
      have hkc : k * 6 + 6 ≤ c * 6 := by have := Nat.mul_le_mul_right 6 (show k + 1 ≤ c by omega); rw [Nat.succ_mul] at this; exact this
      have q0 := hrow0.cell (i := k * 6) (by omega)
      have y0 := hrow0.frozen (k * 6)
      have q1 := hrow0.cell (i := k * 6 + 1) (by omega)
      have y1 := hrow0.frozen (k * 6 + 1)
      have q2 := hrow0.cell (i := k * 6 + 2) (by omega)
      have y2 := hrow0.frozen (k * 6 + 2)
      have q3 := hrow0.cell (i := k * 6 + 3) (by omega)
      have y3 := hrow0.frozen (k * 6 + 3)
      have q4 := hrow0.cell (i := k * 6 + 4) (by omega)
      have y4 := hrow0.frozen (k * 6 + 4)
      have q5 := hrow0.cell (i := k * 6 + 5) (by omega)
      have y5 := hrow0.frozen (k * 6 + 5)
      clear hrow0
      go_wp2_with fail
      clear hkc y0 y1 y2 y3 y4 y5 q0 q1 q2 q3 q4 q5
      have O0_0 := OwnC.setv (D := D) (y := .bool z0) (R := .v (.string z1) :: .v (.int .i64 z2) :: .v (.int .i64 z3) :: .v (.int .i64 z4) :: .v (.int .i64 z5) :: R) (by simp only [List.append_assoc, List.cons_append, List.nil_append] at hO2 ⊢; exact hO2) hF (.bool ((kk) % 3 == 0)) (k * 6) (by simp [HD.out])
      clear hO2
      refine (markText_any _ _ (by omega)).mono ?_
      rintro e w2 ⟨rfl, hb1⟩
      have G1 := hid (OnlyF.of_below (OnlyF.set HGG.out (p := ⟨g, k * 6, none⟩) HG.out (.bool ((kk) % 3 == 0))) hb1)
      have P1 := O0_0.below hb1 (Nat.le_refl _)
      clear O0_0 hb1
      obtain ⟨f1, hrow1, hnc1, hln1⟩ := P1.row
      have hkc : k * 6 + 6 ≤ c * 6 := by have := Nat.mul_le_mul_right 6 (show k + 1 ≤ c by omega); rw [Nat.succ_mul] at this; exact this
      have q0 := hrow1.cell (i := k * 6) (by omega)
      have y0 := hrow1.frozen (k * 6)
      have q1 := hrow1.cell (i := k * 6 + 1) (by omega)
      have y1 := hrow1.frozen (k * 6 + 1)
      have q2 := hrow1.cell (i := k * 6 + 2) (by omega)
      have y2 := hrow1.frozen (k * 6 + 2)
      have q3 := hrow1.cell (i := k * 6 + 3) (by omega)
      have y3 := hrow1.frozen (k * 6 + 3)
      have q4 := hrow1.cell (i := k * 6 + 4) (by omega)
      have y4 := hrow1.frozen (k * 6 + 4)
      have q5 := hrow1.cell (i := k * 6 + 5) (by omega)
      have y5 := hrow1.frozen (k * 6 + 5)
      clear hrow1
      go_wp2_with fail
      clear hkc y0 y1 y2 y3 y4 y5 q0 q1 q2 q3 q4 q5
      have O1_1 := OwnC.setv (D := D ++ [.v (.bool ((kk) % 3 == 0))]) (y := .string z1) (R := .v (.int .i64 z2) :: .v (.int .i64 z3) :: .v (.int .i64 z4) :: .v (.int .i64 z5) :: R) (by simp only [List.append_assoc, List.cons_append, List.nil_append] at P1 ⊢; exact P1) hF (.string (mt (kk + 1))) (k * 6 + 1) (by simp [HD.out])
      clear P1
      have O1_2 := OwnC.setv (D := D ++ [.v (.bool ((kk) % 3 == 0)), .v (.string (mt (kk + 1)))]) (y := .int .i64 z2) (R := .v (.int .i64 z3) :: .v (.int .i64 z4) :: .v (.int .i64 z5) :: R) (by simp only [List.append_assoc, List.cons_append, List.nil_append] at O1_1 ⊢; exact O1_1) hF (.int .i64 (kk + 1 + 1)) (k * 6 + 2) (by simp [HD.out])
      clear O1_1
      have O1_3 := OwnC.setv (D := D ++ [.v (.bool ((kk) % 3 == 0)), .v (.string (mt (kk + 1))), .v (.int .i64 (kk + 1 + 1))]) (y := .int .i64 z3) (R := .v (.int .i64 z4) :: .v (.int .i64 z5) :: R) (by simp only [List.append_assoc, List.cons_append, List.nil_append] at O1_2 ⊢; exact O1_2) hF (.int .i64 (kk + 1 + 1 + 1)) (k * 6 + 3) (by simp [HD.out])
      clear O1_2
      have O1_4 := OwnC.setv (D := D ++ [.v (.bool ((kk) % 3 == 0)), .v (.string (mt (kk + 1))), .v (.int .i64 (kk + 1 + 1)), .v (.int .i64 (kk + 1 + 1 + 1))]) (y := .int .i64 z4) (R := .v (.int .i64 z5) :: R) (by simp only [List.append_assoc, List.cons_append, List.nil_append] at O1_3 ⊢; exact O1_3) hF (.int .i64 (kk + 1 + 1 + 1 + 1)) (k * 6 + 4) (by simp [HD.out])
      clear O1_3
      have O1_5 := OwnC.setv (D := D ++ [.v (.bool ((kk) % 3 == 0)), .v (.string (mt (kk + 1))), .v (.int .i64 (kk + 1 + 1)), .v (.int .i64 (kk + 1 + 1 + 1)), .v (.int .i64 (kk + 1 + 1 + 1 + 1))]) (y := .int .i64 z5) (R := R) (by simp only [List.append_assoc, List.cons_append, List.nil_append] at O1_4 ⊢; exact O1_4) hF (.int .i64 (kk + 1 + 1 + 1 + 1 + 1)) (k * 6 + 5) (by simp [HD.out])
      clear O1_4
      go_roundw
      case rel =>
        have hmk : mkL (FTry.c ⟨z0, z1, z2, z3, z4, z5⟩) kk = [.v (.bool ((kk) % 3 == 0)), .v (.string (mt (kk + 1))), .v (.int .i64 (kk + 1 + 1)), .v (.int .i64 (kk + 1 + 1 + 1)), .v (.int .i64 (kk + 1 + 1 + 1 + 1)), .v (.int .i64 (kk + 1 + 1 + 1 + 1 + 1))] := by
          rw [FTry.c_eq]
          rw [mkL_v (kk + 1) (by omega)]
          rw [mkL_v (kk + 1 + 1) (by omega)]
          rw [mkL_v (kk + 1 + 1 + 1) (by omega)]
          rw [mkL_v (kk + 1 + 1 + 1 + 1) (by omega)]
          rw [mkL_v (kk + 1 + 1 + 1 + 1 + 1) (by omega)]
          rw [mkL_v (kk + 1 + 1 + 1 + 1 + 1 + 1) (by omega)]
          rw [mkL_nil]
          rfl
        have hcn : cntL (FTry.flat (l.take (k + 1))) = CC + (6) := by
          rw [FTry.flat_take l k _ HX.out, cntL_append, HCC.out, FTry.cnt_eq]
          try omega
        have hall : mkL (FTry.flat (l.take (k + 1))) k0 = D ++ [.v (.bool ((kk) % 3 == 0)), .v (.string (mt (kk + 1))), .v (.int .i64 (kk + 1 + 1)), .v (.int .i64 (kk + 1 + 1 + 1)), .v (.int .i64 (kk + 1 + 1 + 1 + 1)), .v (.int .i64 (kk + 1 + 1 + 1 + 1 + 1))] := by
          rw [FTry.flat_take l k _ HX.out, mkL_append, HCC.out, ← HKK.out, ← HDD.out, hmk]
        refine ⟨k + 1, _, by omega, by go_num, rfl, ?_, ?_, (OnlyF.set (OnlyF.set (OnlyF.set (OnlyF.set (OnlyF.set G1.out (p := ⟨g, k * 6 + 1, none⟩) HG.out (.string (mt (kk + 1)))) (p := ⟨g, k * 6 + 2, none⟩) HG.out (.int .i64 (kk + 1 + 1))) (p := ⟨g, k * 6 + 3, none⟩) HG.out (.int .i64 (kk + 1 + 1 + 1))) (p := ⟨g, k * 6 + 4, none⟩) HG.out (.int .i64 (kk + 1 + 1 + 1 + 1))) (p := ⟨g, k * 6 + 5, none⟩) HG.out (.int .i64 (kk + 1 + 1 + 1 + 1 + 1)))⟩
        · rw [hcn]
          have := HKK.out
          omega
        · rw [hall, ← HRR.out]
          simp only [List.append_assoc, List.cons_append, List.nil_append] at O1_5 ⊢
          exact O1_5
      case measure => simp [intOf]; omega
    · obtain rfl : k = l.length := by omega
      clear hlt
      go_wp2_with fail
      go_ret
      have e := HO1.out
      rw [List.take_length, List.drop_length] at e
      have e2 := HKK.out
      rw [List.take_length] at e2
      exact ⟨ret_int e2, by simpa using e, HGG.out⟩
theorem markTryS_any (l : List FTry) : MarkTryS l := markTryS_of l
theorem FEnd.flat_len (l : List FEnd) : (FEnd.flat l).length = l.length * 9 := by
  induction l with
  | nil => simp
  | cons x r ih =>
    have e : FEnd.flat (x :: r) = x.c ++ FEnd.flat r := List.flatMap_cons
    rw [e, List.length_append, ih, FEnd.len, List.length_cons]
    omega
theorem FEnd.flat_at (l : List FEnd) (k : Nat) (x : FEnd) (h : l[k]? = some x) : l.drop k = x :: l.drop (k + 1) := by
  have hk := (List.getElem?_eq_some_iff.1 h).1
  rw [List.drop_eq_getElem_cons hk, (List.getElem?_eq_some_iff.1 h).2]
theorem FEnd.flat_take (l : List FEnd) (k : Nat) (x : FEnd) (h : l[k]? = some x) : FEnd.flat (l.take (k + 1)) = FEnd.flat (l.take k) ++ x.c := by
  rw [List.take_add_one, h]
  simp [FEnd.flat]
theorem FEnd.flat_split (l : List FEnd) (k : Nat) (x : FEnd) (h : l[k]? = some x) : FEnd.flat l = FEnd.flat (l.take k) ++ (x.c ++ FEnd.flat (l.drop (k + 1))) := by
  have e : FEnd.flat (l.take k ++ l.drop k) = FEnd.flat (l.take k) ++ FEnd.flat (l.drop k) := List.flatMap_append
  rw [List.take_append_drop] at e
  rw [e, FEnd.flat_at l k x h]
  have e2 : FEnd.flat (x :: l.drop (k + 1)) = x.c ++ FEnd.flat (l.drop (k + 1)) := List.flatMap_cons
  rw [e2]
theorem FEnd.cnt_at (l : List FEnd) (k : Nat) (x : FEnd) (h : l[k]? = some x) : cntL (FEnd.flat (l.take k)) + cntL x.c ≤ cntL (FEnd.flat l) := by
  rw [FEnd.flat_split l k x h, cntL_append, cntL_append]
  omega
theorem FEnd.cnt_eq (z0 : Int) (z1 : Int) (z2 : Int) (z3 : ByteArray) (z4 : Int) (z5 : List FEntry) (z6 : Int) (z7 : Int) (z8 : Int) : cntL (FEnd.c ⟨z0, ⟨z1, z2, z3, z4, z5⟩, z6, z7, z8⟩) = 8 + cntL (FEntry.flat z5) := by
  rw [FEnd.c_eq]
  simp only [cntL, Cel.cnt]
  try omega
def MarkEndS (l : List FEnd) : Prop := ∀ (u : Value) (k0 : Int) (F : List Nat) (w : World), 1 ≤ k0 → k0 + (cntL (FEnd.flat l) : Int) ≤ 1000000000000000 → F.Nodup → OwnC w (.s 160 9 l.length (FEnd.flat l)) F u → Calls Tryz.prog 86 #[u, .int .i64 k0] w fun e w' => e = .returned (.int .i64 (k0 + (cntL (FEnd.flat l) : Int))) ∧ OwnC w' (.s 160 9 l.length (mkL (FEnd.flat l) k0)) F u ∧ OnlyF F w w'
def MkEnd : FEnd → Prop
  | ⟨z0, ⟨z1, z2, z3, z4, z5⟩, z6, z7, z8⟩ => MarkEntryS z5
theorem cntb1_End (x : FEnd) : cntL x.c ≤ 20 + 20 * x.wt := by
  obtain ⟨z0, ⟨z1, z2, z3, z4, z5⟩, z6, z7, z8⟩ := x
  rw [FEnd.cnt_eq, FEnd.wt_eq]
  have b5 := cntb_EntryS z5
  omega
theorem cntb_EndS : ∀ l : List FEnd, cntL (FEnd.flat l) ≤ 20 * (l.length + FEnd.wts l)
  | [] => by simp [cntL]
  | x :: r => by
    have e : FEnd.flat (x :: r) = x.c ++ FEnd.flat r := List.flatMap_cons
    have h1 := cntb1_End x
    have h2 := cntb_EndS r
    rw [e, cntL_append, FEnd.wts, List.length_cons]
    omega
theorem markEndS_of (l : List FEnd) (he : ∀ x, x ∈ l → MkEnd x) : MarkEndS l := by
  intro u k0 F w h1 h2 hF hO
  obtain ⟨A, c, rfl⟩ := hO.form
  have hcap := hO.read.cap
  have hn : l.length ≤ 9223372036854775807 := by unfold maxLen at hcap; omega
  have HO := hid hO
  clear hcap
  by_cases hl0 : l.length = 0
  · obtain rfl : l = [] := List.eq_nil_of_length_eq_zero hl0
    clear hO hl0 he
    go_enter Tryz.func86, Tryz.ntmps86
    go_wp2_with fail
    go_loop [1, 5] (fun kv i => kv = .int .i64 k0 ∧ i = .int .i64 0) (fun _ i => 0)
    case atStart => exact ⟨rfl, rfl⟩
    case round =>
      obtain ⟨rfl, rfl⟩ := hrel
      go_wp2_with fail
      go_ret
      exact ⟨ret_int (by simp [cntL]), by simpa [mkL] using HO.out, OnlyF.refl _ _⟩
  obtain ⟨g, hA, hg⟩ := hO.head (by omega)
  subst hA
  have HE := hid he
  clear he
  have HG := hid hg
  clear hO hg hl0
  go_enter Tryz.func86, Tryz.ntmps86
  go_wp2_with fail
  go_loopw [1, 5] (fun kv i wr => ∃ (k : Nat) (kk : Int), k ≤ l.length ∧ i = .int .i64 k ∧ kv = .int .i64 kk ∧ kk = k0 + (cntL (FEnd.flat (l.take k)) : Int) ∧ OwnC wr (.s 160 9 l.length (mkL (FEnd.flat (l.take k)) k0 ++ FEnd.flat (l.drop k))) F (.slice (some ⟨g, 0, none⟩) l.length c) ∧ OnlyF F w wr) (fun _ i _ => l.length - (intOf i).toNat)
  case atStart => exact ⟨0, k0, Nat.zero_le _, rfl, rfl, by simp [cntL], by simpa [mkL] using HO.out, OnlyF.refl _ _⟩
  case round =>
    obtain ⟨k, kk, hk, rfl, rfl, hkk, hO, hG⟩ := hrel
    have HKK := hid hkk
    have HO1 := hid hO
    have HGG := hid hG
    clear hO hG
    by_cases hlt : k < l.length
    · obtain ⟨x, hx⟩ : ∃ x, l[k]? = some x := ⟨_, List.getElem?_eq_getElem hlt⟩
      have HX := hid hx
      have hca := FEnd.cnt_at l k x hx
      have hD0 : (mkL (FEnd.flat (l.take k)) k0).length = k * 9 := by rw [mkL_len, FEnd.flat_len, List.length_take]; congr 1; omega
      have hO2 := HO1.out
      rw [FEnd.flat_at l k x hx] at hO2
      have hmx := HE.out x (List.mem_of_getElem? hx)
      obtain ⟨z0, ⟨z1, z2, z3, z4, z5⟩, z6, z7, z8⟩ := x
      rw [show FEnd.flat (⟨z0, ⟨z1, z2, z3, z4, z5⟩, z6, z7, z8⟩ :: l.drop (k + 1)) = (FEnd.c ⟨z0, ⟨z1, z2, z3, z4, z5⟩, z6, z7, z8⟩) ++ FEnd.flat (l.drop (k + 1)) from List.flatMap_cons, FEnd.c_eq] at hO2
      rw [FEnd.cnt_eq] at hca
      have M5 : MarkEntryS z5 := hmx
      have HM5 := hid M5
      clear hmx M5
      obtain ⟨D, hDD⟩ : ∃ D, D = mkL (FEnd.flat (l.take k)) k0 := ⟨_, rfl⟩
      rw [← hDD] at hD0 hO2
      obtain ⟨R, hRR⟩ : ∃ R, R = FEnd.flat (l.drop (k + 1)) := ⟨_, rfl⟩
      rw [← hRR] at hO2
      have HD := hid hD0
      have HDD := hid hDD
      have HRR := hid hRR
      have hkp : 1 ≤ kk := by omega
      generalize hCC : cntL (FEnd.flat (l.take k)) = CC at *
      obtain ⟨N5, hN5⟩ : ∃ N : Nat, N = cntL (FEntry.flat z5) := ⟨_, rfl⟩
      rw [← hN5] at hca
      have hkb : kk + ((8 + N5 : Nat) : Int) ≤ 1000000000000000 := by omega
      have HN5 := hid hN5
      have HCC := hid hCC
      clear hx hD0 hDD hRR hkk hca hCC hN5
      obtain ⟨f0, hrow0, hnc0, hln0⟩ := hO2.row
      have hkc : k * 9 + 9 ≤ c * 9 := by have := Nat.mul_le_mul_right 9 (show k + 1 ≤ c by omega); rw [Nat.succ_mul] at this; exact this
      have q0 := hrow0.cell (i := k * 9) (by omega)
      have y0 := hrow0.frozen (k * 9)
      have q1 := hrow0.cell (i := k * 9 + 1) (by omega)
      have y1 := hrow0.frozen (k * 9 + 1)
      have q2 := hrow0.cell (i := k * 9 + 1 + 1) (by omega)
      have y2 := hrow0.frozen (k * 9 + 1 + 1)
      have q3 := hrow0.cell (i := k * 9 + 1 + 2) (by omega)
      have y3 := hrow0.frozen (k * 9 + 1 + 2)
      have q4 := hrow0.cell (i := k * 9 + 1 + 3) (by omega)
      have y4 := hrow0.frozen (k * 9 + 1 + 3)
      have q5 := hrow0.cell (i := k * 9 + 1 + 4) (by omega)
      have y5 := hrow0.frozen (k * 9 + 1 + 4)
      have q6 := hrow0.cell (i := k * 9 + 6) (by omega)
      have y6 := hrow0.frozen (k * 9 + 6)
      have q7 := hrow0.cell (i := k * 9 + 7) (by omega)
      have y7 := hrow0.frozen (k * 9 + 7)
      have q8 := hrow0.cell (i := k * 9 + 8) (by omega)
      have y8 := hrow0.frozen (k * 9 + 8)
      clear hrow0
      go_wp2_with fail
      clear hkc y0 y1 y2 y3 y4 y5 y6 y7 y8 q0 q1 q2 q3 q4 q5 q6 q7 q8
      have O0_0 := OwnC.setv (D := D) (y := .int .i64 z0) (R := .v (.int .i64 z1) :: .v (.int .i64 z2) :: .v (.string z3) :: .v (.int .i64 z4) :: .s 153 8 z5.length (FEntry.flat z5) :: .v (.int .i64 z6) :: .v (.int .i64 z7) :: .v (.int .i64 z8) :: R) (by simp only [List.append_assoc, List.cons_append, List.nil_append] at hO2 ⊢; exact hO2) hF (.int .i64 (kk)) (k * 9) (by simp [HD.out])
      clear hO2
      have O0_1 := OwnC.setv (D := D ++ [.v (.int .i64 (kk))]) (y := .int .i64 z1) (R := .v (.int .i64 z2) :: .v (.string z3) :: .v (.int .i64 z4) :: .s 153 8 z5.length (FEntry.flat z5) :: .v (.int .i64 z6) :: .v (.int .i64 z7) :: .v (.int .i64 z8) :: R) (by simp only [List.append_assoc, List.cons_append, List.nil_append] at O0_0 ⊢; exact O0_0) hF (.int .i64 (kk + 1)) (k * 9 + 1) (by simp [HD.out])
      clear O0_0
      have O0_2 := OwnC.setv (D := D ++ [.v (.int .i64 (kk)), .v (.int .i64 (kk + 1))]) (y := .int .i64 z2) (R := .v (.string z3) :: .v (.int .i64 z4) :: .s 153 8 z5.length (FEntry.flat z5) :: .v (.int .i64 z6) :: .v (.int .i64 z7) :: .v (.int .i64 z8) :: R) (by simp only [List.append_assoc, List.cons_append, List.nil_append] at O0_1 ⊢; exact O0_1) hF (.int .i64 (kk + 1 + 1)) (k * 9 + 1 + 1) (by simp [HD.out])
      clear O0_1
      refine (markText_any _ _ (by omega)).mono ?_
      rintro e w2 ⟨rfl, hb1⟩
      have G1 := hid (OnlyF.of_below (OnlyF.set (OnlyF.set (OnlyF.set HGG.out (p := ⟨g, k * 9, none⟩) HG.out (.int .i64 (kk))) (p := ⟨g, k * 9 + 1, none⟩) HG.out (.int .i64 (kk + 1))) (p := ⟨g, k * 9 + 1 + 1, none⟩) HG.out (.int .i64 (kk + 1 + 1))) hb1)
      have P1 := O0_2.below hb1 (Nat.le_refl _)
      clear O0_2 hb1
      obtain ⟨f1, hrow1, hnc1, hln1⟩ := P1.row
      have hkc : k * 9 + 9 ≤ c * 9 := by have := Nat.mul_le_mul_right 9 (show k + 1 ≤ c by omega); rw [Nat.succ_mul] at this; exact this
      have q0 := hrow1.cell (i := k * 9) (by omega)
      have y0 := hrow1.frozen (k * 9)
      have q1 := hrow1.cell (i := k * 9 + 1) (by omega)
      have y1 := hrow1.frozen (k * 9 + 1)
      have q2 := hrow1.cell (i := k * 9 + 1 + 1) (by omega)
      have y2 := hrow1.frozen (k * 9 + 1 + 1)
      have q3 := hrow1.cell (i := k * 9 + 1 + 2) (by omega)
      have y3 := hrow1.frozen (k * 9 + 1 + 2)
      have q4 := hrow1.cell (i := k * 9 + 1 + 3) (by omega)
      have y4 := hrow1.frozen (k * 9 + 1 + 3)
      have q5 := hrow1.cell (i := k * 9 + 1 + 4) (by omega)
      have y5 := hrow1.frozen (k * 9 + 1 + 4)
      have q6 := hrow1.cell (i := k * 9 + 6) (by omega)
      have y6 := hrow1.frozen (k * 9 + 6)
      have q7 := hrow1.cell (i := k * 9 + 7) (by omega)
      have y7 := hrow1.frozen (k * 9 + 7)
      have q8 := hrow1.cell (i := k * 9 + 8) (by omega)
      have y8 := hrow1.frozen (k * 9 + 8)
      clear hrow1
      obtain ⟨g5_, a5, X5, hA5, hgF5, hc5, _, hx5, hsub5, hnd5, hgx5, hback5⟩ := OwnC.at_ (D := D ++ [.v (.int .i64 (kk)), .v (.int .i64 (kk + 1)), .v (.int .i64 (kk + 1 + 1)), .v (.string z3), .v (.int .i64 z4)]) (x := .s 153 8 z5.length (FEntry.flat z5)) (R := .v (.int .i64 z6) :: .v (.int .i64 z7) :: .v (.int .i64 z8) :: R) (by simp only [List.append_assoc, List.cons_append, List.nil_append] at P1 ⊢; exact P1) hF
      obtain ⟨A5, c5, rfl⟩ := hx5.form
      simp only [Option.some.injEq, Addr.mk.injEq, and_true] at hA5
      subst hA5
      rw [show (D ++ [.v (.int .i64 (kk)), .v (.int .i64 (kk + 1)), .v (.int .i64 (kk + 1 + 1)), .v (.string z3), .v (.int .i64 z4)] : List Cel).length = k * 9 + 1 + 4 from by simp [HD.out]] at hc5
      clear q5
      go_wp2_with fail
      have hcn := hid (show World.cell? ((w2.setCell ⟨g, k * 9 + 1 + 2, none⟩ (.string (mt (kk + 1 + 1 + 1)))).setCell ⟨g, k * 9 + 1 + 3, none⟩ (.int .i64 (kk + 1 + 1 + 1 + 1))) ⟨g, k * 9 + 1 + 4, none⟩ = some _ from (cell_set_other (by omega) (cell_set_other (by omega) hc5)))
      clear hkc y0 y1 y2 y3 y4 y5 y6 y7 y8 q0 q1 q2 q3 q4 q6 q7 q8 hc5 hx5 hsub5 hnd5 hgx5 hback5 hgF5
      have O1_3 := OwnC.setv (D := D ++ [.v (.int .i64 (kk)), .v (.int .i64 (kk + 1)), .v (.int .i64 (kk + 1 + 1))]) (y := .string z3) (R := .v (.int .i64 z4) :: .s 153 8 z5.length (FEntry.flat z5) :: .v (.int .i64 z6) :: .v (.int .i64 z7) :: .v (.int .i64 z8) :: R) (by simp only [List.append_assoc, List.cons_append, List.nil_append] at P1 ⊢; exact P1) hF (.string (mt (kk + 1 + 1 + 1))) (k * 9 + 1 + 2) (by simp [HD.out])
      clear P1
      have O1_4 := OwnC.setv (D := D ++ [.v (.int .i64 (kk)), .v (.int .i64 (kk + 1)), .v (.int .i64 (kk + 1 + 1)), .v (.string (mt (kk + 1 + 1 + 1)))]) (y := .int .i64 z4) (R := .s 153 8 z5.length (FEntry.flat z5) :: .v (.int .i64 z6) :: .v (.int .i64 z7) :: .v (.int .i64 z8) :: R) (by simp only [List.append_assoc, List.cons_append, List.nil_append] at O1_3 ⊢; exact O1_3) hF (.int .i64 (kk + 1 + 1 + 1 + 1)) (k * 9 + 1 + 3) (by simp [HD.out])
      clear O1_3
      obtain ⟨g_, b5, X, hA_, hgF, hc_, _, hx_, hsub, hnd, hgx, hback⟩ := OwnC.at_ (D := D ++ [.v (.int .i64 (kk)), .v (.int .i64 (kk + 1)), .v (.int .i64 (kk + 1 + 1)), .v (.string (mt (kk + 1 + 1 + 1))), .v (.int .i64 (kk + 1 + 1 + 1 + 1))]) (x := .s 153 8 z5.length (FEntry.flat z5)) (R := .v (.int .i64 z6) :: .v (.int .i64 z7) :: .v (.int .i64 z8) :: R) (by simp only [List.append_assoc, List.cons_append, List.nil_append] at O1_4 ⊢; exact O1_4) hF
      simp only [Option.some.injEq, Addr.mk.injEq, and_true] at hA_
      subst hA_
      rw [show (D ++ [.v (.int .i64 (kk)), .v (.int .i64 (kk + 1)), .v (.int .i64 (kk + 1 + 1)), .v (.string (mt (kk + 1 + 1 + 1))), .v (.int .i64 (kk + 1 + 1 + 1 + 1))] : List Cel).length = k * 9 + 1 + 4 from by simp [HD.out]] at hc_
      obtain rfl : .slice A5 z5.length c5 = b5 := Option.some.inj (hcn.out.symm.trans hc_)
      obtain ⟨k5_, hnk⟩ : ∃ k : Int, k = kk + 1 + 1 + 1 + 1 + 1 + (N5 : Int) := ⟨_, rfl⟩
      have hcall := HM5.out _ (kk + 1 + 1 + 1 + 1 + 1) X _ (by omega) (by rw [← HN5.out]; omega) hnd hx_
      rw [← HN5.out, ← hnk] at hcall
      have HNK5 := hid hnk
      have hkp5 : 1 ≤ k5_ := by omega
      have hkb5 : k5_ + ((3 : Nat) : Int) ≤ 1000000000000000 := by omega
      clear hnk hc_ hcn
      refine hcall.mono ?_
      clear hcall
      rintro e w3 ⟨rfl, own, hon⟩
      have P2 := hback w3 _ own (fun b hb hnb => hon.block b (OwnC.lt _ _ _ O1_4 b hb) hnb)
      have G2 := hid (OnlyF.call (OnlyF.set (OnlyF.set G1.out (p := ⟨g, k * 9 + 1 + 2, none⟩) HG.out (.string (mt (kk + 1 + 1 + 1)))) (p := ⟨g, k * 9 + 1 + 3, none⟩) HG.out (.int .i64 (kk + 1 + 1 + 1 + 1))) hon hsub)
      clear own hon hback hgx hnd hsub hx_ hgF O1_4
      obtain ⟨f2, hrow2, hnc2, hln2⟩ := P2.row
      have hkc : k * 9 + 9 ≤ c * 9 := by have := Nat.mul_le_mul_right 9 (show k + 1 ≤ c by omega); rw [Nat.succ_mul] at this; exact this
      have q0 := hrow2.cell (i := k * 9) (by omega)
      have y0 := hrow2.frozen (k * 9)
      have q1 := hrow2.cell (i := k * 9 + 1) (by omega)
      have y1 := hrow2.frozen (k * 9 + 1)
      have q2 := hrow2.cell (i := k * 9 + 1 + 1) (by omega)
      have y2 := hrow2.frozen (k * 9 + 1 + 1)
      have q3 := hrow2.cell (i := k * 9 + 1 + 2) (by omega)
      have y3 := hrow2.frozen (k * 9 + 1 + 2)
      have q4 := hrow2.cell (i := k * 9 + 1 + 3) (by omega)
      have y4 := hrow2.frozen (k * 9 + 1 + 3)
      have q5 := hrow2.cell (i := k * 9 + 1 + 4) (by omega)
      have y5 := hrow2.frozen (k * 9 + 1 + 4)
      have q6 := hrow2.cell (i := k * 9 + 6) (by omega)
      have y6 := hrow2.frozen (k * 9 + 6)
      have q7 := hrow2.cell (i := k * 9 + 7) (by omega)
      have y7 := hrow2.frozen (k * 9 + 7)
      have q8 := hrow2.cell (i := k * 9 + 8) (by omega)
      have y8 := hrow2.frozen (k * 9 + 8)
      clear hrow2
      go_wp2_with fail
      clear hkc y0 y1 y2 y3 y4 y5 y6 y7 y8 q0 q1 q2 q3 q4 q5 q6 q7 q8
      have O2_6 := OwnC.setv (D := D ++ [.v (.int .i64 (kk)), .v (.int .i64 (kk + 1)), .v (.int .i64 (kk + 1 + 1)), .v (.string (mt (kk + 1 + 1 + 1))), .v (.int .i64 (kk + 1 + 1 + 1 + 1)), .s 153 8 z5.length (mkL (FEntry.flat z5) (kk + 1 + 1 + 1 + 1 + 1))]) (y := .int .i64 z6) (R := .v (.int .i64 z7) :: .v (.int .i64 z8) :: R) (by simp only [List.append_assoc, List.cons_append, List.nil_append] at P2 ⊢; exact P2) hF (.int .i64 (k5_)) (k * 9 + 6) (by simp [HD.out])
      clear P2
      have O2_7 := OwnC.setv (D := D ++ [.v (.int .i64 (kk)), .v (.int .i64 (kk + 1)), .v (.int .i64 (kk + 1 + 1)), .v (.string (mt (kk + 1 + 1 + 1))), .v (.int .i64 (kk + 1 + 1 + 1 + 1)), .s 153 8 z5.length (mkL (FEntry.flat z5) (kk + 1 + 1 + 1 + 1 + 1)), .v (.int .i64 (k5_))]) (y := .int .i64 z7) (R := .v (.int .i64 z8) :: R) (by simp only [List.append_assoc, List.cons_append, List.nil_append] at O2_6 ⊢; exact O2_6) hF (.int .i64 (k5_ + 1)) (k * 9 + 7) (by simp [HD.out])
      clear O2_6
      have O2_8 := OwnC.setv (D := D ++ [.v (.int .i64 (kk)), .v (.int .i64 (kk + 1)), .v (.int .i64 (kk + 1 + 1)), .v (.string (mt (kk + 1 + 1 + 1))), .v (.int .i64 (kk + 1 + 1 + 1 + 1)), .s 153 8 z5.length (mkL (FEntry.flat z5) (kk + 1 + 1 + 1 + 1 + 1)), .v (.int .i64 (k5_)), .v (.int .i64 (k5_ + 1))]) (y := .int .i64 z8) (R := R) (by simp only [List.append_assoc, List.cons_append, List.nil_append] at O2_7 ⊢; exact O2_7) hF (.int .i64 (k5_ + 1 + 1)) (k * 9 + 8) (by simp [HD.out])
      clear O2_7
      go_roundw
      case rel =>
        have hmk : mkL (FEnd.c ⟨z0, ⟨z1, z2, z3, z4, z5⟩, z6, z7, z8⟩) kk = [.v (.int .i64 (kk)), .v (.int .i64 (kk + 1)), .v (.int .i64 (kk + 1 + 1)), .v (.string (mt (kk + 1 + 1 + 1))), .v (.int .i64 (kk + 1 + 1 + 1 + 1)), .s 153 8 z5.length (mkL (FEntry.flat z5) (kk + 1 + 1 + 1 + 1 + 1)), .v (.int .i64 (k5_)), .v (.int .i64 (k5_ + 1)), .v (.int .i64 (k5_ + 1 + 1))] := by
          rw [FEnd.c_eq]
          rw [mkL_v (kk + 1) (by omega)]
          rw [mkL_v (kk + 1 + 1) (by omega)]
          rw [mkL_v (kk + 1 + 1 + 1) (by omega)]
          rw [mkL_v (kk + 1 + 1 + 1 + 1) (by omega)]
          rw [mkL_v (kk + 1 + 1 + 1 + 1 + 1) (by omega)]
          rw [mkL_s (k5_) (by rw [← HN5.out]; exact HNK5.out)]
          rw [mkL_v (k5_ + 1) (by omega)]
          rw [mkL_v (k5_ + 1 + 1) (by omega)]
          rw [mkL_v (k5_ + 1 + 1 + 1) (by omega)]
          rw [mkL_nil]
          rfl
        have hcn : cntL (FEnd.flat (l.take (k + 1))) = CC + (8 + N5) := by
          rw [FEnd.flat_take l k _ HX.out, cntL_append, HCC.out, FEnd.cnt_eq]
          rw [← HN5.out]; try omega
        have hall : mkL (FEnd.flat (l.take (k + 1))) k0 = D ++ [.v (.int .i64 (kk)), .v (.int .i64 (kk + 1)), .v (.int .i64 (kk + 1 + 1)), .v (.string (mt (kk + 1 + 1 + 1))), .v (.int .i64 (kk + 1 + 1 + 1 + 1)), .s 153 8 z5.length (mkL (FEntry.flat z5) (kk + 1 + 1 + 1 + 1 + 1)), .v (.int .i64 (k5_)), .v (.int .i64 (k5_ + 1)), .v (.int .i64 (k5_ + 1 + 1))] := by
          rw [FEnd.flat_take l k _ HX.out, mkL_append, HCC.out, ← HKK.out, ← HDD.out, hmk]
        refine ⟨k + 1, _, by omega, by go_num, rfl, ?_, ?_, (OnlyF.set (OnlyF.set (OnlyF.set G2.out (p := ⟨g, k * 9 + 6, none⟩) HG.out (.int .i64 (k5_))) (p := ⟨g, k * 9 + 7, none⟩) HG.out (.int .i64 (k5_ + 1))) (p := ⟨g, k * 9 + 8, none⟩) HG.out (.int .i64 (k5_ + 1 + 1)))⟩
        · rw [hcn]
          have := HKK.out
          have := HNK5.out; omega
        · rw [hall, ← HRR.out]
          simp only [List.append_assoc, List.cons_append, List.nil_append] at O2_8 ⊢
          exact O2_8
      case measure => simp [intOf]; omega
    · obtain rfl : k = l.length := by omega
      clear hlt
      go_wp2_with fail
      go_ret
      have e := HO1.out
      rw [List.take_length, List.drop_length] at e
      have e2 := HKK.out
      rw [List.take_length] at e2
      exact ⟨ret_int e2, by simpa using e, HGG.out⟩
theorem markEndS_any (l : List FEnd) : MarkEndS l := markEndS_of l (fun x _ => by
  obtain ⟨z0, ⟨z1, z2, z3, z4, z5⟩, z6, z7, z8⟩ := x
  exact markEntryS_any z5)
theorem FFrame.flat_len (l : List FFrame) : (FFrame.flat l).length = l.length * 13 := by
  induction l with
  | nil => simp
  | cons x r ih =>
    have e : FFrame.flat (x :: r) = x.c ++ FFrame.flat r := List.flatMap_cons
    rw [e, List.length_append, ih, FFrame.len, List.length_cons]
    omega
theorem FFrame.flat_at (l : List FFrame) (k : Nat) (x : FFrame) (h : l[k]? = some x) : l.drop k = x :: l.drop (k + 1) := by
  have hk := (List.getElem?_eq_some_iff.1 h).1
  rw [List.drop_eq_getElem_cons hk, (List.getElem?_eq_some_iff.1 h).2]
theorem FFrame.flat_take (l : List FFrame) (k : Nat) (x : FFrame) (h : l[k]? = some x) : FFrame.flat (l.take (k + 1)) = FFrame.flat (l.take k) ++ x.c := by
  rw [List.take_add_one, h]
  simp [FFrame.flat]
theorem FFrame.flat_split (l : List FFrame) (k : Nat) (x : FFrame) (h : l[k]? = some x) : FFrame.flat l = FFrame.flat (l.take k) ++ (x.c ++ FFrame.flat (l.drop (k + 1))) := by
  have e : FFrame.flat (l.take k ++ l.drop k) = FFrame.flat (l.take k) ++ FFrame.flat (l.drop k) := List.flatMap_append
  rw [List.take_append_drop] at e
  rw [e, FFrame.flat_at l k x h]
  have e2 : FFrame.flat (x :: l.drop (k + 1)) = x.c ++ FFrame.flat (l.drop (k + 1)) := List.flatMap_cons
  rw [e2]
theorem FFrame.cnt_at (l : List FFrame) (k : Nat) (x : FFrame) (h : l[k]? = some x) : cntL (FFrame.flat (l.take k)) + cntL x.c ≤ cntL (FFrame.flat l) := by
  rw [FFrame.flat_split l k x h, cntL_append, cntL_append]
  omega
theorem FFrame.cnt_eq (z0 : Int) (z1 : Int) (z2 : List FInt) (z3 : List FValue) (z4 : List FCall) (z5 : List FTry) (z6 : List FEnd) (z7 : Int) (z8 : ByteArray) (z9 : ByteArray) (z10 : Int) (z11 : Int) (z12 : Int) : cntL (FFrame.c ⟨z0, z1, z2, z3, z4, z5, z6, z7, z8, z9, z10, z11, z12⟩) = 8 + cntL (FInt.flat z2) + cntL (FValue.flat z3) + cntL (FCall.flat z4) + cntL (FTry.flat z5) + cntL (FEnd.flat z6) := by
  rw [FFrame.c_eq]
  simp only [cntL, Cel.cnt]
  try omega
def MarkFrameS (l : List FFrame) : Prop := ∀ (u : Value) (k0 : Int) (F : List Nat) (w : World), 1 ≤ k0 → k0 + (cntL (FFrame.flat l) : Int) ≤ 1000000000000000 → F.Nodup → OwnC w (.s 91 13 l.length (FFrame.flat l)) F u → Calls Tryz.prog 47 #[u, .int .i64 k0] w fun e w' => e = .returned (.int .i64 (k0 + (cntL (FFrame.flat l) : Int))) ∧ OwnC w' (.s 91 13 l.length (mkL (FFrame.flat l) k0)) F u ∧ OnlyF F w w'
def MkFrame : FFrame → Prop
  | ⟨z0, z1, z2, z3, z4, z5, z6, z7, z8, z9, z10, z11, z12⟩ => MarkIntS z2 ∧ MarkValueS z3 ∧ MarkCallS z4 ∧ MarkTryS z5 ∧ MarkEndS z6
theorem cntb1_Frame (x : FFrame) : cntL x.c ≤ 20 + 20 * x.wt := by
  obtain ⟨z0, z1, z2, z3, z4, z5, z6, z7, z8, z9, z10, z11, z12⟩ := x
  rw [FFrame.cnt_eq, FFrame.wt_eq]
  have b2 := cntb_IntS z2
  have b3 := cntb_ValueS z3
  have b4 := cntb_CallS z4
  have b5 := cntb_TryS z5
  have b6 := cntb_EndS z6
  omega
theorem cntb_FrameS : ∀ l : List FFrame, cntL (FFrame.flat l) ≤ 20 * (l.length + FFrame.wts l)
  | [] => by simp [cntL]
  | x :: r => by
    have e : FFrame.flat (x :: r) = x.c ++ FFrame.flat r := List.flatMap_cons
    have h1 := cntb1_Frame x
    have h2 := cntb_FrameS r
    rw [e, cntL_append, FFrame.wts, List.length_cons]
    omega
theorem markFrameS_of (l : List FFrame) (he : ∀ x, x ∈ l → MkFrame x) : MarkFrameS l := by
  intro u k0 F w h1 h2 hF hO
  obtain ⟨A, c, rfl⟩ := hO.form
  have hcap := hO.read.cap
  have hn : l.length ≤ 9223372036854775807 := by unfold maxLen at hcap; omega
  have HO := hid hO
  clear hcap
  by_cases hl0 : l.length = 0
  · obtain rfl : l = [] := List.eq_nil_of_length_eq_zero hl0
    clear hO hl0 he
    go_enter Tryz.func47, Tryz.ntmps47
    go_wp2_with fail
    go_loop [1, 5] (fun kv i => kv = .int .i64 k0 ∧ i = .int .i64 0) (fun _ i => 0)
    case atStart => exact ⟨rfl, rfl⟩
    case round =>
      obtain ⟨rfl, rfl⟩ := hrel
      go_wp2_with fail
      go_ret
      exact ⟨ret_int (by simp [cntL]), by simpa [mkL] using HO.out, OnlyF.refl _ _⟩
  obtain ⟨g, hA, hg⟩ := hO.head (by omega)
  subst hA
  have HE := hid he
  clear he
  have HG := hid hg
  clear hO hg hl0
  go_enter Tryz.func47, Tryz.ntmps47
  go_wp2_with fail
  go_loopw [1, 5] (fun kv i wr => ∃ (k : Nat) (kk : Int), k ≤ l.length ∧ i = .int .i64 k ∧ kv = .int .i64 kk ∧ kk = k0 + (cntL (FFrame.flat (l.take k)) : Int) ∧ OwnC wr (.s 91 13 l.length (mkL (FFrame.flat (l.take k)) k0 ++ FFrame.flat (l.drop k))) F (.slice (some ⟨g, 0, none⟩) l.length c) ∧ OnlyF F w wr) (fun _ i _ => l.length - (intOf i).toNat)
  case atStart => exact ⟨0, k0, Nat.zero_le _, rfl, rfl, by simp [cntL], by simpa [mkL] using HO.out, OnlyF.refl _ _⟩
  case round =>
    obtain ⟨k, kk, hk, rfl, rfl, hkk, hO, hG⟩ := hrel
    have HKK := hid hkk
    have HO1 := hid hO
    have HGG := hid hG
    clear hO hG
    by_cases hlt : k < l.length
    · obtain ⟨x, hx⟩ : ∃ x, l[k]? = some x := ⟨_, List.getElem?_eq_getElem hlt⟩
      have HX := hid hx
      have hca := FFrame.cnt_at l k x hx
      have hD0 : (mkL (FFrame.flat (l.take k)) k0).length = k * 13 := by rw [mkL_len, FFrame.flat_len, List.length_take]; congr 1; omega
      have hO2 := HO1.out
      rw [FFrame.flat_at l k x hx] at hO2
      have hmx := HE.out x (List.mem_of_getElem? hx)
      obtain ⟨z0, z1, z2, z3, z4, z5, z6, z7, z8, z9, z10, z11, z12⟩ := x
      rw [show FFrame.flat (⟨z0, z1, z2, z3, z4, z5, z6, z7, z8, z9, z10, z11, z12⟩ :: l.drop (k + 1)) = (FFrame.c ⟨z0, z1, z2, z3, z4, z5, z6, z7, z8, z9, z10, z11, z12⟩) ++ FFrame.flat (l.drop (k + 1)) from List.flatMap_cons, FFrame.c_eq] at hO2
      rw [FFrame.cnt_eq] at hca
      have M2 : MarkIntS z2 := hmx.1
      have HM2 := hid M2
      have M3 : MarkValueS z3 := hmx.2.1
      have HM3 := hid M3
      have M4 : MarkCallS z4 := hmx.2.2.1
      have HM4 := hid M4
      have M5 : MarkTryS z5 := hmx.2.2.2.1
      have HM5 := hid M5
      have M6 : MarkEndS z6 := hmx.2.2.2.2
      have HM6 := hid M6
      clear hmx M2 M3 M4 M5 M6
      obtain ⟨D, hDD⟩ : ∃ D, D = mkL (FFrame.flat (l.take k)) k0 := ⟨_, rfl⟩
      rw [← hDD] at hD0 hO2
      obtain ⟨R, hRR⟩ : ∃ R, R = FFrame.flat (l.drop (k + 1)) := ⟨_, rfl⟩
      rw [← hRR] at hO2
      have HD := hid hD0
      have HDD := hid hDD
      have HRR := hid hRR
      have hkp : 1 ≤ kk := by omega
      generalize hCC : cntL (FFrame.flat (l.take k)) = CC at *
      obtain ⟨N2, hN2⟩ : ∃ N : Nat, N = cntL (FInt.flat z2) := ⟨_, rfl⟩
      rw [← hN2] at hca
      obtain ⟨N3, hN3⟩ : ∃ N : Nat, N = cntL (FValue.flat z3) := ⟨_, rfl⟩
      rw [← hN3] at hca
      obtain ⟨N4, hN4⟩ : ∃ N : Nat, N = cntL (FCall.flat z4) := ⟨_, rfl⟩
      rw [← hN4] at hca
      obtain ⟨N5, hN5⟩ : ∃ N : Nat, N = cntL (FTry.flat z5) := ⟨_, rfl⟩
      rw [← hN5] at hca
      obtain ⟨N6, hN6⟩ : ∃ N : Nat, N = cntL (FEnd.flat z6) := ⟨_, rfl⟩
      rw [← hN6] at hca
      have hkb : kk + ((8 + N2 + N3 + N4 + N5 + N6 : Nat) : Int) ≤ 1000000000000000 := by omega
      have HN2 := hid hN2
      have HN3 := hid hN3
      have HN4 := hid hN4
      have HN5 := hid hN5
      have HN6 := hid hN6
      have HCC := hid hCC
      clear hx hD0 hDD hRR hkk hca hCC hN2 hN3 hN4 hN5 hN6
      obtain ⟨f0, hrow0, hnc0, hln0⟩ := hO2.row
      have hkc : k * 13 + 13 ≤ c * 13 := by have := Nat.mul_le_mul_right 13 (show k + 1 ≤ c by omega); rw [Nat.succ_mul] at this; exact this
      have q0 := hrow0.cell (i := k * 13) (by omega)
      have y0 := hrow0.frozen (k * 13)
      have q1 := hrow0.cell (i := k * 13 + 1) (by omega)
      have y1 := hrow0.frozen (k * 13 + 1)
      have q2 := hrow0.cell (i := k * 13 + 2) (by omega)
      have y2 := hrow0.frozen (k * 13 + 2)
      have q3 := hrow0.cell (i := k * 13 + 3) (by omega)
      have y3 := hrow0.frozen (k * 13 + 3)
      have q4 := hrow0.cell (i := k * 13 + 4) (by omega)
      have y4 := hrow0.frozen (k * 13 + 4)
      have q5 := hrow0.cell (i := k * 13 + 5) (by omega)
      have y5 := hrow0.frozen (k * 13 + 5)
      have q6 := hrow0.cell (i := k * 13 + 6) (by omega)
      have y6 := hrow0.frozen (k * 13 + 6)
      have q7 := hrow0.cell (i := k * 13 + 7) (by omega)
      have y7 := hrow0.frozen (k * 13 + 7)
      have q8 := hrow0.cell (i := k * 13 + 8) (by omega)
      have y8 := hrow0.frozen (k * 13 + 8)
      have q9 := hrow0.cell (i := k * 13 + 9) (by omega)
      have y9 := hrow0.frozen (k * 13 + 9)
      have q10 := hrow0.cell (i := k * 13 + 10) (by omega)
      have y10 := hrow0.frozen (k * 13 + 10)
      have q11 := hrow0.cell (i := k * 13 + 11) (by omega)
      have y11 := hrow0.frozen (k * 13 + 11)
      have q12 := hrow0.cell (i := k * 13 + 12) (by omega)
      have y12 := hrow0.frozen (k * 13 + 12)
      clear hrow0
      obtain ⟨g2_, a2, X2, hA2, hgF2, hc2, _, hx2, hsub2, hnd2, hgx2, hback2⟩ := OwnC.at_ (D := D ++ [.v (.int .i64 z0), .v (.int .i64 z1)]) (x := .s 3 1 z2.length (FInt.flat z2)) (R := .s 82 5 z3.length (FValue.flat z3) :: .s 156 9 z4.length (FCall.flat z4) :: .s 224 6 z5.length (FTry.flat z5) :: .s 160 9 z6.length (FEnd.flat z6) :: .v (.int .i64 z7) :: .v (.string z8) :: .v (.string z9) :: .v (.int .i64 z10) :: .v (.int .i64 z11) :: .v (.int .i64 z12) :: R) (by simp only [List.append_assoc, List.cons_append, List.nil_append] at hO2 ⊢; exact hO2) hF
      obtain ⟨A2, c2, rfl⟩ := hx2.form
      simp only [Option.some.injEq, Addr.mk.injEq, and_true] at hA2
      subst hA2
      rw [show (D ++ [.v (.int .i64 z0), .v (.int .i64 z1)] : List Cel).length = k * 13 + 2 from by simp [HD.out]] at hc2
      clear q2
      go_wp2_with fail
      have hcn := hid (show World.cell? ((wr.setCell ⟨g, k * 13, none⟩ (.int .i64 (kk))).setCell ⟨g, k * 13 + 1, none⟩ (.int .i64 (kk + 1))) ⟨g, k * 13 + 2, none⟩ = some _ from (cell_set_other (by omega) (cell_set_other (by omega) hc2)))
      clear hkc y0 y1 y2 y3 y4 y5 y6 y7 y8 y9 y10 y11 y12 q0 q1 q3 q4 q5 q6 q7 q8 q9 q10 q11 q12 hc2 hx2 hsub2 hnd2 hgx2 hback2 hgF2
      have O0_0 := OwnC.setv (D := D) (y := .int .i64 z0) (R := .v (.int .i64 z1) :: .s 3 1 z2.length (FInt.flat z2) :: .s 82 5 z3.length (FValue.flat z3) :: .s 156 9 z4.length (FCall.flat z4) :: .s 224 6 z5.length (FTry.flat z5) :: .s 160 9 z6.length (FEnd.flat z6) :: .v (.int .i64 z7) :: .v (.string z8) :: .v (.string z9) :: .v (.int .i64 z10) :: .v (.int .i64 z11) :: .v (.int .i64 z12) :: R) (by simp only [List.append_assoc, List.cons_append, List.nil_append] at hO2 ⊢; exact hO2) hF (.int .i64 (kk)) (k * 13) (by simp [HD.out])
      clear hO2
      have O0_1 := OwnC.setv (D := D ++ [.v (.int .i64 (kk))]) (y := .int .i64 z1) (R := .s 3 1 z2.length (FInt.flat z2) :: .s 82 5 z3.length (FValue.flat z3) :: .s 156 9 z4.length (FCall.flat z4) :: .s 224 6 z5.length (FTry.flat z5) :: .s 160 9 z6.length (FEnd.flat z6) :: .v (.int .i64 z7) :: .v (.string z8) :: .v (.string z9) :: .v (.int .i64 z10) :: .v (.int .i64 z11) :: .v (.int .i64 z12) :: R) (by simp only [List.append_assoc, List.cons_append, List.nil_append] at O0_0 ⊢; exact O0_0) hF (.int .i64 (kk + 1)) (k * 13 + 1) (by simp [HD.out])
      clear O0_0
      obtain ⟨g_, b2, X, hA_, hgF, hc_, _, hx_, hsub, hnd, hgx, hback⟩ := OwnC.at_ (D := D ++ [.v (.int .i64 (kk)), .v (.int .i64 (kk + 1))]) (x := .s 3 1 z2.length (FInt.flat z2)) (R := .s 82 5 z3.length (FValue.flat z3) :: .s 156 9 z4.length (FCall.flat z4) :: .s 224 6 z5.length (FTry.flat z5) :: .s 160 9 z6.length (FEnd.flat z6) :: .v (.int .i64 z7) :: .v (.string z8) :: .v (.string z9) :: .v (.int .i64 z10) :: .v (.int .i64 z11) :: .v (.int .i64 z12) :: R) (by simp only [List.append_assoc, List.cons_append, List.nil_append] at O0_1 ⊢; exact O0_1) hF
      simp only [Option.some.injEq, Addr.mk.injEq, and_true] at hA_
      subst hA_
      rw [show (D ++ [.v (.int .i64 (kk)), .v (.int .i64 (kk + 1))] : List Cel).length = k * 13 + 2 from by simp [HD.out]] at hc_
      obtain rfl : .slice A2 z2.length c2 = b2 := Option.some.inj (hcn.out.symm.trans hc_)
      obtain ⟨k2_, hnk⟩ : ∃ k : Int, k = kk + 1 + 1 + (N2 : Int) := ⟨_, rfl⟩
      have hcall := HM2.out _ (kk + 1 + 1) X _ (by omega) (by rw [← HN2.out]; omega) hnd hx_
      rw [← HN2.out, ← hnk] at hcall
      have HNK2 := hid hnk
      have hkp2 : 1 ≤ k2_ := by omega
      have hkb2 : k2_ + ((6 + N3 + N4 + N5 + N6 : Nat) : Int) ≤ 1000000000000000 := by omega
      clear hnk hc_ hcn
      refine hcall.mono ?_
      clear hcall
      rintro e w2 ⟨rfl, own, hon⟩
      have P1 := hback w2 _ own (fun b hb hnb => hon.block b (OwnC.lt _ _ _ O0_1 b hb) hnb)
      have G1 := hid (OnlyF.call (OnlyF.set (OnlyF.set HGG.out (p := ⟨g, k * 13, none⟩) HG.out (.int .i64 (kk))) (p := ⟨g, k * 13 + 1, none⟩) HG.out (.int .i64 (kk + 1))) hon hsub)
      clear own hon hback hgx hnd hsub hx_ hgF O0_1
      obtain ⟨f1, hrow1, hnc1, hln1⟩ := P1.row
      have hkc : k * 13 + 13 ≤ c * 13 := by have := Nat.mul_le_mul_right 13 (show k + 1 ≤ c by omega); rw [Nat.succ_mul] at this; exact this
      have q0 := hrow1.cell (i := k * 13) (by omega)
      have y0 := hrow1.frozen (k * 13)
      have q1 := hrow1.cell (i := k * 13 + 1) (by omega)
      have y1 := hrow1.frozen (k * 13 + 1)
      have q2 := hrow1.cell (i := k * 13 + 2) (by omega)
      have y2 := hrow1.frozen (k * 13 + 2)
      have q3 := hrow1.cell (i := k * 13 + 3) (by omega)
      have y3 := hrow1.frozen (k * 13 + 3)
      have q4 := hrow1.cell (i := k * 13 + 4) (by omega)
      have y4 := hrow1.frozen (k * 13 + 4)
      have q5 := hrow1.cell (i := k * 13 + 5) (by omega)
      have y5 := hrow1.frozen (k * 13 + 5)
      have q6 := hrow1.cell (i := k * 13 + 6) (by omega)
      have y6 := hrow1.frozen (k * 13 + 6)
      have q7 := hrow1.cell (i := k * 13 + 7) (by omega)
      have y7 := hrow1.frozen (k * 13 + 7)
      have q8 := hrow1.cell (i := k * 13 + 8) (by omega)
      have y8 := hrow1.frozen (k * 13 + 8)
      have q9 := hrow1.cell (i := k * 13 + 9) (by omega)
      have y9 := hrow1.frozen (k * 13 + 9)
      have q10 := hrow1.cell (i := k * 13 + 10) (by omega)
      have y10 := hrow1.frozen (k * 13 + 10)
      have q11 := hrow1.cell (i := k * 13 + 11) (by omega)
      have y11 := hrow1.frozen (k * 13 + 11)
      have q12 := hrow1.cell (i := k * 13 + 12) (by omega)
      have y12 := hrow1.frozen (k * 13 + 12)
      clear hrow1
      obtain ⟨g3_, a3, X3, hA3, hgF3, hc3, _, hx3, hsub3, hnd3, hgx3, hback3⟩ := OwnC.at_ (D := D ++ [.v (.int .i64 (kk)), .v (.int .i64 (kk + 1)), .s 3 1 z2.length (mkL (FInt.flat z2) (kk + 1 + 1))]) (x := .s 82 5 z3.length (FValue.flat z3)) (R := .s 156 9 z4.length (FCall.flat z4) :: .s 224 6 z5.length (FTry.flat z5) :: .s 160 9 z6.length (FEnd.flat z6) :: .v (.int .i64 z7) :: .v (.string z8) :: .v (.string z9) :: .v (.int .i64 z10) :: .v (.int .i64 z11) :: .v (.int .i64 z12) :: R) (by simp only [List.append_assoc, List.cons_append, List.nil_append] at P1 ⊢; exact P1) hF
      obtain ⟨A3, c3, rfl⟩ := hx3.form
      simp only [Option.some.injEq, Addr.mk.injEq, and_true] at hA3
      subst hA3
      rw [show (D ++ [.v (.int .i64 (kk)), .v (.int .i64 (kk + 1)), .s 3 1 z2.length (mkL (FInt.flat z2) (kk + 1 + 1))] : List Cel).length = k * 13 + 3 from by simp [HD.out]] at hc3
      clear q3
      go_wp2_with fail
      have hcn := hid (show World.cell? w2 ⟨g, k * 13 + 3, none⟩ = some _ from hc3)
      clear hkc y0 y1 y2 y3 y4 y5 y6 y7 y8 y9 y10 y11 y12 q0 q1 q2 q4 q5 q6 q7 q8 q9 q10 q11 q12 hc3 hx3 hsub3 hnd3 hgx3 hback3 hgF3
      obtain ⟨g_, b3, X, hA_, hgF, hc_, _, hx_, hsub, hnd, hgx, hback⟩ := OwnC.at_ (D := D ++ [.v (.int .i64 (kk)), .v (.int .i64 (kk + 1)), .s 3 1 z2.length (mkL (FInt.flat z2) (kk + 1 + 1))]) (x := .s 82 5 z3.length (FValue.flat z3)) (R := .s 156 9 z4.length (FCall.flat z4) :: .s 224 6 z5.length (FTry.flat z5) :: .s 160 9 z6.length (FEnd.flat z6) :: .v (.int .i64 z7) :: .v (.string z8) :: .v (.string z9) :: .v (.int .i64 z10) :: .v (.int .i64 z11) :: .v (.int .i64 z12) :: R) (by simp only [List.append_assoc, List.cons_append, List.nil_append] at P1 ⊢; exact P1) hF
      simp only [Option.some.injEq, Addr.mk.injEq, and_true] at hA_
      subst hA_
      rw [show (D ++ [.v (.int .i64 (kk)), .v (.int .i64 (kk + 1)), .s 3 1 z2.length (mkL (FInt.flat z2) (kk + 1 + 1))] : List Cel).length = k * 13 + 3 from by simp [HD.out]] at hc_
      obtain rfl : .slice A3 z3.length c3 = b3 := Option.some.inj (hcn.out.symm.trans hc_)
      obtain ⟨k3_, hnk⟩ : ∃ k : Int, k = k2_ + (N3 : Int) := ⟨_, rfl⟩
      have hcall := HM3.out _ (k2_) X _ (by omega) (by rw [← HN3.out]; omega) hnd hx_
      rw [← HN3.out, ← hnk] at hcall
      have HNK3 := hid hnk
      have hkp3 : 1 ≤ k3_ := by omega
      have hkb3 : k3_ + ((6 + N4 + N5 + N6 : Nat) : Int) ≤ 1000000000000000 := by omega
      clear hnk hc_ hcn
      refine hcall.mono ?_
      clear hcall
      rintro e w3 ⟨rfl, own, hon⟩
      have P2 := hback w3 _ own (fun b hb hnb => hon.block b (OwnC.lt _ _ _ P1 b hb) hnb)
      have G2 := hid (OnlyF.call G1.out hon hsub)
      clear own hon hback hgx hnd hsub hx_ hgF P1
      obtain ⟨f2, hrow2, hnc2, hln2⟩ := P2.row
      have hkc : k * 13 + 13 ≤ c * 13 := by have := Nat.mul_le_mul_right 13 (show k + 1 ≤ c by omega); rw [Nat.succ_mul] at this; exact this
      have q0 := hrow2.cell (i := k * 13) (by omega)
      have y0 := hrow2.frozen (k * 13)
      have q1 := hrow2.cell (i := k * 13 + 1) (by omega)
      have y1 := hrow2.frozen (k * 13 + 1)
      have q2 := hrow2.cell (i := k * 13 + 2) (by omega)
      have y2 := hrow2.frozen (k * 13 + 2)
      have q3 := hrow2.cell (i := k * 13 + 3) (by omega)
      have y3 := hrow2.frozen (k * 13 + 3)
      have q4 := hrow2.cell (i := k * 13 + 4) (by omega)
      have y4 := hrow2.frozen (k * 13 + 4)
      have q5 := hrow2.cell (i := k * 13 + 5) (by omega)
      have y5 := hrow2.frozen (k * 13 + 5)
      have q6 := hrow2.cell (i := k * 13 + 6) (by omega)
      have y6 := hrow2.frozen (k * 13 + 6)
      have q7 := hrow2.cell (i := k * 13 + 7) (by omega)
      have y7 := hrow2.frozen (k * 13 + 7)
      have q8 := hrow2.cell (i := k * 13 + 8) (by omega)
      have y8 := hrow2.frozen (k * 13 + 8)
      have q9 := hrow2.cell (i := k * 13 + 9) (by omega)
      have y9 := hrow2.frozen (k * 13 + 9)
      have q10 := hrow2.cell (i := k * 13 + 10) (by omega)
      have y10 := hrow2.frozen (k * 13 + 10)
      have q11 := hrow2.cell (i := k * 13 + 11) (by omega)
      have y11 := hrow2.frozen (k * 13 + 11)
      have q12 := hrow2.cell (i := k * 13 + 12) (by omega)
      have y12 := hrow2.frozen (k * 13 + 12)
      clear hrow2
      obtain ⟨g4_, a4, X4, hA4, hgF4, hc4, _, hx4, hsub4, hnd4, hgx4, hback4⟩ := OwnC.at_ (D := D ++ [.v (.int .i64 (kk)), .v (.int .i64 (kk + 1)), .s 3 1 z2.length (mkL (FInt.flat z2) (kk + 1 + 1)), .s 82 5 z3.length (mkL (FValue.flat z3) (k2_))]) (x := .s 156 9 z4.length (FCall.flat z4)) (R := .s 224 6 z5.length (FTry.flat z5) :: .s 160 9 z6.length (FEnd.flat z6) :: .v (.int .i64 z7) :: .v (.string z8) :: .v (.string z9) :: .v (.int .i64 z10) :: .v (.int .i64 z11) :: .v (.int .i64 z12) :: R) (by simp only [List.append_assoc, List.cons_append, List.nil_append] at P2 ⊢; exact P2) hF
      obtain ⟨A4, c4, rfl⟩ := hx4.form
      simp only [Option.some.injEq, Addr.mk.injEq, and_true] at hA4
      subst hA4
      rw [show (D ++ [.v (.int .i64 (kk)), .v (.int .i64 (kk + 1)), .s 3 1 z2.length (mkL (FInt.flat z2) (kk + 1 + 1)), .s 82 5 z3.length (mkL (FValue.flat z3) (k2_))] : List Cel).length = k * 13 + 4 from by simp [HD.out]] at hc4
      clear q4
      go_wp2_with fail
      have hcn := hid (show World.cell? w3 ⟨g, k * 13 + 4, none⟩ = some _ from hc4)
      clear hkc y0 y1 y2 y3 y4 y5 y6 y7 y8 y9 y10 y11 y12 q0 q1 q2 q3 q5 q6 q7 q8 q9 q10 q11 q12 hc4 hx4 hsub4 hnd4 hgx4 hback4 hgF4
      obtain ⟨g_, b4, X, hA_, hgF, hc_, _, hx_, hsub, hnd, hgx, hback⟩ := OwnC.at_ (D := D ++ [.v (.int .i64 (kk)), .v (.int .i64 (kk + 1)), .s 3 1 z2.length (mkL (FInt.flat z2) (kk + 1 + 1)), .s 82 5 z3.length (mkL (FValue.flat z3) (k2_))]) (x := .s 156 9 z4.length (FCall.flat z4)) (R := .s 224 6 z5.length (FTry.flat z5) :: .s 160 9 z6.length (FEnd.flat z6) :: .v (.int .i64 z7) :: .v (.string z8) :: .v (.string z9) :: .v (.int .i64 z10) :: .v (.int .i64 z11) :: .v (.int .i64 z12) :: R) (by simp only [List.append_assoc, List.cons_append, List.nil_append] at P2 ⊢; exact P2) hF
      simp only [Option.some.injEq, Addr.mk.injEq, and_true] at hA_
      subst hA_
      rw [show (D ++ [.v (.int .i64 (kk)), .v (.int .i64 (kk + 1)), .s 3 1 z2.length (mkL (FInt.flat z2) (kk + 1 + 1)), .s 82 5 z3.length (mkL (FValue.flat z3) (k2_))] : List Cel).length = k * 13 + 4 from by simp [HD.out]] at hc_
      obtain rfl : .slice A4 z4.length c4 = b4 := Option.some.inj (hcn.out.symm.trans hc_)
      obtain ⟨k4_, hnk⟩ : ∃ k : Int, k = k3_ + (N4 : Int) := ⟨_, rfl⟩
      have hcall := HM4.out _ (k3_) X _ (by omega) (by rw [← HN4.out]; omega) hnd hx_
      rw [← HN4.out, ← hnk] at hcall
      have HNK4 := hid hnk
      have hkp4 : 1 ≤ k4_ := by omega
      have hkb4 : k4_ + ((6 + N5 + N6 : Nat) : Int) ≤ 1000000000000000 := by omega
      clear hnk hc_ hcn
      refine hcall.mono ?_
      clear hcall
      rintro e w4 ⟨rfl, own, hon⟩
      have P3 := hback w4 _ own (fun b hb hnb => hon.block b (OwnC.lt _ _ _ P2 b hb) hnb)
      have G3 := hid (OnlyF.call G2.out hon hsub)
      clear own hon hback hgx hnd hsub hx_ hgF P2
      obtain ⟨f3, hrow3, hnc3, hln3⟩ := P3.row
      have hkc : k * 13 + 13 ≤ c * 13 := by have := Nat.mul_le_mul_right 13 (show k + 1 ≤ c by omega); rw [Nat.succ_mul] at this; exact this
      have q0 := hrow3.cell (i := k * 13) (by omega)
      have y0 := hrow3.frozen (k * 13)
      have q1 := hrow3.cell (i := k * 13 + 1) (by omega)
      have y1 := hrow3.frozen (k * 13 + 1)
      have q2 := hrow3.cell (i := k * 13 + 2) (by omega)
      have y2 := hrow3.frozen (k * 13 + 2)
      have q3 := hrow3.cell (i := k * 13 + 3) (by omega)
      have y3 := hrow3.frozen (k * 13 + 3)
      have q4 := hrow3.cell (i := k * 13 + 4) (by omega)
      have y4 := hrow3.frozen (k * 13 + 4)
      have q5 := hrow3.cell (i := k * 13 + 5) (by omega)
      have y5 := hrow3.frozen (k * 13 + 5)
      have q6 := hrow3.cell (i := k * 13 + 6) (by omega)
      have y6 := hrow3.frozen (k * 13 + 6)
      have q7 := hrow3.cell (i := k * 13 + 7) (by omega)
      have y7 := hrow3.frozen (k * 13 + 7)
      have q8 := hrow3.cell (i := k * 13 + 8) (by omega)
      have y8 := hrow3.frozen (k * 13 + 8)
      have q9 := hrow3.cell (i := k * 13 + 9) (by omega)
      have y9 := hrow3.frozen (k * 13 + 9)
      have q10 := hrow3.cell (i := k * 13 + 10) (by omega)
      have y10 := hrow3.frozen (k * 13 + 10)
      have q11 := hrow3.cell (i := k * 13 + 11) (by omega)
      have y11 := hrow3.frozen (k * 13 + 11)
      have q12 := hrow3.cell (i := k * 13 + 12) (by omega)
      have y12 := hrow3.frozen (k * 13 + 12)
      clear hrow3
      obtain ⟨g5_, a5, X5, hA5, hgF5, hc5, _, hx5, hsub5, hnd5, hgx5, hback5⟩ := OwnC.at_ (D := D ++ [.v (.int .i64 (kk)), .v (.int .i64 (kk + 1)), .s 3 1 z2.length (mkL (FInt.flat z2) (kk + 1 + 1)), .s 82 5 z3.length (mkL (FValue.flat z3) (k2_)), .s 156 9 z4.length (mkL (FCall.flat z4) (k3_))]) (x := .s 224 6 z5.length (FTry.flat z5)) (R := .s 160 9 z6.length (FEnd.flat z6) :: .v (.int .i64 z7) :: .v (.string z8) :: .v (.string z9) :: .v (.int .i64 z10) :: .v (.int .i64 z11) :: .v (.int .i64 z12) :: R) (by simp only [List.append_assoc, List.cons_append, List.nil_append] at P3 ⊢; exact P3) hF
      obtain ⟨A5, c5, rfl⟩ := hx5.form
      simp only [Option.some.injEq, Addr.mk.injEq, and_true] at hA5
      subst hA5
      rw [show (D ++ [.v (.int .i64 (kk)), .v (.int .i64 (kk + 1)), .s 3 1 z2.length (mkL (FInt.flat z2) (kk + 1 + 1)), .s 82 5 z3.length (mkL (FValue.flat z3) (k2_)), .s 156 9 z4.length (mkL (FCall.flat z4) (k3_))] : List Cel).length = k * 13 + 5 from by simp [HD.out]] at hc5
      clear q5
      go_wp2_with fail
      have hcn := hid (show World.cell? w4 ⟨g, k * 13 + 5, none⟩ = some _ from hc5)
      clear hkc y0 y1 y2 y3 y4 y5 y6 y7 y8 y9 y10 y11 y12 q0 q1 q2 q3 q4 q6 q7 q8 q9 q10 q11 q12 hc5 hx5 hsub5 hnd5 hgx5 hback5 hgF5
      obtain ⟨g_, b5, X, hA_, hgF, hc_, _, hx_, hsub, hnd, hgx, hback⟩ := OwnC.at_ (D := D ++ [.v (.int .i64 (kk)), .v (.int .i64 (kk + 1)), .s 3 1 z2.length (mkL (FInt.flat z2) (kk + 1 + 1)), .s 82 5 z3.length (mkL (FValue.flat z3) (k2_)), .s 156 9 z4.length (mkL (FCall.flat z4) (k3_))]) (x := .s 224 6 z5.length (FTry.flat z5)) (R := .s 160 9 z6.length (FEnd.flat z6) :: .v (.int .i64 z7) :: .v (.string z8) :: .v (.string z9) :: .v (.int .i64 z10) :: .v (.int .i64 z11) :: .v (.int .i64 z12) :: R) (by simp only [List.append_assoc, List.cons_append, List.nil_append] at P3 ⊢; exact P3) hF
      simp only [Option.some.injEq, Addr.mk.injEq, and_true] at hA_
      subst hA_
      rw [show (D ++ [.v (.int .i64 (kk)), .v (.int .i64 (kk + 1)), .s 3 1 z2.length (mkL (FInt.flat z2) (kk + 1 + 1)), .s 82 5 z3.length (mkL (FValue.flat z3) (k2_)), .s 156 9 z4.length (mkL (FCall.flat z4) (k3_))] : List Cel).length = k * 13 + 5 from by simp [HD.out]] at hc_
      obtain rfl : .slice A5 z5.length c5 = b5 := Option.some.inj (hcn.out.symm.trans hc_)
      obtain ⟨k5_, hnk⟩ : ∃ k : Int, k = k4_ + (N5 : Int) := ⟨_, rfl⟩
      have hcall := HM5.out _ (k4_) X _ (by omega) (by rw [← HN5.out]; omega) hnd hx_
      rw [← HN5.out, ← hnk] at hcall
      have HNK5 := hid hnk
      have hkp5 : 1 ≤ k5_ := by omega
      have hkb5 : k5_ + ((6 + N6 : Nat) : Int) ≤ 1000000000000000 := by omega
      clear hnk hc_ hcn
      refine hcall.mono ?_
      clear hcall
      rintro e w5 ⟨rfl, own, hon⟩
      have P4 := hback w5 _ own (fun b hb hnb => hon.block b (OwnC.lt _ _ _ P3 b hb) hnb)
      have G4 := hid (OnlyF.call G3.out hon hsub)
      clear own hon hback hgx hnd hsub hx_ hgF P3
      obtain ⟨f4, hrow4, hnc4, hln4⟩ := P4.row
      have hkc : k * 13 + 13 ≤ c * 13 := by have := Nat.mul_le_mul_right 13 (show k + 1 ≤ c by omega); rw [Nat.succ_mul] at this; exact this
      have q0 := hrow4.cell (i := k * 13) (by omega)
      have y0 := hrow4.frozen (k * 13)
      have q1 := hrow4.cell (i := k * 13 + 1) (by omega)
      have y1 := hrow4.frozen (k * 13 + 1)
      have q2 := hrow4.cell (i := k * 13 + 2) (by omega)
      have y2 := hrow4.frozen (k * 13 + 2)
      have q3 := hrow4.cell (i := k * 13 + 3) (by omega)
      have y3 := hrow4.frozen (k * 13 + 3)
      have q4 := hrow4.cell (i := k * 13 + 4) (by omega)
      have y4 := hrow4.frozen (k * 13 + 4)
      have q5 := hrow4.cell (i := k * 13 + 5) (by omega)
      have y5 := hrow4.frozen (k * 13 + 5)
      have q6 := hrow4.cell (i := k * 13 + 6) (by omega)
      have y6 := hrow4.frozen (k * 13 + 6)
      have q7 := hrow4.cell (i := k * 13 + 7) (by omega)
      have y7 := hrow4.frozen (k * 13 + 7)
      have q8 := hrow4.cell (i := k * 13 + 8) (by omega)
      have y8 := hrow4.frozen (k * 13 + 8)
      have q9 := hrow4.cell (i := k * 13 + 9) (by omega)
      have y9 := hrow4.frozen (k * 13 + 9)
      have q10 := hrow4.cell (i := k * 13 + 10) (by omega)
      have y10 := hrow4.frozen (k * 13 + 10)
      have q11 := hrow4.cell (i := k * 13 + 11) (by omega)
      have y11 := hrow4.frozen (k * 13 + 11)
      have q12 := hrow4.cell (i := k * 13 + 12) (by omega)
      have y12 := hrow4.frozen (k * 13 + 12)
      clear hrow4
      obtain ⟨g6_, a6, X6, hA6, hgF6, hc6, _, hx6, hsub6, hnd6, hgx6, hback6⟩ := OwnC.at_ (D := D ++ [.v (.int .i64 (kk)), .v (.int .i64 (kk + 1)), .s 3 1 z2.length (mkL (FInt.flat z2) (kk + 1 + 1)), .s 82 5 z3.length (mkL (FValue.flat z3) (k2_)), .s 156 9 z4.length (mkL (FCall.flat z4) (k3_)), .s 224 6 z5.length (mkL (FTry.flat z5) (k4_))]) (x := .s 160 9 z6.length (FEnd.flat z6)) (R := .v (.int .i64 z7) :: .v (.string z8) :: .v (.string z9) :: .v (.int .i64 z10) :: .v (.int .i64 z11) :: .v (.int .i64 z12) :: R) (by simp only [List.append_assoc, List.cons_append, List.nil_append] at P4 ⊢; exact P4) hF
      obtain ⟨A6, c6, rfl⟩ := hx6.form
      simp only [Option.some.injEq, Addr.mk.injEq, and_true] at hA6
      subst hA6
      rw [show (D ++ [.v (.int .i64 (kk)), .v (.int .i64 (kk + 1)), .s 3 1 z2.length (mkL (FInt.flat z2) (kk + 1 + 1)), .s 82 5 z3.length (mkL (FValue.flat z3) (k2_)), .s 156 9 z4.length (mkL (FCall.flat z4) (k3_)), .s 224 6 z5.length (mkL (FTry.flat z5) (k4_))] : List Cel).length = k * 13 + 6 from by simp [HD.out]] at hc6
      clear q6
      go_wp2_with fail
      have hcn := hid (show World.cell? w5 ⟨g, k * 13 + 6, none⟩ = some _ from hc6)
      clear hkc y0 y1 y2 y3 y4 y5 y6 y7 y8 y9 y10 y11 y12 q0 q1 q2 q3 q4 q5 q7 q8 q9 q10 q11 q12 hc6 hx6 hsub6 hnd6 hgx6 hback6 hgF6
      obtain ⟨g_, b6, X, hA_, hgF, hc_, _, hx_, hsub, hnd, hgx, hback⟩ := OwnC.at_ (D := D ++ [.v (.int .i64 (kk)), .v (.int .i64 (kk + 1)), .s 3 1 z2.length (mkL (FInt.flat z2) (kk + 1 + 1)), .s 82 5 z3.length (mkL (FValue.flat z3) (k2_)), .s 156 9 z4.length (mkL (FCall.flat z4) (k3_)), .s 224 6 z5.length (mkL (FTry.flat z5) (k4_))]) (x := .s 160 9 z6.length (FEnd.flat z6)) (R := .v (.int .i64 z7) :: .v (.string z8) :: .v (.string z9) :: .v (.int .i64 z10) :: .v (.int .i64 z11) :: .v (.int .i64 z12) :: R) (by simp only [List.append_assoc, List.cons_append, List.nil_append] at P4 ⊢; exact P4) hF
      simp only [Option.some.injEq, Addr.mk.injEq, and_true] at hA_
      subst hA_
      rw [show (D ++ [.v (.int .i64 (kk)), .v (.int .i64 (kk + 1)), .s 3 1 z2.length (mkL (FInt.flat z2) (kk + 1 + 1)), .s 82 5 z3.length (mkL (FValue.flat z3) (k2_)), .s 156 9 z4.length (mkL (FCall.flat z4) (k3_)), .s 224 6 z5.length (mkL (FTry.flat z5) (k4_))] : List Cel).length = k * 13 + 6 from by simp [HD.out]] at hc_
      obtain rfl : .slice A6 z6.length c6 = b6 := Option.some.inj (hcn.out.symm.trans hc_)
      obtain ⟨k6_, hnk⟩ : ∃ k : Int, k = k5_ + (N6 : Int) := ⟨_, rfl⟩
      have hcall := HM6.out _ (k5_) X _ (by omega) (by rw [← HN6.out]; omega) hnd hx_
      rw [← HN6.out, ← hnk] at hcall
      have HNK6 := hid hnk
      have hkp6 : 1 ≤ k6_ := by omega
      have hkb6 : k6_ + ((6 : Nat) : Int) ≤ 1000000000000000 := by omega
      clear hnk hc_ hcn
      refine hcall.mono ?_
      clear hcall
      rintro e w6 ⟨rfl, own, hon⟩
      have P5 := hback w6 _ own (fun b hb hnb => hon.block b (OwnC.lt _ _ _ P4 b hb) hnb)
      have G5 := hid (OnlyF.call G4.out hon hsub)
      clear own hon hback hgx hnd hsub hx_ hgF P4
      obtain ⟨f5, hrow5, hnc5, hln5⟩ := P5.row
      have hkc : k * 13 + 13 ≤ c * 13 := by have := Nat.mul_le_mul_right 13 (show k + 1 ≤ c by omega); rw [Nat.succ_mul] at this; exact this
      have q0 := hrow5.cell (i := k * 13) (by omega)
      have y0 := hrow5.frozen (k * 13)
      have q1 := hrow5.cell (i := k * 13 + 1) (by omega)
      have y1 := hrow5.frozen (k * 13 + 1)
      have q2 := hrow5.cell (i := k * 13 + 2) (by omega)
      have y2 := hrow5.frozen (k * 13 + 2)
      have q3 := hrow5.cell (i := k * 13 + 3) (by omega)
      have y3 := hrow5.frozen (k * 13 + 3)
      have q4 := hrow5.cell (i := k * 13 + 4) (by omega)
      have y4 := hrow5.frozen (k * 13 + 4)
      have q5 := hrow5.cell (i := k * 13 + 5) (by omega)
      have y5 := hrow5.frozen (k * 13 + 5)
      have q6 := hrow5.cell (i := k * 13 + 6) (by omega)
      have y6 := hrow5.frozen (k * 13 + 6)
      have q7 := hrow5.cell (i := k * 13 + 7) (by omega)
      have y7 := hrow5.frozen (k * 13 + 7)
      have q8 := hrow5.cell (i := k * 13 + 8) (by omega)
      have y8 := hrow5.frozen (k * 13 + 8)
      have q9 := hrow5.cell (i := k * 13 + 9) (by omega)
      have y9 := hrow5.frozen (k * 13 + 9)
      have q10 := hrow5.cell (i := k * 13 + 10) (by omega)
      have y10 := hrow5.frozen (k * 13 + 10)
      have q11 := hrow5.cell (i := k * 13 + 11) (by omega)
      have y11 := hrow5.frozen (k * 13 + 11)
      have q12 := hrow5.cell (i := k * 13 + 12) (by omega)
      have y12 := hrow5.frozen (k * 13 + 12)
      clear hrow5
      go_wp2_with fail
      clear hkc y0 y1 y2 y3 y4 y5 y6 y7 y8 y9 y10 y11 y12 q0 q1 q2 q3 q4 q5 q6 q7 q8 q9 q10 q11 q12
      have O5_7 := OwnC.setv (D := D ++ [.v (.int .i64 (kk)), .v (.int .i64 (kk + 1)), .s 3 1 z2.length (mkL (FInt.flat z2) (kk + 1 + 1)), .s 82 5 z3.length (mkL (FValue.flat z3) (k2_)), .s 156 9 z4.length (mkL (FCall.flat z4) (k3_)), .s 224 6 z5.length (mkL (FTry.flat z5) (k4_)), .s 160 9 z6.length (mkL (FEnd.flat z6) (k5_))]) (y := .int .i64 z7) (R := .v (.string z8) :: .v (.string z9) :: .v (.int .i64 z10) :: .v (.int .i64 z11) :: .v (.int .i64 z12) :: R) (by simp only [List.append_assoc, List.cons_append, List.nil_append] at P5 ⊢; exact P5) hF (.int .i64 (k6_)) (k * 13 + 7) (by simp [HD.out])
      clear P5
      refine (markText_any _ _ (by omega)).mono ?_
      rintro e w7 ⟨rfl, hb6⟩
      have G6 := hid (OnlyF.of_below (OnlyF.set G5.out (p := ⟨g, k * 13 + 7, none⟩) HG.out (.int .i64 (k6_))) hb6)
      have P6 := O5_7.below hb6 (Nat.le_refl _)
      clear O5_7 hb6
      obtain ⟨f6, hrow6, hnc6, hln6⟩ := P6.row
      have hkc : k * 13 + 13 ≤ c * 13 := by have := Nat.mul_le_mul_right 13 (show k + 1 ≤ c by omega); rw [Nat.succ_mul] at this; exact this
      have q0 := hrow6.cell (i := k * 13) (by omega)
      have y0 := hrow6.frozen (k * 13)
      have q1 := hrow6.cell (i := k * 13 + 1) (by omega)
      have y1 := hrow6.frozen (k * 13 + 1)
      have q2 := hrow6.cell (i := k * 13 + 2) (by omega)
      have y2 := hrow6.frozen (k * 13 + 2)
      have q3 := hrow6.cell (i := k * 13 + 3) (by omega)
      have y3 := hrow6.frozen (k * 13 + 3)
      have q4 := hrow6.cell (i := k * 13 + 4) (by omega)
      have y4 := hrow6.frozen (k * 13 + 4)
      have q5 := hrow6.cell (i := k * 13 + 5) (by omega)
      have y5 := hrow6.frozen (k * 13 + 5)
      have q6 := hrow6.cell (i := k * 13 + 6) (by omega)
      have y6 := hrow6.frozen (k * 13 + 6)
      have q7 := hrow6.cell (i := k * 13 + 7) (by omega)
      have y7 := hrow6.frozen (k * 13 + 7)
      have q8 := hrow6.cell (i := k * 13 + 8) (by omega)
      have y8 := hrow6.frozen (k * 13 + 8)
      have q9 := hrow6.cell (i := k * 13 + 9) (by omega)
      have y9 := hrow6.frozen (k * 13 + 9)
      have q10 := hrow6.cell (i := k * 13 + 10) (by omega)
      have y10 := hrow6.frozen (k * 13 + 10)
      have q11 := hrow6.cell (i := k * 13 + 11) (by omega)
      have y11 := hrow6.frozen (k * 13 + 11)
      have q12 := hrow6.cell (i := k * 13 + 12) (by omega)
      have y12 := hrow6.frozen (k * 13 + 12)
      clear hrow6
      go_wp2_with fail
      clear hkc y0 y1 y2 y3 y4 y5 y6 y7 y8 y9 y10 y11 y12 q0 q1 q2 q3 q4 q5 q6 q7 q8 q9 q10 q11 q12
      have O6_8 := OwnC.setv (D := D ++ [.v (.int .i64 (kk)), .v (.int .i64 (kk + 1)), .s 3 1 z2.length (mkL (FInt.flat z2) (kk + 1 + 1)), .s 82 5 z3.length (mkL (FValue.flat z3) (k2_)), .s 156 9 z4.length (mkL (FCall.flat z4) (k3_)), .s 224 6 z5.length (mkL (FTry.flat z5) (k4_)), .s 160 9 z6.length (mkL (FEnd.flat z6) (k5_)), .v (.int .i64 (k6_))]) (y := .string z8) (R := .v (.string z9) :: .v (.int .i64 z10) :: .v (.int .i64 z11) :: .v (.int .i64 z12) :: R) (by simp only [List.append_assoc, List.cons_append, List.nil_append] at P6 ⊢; exact P6) hF (.string (mt (k6_ + 1))) (k * 13 + 8) (by simp [HD.out])
      clear P6
      refine (markText_any _ _ (by omega)).mono ?_
      rintro e w8 ⟨rfl, hb7⟩
      have G7 := hid (OnlyF.of_below (OnlyF.set G6.out (p := ⟨g, k * 13 + 8, none⟩) HG.out (.string (mt (k6_ + 1)))) hb7)
      have P7 := O6_8.below hb7 (Nat.le_refl _)
      clear O6_8 hb7
      obtain ⟨f7, hrow7, hnc7, hln7⟩ := P7.row
      have hkc : k * 13 + 13 ≤ c * 13 := by have := Nat.mul_le_mul_right 13 (show k + 1 ≤ c by omega); rw [Nat.succ_mul] at this; exact this
      have q0 := hrow7.cell (i := k * 13) (by omega)
      have y0 := hrow7.frozen (k * 13)
      have q1 := hrow7.cell (i := k * 13 + 1) (by omega)
      have y1 := hrow7.frozen (k * 13 + 1)
      have q2 := hrow7.cell (i := k * 13 + 2) (by omega)
      have y2 := hrow7.frozen (k * 13 + 2)
      have q3 := hrow7.cell (i := k * 13 + 3) (by omega)
      have y3 := hrow7.frozen (k * 13 + 3)
      have q4 := hrow7.cell (i := k * 13 + 4) (by omega)
      have y4 := hrow7.frozen (k * 13 + 4)
      have q5 := hrow7.cell (i := k * 13 + 5) (by omega)
      have y5 := hrow7.frozen (k * 13 + 5)
      have q6 := hrow7.cell (i := k * 13 + 6) (by omega)
      have y6 := hrow7.frozen (k * 13 + 6)
      have q7 := hrow7.cell (i := k * 13 + 7) (by omega)
      have y7 := hrow7.frozen (k * 13 + 7)
      have q8 := hrow7.cell (i := k * 13 + 8) (by omega)
      have y8 := hrow7.frozen (k * 13 + 8)
      have q9 := hrow7.cell (i := k * 13 + 9) (by omega)
      have y9 := hrow7.frozen (k * 13 + 9)
      have q10 := hrow7.cell (i := k * 13 + 10) (by omega)
      have y10 := hrow7.frozen (k * 13 + 10)
      have q11 := hrow7.cell (i := k * 13 + 11) (by omega)
      have y11 := hrow7.frozen (k * 13 + 11)
      have q12 := hrow7.cell (i := k * 13 + 12) (by omega)
      have y12 := hrow7.frozen (k * 13 + 12)
      clear hrow7
      go_wp2_with fail
      clear hkc y0 y1 y2 y3 y4 y5 y6 y7 y8 y9 y10 y11 y12 q0 q1 q2 q3 q4 q5 q6 q7 q8 q9 q10 q11 q12
      have O7_9 := OwnC.setv (D := D ++ [.v (.int .i64 (kk)), .v (.int .i64 (kk + 1)), .s 3 1 z2.length (mkL (FInt.flat z2) (kk + 1 + 1)), .s 82 5 z3.length (mkL (FValue.flat z3) (k2_)), .s 156 9 z4.length (mkL (FCall.flat z4) (k3_)), .s 224 6 z5.length (mkL (FTry.flat z5) (k4_)), .s 160 9 z6.length (mkL (FEnd.flat z6) (k5_)), .v (.int .i64 (k6_)), .v (.string (mt (k6_ + 1)))]) (y := .string z9) (R := .v (.int .i64 z10) :: .v (.int .i64 z11) :: .v (.int .i64 z12) :: R) (by simp only [List.append_assoc, List.cons_append, List.nil_append] at P7 ⊢; exact P7) hF (.string (mt (k6_ + 1 + 1))) (k * 13 + 9) (by simp [HD.out])
      clear P7
      have O7_10 := OwnC.setv (D := D ++ [.v (.int .i64 (kk)), .v (.int .i64 (kk + 1)), .s 3 1 z2.length (mkL (FInt.flat z2) (kk + 1 + 1)), .s 82 5 z3.length (mkL (FValue.flat z3) (k2_)), .s 156 9 z4.length (mkL (FCall.flat z4) (k3_)), .s 224 6 z5.length (mkL (FTry.flat z5) (k4_)), .s 160 9 z6.length (mkL (FEnd.flat z6) (k5_)), .v (.int .i64 (k6_)), .v (.string (mt (k6_ + 1))), .v (.string (mt (k6_ + 1 + 1)))]) (y := .int .i64 z10) (R := .v (.int .i64 z11) :: .v (.int .i64 z12) :: R) (by simp only [List.append_assoc, List.cons_append, List.nil_append] at O7_9 ⊢; exact O7_9) hF (.int .i64 (k6_ + 1 + 1 + 1)) (k * 13 + 10) (by simp [HD.out])
      clear O7_9
      have O7_11 := OwnC.setv (D := D ++ [.v (.int .i64 (kk)), .v (.int .i64 (kk + 1)), .s 3 1 z2.length (mkL (FInt.flat z2) (kk + 1 + 1)), .s 82 5 z3.length (mkL (FValue.flat z3) (k2_)), .s 156 9 z4.length (mkL (FCall.flat z4) (k3_)), .s 224 6 z5.length (mkL (FTry.flat z5) (k4_)), .s 160 9 z6.length (mkL (FEnd.flat z6) (k5_)), .v (.int .i64 (k6_)), .v (.string (mt (k6_ + 1))), .v (.string (mt (k6_ + 1 + 1))), .v (.int .i64 (k6_ + 1 + 1 + 1))]) (y := .int .i64 z11) (R := .v (.int .i64 z12) :: R) (by simp only [List.append_assoc, List.cons_append, List.nil_append] at O7_10 ⊢; exact O7_10) hF (.int .i64 (k6_ + 1 + 1 + 1 + 1)) (k * 13 + 11) (by simp [HD.out])
      clear O7_10
      have O7_12 := OwnC.setv (D := D ++ [.v (.int .i64 (kk)), .v (.int .i64 (kk + 1)), .s 3 1 z2.length (mkL (FInt.flat z2) (kk + 1 + 1)), .s 82 5 z3.length (mkL (FValue.flat z3) (k2_)), .s 156 9 z4.length (mkL (FCall.flat z4) (k3_)), .s 224 6 z5.length (mkL (FTry.flat z5) (k4_)), .s 160 9 z6.length (mkL (FEnd.flat z6) (k5_)), .v (.int .i64 (k6_)), .v (.string (mt (k6_ + 1))), .v (.string (mt (k6_ + 1 + 1))), .v (.int .i64 (k6_ + 1 + 1 + 1)), .v (.int .i64 (k6_ + 1 + 1 + 1 + 1))]) (y := .int .i64 z12) (R := R) (by simp only [List.append_assoc, List.cons_append, List.nil_append] at O7_11 ⊢; exact O7_11) hF (.int .i64 (k6_ + 1 + 1 + 1 + 1 + 1)) (k * 13 + 12) (by simp [HD.out])
      clear O7_11
      go_roundw
      case rel =>
        have hmk : mkL (FFrame.c ⟨z0, z1, z2, z3, z4, z5, z6, z7, z8, z9, z10, z11, z12⟩) kk = [.v (.int .i64 (kk)), .v (.int .i64 (kk + 1)), .s 3 1 z2.length (mkL (FInt.flat z2) (kk + 1 + 1)), .s 82 5 z3.length (mkL (FValue.flat z3) (k2_)), .s 156 9 z4.length (mkL (FCall.flat z4) (k3_)), .s 224 6 z5.length (mkL (FTry.flat z5) (k4_)), .s 160 9 z6.length (mkL (FEnd.flat z6) (k5_)), .v (.int .i64 (k6_)), .v (.string (mt (k6_ + 1))), .v (.string (mt (k6_ + 1 + 1))), .v (.int .i64 (k6_ + 1 + 1 + 1)), .v (.int .i64 (k6_ + 1 + 1 + 1 + 1)), .v (.int .i64 (k6_ + 1 + 1 + 1 + 1 + 1))] := by
          rw [FFrame.c_eq]
          rw [mkL_v (kk + 1) (by omega)]
          rw [mkL_v (kk + 1 + 1) (by omega)]
          rw [mkL_s (k2_) (by rw [← HN2.out]; exact HNK2.out)]
          rw [mkL_s (k3_) (by rw [← HN3.out]; exact HNK3.out)]
          rw [mkL_s (k4_) (by rw [← HN4.out]; exact HNK4.out)]
          rw [mkL_s (k5_) (by rw [← HN5.out]; exact HNK5.out)]
          rw [mkL_s (k6_) (by rw [← HN6.out]; exact HNK6.out)]
          rw [mkL_v (k6_ + 1) (by omega)]
          rw [mkL_v (k6_ + 1 + 1) (by omega)]
          rw [mkL_v (k6_ + 1 + 1 + 1) (by omega)]
          rw [mkL_v (k6_ + 1 + 1 + 1 + 1) (by omega)]
          rw [mkL_v (k6_ + 1 + 1 + 1 + 1 + 1) (by omega)]
          rw [mkL_v (k6_ + 1 + 1 + 1 + 1 + 1 + 1) (by omega)]
          rw [mkL_nil]
          rfl
        have hcn : cntL (FFrame.flat (l.take (k + 1))) = CC + (8 + N2 + N3 + N4 + N5 + N6) := by
          rw [FFrame.flat_take l k _ HX.out, cntL_append, HCC.out, FFrame.cnt_eq]
          rw [← HN2.out]; rw [← HN3.out]; rw [← HN4.out]; rw [← HN5.out]; rw [← HN6.out]; try omega
        have hall : mkL (FFrame.flat (l.take (k + 1))) k0 = D ++ [.v (.int .i64 (kk)), .v (.int .i64 (kk + 1)), .s 3 1 z2.length (mkL (FInt.flat z2) (kk + 1 + 1)), .s 82 5 z3.length (mkL (FValue.flat z3) (k2_)), .s 156 9 z4.length (mkL (FCall.flat z4) (k3_)), .s 224 6 z5.length (mkL (FTry.flat z5) (k4_)), .s 160 9 z6.length (mkL (FEnd.flat z6) (k5_)), .v (.int .i64 (k6_)), .v (.string (mt (k6_ + 1))), .v (.string (mt (k6_ + 1 + 1))), .v (.int .i64 (k6_ + 1 + 1 + 1)), .v (.int .i64 (k6_ + 1 + 1 + 1 + 1)), .v (.int .i64 (k6_ + 1 + 1 + 1 + 1 + 1))] := by
          rw [FFrame.flat_take l k _ HX.out, mkL_append, HCC.out, ← HKK.out, ← HDD.out, hmk]
        refine ⟨k + 1, _, by omega, by go_num, rfl, ?_, ?_, (OnlyF.set (OnlyF.set (OnlyF.set (OnlyF.set G7.out (p := ⟨g, k * 13 + 9, none⟩) HG.out (.string (mt (k6_ + 1 + 1)))) (p := ⟨g, k * 13 + 10, none⟩) HG.out (.int .i64 (k6_ + 1 + 1 + 1))) (p := ⟨g, k * 13 + 11, none⟩) HG.out (.int .i64 (k6_ + 1 + 1 + 1 + 1))) (p := ⟨g, k * 13 + 12, none⟩) HG.out (.int .i64 (k6_ + 1 + 1 + 1 + 1 + 1)))⟩
        · rw [hcn]
          have := HKK.out
          have := HNK2.out; have := HNK3.out; have := HNK4.out; have := HNK5.out; have := HNK6.out; omega
        · rw [hall, ← HRR.out]
          simp only [List.append_assoc, List.cons_append, List.nil_append] at O7_12 ⊢
          exact O7_12
      case measure => simp [intOf]; omega
    · obtain rfl : k = l.length := by omega
      clear hlt
      go_wp2_with fail
      go_ret
      have e := HO1.out
      rw [List.take_length, List.drop_length] at e
      have e2 := HKK.out
      rw [List.take_length] at e2
      exact ⟨ret_int e2, by simpa using e, HGG.out⟩
theorem markFrameS_any (l : List FFrame) : MarkFrameS l := markFrameS_of l (fun x _ => by
  obtain ⟨z0, z1, z2, z3, z4, z5, z6, z7, z8, z9, z10, z11, z12⟩ := x
  exact ⟨markIntS_any z2, markValueS_any z3, markCallS_any z4, markTryS_any z5, markEndS_any z6⟩)
theorem FGen.flat_len (l : List FGen) : (FGen.flat l).length = l.length * 19 := by
  induction l with
  | nil => simp
  | cons x r ih =>
    have e : FGen.flat (x :: r) = x.c ++ FGen.flat r := List.flatMap_cons
    rw [e, List.length_append, ih, FGen.len, List.length_cons]
    omega
theorem FGen.flat_at (l : List FGen) (k : Nat) (x : FGen) (h : l[k]? = some x) : l.drop k = x :: l.drop (k + 1) := by
  have hk := (List.getElem?_eq_some_iff.1 h).1
  rw [List.drop_eq_getElem_cons hk, (List.getElem?_eq_some_iff.1 h).2]
theorem FGen.flat_take (l : List FGen) (k : Nat) (x : FGen) (h : l[k]? = some x) : FGen.flat (l.take (k + 1)) = FGen.flat (l.take k) ++ x.c := by
  rw [List.take_add_one, h]
  simp [FGen.flat]
theorem FGen.flat_split (l : List FGen) (k : Nat) (x : FGen) (h : l[k]? = some x) : FGen.flat l = FGen.flat (l.take k) ++ (x.c ++ FGen.flat (l.drop (k + 1))) := by
  have e : FGen.flat (l.take k ++ l.drop k) = FGen.flat (l.take k) ++ FGen.flat (l.drop k) := List.flatMap_append
  rw [List.take_append_drop] at e
  rw [e, FGen.flat_at l k x h]
  have e2 : FGen.flat (x :: l.drop (k + 1)) = x.c ++ FGen.flat (l.drop (k + 1)) := List.flatMap_cons
  rw [e2]
theorem FGen.cnt_at (l : List FGen) (k : Nat) (x : FGen) (h : l[k]? = some x) : cntL (FGen.flat (l.take k)) + cntL x.c ≤ cntL (FGen.flat l) := by
  rw [FGen.flat_split l k x h, cntL_append, cntL_append]
  omega
theorem FGen.cnt_eq (z0 : Int) (z1 : Int) (z2 : Int) (z3 : ByteArray) (z4 : Int) (z5 : List FEntry) (z6 : Int) (z7 : Int) (z8 : List FInt) (z9 : List FValue) (z10 : List FCall) (z11 : List FTry) (z12 : List FEnd) (z13 : Int) (z14 : ByteArray) (z15 : ByteArray) (z16 : Int) (z17 : Int) (z18 : Int) : cntL (FGen.c ⟨z0, ⟨z1, z2, z3, z4, z5⟩, ⟨z6, z7, z8, z9, z10, z11, z12, z13, z14, z15, z16, z17, z18⟩⟩) = 13 + cntL (FEntry.flat z5) + cntL (FInt.flat z8) + cntL (FValue.flat z9) + cntL (FCall.flat z10) + cntL (FTry.flat z11) + cntL (FEnd.flat z12) := by
  rw [FGen.c_eq]
  simp only [cntL, Cel.cnt]
  try omega
def MarkGenS (l : List FGen) : Prop := ∀ (u : Value) (k0 : Int) (F : List Nat) (w : World), 1 ≤ k0 → k0 + (cntL (FGen.flat l) : Int) ≤ 1000000000000000 → F.Nodup → OwnC w (.s 93 19 l.length (FGen.flat l)) F u → Calls Tryz.prog 46 #[u, .int .i64 k0] w fun e w' => e = .returned (.int .i64 (k0 + (cntL (FGen.flat l) : Int))) ∧ OwnC w' (.s 93 19 l.length (mkL (FGen.flat l) k0)) F u ∧ OnlyF F w w'
def MkGen : FGen → Prop
  | ⟨z0, ⟨z1, z2, z3, z4, z5⟩, ⟨z6, z7, z8, z9, z10, z11, z12, z13, z14, z15, z16, z17, z18⟩⟩ => MarkEntryS z5 ∧ MarkIntS z8 ∧ MarkValueS z9 ∧ MarkCallS z10 ∧ MarkTryS z11 ∧ MarkEndS z12
theorem cntb1_Gen (x : FGen) : cntL x.c ≤ 20 + 20 * x.wt := by
  obtain ⟨z0, ⟨z1, z2, z3, z4, z5⟩, ⟨z6, z7, z8, z9, z10, z11, z12, z13, z14, z15, z16, z17, z18⟩⟩ := x
  rw [FGen.cnt_eq, FGen.wt_eq]
  have b5 := cntb_EntryS z5
  have b8 := cntb_IntS z8
  have b9 := cntb_ValueS z9
  have b10 := cntb_CallS z10
  have b11 := cntb_TryS z11
  have b12 := cntb_EndS z12
  omega
theorem cntb_GenS : ∀ l : List FGen, cntL (FGen.flat l) ≤ 20 * (l.length + FGen.wts l)
  | [] => by simp [cntL]
  | x :: r => by
    have e : FGen.flat (x :: r) = x.c ++ FGen.flat r := List.flatMap_cons
    have h1 := cntb1_Gen x
    have h2 := cntb_GenS r
    rw [e, cntL_append, FGen.wts, List.length_cons]
    omega
theorem markGenS_of (l : List FGen) (he : ∀ x, x ∈ l → MkGen x) : MarkGenS l := by
  intro u k0 F w h1 h2 hF hO
  obtain ⟨A, c, rfl⟩ := hO.form
  have hcap := hO.read.cap
  have hn : l.length ≤ 9223372036854775807 := by unfold maxLen at hcap; omega
  have HO := hid hO
  clear hcap
  by_cases hl0 : l.length = 0
  · obtain rfl : l = [] := List.eq_nil_of_length_eq_zero hl0
    clear hO hl0 he
    go_enter Tryz.func46, Tryz.ntmps46
    go_wp2_with fail
    go_loop [1, 5] (fun kv i => kv = .int .i64 k0 ∧ i = .int .i64 0) (fun _ i => 0)
    case atStart => exact ⟨rfl, rfl⟩
    case round =>
      obtain ⟨rfl, rfl⟩ := hrel
      go_wp2_with fail
      go_ret
      exact ⟨ret_int (by simp [cntL]), by simpa [mkL] using HO.out, OnlyF.refl _ _⟩
  obtain ⟨g, hA, hg⟩ := hO.head (by omega)
  subst hA
  have HE := hid he
  clear he
  have HG := hid hg
  clear hO hg hl0
  go_enter Tryz.func46, Tryz.ntmps46
  go_wp2_with fail
  go_loopw [1, 5] (fun kv i wr => ∃ (k : Nat) (kk : Int), k ≤ l.length ∧ i = .int .i64 k ∧ kv = .int .i64 kk ∧ kk = k0 + (cntL (FGen.flat (l.take k)) : Int) ∧ OwnC wr (.s 93 19 l.length (mkL (FGen.flat (l.take k)) k0 ++ FGen.flat (l.drop k))) F (.slice (some ⟨g, 0, none⟩) l.length c) ∧ OnlyF F w wr) (fun _ i _ => l.length - (intOf i).toNat)
  case atStart => exact ⟨0, k0, Nat.zero_le _, rfl, rfl, by simp [cntL], by simpa [mkL] using HO.out, OnlyF.refl _ _⟩
  case round =>
    obtain ⟨k, kk, hk, rfl, rfl, hkk, hO, hG⟩ := hrel
    have HKK := hid hkk
    have HO1 := hid hO
    have HGG := hid hG
    clear hO hG
    by_cases hlt : k < l.length
    · obtain ⟨x, hx⟩ : ∃ x, l[k]? = some x := ⟨_, List.getElem?_eq_getElem hlt⟩
      have HX := hid hx
      have hca := FGen.cnt_at l k x hx
      have hD0 : (mkL (FGen.flat (l.take k)) k0).length = k * 19 := by rw [mkL_len, FGen.flat_len, List.length_take]; congr 1; omega
      have hO2 := HO1.out
      rw [FGen.flat_at l k x hx] at hO2
      have hmx := HE.out x (List.mem_of_getElem? hx)
      obtain ⟨z0, ⟨z1, z2, z3, z4, z5⟩, ⟨z6, z7, z8, z9, z10, z11, z12, z13, z14, z15, z16, z17, z18⟩⟩ := x
      rw [show FGen.flat (⟨z0, ⟨z1, z2, z3, z4, z5⟩, ⟨z6, z7, z8, z9, z10, z11, z12, z13, z14, z15, z16, z17, z18⟩⟩ :: l.drop (k + 1)) = (FGen.c ⟨z0, ⟨z1, z2, z3, z4, z5⟩, ⟨z6, z7, z8, z9, z10, z11, z12, z13, z14, z15, z16, z17, z18⟩⟩) ++ FGen.flat (l.drop (k + 1)) from List.flatMap_cons, FGen.c_eq] at hO2
      rw [FGen.cnt_eq] at hca
      have M5 : MarkEntryS z5 := hmx.1
      have HM5 := hid M5
      have M8 : MarkIntS z8 := hmx.2.1
      have HM8 := hid M8
      have M9 : MarkValueS z9 := hmx.2.2.1
      have HM9 := hid M9
      have M10 : MarkCallS z10 := hmx.2.2.2.1
      have HM10 := hid M10
      have M11 : MarkTryS z11 := hmx.2.2.2.2.1
      have HM11 := hid M11
      have M12 : MarkEndS z12 := hmx.2.2.2.2.2
      have HM12 := hid M12
      clear hmx M5 M8 M9 M10 M11 M12
      obtain ⟨D, hDD⟩ : ∃ D, D = mkL (FGen.flat (l.take k)) k0 := ⟨_, rfl⟩
      rw [← hDD] at hD0 hO2
      obtain ⟨R, hRR⟩ : ∃ R, R = FGen.flat (l.drop (k + 1)) := ⟨_, rfl⟩
      rw [← hRR] at hO2
      have HD := hid hD0
      have HDD := hid hDD
      have HRR := hid hRR
      have hkp : 1 ≤ kk := by omega
      generalize hCC : cntL (FGen.flat (l.take k)) = CC at *
      obtain ⟨N5, hN5⟩ : ∃ N : Nat, N = cntL (FEntry.flat z5) := ⟨_, rfl⟩
      rw [← hN5] at hca
      obtain ⟨N8, hN8⟩ : ∃ N : Nat, N = cntL (FInt.flat z8) := ⟨_, rfl⟩
      rw [← hN8] at hca
      obtain ⟨N9, hN9⟩ : ∃ N : Nat, N = cntL (FValue.flat z9) := ⟨_, rfl⟩
      rw [← hN9] at hca
      obtain ⟨N10, hN10⟩ : ∃ N : Nat, N = cntL (FCall.flat z10) := ⟨_, rfl⟩
      rw [← hN10] at hca
      obtain ⟨N11, hN11⟩ : ∃ N : Nat, N = cntL (FTry.flat z11) := ⟨_, rfl⟩
      rw [← hN11] at hca
      obtain ⟨N12, hN12⟩ : ∃ N : Nat, N = cntL (FEnd.flat z12) := ⟨_, rfl⟩
      rw [← hN12] at hca
      have hkb : kk + ((13 + N5 + N8 + N9 + N10 + N11 + N12 : Nat) : Int) ≤ 1000000000000000 := by omega
      have HN5 := hid hN5
      have HN8 := hid hN8
      have HN9 := hid hN9
      have HN10 := hid hN10
      have HN11 := hid hN11
      have HN12 := hid hN12
      have HCC := hid hCC
      clear hx hD0 hDD hRR hkk hca hCC hN5 hN8 hN9 hN10 hN11 hN12
      obtain ⟨f0, hrow0, hnc0, hln0⟩ := hO2.row
      have hkc : k * 19 + 19 ≤ c * 19 := by have := Nat.mul_le_mul_right 19 (show k + 1 ≤ c by omega); rw [Nat.succ_mul] at this; exact this
      have q0 := hrow0.cell (i := k * 19) (by omega)
      have y0 := hrow0.frozen (k * 19)
      have q1 := hrow0.cell (i := k * 19 + 1) (by omega)
      have y1 := hrow0.frozen (k * 19 + 1)
      have q2 := hrow0.cell (i := k * 19 + 1 + 1) (by omega)
      have y2 := hrow0.frozen (k * 19 + 1 + 1)
      have q3 := hrow0.cell (i := k * 19 + 1 + 2) (by omega)
      have y3 := hrow0.frozen (k * 19 + 1 + 2)
      have q4 := hrow0.cell (i := k * 19 + 1 + 3) (by omega)
      have y4 := hrow0.frozen (k * 19 + 1 + 3)
      have q5 := hrow0.cell (i := k * 19 + 1 + 4) (by omega)
      have y5 := hrow0.frozen (k * 19 + 1 + 4)
      have q6 := hrow0.cell (i := k * 19 + 6) (by omega)
      have y6 := hrow0.frozen (k * 19 + 6)
      have q7 := hrow0.cell (i := k * 19 + 6 + 1) (by omega)
      have y7 := hrow0.frozen (k * 19 + 6 + 1)
      have q8 := hrow0.cell (i := k * 19 + 6 + 2) (by omega)
      have y8 := hrow0.frozen (k * 19 + 6 + 2)
      have q9 := hrow0.cell (i := k * 19 + 6 + 3) (by omega)
      have y9 := hrow0.frozen (k * 19 + 6 + 3)
      have q10 := hrow0.cell (i := k * 19 + 6 + 4) (by omega)
      have y10 := hrow0.frozen (k * 19 + 6 + 4)
      have q11 := hrow0.cell (i := k * 19 + 6 + 5) (by omega)
      have y11 := hrow0.frozen (k * 19 + 6 + 5)
      have q12 := hrow0.cell (i := k * 19 + 6 + 6) (by omega)
      have y12 := hrow0.frozen (k * 19 + 6 + 6)
      have q13 := hrow0.cell (i := k * 19 + 6 + 7) (by omega)
      have y13 := hrow0.frozen (k * 19 + 6 + 7)
      have q14 := hrow0.cell (i := k * 19 + 6 + 8) (by omega)
      have y14 := hrow0.frozen (k * 19 + 6 + 8)
      have q15 := hrow0.cell (i := k * 19 + 6 + 9) (by omega)
      have y15 := hrow0.frozen (k * 19 + 6 + 9)
      have q16 := hrow0.cell (i := k * 19 + 6 + 10) (by omega)
      have y16 := hrow0.frozen (k * 19 + 6 + 10)
      have q17 := hrow0.cell (i := k * 19 + 6 + 11) (by omega)
      have y17 := hrow0.frozen (k * 19 + 6 + 11)
      have q18 := hrow0.cell (i := k * 19 + 6 + 12) (by omega)
      have y18 := hrow0.frozen (k * 19 + 6 + 12)
      clear hrow0
      go_wp2_with fail
      clear hkc y0 y1 y2 y3 y4 y5 y6 y7 y8 y9 y10 y11 y12 y13 y14 y15 y16 y17 y18 q0 q1 q2 q3 q4 q5 q6 q7 q8 q9 q10 q11 q12 q13 q14 q15 q16 q17 q18
      have O0_0 := OwnC.setv (D := D) (y := .int .i64 z0) (R := .v (.int .i64 z1) :: .v (.int .i64 z2) :: .v (.string z3) :: .v (.int .i64 z4) :: .s 153 8 z5.length (FEntry.flat z5) :: .v (.int .i64 z6) :: .v (.int .i64 z7) :: .s 3 1 z8.length (FInt.flat z8) :: .s 82 5 z9.length (FValue.flat z9) :: .s 156 9 z10.length (FCall.flat z10) :: .s 224 6 z11.length (FTry.flat z11) :: .s 160 9 z12.length (FEnd.flat z12) :: .v (.int .i64 z13) :: .v (.string z14) :: .v (.string z15) :: .v (.int .i64 z16) :: .v (.int .i64 z17) :: .v (.int .i64 z18) :: R) (by simp only [List.append_assoc, List.cons_append, List.nil_append] at hO2 ⊢; exact hO2) hF (.int .i64 (kk)) (k * 19) (by simp [HD.out])
      clear hO2
      have O0_1 := OwnC.setv (D := D ++ [.v (.int .i64 (kk))]) (y := .int .i64 z1) (R := .v (.int .i64 z2) :: .v (.string z3) :: .v (.int .i64 z4) :: .s 153 8 z5.length (FEntry.flat z5) :: .v (.int .i64 z6) :: .v (.int .i64 z7) :: .s 3 1 z8.length (FInt.flat z8) :: .s 82 5 z9.length (FValue.flat z9) :: .s 156 9 z10.length (FCall.flat z10) :: .s 224 6 z11.length (FTry.flat z11) :: .s 160 9 z12.length (FEnd.flat z12) :: .v (.int .i64 z13) :: .v (.string z14) :: .v (.string z15) :: .v (.int .i64 z16) :: .v (.int .i64 z17) :: .v (.int .i64 z18) :: R) (by simp only [List.append_assoc, List.cons_append, List.nil_append] at O0_0 ⊢; exact O0_0) hF (.int .i64 (kk + 1)) (k * 19 + 1) (by simp [HD.out])
      clear O0_0
      have O0_2 := OwnC.setv (D := D ++ [.v (.int .i64 (kk)), .v (.int .i64 (kk + 1))]) (y := .int .i64 z2) (R := .v (.string z3) :: .v (.int .i64 z4) :: .s 153 8 z5.length (FEntry.flat z5) :: .v (.int .i64 z6) :: .v (.int .i64 z7) :: .s 3 1 z8.length (FInt.flat z8) :: .s 82 5 z9.length (FValue.flat z9) :: .s 156 9 z10.length (FCall.flat z10) :: .s 224 6 z11.length (FTry.flat z11) :: .s 160 9 z12.length (FEnd.flat z12) :: .v (.int .i64 z13) :: .v (.string z14) :: .v (.string z15) :: .v (.int .i64 z16) :: .v (.int .i64 z17) :: .v (.int .i64 z18) :: R) (by simp only [List.append_assoc, List.cons_append, List.nil_append] at O0_1 ⊢; exact O0_1) hF (.int .i64 (kk + 1 + 1)) (k * 19 + 1 + 1) (by simp [HD.out])
      clear O0_1
      refine (markText_any _ _ (by omega)).mono ?_
      rintro e w2 ⟨rfl, hb1⟩
      have G1 := hid (OnlyF.of_below (OnlyF.set (OnlyF.set (OnlyF.set HGG.out (p := ⟨g, k * 19, none⟩) HG.out (.int .i64 (kk))) (p := ⟨g, k * 19 + 1, none⟩) HG.out (.int .i64 (kk + 1))) (p := ⟨g, k * 19 + 1 + 1, none⟩) HG.out (.int .i64 (kk + 1 + 1))) hb1)
      have P1 := O0_2.below hb1 (Nat.le_refl _)
      clear O0_2 hb1
      obtain ⟨f1, hrow1, hnc1, hln1⟩ := P1.row
      have hkc : k * 19 + 19 ≤ c * 19 := by have := Nat.mul_le_mul_right 19 (show k + 1 ≤ c by omega); rw [Nat.succ_mul] at this; exact this
      have q0 := hrow1.cell (i := k * 19) (by omega)
      have y0 := hrow1.frozen (k * 19)
      have q1 := hrow1.cell (i := k * 19 + 1) (by omega)
      have y1 := hrow1.frozen (k * 19 + 1)
      have q2 := hrow1.cell (i := k * 19 + 1 + 1) (by omega)
      have y2 := hrow1.frozen (k * 19 + 1 + 1)
      have q3 := hrow1.cell (i := k * 19 + 1 + 2) (by omega)
      have y3 := hrow1.frozen (k * 19 + 1 + 2)
      have q4 := hrow1.cell (i := k * 19 + 1 + 3) (by omega)
      have y4 := hrow1.frozen (k * 19 + 1 + 3)
      have q5 := hrow1.cell (i := k * 19 + 1 + 4) (by omega)
      have y5 := hrow1.frozen (k * 19 + 1 + 4)
      have q6 := hrow1.cell (i := k * 19 + 6) (by omega)
      have y6 := hrow1.frozen (k * 19 + 6)
      have q7 := hrow1.cell (i := k * 19 + 6 + 1) (by omega)
      have y7 := hrow1.frozen (k * 19 + 6 + 1)
      have q8 := hrow1.cell (i := k * 19 + 6 + 2) (by omega)
      have y8 := hrow1.frozen (k * 19 + 6 + 2)
      have q9 := hrow1.cell (i := k * 19 + 6 + 3) (by omega)
      have y9 := hrow1.frozen (k * 19 + 6 + 3)
      have q10 := hrow1.cell (i := k * 19 + 6 + 4) (by omega)
      have y10 := hrow1.frozen (k * 19 + 6 + 4)
      have q11 := hrow1.cell (i := k * 19 + 6 + 5) (by omega)
      have y11 := hrow1.frozen (k * 19 + 6 + 5)
      have q12 := hrow1.cell (i := k * 19 + 6 + 6) (by omega)
      have y12 := hrow1.frozen (k * 19 + 6 + 6)
      have q13 := hrow1.cell (i := k * 19 + 6 + 7) (by omega)
      have y13 := hrow1.frozen (k * 19 + 6 + 7)
      have q14 := hrow1.cell (i := k * 19 + 6 + 8) (by omega)
      have y14 := hrow1.frozen (k * 19 + 6 + 8)
      have q15 := hrow1.cell (i := k * 19 + 6 + 9) (by omega)
      have y15 := hrow1.frozen (k * 19 + 6 + 9)
      have q16 := hrow1.cell (i := k * 19 + 6 + 10) (by omega)
      have y16 := hrow1.frozen (k * 19 + 6 + 10)
      have q17 := hrow1.cell (i := k * 19 + 6 + 11) (by omega)
      have y17 := hrow1.frozen (k * 19 + 6 + 11)
      have q18 := hrow1.cell (i := k * 19 + 6 + 12) (by omega)
      have y18 := hrow1.frozen (k * 19 + 6 + 12)
      clear hrow1
      obtain ⟨g5_, a5, X5, hA5, hgF5, hc5, _, hx5, hsub5, hnd5, hgx5, hback5⟩ := OwnC.at_ (D := D ++ [.v (.int .i64 (kk)), .v (.int .i64 (kk + 1)), .v (.int .i64 (kk + 1 + 1)), .v (.string z3), .v (.int .i64 z4)]) (x := .s 153 8 z5.length (FEntry.flat z5)) (R := .v (.int .i64 z6) :: .v (.int .i64 z7) :: .s 3 1 z8.length (FInt.flat z8) :: .s 82 5 z9.length (FValue.flat z9) :: .s 156 9 z10.length (FCall.flat z10) :: .s 224 6 z11.length (FTry.flat z11) :: .s 160 9 z12.length (FEnd.flat z12) :: .v (.int .i64 z13) :: .v (.string z14) :: .v (.string z15) :: .v (.int .i64 z16) :: .v (.int .i64 z17) :: .v (.int .i64 z18) :: R) (by simp only [List.append_assoc, List.cons_append, List.nil_append] at P1 ⊢; exact P1) hF
      obtain ⟨A5, c5, rfl⟩ := hx5.form
      simp only [Option.some.injEq, Addr.mk.injEq, and_true] at hA5
      subst hA5
      rw [show (D ++ [.v (.int .i64 (kk)), .v (.int .i64 (kk + 1)), .v (.int .i64 (kk + 1 + 1)), .v (.string z3), .v (.int .i64 z4)] : List Cel).length = k * 19 + 1 + 4 from by simp [HD.out]] at hc5
      clear q5
      go_wp2_with fail
      have hcn := hid (show World.cell? ((w2.setCell ⟨g, k * 19 + 1 + 2, none⟩ (.string (mt (kk + 1 + 1 + 1)))).setCell ⟨g, k * 19 + 1 + 3, none⟩ (.int .i64 (kk + 1 + 1 + 1 + 1))) ⟨g, k * 19 + 1 + 4, none⟩ = some _ from (cell_set_other (by omega) (cell_set_other (by omega) hc5)))
      clear hkc y0 y1 y2 y3 y4 y5 y6 y7 y8 y9 y10 y11 y12 y13 y14 y15 y16 y17 y18 q0 q1 q2 q3 q4 q6 q7 q8 q9 q10 q11 q12 q13 q14 q15 q16 q17 q18 hc5 hx5 hsub5 hnd5 hgx5 hback5 hgF5
      have O1_3 := OwnC.setv (D := D ++ [.v (.int .i64 (kk)), .v (.int .i64 (kk + 1)), .v (.int .i64 (kk + 1 + 1))]) (y := .string z3) (R := .v (.int .i64 z4) :: .s 153 8 z5.length (FEntry.flat z5) :: .v (.int .i64 z6) :: .v (.int .i64 z7) :: .s 3 1 z8.length (FInt.flat z8) :: .s 82 5 z9.length (FValue.flat z9) :: .s 156 9 z10.length (FCall.flat z10) :: .s 224 6 z11.length (FTry.flat z11) :: .s 160 9 z12.length (FEnd.flat z12) :: .v (.int .i64 z13) :: .v (.string z14) :: .v (.string z15) :: .v (.int .i64 z16) :: .v (.int .i64 z17) :: .v (.int .i64 z18) :: R) (by simp only [List.append_assoc, List.cons_append, List.nil_append] at P1 ⊢; exact P1) hF (.string (mt (kk + 1 + 1 + 1))) (k * 19 + 1 + 2) (by simp [HD.out])
      clear P1
      have O1_4 := OwnC.setv (D := D ++ [.v (.int .i64 (kk)), .v (.int .i64 (kk + 1)), .v (.int .i64 (kk + 1 + 1)), .v (.string (mt (kk + 1 + 1 + 1)))]) (y := .int .i64 z4) (R := .s 153 8 z5.length (FEntry.flat z5) :: .v (.int .i64 z6) :: .v (.int .i64 z7) :: .s 3 1 z8.length (FInt.flat z8) :: .s 82 5 z9.length (FValue.flat z9) :: .s 156 9 z10.length (FCall.flat z10) :: .s 224 6 z11.length (FTry.flat z11) :: .s 160 9 z12.length (FEnd.flat z12) :: .v (.int .i64 z13) :: .v (.string z14) :: .v (.string z15) :: .v (.int .i64 z16) :: .v (.int .i64 z17) :: .v (.int .i64 z18) :: R) (by simp only [List.append_assoc, List.cons_append, List.nil_append] at O1_3 ⊢; exact O1_3) hF (.int .i64 (kk + 1 + 1 + 1 + 1)) (k * 19 + 1 + 3) (by simp [HD.out])
      clear O1_3
      obtain ⟨g_, b5, X, hA_, hgF, hc_, _, hx_, hsub, hnd, hgx, hback⟩ := OwnC.at_ (D := D ++ [.v (.int .i64 (kk)), .v (.int .i64 (kk + 1)), .v (.int .i64 (kk + 1 + 1)), .v (.string (mt (kk + 1 + 1 + 1))), .v (.int .i64 (kk + 1 + 1 + 1 + 1))]) (x := .s 153 8 z5.length (FEntry.flat z5)) (R := .v (.int .i64 z6) :: .v (.int .i64 z7) :: .s 3 1 z8.length (FInt.flat z8) :: .s 82 5 z9.length (FValue.flat z9) :: .s 156 9 z10.length (FCall.flat z10) :: .s 224 6 z11.length (FTry.flat z11) :: .s 160 9 z12.length (FEnd.flat z12) :: .v (.int .i64 z13) :: .v (.string z14) :: .v (.string z15) :: .v (.int .i64 z16) :: .v (.int .i64 z17) :: .v (.int .i64 z18) :: R) (by simp only [List.append_assoc, List.cons_append, List.nil_append] at O1_4 ⊢; exact O1_4) hF
      simp only [Option.some.injEq, Addr.mk.injEq, and_true] at hA_
      subst hA_
      rw [show (D ++ [.v (.int .i64 (kk)), .v (.int .i64 (kk + 1)), .v (.int .i64 (kk + 1 + 1)), .v (.string (mt (kk + 1 + 1 + 1))), .v (.int .i64 (kk + 1 + 1 + 1 + 1))] : List Cel).length = k * 19 + 1 + 4 from by simp [HD.out]] at hc_
      obtain rfl : .slice A5 z5.length c5 = b5 := Option.some.inj (hcn.out.symm.trans hc_)
      obtain ⟨k5_, hnk⟩ : ∃ k : Int, k = kk + 1 + 1 + 1 + 1 + 1 + (N5 : Int) := ⟨_, rfl⟩
      have hcall := HM5.out _ (kk + 1 + 1 + 1 + 1 + 1) X _ (by omega) (by rw [← HN5.out]; omega) hnd hx_
      rw [← HN5.out, ← hnk] at hcall
      have HNK5 := hid hnk
      have hkp5 : 1 ≤ k5_ := by omega
      have hkb5 : k5_ + ((8 + N8 + N9 + N10 + N11 + N12 : Nat) : Int) ≤ 1000000000000000 := by omega
      clear hnk hc_ hcn
      refine hcall.mono ?_
      clear hcall
      rintro e w3 ⟨rfl, own, hon⟩
      have P2 := hback w3 _ own (fun b hb hnb => hon.block b (OwnC.lt _ _ _ O1_4 b hb) hnb)
      have G2 := hid (OnlyF.call (OnlyF.set (OnlyF.set G1.out (p := ⟨g, k * 19 + 1 + 2, none⟩) HG.out (.string (mt (kk + 1 + 1 + 1)))) (p := ⟨g, k * 19 + 1 + 3, none⟩) HG.out (.int .i64 (kk + 1 + 1 + 1 + 1))) hon hsub)
      clear own hon hback hgx hnd hsub hx_ hgF O1_4
      obtain ⟨f2, hrow2, hnc2, hln2⟩ := P2.row
      have hkc : k * 19 + 19 ≤ c * 19 := by have := Nat.mul_le_mul_right 19 (show k + 1 ≤ c by omega); rw [Nat.succ_mul] at this; exact this
      have q0 := hrow2.cell (i := k * 19) (by omega)
      have y0 := hrow2.frozen (k * 19)
      have q1 := hrow2.cell (i := k * 19 + 1) (by omega)
      have y1 := hrow2.frozen (k * 19 + 1)
      have q2 := hrow2.cell (i := k * 19 + 1 + 1) (by omega)
      have y2 := hrow2.frozen (k * 19 + 1 + 1)
      have q3 := hrow2.cell (i := k * 19 + 1 + 2) (by omega)
      have y3 := hrow2.frozen (k * 19 + 1 + 2)
      have q4 := hrow2.cell (i := k * 19 + 1 + 3) (by omega)
      have y4 := hrow2.frozen (k * 19 + 1 + 3)
      have q5 := hrow2.cell (i := k * 19 + 1 + 4) (by omega)
      have y5 := hrow2.frozen (k * 19 + 1 + 4)
      have q6 := hrow2.cell (i := k * 19 + 6) (by omega)
      have y6 := hrow2.frozen (k * 19 + 6)
      have q7 := hrow2.cell (i := k * 19 + 6 + 1) (by omega)
      have y7 := hrow2.frozen (k * 19 + 6 + 1)
      have q8 := hrow2.cell (i := k * 19 + 6 + 2) (by omega)
      have y8 := hrow2.frozen (k * 19 + 6 + 2)
      have q9 := hrow2.cell (i := k * 19 + 6 + 3) (by omega)
      have y9 := hrow2.frozen (k * 19 + 6 + 3)
      have q10 := hrow2.cell (i := k * 19 + 6 + 4) (by omega)
      have y10 := hrow2.frozen (k * 19 + 6 + 4)
      have q11 := hrow2.cell (i := k * 19 + 6 + 5) (by omega)
      have y11 := hrow2.frozen (k * 19 + 6 + 5)
      have q12 := hrow2.cell (i := k * 19 + 6 + 6) (by omega)
      have y12 := hrow2.frozen (k * 19 + 6 + 6)
      have q13 := hrow2.cell (i := k * 19 + 6 + 7) (by omega)
      have y13 := hrow2.frozen (k * 19 + 6 + 7)
      have q14 := hrow2.cell (i := k * 19 + 6 + 8) (by omega)
      have y14 := hrow2.frozen (k * 19 + 6 + 8)
      have q15 := hrow2.cell (i := k * 19 + 6 + 9) (by omega)
      have y15 := hrow2.frozen (k * 19 + 6 + 9)
      have q16 := hrow2.cell (i := k * 19 + 6 + 10) (by omega)
      have y16 := hrow2.frozen (k * 19 + 6 + 10)
      have q17 := hrow2.cell (i := k * 19 + 6 + 11) (by omega)
      have y17 := hrow2.frozen (k * 19 + 6 + 11)
      have q18 := hrow2.cell (i := k * 19 + 6 + 12) (by omega)
      have y18 := hrow2.frozen (k * 19 + 6 + 12)
      clear hrow2
      obtain ⟨g8_, a8, X8, hA8, hgF8, hc8, _, hx8, hsub8, hnd8, hgx8, hback8⟩ := OwnC.at_ (D := D ++ [.v (.int .i64 (kk)), .v (.int .i64 (kk + 1)), .v (.int .i64 (kk + 1 + 1)), .v (.string (mt (kk + 1 + 1 + 1))), .v (.int .i64 (kk + 1 + 1 + 1 + 1)), .s 153 8 z5.length (mkL (FEntry.flat z5) (kk + 1 + 1 + 1 + 1 + 1)), .v (.int .i64 z6), .v (.int .i64 z7)]) (x := .s 3 1 z8.length (FInt.flat z8)) (R := .s 82 5 z9.length (FValue.flat z9) :: .s 156 9 z10.length (FCall.flat z10) :: .s 224 6 z11.length (FTry.flat z11) :: .s 160 9 z12.length (FEnd.flat z12) :: .v (.int .i64 z13) :: .v (.string z14) :: .v (.string z15) :: .v (.int .i64 z16) :: .v (.int .i64 z17) :: .v (.int .i64 z18) :: R) (by simp only [List.append_assoc, List.cons_append, List.nil_append] at P2 ⊢; exact P2) hF
      obtain ⟨A8, c8, rfl⟩ := hx8.form
      simp only [Option.some.injEq, Addr.mk.injEq, and_true] at hA8
      subst hA8
      rw [show (D ++ [.v (.int .i64 (kk)), .v (.int .i64 (kk + 1)), .v (.int .i64 (kk + 1 + 1)), .v (.string (mt (kk + 1 + 1 + 1))), .v (.int .i64 (kk + 1 + 1 + 1 + 1)), .s 153 8 z5.length (mkL (FEntry.flat z5) (kk + 1 + 1 + 1 + 1 + 1)), .v (.int .i64 z6), .v (.int .i64 z7)] : List Cel).length = k * 19 + 6 + 2 from by simp [HD.out]] at hc8
      clear q8
      go_wp2_with fail
      have hcn := hid (show World.cell? ((w3.setCell ⟨g, k * 19 + 6, none⟩ (.int .i64 (k5_))).setCell ⟨g, k * 19 + 6 + 1, none⟩ (.int .i64 (k5_ + 1))) ⟨g, k * 19 + 6 + 2, none⟩ = some _ from (cell_set_other (by omega) (cell_set_other (by omega) hc8)))
      clear hkc y0 y1 y2 y3 y4 y5 y6 y7 y8 y9 y10 y11 y12 y13 y14 y15 y16 y17 y18 q0 q1 q2 q3 q4 q5 q6 q7 q9 q10 q11 q12 q13 q14 q15 q16 q17 q18 hc8 hx8 hsub8 hnd8 hgx8 hback8 hgF8
      have O2_6 := OwnC.setv (D := D ++ [.v (.int .i64 (kk)), .v (.int .i64 (kk + 1)), .v (.int .i64 (kk + 1 + 1)), .v (.string (mt (kk + 1 + 1 + 1))), .v (.int .i64 (kk + 1 + 1 + 1 + 1)), .s 153 8 z5.length (mkL (FEntry.flat z5) (kk + 1 + 1 + 1 + 1 + 1))]) (y := .int .i64 z6) (R := .v (.int .i64 z7) :: .s 3 1 z8.length (FInt.flat z8) :: .s 82 5 z9.length (FValue.flat z9) :: .s 156 9 z10.length (FCall.flat z10) :: .s 224 6 z11.length (FTry.flat z11) :: .s 160 9 z12.length (FEnd.flat z12) :: .v (.int .i64 z13) :: .v (.string z14) :: .v (.string z15) :: .v (.int .i64 z16) :: .v (.int .i64 z17) :: .v (.int .i64 z18) :: R) (by simp only [List.append_assoc, List.cons_append, List.nil_append] at P2 ⊢; exact P2) hF (.int .i64 (k5_)) (k * 19 + 6) (by simp [HD.out])
      clear P2
      have O2_7 := OwnC.setv (D := D ++ [.v (.int .i64 (kk)), .v (.int .i64 (kk + 1)), .v (.int .i64 (kk + 1 + 1)), .v (.string (mt (kk + 1 + 1 + 1))), .v (.int .i64 (kk + 1 + 1 + 1 + 1)), .s 153 8 z5.length (mkL (FEntry.flat z5) (kk + 1 + 1 + 1 + 1 + 1)), .v (.int .i64 (k5_))]) (y := .int .i64 z7) (R := .s 3 1 z8.length (FInt.flat z8) :: .s 82 5 z9.length (FValue.flat z9) :: .s 156 9 z10.length (FCall.flat z10) :: .s 224 6 z11.length (FTry.flat z11) :: .s 160 9 z12.length (FEnd.flat z12) :: .v (.int .i64 z13) :: .v (.string z14) :: .v (.string z15) :: .v (.int .i64 z16) :: .v (.int .i64 z17) :: .v (.int .i64 z18) :: R) (by simp only [List.append_assoc, List.cons_append, List.nil_append] at O2_6 ⊢; exact O2_6) hF (.int .i64 (k5_ + 1)) (k * 19 + 6 + 1) (by simp [HD.out])
      clear O2_6
      obtain ⟨g_, b8, X, hA_, hgF, hc_, _, hx_, hsub, hnd, hgx, hback⟩ := OwnC.at_ (D := D ++ [.v (.int .i64 (kk)), .v (.int .i64 (kk + 1)), .v (.int .i64 (kk + 1 + 1)), .v (.string (mt (kk + 1 + 1 + 1))), .v (.int .i64 (kk + 1 + 1 + 1 + 1)), .s 153 8 z5.length (mkL (FEntry.flat z5) (kk + 1 + 1 + 1 + 1 + 1)), .v (.int .i64 (k5_)), .v (.int .i64 (k5_ + 1))]) (x := .s 3 1 z8.length (FInt.flat z8)) (R := .s 82 5 z9.length (FValue.flat z9) :: .s 156 9 z10.length (FCall.flat z10) :: .s 224 6 z11.length (FTry.flat z11) :: .s 160 9 z12.length (FEnd.flat z12) :: .v (.int .i64 z13) :: .v (.string z14) :: .v (.string z15) :: .v (.int .i64 z16) :: .v (.int .i64 z17) :: .v (.int .i64 z18) :: R) (by simp only [List.append_assoc, List.cons_append, List.nil_append] at O2_7 ⊢; exact O2_7) hF
      simp only [Option.some.injEq, Addr.mk.injEq, and_true] at hA_
      subst hA_
      rw [show (D ++ [.v (.int .i64 (kk)), .v (.int .i64 (kk + 1)), .v (.int .i64 (kk + 1 + 1)), .v (.string (mt (kk + 1 + 1 + 1))), .v (.int .i64 (kk + 1 + 1 + 1 + 1)), .s 153 8 z5.length (mkL (FEntry.flat z5) (kk + 1 + 1 + 1 + 1 + 1)), .v (.int .i64 (k5_)), .v (.int .i64 (k5_ + 1))] : List Cel).length = k * 19 + 6 + 2 from by simp [HD.out]] at hc_
      obtain rfl : .slice A8 z8.length c8 = b8 := Option.some.inj (hcn.out.symm.trans hc_)
      obtain ⟨k8_, hnk⟩ : ∃ k : Int, k = k5_ + 1 + 1 + (N8 : Int) := ⟨_, rfl⟩
      have hcall := HM8.out _ (k5_ + 1 + 1) X _ (by omega) (by rw [← HN8.out]; omega) hnd hx_
      rw [← HN8.out, ← hnk] at hcall
      have HNK8 := hid hnk
      have hkp8 : 1 ≤ k8_ := by omega
      have hkb8 : k8_ + ((6 + N9 + N10 + N11 + N12 : Nat) : Int) ≤ 1000000000000000 := by omega
      clear hnk hc_ hcn
      refine hcall.mono ?_
      clear hcall
      rintro e w4 ⟨rfl, own, hon⟩
      have P3 := hback w4 _ own (fun b hb hnb => hon.block b (OwnC.lt _ _ _ O2_7 b hb) hnb)
      have G3 := hid (OnlyF.call (OnlyF.set (OnlyF.set G2.out (p := ⟨g, k * 19 + 6, none⟩) HG.out (.int .i64 (k5_))) (p := ⟨g, k * 19 + 6 + 1, none⟩) HG.out (.int .i64 (k5_ + 1))) hon hsub)
      clear own hon hback hgx hnd hsub hx_ hgF O2_7
      obtain ⟨f3, hrow3, hnc3, hln3⟩ := P3.row
      have hkc : k * 19 + 19 ≤ c * 19 := by have := Nat.mul_le_mul_right 19 (show k + 1 ≤ c by omega); rw [Nat.succ_mul] at this; exact this
      have q0 := hrow3.cell (i := k * 19) (by omega)
      have y0 := hrow3.frozen (k * 19)
      have q1 := hrow3.cell (i := k * 19 + 1) (by omega)
      have y1 := hrow3.frozen (k * 19 + 1)
      have q2 := hrow3.cell (i := k * 19 + 1 + 1) (by omega)
      have y2 := hrow3.frozen (k * 19 + 1 + 1)
      have q3 := hrow3.cell (i := k * 19 + 1 + 2) (by omega)
      have y3 := hrow3.frozen (k * 19 + 1 + 2)
      have q4 := hrow3.cell (i := k * 19 + 1 + 3) (by omega)
      have y4 := hrow3.frozen (k * 19 + 1 + 3)
      have q5 := hrow3.cell (i := k * 19 + 1 + 4) (by omega)
      have y5 := hrow3.frozen (k * 19 + 1 + 4)
      have q6 := hrow3.cell (i := k * 19 + 6) (by omega)
      have y6 := hrow3.frozen (k * 19 + 6)
      have q7 := hrow3.cell (i := k * 19 + 6 + 1) (by omega)
      have y7 := hrow3.frozen (k * 19 + 6 + 1)
      have q8 := hrow3.cell (i := k * 19 + 6 + 2) (by omega)
      have y8 := hrow3.frozen (k * 19 + 6 + 2)
      have q9 := hrow3.cell (i := k * 19 + 6 + 3) (by omega)
      have y9 := hrow3.frozen (k * 19 + 6 + 3)
      have q10 := hrow3.cell (i := k * 19 + 6 + 4) (by omega)
      have y10 := hrow3.frozen (k * 19 + 6 + 4)
      have q11 := hrow3.cell (i := k * 19 + 6 + 5) (by omega)
      have y11 := hrow3.frozen (k * 19 + 6 + 5)
      have q12 := hrow3.cell (i := k * 19 + 6 + 6) (by omega)
      have y12 := hrow3.frozen (k * 19 + 6 + 6)
      have q13 := hrow3.cell (i := k * 19 + 6 + 7) (by omega)
      have y13 := hrow3.frozen (k * 19 + 6 + 7)
      have q14 := hrow3.cell (i := k * 19 + 6 + 8) (by omega)
      have y14 := hrow3.frozen (k * 19 + 6 + 8)
      have q15 := hrow3.cell (i := k * 19 + 6 + 9) (by omega)
      have y15 := hrow3.frozen (k * 19 + 6 + 9)
      have q16 := hrow3.cell (i := k * 19 + 6 + 10) (by omega)
      have y16 := hrow3.frozen (k * 19 + 6 + 10)
      have q17 := hrow3.cell (i := k * 19 + 6 + 11) (by omega)
      have y17 := hrow3.frozen (k * 19 + 6 + 11)
      have q18 := hrow3.cell (i := k * 19 + 6 + 12) (by omega)
      have y18 := hrow3.frozen (k * 19 + 6 + 12)
      clear hrow3
      obtain ⟨g9_, a9, X9, hA9, hgF9, hc9, _, hx9, hsub9, hnd9, hgx9, hback9⟩ := OwnC.at_ (D := D ++ [.v (.int .i64 (kk)), .v (.int .i64 (kk + 1)), .v (.int .i64 (kk + 1 + 1)), .v (.string (mt (kk + 1 + 1 + 1))), .v (.int .i64 (kk + 1 + 1 + 1 + 1)), .s 153 8 z5.length (mkL (FEntry.flat z5) (kk + 1 + 1 + 1 + 1 + 1)), .v (.int .i64 (k5_)), .v (.int .i64 (k5_ + 1)), .s 3 1 z8.length (mkL (FInt.flat z8) (k5_ + 1 + 1))]) (x := .s 82 5 z9.length (FValue.flat z9)) (R := .s 156 9 z10.length (FCall.flat z10) :: .s 224 6 z11.length (FTry.flat z11) :: .s 160 9 z12.length (FEnd.flat z12) :: .v (.int .i64 z13) :: .v (.string z14) :: .v (.string z15) :: .v (.int .i64 z16) :: .v (.int .i64 z17) :: .v (.int .i64 z18) :: R) (by simp only [List.append_assoc, List.cons_append, List.nil_append] at P3 ⊢; exact P3) hF
      obtain ⟨A9, c9, rfl⟩ := hx9.form
      simp only [Option.some.injEq, Addr.mk.injEq, and_true] at hA9
      subst hA9
      rw [show (D ++ [.v (.int .i64 (kk)), .v (.int .i64 (kk + 1)), .v (.int .i64 (kk + 1 + 1)), .v (.string (mt (kk + 1 + 1 + 1))), .v (.int .i64 (kk + 1 + 1 + 1 + 1)), .s 153 8 z5.length (mkL (FEntry.flat z5) (kk + 1 + 1 + 1 + 1 + 1)), .v (.int .i64 (k5_)), .v (.int .i64 (k5_ + 1)), .s 3 1 z8.length (mkL (FInt.flat z8) (k5_ + 1 + 1))] : List Cel).length = k * 19 + 6 + 3 from by simp [HD.out]] at hc9
      clear q9
      go_wp2_with fail
      have hcn := hid (show World.cell? w4 ⟨g, k * 19 + 6 + 3, none⟩ = some _ from hc9)
      clear hkc y0 y1 y2 y3 y4 y5 y6 y7 y8 y9 y10 y11 y12 y13 y14 y15 y16 y17 y18 q0 q1 q2 q3 q4 q5 q6 q7 q8 q10 q11 q12 q13 q14 q15 q16 q17 q18 hc9 hx9 hsub9 hnd9 hgx9 hback9 hgF9
      obtain ⟨g_, b9, X, hA_, hgF, hc_, _, hx_, hsub, hnd, hgx, hback⟩ := OwnC.at_ (D := D ++ [.v (.int .i64 (kk)), .v (.int .i64 (kk + 1)), .v (.int .i64 (kk + 1 + 1)), .v (.string (mt (kk + 1 + 1 + 1))), .v (.int .i64 (kk + 1 + 1 + 1 + 1)), .s 153 8 z5.length (mkL (FEntry.flat z5) (kk + 1 + 1 + 1 + 1 + 1)), .v (.int .i64 (k5_)), .v (.int .i64 (k5_ + 1)), .s 3 1 z8.length (mkL (FInt.flat z8) (k5_ + 1 + 1))]) (x := .s 82 5 z9.length (FValue.flat z9)) (R := .s 156 9 z10.length (FCall.flat z10) :: .s 224 6 z11.length (FTry.flat z11) :: .s 160 9 z12.length (FEnd.flat z12) :: .v (.int .i64 z13) :: .v (.string z14) :: .v (.string z15) :: .v (.int .i64 z16) :: .v (.int .i64 z17) :: .v (.int .i64 z18) :: R) (by simp only [List.append_assoc, List.cons_append, List.nil_append] at P3 ⊢; exact P3) hF
      simp only [Option.some.injEq, Addr.mk.injEq, and_true] at hA_
      subst hA_
      rw [show (D ++ [.v (.int .i64 (kk)), .v (.int .i64 (kk + 1)), .v (.int .i64 (kk + 1 + 1)), .v (.string (mt (kk + 1 + 1 + 1))), .v (.int .i64 (kk + 1 + 1 + 1 + 1)), .s 153 8 z5.length (mkL (FEntry.flat z5) (kk + 1 + 1 + 1 + 1 + 1)), .v (.int .i64 (k5_)), .v (.int .i64 (k5_ + 1)), .s 3 1 z8.length (mkL (FInt.flat z8) (k5_ + 1 + 1))] : List Cel).length = k * 19 + 6 + 3 from by simp [HD.out]] at hc_
      obtain rfl : .slice A9 z9.length c9 = b9 := Option.some.inj (hcn.out.symm.trans hc_)
      obtain ⟨k9_, hnk⟩ : ∃ k : Int, k = k8_ + (N9 : Int) := ⟨_, rfl⟩
      have hcall := HM9.out _ (k8_) X _ (by omega) (by rw [← HN9.out]; omega) hnd hx_
      rw [← HN9.out, ← hnk] at hcall
      have HNK9 := hid hnk
      have hkp9 : 1 ≤ k9_ := by omega
      have hkb9 : k9_ + ((6 + N10 + N11 + N12 : Nat) : Int) ≤ 1000000000000000 := by omega
      clear hnk hc_ hcn
      refine hcall.mono ?_
      clear hcall
      rintro e w5 ⟨rfl, own, hon⟩
      have P4 := hback w5 _ own (fun b hb hnb => hon.block b (OwnC.lt _ _ _ P3 b hb) hnb)
      have G4 := hid (OnlyF.call G3.out hon hsub)
      clear own hon hback hgx hnd hsub hx_ hgF P3
      obtain ⟨f4, hrow4, hnc4, hln4⟩ := P4.row
      have hkc : k * 19 + 19 ≤ c * 19 := by have := Nat.mul_le_mul_right 19 (show k + 1 ≤ c by omega); rw [Nat.succ_mul] at this; exact this
      have q0 := hrow4.cell (i := k * 19) (by omega)
      have y0 := hrow4.frozen (k * 19)
      have q1 := hrow4.cell (i := k * 19 + 1) (by omega)
      have y1 := hrow4.frozen (k * 19 + 1)
      have q2 := hrow4.cell (i := k * 19 + 1 + 1) (by omega)
      have y2 := hrow4.frozen (k * 19 + 1 + 1)
      have q3 := hrow4.cell (i := k * 19 + 1 + 2) (by omega)
      have y3 := hrow4.frozen (k * 19 + 1 + 2)
      have q4 := hrow4.cell (i := k * 19 + 1 + 3) (by omega)
      have y4 := hrow4.frozen (k * 19 + 1 + 3)
      have q5 := hrow4.cell (i := k * 19 + 1 + 4) (by omega)
      have y5 := hrow4.frozen (k * 19 + 1 + 4)
      have q6 := hrow4.cell (i := k * 19 + 6) (by omega)
      have y6 := hrow4.frozen (k * 19 + 6)
      have q7 := hrow4.cell (i := k * 19 + 6 + 1) (by omega)
      have y7 := hrow4.frozen (k * 19 + 6 + 1)
      have q8 := hrow4.cell (i := k * 19 + 6 + 2) (by omega)
      have y8 := hrow4.frozen (k * 19 + 6 + 2)
      have q9 := hrow4.cell (i := k * 19 + 6 + 3) (by omega)
      have y9 := hrow4.frozen (k * 19 + 6 + 3)
      have q10 := hrow4.cell (i := k * 19 + 6 + 4) (by omega)
      have y10 := hrow4.frozen (k * 19 + 6 + 4)
      have q11 := hrow4.cell (i := k * 19 + 6 + 5) (by omega)
      have y11 := hrow4.frozen (k * 19 + 6 + 5)
      have q12 := hrow4.cell (i := k * 19 + 6 + 6) (by omega)
      have y12 := hrow4.frozen (k * 19 + 6 + 6)
      have q13 := hrow4.cell (i := k * 19 + 6 + 7) (by omega)
      have y13 := hrow4.frozen (k * 19 + 6 + 7)
      have q14 := hrow4.cell (i := k * 19 + 6 + 8) (by omega)
      have y14 := hrow4.frozen (k * 19 + 6 + 8)
      have q15 := hrow4.cell (i := k * 19 + 6 + 9) (by omega)
      have y15 := hrow4.frozen (k * 19 + 6 + 9)
      have q16 := hrow4.cell (i := k * 19 + 6 + 10) (by omega)
      have y16 := hrow4.frozen (k * 19 + 6 + 10)
      have q17 := hrow4.cell (i := k * 19 + 6 + 11) (by omega)
      have y17 := hrow4.frozen (k * 19 + 6 + 11)
      have q18 := hrow4.cell (i := k * 19 + 6 + 12) (by omega)
      have y18 := hrow4.frozen (k * 19 + 6 + 12)
      clear hrow4
      obtain ⟨g10_, a10, X10, hA10, hgF10, hc10, _, hx10, hsub10, hnd10, hgx10, hback10⟩ := OwnC.at_ (D := D ++ [.v (.int .i64 (kk)), .v (.int .i64 (kk + 1)), .v (.int .i64 (kk + 1 + 1)), .v (.string (mt (kk + 1 + 1 + 1))), .v (.int .i64 (kk + 1 + 1 + 1 + 1)), .s 153 8 z5.length (mkL (FEntry.flat z5) (kk + 1 + 1 + 1 + 1 + 1)), .v (.int .i64 (k5_)), .v (.int .i64 (k5_ + 1)), .s 3 1 z8.length (mkL (FInt.flat z8) (k5_ + 1 + 1)), .s 82 5 z9.length (mkL (FValue.flat z9) (k8_))]) (x := .s 156 9 z10.length (FCall.flat z10)) (R := .s 224 6 z11.length (FTry.flat z11) :: .s 160 9 z12.length (FEnd.flat z12) :: .v (.int .i64 z13) :: .v (.string z14) :: .v (.string z15) :: .v (.int .i64 z16) :: .v (.int .i64 z17) :: .v (.int .i64 z18) :: R) (by simp only [List.append_assoc, List.cons_append, List.nil_append] at P4 ⊢; exact P4) hF
      obtain ⟨A10, c10, rfl⟩ := hx10.form
      simp only [Option.some.injEq, Addr.mk.injEq, and_true] at hA10
      subst hA10
      rw [show (D ++ [.v (.int .i64 (kk)), .v (.int .i64 (kk + 1)), .v (.int .i64 (kk + 1 + 1)), .v (.string (mt (kk + 1 + 1 + 1))), .v (.int .i64 (kk + 1 + 1 + 1 + 1)), .s 153 8 z5.length (mkL (FEntry.flat z5) (kk + 1 + 1 + 1 + 1 + 1)), .v (.int .i64 (k5_)), .v (.int .i64 (k5_ + 1)), .s 3 1 z8.length (mkL (FInt.flat z8) (k5_ + 1 + 1)), .s 82 5 z9.length (mkL (FValue.flat z9) (k8_))] : List Cel).length = k * 19 + 6 + 4 from by simp [HD.out]] at hc10
      clear q10
      go_wp2_with fail
      have hcn := hid (show World.cell? w5 ⟨g, k * 19 + 6 + 4, none⟩ = some _ from hc10)
      clear hkc y0 y1 y2 y3 y4 y5 y6 y7 y8 y9 y10 y11 y12 y13 y14 y15 y16 y17 y18 q0 q1 q2 q3 q4 q5 q6 q7 q8 q9 q11 q12 q13 q14 q15 q16 q17 q18 hc10 hx10 hsub10 hnd10 hgx10 hback10 hgF10
      obtain ⟨g_, b10, X, hA_, hgF, hc_, _, hx_, hsub, hnd, hgx, hback⟩ := OwnC.at_ (D := D ++ [.v (.int .i64 (kk)), .v (.int .i64 (kk + 1)), .v (.int .i64 (kk + 1 + 1)), .v (.string (mt (kk + 1 + 1 + 1))), .v (.int .i64 (kk + 1 + 1 + 1 + 1)), .s 153 8 z5.length (mkL (FEntry.flat z5) (kk + 1 + 1 + 1 + 1 + 1)), .v (.int .i64 (k5_)), .v (.int .i64 (k5_ + 1)), .s 3 1 z8.length (mkL (FInt.flat z8) (k5_ + 1 + 1)), .s 82 5 z9.length (mkL (FValue.flat z9) (k8_))]) (x := .s 156 9 z10.length (FCall.flat z10)) (R := .s 224 6 z11.length (FTry.flat z11) :: .s 160 9 z12.length (FEnd.flat z12) :: .v (.int .i64 z13) :: .v (.string z14) :: .v (.string z15) :: .v (.int .i64 z16) :: .v (.int .i64 z17) :: .v (.int .i64 z18) :: R) (by simp only [List.append_assoc, List.cons_append, List.nil_append] at P4 ⊢; exact P4) hF
      simp only [Option.some.injEq, Addr.mk.injEq, and_true] at hA_
      subst hA_
      rw [show (D ++ [.v (.int .i64 (kk)), .v (.int .i64 (kk + 1)), .v (.int .i64 (kk + 1 + 1)), .v (.string (mt (kk + 1 + 1 + 1))), .v (.int .i64 (kk + 1 + 1 + 1 + 1)), .s 153 8 z5.length (mkL (FEntry.flat z5) (kk + 1 + 1 + 1 + 1 + 1)), .v (.int .i64 (k5_)), .v (.int .i64 (k5_ + 1)), .s 3 1 z8.length (mkL (FInt.flat z8) (k5_ + 1 + 1)), .s 82 5 z9.length (mkL (FValue.flat z9) (k8_))] : List Cel).length = k * 19 + 6 + 4 from by simp [HD.out]] at hc_
      obtain rfl : .slice A10 z10.length c10 = b10 := Option.some.inj (hcn.out.symm.trans hc_)
      obtain ⟨k10_, hnk⟩ : ∃ k : Int, k = k9_ + (N10 : Int) := ⟨_, rfl⟩
      have hcall := HM10.out _ (k9_) X _ (by omega) (by rw [← HN10.out]; omega) hnd hx_
      rw [← HN10.out, ← hnk] at hcall
      have HNK10 := hid hnk
      have hkp10 : 1 ≤ k10_ := by omega
      have hkb10 : k10_ + ((6 + N11 + N12 : Nat) : Int) ≤ 1000000000000000 := by omega
      clear hnk hc_ hcn
      refine hcall.mono ?_
      clear hcall
      rintro e w6 ⟨rfl, own, hon⟩
      have P5 := hback w6 _ own (fun b hb hnb => hon.block b (OwnC.lt _ _ _ P4 b hb) hnb)
      have G5 := hid (OnlyF.call G4.out hon hsub)
      clear own hon hback hgx hnd hsub hx_ hgF P4
      obtain ⟨f5, hrow5, hnc5, hln5⟩ := P5.row
      have hkc : k * 19 + 19 ≤ c * 19 := by have := Nat.mul_le_mul_right 19 (show k + 1 ≤ c by omega); rw [Nat.succ_mul] at this; exact this
      have q0 := hrow5.cell (i := k * 19) (by omega)
      have y0 := hrow5.frozen (k * 19)
      have q1 := hrow5.cell (i := k * 19 + 1) (by omega)
      have y1 := hrow5.frozen (k * 19 + 1)
      have q2 := hrow5.cell (i := k * 19 + 1 + 1) (by omega)
      have y2 := hrow5.frozen (k * 19 + 1 + 1)
      have q3 := hrow5.cell (i := k * 19 + 1 + 2) (by omega)
      have y3 := hrow5.frozen (k * 19 + 1 + 2)
      have q4 := hrow5.cell (i := k * 19 + 1 + 3) (by omega)
      have y4 := hrow5.frozen (k * 19 + 1 + 3)
      have q5 := hrow5.cell (i := k * 19 + 1 + 4) (by omega)
      have y5 := hrow5.frozen (k * 19 + 1 + 4)
      have q6 := hrow5.cell (i := k * 19 + 6) (by omega)
      have y6 := hrow5.frozen (k * 19 + 6)
      have q7 := hrow5.cell (i := k * 19 + 6 + 1) (by omega)
      have y7 := hrow5.frozen (k * 19 + 6 + 1)
      have q8 := hrow5.cell (i := k * 19 + 6 + 2) (by omega)
      have y8 := hrow5.frozen (k * 19 + 6 + 2)
      have q9 := hrow5.cell (i := k * 19 + 6 + 3) (by omega)
      have y9 := hrow5.frozen (k * 19 + 6 + 3)
      have q10 := hrow5.cell (i := k * 19 + 6 + 4) (by omega)
      have y10 := hrow5.frozen (k * 19 + 6 + 4)
      have q11 := hrow5.cell (i := k * 19 + 6 + 5) (by omega)
      have y11 := hrow5.frozen (k * 19 + 6 + 5)
      have q12 := hrow5.cell (i := k * 19 + 6 + 6) (by omega)
      have y12 := hrow5.frozen (k * 19 + 6 + 6)
      have q13 := hrow5.cell (i := k * 19 + 6 + 7) (by omega)
      have y13 := hrow5.frozen (k * 19 + 6 + 7)
      have q14 := hrow5.cell (i := k * 19 + 6 + 8) (by omega)
      have y14 := hrow5.frozen (k * 19 + 6 + 8)
      have q15 := hrow5.cell (i := k * 19 + 6 + 9) (by omega)
      have y15 := hrow5.frozen (k * 19 + 6 + 9)
      have q16 := hrow5.cell (i := k * 19 + 6 + 10) (by omega)
      have y16 := hrow5.frozen (k * 19 + 6 + 10)
      have q17 := hrow5.cell (i := k * 19 + 6 + 11) (by omega)
      have y17 := hrow5.frozen (k * 19 + 6 + 11)
      have q18 := hrow5.cell (i := k * 19 + 6 + 12) (by omega)
      have y18 := hrow5.frozen (k * 19 + 6 + 12)
      clear hrow5
      obtain ⟨g11_, a11, X11, hA11, hgF11, hc11, _, hx11, hsub11, hnd11, hgx11, hback11⟩ := OwnC.at_ (D := D ++ [.v (.int .i64 (kk)), .v (.int .i64 (kk + 1)), .v (.int .i64 (kk + 1 + 1)), .v (.string (mt (kk + 1 + 1 + 1))), .v (.int .i64 (kk + 1 + 1 + 1 + 1)), .s 153 8 z5.length (mkL (FEntry.flat z5) (kk + 1 + 1 + 1 + 1 + 1)), .v (.int .i64 (k5_)), .v (.int .i64 (k5_ + 1)), .s 3 1 z8.length (mkL (FInt.flat z8) (k5_ + 1 + 1)), .s 82 5 z9.length (mkL (FValue.flat z9) (k8_)), .s 156 9 z10.length (mkL (FCall.flat z10) (k9_))]) (x := .s 224 6 z11.length (FTry.flat z11)) (R := .s 160 9 z12.length (FEnd.flat z12) :: .v (.int .i64 z13) :: .v (.string z14) :: .v (.string z15) :: .v (.int .i64 z16) :: .v (.int .i64 z17) :: .v (.int .i64 z18) :: R) (by simp only [List.append_assoc, List.cons_append, List.nil_append] at P5 ⊢; exact P5) hF
      obtain ⟨A11, c11, rfl⟩ := hx11.form
      simp only [Option.some.injEq, Addr.mk.injEq, and_true] at hA11
      subst hA11
      rw [show (D ++ [.v (.int .i64 (kk)), .v (.int .i64 (kk + 1)), .v (.int .i64 (kk + 1 + 1)), .v (.string (mt (kk + 1 + 1 + 1))), .v (.int .i64 (kk + 1 + 1 + 1 + 1)), .s 153 8 z5.length (mkL (FEntry.flat z5) (kk + 1 + 1 + 1 + 1 + 1)), .v (.int .i64 (k5_)), .v (.int .i64 (k5_ + 1)), .s 3 1 z8.length (mkL (FInt.flat z8) (k5_ + 1 + 1)), .s 82 5 z9.length (mkL (FValue.flat z9) (k8_)), .s 156 9 z10.length (mkL (FCall.flat z10) (k9_))] : List Cel).length = k * 19 + 6 + 5 from by simp [HD.out]] at hc11
      clear q11
      go_wp2_with fail
      have hcn := hid (show World.cell? w6 ⟨g, k * 19 + 6 + 5, none⟩ = some _ from hc11)
      clear hkc y0 y1 y2 y3 y4 y5 y6 y7 y8 y9 y10 y11 y12 y13 y14 y15 y16 y17 y18 q0 q1 q2 q3 q4 q5 q6 q7 q8 q9 q10 q12 q13 q14 q15 q16 q17 q18 hc11 hx11 hsub11 hnd11 hgx11 hback11 hgF11
      obtain ⟨g_, b11, X, hA_, hgF, hc_, _, hx_, hsub, hnd, hgx, hback⟩ := OwnC.at_ (D := D ++ [.v (.int .i64 (kk)), .v (.int .i64 (kk + 1)), .v (.int .i64 (kk + 1 + 1)), .v (.string (mt (kk + 1 + 1 + 1))), .v (.int .i64 (kk + 1 + 1 + 1 + 1)), .s 153 8 z5.length (mkL (FEntry.flat z5) (kk + 1 + 1 + 1 + 1 + 1)), .v (.int .i64 (k5_)), .v (.int .i64 (k5_ + 1)), .s 3 1 z8.length (mkL (FInt.flat z8) (k5_ + 1 + 1)), .s 82 5 z9.length (mkL (FValue.flat z9) (k8_)), .s 156 9 z10.length (mkL (FCall.flat z10) (k9_))]) (x := .s 224 6 z11.length (FTry.flat z11)) (R := .s 160 9 z12.length (FEnd.flat z12) :: .v (.int .i64 z13) :: .v (.string z14) :: .v (.string z15) :: .v (.int .i64 z16) :: .v (.int .i64 z17) :: .v (.int .i64 z18) :: R) (by simp only [List.append_assoc, List.cons_append, List.nil_append] at P5 ⊢; exact P5) hF
      simp only [Option.some.injEq, Addr.mk.injEq, and_true] at hA_
      subst hA_
      rw [show (D ++ [.v (.int .i64 (kk)), .v (.int .i64 (kk + 1)), .v (.int .i64 (kk + 1 + 1)), .v (.string (mt (kk + 1 + 1 + 1))), .v (.int .i64 (kk + 1 + 1 + 1 + 1)), .s 153 8 z5.length (mkL (FEntry.flat z5) (kk + 1 + 1 + 1 + 1 + 1)), .v (.int .i64 (k5_)), .v (.int .i64 (k5_ + 1)), .s 3 1 z8.length (mkL (FInt.flat z8) (k5_ + 1 + 1)), .s 82 5 z9.length (mkL (FValue.flat z9) (k8_)), .s 156 9 z10.length (mkL (FCall.flat z10) (k9_))] : List Cel).length = k * 19 + 6 + 5 from by simp [HD.out]] at hc_
      obtain rfl : .slice A11 z11.length c11 = b11 := Option.some.inj (hcn.out.symm.trans hc_)
      obtain ⟨k11_, hnk⟩ : ∃ k : Int, k = k10_ + (N11 : Int) := ⟨_, rfl⟩
      have hcall := HM11.out _ (k10_) X _ (by omega) (by rw [← HN11.out]; omega) hnd hx_
      rw [← HN11.out, ← hnk] at hcall
      have HNK11 := hid hnk
      have hkp11 : 1 ≤ k11_ := by omega
      have hkb11 : k11_ + ((6 + N12 : Nat) : Int) ≤ 1000000000000000 := by omega
      clear hnk hc_ hcn
      refine hcall.mono ?_
      clear hcall
      rintro e w7 ⟨rfl, own, hon⟩
      have P6 := hback w7 _ own (fun b hb hnb => hon.block b (OwnC.lt _ _ _ P5 b hb) hnb)
      have G6 := hid (OnlyF.call G5.out hon hsub)
      clear own hon hback hgx hnd hsub hx_ hgF P5
      obtain ⟨f6, hrow6, hnc6, hln6⟩ := P6.row
      have hkc : k * 19 + 19 ≤ c * 19 := by have := Nat.mul_le_mul_right 19 (show k + 1 ≤ c by omega); rw [Nat.succ_mul] at this; exact this
      have q0 := hrow6.cell (i := k * 19) (by omega)
      have y0 := hrow6.frozen (k * 19)
      have q1 := hrow6.cell (i := k * 19 + 1) (by omega)
      have y1 := hrow6.frozen (k * 19 + 1)
      have q2 := hrow6.cell (i := k * 19 + 1 + 1) (by omega)
      have y2 := hrow6.frozen (k * 19 + 1 + 1)
      have q3 := hrow6.cell (i := k * 19 + 1 + 2) (by omega)
      have y3 := hrow6.frozen (k * 19 + 1 + 2)
      have q4 := hrow6.cell (i := k * 19 + 1 + 3) (by omega)
      have y4 := hrow6.frozen (k * 19 + 1 + 3)
      have q5 := hrow6.cell (i := k * 19 + 1 + 4) (by omega)
      have y5 := hrow6.frozen (k * 19 + 1 + 4)
      have q6 := hrow6.cell (i := k * 19 + 6) (by omega)
      have y6 := hrow6.frozen (k * 19 + 6)
      have q7 := hrow6.cell (i := k * 19 + 6 + 1) (by omega)
      have y7 := hrow6.frozen (k * 19 + 6 + 1)
      have q8 := hrow6.cell (i := k * 19 + 6 + 2) (by omega)
      have y8 := hrow6.frozen (k * 19 + 6 + 2)
      have q9 := hrow6.cell (i := k * 19 + 6 + 3) (by omega)
      have y9 := hrow6.frozen (k * 19 + 6 + 3)
      have q10 := hrow6.cell (i := k * 19 + 6 + 4) (by omega)
      have y10 := hrow6.frozen (k * 19 + 6 + 4)
      have q11 := hrow6.cell (i := k * 19 + 6 + 5) (by omega)
      have y11 := hrow6.frozen (k * 19 + 6 + 5)
      have q12 := hrow6.cell (i := k * 19 + 6 + 6) (by omega)
      have y12 := hrow6.frozen (k * 19 + 6 + 6)
      have q13 := hrow6.cell (i := k * 19 + 6 + 7) (by omega)
      have y13 := hrow6.frozen (k * 19 + 6 + 7)
      have q14 := hrow6.cell (i := k * 19 + 6 + 8) (by omega)
      have y14 := hrow6.frozen (k * 19 + 6 + 8)
      have q15 := hrow6.cell (i := k * 19 + 6 + 9) (by omega)
      have y15 := hrow6.frozen (k * 19 + 6 + 9)
      have q16 := hrow6.cell (i := k * 19 + 6 + 10) (by omega)
      have y16 := hrow6.frozen (k * 19 + 6 + 10)
      have q17 := hrow6.cell (i := k * 19 + 6 + 11) (by omega)
      have y17 := hrow6.frozen (k * 19 + 6 + 11)
      have q18 := hrow6.cell (i := k * 19 + 6 + 12) (by omega)
      have y18 := hrow6.frozen (k * 19 + 6 + 12)
      clear hrow6
      obtain ⟨g12_, a12, X12, hA12, hgF12, hc12, _, hx12, hsub12, hnd12, hgx12, hback12⟩ := OwnC.at_ (D := D ++ [.v (.int .i64 (kk)), .v (.int .i64 (kk + 1)), .v (.int .i64 (kk + 1 + 1)), .v (.string (mt (kk + 1 + 1 + 1))), .v (.int .i64 (kk + 1 + 1 + 1 + 1)), .s 153 8 z5.length (mkL (FEntry.flat z5) (kk + 1 + 1 + 1 + 1 + 1)), .v (.int .i64 (k5_)), .v (.int .i64 (k5_ + 1)), .s 3 1 z8.length (mkL (FInt.flat z8) (k5_ + 1 + 1)), .s 82 5 z9.length (mkL (FValue.flat z9) (k8_)), .s 156 9 z10.length (mkL (FCall.flat z10) (k9_)), .s 224 6 z11.length (mkL (FTry.flat z11) (k10_))]) (x := .s 160 9 z12.length (FEnd.flat z12)) (R := .v (.int .i64 z13) :: .v (.string z14) :: .v (.string z15) :: .v (.int .i64 z16) :: .v (.int .i64 z17) :: .v (.int .i64 z18) :: R) (by simp only [List.append_assoc, List.cons_append, List.nil_append] at P6 ⊢; exact P6) hF
      obtain ⟨A12, c12, rfl⟩ := hx12.form
      simp only [Option.some.injEq, Addr.mk.injEq, and_true] at hA12
      subst hA12
      rw [show (D ++ [.v (.int .i64 (kk)), .v (.int .i64 (kk + 1)), .v (.int .i64 (kk + 1 + 1)), .v (.string (mt (kk + 1 + 1 + 1))), .v (.int .i64 (kk + 1 + 1 + 1 + 1)), .s 153 8 z5.length (mkL (FEntry.flat z5) (kk + 1 + 1 + 1 + 1 + 1)), .v (.int .i64 (k5_)), .v (.int .i64 (k5_ + 1)), .s 3 1 z8.length (mkL (FInt.flat z8) (k5_ + 1 + 1)), .s 82 5 z9.length (mkL (FValue.flat z9) (k8_)), .s 156 9 z10.length (mkL (FCall.flat z10) (k9_)), .s 224 6 z11.length (mkL (FTry.flat z11) (k10_))] : List Cel).length = k * 19 + 6 + 6 from by simp [HD.out]] at hc12
      clear q12
      go_wp2_with fail
      have hcn := hid (show World.cell? w7 ⟨g, k * 19 + 6 + 6, none⟩ = some _ from hc12)
      clear hkc y0 y1 y2 y3 y4 y5 y6 y7 y8 y9 y10 y11 y12 y13 y14 y15 y16 y17 y18 q0 q1 q2 q3 q4 q5 q6 q7 q8 q9 q10 q11 q13 q14 q15 q16 q17 q18 hc12 hx12 hsub12 hnd12 hgx12 hback12 hgF12
      obtain ⟨g_, b12, X, hA_, hgF, hc_, _, hx_, hsub, hnd, hgx, hback⟩ := OwnC.at_ (D := D ++ [.v (.int .i64 (kk)), .v (.int .i64 (kk + 1)), .v (.int .i64 (kk + 1 + 1)), .v (.string (mt (kk + 1 + 1 + 1))), .v (.int .i64 (kk + 1 + 1 + 1 + 1)), .s 153 8 z5.length (mkL (FEntry.flat z5) (kk + 1 + 1 + 1 + 1 + 1)), .v (.int .i64 (k5_)), .v (.int .i64 (k5_ + 1)), .s 3 1 z8.length (mkL (FInt.flat z8) (k5_ + 1 + 1)), .s 82 5 z9.length (mkL (FValue.flat z9) (k8_)), .s 156 9 z10.length (mkL (FCall.flat z10) (k9_)), .s 224 6 z11.length (mkL (FTry.flat z11) (k10_))]) (x := .s 160 9 z12.length (FEnd.flat z12)) (R := .v (.int .i64 z13) :: .v (.string z14) :: .v (.string z15) :: .v (.int .i64 z16) :: .v (.int .i64 z17) :: .v (.int .i64 z18) :: R) (by simp only [List.append_assoc, List.cons_append, List.nil_append] at P6 ⊢; exact P6) hF
      simp only [Option.some.injEq, Addr.mk.injEq, and_true] at hA_
      subst hA_
      rw [show (D ++ [.v (.int .i64 (kk)), .v (.int .i64 (kk + 1)), .v (.int .i64 (kk + 1 + 1)), .v (.string (mt (kk + 1 + 1 + 1))), .v (.int .i64 (kk + 1 + 1 + 1 + 1)), .s 153 8 z5.length (mkL (FEntry.flat z5) (kk + 1 + 1 + 1 + 1 + 1)), .v (.int .i64 (k5_)), .v (.int .i64 (k5_ + 1)), .s 3 1 z8.length (mkL (FInt.flat z8) (k5_ + 1 + 1)), .s 82 5 z9.length (mkL (FValue.flat z9) (k8_)), .s 156 9 z10.length (mkL (FCall.flat z10) (k9_)), .s 224 6 z11.length (mkL (FTry.flat z11) (k10_))] : List Cel).length = k * 19 + 6 + 6 from by simp [HD.out]] at hc_
      obtain rfl : .slice A12 z12.length c12 = b12 := Option.some.inj (hcn.out.symm.trans hc_)
      obtain ⟨k12_, hnk⟩ : ∃ k : Int, k = k11_ + (N12 : Int) := ⟨_, rfl⟩
      have hcall := HM12.out _ (k11_) X _ (by omega) (by rw [← HN12.out]; omega) hnd hx_
      rw [← HN12.out, ← hnk] at hcall
      have HNK12 := hid hnk
      have hkp12 : 1 ≤ k12_ := by omega
      have hkb12 : k12_ + ((6 : Nat) : Int) ≤ 1000000000000000 := by omega
      clear hnk hc_ hcn
      refine hcall.mono ?_
      clear hcall
      rintro e w8 ⟨rfl, own, hon⟩
      have P7 := hback w8 _ own (fun b hb hnb => hon.block b (OwnC.lt _ _ _ P6 b hb) hnb)
      have G7 := hid (OnlyF.call G6.out hon hsub)
      clear own hon hback hgx hnd hsub hx_ hgF P6
      obtain ⟨f7, hrow7, hnc7, hln7⟩ := P7.row
      have hkc : k * 19 + 19 ≤ c * 19 := by have := Nat.mul_le_mul_right 19 (show k + 1 ≤ c by omega); rw [Nat.succ_mul] at this; exact this
      have q0 := hrow7.cell (i := k * 19) (by omega)
      have y0 := hrow7.frozen (k * 19)
      have q1 := hrow7.cell (i := k * 19 + 1) (by omega)
      have y1 := hrow7.frozen (k * 19 + 1)
      have q2 := hrow7.cell (i := k * 19 + 1 + 1) (by omega)
      have y2 := hrow7.frozen (k * 19 + 1 + 1)
      have q3 := hrow7.cell (i := k * 19 + 1 + 2) (by omega)
      have y3 := hrow7.frozen (k * 19 + 1 + 2)
      have q4 := hrow7.cell (i := k * 19 + 1 + 3) (by omega)
      have y4 := hrow7.frozen (k * 19 + 1 + 3)
      have q5 := hrow7.cell (i := k * 19 + 1 + 4) (by omega)
      have y5 := hrow7.frozen (k * 19 + 1 + 4)
      have q6 := hrow7.cell (i := k * 19 + 6) (by omega)
      have y6 := hrow7.frozen (k * 19 + 6)
      have q7 := hrow7.cell (i := k * 19 + 6 + 1) (by omega)
      have y7 := hrow7.frozen (k * 19 + 6 + 1)
      have q8 := hrow7.cell (i := k * 19 + 6 + 2) (by omega)
      have y8 := hrow7.frozen (k * 19 + 6 + 2)
      have q9 := hrow7.cell (i := k * 19 + 6 + 3) (by omega)
      have y9 := hrow7.frozen (k * 19 + 6 + 3)
      have q10 := hrow7.cell (i := k * 19 + 6 + 4) (by omega)
      have y10 := hrow7.frozen (k * 19 + 6 + 4)
      have q11 := hrow7.cell (i := k * 19 + 6 + 5) (by omega)
      have y11 := hrow7.frozen (k * 19 + 6 + 5)
      have q12 := hrow7.cell (i := k * 19 + 6 + 6) (by omega)
      have y12 := hrow7.frozen (k * 19 + 6 + 6)
      have q13 := hrow7.cell (i := k * 19 + 6 + 7) (by omega)
      have y13 := hrow7.frozen (k * 19 + 6 + 7)
      have q14 := hrow7.cell (i := k * 19 + 6 + 8) (by omega)
      have y14 := hrow7.frozen (k * 19 + 6 + 8)
      have q15 := hrow7.cell (i := k * 19 + 6 + 9) (by omega)
      have y15 := hrow7.frozen (k * 19 + 6 + 9)
      have q16 := hrow7.cell (i := k * 19 + 6 + 10) (by omega)
      have y16 := hrow7.frozen (k * 19 + 6 + 10)
      have q17 := hrow7.cell (i := k * 19 + 6 + 11) (by omega)
      have y17 := hrow7.frozen (k * 19 + 6 + 11)
      have q18 := hrow7.cell (i := k * 19 + 6 + 12) (by omega)
      have y18 := hrow7.frozen (k * 19 + 6 + 12)
      clear hrow7
      go_wp2_with fail
      clear hkc y0 y1 y2 y3 y4 y5 y6 y7 y8 y9 y10 y11 y12 y13 y14 y15 y16 y17 y18 q0 q1 q2 q3 q4 q5 q6 q7 q8 q9 q10 q11 q12 q13 q14 q15 q16 q17 q18
      have O7_13 := OwnC.setv (D := D ++ [.v (.int .i64 (kk)), .v (.int .i64 (kk + 1)), .v (.int .i64 (kk + 1 + 1)), .v (.string (mt (kk + 1 + 1 + 1))), .v (.int .i64 (kk + 1 + 1 + 1 + 1)), .s 153 8 z5.length (mkL (FEntry.flat z5) (kk + 1 + 1 + 1 + 1 + 1)), .v (.int .i64 (k5_)), .v (.int .i64 (k5_ + 1)), .s 3 1 z8.length (mkL (FInt.flat z8) (k5_ + 1 + 1)), .s 82 5 z9.length (mkL (FValue.flat z9) (k8_)), .s 156 9 z10.length (mkL (FCall.flat z10) (k9_)), .s 224 6 z11.length (mkL (FTry.flat z11) (k10_)), .s 160 9 z12.length (mkL (FEnd.flat z12) (k11_))]) (y := .int .i64 z13) (R := .v (.string z14) :: .v (.string z15) :: .v (.int .i64 z16) :: .v (.int .i64 z17) :: .v (.int .i64 z18) :: R) (by simp only [List.append_assoc, List.cons_append, List.nil_append] at P7 ⊢; exact P7) hF (.int .i64 (k12_)) (k * 19 + 6 + 7) (by simp [HD.out])
      clear P7
      refine (markText_any _ _ (by omega)).mono ?_
      rintro e w9 ⟨rfl, hb8⟩
      have G8 := hid (OnlyF.of_below (OnlyF.set G7.out (p := ⟨g, k * 19 + 6 + 7, none⟩) HG.out (.int .i64 (k12_))) hb8)
      have P8 := O7_13.below hb8 (Nat.le_refl _)
      clear O7_13 hb8
      obtain ⟨f8, hrow8, hnc8, hln8⟩ := P8.row
      have hkc : k * 19 + 19 ≤ c * 19 := by have := Nat.mul_le_mul_right 19 (show k + 1 ≤ c by omega); rw [Nat.succ_mul] at this; exact this
      have q0 := hrow8.cell (i := k * 19) (by omega)
      have y0 := hrow8.frozen (k * 19)
      have q1 := hrow8.cell (i := k * 19 + 1) (by omega)
      have y1 := hrow8.frozen (k * 19 + 1)
      have q2 := hrow8.cell (i := k * 19 + 1 + 1) (by omega)
      have y2 := hrow8.frozen (k * 19 + 1 + 1)
      have q3 := hrow8.cell (i := k * 19 + 1 + 2) (by omega)
      have y3 := hrow8.frozen (k * 19 + 1 + 2)
      have q4 := hrow8.cell (i := k * 19 + 1 + 3) (by omega)
      have y4 := hrow8.frozen (k * 19 + 1 + 3)
      have q5 := hrow8.cell (i := k * 19 + 1 + 4) (by omega)
      have y5 := hrow8.frozen (k * 19 + 1 + 4)
      have q6 := hrow8.cell (i := k * 19 + 6) (by omega)
      have y6 := hrow8.frozen (k * 19 + 6)
      have q7 := hrow8.cell (i := k * 19 + 6 + 1) (by omega)
      have y7 := hrow8.frozen (k * 19 + 6 + 1)
      have q8 := hrow8.cell (i := k * 19 + 6 + 2) (by omega)
      have y8 := hrow8.frozen (k * 19 + 6 + 2)
      have q9 := hrow8.cell (i := k * 19 + 6 + 3) (by omega)
      have y9 := hrow8.frozen (k * 19 + 6 + 3)
      have q10 := hrow8.cell (i := k * 19 + 6 + 4) (by omega)
      have y10 := hrow8.frozen (k * 19 + 6 + 4)
      have q11 := hrow8.cell (i := k * 19 + 6 + 5) (by omega)
      have y11 := hrow8.frozen (k * 19 + 6 + 5)
      have q12 := hrow8.cell (i := k * 19 + 6 + 6) (by omega)
      have y12 := hrow8.frozen (k * 19 + 6 + 6)
      have q13 := hrow8.cell (i := k * 19 + 6 + 7) (by omega)
      have y13 := hrow8.frozen (k * 19 + 6 + 7)
      have q14 := hrow8.cell (i := k * 19 + 6 + 8) (by omega)
      have y14 := hrow8.frozen (k * 19 + 6 + 8)
      have q15 := hrow8.cell (i := k * 19 + 6 + 9) (by omega)
      have y15 := hrow8.frozen (k * 19 + 6 + 9)
      have q16 := hrow8.cell (i := k * 19 + 6 + 10) (by omega)
      have y16 := hrow8.frozen (k * 19 + 6 + 10)
      have q17 := hrow8.cell (i := k * 19 + 6 + 11) (by omega)
      have y17 := hrow8.frozen (k * 19 + 6 + 11)
      have q18 := hrow8.cell (i := k * 19 + 6 + 12) (by omega)
      have y18 := hrow8.frozen (k * 19 + 6 + 12)
      clear hrow8
      go_wp2_with fail
      clear hkc y0 y1 y2 y3 y4 y5 y6 y7 y8 y9 y10 y11 y12 y13 y14 y15 y16 y17 y18 q0 q1 q2 q3 q4 q5 q6 q7 q8 q9 q10 q11 q12 q13 q14 q15 q16 q17 q18
      have O8_14 := OwnC.setv (D := D ++ [.v (.int .i64 (kk)), .v (.int .i64 (kk + 1)), .v (.int .i64 (kk + 1 + 1)), .v (.string (mt (kk + 1 + 1 + 1))), .v (.int .i64 (kk + 1 + 1 + 1 + 1)), .s 153 8 z5.length (mkL (FEntry.flat z5) (kk + 1 + 1 + 1 + 1 + 1)), .v (.int .i64 (k5_)), .v (.int .i64 (k5_ + 1)), .s 3 1 z8.length (mkL (FInt.flat z8) (k5_ + 1 + 1)), .s 82 5 z9.length (mkL (FValue.flat z9) (k8_)), .s 156 9 z10.length (mkL (FCall.flat z10) (k9_)), .s 224 6 z11.length (mkL (FTry.flat z11) (k10_)), .s 160 9 z12.length (mkL (FEnd.flat z12) (k11_)), .v (.int .i64 (k12_))]) (y := .string z14) (R := .v (.string z15) :: .v (.int .i64 z16) :: .v (.int .i64 z17) :: .v (.int .i64 z18) :: R) (by simp only [List.append_assoc, List.cons_append, List.nil_append] at P8 ⊢; exact P8) hF (.string (mt (k12_ + 1))) (k * 19 + 6 + 8) (by simp [HD.out])
      clear P8
      refine (markText_any _ _ (by omega)).mono ?_
      rintro e w10 ⟨rfl, hb9⟩
      have G9 := hid (OnlyF.of_below (OnlyF.set G8.out (p := ⟨g, k * 19 + 6 + 8, none⟩) HG.out (.string (mt (k12_ + 1)))) hb9)
      have P9 := O8_14.below hb9 (Nat.le_refl _)
      clear O8_14 hb9
      obtain ⟨f9, hrow9, hnc9, hln9⟩ := P9.row
      have hkc : k * 19 + 19 ≤ c * 19 := by have := Nat.mul_le_mul_right 19 (show k + 1 ≤ c by omega); rw [Nat.succ_mul] at this; exact this
      have q0 := hrow9.cell (i := k * 19) (by omega)
      have y0 := hrow9.frozen (k * 19)
      have q1 := hrow9.cell (i := k * 19 + 1) (by omega)
      have y1 := hrow9.frozen (k * 19 + 1)
      have q2 := hrow9.cell (i := k * 19 + 1 + 1) (by omega)
      have y2 := hrow9.frozen (k * 19 + 1 + 1)
      have q3 := hrow9.cell (i := k * 19 + 1 + 2) (by omega)
      have y3 := hrow9.frozen (k * 19 + 1 + 2)
      have q4 := hrow9.cell (i := k * 19 + 1 + 3) (by omega)
      have y4 := hrow9.frozen (k * 19 + 1 + 3)
      have q5 := hrow9.cell (i := k * 19 + 1 + 4) (by omega)
      have y5 := hrow9.frozen (k * 19 + 1 + 4)
      have q6 := hrow9.cell (i := k * 19 + 6) (by omega)
      have y6 := hrow9.frozen (k * 19 + 6)
      have q7 := hrow9.cell (i := k * 19 + 6 + 1) (by omega)
      have y7 := hrow9.frozen (k * 19 + 6 + 1)
      have q8 := hrow9.cell (i := k * 19 + 6 + 2) (by omega)
      have y8 := hrow9.frozen (k * 19 + 6 + 2)
      have q9 := hrow9.cell (i := k * 19 + 6 + 3) (by omega)
      have y9 := hrow9.frozen (k * 19 + 6 + 3)
      have q10 := hrow9.cell (i := k * 19 + 6 + 4) (by omega)
      have y10 := hrow9.frozen (k * 19 + 6 + 4)
      have q11 := hrow9.cell (i := k * 19 + 6 + 5) (by omega)
      have y11 := hrow9.frozen (k * 19 + 6 + 5)
      have q12 := hrow9.cell (i := k * 19 + 6 + 6) (by omega)
      have y12 := hrow9.frozen (k * 19 + 6 + 6)
      have q13 := hrow9.cell (i := k * 19 + 6 + 7) (by omega)
      have y13 := hrow9.frozen (k * 19 + 6 + 7)
      have q14 := hrow9.cell (i := k * 19 + 6 + 8) (by omega)
      have y14 := hrow9.frozen (k * 19 + 6 + 8)
      have q15 := hrow9.cell (i := k * 19 + 6 + 9) (by omega)
      have y15 := hrow9.frozen (k * 19 + 6 + 9)
      have q16 := hrow9.cell (i := k * 19 + 6 + 10) (by omega)
      have y16 := hrow9.frozen (k * 19 + 6 + 10)
      have q17 := hrow9.cell (i := k * 19 + 6 + 11) (by omega)
      have y17 := hrow9.frozen (k * 19 + 6 + 11)
      have q18 := hrow9.cell (i := k * 19 + 6 + 12) (by omega)
      have y18 := hrow9.frozen (k * 19 + 6 + 12)
      clear hrow9
      go_wp2_with fail
      clear hkc y0 y1 y2 y3 y4 y5 y6 y7 y8 y9 y10 y11 y12 y13 y14 y15 y16 y17 y18 q0 q1 q2 q3 q4 q5 q6 q7 q8 q9 q10 q11 q12 q13 q14 q15 q16 q17 q18
      have O9_15 := OwnC.setv (D := D ++ [.v (.int .i64 (kk)), .v (.int .i64 (kk + 1)), .v (.int .i64 (kk + 1 + 1)), .v (.string (mt (kk + 1 + 1 + 1))), .v (.int .i64 (kk + 1 + 1 + 1 + 1)), .s 153 8 z5.length (mkL (FEntry.flat z5) (kk + 1 + 1 + 1 + 1 + 1)), .v (.int .i64 (k5_)), .v (.int .i64 (k5_ + 1)), .s 3 1 z8.length (mkL (FInt.flat z8) (k5_ + 1 + 1)), .s 82 5 z9.length (mkL (FValue.flat z9) (k8_)), .s 156 9 z10.length (mkL (FCall.flat z10) (k9_)), .s 224 6 z11.length (mkL (FTry.flat z11) (k10_)), .s 160 9 z12.length (mkL (FEnd.flat z12) (k11_)), .v (.int .i64 (k12_)), .v (.string (mt (k12_ + 1)))]) (y := .string z15) (R := .v (.int .i64 z16) :: .v (.int .i64 z17) :: .v (.int .i64 z18) :: R) (by simp only [List.append_assoc, List.cons_append, List.nil_append] at P9 ⊢; exact P9) hF (.string (mt (k12_ + 1 + 1))) (k * 19 + 6 + 9) (by simp [HD.out])
      clear P9
      have O9_16 := OwnC.setv (D := D ++ [.v (.int .i64 (kk)), .v (.int .i64 (kk + 1)), .v (.int .i64 (kk + 1 + 1)), .v (.string (mt (kk + 1 + 1 + 1))), .v (.int .i64 (kk + 1 + 1 + 1 + 1)), .s 153 8 z5.length (mkL (FEntry.flat z5) (kk + 1 + 1 + 1 + 1 + 1)), .v (.int .i64 (k5_)), .v (.int .i64 (k5_ + 1)), .s 3 1 z8.length (mkL (FInt.flat z8) (k5_ + 1 + 1)), .s 82 5 z9.length (mkL (FValue.flat z9) (k8_)), .s 156 9 z10.length (mkL (FCall.flat z10) (k9_)), .s 224 6 z11.length (mkL (FTry.flat z11) (k10_)), .s 160 9 z12.length (mkL (FEnd.flat z12) (k11_)), .v (.int .i64 (k12_)), .v (.string (mt (k12_ + 1))), .v (.string (mt (k12_ + 1 + 1)))]) (y := .int .i64 z16) (R := .v (.int .i64 z17) :: .v (.int .i64 z18) :: R) (by simp only [List.append_assoc, List.cons_append, List.nil_append] at O9_15 ⊢; exact O9_15) hF (.int .i64 (k12_ + 1 + 1 + 1)) (k * 19 + 6 + 10) (by simp [HD.out])
      clear O9_15
      have O9_17 := OwnC.setv (D := D ++ [.v (.int .i64 (kk)), .v (.int .i64 (kk + 1)), .v (.int .i64 (kk + 1 + 1)), .v (.string (mt (kk + 1 + 1 + 1))), .v (.int .i64 (kk + 1 + 1 + 1 + 1)), .s 153 8 z5.length (mkL (FEntry.flat z5) (kk + 1 + 1 + 1 + 1 + 1)), .v (.int .i64 (k5_)), .v (.int .i64 (k5_ + 1)), .s 3 1 z8.length (mkL (FInt.flat z8) (k5_ + 1 + 1)), .s 82 5 z9.length (mkL (FValue.flat z9) (k8_)), .s 156 9 z10.length (mkL (FCall.flat z10) (k9_)), .s 224 6 z11.length (mkL (FTry.flat z11) (k10_)), .s 160 9 z12.length (mkL (FEnd.flat z12) (k11_)), .v (.int .i64 (k12_)), .v (.string (mt (k12_ + 1))), .v (.string (mt (k12_ + 1 + 1))), .v (.int .i64 (k12_ + 1 + 1 + 1))]) (y := .int .i64 z17) (R := .v (.int .i64 z18) :: R) (by simp only [List.append_assoc, List.cons_append, List.nil_append] at O9_16 ⊢; exact O9_16) hF (.int .i64 (k12_ + 1 + 1 + 1 + 1)) (k * 19 + 6 + 11) (by simp [HD.out])
      clear O9_16
      have O9_18 := OwnC.setv (D := D ++ [.v (.int .i64 (kk)), .v (.int .i64 (kk + 1)), .v (.int .i64 (kk + 1 + 1)), .v (.string (mt (kk + 1 + 1 + 1))), .v (.int .i64 (kk + 1 + 1 + 1 + 1)), .s 153 8 z5.length (mkL (FEntry.flat z5) (kk + 1 + 1 + 1 + 1 + 1)), .v (.int .i64 (k5_)), .v (.int .i64 (k5_ + 1)), .s 3 1 z8.length (mkL (FInt.flat z8) (k5_ + 1 + 1)), .s 82 5 z9.length (mkL (FValue.flat z9) (k8_)), .s 156 9 z10.length (mkL (FCall.flat z10) (k9_)), .s 224 6 z11.length (mkL (FTry.flat z11) (k10_)), .s 160 9 z12.length (mkL (FEnd.flat z12) (k11_)), .v (.int .i64 (k12_)), .v (.string (mt (k12_ + 1))), .v (.string (mt (k12_ + 1 + 1))), .v (.int .i64 (k12_ + 1 + 1 + 1)), .v (.int .i64 (k12_ + 1 + 1 + 1 + 1))]) (y := .int .i64 z18) (R := R) (by simp only [List.append_assoc, List.cons_append, List.nil_append] at O9_17 ⊢; exact O9_17) hF (.int .i64 (k12_ + 1 + 1 + 1 + 1 + 1)) (k * 19 + 6 + 12) (by simp [HD.out])
      clear O9_17
      go_roundw
      case rel =>
        have hmk : mkL (FGen.c ⟨z0, ⟨z1, z2, z3, z4, z5⟩, ⟨z6, z7, z8, z9, z10, z11, z12, z13, z14, z15, z16, z17, z18⟩⟩) kk = [.v (.int .i64 (kk)), .v (.int .i64 (kk + 1)), .v (.int .i64 (kk + 1 + 1)), .v (.string (mt (kk + 1 + 1 + 1))), .v (.int .i64 (kk + 1 + 1 + 1 + 1)), .s 153 8 z5.length (mkL (FEntry.flat z5) (kk + 1 + 1 + 1 + 1 + 1)), .v (.int .i64 (k5_)), .v (.int .i64 (k5_ + 1)), .s 3 1 z8.length (mkL (FInt.flat z8) (k5_ + 1 + 1)), .s 82 5 z9.length (mkL (FValue.flat z9) (k8_)), .s 156 9 z10.length (mkL (FCall.flat z10) (k9_)), .s 224 6 z11.length (mkL (FTry.flat z11) (k10_)), .s 160 9 z12.length (mkL (FEnd.flat z12) (k11_)), .v (.int .i64 (k12_)), .v (.string (mt (k12_ + 1))), .v (.string (mt (k12_ + 1 + 1))), .v (.int .i64 (k12_ + 1 + 1 + 1)), .v (.int .i64 (k12_ + 1 + 1 + 1 + 1)), .v (.int .i64 (k12_ + 1 + 1 + 1 + 1 + 1))] := by
          rw [FGen.c_eq]
          rw [mkL_v (kk + 1) (by omega)]
          rw [mkL_v (kk + 1 + 1) (by omega)]
          rw [mkL_v (kk + 1 + 1 + 1) (by omega)]
          rw [mkL_v (kk + 1 + 1 + 1 + 1) (by omega)]
          rw [mkL_v (kk + 1 + 1 + 1 + 1 + 1) (by omega)]
          rw [mkL_s (k5_) (by rw [← HN5.out]; exact HNK5.out)]
          rw [mkL_v (k5_ + 1) (by omega)]
          rw [mkL_v (k5_ + 1 + 1) (by omega)]
          rw [mkL_s (k8_) (by rw [← HN8.out]; exact HNK8.out)]
          rw [mkL_s (k9_) (by rw [← HN9.out]; exact HNK9.out)]
          rw [mkL_s (k10_) (by rw [← HN10.out]; exact HNK10.out)]
          rw [mkL_s (k11_) (by rw [← HN11.out]; exact HNK11.out)]
          rw [mkL_s (k12_) (by rw [← HN12.out]; exact HNK12.out)]
          rw [mkL_v (k12_ + 1) (by omega)]
          rw [mkL_v (k12_ + 1 + 1) (by omega)]
          rw [mkL_v (k12_ + 1 + 1 + 1) (by omega)]
          rw [mkL_v (k12_ + 1 + 1 + 1 + 1) (by omega)]
          rw [mkL_v (k12_ + 1 + 1 + 1 + 1 + 1) (by omega)]
          rw [mkL_v (k12_ + 1 + 1 + 1 + 1 + 1 + 1) (by omega)]
          rw [mkL_nil]
          rfl
        have hcn : cntL (FGen.flat (l.take (k + 1))) = CC + (13 + N5 + N8 + N9 + N10 + N11 + N12) := by
          rw [FGen.flat_take l k _ HX.out, cntL_append, HCC.out, FGen.cnt_eq]
          rw [← HN5.out]; rw [← HN8.out]; rw [← HN9.out]; rw [← HN10.out]; rw [← HN11.out]; rw [← HN12.out]; try omega
        have hall : mkL (FGen.flat (l.take (k + 1))) k0 = D ++ [.v (.int .i64 (kk)), .v (.int .i64 (kk + 1)), .v (.int .i64 (kk + 1 + 1)), .v (.string (mt (kk + 1 + 1 + 1))), .v (.int .i64 (kk + 1 + 1 + 1 + 1)), .s 153 8 z5.length (mkL (FEntry.flat z5) (kk + 1 + 1 + 1 + 1 + 1)), .v (.int .i64 (k5_)), .v (.int .i64 (k5_ + 1)), .s 3 1 z8.length (mkL (FInt.flat z8) (k5_ + 1 + 1)), .s 82 5 z9.length (mkL (FValue.flat z9) (k8_)), .s 156 9 z10.length (mkL (FCall.flat z10) (k9_)), .s 224 6 z11.length (mkL (FTry.flat z11) (k10_)), .s 160 9 z12.length (mkL (FEnd.flat z12) (k11_)), .v (.int .i64 (k12_)), .v (.string (mt (k12_ + 1))), .v (.string (mt (k12_ + 1 + 1))), .v (.int .i64 (k12_ + 1 + 1 + 1)), .v (.int .i64 (k12_ + 1 + 1 + 1 + 1)), .v (.int .i64 (k12_ + 1 + 1 + 1 + 1 + 1))] := by
          rw [FGen.flat_take l k _ HX.out, mkL_append, HCC.out, ← HKK.out, ← HDD.out, hmk]
        refine ⟨k + 1, _, by omega, by go_num, rfl, ?_, ?_, (OnlyF.set (OnlyF.set (OnlyF.set (OnlyF.set G9.out (p := ⟨g, k * 19 + 6 + 9, none⟩) HG.out (.string (mt (k12_ + 1 + 1)))) (p := ⟨g, k * 19 + 6 + 10, none⟩) HG.out (.int .i64 (k12_ + 1 + 1 + 1))) (p := ⟨g, k * 19 + 6 + 11, none⟩) HG.out (.int .i64 (k12_ + 1 + 1 + 1 + 1))) (p := ⟨g, k * 19 + 6 + 12, none⟩) HG.out (.int .i64 (k12_ + 1 + 1 + 1 + 1 + 1)))⟩
        · rw [hcn]
          have := HKK.out
          have := HNK5.out; have := HNK8.out; have := HNK9.out; have := HNK10.out; have := HNK11.out; have := HNK12.out; omega
        · rw [hall, ← HRR.out]
          simp only [List.append_assoc, List.cons_append, List.nil_append] at O9_18 ⊢
          exact O9_18
      case measure => simp [intOf]; omega
    · obtain rfl : k = l.length := by omega
      clear hlt
      go_wp2_with fail
      go_ret
      have e := HO1.out
      rw [List.take_length, List.drop_length] at e
      have e2 := HKK.out
      rw [List.take_length] at e2
      exact ⟨ret_int e2, by simpa using e, HGG.out⟩
theorem markGenS_any (l : List FGen) : MarkGenS l := markGenS_of l (fun x _ => by
  obtain ⟨z0, ⟨z1, z2, z3, z4, z5⟩, ⟨z6, z7, z8, z9, z10, z11, z12, z13, z14, z15, z16, z17, z18⟩⟩ := x
  exact ⟨markEntryS_any z5, markIntS_any z8, markValueS_any z9, markCallS_any z10, markTryS_any z11, markEndS_any z12⟩)
theorem FHeader.flat_len (l : List FHeader) : (FHeader.flat l).length = l.length * 2 := by
  induction l with
  | nil => simp
  | cons x r ih =>
    have e : FHeader.flat (x :: r) = x.c ++ FHeader.flat r := List.flatMap_cons
    rw [e, List.length_append, ih, FHeader.len, List.length_cons]
    omega
theorem FHeader.flat_at (l : List FHeader) (k : Nat) (x : FHeader) (h : l[k]? = some x) : l.drop k = x :: l.drop (k + 1) := by
  have hk := (List.getElem?_eq_some_iff.1 h).1
  rw [List.drop_eq_getElem_cons hk, (List.getElem?_eq_some_iff.1 h).2]
theorem FHeader.flat_take (l : List FHeader) (k : Nat) (x : FHeader) (h : l[k]? = some x) : FHeader.flat (l.take (k + 1)) = FHeader.flat (l.take k) ++ x.c := by
  rw [List.take_add_one, h]
  simp [FHeader.flat]
theorem FHeader.flat_split (l : List FHeader) (k : Nat) (x : FHeader) (h : l[k]? = some x) : FHeader.flat l = FHeader.flat (l.take k) ++ (x.c ++ FHeader.flat (l.drop (k + 1))) := by
  have e : FHeader.flat (l.take k ++ l.drop k) = FHeader.flat (l.take k) ++ FHeader.flat (l.drop k) := List.flatMap_append
  rw [List.take_append_drop] at e
  rw [e, FHeader.flat_at l k x h]
  have e2 : FHeader.flat (x :: l.drop (k + 1)) = x.c ++ FHeader.flat (l.drop (k + 1)) := List.flatMap_cons
  rw [e2]
theorem FHeader.cnt_at (l : List FHeader) (k : Nat) (x : FHeader) (h : l[k]? = some x) : cntL (FHeader.flat (l.take k)) + cntL x.c ≤ cntL (FHeader.flat l) := by
  rw [FHeader.flat_split l k x h, cntL_append, cntL_append]
  omega
theorem FHeader.cnt_eq (z0 : ByteArray) (z1 : ByteArray) : cntL (FHeader.c ⟨z0, z1⟩) = 2 := by
  rw [FHeader.c_eq]
  simp only [cntL, Cel.cnt]
  try omega
def MarkHeaderS (l : List FHeader) : Prop := ∀ (u : Value) (k0 : Int) (F : List Nat) (w : World), 1 ≤ k0 → k0 + (cntL (FHeader.flat l) : Int) ≤ 1000000000000000 → F.Nodup → OwnC w (.s 208 2 l.length (FHeader.flat l)) F u → Calls Tryz.prog 87 #[u, .int .i64 k0] w fun e w' => e = .returned (.int .i64 (k0 + (cntL (FHeader.flat l) : Int))) ∧ OwnC w' (.s 208 2 l.length (mkL (FHeader.flat l) k0)) F u ∧ OnlyF F w w'
theorem cntb1_Header (x : FHeader) : cntL x.c ≤ 20 + 20 * x.wt := by
  obtain ⟨z0, z1⟩ := x
  rw [FHeader.cnt_eq, FHeader.wt_eq]
  omega
theorem cntb_HeaderS : ∀ l : List FHeader, cntL (FHeader.flat l) ≤ 20 * (l.length + FHeader.wts l)
  | [] => by simp [cntL]
  | x :: r => by
    have e : FHeader.flat (x :: r) = x.c ++ FHeader.flat r := List.flatMap_cons
    have h1 := cntb1_Header x
    have h2 := cntb_HeaderS r
    rw [e, cntL_append, FHeader.wts, List.length_cons]
    omega
theorem markHeaderS_of (l : List FHeader) : MarkHeaderS l := by
  intro u k0 F w h1 h2 hF hO
  obtain ⟨A, c, rfl⟩ := hO.form
  have hcap := hO.read.cap
  have hn : l.length ≤ 9223372036854775807 := by unfold maxLen at hcap; omega
  have HO := hid hO
  clear hcap
  by_cases hl0 : l.length = 0
  · obtain rfl : l = [] := List.eq_nil_of_length_eq_zero hl0
    clear hO hl0
    go_enter Tryz.func87, Tryz.ntmps87
    go_wp2_with fail
    go_loop [1, 5] (fun kv i => kv = .int .i64 k0 ∧ i = .int .i64 0) (fun _ i => 0)
    case atStart => exact ⟨rfl, rfl⟩
    case round =>
      obtain ⟨rfl, rfl⟩ := hrel
      go_wp2_with fail
      go_ret
      exact ⟨ret_int (by simp [cntL]), by simpa [mkL] using HO.out, OnlyF.refl _ _⟩
  obtain ⟨g, hA, hg⟩ := hO.head (by omega)
  subst hA
  have HG := hid hg
  clear hO hg hl0
  go_enter Tryz.func87, Tryz.ntmps87
  go_wp2_with fail
  go_loopw [1, 5] (fun kv i wr => ∃ (k : Nat) (kk : Int), k ≤ l.length ∧ i = .int .i64 k ∧ kv = .int .i64 kk ∧ kk = k0 + (cntL (FHeader.flat (l.take k)) : Int) ∧ OwnC wr (.s 208 2 l.length (mkL (FHeader.flat (l.take k)) k0 ++ FHeader.flat (l.drop k))) F (.slice (some ⟨g, 0, none⟩) l.length c) ∧ OnlyF F w wr) (fun _ i _ => l.length - (intOf i).toNat)
  case atStart => exact ⟨0, k0, Nat.zero_le _, rfl, rfl, by simp [cntL], by simpa [mkL] using HO.out, OnlyF.refl _ _⟩
  case round =>
    obtain ⟨k, kk, hk, rfl, rfl, hkk, hO, hG⟩ := hrel
    have HKK := hid hkk
    have HO1 := hid hO
    have HGG := hid hG
    clear hO hG
    by_cases hlt : k < l.length
    · obtain ⟨x, hx⟩ : ∃ x, l[k]? = some x := ⟨_, List.getElem?_eq_getElem hlt⟩
      have HX := hid hx
      have hca := FHeader.cnt_at l k x hx
      have hD0 : (mkL (FHeader.flat (l.take k)) k0).length = k * 2 := by rw [mkL_len, FHeader.flat_len, List.length_take]; congr 1; omega
      have hO2 := HO1.out
      rw [FHeader.flat_at l k x hx] at hO2
      obtain ⟨z0, z1⟩ := x
      rw [show FHeader.flat (⟨z0, z1⟩ :: l.drop (k + 1)) = (FHeader.c ⟨z0, z1⟩) ++ FHeader.flat (l.drop (k + 1)) from List.flatMap_cons, FHeader.c_eq] at hO2
      rw [FHeader.cnt_eq] at hca
      obtain ⟨D, hDD⟩ : ∃ D, D = mkL (FHeader.flat (l.take k)) k0 := ⟨_, rfl⟩
      rw [← hDD] at hD0 hO2
      obtain ⟨R, hRR⟩ : ∃ R, R = FHeader.flat (l.drop (k + 1)) := ⟨_, rfl⟩
      rw [← hRR] at hO2
      have HD := hid hD0
      have HDD := hid hDD
      have HRR := hid hRR
      have hkp : 1 ≤ kk := by omega
      generalize hCC : cntL (FHeader.flat (l.take k)) = CC at *
      have hkb : kk + ((2 : Nat) : Int) ≤ 1000000000000000 := by omega
      have HCC := hid hCC
      clear hx hD0 hDD hRR hkk hca hCC 
      obtain ⟨f0, hrow0, hnc0, hln0⟩ := hO2.row
      have hkc : k * 2 + 2 ≤ c * 2 := by have := Nat.mul_le_mul_right 2 (show k + 1 ≤ c by omega); rw [Nat.succ_mul] at this; exact this
      have q0 := hrow0.cell (i := k * 2) (by omega)
      have y0 := hrow0.frozen (k * 2)
      have q1 := hrow0.cell (i := k * 2 + 1) (by omega)
      have y1 := hrow0.frozen (k * 2 + 1)
      clear hrow0
      go_wp2_with fail
      clear hkc y0 y1 q0 q1
      refine (markText_any _ _ (by omega)).mono ?_
      rintro e w2 ⟨rfl, hb1⟩
      have G1 := hid (OnlyF.of_below HGG.out hb1)
      have P1 := hO2.below hb1 (Nat.le_refl _)
      clear hO2 hb1
      obtain ⟨f1, hrow1, hnc1, hln1⟩ := P1.row
      have hkc : k * 2 + 2 ≤ c * 2 := by have := Nat.mul_le_mul_right 2 (show k + 1 ≤ c by omega); rw [Nat.succ_mul] at this; exact this
      have q0 := hrow1.cell (i := k * 2) (by omega)
      have y0 := hrow1.frozen (k * 2)
      have q1 := hrow1.cell (i := k * 2 + 1) (by omega)
      have y1 := hrow1.frozen (k * 2 + 1)
      clear hrow1
      go_wp2_with fail
      clear hkc y0 y1 q0 q1
      have O1_0 := OwnC.setv (D := D) (y := .string z0) (R := .v (.string z1) :: R) (by simp only [List.append_assoc, List.cons_append, List.nil_append] at P1 ⊢; exact P1) hF (.string (mt (kk))) (k * 2) (by simp [HD.out])
      clear P1
      refine (markText_any _ _ (by omega)).mono ?_
      rintro e w3 ⟨rfl, hb2⟩
      have G2 := hid (OnlyF.of_below (OnlyF.set G1.out (p := ⟨g, k * 2, none⟩) HG.out (.string (mt (kk)))) hb2)
      have P2 := O1_0.below hb2 (Nat.le_refl _)
      clear O1_0 hb2
      obtain ⟨f2, hrow2, hnc2, hln2⟩ := P2.row
      have hkc : k * 2 + 2 ≤ c * 2 := by have := Nat.mul_le_mul_right 2 (show k + 1 ≤ c by omega); rw [Nat.succ_mul] at this; exact this
      have q0 := hrow2.cell (i := k * 2) (by omega)
      have y0 := hrow2.frozen (k * 2)
      have q1 := hrow2.cell (i := k * 2 + 1) (by omega)
      have y1 := hrow2.frozen (k * 2 + 1)
      clear hrow2
      go_wp2_with fail
      clear hkc y0 y1 q0 q1
      have O2_1 := OwnC.setv (D := D ++ [.v (.string (mt (kk)))]) (y := .string z1) (R := R) (by simp only [List.append_assoc, List.cons_append, List.nil_append] at P2 ⊢; exact P2) hF (.string (mt (kk + 1))) (k * 2 + 1) (by simp [HD.out])
      clear P2
      go_roundw
      case rel =>
        have hmk : mkL (FHeader.c ⟨z0, z1⟩) kk = [.v (.string (mt (kk))), .v (.string (mt (kk + 1)))] := by
          rw [FHeader.c_eq]
          rw [mkL_v (kk + 1) (by omega)]
          rw [mkL_v (kk + 1 + 1) (by omega)]
          rw [mkL_nil]
          rfl
        have hcn : cntL (FHeader.flat (l.take (k + 1))) = CC + (2) := by
          rw [FHeader.flat_take l k _ HX.out, cntL_append, HCC.out, FHeader.cnt_eq]
          try omega
        have hall : mkL (FHeader.flat (l.take (k + 1))) k0 = D ++ [.v (.string (mt (kk))), .v (.string (mt (kk + 1)))] := by
          rw [FHeader.flat_take l k _ HX.out, mkL_append, HCC.out, ← HKK.out, ← HDD.out, hmk]
        refine ⟨k + 1, _, by omega, by go_num, rfl, ?_, ?_, (OnlyF.set G2.out (p := ⟨g, k * 2 + 1, none⟩) HG.out (.string (mt (kk + 1))))⟩
        · rw [hcn]
          have := HKK.out
          omega
        · rw [hall, ← HRR.out]
          simp only [List.append_assoc, List.cons_append, List.nil_append] at O2_1 ⊢
          exact O2_1
      case measure => simp [intOf]; omega
    · obtain rfl : k = l.length := by omega
      clear hlt
      go_wp2_with fail
      go_ret
      have e := HO1.out
      rw [List.take_length, List.drop_length] at e
      have e2 := HKK.out
      rw [List.take_length] at e2
      exact ⟨ret_int e2, by simpa using e, HGG.out⟩
theorem markHeaderS_any (l : List FHeader) : MarkHeaderS l := markHeaderS_of l
theorem FBuffer.flat_len (l : List FBuffer) : (FBuffer.flat l).length = l.length * 2 := by
  induction l with
  | nil => simp
  | cons x r ih =>
    have e : FBuffer.flat (x :: r) = x.c ++ FBuffer.flat r := List.flatMap_cons
    rw [e, List.length_append, ih, FBuffer.len, List.length_cons]
    omega
theorem FBuffer.flat_at (l : List FBuffer) (k : Nat) (x : FBuffer) (h : l[k]? = some x) : l.drop k = x :: l.drop (k + 1) := by
  have hk := (List.getElem?_eq_some_iff.1 h).1
  rw [List.drop_eq_getElem_cons hk, (List.getElem?_eq_some_iff.1 h).2]
theorem FBuffer.flat_take (l : List FBuffer) (k : Nat) (x : FBuffer) (h : l[k]? = some x) : FBuffer.flat (l.take (k + 1)) = FBuffer.flat (l.take k) ++ x.c := by
  rw [List.take_add_one, h]
  simp [FBuffer.flat]
theorem FBuffer.flat_split (l : List FBuffer) (k : Nat) (x : FBuffer) (h : l[k]? = some x) : FBuffer.flat l = FBuffer.flat (l.take k) ++ (x.c ++ FBuffer.flat (l.drop (k + 1))) := by
  have e : FBuffer.flat (l.take k ++ l.drop k) = FBuffer.flat (l.take k) ++ FBuffer.flat (l.drop k) := List.flatMap_append
  rw [List.take_append_drop] at e
  rw [e, FBuffer.flat_at l k x h]
  have e2 : FBuffer.flat (x :: l.drop (k + 1)) = x.c ++ FBuffer.flat (l.drop (k + 1)) := List.flatMap_cons
  rw [e2]
theorem FBuffer.cnt_at (l : List FBuffer) (k : Nat) (x : FBuffer) (h : l[k]? = some x) : cntL (FBuffer.flat (l.take k)) + cntL x.c ≤ cntL (FBuffer.flat l) := by
  rw [FBuffer.flat_split l k x h, cntL_append, cntL_append]
  omega
theorem FBuffer.cnt_eq (z0 : Int) (z1 : ByteArray) : cntL (FBuffer.c ⟨z0, z1⟩) = 2 := by
  rw [FBuffer.c_eq]
  simp only [cntL, Cel.cnt]
  try omega
def MarkBufferS (l : List FBuffer) : Prop := ∀ (u : Value) (k0 : Int) (F : List Nat) (w : World), 1 ≤ k0 → k0 + (cntL (FBuffer.flat l) : Int) ≤ 1000000000000000 → F.Nodup → OwnC w (.s 210 2 l.length (FBuffer.flat l)) F u → Calls Tryz.prog 88 #[u, .int .i64 k0] w fun e w' => e = .returned (.int .i64 (k0 + (cntL (FBuffer.flat l) : Int))) ∧ OwnC w' (.s 210 2 l.length (mkL (FBuffer.flat l) k0)) F u ∧ OnlyF F w w'
theorem cntb1_Buffer (x : FBuffer) : cntL x.c ≤ 20 + 20 * x.wt := by
  obtain ⟨z0, z1⟩ := x
  rw [FBuffer.cnt_eq, FBuffer.wt_eq]
  omega
theorem cntb_BufferS : ∀ l : List FBuffer, cntL (FBuffer.flat l) ≤ 20 * (l.length + FBuffer.wts l)
  | [] => by simp [cntL]
  | x :: r => by
    have e : FBuffer.flat (x :: r) = x.c ++ FBuffer.flat r := List.flatMap_cons
    have h1 := cntb1_Buffer x
    have h2 := cntb_BufferS r
    rw [e, cntL_append, FBuffer.wts, List.length_cons]
    omega
theorem markBufferS_of (l : List FBuffer) : MarkBufferS l := by
  intro u k0 F w h1 h2 hF hO
  obtain ⟨A, c, rfl⟩ := hO.form
  have hcap := hO.read.cap
  have hn : l.length ≤ 9223372036854775807 := by unfold maxLen at hcap; omega
  have HO := hid hO
  clear hcap
  by_cases hl0 : l.length = 0
  · obtain rfl : l = [] := List.eq_nil_of_length_eq_zero hl0
    clear hO hl0
    go_enter Tryz.func88, Tryz.ntmps88
    go_wp2_with fail
    go_loop [1, 5] (fun kv i => kv = .int .i64 k0 ∧ i = .int .i64 0) (fun _ i => 0)
    case atStart => exact ⟨rfl, rfl⟩
    case round =>
      obtain ⟨rfl, rfl⟩ := hrel
      go_wp2_with fail
      go_ret
      exact ⟨ret_int (by simp [cntL]), by simpa [mkL] using HO.out, OnlyF.refl _ _⟩
  obtain ⟨g, hA, hg⟩ := hO.head (by omega)
  subst hA
  have HG := hid hg
  clear hO hg hl0
  go_enter Tryz.func88, Tryz.ntmps88
  go_wp2_with fail
  go_loopw [1, 5] (fun kv i wr => ∃ (k : Nat) (kk : Int), k ≤ l.length ∧ i = .int .i64 k ∧ kv = .int .i64 kk ∧ kk = k0 + (cntL (FBuffer.flat (l.take k)) : Int) ∧ OwnC wr (.s 210 2 l.length (mkL (FBuffer.flat (l.take k)) k0 ++ FBuffer.flat (l.drop k))) F (.slice (some ⟨g, 0, none⟩) l.length c) ∧ OnlyF F w wr) (fun _ i _ => l.length - (intOf i).toNat)
  case atStart => exact ⟨0, k0, Nat.zero_le _, rfl, rfl, by simp [cntL], by simpa [mkL] using HO.out, OnlyF.refl _ _⟩
  case round =>
    obtain ⟨k, kk, hk, rfl, rfl, hkk, hO, hG⟩ := hrel
    have HKK := hid hkk
    have HO1 := hid hO
    have HGG := hid hG
    clear hO hG
    by_cases hlt : k < l.length
    · obtain ⟨x, hx⟩ : ∃ x, l[k]? = some x := ⟨_, List.getElem?_eq_getElem hlt⟩
      have HX := hid hx
      have hca := FBuffer.cnt_at l k x hx
      have hD0 : (mkL (FBuffer.flat (l.take k)) k0).length = k * 2 := by rw [mkL_len, FBuffer.flat_len, List.length_take]; congr 1; omega
      have hO2 := HO1.out
      rw [FBuffer.flat_at l k x hx] at hO2
      obtain ⟨z0, z1⟩ := x
      rw [show FBuffer.flat (⟨z0, z1⟩ :: l.drop (k + 1)) = (FBuffer.c ⟨z0, z1⟩) ++ FBuffer.flat (l.drop (k + 1)) from List.flatMap_cons, FBuffer.c_eq] at hO2
      rw [FBuffer.cnt_eq] at hca
      obtain ⟨D, hDD⟩ : ∃ D, D = mkL (FBuffer.flat (l.take k)) k0 := ⟨_, rfl⟩
      rw [← hDD] at hD0 hO2
      obtain ⟨R, hRR⟩ : ∃ R, R = FBuffer.flat (l.drop (k + 1)) := ⟨_, rfl⟩
      rw [← hRR] at hO2
      have HD := hid hD0
      have HDD := hid hDD
      have HRR := hid hRR
      have hkp : 1 ≤ kk := by omega
      generalize hCC : cntL (FBuffer.flat (l.take k)) = CC at *
      have hkb : kk + ((2 : Nat) : Int) ≤ 1000000000000000 := by omega
      have HCC := hid hCC
      clear hx hD0 hDD hRR hkk hca hCC 
      obtain ⟨f0, hrow0, hnc0, hln0⟩ := hO2.row
      have hkc : k * 2 + 2 ≤ c * 2 := by have := Nat.mul_le_mul_right 2 (show k + 1 ≤ c by omega); rw [Nat.succ_mul] at this; exact this
      have q0 := hrow0.cell (i := k * 2) (by omega)
      have y0 := hrow0.frozen (k * 2)
      have q1 := hrow0.cell (i := k * 2 + 1) (by omega)
      have y1 := hrow0.frozen (k * 2 + 1)
      clear hrow0
      go_wp2_with fail
      clear hkc y0 y1 q0 q1
      have O0_0 := OwnC.setv (D := D) (y := .int .i64 z0) (R := .v (.string z1) :: R) (by simp only [List.append_assoc, List.cons_append, List.nil_append] at hO2 ⊢; exact hO2) hF (.int .i64 (kk)) (k * 2) (by simp [HD.out])
      clear hO2
      refine (markText_any _ _ (by omega)).mono ?_
      rintro e w2 ⟨rfl, hb1⟩
      have G1 := hid (OnlyF.of_below (OnlyF.set HGG.out (p := ⟨g, k * 2, none⟩) HG.out (.int .i64 (kk))) hb1)
      have P1 := O0_0.below hb1 (Nat.le_refl _)
      clear O0_0 hb1
      obtain ⟨f1, hrow1, hnc1, hln1⟩ := P1.row
      have hkc : k * 2 + 2 ≤ c * 2 := by have := Nat.mul_le_mul_right 2 (show k + 1 ≤ c by omega); rw [Nat.succ_mul] at this; exact this
      have q0 := hrow1.cell (i := k * 2) (by omega)
      have y0 := hrow1.frozen (k * 2)
      have q1 := hrow1.cell (i := k * 2 + 1) (by omega)
      have y1 := hrow1.frozen (k * 2 + 1)
      clear hrow1
      go_wp2_with fail
      clear hkc y0 y1 q0 q1
      have O1_1 := OwnC.setv (D := D ++ [.v (.int .i64 (kk))]) (y := .string z1) (R := R) (by simp only [List.append_assoc, List.cons_append, List.nil_append] at P1 ⊢; exact P1) hF (.string (mt (kk + 1))) (k * 2 + 1) (by simp [HD.out])
      clear P1
      go_roundw
      case rel =>
        have hmk : mkL (FBuffer.c ⟨z0, z1⟩) kk = [.v (.int .i64 (kk)), .v (.string (mt (kk + 1)))] := by
          rw [FBuffer.c_eq]
          rw [mkL_v (kk + 1) (by omega)]
          rw [mkL_v (kk + 1 + 1) (by omega)]
          rw [mkL_nil]
          rfl
        have hcn : cntL (FBuffer.flat (l.take (k + 1))) = CC + (2) := by
          rw [FBuffer.flat_take l k _ HX.out, cntL_append, HCC.out, FBuffer.cnt_eq]
          try omega
        have hall : mkL (FBuffer.flat (l.take (k + 1))) k0 = D ++ [.v (.int .i64 (kk)), .v (.string (mt (kk + 1)))] := by
          rw [FBuffer.flat_take l k _ HX.out, mkL_append, HCC.out, ← HKK.out, ← HDD.out, hmk]
        refine ⟨k + 1, _, by omega, by go_num, rfl, ?_, ?_, (OnlyF.set G1.out (p := ⟨g, k * 2 + 1, none⟩) HG.out (.string (mt (kk + 1))))⟩
        · rw [hcn]
          have := HKK.out
          omega
        · rw [hall, ← HRR.out]
          simp only [List.append_assoc, List.cons_append, List.nil_append] at O1_1 ⊢
          exact O1_1
      case measure => simp [intOf]; omega
    · obtain rfl : k = l.length := by omega
      clear hlt
      go_wp2_with fail
      go_ret
      have e := HO1.out
      rw [List.take_length, List.drop_length] at e
      have e2 := HKK.out
      rw [List.take_length] at e2
      exact ⟨ret_int e2, by simpa using e, HGG.out⟩
theorem markBufferS_any (l : List FBuffer) : MarkBufferS l := markBufferS_of l
def MarkOutput (x : FOutput) : Prop := ∀ (us : List Value) (k0 : Int) (F : List Nat) (w : World), 1 ≤ k0 → k0 + (scnt x.c : Int) ≤ 1000000000000000 → F.Nodup → OwnL w x.c F us → Calls Tryz.prog 48 #[.agg us.toArray, .int .i64 k0] w fun e w' => e = .returned (.int .i64 (k0 + (scnt x.c : Int))) ∧ OwnL w' (smk x.c k0) F us ∧ OnlyF F w w'
theorem markOutput_of (z0 : ByteArray) (z1 : List FHeader) (z2 : List FBuffer) (h1 : MarkHeaderS z1) (h2 : MarkBufferS z2) : MarkOutput ⟨z0, z1, z2⟩ := by
  intro us k0 F w hq1_ hq2_ hF hO
  obtain ⟨N1, hN1⟩ : ∃ N : Nat, N = cntL (FHeader.flat z1) := ⟨_, rfl⟩
  obtain ⟨N2, hN2⟩ : ∃ N : Nat, N = cntL (FBuffer.flat z2) := ⟨_, rfl⟩
  have hsc : scnt (FOutput.c ⟨z0, z1, z2⟩) = N1 + N2 := by
    rw [FOutput.c_eq]
    simp only [scnt]
    omega
  rw [hsc] at hq2_ ⊢
  obtain ⟨k1_, hk1⟩ : ∃ k : Int, k = k0 + (N1 : Int) := ⟨_, rfl⟩
  obtain ⟨k2_, hk2⟩ : ∃ k : Int, k = k1_ + (N2 : Int) := ⟨_, rfl⟩
  have hsm : smk (FOutput.c ⟨z0, z1, z2⟩) k0 = [.v (.string z0), .s 208 2 z1.length (mkL (FHeader.flat z1) (k0)), .s 210 2 z2.length (mkL (FBuffer.flat z2) (k1_))] := by
    rw [FOutput.c_eq]
    rw [smk_v]
    rw [smk_s k1_ (by rw [← hN1]; exact hk1)]
    rw [smk_s k2_ (by rw [← hN2]; exact hk2)]
    rfl
  rw [hsm]
  have hfin : k0 + ((N1 + N2 : Nat) : Int) = k2_ := by omega
  rw [hfin]
  rw [FOutput.c_eq] at hO
  have hr := hO.vs
  obtain ⟨us0, rfl, hr_0⟩ := hr.unv
  obtain ⟨A1, c1, us1, rfl, r1, hr_1⟩ := hr_0.uns
  obtain ⟨A2, c2, us2, rfl, r2, hr_2⟩ := hr_1.uns
  obtain rfl := hr_2.un0
  clear hsc hsm hr hr_0 hr_1 hr_2 r1 r2
  have hp1 : 1 ≤ k1_ := by omega
  have hp2 : 1 ≤ k2_ := by omega
  have H1 := hid h1
  clear h1
  have H2 := hid h2
  clear h2
  have hb1 : k1_ + ((N2 : Nat) : Int) ≤ 1000000000000000 := by omega
  have hb2 : k2_ + ((0 : Nat) : Int) ≤ 1000000000000000 := by omega
  have HN1 := hid hN1
  have HK1 := hid hk1
  clear hN1 hk1
  have HN2 := hid hN2
  have HK2 := hid hk2
  clear hN2 hk2
  clear hfin
  have HO := hid hO
  clear hO
  go_enter Tryz.func48, Tryz.ntmps48
  go_wp2_with fail
  refine calls_worldD _ (fun X => Blk X w.heap.size 51 #[.string z0, .slice A1 z1.length c1, .slice A2 z2.length c2] ∧ OwnL X [.v (.string z0), .s 208 2 z1.length (FHeader.flat z1), .s 210 2 z2.length (FBuffer.flat z2)] F [.string z0, .slice A1 z1.length c1, .slice A2 z2.length c2] ∧ OnlyF F w X ∧ w.heap.size < X.heap.size) ⟨Blk.new w _ _, OwnL.keep _ _ _ HO.out fun g hg => Below.heap_alloc _ _ _ (OwnL.lt _ _ _ HO.out g hg), (OnlyF.refl _ _).alloc _, by simp⟩ ?_
  rintro X0 ⟨ba, hO, hG, hs⟩
  obtain ⟨Fm, hm, hsub, hnd, hback⟩ := OwnL.sub (D := [.v (.string z0)]) (M := [.s 208 2 z1.length (FHeader.flat z1)]) (R := [.s 210 2 z2.length (FBuffer.flat z2)]) (u1 := [.string z0]) (um := [.slice A1 z1.length c1]) (u3 := [.slice A2 z2.length c2]) hO hF rfl rfl
  have hcall := H1.out _ (k0) Fm X0 (by omega) (by rw [← HN1.out]; omega) hnd hm.unone
  rw [← HN1.out, ← HK1.out] at hcall
  refine hcall.mono ?_
  clear hcall
  rintro e Y0 ⟨rfl, own, hon⟩
  have hlt := OwnL.lt _ _ _ hO
  have hFl : w.heap.size ∉ F := fun e => by have := OwnL.lt _ _ _ HO.out _ e; omega
  replace hO := hback Y0 [.s 208 2 z1.length (mkL (FHeader.flat z1) (k0))] (OwnL.one own) (fun b hb hnb => hon.block b (hlt b hb) hnb)
  replace ba : Blk Y0 w.heap.size 51 #[.string z0, .slice A1 z1.length c1, .slice A2 z2.length c2] := (hon.block _ ba.lt (fun e => hFl (hsub _ e))).trans ba
  replace hG := OnlyF.call hG hon hsub
  replace hs : w.heap.size < Y0.heap.size := Nat.lt_of_lt_of_le hs hon.size
  clear own hon hm hsub hnd hback hlt hFl
  have ba_2 : Y0.cell? ⟨w.heap.size, 2, none⟩ = some (.slice A2 z2.length c2) := ba.cell 2
  have ba_l := ba.lt
  go_wp2_with fail
  refine calls_worldD _ (fun X => Blk X w.heap.size 51 #[.string z0, .slice A1 z1.length c1, .slice A2 z2.length c2] ∧ OwnL X [.v (.string z0), .s 208 2 z1.length (mkL (FHeader.flat z1) (k0)), .s 210 2 z2.length (FBuffer.flat z2)] F [.string z0, .slice A1 z1.length c1, .slice A2 z2.length c2] ∧ OnlyF F w X ∧ w.heap.size < X.heap.size) ⟨ba, hO, hG, hs⟩ ?_
  clear ba hO hG hs ba_2 ba_l
  rintro X1 ⟨ba, hO, hG, hs⟩
  obtain ⟨Fm, hm, hsub, hnd, hback⟩ := OwnL.sub (D := [.v (.string z0), .s 208 2 z1.length (mkL (FHeader.flat z1) (k0))]) (M := [.s 210 2 z2.length (FBuffer.flat z2)]) (R := []) (u1 := [.string z0, .slice A1 z1.length c1]) (um := [.slice A2 z2.length c2]) (u3 := []) hO hF rfl rfl
  have hcall := H2.out _ (k1_) Fm X1 (by omega) (by rw [← HN2.out]; omega) hnd hm.unone
  rw [← HN2.out, ← HK2.out] at hcall
  refine hcall.mono ?_
  clear hcall
  rintro e Y1 ⟨rfl, own, hon⟩
  have hlt := OwnL.lt _ _ _ hO
  have hFl : w.heap.size ∉ F := fun e => by have := OwnL.lt _ _ _ HO.out _ e; omega
  replace hO := hback Y1 [.s 210 2 z2.length (mkL (FBuffer.flat z2) (k1_))] (OwnL.one own) (fun b hb hnb => hon.block b (hlt b hb) hnb)
  replace ba : Blk Y1 w.heap.size 51 #[.string z0, .slice A1 z1.length c1, .slice A2 z2.length c2] := (hon.block _ ba.lt (fun e => hFl (hsub _ e))).trans ba
  replace hG := OnlyF.call hG hon hsub
  replace hs : w.heap.size < Y1.heap.size := Nat.lt_of_lt_of_le hs hon.size
  clear own hon hm hsub hnd hback hlt hFl
  have ba_l := ba.lt
  go_wp2_with fail
  go_ret
  exact ⟨rfl, hO, hG⟩
theorem markOutput_any (x : FOutput) : MarkOutput x := by
  obtain ⟨z0, z1, z2⟩ := x
  exact markOutput_of z0 z1 z2 (markHeaderS_any z1) (markBufferS_any z2)
theorem cntb_Machine (x : FMachine) : scnt x.c ≤ 20 * x.wt := by
  obtain ⟨z0, z1, z2, z3, z4, z5, ⟨z6⟩, z7, z8, z9, z10, ⟨z11, z12, z13⟩⟩ := x
  rw [FMachine.c_eq, FMachine.wt_eq]
  simp only [scnt]
  have b4 := cntb_ValueS z4
  have b5 := cntb_PlaceS z5
  have b6 := cntb_BlockS z6
  have b7 := cntb_ObjectS z7
  have b8 := cntb_ClosureS z8
  have b9 := cntb_GenS z9
  have b10 := cntb_FrameS z10
  have b12 := cntb_HeaderS z12
  have b13 := cntb_BufferS z13
  omega
def MarkMachine (x : FMachine) : Prop := ∀ (us : List Value) (k0 : Int) (F : List Nat) (w : World), 1 ≤ k0 → k0 + (scnt x.c : Int) ≤ 1000000000000000 → F.Nodup → OwnL w x.c F us → Calls Tryz.prog 10 #[.agg us.toArray, .int .i64 k0] w fun e w' => e = .returned (.int .i64 (k0 + (scnt x.c : Int))) ∧ OwnL w' (smk x.c k0) F us ∧ OnlyF F w w'
theorem markMachine_of (z0 : Int) (z1 : ByteArray) (z2 : Int) (z3 : Int) (z4 : List FValue) (z5 : List FPlace) (z6 : List FBlock) (z7 : List FObject) (z8 : List FClosure) (z9 : List FGen) (z10 : List FFrame) (z11 : ByteArray) (z12 : List FHeader) (z13 : List FBuffer) (h4 : MarkValueS z4) (h5 : MarkPlaceS z5) (h6 : MarkHeap ⟨z6⟩) (h7 : MarkObjectS z7) (h8 : MarkClosureS z8) (h9 : MarkGenS z9) (h10 : MarkFrameS z10) (h11 : MarkOutput ⟨z11, z12, z13⟩) : MarkMachine ⟨z0, z1, z2, z3, z4, z5, ⟨z6⟩, z7, z8, z9, z10, ⟨z11, z12, z13⟩⟩ := by
  intro us k0 F w hq1_ hq2_ hF hO
  obtain ⟨N4, hN4⟩ : ∃ N : Nat, N = cntL (FValue.flat z4) := ⟨_, rfl⟩
  obtain ⟨N5, hN5⟩ : ∃ N : Nat, N = cntL (FPlace.flat z5) := ⟨_, rfl⟩
  obtain ⟨N6, hN6⟩ : ∃ N : Nat, N = cntL (FBlock.flat z6) := ⟨_, rfl⟩
  obtain ⟨N7, hN7⟩ : ∃ N : Nat, N = cntL (FObject.flat z7) := ⟨_, rfl⟩
  obtain ⟨N8, hN8⟩ : ∃ N : Nat, N = cntL (FClosure.flat z8) := ⟨_, rfl⟩
  obtain ⟨N9, hN9⟩ : ∃ N : Nat, N = cntL (FGen.flat z9) := ⟨_, rfl⟩
  obtain ⟨N10, hN10⟩ : ∃ N : Nat, N = cntL (FFrame.flat z10) := ⟨_, rfl⟩
  obtain ⟨N12, hN12⟩ : ∃ N : Nat, N = cntL (FHeader.flat z12) := ⟨_, rfl⟩
  obtain ⟨N13, hN13⟩ : ∃ N : Nat, N = cntL (FBuffer.flat z13) := ⟨_, rfl⟩
  have hsc : scnt (FMachine.c ⟨z0, z1, z2, z3, z4, z5, ⟨z6⟩, z7, z8, z9, z10, ⟨z11, z12, z13⟩⟩) = N4 + N5 + N6 + N7 + N8 + N9 + N10 + N12 + N13 := by
    rw [FMachine.c_eq]
    simp only [scnt]
    omega
  rw [hsc] at hq2_ ⊢
  obtain ⟨k4_, hk4⟩ : ∃ k : Int, k = k0 + (N4 : Int) := ⟨_, rfl⟩
  obtain ⟨k5_, hk5⟩ : ∃ k : Int, k = k4_ + (N5 : Int) := ⟨_, rfl⟩
  obtain ⟨k6_, hk6⟩ : ∃ k : Int, k = k5_ + (N6 : Int) := ⟨_, rfl⟩
  obtain ⟨k7_, hk7⟩ : ∃ k : Int, k = k6_ + (N7 : Int) := ⟨_, rfl⟩
  obtain ⟨k8_, hk8⟩ : ∃ k : Int, k = k7_ + (N8 : Int) := ⟨_, rfl⟩
  obtain ⟨k9_, hk9⟩ : ∃ k : Int, k = k8_ + (N9 : Int) := ⟨_, rfl⟩
  obtain ⟨k10_, hk10⟩ : ∃ k : Int, k = k9_ + (N10 : Int) := ⟨_, rfl⟩
  obtain ⟨k12_, hk12⟩ : ∃ k : Int, k = k10_ + (N12 : Int) := ⟨_, rfl⟩
  obtain ⟨k13_, hk13⟩ : ∃ k : Int, k = k12_ + (N13 : Int) := ⟨_, rfl⟩
  have hsm : smk (FMachine.c ⟨z0, z1, z2, z3, z4, z5, ⟨z6⟩, z7, z8, z9, z10, ⟨z11, z12, z13⟩⟩) k0 = [.v (.int .i64 z0), .v (.string z1), .v (.int .i64 z2), .v (.int .i64 z3), .s 82 5 z4.length (mkL (FValue.flat z4) (k0)), .s 140 2 z5.length (mkL (FPlace.flat z5) (k4_)), .s 201 6 z6.length (mkL (FBlock.flat z6) (k5_)), .s 79 3 z7.length (mkL (FObject.flat z7) (k6_)), .s 144 5 z8.length (mkL (FClosure.flat z8) (k7_)), .s 93 19 z9.length (mkL (FGen.flat z9) (k8_)), .s 91 13 z10.length (mkL (FFrame.flat z10) (k9_)), .v (.string z11), .s 208 2 z12.length (mkL (FHeader.flat z12) (k10_)), .s 210 2 z13.length (mkL (FBuffer.flat z13) (k12_))] := by
    rw [FMachine.c_eq]
    rw [smk_v]
    rw [smk_v]
    rw [smk_v]
    rw [smk_v]
    rw [smk_s k4_ (by rw [← hN4]; exact hk4)]
    rw [smk_s k5_ (by rw [← hN5]; exact hk5)]
    rw [smk_s k6_ (by rw [← hN6]; exact hk6)]
    rw [smk_s k7_ (by rw [← hN7]; exact hk7)]
    rw [smk_s k8_ (by rw [← hN8]; exact hk8)]
    rw [smk_s k9_ (by rw [← hN9]; exact hk9)]
    rw [smk_s k10_ (by rw [← hN10]; exact hk10)]
    rw [smk_v]
    rw [smk_s k12_ (by rw [← hN12]; exact hk12)]
    rw [smk_s k13_ (by rw [← hN13]; exact hk13)]
    rfl
  rw [hsm]
  have hfin : k0 + ((N4 + N5 + N6 + N7 + N8 + N9 + N10 + N12 + N13 : Nat) : Int) = k13_ := by omega
  rw [hfin]
  rw [FMachine.c_eq] at hO
  have hr := hO.vs
  obtain ⟨us0, rfl, hr_0⟩ := hr.unv
  obtain ⟨us1, rfl, hr_1⟩ := hr_0.unv
  obtain ⟨us2, rfl, hr_2⟩ := hr_1.unv
  obtain ⟨us3, rfl, hr_3⟩ := hr_2.unv
  obtain ⟨A4, c4, us4, rfl, r4, hr_4⟩ := hr_3.uns
  obtain ⟨A5, c5, us5, rfl, r5, hr_5⟩ := hr_4.uns
  obtain ⟨A6, c6, us6, rfl, r6, hr_6⟩ := hr_5.uns
  obtain ⟨A7, c7, us7, rfl, r7, hr_7⟩ := hr_6.uns
  obtain ⟨A8, c8, us8, rfl, r8, hr_8⟩ := hr_7.uns
  obtain ⟨A9, c9, us9, rfl, r9, hr_9⟩ := hr_8.uns
  obtain ⟨A10, c10, us10, rfl, r10, hr_10⟩ := hr_9.uns
  obtain ⟨us11, rfl, hr_11⟩ := hr_10.unv
  obtain ⟨A12, c12, us12, rfl, r12, hr_12⟩ := hr_11.uns
  obtain ⟨A13, c13, us13, rfl, r13, hr_13⟩ := hr_12.uns
  obtain rfl := hr_13.un0
  clear hsc hsm hr hr_0 hr_1 hr_2 hr_3 hr_4 hr_5 hr_6 hr_7 hr_8 hr_9 hr_10 hr_11 hr_12 hr_13 r4 r5 r6 r7 r8 r9 r10 r12 r13
  have hp4 : 1 ≤ k4_ := by omega
  have hp5 : 1 ≤ k5_ := by omega
  have hp6 : 1 ≤ k6_ := by omega
  have hp7 : 1 ≤ k7_ := by omega
  have hp8 : 1 ≤ k8_ := by omega
  have hp9 : 1 ≤ k9_ := by omega
  have hp10 : 1 ≤ k10_ := by omega
  have hp12 : 1 ≤ k12_ := by omega
  have hp13 : 1 ≤ k13_ := by omega
  have H4 := hid h4
  clear h4
  have H5 := hid h5
  clear h5
  have H6 := hid h6
  clear h6
  have H7 := hid h7
  clear h7
  have H8 := hid h8
  clear h8
  have H9 := hid h9
  clear h9
  have H10 := hid h10
  clear h10
  have H11 := hid h11
  clear h11
  have hb4 : k4_ + ((N5 + N6 + N7 + N8 + N9 + N10 + N12 + N13 : Nat) : Int) ≤ 1000000000000000 := by omega
  have hb5 : k5_ + ((N6 + N7 + N8 + N9 + N10 + N12 + N13 : Nat) : Int) ≤ 1000000000000000 := by omega
  have hb6 : k6_ + ((N7 + N8 + N9 + N10 + N12 + N13 : Nat) : Int) ≤ 1000000000000000 := by omega
  have hb7 : k7_ + ((N8 + N9 + N10 + N12 + N13 : Nat) : Int) ≤ 1000000000000000 := by omega
  have hb8 : k8_ + ((N9 + N10 + N12 + N13 : Nat) : Int) ≤ 1000000000000000 := by omega
  have hb9 : k9_ + ((N10 + N12 + N13 : Nat) : Int) ≤ 1000000000000000 := by omega
  have hb10 : k10_ + ((N12 + N13 : Nat) : Int) ≤ 1000000000000000 := by omega
  have hb12 : k12_ + ((N13 : Nat) : Int) ≤ 1000000000000000 := by omega
  have hb13 : k13_ + ((0 : Nat) : Int) ≤ 1000000000000000 := by omega
  have HN4 := hid hN4
  have HK4 := hid hk4
  clear hN4 hk4
  have HN5 := hid hN5
  have HK5 := hid hk5
  clear hN5 hk5
  have HN6 := hid hN6
  have HK6 := hid hk6
  clear hN6 hk6
  have HN7 := hid hN7
  have HK7 := hid hk7
  clear hN7 hk7
  have HN8 := hid hN8
  have HK8 := hid hk8
  clear hN8 hk8
  have HN9 := hid hN9
  have HK9 := hid hk9
  clear hN9 hk9
  have HN10 := hid hN10
  have HK10 := hid hk10
  clear hN10 hk10
  have HN12 := hid hN12
  have HK12 := hid hk12
  clear hN12 hk12
  have HN13 := hid hN13
  have HK13 := hid hk13
  clear hN13 hk13
  clear hfin
  have HO := hid hO
  clear hO
  go_enter Tryz.func10, Tryz.ntmps10
  go_wp2_with fail
  refine calls_worldD _ (fun X => Blk X w.heap.size 53 #[.int .i64 z0, .string z1, .int .i64 z2, .int .i64 z3, .slice A4 z4.length c4, .slice A5 z5.length c5, .slice A6 z6.length c6, .slice A7 z7.length c7, .slice A8 z8.length c8, .slice A9 z9.length c9, .slice A10 z10.length c10, .string z11, .slice A12 z12.length c12, .slice A13 z13.length c13] ∧ OwnL X [.v (.int .i64 z0), .v (.string z1), .v (.int .i64 z2), .v (.int .i64 z3), .s 82 5 z4.length (FValue.flat z4), .s 140 2 z5.length (FPlace.flat z5), .s 201 6 z6.length (FBlock.flat z6), .s 79 3 z7.length (FObject.flat z7), .s 144 5 z8.length (FClosure.flat z8), .s 93 19 z9.length (FGen.flat z9), .s 91 13 z10.length (FFrame.flat z10), .v (.string z11), .s 208 2 z12.length (FHeader.flat z12), .s 210 2 z13.length (FBuffer.flat z13)] F [.int .i64 z0, .string z1, .int .i64 z2, .int .i64 z3, .slice A4 z4.length c4, .slice A5 z5.length c5, .slice A6 z6.length c6, .slice A7 z7.length c7, .slice A8 z8.length c8, .slice A9 z9.length c9, .slice A10 z10.length c10, .string z11, .slice A12 z12.length c12, .slice A13 z13.length c13] ∧ OnlyF F w X ∧ w.heap.size < X.heap.size) ⟨Blk.new w _ _, OwnL.keep _ _ _ HO.out fun g hg => Below.heap_alloc _ _ _ (OwnL.lt _ _ _ HO.out g hg), (OnlyF.refl _ _).alloc _, by simp⟩ ?_
  rintro X0 ⟨ba, hO, hG, hs⟩
  obtain ⟨Fm, hm, hsub, hnd, hback⟩ := OwnL.sub (D := [.v (.int .i64 z0), .v (.string z1), .v (.int .i64 z2), .v (.int .i64 z3)]) (M := [.s 82 5 z4.length (FValue.flat z4)]) (R := [.s 140 2 z5.length (FPlace.flat z5), .s 201 6 z6.length (FBlock.flat z6), .s 79 3 z7.length (FObject.flat z7), .s 144 5 z8.length (FClosure.flat z8), .s 93 19 z9.length (FGen.flat z9), .s 91 13 z10.length (FFrame.flat z10), .v (.string z11), .s 208 2 z12.length (FHeader.flat z12), .s 210 2 z13.length (FBuffer.flat z13)]) (u1 := [.int .i64 z0, .string z1, .int .i64 z2, .int .i64 z3]) (um := [.slice A4 z4.length c4]) (u3 := [.slice A5 z5.length c5, .slice A6 z6.length c6, .slice A7 z7.length c7, .slice A8 z8.length c8, .slice A9 z9.length c9, .slice A10 z10.length c10, .string z11, .slice A12 z12.length c12, .slice A13 z13.length c13]) hO hF rfl rfl
  have hcall := H4.out _ (k0) Fm X0 (by omega) (by rw [← HN4.out]; omega) hnd hm.unone
  rw [← HN4.out, ← HK4.out] at hcall
  refine hcall.mono ?_
  clear hcall
  rintro e Y0 ⟨rfl, own, hon⟩
  have hlt := OwnL.lt _ _ _ hO
  have hFl : w.heap.size ∉ F := fun e => by have := OwnL.lt _ _ _ HO.out _ e; omega
  replace hO := hback Y0 [.s 82 5 z4.length (mkL (FValue.flat z4) (k0))] (OwnL.one own) (fun b hb hnb => hon.block b (hlt b hb) hnb)
  replace ba : Blk Y0 w.heap.size 53 #[.int .i64 z0, .string z1, .int .i64 z2, .int .i64 z3, .slice A4 z4.length c4, .slice A5 z5.length c5, .slice A6 z6.length c6, .slice A7 z7.length c7, .slice A8 z8.length c8, .slice A9 z9.length c9, .slice A10 z10.length c10, .string z11, .slice A12 z12.length c12, .slice A13 z13.length c13] := (hon.block _ ba.lt (fun e => hFl (hsub _ e))).trans ba
  replace hG := OnlyF.call hG hon hsub
  replace hs : w.heap.size < Y0.heap.size := Nat.lt_of_lt_of_le hs hon.size
  clear own hon hm hsub hnd hback hlt hFl
  have ba_5 : Y0.cell? ⟨w.heap.size, 5, none⟩ = some (.slice A5 z5.length c5) := ba.cell 5
  have ba_l := ba.lt
  go_wp2_with fail
  refine calls_worldD _ (fun X => Blk X w.heap.size 53 #[.int .i64 z0, .string z1, .int .i64 z2, .int .i64 z3, .slice A4 z4.length c4, .slice A5 z5.length c5, .slice A6 z6.length c6, .slice A7 z7.length c7, .slice A8 z8.length c8, .slice A9 z9.length c9, .slice A10 z10.length c10, .string z11, .slice A12 z12.length c12, .slice A13 z13.length c13] ∧ OwnL X [.v (.int .i64 z0), .v (.string z1), .v (.int .i64 z2), .v (.int .i64 z3), .s 82 5 z4.length (mkL (FValue.flat z4) (k0)), .s 140 2 z5.length (FPlace.flat z5), .s 201 6 z6.length (FBlock.flat z6), .s 79 3 z7.length (FObject.flat z7), .s 144 5 z8.length (FClosure.flat z8), .s 93 19 z9.length (FGen.flat z9), .s 91 13 z10.length (FFrame.flat z10), .v (.string z11), .s 208 2 z12.length (FHeader.flat z12), .s 210 2 z13.length (FBuffer.flat z13)] F [.int .i64 z0, .string z1, .int .i64 z2, .int .i64 z3, .slice A4 z4.length c4, .slice A5 z5.length c5, .slice A6 z6.length c6, .slice A7 z7.length c7, .slice A8 z8.length c8, .slice A9 z9.length c9, .slice A10 z10.length c10, .string z11, .slice A12 z12.length c12, .slice A13 z13.length c13] ∧ OnlyF F w X ∧ w.heap.size < X.heap.size) ⟨ba, hO, hG, hs⟩ ?_
  clear ba hO hG hs ba_5 ba_l
  rintro X1 ⟨ba, hO, hG, hs⟩
  obtain ⟨Fm, hm, hsub, hnd, hback⟩ := OwnL.sub (D := [.v (.int .i64 z0), .v (.string z1), .v (.int .i64 z2), .v (.int .i64 z3), .s 82 5 z4.length (mkL (FValue.flat z4) (k0))]) (M := [.s 140 2 z5.length (FPlace.flat z5)]) (R := [.s 201 6 z6.length (FBlock.flat z6), .s 79 3 z7.length (FObject.flat z7), .s 144 5 z8.length (FClosure.flat z8), .s 93 19 z9.length (FGen.flat z9), .s 91 13 z10.length (FFrame.flat z10), .v (.string z11), .s 208 2 z12.length (FHeader.flat z12), .s 210 2 z13.length (FBuffer.flat z13)]) (u1 := [.int .i64 z0, .string z1, .int .i64 z2, .int .i64 z3, .slice A4 z4.length c4]) (um := [.slice A5 z5.length c5]) (u3 := [.slice A6 z6.length c6, .slice A7 z7.length c7, .slice A8 z8.length c8, .slice A9 z9.length c9, .slice A10 z10.length c10, .string z11, .slice A12 z12.length c12, .slice A13 z13.length c13]) hO hF rfl rfl
  have hcall := H5.out _ (k4_) Fm X1 (by omega) (by rw [← HN5.out]; omega) hnd hm.unone
  rw [← HN5.out, ← HK5.out] at hcall
  refine hcall.mono ?_
  clear hcall
  rintro e Y1 ⟨rfl, own, hon⟩
  have hlt := OwnL.lt _ _ _ hO
  have hFl : w.heap.size ∉ F := fun e => by have := OwnL.lt _ _ _ HO.out _ e; omega
  replace hO := hback Y1 [.s 140 2 z5.length (mkL (FPlace.flat z5) (k4_))] (OwnL.one own) (fun b hb hnb => hon.block b (hlt b hb) hnb)
  replace ba : Blk Y1 w.heap.size 53 #[.int .i64 z0, .string z1, .int .i64 z2, .int .i64 z3, .slice A4 z4.length c4, .slice A5 z5.length c5, .slice A6 z6.length c6, .slice A7 z7.length c7, .slice A8 z8.length c8, .slice A9 z9.length c9, .slice A10 z10.length c10, .string z11, .slice A12 z12.length c12, .slice A13 z13.length c13] := (hon.block _ ba.lt (fun e => hFl (hsub _ e))).trans ba
  replace hG := OnlyF.call hG hon hsub
  replace hs : w.heap.size < Y1.heap.size := Nat.lt_of_lt_of_le hs hon.size
  clear own hon hm hsub hnd hback hlt hFl
  have ba_6 : Y1.cell? ⟨w.heap.size, 6, none⟩ = some (.slice A6 z6.length c6) := ba.cell 6
  have ba_l := ba.lt
  go_wp2_with fail
  refine calls_worldD _ (fun X => Blk X w.heap.size 53 #[.int .i64 z0, .string z1, .int .i64 z2, .int .i64 z3, .slice A4 z4.length c4, .slice A5 z5.length c5, .slice A6 z6.length c6, .slice A7 z7.length c7, .slice A8 z8.length c8, .slice A9 z9.length c9, .slice A10 z10.length c10, .string z11, .slice A12 z12.length c12, .slice A13 z13.length c13] ∧ OwnL X [.v (.int .i64 z0), .v (.string z1), .v (.int .i64 z2), .v (.int .i64 z3), .s 82 5 z4.length (mkL (FValue.flat z4) (k0)), .s 140 2 z5.length (mkL (FPlace.flat z5) (k4_)), .s 201 6 z6.length (FBlock.flat z6), .s 79 3 z7.length (FObject.flat z7), .s 144 5 z8.length (FClosure.flat z8), .s 93 19 z9.length (FGen.flat z9), .s 91 13 z10.length (FFrame.flat z10), .v (.string z11), .s 208 2 z12.length (FHeader.flat z12), .s 210 2 z13.length (FBuffer.flat z13)] F [.int .i64 z0, .string z1, .int .i64 z2, .int .i64 z3, .slice A4 z4.length c4, .slice A5 z5.length c5, .slice A6 z6.length c6, .slice A7 z7.length c7, .slice A8 z8.length c8, .slice A9 z9.length c9, .slice A10 z10.length c10, .string z11, .slice A12 z12.length c12, .slice A13 z13.length c13] ∧ OnlyF F w X ∧ w.heap.size < X.heap.size) ⟨ba, hO, hG, hs⟩ ?_
  clear ba hO hG hs ba_6 ba_l
  rintro X2 ⟨ba, hO, hG, hs⟩
  obtain ⟨Fm, hm, hsub, hnd, hback⟩ := OwnL.sub (D := [.v (.int .i64 z0), .v (.string z1), .v (.int .i64 z2), .v (.int .i64 z3), .s 82 5 z4.length (mkL (FValue.flat z4) (k0)), .s 140 2 z5.length (mkL (FPlace.flat z5) (k4_))]) (M := [.s 201 6 z6.length (FBlock.flat z6)]) (R := [.s 79 3 z7.length (FObject.flat z7), .s 144 5 z8.length (FClosure.flat z8), .s 93 19 z9.length (FGen.flat z9), .s 91 13 z10.length (FFrame.flat z10), .v (.string z11), .s 208 2 z12.length (FHeader.flat z12), .s 210 2 z13.length (FBuffer.flat z13)]) (u1 := [.int .i64 z0, .string z1, .int .i64 z2, .int .i64 z3, .slice A4 z4.length c4, .slice A5 z5.length c5]) (um := [.slice A6 z6.length c6]) (u3 := [.slice A7 z7.length c7, .slice A8 z8.length c8, .slice A9 z9.length c9, .slice A10 z10.length c10, .string z11, .slice A12 z12.length c12, .slice A13 z13.length c13]) hO hF rfl rfl
  have hsU : scnt (FHeap.c ⟨z6⟩) = N6 := by
    rw [FHeap.c_eq]
    simp only [scnt]
    have := HN6.out; omega
  have hcall := H6.out _ (k5_) Fm X2 (by omega) (by rw [hsU]; omega) hnd (by rw [FHeap.c_eq]; exact hm)
  have hsmU : smk (FHeap.c ⟨z6⟩) (k5_) = [.s 201 6 z6.length (mkL (FBlock.flat z6) (k5_))] := by
    rw [FHeap.c_eq]
    rw [smk_s k6_ (by rw [← HN6.out]; exact HK6.out)]
    rfl
  rw [hsU, hsmU, show k5_ + ((N6 : Nat) : Int) = k6_ from by have := HK6.out; omega] at hcall
  clear hsU hsmU
  refine hcall.mono ?_
  clear hcall
  rintro e Y2 ⟨rfl, own, hon⟩
  have hlt := OwnL.lt _ _ _ hO
  have hFl : w.heap.size ∉ F := fun e => by have := OwnL.lt _ _ _ HO.out _ e; omega
  replace hO := hback Y2 [.s 201 6 z6.length (mkL (FBlock.flat z6) (k5_))] own (fun b hb hnb => hon.block b (hlt b hb) hnb)
  replace ba : Blk Y2 w.heap.size 53 #[.int .i64 z0, .string z1, .int .i64 z2, .int .i64 z3, .slice A4 z4.length c4, .slice A5 z5.length c5, .slice A6 z6.length c6, .slice A7 z7.length c7, .slice A8 z8.length c8, .slice A9 z9.length c9, .slice A10 z10.length c10, .string z11, .slice A12 z12.length c12, .slice A13 z13.length c13] := (hon.block _ ba.lt (fun e => hFl (hsub _ e))).trans ba
  replace hG := OnlyF.call hG hon hsub
  replace hs : w.heap.size < Y2.heap.size := Nat.lt_of_lt_of_le hs hon.size
  clear own hon hm hsub hnd hback hlt hFl
  have ba_7 : Y2.cell? ⟨w.heap.size, 7, none⟩ = some (.slice A7 z7.length c7) := ba.cell 7
  have ba_l := ba.lt
  go_wp2_with fail
  refine calls_worldD _ (fun X => Blk X w.heap.size 53 #[.int .i64 z0, .string z1, .int .i64 z2, .int .i64 z3, .slice A4 z4.length c4, .slice A5 z5.length c5, .slice A6 z6.length c6, .slice A7 z7.length c7, .slice A8 z8.length c8, .slice A9 z9.length c9, .slice A10 z10.length c10, .string z11, .slice A12 z12.length c12, .slice A13 z13.length c13] ∧ OwnL X [.v (.int .i64 z0), .v (.string z1), .v (.int .i64 z2), .v (.int .i64 z3), .s 82 5 z4.length (mkL (FValue.flat z4) (k0)), .s 140 2 z5.length (mkL (FPlace.flat z5) (k4_)), .s 201 6 z6.length (mkL (FBlock.flat z6) (k5_)), .s 79 3 z7.length (FObject.flat z7), .s 144 5 z8.length (FClosure.flat z8), .s 93 19 z9.length (FGen.flat z9), .s 91 13 z10.length (FFrame.flat z10), .v (.string z11), .s 208 2 z12.length (FHeader.flat z12), .s 210 2 z13.length (FBuffer.flat z13)] F [.int .i64 z0, .string z1, .int .i64 z2, .int .i64 z3, .slice A4 z4.length c4, .slice A5 z5.length c5, .slice A6 z6.length c6, .slice A7 z7.length c7, .slice A8 z8.length c8, .slice A9 z9.length c9, .slice A10 z10.length c10, .string z11, .slice A12 z12.length c12, .slice A13 z13.length c13] ∧ OnlyF F w X ∧ w.heap.size < X.heap.size) ⟨ba, hO, hG, hs⟩ ?_
  clear ba hO hG hs ba_7 ba_l
  rintro X3 ⟨ba, hO, hG, hs⟩
  obtain ⟨Fm, hm, hsub, hnd, hback⟩ := OwnL.sub (D := [.v (.int .i64 z0), .v (.string z1), .v (.int .i64 z2), .v (.int .i64 z3), .s 82 5 z4.length (mkL (FValue.flat z4) (k0)), .s 140 2 z5.length (mkL (FPlace.flat z5) (k4_)), .s 201 6 z6.length (mkL (FBlock.flat z6) (k5_))]) (M := [.s 79 3 z7.length (FObject.flat z7)]) (R := [.s 144 5 z8.length (FClosure.flat z8), .s 93 19 z9.length (FGen.flat z9), .s 91 13 z10.length (FFrame.flat z10), .v (.string z11), .s 208 2 z12.length (FHeader.flat z12), .s 210 2 z13.length (FBuffer.flat z13)]) (u1 := [.int .i64 z0, .string z1, .int .i64 z2, .int .i64 z3, .slice A4 z4.length c4, .slice A5 z5.length c5, .slice A6 z6.length c6]) (um := [.slice A7 z7.length c7]) (u3 := [.slice A8 z8.length c8, .slice A9 z9.length c9, .slice A10 z10.length c10, .string z11, .slice A12 z12.length c12, .slice A13 z13.length c13]) hO hF rfl rfl
  have hcall := H7.out _ (k6_) Fm X3 (by omega) (by rw [← HN7.out]; omega) hnd hm.unone
  rw [← HN7.out, ← HK7.out] at hcall
  refine hcall.mono ?_
  clear hcall
  rintro e Y3 ⟨rfl, own, hon⟩
  have hlt := OwnL.lt _ _ _ hO
  have hFl : w.heap.size ∉ F := fun e => by have := OwnL.lt _ _ _ HO.out _ e; omega
  replace hO := hback Y3 [.s 79 3 z7.length (mkL (FObject.flat z7) (k6_))] (OwnL.one own) (fun b hb hnb => hon.block b (hlt b hb) hnb)
  replace ba : Blk Y3 w.heap.size 53 #[.int .i64 z0, .string z1, .int .i64 z2, .int .i64 z3, .slice A4 z4.length c4, .slice A5 z5.length c5, .slice A6 z6.length c6, .slice A7 z7.length c7, .slice A8 z8.length c8, .slice A9 z9.length c9, .slice A10 z10.length c10, .string z11, .slice A12 z12.length c12, .slice A13 z13.length c13] := (hon.block _ ba.lt (fun e => hFl (hsub _ e))).trans ba
  replace hG := OnlyF.call hG hon hsub
  replace hs : w.heap.size < Y3.heap.size := Nat.lt_of_lt_of_le hs hon.size
  clear own hon hm hsub hnd hback hlt hFl
  have ba_8 : Y3.cell? ⟨w.heap.size, 8, none⟩ = some (.slice A8 z8.length c8) := ba.cell 8
  have ba_l := ba.lt
  go_wp2_with fail
  refine calls_worldD _ (fun X => Blk X w.heap.size 53 #[.int .i64 z0, .string z1, .int .i64 z2, .int .i64 z3, .slice A4 z4.length c4, .slice A5 z5.length c5, .slice A6 z6.length c6, .slice A7 z7.length c7, .slice A8 z8.length c8, .slice A9 z9.length c9, .slice A10 z10.length c10, .string z11, .slice A12 z12.length c12, .slice A13 z13.length c13] ∧ OwnL X [.v (.int .i64 z0), .v (.string z1), .v (.int .i64 z2), .v (.int .i64 z3), .s 82 5 z4.length (mkL (FValue.flat z4) (k0)), .s 140 2 z5.length (mkL (FPlace.flat z5) (k4_)), .s 201 6 z6.length (mkL (FBlock.flat z6) (k5_)), .s 79 3 z7.length (mkL (FObject.flat z7) (k6_)), .s 144 5 z8.length (FClosure.flat z8), .s 93 19 z9.length (FGen.flat z9), .s 91 13 z10.length (FFrame.flat z10), .v (.string z11), .s 208 2 z12.length (FHeader.flat z12), .s 210 2 z13.length (FBuffer.flat z13)] F [.int .i64 z0, .string z1, .int .i64 z2, .int .i64 z3, .slice A4 z4.length c4, .slice A5 z5.length c5, .slice A6 z6.length c6, .slice A7 z7.length c7, .slice A8 z8.length c8, .slice A9 z9.length c9, .slice A10 z10.length c10, .string z11, .slice A12 z12.length c12, .slice A13 z13.length c13] ∧ OnlyF F w X ∧ w.heap.size < X.heap.size) ⟨ba, hO, hG, hs⟩ ?_
  clear ba hO hG hs ba_8 ba_l
  rintro X4 ⟨ba, hO, hG, hs⟩
  obtain ⟨Fm, hm, hsub, hnd, hback⟩ := OwnL.sub (D := [.v (.int .i64 z0), .v (.string z1), .v (.int .i64 z2), .v (.int .i64 z3), .s 82 5 z4.length (mkL (FValue.flat z4) (k0)), .s 140 2 z5.length (mkL (FPlace.flat z5) (k4_)), .s 201 6 z6.length (mkL (FBlock.flat z6) (k5_)), .s 79 3 z7.length (mkL (FObject.flat z7) (k6_))]) (M := [.s 144 5 z8.length (FClosure.flat z8)]) (R := [.s 93 19 z9.length (FGen.flat z9), .s 91 13 z10.length (FFrame.flat z10), .v (.string z11), .s 208 2 z12.length (FHeader.flat z12), .s 210 2 z13.length (FBuffer.flat z13)]) (u1 := [.int .i64 z0, .string z1, .int .i64 z2, .int .i64 z3, .slice A4 z4.length c4, .slice A5 z5.length c5, .slice A6 z6.length c6, .slice A7 z7.length c7]) (um := [.slice A8 z8.length c8]) (u3 := [.slice A9 z9.length c9, .slice A10 z10.length c10, .string z11, .slice A12 z12.length c12, .slice A13 z13.length c13]) hO hF rfl rfl
  have hcall := H8.out _ (k7_) Fm X4 (by omega) (by rw [← HN8.out]; omega) hnd hm.unone
  rw [← HN8.out, ← HK8.out] at hcall
  refine hcall.mono ?_
  clear hcall
  rintro e Y4 ⟨rfl, own, hon⟩
  have hlt := OwnL.lt _ _ _ hO
  have hFl : w.heap.size ∉ F := fun e => by have := OwnL.lt _ _ _ HO.out _ e; omega
  replace hO := hback Y4 [.s 144 5 z8.length (mkL (FClosure.flat z8) (k7_))] (OwnL.one own) (fun b hb hnb => hon.block b (hlt b hb) hnb)
  replace ba : Blk Y4 w.heap.size 53 #[.int .i64 z0, .string z1, .int .i64 z2, .int .i64 z3, .slice A4 z4.length c4, .slice A5 z5.length c5, .slice A6 z6.length c6, .slice A7 z7.length c7, .slice A8 z8.length c8, .slice A9 z9.length c9, .slice A10 z10.length c10, .string z11, .slice A12 z12.length c12, .slice A13 z13.length c13] := (hon.block _ ba.lt (fun e => hFl (hsub _ e))).trans ba
  replace hG := OnlyF.call hG hon hsub
  replace hs : w.heap.size < Y4.heap.size := Nat.lt_of_lt_of_le hs hon.size
  clear own hon hm hsub hnd hback hlt hFl
  have ba_9 : Y4.cell? ⟨w.heap.size, 9, none⟩ = some (.slice A9 z9.length c9) := ba.cell 9
  have ba_l := ba.lt
  go_wp2_with fail
  refine calls_worldD _ (fun X => Blk X w.heap.size 53 #[.int .i64 z0, .string z1, .int .i64 z2, .int .i64 z3, .slice A4 z4.length c4, .slice A5 z5.length c5, .slice A6 z6.length c6, .slice A7 z7.length c7, .slice A8 z8.length c8, .slice A9 z9.length c9, .slice A10 z10.length c10, .string z11, .slice A12 z12.length c12, .slice A13 z13.length c13] ∧ OwnL X [.v (.int .i64 z0), .v (.string z1), .v (.int .i64 z2), .v (.int .i64 z3), .s 82 5 z4.length (mkL (FValue.flat z4) (k0)), .s 140 2 z5.length (mkL (FPlace.flat z5) (k4_)), .s 201 6 z6.length (mkL (FBlock.flat z6) (k5_)), .s 79 3 z7.length (mkL (FObject.flat z7) (k6_)), .s 144 5 z8.length (mkL (FClosure.flat z8) (k7_)), .s 93 19 z9.length (FGen.flat z9), .s 91 13 z10.length (FFrame.flat z10), .v (.string z11), .s 208 2 z12.length (FHeader.flat z12), .s 210 2 z13.length (FBuffer.flat z13)] F [.int .i64 z0, .string z1, .int .i64 z2, .int .i64 z3, .slice A4 z4.length c4, .slice A5 z5.length c5, .slice A6 z6.length c6, .slice A7 z7.length c7, .slice A8 z8.length c8, .slice A9 z9.length c9, .slice A10 z10.length c10, .string z11, .slice A12 z12.length c12, .slice A13 z13.length c13] ∧ OnlyF F w X ∧ w.heap.size < X.heap.size) ⟨ba, hO, hG, hs⟩ ?_
  clear ba hO hG hs ba_9 ba_l
  rintro X5 ⟨ba, hO, hG, hs⟩
  obtain ⟨Fm, hm, hsub, hnd, hback⟩ := OwnL.sub (D := [.v (.int .i64 z0), .v (.string z1), .v (.int .i64 z2), .v (.int .i64 z3), .s 82 5 z4.length (mkL (FValue.flat z4) (k0)), .s 140 2 z5.length (mkL (FPlace.flat z5) (k4_)), .s 201 6 z6.length (mkL (FBlock.flat z6) (k5_)), .s 79 3 z7.length (mkL (FObject.flat z7) (k6_)), .s 144 5 z8.length (mkL (FClosure.flat z8) (k7_))]) (M := [.s 93 19 z9.length (FGen.flat z9)]) (R := [.s 91 13 z10.length (FFrame.flat z10), .v (.string z11), .s 208 2 z12.length (FHeader.flat z12), .s 210 2 z13.length (FBuffer.flat z13)]) (u1 := [.int .i64 z0, .string z1, .int .i64 z2, .int .i64 z3, .slice A4 z4.length c4, .slice A5 z5.length c5, .slice A6 z6.length c6, .slice A7 z7.length c7, .slice A8 z8.length c8]) (um := [.slice A9 z9.length c9]) (u3 := [.slice A10 z10.length c10, .string z11, .slice A12 z12.length c12, .slice A13 z13.length c13]) hO hF rfl rfl
  have hcall := H9.out _ (k8_) Fm X5 (by omega) (by rw [← HN9.out]; omega) hnd hm.unone
  rw [← HN9.out, ← HK9.out] at hcall
  refine hcall.mono ?_
  clear hcall
  rintro e Y5 ⟨rfl, own, hon⟩
  have hlt := OwnL.lt _ _ _ hO
  have hFl : w.heap.size ∉ F := fun e => by have := OwnL.lt _ _ _ HO.out _ e; omega
  replace hO := hback Y5 [.s 93 19 z9.length (mkL (FGen.flat z9) (k8_))] (OwnL.one own) (fun b hb hnb => hon.block b (hlt b hb) hnb)
  replace ba : Blk Y5 w.heap.size 53 #[.int .i64 z0, .string z1, .int .i64 z2, .int .i64 z3, .slice A4 z4.length c4, .slice A5 z5.length c5, .slice A6 z6.length c6, .slice A7 z7.length c7, .slice A8 z8.length c8, .slice A9 z9.length c9, .slice A10 z10.length c10, .string z11, .slice A12 z12.length c12, .slice A13 z13.length c13] := (hon.block _ ba.lt (fun e => hFl (hsub _ e))).trans ba
  replace hG := OnlyF.call hG hon hsub
  replace hs : w.heap.size < Y5.heap.size := Nat.lt_of_lt_of_le hs hon.size
  clear own hon hm hsub hnd hback hlt hFl
  have ba_10 : Y5.cell? ⟨w.heap.size, 10, none⟩ = some (.slice A10 z10.length c10) := ba.cell 10
  have ba_l := ba.lt
  go_wp2_with fail
  refine calls_worldD _ (fun X => Blk X w.heap.size 53 #[.int .i64 z0, .string z1, .int .i64 z2, .int .i64 z3, .slice A4 z4.length c4, .slice A5 z5.length c5, .slice A6 z6.length c6, .slice A7 z7.length c7, .slice A8 z8.length c8, .slice A9 z9.length c9, .slice A10 z10.length c10, .string z11, .slice A12 z12.length c12, .slice A13 z13.length c13] ∧ OwnL X [.v (.int .i64 z0), .v (.string z1), .v (.int .i64 z2), .v (.int .i64 z3), .s 82 5 z4.length (mkL (FValue.flat z4) (k0)), .s 140 2 z5.length (mkL (FPlace.flat z5) (k4_)), .s 201 6 z6.length (mkL (FBlock.flat z6) (k5_)), .s 79 3 z7.length (mkL (FObject.flat z7) (k6_)), .s 144 5 z8.length (mkL (FClosure.flat z8) (k7_)), .s 93 19 z9.length (mkL (FGen.flat z9) (k8_)), .s 91 13 z10.length (FFrame.flat z10), .v (.string z11), .s 208 2 z12.length (FHeader.flat z12), .s 210 2 z13.length (FBuffer.flat z13)] F [.int .i64 z0, .string z1, .int .i64 z2, .int .i64 z3, .slice A4 z4.length c4, .slice A5 z5.length c5, .slice A6 z6.length c6, .slice A7 z7.length c7, .slice A8 z8.length c8, .slice A9 z9.length c9, .slice A10 z10.length c10, .string z11, .slice A12 z12.length c12, .slice A13 z13.length c13] ∧ OnlyF F w X ∧ w.heap.size < X.heap.size) ⟨ba, hO, hG, hs⟩ ?_
  clear ba hO hG hs ba_10 ba_l
  rintro X6 ⟨ba, hO, hG, hs⟩
  obtain ⟨Fm, hm, hsub, hnd, hback⟩ := OwnL.sub (D := [.v (.int .i64 z0), .v (.string z1), .v (.int .i64 z2), .v (.int .i64 z3), .s 82 5 z4.length (mkL (FValue.flat z4) (k0)), .s 140 2 z5.length (mkL (FPlace.flat z5) (k4_)), .s 201 6 z6.length (mkL (FBlock.flat z6) (k5_)), .s 79 3 z7.length (mkL (FObject.flat z7) (k6_)), .s 144 5 z8.length (mkL (FClosure.flat z8) (k7_)), .s 93 19 z9.length (mkL (FGen.flat z9) (k8_))]) (M := [.s 91 13 z10.length (FFrame.flat z10)]) (R := [.v (.string z11), .s 208 2 z12.length (FHeader.flat z12), .s 210 2 z13.length (FBuffer.flat z13)]) (u1 := [.int .i64 z0, .string z1, .int .i64 z2, .int .i64 z3, .slice A4 z4.length c4, .slice A5 z5.length c5, .slice A6 z6.length c6, .slice A7 z7.length c7, .slice A8 z8.length c8, .slice A9 z9.length c9]) (um := [.slice A10 z10.length c10]) (u3 := [.string z11, .slice A12 z12.length c12, .slice A13 z13.length c13]) hO hF rfl rfl
  have hcall := H10.out _ (k9_) Fm X6 (by omega) (by rw [← HN10.out]; omega) hnd hm.unone
  rw [← HN10.out, ← HK10.out] at hcall
  refine hcall.mono ?_
  clear hcall
  rintro e Y6 ⟨rfl, own, hon⟩
  have hlt := OwnL.lt _ _ _ hO
  have hFl : w.heap.size ∉ F := fun e => by have := OwnL.lt _ _ _ HO.out _ e; omega
  replace hO := hback Y6 [.s 91 13 z10.length (mkL (FFrame.flat z10) (k9_))] (OwnL.one own) (fun b hb hnb => hon.block b (hlt b hb) hnb)
  replace ba : Blk Y6 w.heap.size 53 #[.int .i64 z0, .string z1, .int .i64 z2, .int .i64 z3, .slice A4 z4.length c4, .slice A5 z5.length c5, .slice A6 z6.length c6, .slice A7 z7.length c7, .slice A8 z8.length c8, .slice A9 z9.length c9, .slice A10 z10.length c10, .string z11, .slice A12 z12.length c12, .slice A13 z13.length c13] := (hon.block _ ba.lt (fun e => hFl (hsub _ e))).trans ba
  replace hG := OnlyF.call hG hon hsub
  replace hs : w.heap.size < Y6.heap.size := Nat.lt_of_lt_of_le hs hon.size
  clear own hon hm hsub hnd hback hlt hFl
  have ba_11 : Y6.cell? ⟨w.heap.size, 11, none⟩ = some (.string z11) := ba.cell 11
  have ba_12 : Y6.cell? ⟨w.heap.size, 12, none⟩ = some (.slice A12 z12.length c12) := ba.cell 12
  have ba_13 : Y6.cell? ⟨w.heap.size, 13, none⟩ = some (.slice A13 z13.length c13) := ba.cell 13
  have ba_l := ba.lt
  go_wp2_with fail
  refine calls_worldD _ (fun X => Blk X w.heap.size 53 #[.int .i64 z0, .string z1, .int .i64 z2, .int .i64 z3, .slice A4 z4.length c4, .slice A5 z5.length c5, .slice A6 z6.length c6, .slice A7 z7.length c7, .slice A8 z8.length c8, .slice A9 z9.length c9, .slice A10 z10.length c10, .string z11, .slice A12 z12.length c12, .slice A13 z13.length c13] ∧ OwnL X [.v (.int .i64 z0), .v (.string z1), .v (.int .i64 z2), .v (.int .i64 z3), .s 82 5 z4.length (mkL (FValue.flat z4) (k0)), .s 140 2 z5.length (mkL (FPlace.flat z5) (k4_)), .s 201 6 z6.length (mkL (FBlock.flat z6) (k5_)), .s 79 3 z7.length (mkL (FObject.flat z7) (k6_)), .s 144 5 z8.length (mkL (FClosure.flat z8) (k7_)), .s 93 19 z9.length (mkL (FGen.flat z9) (k8_)), .s 91 13 z10.length (mkL (FFrame.flat z10) (k9_)), .v (.string z11), .s 208 2 z12.length (FHeader.flat z12), .s 210 2 z13.length (FBuffer.flat z13)] F [.int .i64 z0, .string z1, .int .i64 z2, .int .i64 z3, .slice A4 z4.length c4, .slice A5 z5.length c5, .slice A6 z6.length c6, .slice A7 z7.length c7, .slice A8 z8.length c8, .slice A9 z9.length c9, .slice A10 z10.length c10, .string z11, .slice A12 z12.length c12, .slice A13 z13.length c13] ∧ OnlyF F w X ∧ w.heap.size < X.heap.size) ⟨ba, hO, hG, hs⟩ ?_
  clear ba hO hG hs ba_11 ba_12 ba_13 ba_l
  rintro X7 ⟨ba, hO, hG, hs⟩
  obtain ⟨Fm, hm, hsub, hnd, hback⟩ := OwnL.sub (D := [.v (.int .i64 z0), .v (.string z1), .v (.int .i64 z2), .v (.int .i64 z3), .s 82 5 z4.length (mkL (FValue.flat z4) (k0)), .s 140 2 z5.length (mkL (FPlace.flat z5) (k4_)), .s 201 6 z6.length (mkL (FBlock.flat z6) (k5_)), .s 79 3 z7.length (mkL (FObject.flat z7) (k6_)), .s 144 5 z8.length (mkL (FClosure.flat z8) (k7_)), .s 93 19 z9.length (mkL (FGen.flat z9) (k8_)), .s 91 13 z10.length (mkL (FFrame.flat z10) (k9_))]) (M := [.v (.string z11), .s 208 2 z12.length (FHeader.flat z12), .s 210 2 z13.length (FBuffer.flat z13)]) (R := []) (u1 := [.int .i64 z0, .string z1, .int .i64 z2, .int .i64 z3, .slice A4 z4.length c4, .slice A5 z5.length c5, .slice A6 z6.length c6, .slice A7 z7.length c7, .slice A8 z8.length c8, .slice A9 z9.length c9, .slice A10 z10.length c10]) (um := [.string z11, .slice A12 z12.length c12, .slice A13 z13.length c13]) (u3 := []) hO hF rfl rfl
  have hsU : scnt (FOutput.c ⟨z11, z12, z13⟩) = N12 + N13 := by
    rw [FOutput.c_eq]
    simp only [scnt]
    have := HN12.out; have := HN13.out; omega
  have hcall := H11.out _ (k10_) Fm X7 (by omega) (by rw [hsU]; omega) hnd (by rw [FOutput.c_eq]; exact hm)
  have hsmU : smk (FOutput.c ⟨z11, z12, z13⟩) (k10_) = [.v (.string z11), .s 208 2 z12.length (mkL (FHeader.flat z12) (k10_)), .s 210 2 z13.length (mkL (FBuffer.flat z13) (k12_))] := by
    rw [FOutput.c_eq]
    rw [smk_v]
    rw [smk_s k12_ (by rw [← HN12.out]; exact HK12.out)]
    rw [smk_s k13_ (by rw [← HN13.out]; exact HK13.out)]
    rfl
  rw [hsU, hsmU, show k10_ + ((N12 + N13 : Nat) : Int) = k13_ from by have := HK12.out; have := HK13.out; omega] at hcall
  clear hsU hsmU
  refine hcall.mono ?_
  clear hcall
  rintro e Y7 ⟨rfl, own, hon⟩
  have hlt := OwnL.lt _ _ _ hO
  have hFl : w.heap.size ∉ F := fun e => by have := OwnL.lt _ _ _ HO.out _ e; omega
  replace hO := hback Y7 [.v (.string z11), .s 208 2 z12.length (mkL (FHeader.flat z12) (k10_)), .s 210 2 z13.length (mkL (FBuffer.flat z13) (k12_))] own (fun b hb hnb => hon.block b (hlt b hb) hnb)
  replace ba : Blk Y7 w.heap.size 53 #[.int .i64 z0, .string z1, .int .i64 z2, .int .i64 z3, .slice A4 z4.length c4, .slice A5 z5.length c5, .slice A6 z6.length c6, .slice A7 z7.length c7, .slice A8 z8.length c8, .slice A9 z9.length c9, .slice A10 z10.length c10, .string z11, .slice A12 z12.length c12, .slice A13 z13.length c13] := (hon.block _ ba.lt (fun e => hFl (hsub _ e))).trans ba
  replace hG := OnlyF.call hG hon hsub
  replace hs : w.heap.size < Y7.heap.size := Nat.lt_of_lt_of_le hs hon.size
  clear own hon hm hsub hnd hback hlt hFl
  have ba_l := ba.lt
  go_wp2_with fail
  go_ret
  exact ⟨rfl, hO, hG⟩
theorem markMachine_any (x : FMachine) : MarkMachine x := by
  obtain ⟨z0, z1, z2, z3, z4, z5, ⟨z6⟩, z7, z8, z9, z10, ⟨z11, z12, z13⟩⟩ := x
  exact markMachine_of z0 z1 z2 z3 z4 z5 z6 z7 z8 z9 z10 z11 z12 z13 (markValueS_any z4) (markPlaceS_any z5) (markHeap_any ⟨z6⟩) (markObjectS_any z7) (markClosureS_any z8) (markGenS_any z9) (markFrameS_any z10) (markOutput_any ⟨z11, z12, z13⟩)
theorem markMachine_I (x : FMachine) (us : List Value) (k0 : Int) (lo hi : Nat) (w : World) (h1 : 1 ≤ k0) (h2 : k0 + (scnt x.c : Int) ≤ 1000000000000000) (h : OwnI w lo hi x.c us) :
    Calls Tryz.prog 10 #[.agg us.toArray, .int .i64 k0] w fun e w' => e = .returned (.int .i64 (k0 + (scnt x.c : Int))) ∧ OwnI w' lo hi (smk x.c k0) us ∧ Only lo hi w.heap.size w w' := by
  obtain ⟨F, a1, a2, a3⟩ := h
  exact (markMachine_any x us k0 F w h1 h2 a2 a1).mono fun e w' ⟨h3, h4, h5⟩ => ⟨h3, own_interval a2 a3 h4 h5⟩
end Go.Proofs.YtahgcojmpafefaaGreat
