/-
  string, Node, Unit: marking and finding the marks. Conditions: none.
-/
import Derived.Test.YtbmgjndpnbdgeaaDeepM
import Derived.Test.YtbmgjndpnbdgeaaDataU
namespace Go.Proofs.Ytbmgjndpnbdgeaa
open Go.ChangeShapes Go.WideShapes Go.ChangeAt Go.RowKit Go.Deep Go.Joins
open Go.ChangeMaps (open_string shut_string)
set_option linter.unusedVariables false
set_option linter.unusedSimpArgs false
set_option maxRecDepth 100000
theorem FStr.flat_len (l : List FStr) : (FStr.flat l).length = l.length * 1 := by
  induction l with
  | nil => simp
  | cons x r ih =>
    have e : FStr.flat (x :: r) = x.c ++ FStr.flat r := List.flatMap_cons
    rw [e, List.length_append, ih, FStr.len, List.length_cons]
    omega
theorem FStr.flat_at (l : List FStr) (k : Nat) (x : FStr) (h : l[k]? = some x) : l.drop k = x :: l.drop (k + 1) := by
  have hk := (List.getElem?_eq_some_iff.1 h).1
  rw [List.drop_eq_getElem_cons hk, (List.getElem?_eq_some_iff.1 h).2]
theorem FStr.flat_take (l : List FStr) (k : Nat) (x : FStr) (h : l[k]? = some x) : FStr.flat (l.take (k + 1)) = FStr.flat (l.take k) ++ x.c := by
  rw [List.take_add_one, h]
  simp [FStr.flat]
theorem FStr.flat_split (l : List FStr) (k : Nat) (x : FStr) (h : l[k]? = some x) : FStr.flat l = FStr.flat (l.take k) ++ (x.c ++ FStr.flat (l.drop (k + 1))) := by
  have e : FStr.flat (l.take k ++ l.drop k) = FStr.flat (l.take k) ++ FStr.flat (l.drop k) := List.flatMap_append
  rw [List.take_append_drop] at e
  rw [e, FStr.flat_at l k x h]
  have e2 : FStr.flat (x :: l.drop (k + 1)) = x.c ++ FStr.flat (l.drop (k + 1)) := List.flatMap_cons
  rw [e2]
theorem FStr.cnt_at (l : List FStr) (k : Nat) (x : FStr) (h : l[k]? = some x) : cntL (FStr.flat (l.take k)) + cntL x.c ≤ cntL (FStr.flat l) := by
  rw [FStr.flat_split l k x h, cntL_append, cntL_append]
  omega
theorem FStr.cnt_eq (z0 : ByteArray) : cntL (FStr.c ⟨z0⟩) = 1 := by
  rw [FStr.c_eq]
  simp only [cntL, Cel.cnt]
  try omega
def MarkStringS (l : List FStr) : Prop := ∀ (u : Value) (k0 : Int) (F : List Nat) (w : World), 1 ≤ k0 → k0 + (cntL (FStr.flat l) : Int) ≤ 1000000000000000 → F.Nodup → OwnC w (.s 9 1 l.length (FStr.flat l)) F u → Calls Try.prog 12 #[u, .int .i64 k0] w fun e w' => e = .returned (.int .i64 (k0 + (cntL (FStr.flat l) : Int))) ∧ OwnC w' (.s 9 1 l.length (mkL (FStr.flat l) k0)) F u ∧ OnlyF F w w'
def HeldStringS (l : List FStr) : Prop := ∀ (u : Value) (k0 : Int) (w : World), 1 ≤ k0 → k0 + (cntL (FStr.flat l) : Int) ≤ 1000000000000000 → RdC w w.heap.size (.s 9 1 l.length (mkL (FStr.flat l) k0)) u → Calls Try.prog 13 #[u, .int .i64 k0] w fun e w' => e = .returned (.int .i64 (k0 + (cntL (FStr.flat l) : Int))) ∧ Below w.heap.size w w'
theorem cntb1_String (x : FStr) : cntL x.c ≤ 10 + 10 * x.wt := by
  obtain ⟨z0⟩ := x
  rw [FStr.cnt_eq, FStr.wt_eq]
  omega
theorem cntb_StringS : ∀ l : List FStr, cntL (FStr.flat l) ≤ 10 * (l.length + FStr.wts l)
  | [] => by simp [cntL]
  | x :: r => by
    have e : FStr.flat (x :: r) = x.c ++ FStr.flat r := List.flatMap_cons
    have h1 := cntb1_String x
    have h2 := cntb_StringS r
    rw [e, cntL_append, FStr.wts, List.length_cons]
    omega
set_option maxHeartbeats 2000000 in
theorem markStringS_of (l : List FStr) : MarkStringS l := by
  intro u k0 F w h1 h2 hF hO
  obtain ⟨A, c, rfl⟩ := hO.form
  have hcap := hO.read.cap
  have hn : l.length ≤ 9223372036854775807 := by unfold maxLen at hcap; omega
  have HO := Lib.hid hO
  clear hcap
  by_cases hl0 : l.length = 0
  · obtain rfl : l = [] := List.eq_nil_of_length_eq_zero hl0
    clear hO hl0
    go_enter Try.func12, Try.ntmps12
    go_wp2_with fail
    go_loop [1, 5] (fun kv i => kv = .int .i64 k0 ∧ i = .int .i64 0) (fun _ i => 0)
    case atStart => exact ⟨rfl, rfl⟩
    case round =>
      obtain ⟨rfl, rfl⟩ := hrel
      go_wp2_with fail
      go_ret
      exact ⟨ret_int (by simp [cntL]), by simpa [mkL] using HO.out, OnlyF.refl _ _⟩
  obtain ⟨g, hA, hg⟩ := hO.head (by omega)
  subst hA
  have HG := Lib.hid hg
  clear hO hg hl0
  go_enter Try.func12, Try.ntmps12
  go_wp2_with fail
  go_loopw [1, 5] (fun kv i wr => ∃ (k : Nat) (kk : Int), k ≤ l.length ∧ i = .int .i64 k ∧ kv = .int .i64 kk ∧ kk = k0 + (cntL (FStr.flat (l.take k)) : Int) ∧ OwnC wr (.s 9 1 l.length (mkL (FStr.flat (l.take k)) k0 ++ FStr.flat (l.drop k))) F (.slice (some ⟨g, 0, none⟩) l.length c) ∧ OnlyF F w wr) (fun _ i _ => l.length - (intOf i).toNat)
  case atStart => exact ⟨0, k0, Nat.zero_le _, rfl, rfl, by simp [cntL], by simpa [mkL] using HO.out, OnlyF.refl _ _⟩
  case round =>
    obtain ⟨k, kk, hk, rfl, rfl, hkk, hO, hG⟩ := hrel
    have HKK := Lib.hid hkk
    have HO1 := Lib.hid hO
    have HGG := Lib.hid hG
    clear hO hG
    by_cases hlt : k < l.length
    · obtain ⟨x, hx⟩ : ∃ x, l[k]? = some x := ⟨_, List.getElem?_eq_getElem hlt⟩
      have HX := Lib.hid hx
      have hca := FStr.cnt_at l k x hx
      have hD0 : (mkL (FStr.flat (l.take k)) k0).length = k * 1 := by rw [mkL_len, FStr.flat_len, List.length_take]; congr 1; omega
      have hO2 := HO1.out
      rw [FStr.flat_at l k x hx] at hO2
      obtain ⟨z0⟩ := x
      rw [show FStr.flat (⟨z0⟩ :: l.drop (k + 1)) = (FStr.c ⟨z0⟩) ++ FStr.flat (l.drop (k + 1)) from List.flatMap_cons, FStr.c_eq] at hO2
      rw [FStr.cnt_eq] at hca
      obtain ⟨D, hDD⟩ : ∃ D, D = mkL (FStr.flat (l.take k)) k0 := ⟨_, rfl⟩
      rw [← hDD] at hD0 hO2
      obtain ⟨R, hRR⟩ : ∃ R, R = FStr.flat (l.drop (k + 1)) := ⟨_, rfl⟩
      rw [← hRR] at hO2
      have HD := Lib.hid hD0
      have HDD := Lib.hid hDD
      have HRR := Lib.hid hRR
      have hkp : 1 ≤ kk := by omega
      generalize hCC : cntL (FStr.flat (l.take k)) = CC at *
      have hkb : kk + ((1 : Nat) : Int) ≤ 1000000000000000 := by omega
      have HCC := Lib.hid hCC
      clear hx hD0 hDD hRR hkk hca hCC 
      obtain ⟨f0, hrow0, hnc0, hln0⟩ := hO2.row
      have hkc : k + 1 ≤ c := by omega
      have q0 := hrow0.cell (i := k) (by omega)
      have y0 := hrow0.frozen (k)
      clear hrow0
      go_wp2_with fail
      clear hkc y0 q0
      refine (markText_any _ _ (by omega)).mono ?_
      rintro e w2 ⟨rfl, hb1⟩
      have G1 := Lib.hid (OnlyF.of_below HGG.out hb1)
      have P1 := hO2.below hb1 (Nat.le_refl _)
      clear hO2 hb1
      obtain ⟨f1, hrow1, hnc1, hln1⟩ := P1.row
      have hkc : k + 1 ≤ c := by omega
      have q0 := hrow1.cell (i := k) (by omega)
      have y0 := hrow1.frozen (k)
      clear hrow1
      go_wp2_with fail
      clear hkc y0 q0
      have O1_0 := OwnC.setv (D := D) (y := .string z0) (R := R) (by simp only [List.append_assoc, List.cons_append, List.nil_append] at P1 ⊢; exact P1) hF (.string (mt (kk))) (k) (by simp [HD.out])
      clear P1
      go_roundw
      case rel =>
        have hmk : mkL (FStr.c ⟨z0⟩) kk = [.v (.string (mt (kk)))] := by
          rw [FStr.c_eq]
          rw [mkL_v (kk + 1) (by omega)]
          rw [mkL_nil]
          rfl
        have hcn : cntL (FStr.flat (l.take (k + 1))) = CC + (1) := by
          rw [FStr.flat_take l k _ HX.out, cntL_append, HCC.out, FStr.cnt_eq]
          try omega
        have hall : mkL (FStr.flat (l.take (k + 1))) k0 = D ++ [.v (.string (mt (kk)))] := by
          rw [FStr.flat_take l k _ HX.out, mkL_append, HCC.out, ← HKK.out, ← HDD.out, hmk]
        refine ⟨k + 1, _, by omega, by go_num, rfl, ?_, ?_, (OnlyF.set G1.out (p := ⟨g, k, none⟩) HG.out (.string (mt (kk))))⟩
        · rw [hcn]
          have := HKK.out
          omega
        · rw [hall, ← HRR.out]
          simp only [List.append_assoc, List.cons_append, List.nil_append] at O1_0 ⊢
          exact O1_0
      case measure => simp [intOf]; omega
    · obtain rfl : k = l.length := by omega
      clear hlt
      go_wp2_with fail
      go_ret
      have e := HO1.out
      rw [List.take_length, List.drop_length] at e
      have e2 := HKK.out
      rw [List.take_length] at e2
      exact ⟨ret_int e2, by simpa using e, HGG.out⟩
set_option maxHeartbeats 2000000 in
theorem heldStringS_of (l : List FStr) : HeldStringS l := by
  intro u k0 w h1 h2 hR
  obtain ⟨A, c, rfl⟩ := hR.form
  have hcap := hR.cap
  have hn : l.length ≤ 9223372036854775807 := by unfold maxLen at hcap; omega
  have HR := Lib.hid hR
  clear hR hcap
  go_enter Try.func13, Try.ntmps13
  go_wp2_with fail
  go_loopw [1, 5] (fun kv i wr => ∃ (k : Nat) (kk : Int), k ≤ l.length ∧ i = .int .i64 k ∧ kv = .int .i64 kk ∧ kk = k0 + (cntL (FStr.flat (l.take k)) : Int) ∧ Below w.heap.size w wr) (fun _ i _ => l.length - (intOf i).toNat)
  case atStart => exact ⟨0, k0, Nat.zero_le _, rfl, rfl, by simp [cntL], Below.refl _ _⟩
  case round =>
    obtain ⟨k, kk, hk, rfl, rfl, hkk, hb⟩ := hrel
    have HKK := Lib.hid hkk
    by_cases hlt : k < l.length
    · obtain ⟨x, hx⟩ : ∃ x, l[k]? = some x := ⟨_, List.getElem?_eq_getElem hlt⟩
      have HX := Lib.hid hx
      have hca := FStr.cnt_at l k x hx
      obtain ⟨bc, offc, rfl, hblc, hcc⟩ := HR.out.cells (by omega)
      have hD0 : (mkL (FStr.flat (l.take k)) k0).length = k * 1 := by rw [mkL_len, FStr.flat_len, List.length_take]; congr 1; omega
      have hsp : mkL (FStr.flat l) k0 = mkL (FStr.flat (l.take k)) k0 ++ (mkL x.c kk ++ mkL (FStr.flat (l.drop (k + 1))) (kk + (cntL x.c : Int))) := by
        rw [FStr.flat_split l k x hx, mkL_append, mkL_append, ← hkk]
      obtain ⟨z0⟩ := x
      rw [FStr.cnt_eq] at hca
      have hmk : mkL (FStr.c ⟨z0⟩) kk = [.v (.string (mt (kk)))] := by
        rw [FStr.c_eq]
        rw [mkL_v (kk + 1) (by omega)]
        rw [mkL_nil]
        rfl
      rw [hmk] at hsp
      obtain ⟨u0, e0, q0⟩ := hcc (k * 1 + 0) _ (by rw [hsp]; exact mid_get hD0 rfl)
      obtain rfl := q0.val
      clear q0
      have c_0 : wr.cell? ⟨bc, offc + k, none⟩ = some (.string (mt (kk))) := (hb.cell (p := ⟨bc, _, none⟩) hblc).trans (by simpa [Nat.add_assoc] using e0)
      have hkp : 1 ≤ kk := by omega
      have hkb : kk + ((1 : Nat) : Int) ≤ 1000000000000000 := by omega
      clear hcc hsp hD0 hmk hx hca hkk e0 
      have hzb := hb.size
      go_wp2_with fail
      go_region_held3 (fun w_ => w_.cell? ⟨bc, offc + k, none⟩ = some (.string (mt (kk)))) (first | exact c_0 | exact ((bcell hc1).1 _ _ (by simp; omega)).trans c_0) ((first | (go_at_call 23; refine (markText_any _ _ (by omega)).mono ?_; rintro e w2 ⟨rfl, hc1⟩)))
      have B1 : Below w.heap.size w w2 := hb.trans (((Below.refl _ _).drew : Below w.heap.size wr wr.drew).trans (hc1.mono (by simp; omega)))
      have hz1 := hc1.size
      simp at hz1
      have hy1 : w.heap.size ≤ w2.heap.size := B1.size
      clear hc1
      go_wp2_with fail
      go_roundw
      case rel =>
        have hcn : cntL (FStr.flat (l.take (k + 1))) = cntL (FStr.flat (l.take k)) + (1) := by
          rw [FStr.flat_take l k _ HX.out, cntL_append, FStr.cnt_eq]
          try omega
        refine ⟨k + 1, _, by omega, by go_num, rfl, ?_, B1⟩
        rw [hcn]
        have := HKK.out
        omega
      case measure => simp [intOf]; omega
    · obtain rfl : k = l.length := by omega
      clear hlt
      go_wp2_with fail
      go_ret
      have e2 := HKK.out
      rw [List.take_length] at e2
      exact ⟨ret_int e2, hb⟩
theorem markStringS_any (l : List FStr) : MarkStringS l := markStringS_of l
theorem heldStringS_any (l : List FStr) : HeldStringS l := heldStringS_of l
theorem markStringS_I (l : List FStr) (u : Value) (k0 : Int) (lo hi : Nat) (w : World) (h1 : 1 ≤ k0) (h2 : k0 + (cntL (FStr.flat l) : Int) ≤ 1000000000000000) (h : OwnI w lo hi [.s 9 1 l.length (FStr.flat l)] [u]) :
    Calls Try.prog 12 #[u, .int .i64 k0] w fun e w' => e = .returned (.int .i64 (k0 + (cntL (FStr.flat l) : Int))) ∧ OwnI w' lo hi [.s 9 1 l.length (mkL (FStr.flat l) k0)] [u] ∧ Only lo hi w.heap.size w w' := by
  obtain ⟨F, a1, a2, a3⟩ := h
  exact (markStringS_any l u k0 F w h1 h2 a2 a1.unone).mono fun e w' ⟨h3, h4, h5⟩ => ⟨h3, own_interval a2 a3 (OwnL.one h4) h5⟩
theorem FNode.flat_len (l : List FNode) : (FNode.flat l).length = l.length * 4 := by
  induction l with
  | nil => simp
  | cons x r ih =>
    have e : FNode.flat (x :: r) = x.c ++ FNode.flat r := List.flatMap_cons
    rw [e, List.length_append, ih, FNode.len, List.length_cons]
    omega
theorem FNode.flat_at (l : List FNode) (k : Nat) (x : FNode) (h : l[k]? = some x) : l.drop k = x :: l.drop (k + 1) := by
  have hk := (List.getElem?_eq_some_iff.1 h).1
  rw [List.drop_eq_getElem_cons hk, (List.getElem?_eq_some_iff.1 h).2]
theorem FNode.flat_take (l : List FNode) (k : Nat) (x : FNode) (h : l[k]? = some x) : FNode.flat (l.take (k + 1)) = FNode.flat (l.take k) ++ x.c := by
  rw [List.take_add_one, h]
  simp [FNode.flat]
theorem FNode.flat_split (l : List FNode) (k : Nat) (x : FNode) (h : l[k]? = some x) : FNode.flat l = FNode.flat (l.take k) ++ (x.c ++ FNode.flat (l.drop (k + 1))) := by
  have e : FNode.flat (l.take k ++ l.drop k) = FNode.flat (l.take k) ++ FNode.flat (l.drop k) := List.flatMap_append
  rw [List.take_append_drop] at e
  rw [e, FNode.flat_at l k x h]
  have e2 : FNode.flat (x :: l.drop (k + 1)) = x.c ++ FNode.flat (l.drop (k + 1)) := List.flatMap_cons
  rw [e2]
theorem FNode.cnt_at (l : List FNode) (k : Nat) (x : FNode) (h : l[k]? = some x) : cntL (FNode.flat (l.take k)) + cntL x.c ≤ cntL (FNode.flat l) := by
  rw [FNode.flat_split l k x h, cntL_append, cntL_append]
  omega
theorem FNode.cnt_eq (z0 : Int) (z1 : Int) (z2 : ByteArray) (z3 : List FNode) : cntL (FNode.c ⟨z0, z1, z2, z3⟩) = 3 + cntL (FNode.flat z3) := by
  rw [FNode.c_eq]
  simp only [cntL, Cel.cnt]
  try omega
def MarkNodeS (l : List FNode) : Prop := ∀ (u : Value) (k0 : Int) (F : List Nat) (w : World), 1 ≤ k0 → k0 + (cntL (FNode.flat l) : Int) ≤ 1000000000000000 → F.Nodup → OwnC w (.s 38 4 l.length (FNode.flat l)) F u → Calls Try.prog 11 #[u, .int .i64 k0] w fun e w' => e = .returned (.int .i64 (k0 + (cntL (FNode.flat l) : Int))) ∧ OwnC w' (.s 38 4 l.length (mkL (FNode.flat l) k0)) F u ∧ OnlyF F w w'
def HeldNodeS (l : List FNode) : Prop := ∀ (u : Value) (k0 : Int) (w : World), 1 ≤ k0 → k0 + (cntL (FNode.flat l) : Int) ≤ 1000000000000000 → RdC w w.heap.size (.s 38 4 l.length (mkL (FNode.flat l) k0)) u → Calls Try.prog 20 #[u, .int .i64 k0] w fun e w' => e = .returned (.int .i64 (k0 + (cntL (FNode.flat l) : Int))) ∧ Below w.heap.size w w'
def MkNode : FNode → Prop
  | ⟨z0, z1, z2, z3⟩ => MarkNodeS z3
def HdNode : FNode → Prop
  | ⟨z0, z1, z2, z3⟩ => HeldNodeS z3
mutual
theorem cntb1_Node : ∀ x : FNode, cntL x.c ≤ 10 + 10 * x.wt
  | .mk z0 z1 z2 z3 => by
    have ih := cntb_NodeS z3
    rw [FNode.cnt_eq, FNode.wt_eq]
    have b3 := ih
    omega
theorem cntb_NodeS : ∀ l : List FNode, cntL (FNode.flat l) ≤ 10 * (l.length + FNode.wts l)
  | [] => by simp [cntL]
  | x :: r => by
    have e : FNode.flat (x :: r) = x.c ++ FNode.flat r := List.flatMap_cons
    have h1 := cntb1_Node x
    have h2 := cntb_NodeS r
    rw [e, cntL_append, FNode.wts, List.length_cons]
    omega
end
theorem cntb_Node (x : FNode) : scnt x.c ≤ 10 * x.wt := by
  obtain ⟨z0, z1, z2, z3⟩ := x
  rw [FNode.c_eq, FNode.wt_eq]
  simp only [scnt]
  have b3 := cntb_NodeS z3
  omega
set_option maxHeartbeats 2000000 in
theorem markNodeS_of (l : List FNode) (he : ∀ x, x ∈ l → MkNode x) : MarkNodeS l := by
  intro u k0 F w h1 h2 hF hO
  obtain ⟨A, c, rfl⟩ := hO.form
  have hcap := hO.read.cap
  have hn : l.length ≤ 9223372036854775807 := by unfold maxLen at hcap; omega
  have HO := Lib.hid hO
  clear hcap
  by_cases hl0 : l.length = 0
  · obtain rfl : l = [] := List.eq_nil_of_length_eq_zero hl0
    clear hO hl0 he
    go_enter Try.func11, Try.ntmps11
    go_wp2_with fail
    go_loop [1, 5] (fun kv i => kv = .int .i64 k0 ∧ i = .int .i64 0) (fun _ i => 0)
    case atStart => exact ⟨rfl, rfl⟩
    case round =>
      obtain ⟨rfl, rfl⟩ := hrel
      go_wp2_with fail
      go_ret
      exact ⟨ret_int (by simp [cntL]), by simpa [mkL] using HO.out, OnlyF.refl _ _⟩
  obtain ⟨g, hA, hg⟩ := hO.head (by omega)
  subst hA
  have HE := Lib.hid he
  clear he
  have HG := Lib.hid hg
  clear hO hg hl0
  go_enter Try.func11, Try.ntmps11
  go_wp2_with fail
  go_loopw [1, 5] (fun kv i wr => ∃ (k : Nat) (kk : Int), k ≤ l.length ∧ i = .int .i64 k ∧ kv = .int .i64 kk ∧ kk = k0 + (cntL (FNode.flat (l.take k)) : Int) ∧ OwnC wr (.s 38 4 l.length (mkL (FNode.flat (l.take k)) k0 ++ FNode.flat (l.drop k))) F (.slice (some ⟨g, 0, none⟩) l.length c) ∧ OnlyF F w wr) (fun _ i _ => l.length - (intOf i).toNat)
  case atStart => exact ⟨0, k0, Nat.zero_le _, rfl, rfl, by simp [cntL], by simpa [mkL] using HO.out, OnlyF.refl _ _⟩
  case round =>
    obtain ⟨k, kk, hk, rfl, rfl, hkk, hO, hG⟩ := hrel
    have HKK := Lib.hid hkk
    have HO1 := Lib.hid hO
    have HGG := Lib.hid hG
    clear hO hG
    by_cases hlt : k < l.length
    · obtain ⟨x, hx⟩ : ∃ x, l[k]? = some x := ⟨_, List.getElem?_eq_getElem hlt⟩
      have HX := Lib.hid hx
      have hca := FNode.cnt_at l k x hx
      have hD0 : (mkL (FNode.flat (l.take k)) k0).length = k * 4 := by rw [mkL_len, FNode.flat_len, List.length_take]; congr 1; omega
      have hO2 := HO1.out
      rw [FNode.flat_at l k x hx] at hO2
      have hmx := HE.out x (List.mem_of_getElem? hx)
      obtain ⟨z0, z1, z2, z3⟩ := x
      rw [show FNode.flat (⟨z0, z1, z2, z3⟩ :: l.drop (k + 1)) = (FNode.c ⟨z0, z1, z2, z3⟩) ++ FNode.flat (l.drop (k + 1)) from List.flatMap_cons, FNode.c_eq] at hO2
      rw [FNode.cnt_eq] at hca
      have M3 : MarkNodeS z3 := hmx
      have HM3 := Lib.hid M3
      clear hmx M3
      obtain ⟨D, hDD⟩ : ∃ D, D = mkL (FNode.flat (l.take k)) k0 := ⟨_, rfl⟩
      rw [← hDD] at hD0 hO2
      obtain ⟨R, hRR⟩ : ∃ R, R = FNode.flat (l.drop (k + 1)) := ⟨_, rfl⟩
      rw [← hRR] at hO2
      have HD := Lib.hid hD0
      have HDD := Lib.hid hDD
      have HRR := Lib.hid hRR
      have hkp : 1 ≤ kk := by omega
      generalize hCC : cntL (FNode.flat (l.take k)) = CC at *
      obtain ⟨N3, hN3⟩ : ∃ N : Nat, N = cntL (FNode.flat z3) := ⟨_, rfl⟩
      rw [← hN3] at hca
      have hkb : kk + ((3 + N3 : Nat) : Int) ≤ 1000000000000000 := by omega
      have HN3 := Lib.hid hN3
      have HCC := Lib.hid hCC
      clear hx hD0 hDD hRR hkk hca hCC hN3
      obtain ⟨f0, hrow0, hnc0, hln0⟩ := hO2.row
      have hkc : k * 4 + 4 ≤ c * 4 := by have := Nat.mul_le_mul_right 4 (show k + 1 ≤ c by omega); rw [Nat.succ_mul] at this; exact this
      have q0 := hrow0.cell (i := k * 4) (by omega)
      have y0 := hrow0.frozen (k * 4)
      have q1 := hrow0.cell (i := k * 4 + 1) (by omega)
      have y1 := hrow0.frozen (k * 4 + 1)
      have q2 := hrow0.cell (i := k * 4 + 2) (by omega)
      have y2 := hrow0.frozen (k * 4 + 2)
      have q3 := hrow0.cell (i := k * 4 + 3) (by omega)
      have y3 := hrow0.frozen (k * 4 + 3)
      clear hrow0
      go_wp2_with fail
      clear hkc y0 y1 y2 y3 q0 q1 q2 q3
      have O0_0 := OwnC.setv (D := D) (y := .int .i64 z0) (R := .v (.int .i64 z1) :: .v (.string z2) :: .s 38 4 z3.length (FNode.flat z3) :: R) (by simp only [List.append_assoc, List.cons_append, List.nil_append] at hO2 ⊢; exact hO2) hF (.int .i64 (kk)) (k * 4) (by simp [HD.out])
      clear hO2
      have O0_1 := OwnC.setv (D := D ++ [.v (.int .i64 (kk))]) (y := .int .i64 z1) (R := .v (.string z2) :: .s 38 4 z3.length (FNode.flat z3) :: R) (by simp only [List.append_assoc, List.cons_append, List.nil_append] at O0_0 ⊢; exact O0_0) hF (.int .i64 (kk + 1)) (k * 4 + 1) (by simp [HD.out])
      clear O0_0
      refine (markText_any _ _ (by omega)).mono ?_
      rintro e w2 ⟨rfl, hb1⟩
      have G1 := Lib.hid (OnlyF.of_below (OnlyF.set (OnlyF.set HGG.out (p := ⟨g, k * 4, none⟩) HG.out (.int .i64 (kk))) (p := ⟨g, k * 4 + 1, none⟩) HG.out (.int .i64 (kk + 1))) hb1)
      have P1 := O0_1.below hb1 (Nat.le_refl _)
      clear O0_1 hb1
      obtain ⟨f1, hrow1, hnc1, hln1⟩ := P1.row
      have hkc : k * 4 + 4 ≤ c * 4 := by have := Nat.mul_le_mul_right 4 (show k + 1 ≤ c by omega); rw [Nat.succ_mul] at this; exact this
      have q0 := hrow1.cell (i := k * 4) (by omega)
      have y0 := hrow1.frozen (k * 4)
      have q1 := hrow1.cell (i := k * 4 + 1) (by omega)
      have y1 := hrow1.frozen (k * 4 + 1)
      have q2 := hrow1.cell (i := k * 4 + 2) (by omega)
      have y2 := hrow1.frozen (k * 4 + 2)
      have q3 := hrow1.cell (i := k * 4 + 3) (by omega)
      have y3 := hrow1.frozen (k * 4 + 3)
      clear hrow1
      obtain ⟨g3_, a3, X3, hA3, hgF3, hc3, _, hx3, hsub3, hnd3, hgx3, hback3⟩ := OwnC.at_ (D := D ++ [.v (.int .i64 (kk)), .v (.int .i64 (kk + 1)), .v (.string z2)]) (x := .s 38 4 z3.length (FNode.flat z3)) (R := R) (by simp only [List.append_assoc, List.cons_append, List.nil_append] at P1 ⊢; exact P1) hF
      obtain ⟨A3, c3, rfl⟩ := hx3.form
      simp only [Option.some.injEq, Addr.mk.injEq, and_true] at hA3
      subst hA3
      rw [show (D ++ [.v (.int .i64 (kk)), .v (.int .i64 (kk + 1)), .v (.string z2)] : List Cel).length = k * 4 + 3 from by simp [HD.out]] at hc3
      clear q3
      go_wp2_with fail
      have hcn := Lib.hid (show World.cell? (w2.setCell ⟨g, k * 4 + 2, none⟩ (.string (mt (kk + 1 + 1)))) ⟨g, k * 4 + 3, none⟩ = some _ from (cell_set_other (by omega) hc3))
      clear hkc y0 y1 y2 y3 q0 q1 q2 hc3 hx3 hsub3 hnd3 hgx3 hback3 hgF3
      have O1_2 := OwnC.setv (D := D ++ [.v (.int .i64 (kk)), .v (.int .i64 (kk + 1))]) (y := .string z2) (R := .s 38 4 z3.length (FNode.flat z3) :: R) (by simp only [List.append_assoc, List.cons_append, List.nil_append] at P1 ⊢; exact P1) hF (.string (mt (kk + 1 + 1))) (k * 4 + 2) (by simp [HD.out])
      clear P1
      obtain ⟨g_, b3, X, hA_, hgF, hc_, _, hx_, hsub, hnd, hgx, hback⟩ := OwnC.at_ (D := D ++ [.v (.int .i64 (kk)), .v (.int .i64 (kk + 1)), .v (.string (mt (kk + 1 + 1)))]) (x := .s 38 4 z3.length (FNode.flat z3)) (R := R) (by simp only [List.append_assoc, List.cons_append, List.nil_append] at O1_2 ⊢; exact O1_2) hF
      simp only [Option.some.injEq, Addr.mk.injEq, and_true] at hA_
      subst hA_
      rw [show (D ++ [.v (.int .i64 (kk)), .v (.int .i64 (kk + 1)), .v (.string (mt (kk + 1 + 1)))] : List Cel).length = k * 4 + 3 from by simp [HD.out]] at hc_
      obtain rfl : .slice A3 z3.length c3 = b3 := Option.some.inj (hcn.out.symm.trans hc_)
      obtain ⟨k3_, hnk⟩ : ∃ k : Int, k = kk + 1 + 1 + 1 + (N3 : Int) := ⟨_, rfl⟩
      have hcall := HM3.out _ (kk + 1 + 1 + 1) X _ (by omega) (by rw [← HN3.out]; omega) hnd hx_
      rw [← HN3.out, ← hnk] at hcall
      have HNK3 := Lib.hid hnk
      have hkp3 : 1 ≤ k3_ := by omega
      have hkb3 : k3_ + ((0 : Nat) : Int) ≤ 1000000000000000 := by omega
      clear hnk hc_ hcn
      refine hcall.mono ?_
      clear hcall
      rintro e w3 ⟨rfl, own, hon⟩
      have P2 := hback w3 _ own (fun b hb hnb => hon.block b (OwnC.lt _ _ _ O1_2 b hb) hnb)
      have G2 := Lib.hid (OnlyF.call (OnlyF.set G1.out (p := ⟨g, k * 4 + 2, none⟩) HG.out (.string (mt (kk + 1 + 1)))) hon hsub)
      clear own hon hback hgx hnd hsub hx_ hgF O1_2
      go_wp2_with fail
      go_roundw
      case rel =>
        have hmk : mkL (FNode.c ⟨z0, z1, z2, z3⟩) kk = [.v (.int .i64 (kk)), .v (.int .i64 (kk + 1)), .v (.string (mt (kk + 1 + 1))), .s 38 4 z3.length (mkL (FNode.flat z3) (kk + 1 + 1 + 1))] := by
          rw [FNode.c_eq]
          rw [mkL_v (kk + 1) (by omega)]
          rw [mkL_v (kk + 1 + 1) (by omega)]
          rw [mkL_v (kk + 1 + 1 + 1) (by omega)]
          rw [mkL_s (k3_) (by rw [← HN3.out]; exact HNK3.out)]
          rw [mkL_nil]
          rfl
        have hcn : cntL (FNode.flat (l.take (k + 1))) = CC + (3 + N3) := by
          rw [FNode.flat_take l k _ HX.out, cntL_append, HCC.out, FNode.cnt_eq]
          rw [← HN3.out]; try omega
        have hall : mkL (FNode.flat (l.take (k + 1))) k0 = D ++ [.v (.int .i64 (kk)), .v (.int .i64 (kk + 1)), .v (.string (mt (kk + 1 + 1))), .s 38 4 z3.length (mkL (FNode.flat z3) (kk + 1 + 1 + 1))] := by
          rw [FNode.flat_take l k _ HX.out, mkL_append, HCC.out, ← HKK.out, ← HDD.out, hmk]
        refine ⟨k + 1, _, by omega, by go_num, rfl, ?_, ?_, G2.out⟩
        · rw [hcn]
          have := HKK.out
          have := HNK3.out; omega
        · rw [hall, ← HRR.out]
          simp only [List.append_assoc, List.cons_append, List.nil_append] at P2 ⊢
          exact P2
      case measure => simp [intOf]; omega
    · obtain rfl : k = l.length := by omega
      clear hlt
      go_wp2_with fail
      go_ret
      have e := HO1.out
      rw [List.take_length, List.drop_length] at e
      have e2 := HKK.out
      rw [List.take_length] at e2
      exact ⟨ret_int e2, by simpa using e, HGG.out⟩
set_option maxHeartbeats 2000000 in
theorem heldNodeS_of (l : List FNode) (he : ∀ x, x ∈ l → HdNode x) : HeldNodeS l := by
  intro u k0 w h1 h2 hR
  obtain ⟨A, c, rfl⟩ := hR.form
  have hcap := hR.cap
  have hn : l.length ≤ 9223372036854775807 := by unfold maxLen at hcap; omega
  have HR := Lib.hid hR
  have HE := Lib.hid he
  clear he
  clear hR hcap
  go_enter Try.func20, Try.ntmps20
  go_wp2_with fail
  go_loopw [1, 5] (fun kv i wr => ∃ (k : Nat) (kk : Int), k ≤ l.length ∧ i = .int .i64 k ∧ kv = .int .i64 kk ∧ kk = k0 + (cntL (FNode.flat (l.take k)) : Int) ∧ Below w.heap.size w wr) (fun _ i _ => l.length - (intOf i).toNat)
  case atStart => exact ⟨0, k0, Nat.zero_le _, rfl, rfl, by simp [cntL], Below.refl _ _⟩
  case round =>
    obtain ⟨k, kk, hk, rfl, rfl, hkk, hb⟩ := hrel
    have HKK := Lib.hid hkk
    by_cases hlt : k < l.length
    · obtain ⟨x, hx⟩ : ∃ x, l[k]? = some x := ⟨_, List.getElem?_eq_getElem hlt⟩
      have HX := Lib.hid hx
      have hca := FNode.cnt_at l k x hx
      obtain ⟨bc, offc, rfl, hblc, hcc⟩ := HR.out.cells (by omega)
      have hD0 : (mkL (FNode.flat (l.take k)) k0).length = k * 4 := by rw [mkL_len, FNode.flat_len, List.length_take]; congr 1; omega
      have hsp : mkL (FNode.flat l) k0 = mkL (FNode.flat (l.take k)) k0 ++ (mkL x.c kk ++ mkL (FNode.flat (l.drop (k + 1))) (kk + (cntL x.c : Int))) := by
        rw [FNode.flat_split l k x hx, mkL_append, mkL_append, ← hkk]
      have hmx := HE.out x (List.mem_of_getElem? hx)
      obtain ⟨z0, z1, z2, z3⟩ := x
      rw [FNode.cnt_eq] at hca
      have M3 : HeldNodeS z3 := hmx
      have HM3 := Lib.hid M3
      clear hmx M3
      obtain ⟨N3, hN3⟩ : ∃ N : Nat, N = cntL (FNode.flat z3) := ⟨_, rfl⟩
      rw [← hN3] at hca
      obtain ⟨k3_, hnk3⟩ : ∃ k : Int, k = kk + 1 + 1 + 1 + (N3 : Int) := ⟨_, rfl⟩
      have hmk : mkL (FNode.c ⟨z0, z1, z2, z3⟩) kk = [.v (.int .i64 (kk)), .v (.int .i64 (kk + 1)), .v (.string (mt (kk + 1 + 1))), .s 38 4 z3.length (mkL (FNode.flat z3) (kk + 1 + 1 + 1))] := by
        rw [FNode.c_eq]
        rw [mkL_v (kk + 1) (by omega)]
        rw [mkL_v (kk + 1 + 1) (by omega)]
        rw [mkL_v (kk + 1 + 1 + 1) (by omega)]
        rw [mkL_s (k3_) (by rw [← hN3]; exact hnk3)]
        rw [mkL_nil]
        rfl
      rw [hmk] at hsp
      obtain ⟨u0, e0, q0⟩ := hcc (k * 4 + 0) _ (by rw [hsp]; exact mid_get hD0 rfl)
      obtain rfl := q0.val
      clear q0
      have c_0 : wr.cell? ⟨bc, offc + k * 4, none⟩ = some (.int .i64 (kk)) := (hb.cell (p := ⟨bc, _, none⟩) hblc).trans (by simpa [Nat.add_assoc] using e0)
      obtain ⟨u1, e1, q1⟩ := hcc (k * 4 + 1) _ (by rw [hsp]; exact mid_get hD0 rfl)
      obtain rfl := q1.val
      clear q1
      have c_1 : wr.cell? ⟨bc, offc + k * 4 + 1, none⟩ = some (.int .i64 (kk + 1)) := (hb.cell (p := ⟨bc, _, none⟩) hblc).trans (by simpa [Nat.add_assoc] using e1)
      obtain ⟨u2, e2, q2⟩ := hcc (k * 4 + 2) _ (by rw [hsp]; exact mid_get hD0 rfl)
      obtain rfl := q2.val
      clear q2
      have c_2 : wr.cell? ⟨bc, offc + k * 4 + 2, none⟩ = some (.string (mt (kk + 1 + 1))) := (hb.cell (p := ⟨bc, _, none⟩) hblc).trans (by simpa [Nat.add_assoc] using e2)
      obtain ⟨u3, e3, q3⟩ := hcc (k * 4 + 3) _ (by rw [hsp]; exact mid_get hD0 rfl)
      obtain ⟨A3, c3, rfl⟩ := q3.form
      have Q3 := Lib.hid q3
      clear q3
      have c_3 : wr.cell? ⟨bc, offc + k * 4 + 3, none⟩ = some (.slice A3 z3.length c3) := (hb.cell (p := ⟨bc, _, none⟩) hblc).trans (by simpa [Nat.add_assoc] using e3)
      have hkp : 1 ≤ kk := by omega
      have hkp3 : 1 ≤ k3_ := by omega
      have hkb : kk + ((3 + N3 : Nat) : Int) ≤ 1000000000000000 := by omega
      have hkb3 : k3_ + ((0 : Nat) : Int) ≤ 1000000000000000 := by omega
      have hnn3 : 0 ≤ k3_ := by omega
      have HNK3 := Lib.hid hnk3
      have HN3 := Lib.hid hN3
      clear hcc hsp hD0 hmk hx hca hkk e0 e1 e2 e3 hnk3 hN3
      have hzb := hb.size
      go_wp2_with fail
      go_region_held3 (fun w_ => w_.cell? ⟨bc, offc + k * 4 + 2, none⟩ = some (.string (mt (kk + 1 + 1)))) (first | exact c_2 | exact ((bcell hc1).1 _ _ (by simp; omega)).trans c_2) ((first | (go_at_call 23; refine (markText_any _ _ (by omega)).mono ?_; rintro e w2 ⟨rfl, hc1⟩)))
      have B1 : Below w.heap.size w w2 := hb.trans (((Below.refl _ _).drew : Below w.heap.size wr wr.drew).trans (hc1.mono (by simp; omega)))
      have d1_3 := ((bcell hc1).1 bc (offc + k * 4 + 3) (by simp; omega)).trans c_3
      have hz1 := hc1.size
      simp at hz1
      have hy1 : w.heap.size ≤ w2.heap.size := B1.size
      clear hc1
      go_wp2_with fail
      refine calls_worldD _ (fun X => X.cell? ⟨bc, offc + k * 4 + 3, none⟩ = some (.slice A3 z3.length c3) ∧ Below w.heap.size w X) ⟨by first | exact d1_3 | (simp; exact d1_3), by first | exact B1 | exact B1.drew⟩ ?_
      rintro Z2 ⟨m2_3, BZ2⟩
      have hy2_ : w.heap.size ≤ Z2.heap.size := BZ2.size
      have hcall := HM3.out _ (kk + 1 + 1 + 1) Z2 (by omega) (by rw [← HN3.out]; omega) (Q3.out.on BZ2 (Nat.le_refl _) BZ2.size)
      rw [← HN3.out, ← HNK3.out] at hcall
      refine hcall.mono ?_
      clear hcall
      rintro e w3 ⟨rfl, hc2⟩
      have B2 : Below w.heap.size w w3 := BZ2.trans (hc2.mono (by omega))
      have hy2 : w.heap.size ≤ w3.heap.size := B2.size
      clear hc2 m2_3
      go_wp2_with fail
      go_roundw
      case rel =>
        have hcn : cntL (FNode.flat (l.take (k + 1))) = cntL (FNode.flat (l.take k)) + (3 + N3) := by
          rw [FNode.flat_take l k _ HX.out, cntL_append, FNode.cnt_eq]
          rw [← HN3.out]; try omega
        refine ⟨k + 1, _, by omega, by go_num, rfl, ?_, B2⟩
        rw [hcn]
        have := HKK.out
        have := HNK3.out; omega
      case measure => simp [intOf]; omega
    · obtain rfl : k = l.length := by omega
      clear hlt
      go_wp2_with fail
      go_ret
      have e2 := HKK.out
      rw [List.take_length] at e2
      exact ⟨ret_int e2, hb⟩
mutual
theorem MkNode_any : ∀ x : FNode, MkNode x
  | .mk z0 z1 z2 z3 => by
    have := MkNode_all z3
    exact markNodeS_of z3 this
theorem MkNode_all : ∀ (l : List FNode) (x : FNode), x ∈ l → MkNode x
  | [], x, hx => by cases hx
  | y :: r, x, hx => by
    rcases List.mem_cons.1 hx with e | hx
    · rw [e]
      exact MkNode_any y
    · exact MkNode_all r x hx
end
theorem markNodeS_any (l : List FNode) : MarkNodeS l := markNodeS_of l (MkNode_all l)
mutual
theorem HdNode_any : ∀ x : FNode, HdNode x
  | .mk z0 z1 z2 z3 => by
    have := HdNode_all z3
    exact heldNodeS_of z3 this
theorem HdNode_all : ∀ (l : List FNode) (x : FNode), x ∈ l → HdNode x
  | [], x, hx => by cases hx
  | y :: r, x, hx => by
    rcases List.mem_cons.1 hx with e | hx
    · rw [e]
      exact HdNode_any y
    · exact HdNode_all r x hx
end
theorem heldNodeS_any (l : List FNode) : HeldNodeS l := heldNodeS_of l (HdNode_all l)
theorem markNodeS_I (l : List FNode) (u : Value) (k0 : Int) (lo hi : Nat) (w : World) (h1 : 1 ≤ k0) (h2 : k0 + (cntL (FNode.flat l) : Int) ≤ 1000000000000000) (h : OwnI w lo hi [.s 38 4 l.length (FNode.flat l)] [u]) :
    Calls Try.prog 11 #[u, .int .i64 k0] w fun e w' => e = .returned (.int .i64 (k0 + (cntL (FNode.flat l) : Int))) ∧ OwnI w' lo hi [.s 38 4 l.length (mkL (FNode.flat l) k0)] [u] ∧ Only lo hi w.heap.size w w' := by
  obtain ⟨F, a1, a2, a3⟩ := h
  exact (markNodeS_any l u k0 F w h1 h2 a2 a1.unone).mono fun e w' ⟨h3, h4, h5⟩ => ⟨h3, own_interval a2 a3 (OwnL.one h4) h5⟩
def MarkNode (x : FNode) : Prop := ∀ (us : List Value) (k0 : Int) (F : List Nat) (w : World), 1 ≤ k0 → k0 + (scnt x.c : Int) ≤ 1000000000000000 → F.Nodup → OwnL w x.c F us → Calls Try.prog 19 #[.agg us.toArray, .int .i64 k0] w fun e w' => e = .returned (.int .i64 (k0 + (scnt x.c : Int))) ∧ OwnL w' (smk x.c k0) F us ∧ OnlyF F w w'
set_option maxHeartbeats 1000000 in
theorem markNode_of (z0 : Int) (z1 : Int) (z2 : ByteArray) (z3 : List FNode) (h3 : MarkNodeS z3) : MarkNode ⟨z0, z1, z2, z3⟩ := by
  intro us k0 F w hq1_ hq2_ hF hO
  obtain ⟨N3, hN3⟩ : ∃ N : Nat, N = cntL (FNode.flat z3) := ⟨_, rfl⟩
  have hsc : scnt (FNode.c ⟨z0, z1, z2, z3⟩) = N3 := by
    rw [FNode.c_eq]
    simp only [scnt]
    omega
  rw [hsc] at hq2_ ⊢
  obtain ⟨k3_, hk3⟩ : ∃ k : Int, k = k0 + (N3 : Int) := ⟨_, rfl⟩
  have hsm : smk (FNode.c ⟨z0, z1, z2, z3⟩) k0 = [.v (.int .i64 z0), .v (.int .i64 z1), .v (.string z2), .s 38 4 z3.length (mkL (FNode.flat z3) (k0))] := by
    rw [FNode.c_eq]
    rw [smk_v]
    rw [smk_v]
    rw [smk_v]
    rw [smk_s k3_ (by rw [← hN3]; exact hk3)]
    rfl
  rw [hsm]
  have hfin : k0 + ((N3 : Nat) : Int) = k3_ := by omega
  rw [hfin]
  rw [FNode.c_eq] at hO
  have hr := hO.vs
  obtain ⟨us0, rfl, hr_0⟩ := hr.unv
  obtain ⟨us1, rfl, hr_1⟩ := hr_0.unv
  obtain ⟨us2, rfl, hr_2⟩ := hr_1.unv
  obtain ⟨A3, c3, us3, rfl, r3, hr_3⟩ := hr_2.uns
  obtain rfl := hr_3.un0
  clear hsc hsm hr hr_0 hr_1 hr_2 hr_3 r3
  have hp3 : 1 ≤ k3_ := by omega
  have H3 := Lib.hid h3
  clear h3
  have hb3 : k3_ + ((0 : Nat) : Int) ≤ 1000000000000000 := by omega
  have HN3 := Lib.hid hN3
  have HK3 := Lib.hid hk3
  clear hN3 hk3
  clear hfin
  have HO := Lib.hid hO
  clear hO
  go_enter Try.func19, Try.ntmps19
  go_wp2_with fail
  refine calls_worldD _ (fun X => Blk X w.heap.size 38 #[.int .i64 z0, .int .i64 z1, .string z2, .slice A3 z3.length c3] ∧ OwnL X [.v (.int .i64 z0), .v (.int .i64 z1), .v (.string z2), .s 38 4 z3.length (FNode.flat z3)] F [.int .i64 z0, .int .i64 z1, .string z2, .slice A3 z3.length c3] ∧ OnlyF F w X ∧ w.heap.size < X.heap.size) ⟨Blk.new w _ _, OwnL.keep _ _ _ HO.out fun g hg => Below.heap_alloc _ _ _ (OwnL.lt _ _ _ HO.out g hg), (OnlyF.refl _ _).alloc _, by simp⟩ ?_
  rintro X0 ⟨ba, hO, hG, hs⟩
  obtain ⟨Fm, hm, hsub, hnd, hback⟩ := OwnL.sub (D := [.v (.int .i64 z0), .v (.int .i64 z1), .v (.string z2)]) (M := [.s 38 4 z3.length (FNode.flat z3)]) (R := []) (u1 := [.int .i64 z0, .int .i64 z1, .string z2]) (um := [.slice A3 z3.length c3]) (u3 := []) hO hF rfl rfl
  have hcall := H3.out _ (k0) Fm X0 (by omega) (by rw [← HN3.out]; omega) hnd hm.unone
  rw [← HN3.out, ← HK3.out] at hcall
  refine hcall.mono ?_
  clear hcall
  rintro e Y0 ⟨rfl, own, hon⟩
  have hlt := OwnL.lt _ _ _ hO
  have hFl : w.heap.size ∉ F := fun e => by have := OwnL.lt _ _ _ HO.out _ e; omega
  replace hO := hback Y0 [.s 38 4 z3.length (mkL (FNode.flat z3) (k0))] (OwnL.one own) (fun b hb hnb => hon.block b (hlt b hb) hnb)
  replace ba : Blk Y0 w.heap.size 38 #[.int .i64 z0, .int .i64 z1, .string z2, .slice A3 z3.length c3] := (hon.block _ ba.lt (fun e => hFl (hsub _ e))).trans ba
  replace hG := OnlyF.call hG hon hsub
  replace hs : w.heap.size < Y0.heap.size := Nat.lt_of_lt_of_le hs hon.size
  clear own hon hm hsub hnd hback hlt hFl
  have ba_0 : Y0.cell? ⟨w.heap.size, 0, none⟩ = some (.int .i64 z0) := ba.cell 0
  have ba_1 : Y0.cell? ⟨w.heap.size, 1, none⟩ = some (.int .i64 z1) := ba.cell 1
  have ba_2 : Y0.cell? ⟨w.heap.size, 2, none⟩ = some (.string z2) := ba.cell 2
  have ba_3 : Y0.cell? ⟨w.heap.size, 3, none⟩ = some (.slice A3 z3.length c3) := ba.cell 3
  have ba_l := ba.lt
  go_wp2_with fail
  go_ret
  exact ⟨rfl, hO, hG⟩
theorem markNode_any (x : FNode) : MarkNode x := by
  obtain ⟨z0, z1, z2, z3⟩ := x
  exact markNode_of z0 z1 z2 z3 (markNodeS_any z3)
theorem markNode_I (x : FNode) (us : List Value) (k0 : Int) (lo hi : Nat) (w : World) (h1 : 1 ≤ k0) (h2 : k0 + (scnt x.c : Int) ≤ 1000000000000000) (h : OwnI w lo hi x.c us) :
    Calls Try.prog 19 #[.agg us.toArray, .int .i64 k0] w fun e w' => e = .returned (.int .i64 (k0 + (scnt x.c : Int))) ∧ OwnI w' lo hi (smk x.c k0) us ∧ Only lo hi w.heap.size w w' := by
  obtain ⟨F, a1, a2, a3⟩ := h
  exact (markNode_any x us k0 F w h1 h2 a2 a1).mono fun e w' ⟨h3, h4, h5⟩ => ⟨h3, own_interval a2 a3 h4 h5⟩
theorem FUnit.flat_len (l : List FUnit) : (FUnit.flat l).length = l.length * 5 := by
  induction l with
  | nil => simp
  | cons x r ih =>
    have e : FUnit.flat (x :: r) = x.c ++ FUnit.flat r := List.flatMap_cons
    rw [e, List.length_append, ih, FUnit.len, List.length_cons]
    omega
theorem FUnit.flat_at (l : List FUnit) (k : Nat) (x : FUnit) (h : l[k]? = some x) : l.drop k = x :: l.drop (k + 1) := by
  have hk := (List.getElem?_eq_some_iff.1 h).1
  rw [List.drop_eq_getElem_cons hk, (List.getElem?_eq_some_iff.1 h).2]
theorem FUnit.flat_take (l : List FUnit) (k : Nat) (x : FUnit) (h : l[k]? = some x) : FUnit.flat (l.take (k + 1)) = FUnit.flat (l.take k) ++ x.c := by
  rw [List.take_add_one, h]
  simp [FUnit.flat]
theorem FUnit.flat_split (l : List FUnit) (k : Nat) (x : FUnit) (h : l[k]? = some x) : FUnit.flat l = FUnit.flat (l.take k) ++ (x.c ++ FUnit.flat (l.drop (k + 1))) := by
  have e : FUnit.flat (l.take k ++ l.drop k) = FUnit.flat (l.take k) ++ FUnit.flat (l.drop k) := List.flatMap_append
  rw [List.take_append_drop] at e
  rw [e, FUnit.flat_at l k x h]
  have e2 : FUnit.flat (x :: l.drop (k + 1)) = x.c ++ FUnit.flat (l.drop (k + 1)) := List.flatMap_cons
  rw [e2]
theorem FUnit.cnt_at (l : List FUnit) (k : Nat) (x : FUnit) (h : l[k]? = some x) : cntL (FUnit.flat (l.take k)) + cntL x.c ≤ cntL (FUnit.flat l) := by
  rw [FUnit.flat_split l k x h, cntL_append, cntL_append]
  omega
theorem FUnit.cnt_eq (z0 : ByteArray) (z1 : Int) (z2 : Int) (z3 : ByteArray) (z4 : List FNode) : cntL (FUnit.c ⟨z0, ⟨z1, z2, z3, z4⟩⟩) = 4 + cntL (FNode.flat z4) := by
  rw [FUnit.c_eq]
  simp only [cntL, Cel.cnt]
  try omega
def MkUnit : FUnit → Prop
  | ⟨z0, ⟨z1, z2, z3, z4⟩⟩ => MarkNodeS z4
def HdUnit : FUnit → Prop
  | ⟨z0, ⟨z1, z2, z3, z4⟩⟩ => HeldNodeS z4
theorem cntb1_Unit (x : FUnit) : cntL x.c ≤ 10 + 10 * x.wt := by
  obtain ⟨z0, ⟨z1, z2, z3, z4⟩⟩ := x
  rw [FUnit.cnt_eq, FUnit.wt_eq]
  have b4 := cntb_NodeS z4
  omega
theorem cntb_UnitS : ∀ l : List FUnit, cntL (FUnit.flat l) ≤ 10 * (l.length + FUnit.wts l)
  | [] => by simp [cntL]
  | x :: r => by
    have e : FUnit.flat (x :: r) = x.c ++ FUnit.flat r := List.flatMap_cons
    have h1 := cntb1_Unit x
    have h2 := cntb_UnitS r
    rw [e, cntL_append, FUnit.wts, List.length_cons]
    omega
theorem cntb_Unit (x : FUnit) : scnt x.c ≤ 10 * x.wt := by
  obtain ⟨z0, ⟨z1, z2, z3, z4⟩⟩ := x
  rw [FUnit.c_eq, FUnit.wt_eq]
  simp only [scnt]
  have b4 := cntb_NodeS z4
  omega
end Go.Proofs.Ytbmgjndpnbdgeaa
