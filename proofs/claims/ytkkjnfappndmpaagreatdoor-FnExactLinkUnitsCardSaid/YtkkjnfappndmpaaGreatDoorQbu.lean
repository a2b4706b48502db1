/-
 Parts of the proof: MkLu. Conditions: none.
-/
import Derived.Test.YtkkjnfappndmpaaGreatDoorQFold
import Derived.Test.YtkkjnfappndmpaaGreatDoorQaa
set_option linter.unusedVariables false
set_option linter.unusedSimpArgs false
namespace Go.Proofs.YtkkjnfappndmpaaGreatDoor
set_option maxHeartbeats 40000000
open Lib (hid)
open Go.ChangeShapes Go.WideShapes Go.ChangeAt Go.RowKit Go.Deep Go.Joins
open Go.ChangeMaps (open_string shut_string)
set_option maxRecDepth 100000
def MarkEntryS (l : List FEntry) : Prop := ∀ (u : Value) (k0 : Int) (F : List Nat) (w : World), 1 ≤ k0 → k0 + (cntL (FEntry.flat l) : Int) ≤ 1000000000000000 → F.Nodup → OwnC w (.s 114 8 l.length (FEntry.flat l)) F u → Calls Tryz.prog 47 #[u, .int .i64 k0] w fun e w' => e = .returned (.int .i64 (k0 + (cntL (FEntry.flat l) : Int))) ∧ OwnC w' (.s 114 8 l.length (mkL (FEntry.flat l) k0)) F u ∧ OnlyF F w w'
def HeldEntryS (l : List FEntry) : Prop := ∀ (u : Value) (k0 : Int) (w : World), 1 ≤ k0 → k0 + (cntL (FEntry.flat l) : Int) ≤ 1000000000000000 → RdC w w.heap.size (.s 114 8 l.length (mkL (FEntry.flat l) k0)) u → Calls Tryz.prog 48 #[u, .int .i64 k0] w fun e w' => e = .returned (.int .i64 (k0 + (cntL (FEntry.flat l) : Int))) ∧ Below w.heap.size w w'
theorem FMethod.flat_len (l : List FMethod) : (FMethod.flat l).length = l.length * 5 := by
 induction l with
 | nil => simp
 | cons x r ih =>
  have e : FMethod.flat (x :: r) = x.c ++ FMethod.flat r := List.flatMap_cons
  rw [e, List.length_append, ih, FMethod.len, List.length_cons]
  omega
theorem FMethod.flat_at (l : List FMethod) (k : Nat) (x : FMethod) (h : l[k]? = some x) : l.drop k = x :: l.drop (k + 1) := by
 exact zz80
theorem FMethod.flat_take (l : List FMethod) (k : Nat) (x : FMethod) (h : l[k]? = some x) : FMethod.flat (l.take (k + 1)) = FMethod.flat (l.take k) ++ x.c := by
 rw [List.take_add_one, h]
 simp [FMethod.flat]
theorem FMethod.flat_split (l : List FMethod) (k : Nat) (x : FMethod) (h : l[k]? = some x) : FMethod.flat l = FMethod.flat (l.take k) ++ (x.c ++ FMethod.flat (l.drop (k + 1))) := by
 have e : FMethod.flat (l.take k ++ l.drop k) = FMethod.flat (l.take k) ++ FMethod.flat (l.drop k) := List.flatMap_append
 rw [List.take_append_drop] at e
 rw [e, FMethod.flat_at l k x h]
 have e2 : FMethod.flat (x :: l.drop (k + 1)) = x.c ++ FMethod.flat (l.drop (k + 1)) := List.flatMap_cons
 rw [e2]
theorem FMethod.cnt_at (l : List FMethod) (k : Nat) (x : FMethod) (h : l[k]? = some x) : cntL (FMethod.flat (l.take k)) + cntL x.c ≤ cntL (FMethod.flat l) := by
 rw [FMethod.flat_split l k x h, cntL_append, cntL_append]
 omega
theorem FMethod.cnt_eq (z0 : ByteArray) (z1 : ByteArray) (z2 : ByteArray) (z3 : Bool) (z4 : Bool) : cntL (FMethod.c ⟨z0, z1, z2, z3, z4⟩) = 5 := by
 rw [FMethod.c_eq]
 simp only [cntL, Cel.cnt]
 try omega
def MarkMethodS (l : List FMethod) : Prop := ∀ (u : Value) (k0 : Int) (F : List Nat) (w : World), 1 ≤ k0 → k0 + (cntL (FMethod.flat l) : Int) ≤ 1000000000000000 → F.Nodup → OwnC w (.s 87 5 l.length (FMethod.flat l)) F u → Calls Tryz.prog 28 #[u, .int .i64 k0] w fun e w' => e = .returned (.int .i64 (k0 + (cntL (FMethod.flat l) : Int))) ∧ OwnC w' (.s 87 5 l.length (mkL (FMethod.flat l) k0)) F u ∧ OnlyF F w w'
def HeldMethodS (l : List FMethod) : Prop := ∀ (u : Value) (k0 : Int) (w : World), 1 ≤ k0 → k0 + (cntL (FMethod.flat l) : Int) ≤ 1000000000000000 → RdC w w.heap.size (.s 87 5 l.length (mkL (FMethod.flat l) k0)) u → Calls Tryz.prog 30 #[u, .int .i64 k0] w fun e w' => e = .returned (.int .i64 (k0 + (cntL (FMethod.flat l) : Int))) ∧ Below w.heap.size w w'
theorem markMethodS_of (l : List FMethod) : MarkMethodS l := by
 intro u k0 F w h1 h2 hF hO
 obtain ⟨A, c, rfl⟩ := hO.form
 have hcap := hO.read.cap
 have hn : l.length ≤ 9223372036854775807 := by unfold maxLen at hcap; omega
 have HO := hid hO
 clear hcap
 by_cases hl0 : l.length = 0
 ·obtain rfl : l = [] := List.eq_nil_of_length_eq_zero hl0
  clear hO hl0
  go_enter Tryz.func28, Tryz.ntmps28
  exact zz27
 obtain ⟨g, hA, hg⟩ := hO.head qaa
 subst hA
 have HG := hid hg
 clear hO hg hl0
 go_enter Tryz.func28, Tryz.ntmps28
 go_wp2_with fail
 go_loopw [1, 5] (fun kv i wr => ∃ (k : Nat) (kk : Int), k ≤ l.length ∧ i = .int .i64 k ∧ kv = .int .i64 kk ∧ kk = k0 + (cntL (FMethod.flat (l.take k)) : Int) ∧ OwnC wr (.s 87 5 l.length (mkL (FMethod.flat (l.take k)) k0 ++ FMethod.flat (l.drop k))) F (.slice (some ⟨g, 0, none⟩) l.length c) ∧ OnlyF F w wr) (fun _ i _ => l.length - (intOf i).toNat)
 case atStart => exact zz109
 case round =>
  obtain ⟨k, kk, hk, rfl, rfl, hkk, hO, hG⟩ := hrel
  have HKK := hid hkk
  have HO1 := hid hO
  have HGG := hid hG
  clear hO hG
  by_cases hlt : k < l.length
  ·obtain ⟨x, hx⟩ : ∃ x, l[k]? = some x := ⟨_, List.getElem?_eq_getElem hlt⟩
   have HX := hid hx
   have hca := FMethod.cnt_at l k x hx
   have hD0 : (mkL (FMethod.flat (l.take k)) k0).length = k * 5 := by rw [mkL_len, FMethod.flat_len, List.length_take]; congr 1; omega
   have hO2 := HO1.out
   rw [FMethod.flat_at l k x hx] at hO2
   obtain ⟨z0, z1, z2, z3, z4⟩ := x
   rw [show FMethod.flat (⟨z0, z1, z2, z3, z4⟩ :: l.drop (k + 1)) = (FMethod.c ⟨z0, z1, z2, z3, z4⟩) ++ FMethod.flat (l.drop (k + 1)) from List.flatMap_cons, FMethod.c_eq] at hO2
   rw [FMethod.cnt_eq] at hca
   obtain ⟨D, hDD⟩ : ∃ D, D = mkL (FMethod.flat (l.take k)) k0 := ⟨_, rfl⟩
   rw [← hDD] at hD0 hO2
   obtain ⟨R, hRR⟩ : ∃ R, R = FMethod.flat (l.drop (k + 1)) := ⟨_, rfl⟩
   rw [← hRR] at hO2
   have HD := hid hD0
   have HDD := hid hDD
   have HRR := hid hRR
   have hkp : 1 ≤ kk := qaa
   generalize hCC : cntL (FMethod.flat (l.take k)) = CC at *
   have hkb : kk + ((5 : Nat) : Int) ≤ 1000000000000000 := qaa
   have HCC := hid hCC
   clear hx hD0 hDD hRR hkk hca hCC 
   obtain ⟨f0, hrow0, hnc0, hln0⟩ := hO2.row
   have hkc : k * 5 + 5 ≤ c * 5 := by have := Nat.mul_le_mul_right 5 (show k + 1 ≤ c by omega); rw [Nat.succ_mul] at this; exact this
   have q0 := hrow0.cell (i := k * 5) qaa
   have y0 := hrow0.frozen (k * 5)
   have q1 := hrow0.cell (i := k * 5 + 1) qaa
   have y1 := hrow0.frozen (k * 5 + 1)
   have q2 := hrow0.cell (i := k * 5 + 2) qaa
   have y2 := hrow0.frozen (k * 5 + 2)
   have q3 := hrow0.cell (i := k * 5 + 3) qaa
   have y3 := hrow0.frozen (k * 5 + 3)
   have q4 := hrow0.cell (i := k * 5 + 4) qaa
   have y4 := hrow0.frozen (k * 5 + 4)
   clear hrow0
   go_wp2_with fail
   clear hkc y0 y1 y2 y3 y4 q0 q1 q2 q3 q4
   refine (markText_any _ _ qaa).mono ?_
   rintro e w2 ⟨rfl, hb1⟩
   have G1 := hid (OnlyF.of_below HGG.out hb1)
   have P1 := hO2.below hb1 nr
   clear hO2 hb1
   obtain ⟨f1, hrow1, hnc1, hln1⟩ := P1.row
   have hkc : k * 5 + 5 ≤ c * 5 := by have := Nat.mul_le_mul_right 5 (show k + 1 ≤ c by omega); rw [Nat.succ_mul] at this; exact this
   have q0 := hrow1.cell (i := k * 5) qaa
   have y0 := hrow1.frozen (k * 5)
   have q1 := hrow1.cell (i := k * 5 + 1) qaa
   have y1 := hrow1.frozen (k * 5 + 1)
   have q2 := hrow1.cell (i := k * 5 + 2) qaa
   have y2 := hrow1.frozen (k * 5 + 2)
   have q3 := hrow1.cell (i := k * 5 + 3) qaa
   have y3 := hrow1.frozen (k * 5 + 3)
   have q4 := hrow1.cell (i := k * 5 + 4) qaa
   have y4 := hrow1.frozen (k * 5 + 4)
   clear hrow1
   go_wp2_with fail
   clear hkc y0 y1 y2 y3 y4 q0 q1 q2 q3 q4
   have O1_0 := OwnC.setv (D := D) (y := .string z0) (R := .v (.string z1) :: .v (.string z2) :: .v (.bool z3) :: .v (.bool z4) :: R) qas hF (.string (mt (kk))) (k * 5) qbd
   clear P1
   refine (markText_any _ _ qaa).mono ?_
   rintro e w3 ⟨rfl, hb2⟩
   have G2 := hid (OnlyF.of_below (OnlyF.set G1.out (p := ⟨g, k * 5, none⟩) HG.out (.string (mt (kk)))) hb2)
   have P2 := O1_0.below hb2 nr
   clear O1_0 hb2
   obtain ⟨f2, hrow2, hnc2, hln2⟩ := P2.row
   have hkc : k * 5 + 5 ≤ c * 5 := by have := Nat.mul_le_mul_right 5 (show k + 1 ≤ c by omega); rw [Nat.succ_mul] at this; exact this
   have q0 := hrow2.cell (i := k * 5) qaa
   have y0 := hrow2.frozen (k * 5)
   have q1 := hrow2.cell (i := k * 5 + 1) qaa
   have y1 := hrow2.frozen (k * 5 + 1)
   have q2 := hrow2.cell (i := k * 5 + 2) qaa
   have y2 := hrow2.frozen (k * 5 + 2)
   have q3 := hrow2.cell (i := k * 5 + 3) qaa
   have y3 := hrow2.frozen (k * 5 + 3)
   have q4 := hrow2.cell (i := k * 5 + 4) qaa
   have y4 := hrow2.frozen (k * 5 + 4)
   clear hrow2
   go_wp2_with fail
   clear hkc y0 y1 y2 y3 y4 q0 q1 q2 q3 q4
   have O2_1 := OwnC.setv (D := D ++ [.v (.string (mt (kk)))]) (y := .string z1) (R := .v (.string z2) :: .v (.bool z3) :: .v (.bool z4) :: R) qat hF (.string (mt (kk + 1))) (k * 5 + 1) qbd
   clear P2
   refine (markText_any _ _ qaa).mono ?_
   rintro e w4 ⟨rfl, hb3⟩
   have G3 := hid (OnlyF.of_below (OnlyF.set G2.out (p := ⟨g, k * 5 + 1, none⟩) HG.out (.string (mt (kk + 1)))) hb3)
   have P3 := O2_1.below hb3 nr
   clear O2_1 hb3
   obtain ⟨f3, hrow3, hnc3, hln3⟩ := P3.row
   have hkc : k * 5 + 5 ≤ c * 5 := by have := Nat.mul_le_mul_right 5 (show k + 1 ≤ c by omega); rw [Nat.succ_mul] at this; exact this
   have q0 := hrow3.cell (i := k * 5) qaa
   have y0 := hrow3.frozen (k * 5)
   have q1 := hrow3.cell (i := k * 5 + 1) qaa
   have y1 := hrow3.frozen (k * 5 + 1)
   have q2 := hrow3.cell (i := k * 5 + 2) qaa
   have y2 := hrow3.frozen (k * 5 + 2)
   have q3 := hrow3.cell (i := k * 5 + 3) qaa
   have y3 := hrow3.frozen (k * 5 + 3)
   have q4 := hrow3.cell (i := k * 5 + 4) qaa
   have y4 := hrow3.frozen (k * 5 + 4)
   clear hrow3
   go_wp2_with fail
   clear hkc y0 y1 y2 y3 y4 q0 q1 q2 q3 q4
   have O3_2 := OwnC.setv (D := D ++ [.v (.string (mt (kk))), .v (.string (mt (kk + 1)))]) (y := .string z2) (R := .v (.bool z3) :: .v (.bool z4) :: R) qax hF (.string (mt (kk + 1 + 1))) (k * 5 + 2) qbd
   clear P3
   have O3_3 := OwnC.setv (D := D ++ [.v (.string (mt (kk))), .v (.string (mt (kk + 1))), .v (.string (mt (kk + 1 + 1)))]) (y := .bool z3) (R := .v (.bool z4) :: R) (by simp only [List.append_assoc, List.cons_append, List.nil_append] at O3_2 ⊢; exact O3_2) hF (.bool ((kk + 1 + 1 + 1) % 3 == 0)) (k * 5 + 3) qbd
   clear O3_2
   have O3_4 := OwnC.setv (D := D ++ [.v (.string (mt (kk))), .v (.string (mt (kk + 1))), .v (.string (mt (kk + 1 + 1))), .v (.bool ((kk + 1 + 1 + 1) % 3 == 0))]) (y := .bool z4) (R := R) (by simp only [List.append_assoc, List.cons_append, List.nil_append] at O3_3 ⊢; exact O3_3) hF (.bool ((kk + 1 + 1 + 1 + 1) % 3 == 0)) (k * 5 + 4) qbd
   clear O3_3
   go_roundw
   case rel =>
    have hmk : mkL (FMethod.c ⟨z0, z1, z2, z3, z4⟩) kk = [.v (.string (mt (kk))), .v (.string (mt (kk + 1))), .v (.string (mt (kk + 1 + 1))), .v (.bool ((kk + 1 + 1 + 1) % 3 == 0)), .v (.bool ((kk + 1 + 1 + 1 + 1) % 3 == 0))] := by
     exact zz106
    have hcn : cntL (FMethod.flat (l.take (k + 1))) = CC + (5) := by
     rw [FMethod.flat_take l k _ HX.out, cntL_append, HCC.out, FMethod.cnt_eq]
     try omega
    have hall : mkL (FMethod.flat (l.take (k + 1))) k0 = D ++ [.v (.string (mt (kk))), .v (.string (mt (kk + 1))), .v (.string (mt (kk + 1 + 1))), .v (.bool ((kk + 1 + 1 + 1) % 3 == 0)), .v (.bool ((kk + 1 + 1 + 1 + 1) % 3 == 0))] := by
     rw [FMethod.flat_take l k _ HX.out, mkL_append, HCC.out, ← HKK.out, ← HDD.out, hmk]
    refine ⟨k + 1, _, by omega, by go_num, rfl, ?_, ?_, (OnlyF.set (OnlyF.set (OnlyF.set G3.out (p := ⟨g, k * 5 + 2, none⟩) HG.out (.string (mt (kk + 1 + 1)))) (p := ⟨g, k * 5 + 3, none⟩) HG.out (.bool ((kk + 1 + 1 + 1) % 3 == 0))) (p := ⟨g, k * 5 + 4, none⟩) HG.out (.bool ((kk + 1 + 1 + 1 + 1) % 3 == 0)))⟩
    ·rw [hcn]
     have := HKK.out
     omega
    ·rw [hall, ← HRR.out]
     simp only [List.append_assoc, List.cons_append, List.nil_append] at O3_4 ⊢
     exact O3_4
   case measure => simp [intOf]; omega
  ·exact zz37
theorem heldMethodS_of (l : List FMethod) : HeldMethodS l := by
 intro u k0 w h1 h2 hR
 obtain ⟨A, c, rfl⟩ := hR.form
 have hcap := hR.cap
 have hn : l.length ≤ 9223372036854775807 := by unfold maxLen at hcap; omega
 have HR := hid hR
 clear hR hcap
 go_enter Tryz.func30, Tryz.ntmps30
 go_wp2_with fail
 go_loopw [1, 5] (fun kv i wr => ∃ (k : Nat) (kk : Int), k ≤ l.length ∧ i = .int .i64 k ∧ kv = .int .i64 kk ∧ kk = k0 + (cntL (FMethod.flat (l.take k)) : Int) ∧ Below w.heap.size w wr) (fun _ i _ => l.length - (intOf i).toNat)
 case atStart => exact ⟨0, k0, Nat.zero_le _, rfl, rfl, by simp [cntL], Below.refl _ _⟩
 case round =>
  obtain ⟨k, kk, hk, rfl, rfl, hkk, hb⟩ := hrel
  have HKK := hid hkk
  by_cases hlt : k < l.length
  ·obtain ⟨x, hx⟩ : ∃ x, l[k]? = some x := ⟨_, List.getElem?_eq_getElem hlt⟩
   have HX := hid hx
   have hca := FMethod.cnt_at l k x hx
   obtain ⟨bc, offc, rfl, hblc, hcc⟩ := HR.out.cells qaa
   have hD0 : (mkL (FMethod.flat (l.take k)) k0).length = k * 5 := by rw [mkL_len, FMethod.flat_len, List.length_take]; congr 1; omega
   have hsp : mkL (FMethod.flat l) k0 = mkL (FMethod.flat (l.take k)) k0 ++ (mkL x.c kk ++ mkL (FMethod.flat (l.drop (k + 1))) (kk + (cntL x.c : Int))) := by
    rw [FMethod.flat_split l k x hx, mkL_append, mkL_append, ← hkk]
   obtain ⟨z0, z1, z2, z3, z4⟩ := x
   rw [FMethod.cnt_eq] at hca
   have hmk : mkL (FMethod.c ⟨z0, z1, z2, z3, z4⟩) kk = [.v (.string (mt (kk))), .v (.string (mt (kk + 1))), .v (.string (mt (kk + 1 + 1))), .v (.bool ((kk + 1 + 1 + 1) % 3 == 0)), .v (.bool ((kk + 1 + 1 + 1 + 1) % 3 == 0))] := by
    exact zz106
   rw [hmk] at hsp
   obtain ⟨u0, e0, q0⟩ := hcc (k * 5 + 0) _ qaq
   obtain rfl := q0.val
   clear q0
   have c_0 : wr.cell? ⟨bc, offc + k * 5, none⟩ = some (.string (mt (kk))) := (hb.cell (p := ⟨bc, _, none⟩) hblc).trans (by simpa [Nat.add_assoc] using e0)
   obtain ⟨u1, e1, q1⟩ := hcc (k * 5 + 1) _ qaq
   obtain rfl := q1.val
   clear q1
   have c_1 : wr.cell? ⟨bc, offc + k * 5 + 1, none⟩ = some (.string (mt (kk + 1))) := (hb.cell (p := ⟨bc, _, none⟩) hblc).trans (by simpa [Nat.add_assoc] using e1)
   obtain ⟨u2, e2, q2⟩ := hcc (k * 5 + 2) _ qaq
   obtain rfl := q2.val
   clear q2
   have c_2 : wr.cell? ⟨bc, offc + k * 5 + 2, none⟩ = some (.string (mt (kk + 1 + 1))) := (hb.cell (p := ⟨bc, _, none⟩) hblc).trans (by simpa [Nat.add_assoc] using e2)
   obtain ⟨u3, e3, q3⟩ := hcc (k * 5 + 3) _ qaq
   obtain rfl := q3.val
   clear q3
   have c_3 : wr.cell? ⟨bc, offc + k * 5 + 3, none⟩ = some (.bool ((kk + 1 + 1 + 1) % 3 == 0)) := (hb.cell (p := ⟨bc, _, none⟩) hblc).trans (by simpa [Nat.add_assoc] using e3)
   obtain ⟨u4, e4, q4⟩ := hcc (k * 5 + 4) _ qaq
   obtain rfl := q4.val
   clear q4
   have c_4 : wr.cell? ⟨bc, offc + k * 5 + 4, none⟩ = some (.bool ((kk + 1 + 1 + 1 + 1) % 3 == 0)) := (hb.cell (p := ⟨bc, _, none⟩) hblc).trans (by simpa [Nat.add_assoc] using e4)
   have hkp : 1 ≤ kk := qaa
   have hkb : kk + ((5 : Nat) : Int) ≤ 1000000000000000 := qaa
   clear hcc hsp hD0 hmk hx hca hkk e0 e1 e2 e3 e4 
   have hzb := hb.size
   go_wp2_with fail
   go_region_held3 (fun w_ => w_.cell? ⟨bc, offc + k * 5, none⟩ = some (.string (mt (kk)))) (first | exact c_0 | exact ((bcell hc1).1 _ _ qak).trans c_0) ((first | (go_at_call 25; refine (markText_any _ _ qaa).mono ?_; rintro e w2 ⟨rfl, hc1⟩)))
   have B1 : Below w.heap.size w w2 := hb.trans (((Below.refl _ _).drew : Below w.heap.size wr wr.drew).trans (hc1.mono qak))
   have d1_1 := ((bcell hc1).1 bc (offc + k * 5 + 1) qak).trans c_1
   have d1_2 := ((bcell hc1).1 bc (offc + k * 5 + 2) qak).trans c_2
   have d1_3 := ((bcell hc1).1 bc (offc + k * 5 + 3) qak).trans c_3
   have d1_4 := ((bcell hc1).1 bc (offc + k * 5 + 4) qak).trans c_4
   have hz1 := hc1.size
   simp at hz1
   have hy1 : w.heap.size ≤ w2.heap.size := B1.size
   clear hc1
   go_wp2_with fail
   go_region_held3 (fun w_ => w_.cell? ⟨bc, offc + k * 5 + 1, none⟩ = some (.string (mt (kk + 1)))) (first | exact d1_1 | exact ((bcell hc2).1 _ _ qak).trans d1_1) ((first | (go_at_call 25; refine (markText_any _ _ qaa).mono ?_; rintro e w3 ⟨rfl, hc2⟩)))
   have B2 : Below w.heap.size w w3 := B1.trans (((Below.refl _ _).drew : Below w.heap.size w2 w2.drew).trans (hc2.mono qak))
   have d2_2 := ((bcell hc2).1 bc (offc + k * 5 + 2) qak).trans d1_2
   have d2_3 := ((bcell hc2).1 bc (offc + k * 5 + 3) qak).trans d1_3
   have d2_4 := ((bcell hc2).1 bc (offc + k * 5 + 4) qak).trans d1_4
   have hz2 := hc2.size
   simp at hz2
   have hy2 : w.heap.size ≤ w3.heap.size := B2.size
   clear hc2
   go_wp2_with fail
   go_region_held3 (fun w_ => w_.cell? ⟨bc, offc + k * 5 + 2, none⟩ = some (.string (mt (kk + 1 + 1)))) (first | exact d2_2 | exact ((bcell hc3).1 _ _ qak).trans d2_2) ((first | (go_at_call 25; refine (markText_any _ _ qaa).mono ?_; rintro e w4 ⟨rfl, hc3⟩)))
   have B3 : Below w.heap.size w w4 := B2.trans (((Below.refl _ _).drew : Below w.heap.size w3 w3.drew).trans (hc3.mono qak))
   have d3_3 := ((bcell hc3).1 bc (offc + k * 5 + 3) qak).trans d2_3
   have d3_4 := ((bcell hc3).1 bc (offc + k * 5 + 4) qak).trans d2_4
   have hz3 := hc3.size
   simp at hz3
   have hy3 : w.heap.size ≤ w4.heap.size := B3.size
   clear hc3
   go_wp2_with fail
   go_roundw
   case rel =>
    have hcn : cntL (FMethod.flat (l.take (k + 1))) = cntL (FMethod.flat (l.take k)) + (5) := by
     rw [FMethod.flat_take l k _ HX.out, cntL_append, FMethod.cnt_eq]
     try omega
    refine ⟨k + 1, _, by omega, by go_num, rfl, ?_, B3⟩
    rw [hcn]
    have := HKK.out
    omega
   case measure => simp [intOf]; omega
  ·exact zz100
theorem FField.flat_len (l : List FField) : (FField.flat l).length = l.length * 8 := by
 induction l with
 | nil => simp
 | cons x r ih =>
  have e : FField.flat (x :: r) = x.c ++ FField.flat r := List.flatMap_cons
  rw [e, List.length_append, ih, FField.len, List.length_cons]
  omega
theorem FField.flat_at (l : List FField) (k : Nat) (x : FField) (h : l[k]? = some x) : l.drop k = x :: l.drop (k + 1) := by
 exact zz80
theorem FField.flat_take (l : List FField) (k : Nat) (x : FField) (h : l[k]? = some x) : FField.flat (l.take (k + 1)) = FField.flat (l.take k) ++ x.c := by
 rw [List.take_add_one, h]
 simp [FField.flat]
theorem FField.flat_split (l : List FField) (k : Nat) (x : FField) (h : l[k]? = some x) : FField.flat l = FField.flat (l.take k) ++ (x.c ++ FField.flat (l.drop (k + 1))) := by
 have e : FField.flat (l.take k ++ l.drop k) = FField.flat (l.take k) ++ FField.flat (l.drop k) := List.flatMap_append
 rw [List.take_append_drop] at e
 rw [e, FField.flat_at l k x h]
 have e2 : FField.flat (x :: l.drop (k + 1)) = x.c ++ FField.flat (l.drop (k + 1)) := List.flatMap_cons
 rw [e2]
theorem FField.cnt_at (l : List FField) (k : Nat) (x : FField) (h : l[k]? = some x) : cntL (FField.flat (l.take k)) + cntL x.c ≤ cntL (FField.flat l) := by
 rw [FField.flat_split l k x h, cntL_append, cntL_append]
 omega
theorem FField.cnt_eq (z0 : ByteArray) (z1 : ByteArray) (z2 : Bool) (z3 : Int) (z4 : Int) (z5 : ByteArray) (z6 : Int) (z7 : List FEntry) : cntL (FField.c ⟨z0, z1, z2, ⟨z3, z4, z5, z6, z7⟩⟩) = 7 + cntL (FEntry.flat z7) := by
 rw [FField.c_eq]
 simp only [cntL, Cel.cnt]
 try omega
def MarkFieldS (l : List FField) : Prop := ∀ (u : Value) (k0 : Int) (F : List Nat) (w : World), 1 ≤ k0 → k0 + (cntL (FField.flat l) : Int) ≤ 1000000000000000 → F.Nodup → OwnC w (.s 79 8 l.length (FField.flat l)) F u → Calls Tryz.prog 27 #[u, .int .i64 k0] w fun e w' => e = .returned (.int .i64 (k0 + (cntL (FField.flat l) : Int))) ∧ OwnC w' (.s 79 8 l.length (mkL (FField.flat l) k0)) F u ∧ OnlyF F w w'
def HeldFieldS (l : List FField) : Prop := ∀ (u : Value) (k0 : Int) (w : World), 1 ≤ k0 → k0 + (cntL (FField.flat l) : Int) ≤ 1000000000000000 → RdC w w.heap.size (.s 79 8 l.length (mkL (FField.flat l) k0)) u → Calls Tryz.prog 29 #[u, .int .i64 k0] w fun e w' => e = .returned (.int .i64 (k0 + (cntL (FField.flat l) : Int))) ∧ Below w.heap.size w w'
def MkField : FField → Prop
 | ⟨z0, z1, z2, ⟨z3, z4, z5, z6, z7⟩⟩ => MarkEntryS z7
def HdField : FField → Prop
 | ⟨z0, z1, z2, ⟨z3, z4, z5, z6, z7⟩⟩ => HeldEntryS z7
theorem markFieldS_of (l : List FField) (he : ∀ x, x ∈ l → MkField x) : MarkFieldS l := by
 intro u k0 F w h1 h2 hF hO
 obtain ⟨A, c, rfl⟩ := hO.form
 have hcap := hO.read.cap
 have hn : l.length ≤ 9223372036854775807 := by unfold maxLen at hcap; omega
 have HO := hid hO
 clear hcap
 by_cases hl0 : l.length = 0
 ·obtain rfl : l = [] := List.eq_nil_of_length_eq_zero hl0
  clear hO hl0 he
  go_enter Tryz.func27, Tryz.ntmps27
  exact zz27
 obtain ⟨g, hA, hg⟩ := hO.head qaa
 subst hA
 have HE := hid he
 clear he
 have HG := hid hg
 clear hO hg hl0
 go_enter Tryz.func27, Tryz.ntmps27
 go_wp2_with fail
 go_loopw [1, 5] (fun kv i wr => ∃ (k : Nat) (kk : Int), k ≤ l.length ∧ i = .int .i64 k ∧ kv = .int .i64 kk ∧ kk = k0 + (cntL (FField.flat (l.take k)) : Int) ∧ OwnC wr (.s 79 8 l.length (mkL (FField.flat (l.take k)) k0 ++ FField.flat (l.drop k))) F (.slice (some ⟨g, 0, none⟩) l.length c) ∧ OnlyF F w wr) (fun _ i _ => l.length - (intOf i).toNat)
 case atStart => exact zz109
 case round =>
  obtain ⟨k, kk, hk, rfl, rfl, hkk, hO, hG⟩ := hrel
  have HKK := hid hkk
  have HO1 := hid hO
  have HGG := hid hG
  clear hO hG
  by_cases hlt : k < l.length
  ·obtain ⟨x, hx⟩ : ∃ x, l[k]? = some x := ⟨_, List.getElem?_eq_getElem hlt⟩
   have HX := hid hx
   have hca := FField.cnt_at l k x hx
   have hD0 : (mkL (FField.flat (l.take k)) k0).length = k * 8 := by rw [mkL_len, FField.flat_len, List.length_take]; congr 1; omega
   have hO2 := HO1.out
   rw [FField.flat_at l k x hx] at hO2
   have hmx := HE.out x (List.mem_of_getElem? hx)
   obtain ⟨z0, z1, z2, ⟨z3, z4, z5, z6, z7⟩⟩ := x
   rw [show FField.flat (⟨z0, z1, z2, ⟨z3, z4, z5, z6, z7⟩⟩ :: l.drop (k + 1)) = (FField.c ⟨z0, z1, z2, ⟨z3, z4, z5, z6, z7⟩⟩) ++ FField.flat (l.drop (k + 1)) from List.flatMap_cons, FField.c_eq] at hO2
   rw [FField.cnt_eq] at hca
   have M7 : MarkEntryS z7 := hmx
   have HM7 := hid M7
   clear hmx M7
   obtain ⟨D, hDD⟩ : ∃ D, D = mkL (FField.flat (l.take k)) k0 := ⟨_, rfl⟩
   rw [← hDD] at hD0 hO2
   obtain ⟨R, hRR⟩ : ∃ R, R = FField.flat (l.drop (k + 1)) := ⟨_, rfl⟩
   rw [← hRR] at hO2
   have HD := hid hD0
   have HDD := hid hDD
   have HRR := hid hRR
   have hkp : 1 ≤ kk := qaa
   generalize hCC : cntL (FField.flat (l.take k)) = CC at *
   obtain ⟨N7, hN7⟩ : ∃ N : Nat, N = cntL (FEntry.flat z7) := ⟨_, rfl⟩
   rw [← hN7] at hca
   have hkb : kk + ((7 + N7 : Nat) : Int) ≤ 1000000000000000 := qaa
   have HN7 := hid hN7
   have HCC := hid hCC
   clear hx hD0 hDD hRR hkk hca hCC hN7
   obtain ⟨f0, hrow0, hnc0, hln0⟩ := hO2.row
   have hkc : k * 8 + 8 ≤ c * 8 := by have := Nat.mul_le_mul_right 8 (show k + 1 ≤ c by omega); rw [Nat.succ_mul] at this; exact this
   have q0 := hrow0.cell (i := k * 8) qaa
   have y0 := hrow0.frozen (k * 8)
   have q1 := hrow0.cell (i := k * 8 + 1) qaa
   have y1 := hrow0.frozen (k * 8 + 1)
   have q2 := hrow0.cell (i := k * 8 + 2) qaa
   have y2 := hrow0.frozen (k * 8 + 2)
   have q3 := hrow0.cell (i := k * 8 + 3) qaa
   have y3 := hrow0.frozen (k * 8 + 3)
   have q4 := hrow0.cell (i := k * 8 + 3 + 1) qaa
   have y4 := hrow0.frozen (k * 8 + 3 + 1)
   have q5 := hrow0.cell (i := k * 8 + 3 + 2) qaa
   have y5 := hrow0.frozen (k * 8 + 3 + 2)
   have q6 := hrow0.cell (i := k * 8 + 3 + 3) qaa
   have y6 := hrow0.frozen (k * 8 + 3 + 3)
   have q7 := hrow0.cell (i := k * 8 + 3 + 4) qaa
   have y7 := hrow0.frozen (k * 8 + 3 + 4)
   clear hrow0
   go_wp2_with fail
   clear hkc y0 y1 y2 y3 y4 y5 y6 y7 q0 q1 q2 q3 q4 q5 q6 q7
   refine (markText_any _ _ qaa).mono ?_
   rintro e w2 ⟨rfl, hb1⟩
   have G1 := hid (OnlyF.of_below HGG.out hb1)
   have P1 := hO2.below hb1 nr
   clear hO2 hb1
   obtain ⟨f1, hrow1, hnc1, hln1⟩ := P1.row
   have hkc : k * 8 + 8 ≤ c * 8 := by have := Nat.mul_le_mul_right 8 (show k + 1 ≤ c by omega); rw [Nat.succ_mul] at this; exact this
   have q0 := hrow1.cell (i := k * 8) qaa
   have y0 := hrow1.frozen (k * 8)
   have q1 := hrow1.cell (i := k * 8 + 1) qaa
   have y1 := hrow1.frozen (k * 8 + 1)
   have q2 := hrow1.cell (i := k * 8 + 2) qaa
   have y2 := hrow1.frozen (k * 8 + 2)
   have q3 := hrow1.cell (i := k * 8 + 3) qaa
   have y3 := hrow1.frozen (k * 8 + 3)
   have q4 := hrow1.cell (i := k * 8 + 3 + 1) qaa
   have y4 := hrow1.frozen (k * 8 + 3 + 1)
   have q5 := hrow1.cell (i := k * 8 + 3 + 2) qaa
   have y5 := hrow1.frozen (k * 8 + 3 + 2)
   have q6 := hrow1.cell (i := k * 8 + 3 + 3) qaa
   have y6 := hrow1.frozen (k * 8 + 3 + 3)
   have q7 := hrow1.cell (i := k * 8 + 3 + 4) qaa
   have y7 := hrow1.frozen (k * 8 + 3 + 4)
   clear hrow1
   go_wp2_with fail
   clear hkc y0 y1 y2 y3 y4 y5 y6 y7 q0 q1 q2 q3 q4 q5 q6 q7
   have O1_0 := OwnC.setv (D := D) (y := .string z0) (R := .v (.string z1) :: .v (.bool z2) :: .v (.int .i64 z3) :: .v (.int .i64 z4) :: .v (.string z5) :: .v (.int .i64 z6) :: .s 114 8 z7.length (FEntry.flat z7) :: R) qas hF (.string (mt (kk))) (k * 8) qbd
   clear P1
   refine (markText_any _ _ qaa).mono ?_
   rintro e w3 ⟨rfl, hb2⟩
   have G2 := hid (OnlyF.of_below (OnlyF.set G1.out (p := ⟨g, k * 8, none⟩) HG.out (.string (mt (kk)))) hb2)
   have P2 := O1_0.below hb2 nr
   clear O1_0 hb2
   obtain ⟨f2, hrow2, hnc2, hln2⟩ := P2.row
   have hkc : k * 8 + 8 ≤ c * 8 := by have := Nat.mul_le_mul_right 8 (show k + 1 ≤ c by omega); rw [Nat.succ_mul] at this; exact this
   have q0 := hrow2.cell (i := k * 8) qaa
   have y0 := hrow2.frozen (k * 8)
   have q1 := hrow2.cell (i := k * 8 + 1) qaa
   have y1 := hrow2.frozen (k * 8 + 1)
   have q2 := hrow2.cell (i := k * 8 + 2) qaa
   have y2 := hrow2.frozen (k * 8 + 2)
   have q3 := hrow2.cell (i := k * 8 + 3) qaa
   have y3 := hrow2.frozen (k * 8 + 3)
   have q4 := hrow2.cell (i := k * 8 + 3 + 1) qaa
   have y4 := hrow2.frozen (k * 8 + 3 + 1)
   have q5 := hrow2.cell (i := k * 8 + 3 + 2) qaa
   have y5 := hrow2.frozen (k * 8 + 3 + 2)
   have q6 := hrow2.cell (i := k * 8 + 3 + 3) qaa
   have y6 := hrow2.frozen (k * 8 + 3 + 3)
   have q7 := hrow2.cell (i := k * 8 + 3 + 4) qaa
   have y7 := hrow2.frozen (k * 8 + 3 + 4)
   clear hrow2
   go_wp2_with fail
   clear hkc y0 y1 y2 y3 y4 y5 y6 y7 q0 q1 q2 q3 q4 q5 q6 q7
   have O2_1 := OwnC.setv (D := D ++ [.v (.string (mt (kk)))]) (y := .string z1) (R := .v (.bool z2) :: .v (.int .i64 z3) :: .v (.int .i64 z4) :: .v (.string z5) :: .v (.int .i64 z6) :: .s 114 8 z7.length (FEntry.flat z7) :: R) qat hF (.string (mt (kk + 1))) (k * 8 + 1) qbd
   clear P2
   have O2_2 := OwnC.setv (D := D ++ [.v (.string (mt (kk))), .v (.string (mt (kk + 1)))]) (y := .bool z2) (R := .v (.int .i64 z3) :: .v (.int .i64 z4) :: .v (.string z5) :: .v (.int .i64 z6) :: .s 114 8 z7.length (FEntry.flat z7) :: R) (by simp only [List.append_assoc, List.cons_append, List.nil_append] at O2_1 ⊢; exact O2_1) hF (.bool ((kk + 1 + 1) % 3 == 0)) (k * 8 + 2) qbd
   clear O2_1
   have O2_3 := OwnC.setv (D := D ++ [.v (.string (mt (kk))), .v (.string (mt (kk + 1))), .v (.bool ((kk + 1 + 1) % 3 == 0))]) (y := .int .i64 z3) (R := .v (.int .i64 z4) :: .v (.string z5) :: .v (.int .i64 z6) :: .s 114 8 z7.length (FEntry.flat z7) :: R) (by simp only [List.append_assoc, List.cons_append, List.nil_append] at O2_2 ⊢; exact O2_2) hF (.int .i64 (kk + 1 + 1 + 1)) (k * 8 + 3) qbd
   clear O2_2
   have O2_4 := OwnC.setv (D := D ++ [.v (.string (mt (kk))), .v (.string (mt (kk + 1))), .v (.bool ((kk + 1 + 1) % 3 == 0)), .v (.int .i64 (kk + 1 + 1 + 1))]) (y := .int .i64 z4) (R := .v (.string z5) :: .v (.int .i64 z6) :: .s 114 8 z7.length (FEntry.flat z7) :: R) (by simp only [List.append_assoc, List.cons_append, List.nil_append] at O2_3 ⊢; exact O2_3) hF (.int .i64 (kk + 1 + 1 + 1 + 1)) (k * 8 + 3 + 1) qbd
   clear O2_3
   refine (markText_any _ _ qaa).mono ?_
   rintro e w4 ⟨rfl, hb3⟩
   have G3 := hid (OnlyF.of_below (OnlyF.set (OnlyF.set (OnlyF.set (OnlyF.set G2.out (p := ⟨g, k * 8 + 1, none⟩) HG.out (.string (mt (kk + 1)))) (p := ⟨g, k * 8 + 2, none⟩) HG.out (.bool ((kk + 1 + 1) % 3 == 0))) (p := ⟨g, k * 8 + 3, none⟩) HG.out (.int .i64 (kk + 1 + 1 + 1))) (p := ⟨g, k * 8 + 3 + 1, none⟩) HG.out (.int .i64 (kk + 1 + 1 + 1 + 1))) hb3)
   have P3 := O2_4.below hb3 nr
   clear O2_4 hb3
   obtain ⟨f3, hrow3, hnc3, hln3⟩ := P3.row
   have hkc : k * 8 + 8 ≤ c * 8 := by have := Nat.mul_le_mul_right 8 (show k + 1 ≤ c by omega); rw [Nat.succ_mul] at this; exact this
   have q0 := hrow3.cell (i := k * 8) qaa
   have y0 := hrow3.frozen (k * 8)
   have q1 := hrow3.cell (i := k * 8 + 1) qaa
   have y1 := hrow3.frozen (k * 8 + 1)
   have q2 := hrow3.cell (i := k * 8 + 2) qaa
   have y2 := hrow3.frozen (k * 8 + 2)
   have q3 := hrow3.cell (i := k * 8 + 3) qaa
   have y3 := hrow3.frozen (k * 8 + 3)
   have q4 := hrow3.cell (i := k * 8 + 3 + 1) qaa
   have y4 := hrow3.frozen (k * 8 + 3 + 1)
   have q5 := hrow3.cell (i := k * 8 + 3 + 2) qaa
   have y5 := hrow3.frozen (k * 8 + 3 + 2)
   have q6 := hrow3.cell (i := k * 8 + 3 + 3) qaa
   have y6 := hrow3.frozen (k * 8 + 3 + 3)
   have q7 := hrow3.cell (i := k * 8 + 3 + 4) qaa
   have y7 := hrow3.frozen (k * 8 + 3 + 4)
   clear hrow3
   obtain ⟨g7_, a7, X7, hA7, hgF7, hc7, _, hx7, hsub7, hnd7, hgx7, hback7⟩ := OwnC.at_ (D := D ++ [.v (.string (mt (kk))), .v (.string (mt (kk + 1))), .v (.bool ((kk + 1 + 1) % 3 == 0)), .v (.int .i64 (kk + 1 + 1 + 1)), .v (.int .i64 (kk + 1 + 1 + 1 + 1)), .v (.string z5), .v (.int .i64 z6)]) (x := .s 114 8 z7.length (FEntry.flat z7)) (R := R) qax hF
   obtain ⟨A7, c7, rfl⟩ := hx7.form
   simp only [Option.some.injEq, Addr.mk.injEq, and_true] at hA7
   subst hA7
   rw [show (D ++ [.v (.string (mt (kk))), .v (.string (mt (kk + 1))), .v (.bool ((kk + 1 + 1) % 3 == 0)), .v (.int .i64 (kk + 1 + 1 + 1)), .v (.int .i64 (kk + 1 + 1 + 1 + 1)), .v (.string z5), .v (.int .i64 z6)] : List Cel).length = k * 8 + 3 + 4 from by simp [HD.out]] at hc7
   clear q7
   go_wp2_with fail
   have hcn := hid (show World.cell? ((w4.setCell ⟨g, k * 8 + 3 + 2, none⟩ (.string (mt (kk + 1 + 1 + 1 + 1 + 1)))).setCell ⟨g, k * 8 + 3 + 3, none⟩ (.int .i64 (kk + 1 + 1 + 1 + 1 + 1 + 1))) ⟨g, k * 8 + 3 + 4, none⟩ = some _ from (cell_set_other qaa (cell_set_other qaa hc7)))
   clear hkc y0 y1 y2 y3 y4 y5 y6 y7 q0 q1 q2 q3 q4 q5 q6 hc7 hx7 hsub7 hnd7 hgx7 hback7 hgF7
   have O3_5 := OwnC.setv (D := D ++ [.v (.string (mt (kk))), .v (.string (mt (kk + 1))), .v (.bool ((kk + 1 + 1) % 3 == 0)), .v (.int .i64 (kk + 1 + 1 + 1)), .v (.int .i64 (kk + 1 + 1 + 1 + 1))]) (y := .string z5) (R := .v (.int .i64 z6) :: .s 114 8 z7.length (FEntry.flat z7) :: R) qax hF (.string (mt (kk + 1 + 1 + 1 + 1 + 1))) (k * 8 + 3 + 2) qbd
   clear P3
   have O3_6 := OwnC.setv (D := D ++ [.v (.string (mt (kk))), .v (.string (mt (kk + 1))), .v (.bool ((kk + 1 + 1) % 3 == 0)), .v (.int .i64 (kk + 1 + 1 + 1)), .v (.int .i64 (kk + 1 + 1 + 1 + 1)), .v (.string (mt (kk + 1 + 1 + 1 + 1 + 1)))]) (y := .int .i64 z6) (R := .s 114 8 z7.length (FEntry.flat z7) :: R) (by simp only [List.append_assoc, List.cons_append, List.nil_append] at O3_5 ⊢; exact O3_5) hF (.int .i64 (kk + 1 + 1 + 1 + 1 + 1 + 1)) (k * 8 + 3 + 3) qbd
   clear O3_5
   obtain ⟨g_, b7, X, hA_, hgF, hc_, _, hx_, hsub, hnd, hgx, hback⟩ := OwnC.at_ (D := D ++ [.v (.string (mt (kk))), .v (.string (mt (kk + 1))), .v (.bool ((kk + 1 + 1) % 3 == 0)), .v (.int .i64 (kk + 1 + 1 + 1)), .v (.int .i64 (kk + 1 + 1 + 1 + 1)), .v (.string (mt (kk + 1 + 1 + 1 + 1 + 1))), .v (.int .i64 (kk + 1 + 1 + 1 + 1 + 1 + 1))]) (x := .s 114 8 z7.length (FEntry.flat z7)) (R := R) (by simp only [List.append_assoc, List.cons_append, List.nil_append] at O3_6 ⊢; exact O3_6) hF
   simp only [Option.some.injEq, Addr.mk.injEq, and_true] at hA_
   subst hA_
   rw [show (D ++ [.v (.string (mt (kk))), .v (.string (mt (kk + 1))), .v (.bool ((kk + 1 + 1) % 3 == 0)), .v (.int .i64 (kk + 1 + 1 + 1)), .v (.int .i64 (kk + 1 + 1 + 1 + 1)), .v (.string (mt (kk + 1 + 1 + 1 + 1 + 1))), .v (.int .i64 (kk + 1 + 1 + 1 + 1 + 1 + 1))] : List Cel).length = k * 8 + 3 + 4 from by simp [HD.out]] at hc_
   obtain rfl : .slice A7 z7.length c7 = b7 := Option.some.inj (hcn.out.symm.trans hc_)
   obtain ⟨k7_, hnk⟩ : ∃ k : Int, k = kk + 1 + 1 + 1 + 1 + 1 + 1 + 1 + (N7 : Int) := ⟨_, rfl⟩
   have hcall := HM7.out _ (kk + 1 + 1 + 1 + 1 + 1 + 1 + 1) X _ qaa (by rw [← HN7.out]; omega) hnd hx_
   rw [← HN7.out, ← hnk] at hcall
   have HNK7 := hid hnk
   have hkp7 : 1 ≤ k7_ := qaa
   have hkb7 : k7_ + ((0 : Nat) : Int) ≤ 1000000000000000 := qaa
   clear hnk hc_ hcn
   refine hcall.mono ?_
   clear hcall
   rintro e w5 ⟨rfl, own, hon⟩
   have P4 := hback w5 _ own (fun b hb hnb => hon.block b (OwnC.lt _ _ _ O3_6 b hb) hnb)
   have G4 := hid (OnlyF.call (OnlyF.set (OnlyF.set G3.out (p := ⟨g, k * 8 + 3 + 2, none⟩) HG.out (.string (mt (kk + 1 + 1 + 1 + 1 + 1)))) (p := ⟨g, k * 8 + 3 + 3, none⟩) HG.out (.int .i64 (kk + 1 + 1 + 1 + 1 + 1 + 1))) hon hsub)
   clear own hon hback hgx hnd hsub hx_ hgF O3_6
   go_wp2_with fail
   go_roundw
   case rel =>
    have hmk : mkL (FField.c ⟨z0, z1, z2, ⟨z3, z4, z5, z6, z7⟩⟩) kk = [.v (.string (mt (kk))), .v (.string (mt (kk + 1))), .v (.bool ((kk + 1 + 1) % 3 == 0)), .v (.int .i64 (kk + 1 + 1 + 1)), .v (.int .i64 (kk + 1 + 1 + 1 + 1)), .v (.string (mt (kk + 1 + 1 + 1 + 1 + 1))), .v (.int .i64 (kk + 1 + 1 + 1 + 1 + 1 + 1)), .s 114 8 z7.length (mkL (FEntry.flat z7) (kk + 1 + 1 + 1 + 1 + 1 + 1 + 1))] := by
     rw [FField.c_eq]
     rw [mkL_v (kk + 1) qaa]
     rw [mkL_v (kk + 1 + 1) qaa]
     rw [mkL_v (kk + 1 + 1 + 1) qaa]
     rw [mkL_v (kk + 1 + 1 + 1 + 1) qaa]
     rw [mkL_v (kk + 1 + 1 + 1 + 1 + 1) qaa]
     rw [mkL_v (kk + 1 + 1 + 1 + 1 + 1 + 1) qaa]
     rw [mkL_v (kk + 1 + 1 + 1 + 1 + 1 + 1 + 1) qaa]
     rw [mkL_s (k7_) (by rw [← HN7.out]; exact HNK7.out)]
     rw [mkL_nil]
     rfl
    have hcn : cntL (FField.flat (l.take (k + 1))) = CC + (7 + N7) := by
     rw [FField.flat_take l k _ HX.out, cntL_append, HCC.out, FField.cnt_eq]
     rw [← HN7.out]; try omega
    have hall : mkL (FField.flat (l.take (k + 1))) k0 = D ++ [.v (.string (mt (kk))), .v (.string (mt (kk + 1))), .v (.bool ((kk + 1 + 1) % 3 == 0)), .v (.int .i64 (kk + 1 + 1 + 1)), .v (.int .i64 (kk + 1 + 1 + 1 + 1)), .v (.string (mt (kk + 1 + 1 + 1 + 1 + 1))), .v (.int .i64 (kk + 1 + 1 + 1 + 1 + 1 + 1)), .s 114 8 z7.length (mkL (FEntry.flat z7) (kk + 1 + 1 + 1 + 1 + 1 + 1 + 1))] := by
     rw [FField.flat_take l k _ HX.out, mkL_append, HCC.out, ← HKK.out, ← HDD.out, hmk]
    refine ⟨k + 1, _, by omega, by go_num, rfl, ?_, ?_, G4.out⟩
    ·rw [hcn]
     have := HKK.out
     have := HNK7.out; omega
    ·exact zz157
   case measure => simp [intOf]; omega
  ·exact zz37
theorem heldFieldS_of (l : List FField) (he : ∀ x, x ∈ l → HdField x) : HeldFieldS l := by
 intro u k0 w h1 h2 hR
 obtain ⟨A, c, rfl⟩ := hR.form
 have hcap := hR.cap
 have hn : l.length ≤ 9223372036854775807 := by unfold maxLen at hcap; omega
 have HR := hid hR
 have HE := hid he
 clear he
 clear hR hcap
 go_enter Tryz.func29, Tryz.ntmps29
 go_wp2_with fail
 go_loopw [1, 5] (fun kv i wr => ∃ (k : Nat) (kk : Int), k ≤ l.length ∧ i = .int .i64 k ∧ kv = .int .i64 kk ∧ kk = k0 + (cntL (FField.flat (l.take k)) : Int) ∧ Below w.heap.size w wr) (fun _ i _ => l.length - (intOf i).toNat)
 case atStart => exact ⟨0, k0, Nat.zero_le _, rfl, rfl, by simp [cntL], Below.refl _ _⟩
 case round =>
  obtain ⟨k, kk, hk, rfl, rfl, hkk, hb⟩ := hrel
  have HKK := hid hkk
  by_cases hlt : k < l.length
  ·obtain ⟨x, hx⟩ : ∃ x, l[k]? = some x := ⟨_, List.getElem?_eq_getElem hlt⟩
   have HX := hid hx
   have hca := FField.cnt_at l k x hx
   obtain ⟨bc, offc, rfl, hblc, hcc⟩ := HR.out.cells qaa
   have hD0 : (mkL (FField.flat (l.take k)) k0).length = k * 8 := by rw [mkL_len, FField.flat_len, List.length_take]; congr 1; omega
   have hsp : mkL (FField.flat l) k0 = mkL (FField.flat (l.take k)) k0 ++ (mkL x.c kk ++ mkL (FField.flat (l.drop (k + 1))) (kk + (cntL x.c : Int))) := by
    rw [FField.flat_split l k x hx, mkL_append, mkL_append, ← hkk]
   have hmx := HE.out x (List.mem_of_getElem? hx)
   obtain ⟨z0, z1, z2, ⟨z3, z4, z5, z6, z7⟩⟩ := x
   rw [FField.cnt_eq] at hca
   have M7 : HeldEntryS z7 := hmx
   have HM7 := hid M7
   clear hmx M7
   obtain ⟨N7, hN7⟩ : ∃ N : Nat, N = cntL (FEntry.flat z7) := ⟨_, rfl⟩
   rw [← hN7] at hca
   obtain ⟨k7_, hnk7⟩ : ∃ k : Int, k = kk + 1 + 1 + 1 + 1 + 1 + 1 + 1 + (N7 : Int) := ⟨_, rfl⟩
   have hmk : mkL (FField.c ⟨z0, z1, z2, ⟨z3, z4, z5, z6, z7⟩⟩) kk = [.v (.string (mt (kk))), .v (.string (mt (kk + 1))), .v (.bool ((kk + 1 + 1) % 3 == 0)), .v (.int .i64 (kk + 1 + 1 + 1)), .v (.int .i64 (kk + 1 + 1 + 1 + 1)), .v (.string (mt (kk + 1 + 1 + 1 + 1 + 1))), .v (.int .i64 (kk + 1 + 1 + 1 + 1 + 1 + 1)), .s 114 8 z7.length (mkL (FEntry.flat z7) (kk + 1 + 1 + 1 + 1 + 1 + 1 + 1))] := by
    rw [FField.c_eq]
    rw [mkL_v (kk + 1) qaa]
    rw [mkL_v (kk + 1 + 1) qaa]
    rw [mkL_v (kk + 1 + 1 + 1) qaa]
    rw [mkL_v (kk + 1 + 1 + 1 + 1) qaa]
    rw [mkL_v (kk + 1 + 1 + 1 + 1 + 1) qaa]
    rw [mkL_v (kk + 1 + 1 + 1 + 1 + 1 + 1) qaa]
    rw [mkL_v (kk + 1 + 1 + 1 + 1 + 1 + 1 + 1) qaa]
    rw [mkL_s (k7_) (by rw [← hN7]; exact hnk7)]
    rw [mkL_nil]
    rfl
   rw [hmk] at hsp
   obtain ⟨u0, e0, q0⟩ := hcc (k * 8 + 0) _ qaq
   obtain rfl := q0.val
   clear q0
   have c_0 : wr.cell? ⟨bc, offc + k * 8, none⟩ = some (.string (mt (kk))) := (hb.cell (p := ⟨bc, _, none⟩) hblc).trans (by simpa [Nat.add_assoc] using e0)
   obtain ⟨u1, e1, q1⟩ := hcc (k * 8 + 1) _ qaq
   obtain rfl := q1.val
   clear q1
   have c_1 : wr.cell? ⟨bc, offc + k * 8 + 1, none⟩ = some (.string (mt (kk + 1))) := (hb.cell (p := ⟨bc, _, none⟩) hblc).trans (by simpa [Nat.add_assoc] using e1)
   obtain ⟨u2, e2, q2⟩ := hcc (k * 8 + 2) _ qaq
   obtain rfl := q2.val
   clear q2
   have c_2 : wr.cell? ⟨bc, offc + k * 8 + 2, none⟩ = some (.bool ((kk + 1 + 1) % 3 == 0)) := (hb.cell (p := ⟨bc, _, none⟩) hblc).trans (by simpa [Nat.add_assoc] using e2)
   obtain ⟨u3, e3, q3⟩ := hcc (k * 8 + 3) _ qaq
   obtain rfl := q3.val
   clear q3
   have c_3 : wr.cell? ⟨bc, offc + k * 8 + 3, none⟩ = some (.int .i64 (kk + 1 + 1 + 1)) := (hb.cell (p := ⟨bc, _, none⟩) hblc).trans (by simpa [Nat.add_assoc] using e3)
   obtain ⟨u4, e4, q4⟩ := hcc (k * 8 + 4) _ qaq
   obtain rfl := q4.val
   clear q4
   have c_4 : wr.cell? ⟨bc, offc + k * 8 + 3 + 1, none⟩ = some (.int .i64 (kk + 1 + 1 + 1 + 1)) := (hb.cell (p := ⟨bc, _, none⟩) hblc).trans (by simpa [Nat.add_assoc] using e4)
   obtain ⟨u5, e5, q5⟩ := hcc (k * 8 + 5) _ qaq
   obtain rfl := q5.val
   clear q5
   have c_5 : wr.cell? ⟨bc, offc + k * 8 + 3 + 2, none⟩ = some (.string (mt (kk + 1 + 1 + 1 + 1 + 1))) := (hb.cell (p := ⟨bc, _, none⟩) hblc).trans (by simpa [Nat.add_assoc] using e5)
   obtain ⟨u6, e6, q6⟩ := hcc (k * 8 + 6) _ qaq
   obtain rfl := q6.val
   clear q6
   have c_6 : wr.cell? ⟨bc, offc + k * 8 + 3 + 3, none⟩ = some (.int .i64 (kk + 1 + 1 + 1 + 1 + 1 + 1)) := (hb.cell (p := ⟨bc, _, none⟩) hblc).trans (by simpa [Nat.add_assoc] using e6)
   obtain ⟨u7, e7, q7⟩ := hcc (k * 8 + 7) _ qaq
   obtain ⟨A7, c7, rfl⟩ := q7.form
   have Q7 := hid q7
   clear q7
   have c_7 : wr.cell? ⟨bc, offc + k * 8 + 3 + 4, none⟩ = some (.slice A7 z7.length c7) := (hb.cell (p := ⟨bc, _, none⟩) hblc).trans (by simpa [Nat.add_assoc] using e7)
   have hkp : 1 ≤ kk := qaa
   have hkp7 : 1 ≤ k7_ := qaa
   have hkb : kk + ((7 + N7 : Nat) : Int) ≤ 1000000000000000 := qaa
   have hkb7 : k7_ + ((0 : Nat) : Int) ≤ 1000000000000000 := qaa
   have hnn7 : 0 ≤ k7_ := qaa
   have HNK7 := hid hnk7
   have HN7 := hid hN7
   clear hcc hsp hD0 hmk hx hca hkk e0 e1 e2 e3 e4 e5 e6 e7 hnk7 hN7
   have hzb := hb.size
   go_wp2_with fail
   go_region_held3 (fun w_ => w_.cell? ⟨bc, offc + k * 8, none⟩ = some (.string (mt (kk)))) (first | exact c_0 | exact ((bcell hc1).1 _ _ qak).trans c_0) ((first | (go_at_call 25; refine (markText_any _ _ qaa).mono ?_; rintro e w2 ⟨rfl, hc1⟩)))
   have B1 : Below w.heap.size w w2 := hb.trans (((Below.refl _ _).drew : Below w.heap.size wr wr.drew).trans (hc1.mono qak))
   have d1_1 := ((bcell hc1).1 bc (offc + k * 8 + 1) qak).trans c_1
   have d1_2 := ((bcell hc1).1 bc (offc + k * 8 + 2) qak).trans c_2
   have d1_3 := ((bcell hc1).1 bc (offc + k * 8 + 3) qak).trans c_3
   have d1_4 := ((bcell hc1).1 bc (offc + k * 8 + 3 + 1) qak).trans c_4
   have d1_5 := ((bcell hc1).1 bc (offc + k * 8 + 3 + 2) qak).trans c_5
   have d1_6 := ((bcell hc1).1 bc (offc + k * 8 + 3 + 3) qak).trans c_6
   have d1_7 := ((bcell hc1).1 bc (offc + k * 8 + 3 + 4) qak).trans c_7
   have hz1 := hc1.size
   simp at hz1
   have hy1 : w.heap.size ≤ w2.heap.size := B1.size
   clear hc1
   go_wp2_with fail
   go_region_held3 (fun w_ => w_.cell? ⟨bc, offc + k * 8 + 1, none⟩ = some (.string (mt (kk + 1)))) (first | exact d1_1 | exact ((bcell hc2).1 _ _ qak).trans d1_1) ((first | (go_at_call 25; refine (markText_any _ _ qaa).mono ?_; rintro e w3 ⟨rfl, hc2⟩)))
   have B2 : Below w.heap.size w w3 := B1.trans (((Below.refl _ _).drew : Below w.heap.size w2 w2.drew).trans (hc2.mono qak))
   have d2_2 := ((bcell hc2).1 bc (offc + k * 8 + 2) qak).trans d1_2
   have d2_3 := ((bcell hc2).1 bc (offc + k * 8 + 3) qak).trans d1_3
   have d2_4 := ((bcell hc2).1 bc (offc + k * 8 + 3 + 1) qak).trans d1_4
   have d2_5 := ((bcell hc2).1 bc (offc + k * 8 + 3 + 2) qak).trans d1_5
   have d2_6 := ((bcell hc2).1 bc (offc + k * 8 + 3 + 3) qak).trans d1_6
   have d2_7 := ((bcell hc2).1 bc (offc + k * 8 + 3 + 4) qak).trans d1_7
   have hz2 := hc2.size
   simp at hz2
   have hy2 : w.heap.size ≤ w3.heap.size := B2.size
   clear hc2
   go_wp2_with fail
   go_region_held3 (fun w_ => w_.cell? ⟨bc, offc + k * 8 + 3 + 2, none⟩ = some (.string (mt (kk + 1 + 1 + 1 + 1 + 1)))) (first | exact d2_5 | exact ((bcell hc3).1 _ _ qak).trans d2_5) ((first | (go_at_call 25; refine (markText_any _ _ qaa).mono ?_; rintro e w4 ⟨rfl, hc3⟩)))
   have B3 : Below w.heap.size w w4 := B2.trans (((Below.refl _ _).drew : Below w.heap.size w3 w3.drew).trans (hc3.mono qak))
   have d3_6 := ((bcell hc3).1 bc (offc + k * 8 + 3 + 3) qak).trans d2_6
   have d3_7 := ((bcell hc3).1 bc (offc + k * 8 + 3 + 4) qak).trans d2_7
   have hz3 := hc3.size
   simp at hz3
   have hy3 : w.heap.size ≤ w4.heap.size := B3.size
   clear hc3
   go_wp2_with fail
   refine calls_worldD _ (fun X => X.cell? ⟨bc, offc + k * 8 + 3 + 4, none⟩ = some (.slice A7 z7.length c7) ∧ Below w.heap.size w X) ⟨by first | exact d3_7 | (simp; exact d3_7), by first | exact B3 | exact B3.drew⟩ ?_
   rintro Z4 ⟨m4_7, BZ4⟩
   have hy4_ : w.heap.size ≤ Z4.heap.size := BZ4.size
   have hcall := HM7.out _ (kk + 1 + 1 + 1 + 1 + 1 + 1 + 1) Z4 qaa (by rw [← HN7.out]; omega) (Q7.out.on BZ4 nr BZ4.size)
   rw [← HN7.out, ← HNK7.out] at hcall
   refine hcall.mono ?_
   clear hcall
   rintro e w5 ⟨rfl, hc4⟩
   have B4 : Below w.heap.size w w5 := BZ4.trans (hc4.mono qaa)
   have hy4 : w.heap.size ≤ w5.heap.size := B4.size
   clear hc4 m4_7
   go_wp2_with fail
   go_roundw
   case rel =>
    have hcn : cntL (FField.flat (l.take (k + 1))) = cntL (FField.flat (l.take k)) + (7 + N7) := by
     rw [FField.flat_take l k _ HX.out, cntL_append, FField.cnt_eq]
     rw [← HN7.out]; try omega
    refine ⟨k + 1, _, by omega, by go_num, rfl, ?_, B4⟩
    rw [hcn]
    have := HKK.out
    have := HNK7.out; omega
   case measure => simp [intOf]; omega
  ·exact zz100
theorem FClass.flat_len (l : List FClass) : (FClass.flat l).length = l.length * 4 := by
 induction l with
 | nil => simp
 | cons x r ih =>
  have e : FClass.flat (x :: r) = x.c ++ FClass.flat r := List.flatMap_cons
  rw [e, List.length_append, ih, FClass.len, List.length_cons]
  omega
theorem FClass.flat_at (l : List FClass) (k : Nat) (x : FClass) (h : l[k]? = some x) : l.drop k = x :: l.drop (k + 1) := by
 exact zz80
theorem FClass.flat_take (l : List FClass) (k : Nat) (x : FClass) (h : l[k]? = some x) : FClass.flat (l.take (k + 1)) = FClass.flat (l.take k) ++ x.c := by
 rw [List.take_add_one, h]
 simp [FClass.flat]
theorem FClass.flat_split (l : List FClass) (k : Nat) (x : FClass) (h : l[k]? = some x) : FClass.flat l = FClass.flat (l.take k) ++ (x.c ++ FClass.flat (l.drop (k + 1))) := by
 have e : FClass.flat (l.take k ++ l.drop k) = FClass.flat (l.take k) ++ FClass.flat (l.drop k) := List.flatMap_append
 rw [List.take_append_drop] at e
 rw [e, FClass.flat_at l k x h]
 have e2 : FClass.flat (x :: l.drop (k + 1)) = x.c ++ FClass.flat (l.drop (k + 1)) := List.flatMap_cons
 rw [e2]
theorem FClass.cnt_at (l : List FClass) (k : Nat) (x : FClass) (h : l[k]? = some x) : cntL (FClass.flat (l.take k)) + cntL x.c ≤ cntL (FClass.flat l) := by
 rw [FClass.flat_split l k x h, cntL_append, cntL_append]
 omega
theorem FClass.cnt_eq (z0 : ByteArray) (z1 : ByteArray) (z2 : List FField) (z3 : List FMethod) : cntL (FClass.c ⟨z0, z1, z2, z3⟩) = 2 + cntL (FField.flat z2) + cntL (FMethod.flat z3) := by
 rw [FClass.c_eq]
 simp only [cntL, Cel.cnt]
 try omega
def MarkClassS (l : List FClass) : Prop := ∀ (u : Value) (k0 : Int) (F : List Nat) (w : World), 1 ≤ k0 → k0 + (cntL (FClass.flat l) : Int) ≤ 1000000000000000 → F.Nodup → OwnC w (.s 56 4 l.length (FClass.flat l)) F u → Calls Tryz.prog 11 #[u, .int .i64 k0] w fun e w' => e = .returned (.int .i64 (k0 + (cntL (FClass.flat l) : Int))) ∧ OwnC w' (.s 56 4 l.length (mkL (FClass.flat l) k0)) F u ∧ OnlyF F w w'
def HeldClassS (l : List FClass) : Prop := ∀ (u : Value) (k0 : Int) (w : World), 1 ≤ k0 → k0 + (cntL (FClass.flat l) : Int) ≤ 1000000000000000 → RdC w w.heap.size (.s 56 4 l.length (mkL (FClass.flat l) k0)) u → Calls Tryz.prog 12 #[u, .int .i64 k0] w fun e w' => e = .returned (.int .i64 (k0 + (cntL (FClass.flat l) : Int))) ∧ Below w.heap.size w w'
def MkClass : FClass → Prop
 | ⟨z0, z1, z2, z3⟩ => MarkFieldS z2 ∧ MarkMethodS z3
def HdClass : FClass → Prop
 | ⟨z0, z1, z2, z3⟩ => HeldFieldS z2 ∧ HeldMethodS z3
theorem markClassS_of (l : List FClass) (he : ∀ x, x ∈ l → MkClass x) : MarkClassS l := by
 intro u k0 F w h1 h2 hF hO
 obtain ⟨A, c, rfl⟩ := hO.form
 have hcap := hO.read.cap
 have hn : l.length ≤ 9223372036854775807 := by unfold maxLen at hcap; omega
 have HO := hid hO
 clear hcap
 by_cases hl0 : l.length = 0
 ·obtain rfl : l = [] := List.eq_nil_of_length_eq_zero hl0
  clear hO hl0 he
  go_enter Tryz.func11, Tryz.ntmps11
  exact zz27
 obtain ⟨g, hA, hg⟩ := hO.head qaa
 subst hA
 have HE := hid he
 clear he
 have HG := hid hg
 clear hO hg hl0
 go_enter Tryz.func11, Tryz.ntmps11
 go_wp2_with fail
 go_loopw [1, 5] (fun kv i wr => ∃ (k : Nat) (kk : Int), k ≤ l.length ∧ i = .int .i64 k ∧ kv = .int .i64 kk ∧ kk = k0 + (cntL (FClass.flat (l.take k)) : Int) ∧ OwnC wr (.s 56 4 l.length (mkL (FClass.flat (l.take k)) k0 ++ FClass.flat (l.drop k))) F (.slice (some ⟨g, 0, none⟩) l.length c) ∧ OnlyF F w wr) (fun _ i _ => l.length - (intOf i).toNat)
 case atStart => exact zz109
 case round =>
  obtain ⟨k, kk, hk, rfl, rfl, hkk, hO, hG⟩ := hrel
  have HKK := hid hkk
  have HO1 := hid hO
  have HGG := hid hG
  clear hO hG
  by_cases hlt : k < l.length
  ·obtain ⟨x, hx⟩ : ∃ x, l[k]? = some x := ⟨_, List.getElem?_eq_getElem hlt⟩
   have HX := hid hx
   have hca := FClass.cnt_at l k x hx
   have hD0 : (mkL (FClass.flat (l.take k)) k0).length = k * 4 := by rw [mkL_len, FClass.flat_len, List.length_take]; congr 1; omega
   have hO2 := HO1.out
   rw [FClass.flat_at l k x hx] at hO2
   have hmx := HE.out x (List.mem_of_getElem? hx)
   obtain ⟨z0, z1, z2, z3⟩ := x
   rw [show FClass.flat (⟨z0, z1, z2, z3⟩ :: l.drop (k + 1)) = (FClass.c ⟨z0, z1, z2, z3⟩) ++ FClass.flat (l.drop (k + 1)) from List.flatMap_cons, FClass.c_eq] at hO2
   rw [FClass.cnt_eq] at hca
   have M2 : MarkFieldS z2 := hmx.1
   have HM2 := hid M2
   have M3 : MarkMethodS z3 := hmx.2
   have HM3 := hid M3
   clear hmx M2 M3
   obtain ⟨D, hDD⟩ : ∃ D, D = mkL (FClass.flat (l.take k)) k0 := ⟨_, rfl⟩
   rw [← hDD] at hD0 hO2
   obtain ⟨R, hRR⟩ : ∃ R, R = FClass.flat (l.drop (k + 1)) := ⟨_, rfl⟩
   rw [← hRR] at hO2
   have HD := hid hD0
   have HDD := hid hDD
   have HRR := hid hRR
   have hkp : 1 ≤ kk := qaa
   generalize hCC : cntL (FClass.flat (l.take k)) = CC at *
   obtain ⟨N2, hN2⟩ : ∃ N : Nat, N = cntL (FField.flat z2) := ⟨_, rfl⟩
   rw [← hN2] at hca
   obtain ⟨N3, hN3⟩ : ∃ N : Nat, N = cntL (FMethod.flat z3) := ⟨_, rfl⟩
   rw [← hN3] at hca
   have hkb : kk + ((2 + N2 + N3 : Nat) : Int) ≤ 1000000000000000 := qaa
   have HN2 := hid hN2
   have HN3 := hid hN3
   have HCC := hid hCC
   clear hx hD0 hDD hRR hkk hca hCC hN2 hN3
   obtain ⟨f0, hrow0, hnc0, hln0⟩ := hO2.row
   have hkc : k * 4 + 4 ≤ c * 4 := by have := Nat.mul_le_mul_right 4 (show k + 1 ≤ c by omega); rw [Nat.succ_mul] at this; exact this
   have q0 := hrow0.cell (i := k * 4) qaa
   have y0 := hrow0.frozen (k * 4)
   have q1 := hrow0.cell (i := k * 4 + 1) qaa
   have y1 := hrow0.frozen (k * 4 + 1)
   have q2 := hrow0.cell (i := k * 4 + 2) qaa
   have y2 := hrow0.frozen (k * 4 + 2)
   have q3 := hrow0.cell (i := k * 4 + 3) qaa
   have y3 := hrow0.frozen (k * 4 + 3)
   clear hrow0
   go_wp2_with fail
   clear hkc y0 y1 y2 y3 q0 q1 q2 q3
   refine (markText_any _ _ qaa).mono ?_
   rintro e w2 ⟨rfl, hb1⟩
   have G1 := hid (OnlyF.of_below HGG.out hb1)
   have P1 := hO2.below hb1 nr
   clear hO2 hb1
   obtain ⟨f1, hrow1, hnc1, hln1⟩ := P1.row
   have hkc : k * 4 + 4 ≤ c * 4 := by have := Nat.mul_le_mul_right 4 (show k + 1 ≤ c by omega); rw [Nat.succ_mul] at this; exact this
   have q0 := hrow1.cell (i := k * 4) qaa
   have y0 := hrow1.frozen (k * 4)
   have q1 := hrow1.cell (i := k * 4 + 1) qaa
   have y1 := hrow1.frozen (k * 4 + 1)
   have q2 := hrow1.cell (i := k * 4 + 2) qaa
   have y2 := hrow1.frozen (k * 4 + 2)
   have q3 := hrow1.cell (i := k * 4 + 3) qaa
   have y3 := hrow1.frozen (k * 4 + 3)
   clear hrow1
   go_wp2_with fail
   clear hkc y0 y1 y2 y3 q0 q1 q2 q3
   have O1_0 := OwnC.setv (D := D) (y := .string z0) (R := .v (.string z1) :: .s 79 8 z2.length (FField.flat z2) :: .s 87 5 z3.length (FMethod.flat z3) :: R) qas hF (.string (mt (kk))) (k * 4) qbd
   clear P1
   refine (markText_any _ _ qaa).mono ?_
   rintro e w3 ⟨rfl, hb2⟩
   have G2 := hid (OnlyF.of_below (OnlyF.set G1.out (p := ⟨g, k * 4, none⟩) HG.out (.string (mt (kk)))) hb2)
   have P2 := O1_0.below hb2 nr
   clear O1_0 hb2
   obtain ⟨f2, hrow2, hnc2, hln2⟩ := P2.row
   have hkc : k * 4 + 4 ≤ c * 4 := by have := Nat.mul_le_mul_right 4 (show k + 1 ≤ c by omega); rw [Nat.succ_mul] at this; exact this
   have q0 := hrow2.cell (i := k * 4) qaa
   have y0 := hrow2.frozen (k * 4)
   have q1 := hrow2.cell (i := k * 4 + 1) qaa
   have y1 := hrow2.frozen (k * 4 + 1)
   have q2 := hrow2.cell (i := k * 4 + 2) qaa
   have y2 := hrow2.frozen (k * 4 + 2)
   have q3 := hrow2.cell (i := k * 4 + 3) qaa
   have y3 := hrow2.frozen (k * 4 + 3)
   clear hrow2
   obtain ⟨g2_, a2, X2, hA2, hgF2, hc2, _, hx2, hsub2, hnd2, hgx2, hback2⟩ := OwnC.at_ (D := D ++ [.v (.string (mt (kk))), .v (.string z1)]) (x := .s 79 8 z2.length (FField.flat z2)) (R := .s 87 5 z3.length (FMethod.flat z3) :: R) qat hF
   obtain ⟨A2, c2, rfl⟩ := hx2.form
   simp only [Option.some.injEq, Addr.mk.injEq, and_true] at hA2
   subst hA2
   rw [show (D ++ [.v (.string (mt (kk))), .v (.string z1)] : List Cel).length = k * 4 + 2 from by simp [HD.out]] at hc2
   clear q2
   go_wp2_with fail
   have hcn := hid (show World.cell? (w3.setCell ⟨g, k * 4 + 1, none⟩ (.string (mt (kk + 1)))) ⟨g, k * 4 + 2, none⟩ = some _ from (cell_set_other qaa hc2))
   clear hkc y0 y1 y2 y3 q0 q1 q3 hc2 hx2 hsub2 hnd2 hgx2 hback2 hgF2
   have O2_1 := OwnC.setv (D := D ++ [.v (.string (mt (kk)))]) (y := .string z1) (R := .s 79 8 z2.length (FField.flat z2) :: .s 87 5 z3.length (FMethod.flat z3) :: R) qat hF (.string (mt (kk + 1))) (k * 4 + 1) qbd
   clear P2
   obtain ⟨g_, b2, X, hA_, hgF, hc_, _, hx_, hsub, hnd, hgx, hback⟩ := OwnC.at_ (D := D ++ [.v (.string (mt (kk))), .v (.string (mt (kk + 1)))]) (x := .s 79 8 z2.length (FField.flat z2)) (R := .s 87 5 z3.length (FMethod.flat z3) :: R) (by simp only [List.append_assoc, List.cons_append, List.nil_append] at O2_1 ⊢; exact O2_1) hF
   simp only [Option.some.injEq, Addr.mk.injEq, and_true] at hA_
   subst hA_
   rw [show (D ++ [.v (.string (mt (kk))), .v (.string (mt (kk + 1)))] : List Cel).length = k * 4 + 2 from by simp [HD.out]] at hc_
   obtain rfl : .slice A2 z2.length c2 = b2 := Option.some.inj (hcn.out.symm.trans hc_)
   obtain ⟨k2_, hnk⟩ : ∃ k : Int, k = kk + 1 + 1 + (N2 : Int) := ⟨_, rfl⟩
   have hcall := HM2.out _ (kk + 1 + 1) X _ qaa (by rw [← HN2.out]; omega) hnd hx_
   rw [← HN2.out, ← hnk] at hcall
   have HNK2 := hid hnk
   have hkp2 : 1 ≤ k2_ := qaa
   have hkb2 : k2_ + ((0 + N3 : Nat) : Int) ≤ 1000000000000000 := qaa
   clear hnk hc_ hcn
   refine hcall.mono ?_
   clear hcall
   rintro e w4 ⟨rfl, own, hon⟩
   have P3 := hback w4 _ own (fun b hb hnb => hon.block b (OwnC.lt _ _ _ O2_1 b hb) hnb)
   have G3 := hid (OnlyF.call (OnlyF.set G2.out (p := ⟨g, k * 4 + 1, none⟩) HG.out (.string (mt (kk + 1)))) hon hsub)
   clear own hon hback hgx hnd hsub hx_ hgF O2_1
   obtain ⟨f3, hrow3, hnc3, hln3⟩ := P3.row
   have hkc : k * 4 + 4 ≤ c * 4 := by have := Nat.mul_le_mul_right 4 (show k + 1 ≤ c by omega); rw [Nat.succ_mul] at this; exact this
   have q0 := hrow3.cell (i := k * 4) qaa
   have y0 := hrow3.frozen (k * 4)
   have q1 := hrow3.cell (i := k * 4 + 1) qaa
   have y1 := hrow3.frozen (k * 4 + 1)
   have q2 := hrow3.cell (i := k * 4 + 2) qaa
   have y2 := hrow3.frozen (k * 4 + 2)
   have q3 := hrow3.cell (i := k * 4 + 3) qaa
   have y3 := hrow3.frozen (k * 4 + 3)
   clear hrow3
   obtain ⟨g3_, a3, X3, hA3, hgF3, hc3, _, hx3, hsub3, hnd3, hgx3, hback3⟩ := OwnC.at_ (D := D ++ [.v (.string (mt (kk))), .v (.string (mt (kk + 1))), .s 79 8 z2.length (mkL (FField.flat z2) (kk + 1 + 1))]) (x := .s 87 5 z3.length (FMethod.flat z3)) (R := R) qax hF
   obtain ⟨A3, c3, rfl⟩ := hx3.form
   simp only [Option.some.injEq, Addr.mk.injEq, and_true] at hA3
   subst hA3
   rw [show (D ++ [.v (.string (mt (kk))), .v (.string (mt (kk + 1))), .s 79 8 z2.length (mkL (FField.flat z2) (kk + 1 + 1))] : List Cel).length = k * 4 + 3 from by simp [HD.out]] at hc3
   clear q3
   go_wp2_with fail
   have hcn := hid (show World.cell? w4 ⟨g, k * 4 + 3, none⟩ = some _ from hc3)
   clear hkc y0 y1 y2 y3 q0 q1 q2 hc3 hx3 hsub3 hnd3 hgx3 hback3 hgF3
   obtain ⟨g_, b3, X, hA_, hgF, hc_, _, hx_, hsub, hnd, hgx, hback⟩ := OwnC.at_ (D := D ++ [.v (.string (mt (kk))), .v (.string (mt (kk + 1))), .s 79 8 z2.length (mkL (FField.flat z2) (kk + 1 + 1))]) (x := .s 87 5 z3.length (FMethod.flat z3)) (R := R) qax hF
   simp only [Option.some.injEq, Addr.mk.injEq, and_true] at hA_
   subst hA_
   rw [show (D ++ [.v (.string (mt (kk))), .v (.string (mt (kk + 1))), .s 79 8 z2.length (mkL (FField.flat z2) (kk + 1 + 1))] : List Cel).length = k * 4 + 3 from by simp [HD.out]] at hc_
   obtain rfl : .slice A3 z3.length c3 = b3 := Option.some.inj (hcn.out.symm.trans hc_)
   obtain ⟨k3_, hnk⟩ : ∃ k : Int, k = k2_ + (N3 : Int) := ⟨_, rfl⟩
   have hcall := HM3.out _ (k2_) X _ qaa (by rw [← HN3.out]; omega) hnd hx_
   rw [← HN3.out, ← hnk] at hcall
   have HNK3 := hid hnk
   have hkp3 : 1 ≤ k3_ := qaa
   have hkb3 : k3_ + ((0 : Nat) : Int) ≤ 1000000000000000 := qaa
   clear hnk hc_ hcn
   refine hcall.mono ?_
   clear hcall
   rintro e w5 ⟨rfl, own, hon⟩
   have P4 := hback w5 _ own (fun b hb hnb => hon.block b (OwnC.lt _ _ _ P3 b hb) hnb)
   have G4 := hid (OnlyF.call G3.out hon hsub)
   clear own hon hback hgx hnd hsub hx_ hgF P3
   go_wp2_with fail
   go_roundw
   case rel =>
    have hmk : mkL (FClass.c ⟨z0, z1, z2, z3⟩) kk = [.v (.string (mt (kk))), .v (.string (mt (kk + 1))), .s 79 8 z2.length (mkL (FField.flat z2) (kk + 1 + 1)), .s 87 5 z3.length (mkL (FMethod.flat z3) (k2_))] := by
     rw [FClass.c_eq]
     rw [mkL_v (kk + 1) qaa]
     rw [mkL_v (kk + 1 + 1) qaa]
     rw [mkL_s (k2_) (by rw [← HN2.out]; exact HNK2.out)]
     rw [mkL_s (k3_) (by rw [← HN3.out]; exact HNK3.out)]
     rw [mkL_nil]
     rfl
    have hcn : cntL (FClass.flat (l.take (k + 1))) = CC + (2 + N2 + N3) := by
     rw [FClass.flat_take l k _ HX.out, cntL_append, HCC.out, FClass.cnt_eq]
     rw [← HN2.out]; rw [← HN3.out]; try omega
    have hall : mkL (FClass.flat (l.take (k + 1))) k0 = D ++ [.v (.string (mt (kk))), .v (.string (mt (kk + 1))), .s 79 8 z2.length (mkL (FField.flat z2) (kk + 1 + 1)), .s 87 5 z3.length (mkL (FMethod.flat z3) (k2_))] := by
     rw [FClass.flat_take l k _ HX.out, mkL_append, HCC.out, ← HKK.out, ← HDD.out, hmk]
    refine ⟨k + 1, _, by omega, by go_num, rfl, ?_, ?_, G4.out⟩
    ·rw [hcn]
     have := HKK.out
     have := HNK2.out; have := HNK3.out; omega
    ·exact zz157
   case measure => simp [intOf]; omega
  ·exact zz37
theorem heldClassS_of (l : List FClass) (he : ∀ x, x ∈ l → HdClass x) : HeldClassS l := by
 intro u k0 w h1 h2 hR
 obtain ⟨A, c, rfl⟩ := hR.form
 have hcap := hR.cap
 have hn : l.length ≤ 9223372036854775807 := by unfold maxLen at hcap; omega
 have HR := hid hR
 have HE := hid he
 clear he
 clear hR hcap
 go_enter Tryz.func12, Tryz.ntmps12
 go_wp2_with fail
 go_loopw [1, 5] (fun kv i wr => ∃ (k : Nat) (kk : Int), k ≤ l.length ∧ i = .int .i64 k ∧ kv = .int .i64 kk ∧ kk = k0 + (cntL (FClass.flat (l.take k)) : Int) ∧ Below w.heap.size w wr) (fun _ i _ => l.length - (intOf i).toNat)
 case atStart => exact ⟨0, k0, Nat.zero_le _, rfl, rfl, by simp [cntL], Below.refl _ _⟩
 case round =>
  obtain ⟨k, kk, hk, rfl, rfl, hkk, hb⟩ := hrel
  have HKK := hid hkk
  by_cases hlt : k < l.length
  ·obtain ⟨x, hx⟩ : ∃ x, l[k]? = some x := ⟨_, List.getElem?_eq_getElem hlt⟩
   have HX := hid hx
   have hca := FClass.cnt_at l k x hx
   obtain ⟨bc, offc, rfl, hblc, hcc⟩ := HR.out.cells qaa
   have hD0 : (mkL (FClass.flat (l.take k)) k0).length = k * 4 := by rw [mkL_len, FClass.flat_len, List.length_take]; congr 1; omega
   have hsp : mkL (FClass.flat l) k0 = mkL (FClass.flat (l.take k)) k0 ++ (mkL x.c kk ++ mkL (FClass.flat (l.drop (k + 1))) (kk + (cntL x.c : Int))) := by
    rw [FClass.flat_split l k x hx, mkL_append, mkL_append, ← hkk]
   have hmx := HE.out x (List.mem_of_getElem? hx)
   obtain ⟨z0, z1, z2, z3⟩ := x
   rw [FClass.cnt_eq] at hca
   have M2 : HeldFieldS z2 := hmx.1
   have HM2 := hid M2
   have M3 : HeldMethodS z3 := hmx.2
   have HM3 := hid M3
   clear hmx M2 M3
   obtain ⟨N2, hN2⟩ : ∃ N : Nat, N = cntL (FField.flat z2) := ⟨_, rfl⟩
   rw [← hN2] at hca
   obtain ⟨N3, hN3⟩ : ∃ N : Nat, N = cntL (FMethod.flat z3) := ⟨_, rfl⟩
   rw [← hN3] at hca
   obtain ⟨k2_, hnk2⟩ : ∃ k : Int, k = kk + 1 + 1 + (N2 : Int) := ⟨_, rfl⟩
   obtain ⟨k3_, hnk3⟩ : ∃ k : Int, k = k2_ + (N3 : Int) := ⟨_, rfl⟩
   have hmk : mkL (FClass.c ⟨z0, z1, z2, z3⟩) kk = [.v (.string (mt (kk))), .v (.string (mt (kk + 1))), .s 79 8 z2.length (mkL (FField.flat z2) (kk + 1 + 1)), .s 87 5 z3.length (mkL (FMethod.flat z3) (k2_))] := by
    rw [FClass.c_eq]
    rw [mkL_v (kk + 1) qaa]
    rw [mkL_v (kk + 1 + 1) qaa]
    rw [mkL_s (k2_) (by rw [← hN2]; exact hnk2)]
    rw [mkL_s (k3_) (by rw [← hN3]; exact hnk3)]
    rw [mkL_nil]
    rfl
   rw [hmk] at hsp
   obtain ⟨u0, e0, q0⟩ := hcc (k * 4 + 0) _ qaq
   obtain rfl := q0.val
   clear q0
   have c_0 : wr.cell? ⟨bc, offc + k * 4, none⟩ = some (.string (mt (kk))) := (hb.cell (p := ⟨bc, _, none⟩) hblc).trans (by simpa [Nat.add_assoc] using e0)
   obtain ⟨u1, e1, q1⟩ := hcc (k * 4 + 1) _ qaq
   obtain rfl := q1.val
   clear q1
   have c_1 : wr.cell? ⟨bc, offc + k * 4 + 1, none⟩ = some (.string (mt (kk + 1))) := (hb.cell (p := ⟨bc, _, none⟩) hblc).trans (by simpa [Nat.add_assoc] using e1)
   obtain ⟨u2, e2, q2⟩ := hcc (k * 4 + 2) _ qaq
   obtain ⟨A2, c2, rfl⟩ := q2.form
   have Q2 := hid q2
   clear q2
   have c_2 : wr.cell? ⟨bc, offc + k * 4 + 2, none⟩ = some (.slice A2 z2.length c2) := (hb.cell (p := ⟨bc, _, none⟩) hblc).trans (by simpa [Nat.add_assoc] using e2)
   obtain ⟨u3, e3, q3⟩ := hcc (k * 4 + 3) _ qaq
   obtain ⟨A3, c3, rfl⟩ := q3.form
   have Q3 := hid q3
   clear q3
   have c_3 : wr.cell? ⟨bc, offc + k * 4 + 3, none⟩ = some (.slice A3 z3.length c3) := (hb.cell (p := ⟨bc, _, none⟩) hblc).trans (by simpa [Nat.add_assoc] using e3)
   have hkp : 1 ≤ kk := qaa
   have hkp2 : 1 ≤ k2_ := qaa
   have hkp3 : 1 ≤ k3_ := qaa
   have hkb : kk + ((2 + N2 + N3 : Nat) : Int) ≤ 1000000000000000 := qaa
   have hkb2 : k2_ + ((0 + N3 : Nat) : Int) ≤ 1000000000000000 := qaa
   have hnn2 : 0 ≤ k2_ := qaa
   have hkb3 : k3_ + ((0 : Nat) : Int) ≤ 1000000000000000 := qaa
   have hnn3 : 0 ≤ k3_ := qaa
   have HNK2 := hid hnk2
   have HN2 := hid hN2
   have HNK3 := hid hnk3
   have HN3 := hid hN3
   clear hcc hsp hD0 hmk hx hca hkk e0 e1 e2 e3 hnk2 hN2 hnk3 hN3
   have hzb := hb.size
   go_wp2_with fail
   go_region_held3 (fun w_ => w_.cell? ⟨bc, offc + k * 4, none⟩ = some (.string (mt (kk)))) (first | exact c_0 | exact ((bcell hc1).1 _ _ qak).trans c_0) ((first | (go_at_call 25; refine (markText_any _ _ qaa).mono ?_; rintro e w2 ⟨rfl, hc1⟩)))
   have B1 : Below w.heap.size w w2 := hb.trans (((Below.refl _ _).drew : Below w.heap.size wr wr.drew).trans (hc1.mono qak))
   have d1_1 := ((bcell hc1).1 bc (offc + k * 4 + 1) qak).trans c_1
   have d1_2 := ((bcell hc1).1 bc (offc + k * 4 + 2) qak).trans c_2
   have d1_3 := ((bcell hc1).1 bc (offc + k * 4 + 3) qak).trans c_3
   have hz1 := hc1.size
   simp at hz1
   have hy1 : w.heap.size ≤ w2.heap.size := B1.size
   clear hc1
   go_wp2_with fail
   go_region_held3 (fun w_ => w_.cell? ⟨bc, offc + k * 4 + 1, none⟩ = some (.string (mt (kk + 1)))) (first | exact d1_1 | exact ((bcell hc2).1 _ _ qak).trans d1_1) ((first | (go_at_call 25; refine (markText_any _ _ qaa).mono ?_; rintro e w3 ⟨rfl, hc2⟩)))
   have B2 : Below w.heap.size w w3 := B1.trans (((Below.refl _ _).drew : Below w.heap.size w2 w2.drew).trans (hc2.mono qak))
   have d2_2 := ((bcell hc2).1 bc (offc + k * 4 + 2) qak).trans d1_2
   have d2_3 := ((bcell hc2).1 bc (offc + k * 4 + 3) qak).trans d1_3
   have hz2 := hc2.size
   simp at hz2
   have hy2 : w.heap.size ≤ w3.heap.size := B2.size
   clear hc2
   go_wp2_with fail
   refine calls_worldD _ (fun X => X.cell? ⟨bc, offc + k * 4 + 2, none⟩ = some (.slice A2 z2.length c2) ∧ X.cell? ⟨bc, offc + k * 4 + 3, none⟩ = some (.slice A3 z3.length c3) ∧ Below w.heap.size w X) ⟨by first | exact d2_2 | (simp; exact d2_2), by first | exact d2_3 | (simp; exact d2_3), by first | exact B2 | exact B2.drew⟩ ?_
   rintro Z3 ⟨m3_2, m3_3, BZ3⟩
   have hy3_ : w.heap.size ≤ Z3.heap.size := BZ3.size
   have hcall := HM2.out _ (kk + 1 + 1) Z3 qaa (by rw [← HN2.out]; omega) (Q2.out.on BZ3 nr BZ3.size)
   rw [← HN2.out, ← HNK2.out] at hcall
   refine hcall.mono ?_
   clear hcall
   rintro e w4 ⟨rfl, hc3⟩
   have B3 : Below w.heap.size w w4 := BZ3.trans (hc3.mono qaa)
   have d3_3 := ((bcell hc3).1 bc (offc + k * 4 + 3) qaa).trans m3_3
   have hy3 : w.heap.size ≤ w4.heap.size := B3.size
   clear hc3 m3_2 m3_3
   go_wp2_with fail
   refine calls_worldD _ (fun X => X.cell? ⟨bc, offc + k * 4 + 3, none⟩ = some (.slice A3 z3.length c3) ∧ Below w.heap.size w X) ⟨by first | exact d3_3 | (simp; exact d3_3), by first | exact B3 | exact B3.drew⟩ ?_
   rintro Z4 ⟨m4_3, BZ4⟩
   have hy4_ : w.heap.size ≤ Z4.heap.size := BZ4.size
   have hcall := HM3.out _ (k2_) Z4 qaa (by rw [← HN3.out]; omega) (Q3.out.on BZ4 nr BZ4.size)
   rw [← HN3.out, ← HNK3.out] at hcall
   refine hcall.mono ?_
   clear hcall
   rintro e w5 ⟨rfl, hc4⟩
   have B4 : Below w.heap.size w w5 := BZ4.trans (hc4.mono qaa)
   have hy4 : w.heap.size ≤ w5.heap.size := B4.size
   clear hc4 m4_3
   go_wp2_with fail
   go_roundw
   case rel =>
    have hcn : cntL (FClass.flat (l.take (k + 1))) = cntL (FClass.flat (l.take k)) + (2 + N2 + N3) := by
     rw [FClass.flat_take l k _ HX.out, cntL_append, FClass.cnt_eq]
     rw [← HN2.out]; rw [← HN3.out]; try omega
    refine ⟨k + 1, _, by omega, by go_num, rfl, ?_, B4⟩
    rw [hcn]
    have := HKK.out
    have := HNK2.out; have := HNK3.out; omega
   case measure => simp [intOf]; omega
  ·exact zz100
theorem FNode.flat_len (l : List FNode) : (FNode.flat l).length = l.length * 4 := by
 induction l with
 | nil => simp
 | cons x r ih =>
  have e : FNode.flat (x :: r) = x.c ++ FNode.flat r := List.flatMap_cons
  rw [e, List.length_append, ih, FNode.len, List.length_cons]
  omega
theorem FNode.flat_at (l : List FNode) (k : Nat) (x : FNode) (h : l[k]? = some x) : l.drop k = x :: l.drop (k + 1) := by
 exact zz80
theorem FNode.flat_take (l : List FNode) (k : Nat) (x : FNode) (h : l[k]? = some x) : FNode.flat (l.take (k + 1)) = FNode.flat (l.take k) ++ x.c := by
 rw [List.take_add_one, h]
 simp [FNode.flat]
theorem FNode.flat_split (l : List FNode) (k : Nat) (x : FNode) (h : l[k]? = some x) : FNode.flat l = FNode.flat (l.take k) ++ (x.c ++ FNode.flat (l.drop (k + 1))) := by
 have e : FNode.flat (l.take k ++ l.drop k) = FNode.flat (l.take k) ++ FNode.flat (l.drop k) := List.flatMap_append
 rw [List.take_append_drop] at e
 rw [e, FNode.flat_at l k x h]
 have e2 : FNode.flat (x :: l.drop (k + 1)) = x.c ++ FNode.flat (l.drop (k + 1)) := List.flatMap_cons
 rw [e2]
theorem FNode.cnt_at (l : List FNode) (k : Nat) (x : FNode) (h : l[k]? = some x) : cntL (FNode.flat (l.take k)) + cntL x.c ≤ cntL (FNode.flat l) := by
 rw [FNode.flat_split l k x h, cntL_append, cntL_append]
 omega
theorem FNode.cnt_eq (z0 : Int) (z1 : Int) (z2 : ByteArray) (z3 : List FNode) : cntL (FNode.c ⟨z0, z1, z2, z3⟩) = 3 + cntL (FNode.flat z3) := by
 rw [FNode.c_eq]
 simp only [cntL, Cel.cnt]
 try omega
def MarkNodeS (l : List FNode) : Prop := ∀ (u : Value) (k0 : Int) (F : List Nat) (w : World), 1 ≤ k0 → k0 + (cntL (FNode.flat l) : Int) ≤ 1000000000000000 → F.Nodup → OwnC w (.s 44 4 l.length (FNode.flat l)) F u → Calls Tryz.prog 26 #[u, .int .i64 k0] w fun e w' => e = .returned (.int .i64 (k0 + (cntL (FNode.flat l) : Int))) ∧ OwnC w' (.s 44 4 l.length (mkL (FNode.flat l) k0)) F u ∧ OnlyF F w w'
def MkNode : FNode → Prop
 | ⟨z0, z1, z2, z3⟩ => MarkNodeS z3
mutual
theorem cntb1_Node : ∀ x : FNode, cntL x.c ≤ 10 + 10 * x.wt
 | .mk z0 z1 z2 z3 => by
  have ih := cntb_NodeS z3
  rw [FNode.cnt_eq, FNode.wt_eq]
  have b3 := ih
  omega
theorem cntb_NodeS : ∀ l : List FNode, cntL (FNode.flat l) ≤ 10 * (l.length + FNode.wts l)
 | [] => by simp [cntL]
 | x :: r => by
  have e : FNode.flat (x :: r) = x.c ++ FNode.flat r := List.flatMap_cons
  have h1 := cntb1_Node x
  have h2 := cntb_NodeS r
  rw [e, cntL_append, FNode.wts, List.length_cons]
  omega
end
theorem markNodeS_of (l : List FNode) (he : ∀ x, x ∈ l → MkNode x) : MarkNodeS l := by
 intro u k0 F w h1 h2 hF hO
 obtain ⟨A, c, rfl⟩ := hO.form
 have hcap := hO.read.cap
 have hn : l.length ≤ 9223372036854775807 := by unfold maxLen at hcap; omega
 have HO := hid hO
 clear hcap
 by_cases hl0 : l.length = 0
 ·obtain rfl : l = [] := List.eq_nil_of_length_eq_zero hl0
  clear hO hl0 he
  go_enter Tryz.func26, Tryz.ntmps26
  exact zz27
 obtain ⟨g, hA, hg⟩ := hO.head qaa
 subst hA
 have HE := hid he
 clear he
 have HG := hid hg
 clear hO hg hl0
 go_enter Tryz.func26, Tryz.ntmps26
 go_wp2_with fail
 go_loopw [1, 5] (fun kv i wr => ∃ (k : Nat) (kk : Int), k ≤ l.length ∧ i = .int .i64 k ∧ kv = .int .i64 kk ∧ kk = k0 + (cntL (FNode.flat (l.take k)) : Int) ∧ OwnC wr (.s 44 4 l.length (mkL (FNode.flat (l.take k)) k0 ++ FNode.flat (l.drop k))) F (.slice (some ⟨g, 0, none⟩) l.length c) ∧ OnlyF F w wr) (fun _ i _ => l.length - (intOf i).toNat)
 case atStart => exact zz109
 case round =>
  obtain ⟨k, kk, hk, rfl, rfl, hkk, hO, hG⟩ := hrel
  have HKK := hid hkk
  have HO1 := hid hO
  have HGG := hid hG
  clear hO hG
  by_cases hlt : k < l.length
  ·obtain ⟨x, hx⟩ : ∃ x, l[k]? = some x := ⟨_, List.getElem?_eq_getElem hlt⟩
   have HX := hid hx
   have hca := FNode.cnt_at l k x hx
   have hD0 : (mkL (FNode.flat (l.take k)) k0).length = k * 4 := by rw [mkL_len, FNode.flat_len, List.length_take]; congr 1; omega
   have hO2 := HO1.out
   rw [FNode.flat_at l k x hx] at hO2
   have hmx := HE.out x (List.mem_of_getElem? hx)
   obtain ⟨z0, z1, z2, z3⟩ := x
   rw [show FNode.flat (⟨z0, z1, z2, z3⟩ :: l.drop (k + 1)) = (FNode.c ⟨z0, z1, z2, z3⟩) ++ FNode.flat (l.drop (k + 1)) from List.flatMap_cons, FNode.c_eq] at hO2
   rw [FNode.cnt_eq] at hca
   have M3 : MarkNodeS z3 := hmx
   have HM3 := hid M3
   clear hmx M3
   obtain ⟨D, hDD⟩ : ∃ D, D = mkL (FNode.flat (l.take k)) k0 := ⟨_, rfl⟩
   rw [← hDD] at hD0 hO2
   obtain ⟨R, hRR⟩ : ∃ R, R = FNode.flat (l.drop (k + 1)) := ⟨_, rfl⟩
   rw [← hRR] at hO2
   have HD := hid hD0
   have HDD := hid hDD
   have HRR := hid hRR
   have hkp : 1 ≤ kk := qaa
   generalize hCC : cntL (FNode.flat (l.take k)) = CC at *
   obtain ⟨N3, hN3⟩ : ∃ N : Nat, N = cntL (FNode.flat z3) := ⟨_, rfl⟩
   rw [← hN3] at hca
   have hkb : kk + ((3 + N3 : Nat) : Int) ≤ 1000000000000000 := qaa
   have HN3 := hid hN3
   have HCC := hid hCC
   clear hx hD0 hDD hRR hkk hca hCC hN3
   obtain ⟨f0, hrow0, hnc0, hln0⟩ := hO2.row
   have hkc : k * 4 + 4 ≤ c * 4 := by have := Nat.mul_le_mul_right 4 (show k + 1 ≤ c by omega); rw [Nat.succ_mul] at this; exact this
   have q0 := hrow0.cell (i := k * 4) qaa
   have y0 := hrow0.frozen (k * 4)
   have q1 := hrow0.cell (i := k * 4 + 1) qaa
   have y1 := hrow0.frozen (k * 4 + 1)
   have q2 := hrow0.cell (i := k * 4 + 2) qaa
   have y2 := hrow0.frozen (k * 4 + 2)
   have q3 := hrow0.cell (i := k * 4 + 3) qaa
   have y3 := hrow0.frozen (k * 4 + 3)
   clear hrow0
   go_wp2_with fail
   clear hkc y0 y1 y2 y3 q0 q1 q2 q3
   have O0_0 := OwnC.setv (D := D) (y := .int .i64 z0) (R := .v (.int .i64 z1) :: .v (.string z2) :: .s 44 4 z3.length (FNode.flat z3) :: R) (by simp only [List.append_assoc, List.cons_append, List.nil_append] at hO2 ⊢; exact hO2) hF (.int .i64 (kk)) (k * 4) qbd
   clear hO2
   have O0_1 := OwnC.setv (D := D ++ [.v (.int .i64 (kk))]) (y := .int .i64 z1) (R := .v (.string z2) :: .s 44 4 z3.length (FNode.flat z3) :: R) (by simp only [List.append_assoc, List.cons_append, List.nil_append] at O0_0 ⊢; exact O0_0) hF (.int .i64 (kk + 1)) (k * 4 + 1) qbd
   clear O0_0
   refine (markText_any _ _ qaa).mono ?_
   rintro e w2 ⟨rfl, hb1⟩
   have G1 := hid (OnlyF.of_below (OnlyF.set (OnlyF.set HGG.out (p := ⟨g, k * 4, none⟩) HG.out (.int .i64 (kk))) (p := ⟨g, k * 4 + 1, none⟩) HG.out (.int .i64 (kk + 1))) hb1)
   have P1 := O0_1.below hb1 nr
   clear O0_1 hb1
   obtain ⟨f1, hrow1, hnc1, hln1⟩ := P1.row
   have hkc : k * 4 + 4 ≤ c * 4 := by have := Nat.mul_le_mul_right 4 (show k + 1 ≤ c by omega); rw [Nat.succ_mul] at this; exact this
   have q0 := hrow1.cell (i := k * 4) qaa
   have y0 := hrow1.frozen (k * 4)
   have q1 := hrow1.cell (i := k * 4 + 1) qaa
   have y1 := hrow1.frozen (k * 4 + 1)
   have q2 := hrow1.cell (i := k * 4 + 2) qaa
   have y2 := hrow1.frozen (k * 4 + 2)
   have q3 := hrow1.cell (i := k * 4 + 3) qaa
   have y3 := hrow1.frozen (k * 4 + 3)
   clear hrow1
   obtain ⟨g3_, a3, X3, hA3, hgF3, hc3, _, hx3, hsub3, hnd3, hgx3, hback3⟩ := OwnC.at_ (D := D ++ [.v (.int .i64 (kk)), .v (.int .i64 (kk + 1)), .v (.string z2)]) (x := .s 44 4 z3.length (FNode.flat z3)) (R := R) qas hF
   obtain ⟨A3, c3, rfl⟩ := hx3.form
   simp only [Option.some.injEq, Addr.mk.injEq, and_true] at hA3
   subst hA3
   rw [show (D ++ [.v (.int .i64 (kk)), .v (.int .i64 (kk + 1)), .v (.string z2)] : List Cel).length = k * 4 + 3 from by simp [HD.out]] at hc3
   clear q3
   go_wp2_with fail
   have hcn := hid (show World.cell? (w2.setCell ⟨g, k * 4 + 2, none⟩ (.string (mt (kk + 1 + 1)))) ⟨g, k * 4 + 3, none⟩ = some _ from (cell_set_other qaa hc3))
   clear hkc y0 y1 y2 y3 q0 q1 q2 hc3 hx3 hsub3 hnd3 hgx3 hback3 hgF3
   have O1_2 := OwnC.setv (D := D ++ [.v (.int .i64 (kk)), .v (.int .i64 (kk + 1))]) (y := .string z2) (R := .s 44 4 z3.length (FNode.flat z3) :: R) qas hF (.string (mt (kk + 1 + 1))) (k * 4 + 2) qbd
   clear P1
   obtain ⟨g_, b3, X, hA_, hgF, hc_, _, hx_, hsub, hnd, hgx, hback⟩ := OwnC.at_ (D := D ++ [.v (.int .i64 (kk)), .v (.int .i64 (kk + 1)), .v (.string (mt (kk + 1 + 1)))]) (x := .s 44 4 z3.length (FNode.flat z3)) (R := R) (by simp only [List.append_assoc, List.cons_append, List.nil_append] at O1_2 ⊢; exact O1_2) hF
   simp only [Option.some.injEq, Addr.mk.injEq, and_true] at hA_
   subst hA_
   rw [show (D ++ [.v (.int .i64 (kk)), .v (.int .i64 (kk + 1)), .v (.string (mt (kk + 1 + 1)))] : List Cel).length = k * 4 + 3 from by simp [HD.out]] at hc_
   obtain rfl : .slice A3 z3.length c3 = b3 := Option.some.inj (hcn.out.symm.trans hc_)
   obtain ⟨k3_, hnk⟩ : ∃ k : Int, k = kk + 1 + 1 + 1 + (N3 : Int) := ⟨_, rfl⟩
   have hcall := HM3.out _ (kk + 1 + 1 + 1) X _ qaa (by rw [← HN3.out]; omega) hnd hx_
   rw [← HN3.out, ← hnk] at hcall
   have HNK3 := hid hnk
   have hkp3 : 1 ≤ k3_ := qaa
   have hkb3 : k3_ + ((0 : Nat) : Int) ≤ 1000000000000000 := qaa
   clear hnk hc_ hcn
   refine hcall.mono ?_
   clear hcall
   rintro e w3 ⟨rfl, own, hon⟩
   have P2 := hback w3 _ own (fun b hb hnb => hon.block b (OwnC.lt _ _ _ O1_2 b hb) hnb)
   have G2 := hid (OnlyF.call (OnlyF.set G1.out (p := ⟨g, k * 4 + 2, none⟩) HG.out (.string (mt (kk + 1 + 1)))) hon hsub)
   clear own hon hback hgx hnd hsub hx_ hgF O1_2
   go_wp2_with fail
   go_roundw
   case rel =>
    have hmk : mkL (FNode.c ⟨z0, z1, z2, z3⟩) kk = [.v (.int .i64 (kk)), .v (.int .i64 (kk + 1)), .v (.string (mt (kk + 1 + 1))), .s 44 4 z3.length (mkL (FNode.flat z3) (kk + 1 + 1 + 1))] := by
     rw [FNode.c_eq]
     rw [mkL_v (kk + 1) qaa]
     rw [mkL_v (kk + 1 + 1) qaa]
     rw [mkL_v (kk + 1 + 1 + 1) qaa]
     rw [mkL_s (k3_) (by rw [← HN3.out]; exact HNK3.out)]
     rw [mkL_nil]
     rfl
    have hcn : cntL (FNode.flat (l.take (k + 1))) = CC + (3 + N3) := by
     rw [FNode.flat_take l k _ HX.out, cntL_append, HCC.out, FNode.cnt_eq]
     rw [← HN3.out]; try omega
    have hall : mkL (FNode.flat (l.take (k + 1))) k0 = D ++ [.v (.int .i64 (kk)), .v (.int .i64 (kk + 1)), .v (.string (mt (kk + 1 + 1))), .s 44 4 z3.length (mkL (FNode.flat z3) (kk + 1 + 1 + 1))] := by
     rw [FNode.flat_take l k _ HX.out, mkL_append, HCC.out, ← HKK.out, ← HDD.out, hmk]
    refine ⟨k + 1, _, by omega, by go_num, rfl, ?_, ?_, G2.out⟩
    ·rw [hcn]
     have := HKK.out
     have := HNK3.out; omega
    ·rw [hall, ← HRR.out]
     simp only [List.append_assoc, List.cons_append, List.nil_append] at P2 ⊢
     exact P2
   case measure => simp [intOf]; omega
  ·exact zz37
mutual
theorem MkNode_any : ∀ x : FNode, MkNode x
 | .mk z0 z1 z2 z3 => by
  have := MkNode_all z3
  exact markNodeS_of z3 this
theorem MkNode_all : ∀ (l : List FNode) (x : FNode), x ∈ l → MkNode x
 | [], x, hx => by cases hx
 | y :: r, x, hx => by
  rcases List.mem_cons.1 hx with e | hx
  ·rw [e]
   exact MkNode_any y
  ·exact MkNode_all r x hx
end
theorem markNodeS_any (l : List FNode) : MarkNodeS l := markNodeS_of l (MkNode_all l)
theorem FUnit.flat_len (l : List FUnit) : (FUnit.flat l).length = l.length * 5 := by
 induction l with
 | nil => simp
 | cons x r ih =>
  have e : FUnit.flat (x :: r) = x.c ++ FUnit.flat r := List.flatMap_cons
  rw [e, List.length_append, ih, FUnit.len, List.length_cons]
  omega
theorem FUnit.flat_at (l : List FUnit) (k : Nat) (x : FUnit) (h : l[k]? = some x) : l.drop k = x :: l.drop (k + 1) := by
 exact zz80
theorem FUnit.flat_take (l : List FUnit) (k : Nat) (x : FUnit) (h : l[k]? = some x) : FUnit.flat (l.take (k + 1)) = FUnit.flat (l.take k) ++ x.c := by
 rw [List.take_add_one, h]
 simp [FUnit.flat]
theorem FUnit.flat_split (l : List FUnit) (k : Nat) (x : FUnit) (h : l[k]? = some x) : FUnit.flat l = FUnit.flat (l.take k) ++ (x.c ++ FUnit.flat (l.drop (k + 1))) := by
 have e : FUnit.flat (l.take k ++ l.drop k) = FUnit.flat (l.take k) ++ FUnit.flat (l.drop k) := List.flatMap_append
 rw [List.take_append_drop] at e
 rw [e, FUnit.flat_at l k x h]
 have e2 : FUnit.flat (x :: l.drop (k + 1)) = x.c ++ FUnit.flat (l.drop (k + 1)) := List.flatMap_cons
 rw [e2]
theorem FUnit.cnt_at (l : List FUnit) (k : Nat) (x : FUnit) (h : l[k]? = some x) : cntL (FUnit.flat (l.take k)) + cntL x.c ≤ cntL (FUnit.flat l) := by
 rw [FUnit.flat_split l k x h, cntL_append, cntL_append]
 omega
theorem FUnit.cnt_eq (z0 : ByteArray) (z1 : Int) (z2 : Int) (z3 : ByteArray) (z4 : List FNode) : cntL (FUnit.c ⟨z0, ⟨z1, z2, z3, z4⟩⟩) = 4 + cntL (FNode.flat z4) := by
 rw [FUnit.c_eq]
 simp only [cntL, Cel.cnt]
 try omega
def MarkUnitS (l : List FUnit) : Prop := ∀ (u : Value) (k0 : Int) (F : List Nat) (w : World), 1 ≤ k0 → k0 + (cntL (FUnit.flat l) : Int) ≤ 1000000000000000 → F.Nodup → OwnC w (.s 46 5 l.length (FUnit.flat l)) F u → Calls Tryz.prog 10 #[u, .int .i64 k0] w fun e w' => e = .returned (.int .i64 (k0 + (cntL (FUnit.flat l) : Int))) ∧ OwnC w' (.s 46 5 l.length (mkL (FUnit.flat l) k0)) F u ∧ OnlyF F w w'
def MkUnit : FUnit → Prop
 | ⟨z0, ⟨z1, z2, z3, z4⟩⟩ => MarkNodeS z4
theorem cntb1_Unit (x : FUnit) : cntL x.c ≤ 10 + 10 * x.wt := by
 obtain ⟨z0, ⟨z1, z2, z3, z4⟩⟩ := x
 rw [FUnit.cnt_eq, FUnit.wt_eq]
 have b4 := cntb_NodeS z4
 omega
theorem cntb_UnitS : ∀ l : List FUnit, cntL (FUnit.flat l) ≤ 10 * (l.length + FUnit.wts l)
 | [] => by simp [cntL]
 | x :: r => by
  have e : FUnit.flat (x :: r) = x.c ++ FUnit.flat r := List.flatMap_cons
  have h1 := cntb1_Unit x
  have h2 := cntb_UnitS r
  rw [e, cntL_append, FUnit.wts, List.length_cons]
  omega
theorem markUnitS_of (l : List FUnit) (he : ∀ x, x ∈ l → MkUnit x) : MarkUnitS l := by
 intro u k0 F w h1 h2 hF hO
 obtain ⟨A, c, rfl⟩ := hO.form
 have hcap := hO.read.cap
 have hn : l.length ≤ 9223372036854775807 := by unfold maxLen at hcap; omega
 have HO := hid hO
 clear hcap
 by_cases hl0 : l.length = 0
 ·obtain rfl : l = [] := List.eq_nil_of_length_eq_zero hl0
  clear hO hl0 he
  go_enter Tryz.func10, Tryz.ntmps10
  exact zz27
 obtain ⟨g, hA, hg⟩ := hO.head qaa
 subst hA
 have HE := hid he
 clear he
 have HG := hid hg
 clear hO hg hl0
 go_enter Tryz.func10, Tryz.ntmps10
 go_wp2_with fail
 go_loopw [1, 5] (fun kv i wr => ∃ (k : Nat) (kk : Int), k ≤ l.length ∧ i = .int .i64 k ∧ kv = .int .i64 kk ∧ kk = k0 + (cntL (FUnit.flat (l.take k)) : Int) ∧ OwnC wr (.s 46 5 l.length (mkL (FUnit.flat (l.take k)) k0 ++ FUnit.flat (l.drop k))) F (.slice (some ⟨g, 0, none⟩) l.length c) ∧ OnlyF F w wr) (fun _ i _ => l.length - (intOf i).toNat)
 case atStart => exact zz109
 case round =>
  obtain ⟨k, kk, hk, rfl, rfl, hkk, hO, hG⟩ := hrel
  have HKK := hid hkk
  have HO1 := hid hO
  have HGG := hid hG
  clear hO hG
  by_cases hlt : k < l.length
  ·obtain ⟨x, hx⟩ : ∃ x, l[k]? = some x := ⟨_, List.getElem?_eq_getElem hlt⟩
   have HX := hid hx
   have hca := FUnit.cnt_at l k x hx
   have hD0 : (mkL (FUnit.flat (l.take k)) k0).length = k * 5 := by rw [mkL_len, FUnit.flat_len, List.length_take]; congr 1; omega
   have hO2 := HO1.out
   rw [FUnit.flat_at l k x hx] at hO2
   have hmx := HE.out x (List.mem_of_getElem? hx)
   obtain ⟨z0, ⟨z1, z2, z3, z4⟩⟩ := x
   rw [show FUnit.flat (⟨z0, ⟨z1, z2, z3, z4⟩⟩ :: l.drop (k + 1)) = (FUnit.c ⟨z0, ⟨z1, z2, z3, z4⟩⟩) ++ FUnit.flat (l.drop (k + 1)) from List.flatMap_cons, FUnit.c_eq] at hO2
   rw [FUnit.cnt_eq] at hca
   have M4 : MarkNodeS z4 := hmx
   have HM4 := hid M4
   clear hmx M4
   obtain ⟨D, hDD⟩ : ∃ D, D = mkL (FUnit.flat (l.take k)) k0 := ⟨_, rfl⟩
   rw [← hDD] at hD0 hO2
   obtain ⟨R, hRR⟩ : ∃ R, R = FUnit.flat (l.drop (k + 1)) := ⟨_, rfl⟩
   rw [← hRR] at hO2
   have HD := hid hD0
   have HDD := hid hDD
   have HRR := hid hRR
   have hkp : 1 ≤ kk := qaa
   generalize hCC : cntL (FUnit.flat (l.take k)) = CC at *
   obtain ⟨N4, hN4⟩ : ∃ N : Nat, N = cntL (FNode.flat z4) := ⟨_, rfl⟩
   rw [← hN4] at hca
   have hkb : kk + ((4 + N4 : Nat) : Int) ≤ 1000000000000000 := qaa
   have HN4 := hid hN4
   have HCC := hid hCC
   clear hx hD0 hDD hRR hkk hca hCC hN4
   obtain ⟨f0, hrow0, hnc0, hln0⟩ := hO2.row
   have hkc : k * 5 + 5 ≤ c * 5 := by have := Nat.mul_le_mul_right 5 (show k + 1 ≤ c by omega); rw [Nat.succ_mul] at this; exact this
   have q0 := hrow0.cell (i := k * 5) qaa
   have y0 := hrow0.frozen (k * 5)
   have q1 := hrow0.cell (i := k * 5 + 1) qaa
   have y1 := hrow0.frozen (k * 5 + 1)
   have q2 := hrow0.cell (i := k * 5 + 1 + 1) qaa
   have y2 := hrow0.frozen (k * 5 + 1 + 1)
   have q3 := hrow0.cell (i := k * 5 + 1 + 2) qaa
   have y3 := hrow0.frozen (k * 5 + 1 + 2)
   have q4 := hrow0.cell (i := k * 5 + 1 + 3) qaa
   have y4 := hrow0.frozen (k * 5 + 1 + 3)
   clear hrow0
   go_wp2_with fail
   clear hkc y0 y1 y2 y3 y4 q0 q1 q2 q3 q4
   refine (markText_any _ _ qaa).mono ?_
   rintro e w2 ⟨rfl, hb1⟩
   have G1 := hid (OnlyF.of_below HGG.out hb1)
   have P1 := hO2.below hb1 nr
   clear hO2 hb1
   obtain ⟨f1, hrow1, hnc1, hln1⟩ := P1.row
   have hkc : k * 5 + 5 ≤ c * 5 := by have := Nat.mul_le_mul_right 5 (show k + 1 ≤ c by omega); rw [Nat.succ_mul] at this; exact this
   have q0 := hrow1.cell (i := k * 5) qaa
   have y0 := hrow1.frozen (k * 5)
   have q1 := hrow1.cell (i := k * 5 + 1) qaa
   have y1 := hrow1.frozen (k * 5 + 1)
   have q2 := hrow1.cell (i := k * 5 + 1 + 1) qaa
   have y2 := hrow1.frozen (k * 5 + 1 + 1)
   have q3 := hrow1.cell (i := k * 5 + 1 + 2) qaa
   have y3 := hrow1.frozen (k * 5 + 1 + 2)
   have q4 := hrow1.cell (i := k * 5 + 1 + 3) qaa
   have y4 := hrow1.frozen (k * 5 + 1 + 3)
   clear hrow1
   go_wp2_with fail
   clear hkc y0 y1 y2 y3 y4 q0 q1 q2 q3 q4
   have O1_0 := OwnC.setv (D := D) (y := .string z0) (R := .v (.int .i64 z1) :: .v (.int .i64 z2) :: .v (.string z3) :: .s 44 4 z4.length (FNode.flat z4) :: R) qas hF (.string (mt (kk))) (k * 5) qbd
   clear P1
   have O1_1 := OwnC.setv (D := D ++ [.v (.string (mt (kk)))]) (y := .int .i64 z1) (R := .v (.int .i64 z2) :: .v (.string z3) :: .s 44 4 z4.length (FNode.flat z4) :: R) (by simp only [List.append_assoc, List.cons_append, List.nil_append] at O1_0 ⊢; exact O1_0) hF (.int .i64 (kk + 1)) (k * 5 + 1) qbd
   clear O1_0
   have O1_2 := OwnC.setv (D := D ++ [.v (.string (mt (kk))), .v (.int .i64 (kk + 1))]) (y := .int .i64 z2) (R := .v (.string z3) :: .s 44 4 z4.length (FNode.flat z4) :: R) (by simp only [List.append_assoc, List.cons_append, List.nil_append] at O1_1 ⊢; exact O1_1) hF (.int .i64 (kk + 1 + 1)) (k * 5 + 1 + 1) qbd
   clear O1_1
   refine (markText_any _ _ qaa).mono ?_
   rintro e w3 ⟨rfl, hb2⟩
   have G2 := hid (OnlyF.of_below (OnlyF.set (OnlyF.set (OnlyF.set G1.out (p := ⟨g, k * 5, none⟩) HG.out (.string (mt (kk)))) (p := ⟨g, k * 5 + 1, none⟩) HG.out (.int .i64 (kk + 1))) (p := ⟨g, k * 5 + 1 + 1, none⟩) HG.out (.int .i64 (kk + 1 + 1))) hb2)
   have P2 := O1_2.below hb2 nr
   clear O1_2 hb2
   obtain ⟨f2, hrow2, hnc2, hln2⟩ := P2.row
   have hkc : k * 5 + 5 ≤ c * 5 := by have := Nat.mul_le_mul_right 5 (show k + 1 ≤ c by omega); rw [Nat.succ_mul] at this; exact this
   have q0 := hrow2.cell (i := k * 5) qaa
   have y0 := hrow2.frozen (k * 5)
   have q1 := hrow2.cell (i := k * 5 + 1) qaa
   have y1 := hrow2.frozen (k * 5 + 1)
   have q2 := hrow2.cell (i := k * 5 + 1 + 1) qaa
   have y2 := hrow2.frozen (k * 5 + 1 + 1)
   have q3 := hrow2.cell (i := k * 5 + 1 + 2) qaa
   have y3 := hrow2.frozen (k * 5 + 1 + 2)
   have q4 := hrow2.cell (i := k * 5 + 1 + 3) qaa
   have y4 := hrow2.frozen (k * 5 + 1 + 3)
   clear hrow2
   obtain ⟨g4_, a4, X4, hA4, hgF4, hc4, _, hx4, hsub4, hnd4, hgx4, hback4⟩ := OwnC.at_ (D := D ++ [.v (.string (mt (kk))), .v (.int .i64 (kk + 1)), .v (.int .i64 (kk + 1 + 1)), .v (.string z3)]) (x := .s 44 4 z4.length (FNode.flat z4)) (R := R) qat hF
   obtain ⟨A4, c4, rfl⟩ := hx4.form
   simp only [Option.some.injEq, Addr.mk.injEq, and_true] at hA4
   subst hA4
   rw [show (D ++ [.v (.string (mt (kk))), .v (.int .i64 (kk + 1)), .v (.int .i64 (kk + 1 + 1)), .v (.string z3)] : List Cel).length = k * 5 + 1 + 3 from by simp [HD.out]] at hc4
   clear q4
   go_wp2_with fail
   have hcn := hid (show World.cell? (w3.setCell ⟨g, k * 5 + 1 + 2, none⟩ (.string (mt (kk + 1 + 1 + 1)))) ⟨g, k * 5 + 1 + 3, none⟩ = some _ from (cell_set_other qaa hc4))
   clear hkc y0 y1 y2 y3 y4 q0 q1 q2 q3 hc4 hx4 hsub4 hnd4 hgx4 hback4 hgF4
   have O2_3 := OwnC.setv (D := D ++ [.v (.string (mt (kk))), .v (.int .i64 (kk + 1)), .v (.int .i64 (kk + 1 + 1))]) (y := .string z3) (R := .s 44 4 z4.length (FNode.flat z4) :: R) qat hF (.string (mt (kk + 1 + 1 + 1))) (k * 5 + 1 + 2) qbd
   clear P2
   obtain ⟨g_, b4, X, hA_, hgF, hc_, _, hx_, hsub, hnd, hgx, hback⟩ := OwnC.at_ (D := D ++ [.v (.string (mt (kk))), .v (.int .i64 (kk + 1)), .v (.int .i64 (kk + 1 + 1)), .v (.string (mt (kk + 1 + 1 + 1)))]) (x := .s 44 4 z4.length (FNode.flat z4)) (R := R) (by simp only [List.append_assoc, List.cons_append, List.nil_append] at O2_3 ⊢; exact O2_3) hF
   simp only [Option.some.injEq, Addr.mk.injEq, and_true] at hA_
   subst hA_
   rw [show (D ++ [.v (.string (mt (kk))), .v (.int .i64 (kk + 1)), .v (.int .i64 (kk + 1 + 1)), .v (.string (mt (kk + 1 + 1 + 1)))] : List Cel).length = k * 5 + 1 + 3 from by simp [HD.out]] at hc_
   obtain rfl : .slice A4 z4.length c4 = b4 := Option.some.inj (hcn.out.symm.trans hc_)
   obtain ⟨k4_, hnk⟩ : ∃ k : Int, k = kk + 1 + 1 + 1 + 1 + (N4 : Int) := ⟨_, rfl⟩
   have hcall := HM4.out _ (kk + 1 + 1 + 1 + 1) X _ qaa (by rw [← HN4.out]; omega) hnd hx_
   rw [← HN4.out, ← hnk] at hcall
   have HNK4 := hid hnk
   have hkp4 : 1 ≤ k4_ := qaa
   have hkb4 : k4_ + ((0 : Nat) : Int) ≤ 1000000000000000 := qaa
   clear hnk hc_ hcn
   refine hcall.mono ?_
   clear hcall
   rintro e w4 ⟨rfl, own, hon⟩
   have P3 := hback w4 _ own (fun b hb hnb => hon.block b (OwnC.lt _ _ _ O2_3 b hb) hnb)
   have G3 := hid (OnlyF.call (OnlyF.set G2.out (p := ⟨g, k * 5 + 1 + 2, none⟩) HG.out (.string (mt (kk + 1 + 1 + 1)))) hon hsub)
   clear own hon hback hgx hnd hsub hx_ hgF O2_3
   go_wp2_with fail
   go_roundw
   case rel =>
    have hmk : mkL (FUnit.c ⟨z0, ⟨z1, z2, z3, z4⟩⟩) kk = [.v (.string (mt (kk))), .v (.int .i64 (kk + 1)), .v (.int .i64 (kk + 1 + 1)), .v (.string (mt (kk + 1 + 1 + 1))), .s 44 4 z4.length (mkL (FNode.flat z4) (kk + 1 + 1 + 1 + 1))] := by
     rw [FUnit.c_eq]
     rw [mkL_v (kk + 1) qaa]
     rw [mkL_v (kk + 1 + 1) qaa]
     rw [mkL_v (kk + 1 + 1 + 1) qaa]
     rw [mkL_v (kk + 1 + 1 + 1 + 1) qaa]
     rw [mkL_s (k4_) (by rw [← HN4.out]; exact HNK4.out)]
     rw [mkL_nil]
     rfl
    have hcn : cntL (FUnit.flat (l.take (k + 1))) = CC + (4 + N4) := by
     rw [FUnit.flat_take l k _ HX.out, cntL_append, HCC.out, FUnit.cnt_eq]
     rw [← HN4.out]; try omega
    have hall : mkL (FUnit.flat (l.take (k + 1))) k0 = D ++ [.v (.string (mt (kk))), .v (.int .i64 (kk + 1)), .v (.int .i64 (kk + 1 + 1)), .v (.string (mt (kk + 1 + 1 + 1))), .s 44 4 z4.length (mkL (FNode.flat z4) (kk + 1 + 1 + 1 + 1))] := by
     rw [FUnit.flat_take l k _ HX.out, mkL_append, HCC.out, ← HKK.out, ← HDD.out, hmk]
    refine ⟨k + 1, _, by omega, by go_num, rfl, ?_, ?_, G3.out⟩
    ·rw [hcn]
     have := HKK.out
     have := HNK4.out; omega
    ·rw [hall, ← HRR.out]
     simp only [List.append_assoc, List.cons_append, List.nil_append] at P3 ⊢
     exact P3
   case measure => simp [intOf]; omega
  ·exact zz37
theorem markUnitS_any (l : List FUnit) : MarkUnitS l := markUnitS_of l (fun x _ => by
 obtain ⟨z0, ⟨z1, z2, z3, z4⟩⟩ := x
 exact markNodeS_any z4)
theorem markUnitS_I (l : List FUnit) (u : Value) (k0 : Int) (lo hi : Nat) (w : World) (h1 : 1 ≤ k0) (h2 : k0 + (cntL (FUnit.flat l) : Int) ≤ 1000000000000000) (h : OwnI w lo hi [.s 46 5 l.length (FUnit.flat l)] [u]) :
  Calls Tryz.prog 10 #[u, .int .i64 k0] w fun e w' => e = .returned (.int .i64 (k0 + (cntL (FUnit.flat l) : Int))) ∧ OwnI w' lo hi [.s 46 5 l.length (mkL (FUnit.flat l) k0)] [u] ∧ Only lo hi w.heap.size w w' := by
 obtain ⟨F, a1, a2, a3⟩ := h
 exact (markUnitS_any l u k0 F w h1 h2 a2 a1.unone).mono fun e w' ⟨h3, h4, h5⟩ => ⟨h3, own_interval a2 a3 (OwnL.one h4) h5⟩
end Go.Proofs.YtkkjnfappndmpaaGreatDoor
