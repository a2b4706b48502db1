/-
 Parts of the proof: LmC, LmK. Conditions: none.
-/
import Derived.Test.YtkkjnfappndmpaaGreatDoorQFold
import Derived.Test.YtkkjnfappndmpaaGreatDoorQbq
import Derived.Test.YtkkjnfappndmpaaGreatDoorQbf
set_option linter.unusedVariables false
set_option linter.unusedSimpArgs false
namespace Go.Proofs.YtkkjnfappndmpaaGreatDoor
set_option maxHeartbeats 40000000
open Lib (hid)
open Go.ChangeShapes Go.WideShapes Go.ChangeAt Go.RowKit Go.Deep Go.Joins
open Go.ChangeMaps (open_string shut_string)
set_option maxRecDepth 100000
theorem ownsRow_leC {w : World} {a b k n : Nat} {e : TypeId} {v : Value} {xs : List Value} (h : w.ownsRow a e k v n xs) (hb : b ≤ a) : w.ownsRow b e k v n xs := own_up h fun g e => Nat.le_trans hb (World.ownsRow.lt h g e).1
theorem err_spec (w : World) : Calls Tryz.prog 35 #[] w fun e w' => e = .returned (.agg #[.string ⟨#[69, 114, 114, 111, 114]⟩, .string ⟨#[]⟩, .slice (some ⟨w.heap.size + 1, 0, none⟩) 1 1, .slice none 0 0]) ∧ RoF w' w.heap.size (.slice (some ⟨w.heap.size + 1, 0, none⟩) 1 1) [errF] ∧ Below w.heap.size w w' := by
 have bR := (Blk.new w 56 #[.string ⟨#[]⟩, .string ⟨#[]⟩, .slice none 0 0, .slice none 0 0]).alloc (.cells #[.string ⟨#[109, 101, 115, 115, 97, 103, 101]⟩, .string ⟨#[69, 114, 114, 111, 114]⟩, .bool false, .int .i64 0, .int .i64 0, .string ⟨#[]⟩, .int .i64 0, .slice none 0 0] 79)
 have O1 := hid (fun cs => show ((w.alloc (.cells cs 56)).alloc (.cells #[.string ⟨#[109, 101, 115, 115, 97, 103, 101]⟩, .string ⟨#[69, 114, 114, 111, 114]⟩, .bool false, .int .i64 0, .int .i64 0, .string ⟨#[]⟩, .int .i64 0, .slice none 0 0] 79)).ownsRow w.heap.size 79 8 (.slice (some ⟨w.heap.size + 1, 0, none⟩) 1 1) 1 (fvF [errF]) from by
  have o1 : ((w.alloc (.cells cs 56)).alloc (.cells #[.string ⟨#[109, 101, 115, 115, 97, 103, 101]⟩, .string ⟨#[69, 114, 114, 111, 114]⟩, .bool false, .int .i64 0, .int .i64 0, .string ⟨#[]⟩, .int .i64 0, .slice none 0 0] 79)).ownsRow w.heap.size 79 8 (.slice (some ⟨(w.alloc (.cells cs 56)).heap.size, 0, none⟩) 1 1) 1 (fvF [errF]) := own_made (w.alloc (.cells cs 56)) #[.string ⟨#[109, 101, 115, 115, 97, 103, 101]⟩, .string ⟨#[69, 114, 114, 111, 114]⟩, .bool false, .int .i64 0, .int .i64 0, .string ⟨#[]⟩, .int .i64 0, .slice none 0 0] qag qae qag
  rw [show (w.alloc (.cells cs 56)).heap.size = w.heap.size + 1 from by simp] at o1
  exact o1)
 have HB := fun cs => (((Below.refl w.heap.size w).alloc nr (.cells cs 56)).alloc qag (.cells #[.string ⟨#[109, 101, 115, 115, 97, 103, 101]⟩, .string ⟨#[69, 114, 114, 111, 114]⟩, .bool false, .int .i64 0, .int .i64 0, .string ⟨#[]⟩, .int .i64 0, .slice none 0 0] 79))
 go_enter Tryz.func35, Tryz.ntmps35
 have bR0 := bR.cell 0; have bR1 := bR.cell 1; have bR2 := bR.cell 2; have bR3 := bR.cell 3; have bRl := bR.lt; have bRf := fun i => bR.frozen i
 have hw : w.heap.size + 1 < ((w.alloc (.cells #[.string ⟨#[]⟩, .string ⟨#[]⟩, .slice none 0 0, .slice none 0 0] 56)).alloc (.cells #[.string ⟨#[109, 101, 115, 115, 97, 103, 101]⟩, .string ⟨#[69, 114, 114, 111, 114]⟩, .bool false, .int .i64 0, .int .i64 0, .string ⟨#[]⟩, .int .i64 0, .slice none 0 0] 79)).heap.size := by simp
 go_wp2_with fail
 refine bodyPost_ret (v := .agg #[.string ⟨#[69, 114, 114, 111, 114]⟩, .string ⟨#[]⟩, .slice (some ⟨w.heap.size + 1, 0, none⟩) 1 1, .slice none 0 0]) (by simp [results, Tryz.results35, go_sem, bR0, bR1, bR2, bR3, bRl, bRf]) rfl ⟨rfl, ?_, ?_⟩
 ·have key : (Value.slice (some ⟨w.heap.size + 1, 0, none⟩) 1 1).ownBlock ≠ some w.heap.size := by
   intro e
   have e2 : w.heap.size + 1 = w.heap.size := Option.some.inj e
   omega
  repeat (refine own_setCell ?_ key _)
  exact O1.out _
 ·repeat (refine Below.setCell ?_ nr _)
  exact HB _
theorem own_same {w : World} {lo n c g j : Nat} {t : TypeId} {k : Nat} {xs : List Value} {u : Value} (h : w.ownsRow lo t k (.slice (some ⟨g, 0, none⟩) n c) n xs) (hj : xs[j]? = some u) : (w.setCell ⟨g, j, none⟩ u).ownsRow lo t k (.slice (some ⟨g, 0, none⟩) n c) n xs := by
 have h1 := (World.ownsRow.stored h j u).1
 rwa [show xs.set j u = xs from by
  obtain ⟨h2, h3⟩ := List.getElem?_eq_some_iff.1 hj
  rw [← h3, List.set_getElem_self]] at h1
/-- What is copied so far. -/
def CpK (K : List CV) (lo : Nat) (wr : World) (i : Nat) (u : Value) : Prop := ∃ K' A c, u = .slice A K'.length c ∧ Two wr lo K' u [] (.slice none 0 0) ∧ K'.map Prod.fst = (K.take i).map Prod.fst
theorem CpK.next {K K' : List CV} {lo i : Nat} {w1 W W' : World} {u u' uF uM : Value} {c : FClass} {p : CV} (h1 : Two w1 lo K' u [] (.slice none 0 0)) (h2 : K'.map Prod.fst = (K.take i).map Prod.fst) (hb : Below w1.heap.size w1 W) (hlo : lo ≤ w1.heap.size) (hF : RoF W w1.heap.size uF c.fields) (hM : RoM W w1.heap.size uM c.methods) (hd : ∀ g, uF.ownBlock = some g → uM.ownBlock ≠ some g)
  (ho : W'.ownsRow lo 56 4 u' (K'.length + 1) (K'.flatMap clv ++ clv (c, uF, uM))) (hg : W.grownBy W' u.ownBlock) (hat : u'.ownBlock = u.ownBlock ∨ u'.ownBlock = some W.heap.size) (hp : K[i]? = some p) (hc : p.1 = c) : CpK K lo W' (i + 1) u' := by
 obtain ⟨A, cc, eu⟩ := own_form ho
 refine ⟨K' ++ [(c, uF, uM)], A, cc, by rw [eu, List.length_append]; rfl, Two.push h1 hb hlo hF hM hd ho hg hat, ?_⟩
 rw [List.map_append, h2, List.take_add_one, hp, List.map_append, ← hc]
 rfl
theorem copies_spec (K : List CV) (A : Option Addr) (c : Nat) (w : World) {B : Nat} (hB0 : B ≤ w.heap.size) (hKr : RdK w B K (.slice A K.length c)) (hKl : K.length ≤ 900000001) (hp : ∀ p, p ∈ K → PlC p.1 ∧ p.1.fields.length ≤ 1000000000 ∧ p.1.methods.length ≤ 1000000000) :
  Calls Tryz.prog 38 #[.slice A K.length c] w fun e w' => ∃ A' c', e = .returned (.slice A' K.length c') ∧ OwnI w' w.heap.size w'.heap.size [.s 56 4 (K.map Prod.fst).length (FClass.flat (K.map Prod.fst))] [.slice A' K.length c'] ∧ Below w.heap.size w w' := by
 have HKR := hid hKr
 have HP := hid hp
 clear hKr hp
 go_enter Tryz.func38, Tryz.ntmps38
 go_upto_region 2 with fail
 have E0 : Below w.heap.size w (w.alloc (.cells #[] 56)) := (Below.refl _ _).alloc nr _
 have C0 : CpK K w.heap.size (w.alloc (.cells #[] 56)) 0 (.slice (some ⟨w.heap.size, 0, none⟩) 0 0) := ⟨[], _, 0, rfl, Two.none _ _ ⟨own_empty w 56 4, fun p hp => by cases hp⟩ (by simp [blkL]) (fun g hg => by simp [blkL]), by simp⟩
 generalize w.alloc (.cells #[] 56) = X0 at *
 go_wp2_with fail
 go_loopw [4, 3] (fun iv u wr => ∃ i : Nat, i ≤ K.length ∧ iv = .int .i64 i ∧ CpK K w.heap.size wr i u ∧ Below w.heap.size w wr) (fun iv _ _ => K.length - (intOf iv).toNat)
 case atStart => exact ⟨0, Nat.zero_le _, rfl, C0, E0⟩
 case round =>
  clear C0 E0
  obtain ⟨i, hi, rfl, C1, E1⟩ := hrel
  obtain ⟨wo, rfl⟩ : ∃ X : World, X = wr := ⟨_, rfl⟩
  by_cases hlt : i < K.length
  ·obtain ⟨p, hpi⟩ : ∃ p, K[i]? = some p := ⟨_, List.getElem?_eq_getElem hlt⟩
   obtain ⟨K', Ao, co, eo, T1, e1⟩ := C1
   subst eo
   have HT1 := hid T1
   have HE1 := hid e1
   have hlo := E1.size
   have hKl' : K'.length ≤ 900000001 := by
    have h9 : (K'.map Prod.fst).length = ((K.take i).map Prod.fst).length := by rw [e1]
    rw [List.length_map, List.length_map, List.length_take] at h9
    omega
   have hpp := HP.out p (List.mem_of_getElem? hpi)
   have RM := hid (HKR.out.mem p (List.mem_of_getElem? hpi))
   have RK := hid (fun (X : World) (hb : Below w.heap.size w X) => HKR.out.at_ hb hB0 hpi)
   have HPI := hid hpi
   obtain ⟨⟨ca, cb, cfs, cms⟩, uFi, uMi⟩ := p
   obtain ⟨AF, cF, eF⟩ : ∃ A c, uFi = .slice A cfs.length c := RM.out.1.form
   obtain ⟨AM, cM, eM⟩ : ∃ A c, uMi = .slice A cms.length c := RM.out.2.form
   subst eF eM
   obtain ⟨bk, offk, Ek, hbk, -⟩ := RK.out w (Below.refl _ _)
   subst Ek
   have RK2 := hid (fun (X : World) (hb : Below w.heap.size w X) => show X.cell? ⟨bk, offk + i * 4, none⟩ = some (.string ca) ∧ X.cell? ⟨bk, offk + i * 4 + 1, none⟩ = some (.string cb) ∧ X.cell? ⟨bk, offk + i * 4 + 2, none⟩ = some (.slice AF cfs.length cF) ∧ X.cell? ⟨bk, offk + i * 4 + 3, none⟩ = some (.slice AM cms.length cM) from by
    exact zz84)
   have hcf : cfs.length ≤ 1000000000 := hpp.2.1
   have hcm : cms.length ≤ 1000000000 := hpp.2.2
   have PL := hid (show PlC ⟨ca, cb, cfs, cms⟩ from hpp.1)
   have hi2 : (i : Int) < (K.length : Int) := qaa
   have hi0 : (0 : Int) ≤ (i : Int) := qaa
   clear RK hpi T1 e1 hpp
   have bx : ∀ a b cc d, Blk (wo.alloc (.cells #[a, b, cc, d] 56)) wo.heap.size 56 #[a, b, cc, d] := fun a b cc d => Blk.new wo _ _
   obtain ⟨k0, k1, k2, k3⟩ := RK2.out wo E1
   go_upto_region 6 with fail
   have bT := bx (.string ca) (.string cb) (.slice AF cfs.length cF) (.slice AM cms.length cM)
   have E2 : Below wo.heap.size wo (wo.alloc (.cells #[.string ca, .string cb, .slice AF cfs.length cF, .slice AM cms.length cM] 56)) := (Below.refl _ _).alloc nr _
   clear k0 k1 k2 k3 bx
   generalize wo.alloc (.cells #[.string ca, .string cb, .slice AF cfs.length cF, .slice AM cms.length cM] 56) = X1 at *
   -- the fields
   obtain ⟨uP, hP⟩ : ∃ u, Value.slice AF cfs.length cF = u := ⟨_, rfl⟩
   obtain ⟨uQ, hQ⟩ : ∃ u, Value.slice AM cms.length cM = u := ⟨_, rfl⟩
   have HPE := hid hP.symm
   have HQE := hid hQ.symm
   have RK3 := hid (fun (X : World) (hb : Below w.heap.size w X) => show X.cell? ⟨bk, offk + i * 4 + 2, none⟩ = some uP ∧ X.cell? ⟨bk, offk + i * 4 + 3, none⟩ = some uQ from by rw [HPE.out, HQE.out]; exact (RK2.out X hb).2.2)
   rw [hP, hQ] at bT
   clear hP hQ
   have E3 := E2.alloc E2.size (.cells #[] 79)
   obtain ⟨k2, k3⟩ := RK3.out _ (E1.trans (E3.mono hlo))
   have bT1 := bT.alloc (.cells #[] 79)
   have OW := hid (ownsRow_leC (own_empty X1 79 8) E2.size)
   have RDF := hid (RM.out.1.below (E1.trans (E3.mono hlo)) hB0)
   have hwd : wo.heap.size ≤ (X1.alloc (.cells #[] 79)).heap.size := E3.size
   have hBd : B ≤ (X1.alloc (.cells #[] 79)).heap.size := Nat.le_trans hB0 (Nat.le_trans hlo hwd)
   have hne1 : some wo.heap.size ≠ (Value.slice (some ⟨X1.heap.size, 0, none⟩) 0 0).ownBlock := by
    intro e
    have e2 : wo.heap.size = X1.heap.size := Option.some.inj e
    have := bT.lt
    omega
   have bT10 := bT1.cell 0; have bT11 := bT1.cell 1; have bT12 := bT1.cell 2; have bT13 := bT1.cell 3; have bT1l := bT1.lt; have bT1f := fun i => bT1.frozen i
   go_upto_region 7 with (at_builtin; go_must (refine wpList_append_rd _ rfl (.tmp 18) (.tmp 23) _ rfl wo.heap.size _ _ _ 104 Tryz.underlying53 infoFieldL rfl qaa (.slice (some ⟨X1.heap.size, 0, none⟩) 0 0) 0 _ rfl OW.out B AF cfs.length cF (fvF cfs) HPE.out RDF.out (fvF_one cfs) qao qaa hwd ?_); intro v7 w7 own7 hg7 hat7; rw [Nat.zero_add, List.nil_append] at own7; obtain ⟨A7, c7, rfl⟩ := own_form own7; have OWN7 := hid own7; have HG7 := hid hg7; have HAT7 := hid hat7; have bT7 := (hg7.block _ bT1.lt hne1).trans bT1; have bT7_ : Blk w7 wo.heap.size 56 #[.string ca, .string cb, uP, uQ] := bT7; have bT7_0 := bT7_.cell 0; have bT7_1 := bT7_.cell 1; have bT7_2 := bT7_.cell 2; have bT7_3 := bT7_.cell 3; have bT7_l := bT7_.lt; have bT7_f := fun i => bT7_.frozen i; clear own7 hg7 hat7 bT7)
   have hA7 : ∀ g, (Value.slice A7 cfs.length c7).ownBlock = some g → wo.heap.size < g := fun g e => by
    have hb1 := bT.lt
    rcases HAT7.out with h9 | h9
    ·rw [h9] at e
     have e2 : X1.heap.size = g := Option.some.inj e
     omega
    ·rw [h9] at e
     have e2 : (X1.alloc (.cells #[] 79)).heap.size = g := Option.some.inj e
     simp at e2
     omega
   have bT8 : Blk (w7.setCell ⟨wo.heap.size, 2, none⟩ (.slice A7 cfs.length c7)) wo.heap.size 56 #[.string ca, .string cb, .slice A7 cfs.length c7, uQ] := by simpa using Blk.set_ bT7_ 2 (.slice A7 cfs.length c7)
   have r8 : RoF (w7.setCell ⟨wo.heap.size, 2, none⟩ (.slice A7 cfs.length c7)) wo.heap.size (.slice A7 cfs.length c7) cfs := own_setCell OWN7.out (fun e => Nat.lt_irrefl _ (hA7 _ e)) _
   have E4 : Below wo.heap.size wo (w7.setCell ⟨wo.heap.size, 2, none⟩ (.slice A7 cfs.length c7)) := (E3.grown HG7.out E3.size fun k e => by have e2 : X1.heap.size = k := Option.some.inj e; have := bT.lt; omega).setCell nr _
   clear E3 k2 k3 bT1 OW RDF hwd hBd hne1 bT10 bT11 bT12 bT13 bT1l bT1f bT7_0 bT7_1 bT7_2 bT7_3 bT7_l bT7_f bT7_ OWN7 HG7 HAT7 E2 bT
   generalize w7.setCell ⟨wo.heap.size, 2, none⟩ (.slice A7 cfs.length c7) = X2 at *
   go_wp2_with fail
   go_loopw [6] (fun iv wr => ∃ k : Nat, k ≤ cfs.length ∧ iv = .int .i64 k ∧ Below wo.heap.size wo wr ∧ Blk wr wo.heap.size 56 #[.string ca, .string cb, .slice A7 cfs.length c7, uQ] ∧ RoF wr wo.heap.size (.slice A7 cfs.length c7) cfs) (fun iv _ => cfs.length - (intOf iv).toNat)
   case atStart => exact ⟨0, Nat.zero_le _, rfl, E4, bT8, r8⟩
   case round =>
    clear E4 bT8 r8
    obtain ⟨k, hk, rfl, E2, b2, r2⟩ := hrel
    obtain ⟨wi, rfl⟩ : ∃ X : World, X = wr := ⟨_, rfl⟩
    have b20 := b2.cell 0; have b21 := b2.cell 1; have b22 := b2.cell 2; have b23 := b2.cell 3; have b2l := b2.lt; have b2f := fun i => b2.frozen i
    by_cases hlt3 : k < cfs.length
    ·obtain ⟨f, hf⟩ : ∃ f, cfs[k]? = some f := ⟨_, List.getElem?_eq_getElem hlt3⟩
     obtain ⟨g, c', eg⟩ := r2.some qaa
     cases eg
     have HF := hid hf
     have hpl := PL.out f (List.mem_of_getElem? hf)
     have rc := hid (fun (j : Nat) (v : Value) (hj : j < 8) (hv : (FField.vs f)[j]? = some v) => show (fvF cfs)[k * 8 + j]? = some v from by rw [flat_get FField.vlen cfs k f hf j hj]; exact hv)
     have hgt : wo.heap.size ≠ g := Nat.ne_of_lt (hA7 g rfl)
     have hgl : wo.heap.size ≤ g := Nat.le_of_lt (hA7 g rfl)
     obtain ⟨f0, f1, f2, ⟨f3, f4, f5, f6, f7⟩⟩ := f
     obtain rfl : f7 = [] := hpl.2.2.2
     have hlt4 : (k : Int) < (cfs.length : Int) := qaa
     have hk0 : (0 : Int) ≤ (k : Int) := qaa
     clear hf hpl
     go_upto_region 10 with fail
     refine lateStart (S := (fun w_ => (Below wo.heap.size wo w_ ∧ Blk w_ wo.heap.size 56 #[.string ca, .string cb, .slice (some ⟨g, 0, none⟩) cfs.length c7, uQ] ∧ RoF w_ wo.heap.size (.slice (some ⟨g, 0, none⟩) cfs.length c7) cfs))) [12] qab ?_ (fun hHeld => ?_)
     ·(try dsimp only)
      (exact ⟨below_drL E2, b2.drew, own_below r2 (below_drL (Below.refl _ _)) nr⟩)
     generalize wi.drew = wd at *
     (refine lgt (i := 0) rfl qz hHeld ?_; try simp only [aS])
     refine lateTake (i := 1) (v := ?_) rfl qab qae qab qab qab qab (fun _ _ _ h => h) qar ?_ hHeld ?_
     rotate_left
     ·exact zz185
     try simp only [aS]
     (refine lgt (i := 2) rfl qz hHeld ?_; try simp only [aS])
     (refine lgt (i := 3) rfl qz hHeld ?_; try simp only [aS])
     refine lateTake (i := 4) (v := ?_) rfl qab qae qab qab qab qab (fun _ _ _ h => h) qar ?_ hHeld ?_
     rotate_left
     ·exact zz185
     try simp only [aS]
     (refine lgt (i := 5) rfl qz hHeld ?_; try simp only [aS])
     (refine lgt (i := 6) rfl qz hHeld ?_; try simp only [aS])
     (refine lgt (i := 7) rfl qz hHeld ?_; try simp only [aS])
     refine lateTake (i := 8) (v := ?_) rfl qab qae qab qab qab qab (fun _ _ _ h => h) qar ?_ hHeld ?_
     rotate_left
     ·intro w_ hSw
      (try dsimp only at hSw)
      have y0 : w_.cell? ⟨g, k * 8 + 3, none⟩ = some (.int .i64 f3) := Ro.cell FField.vlen hSw.2.2 HF.out (j := 3) rfl; have y1 : w_.cell? ⟨g, k * 8 + 3 + 1, none⟩ = some (.int .i64 f4) := Ro.cell FField.vlen hSw.2.2 HF.out (j := 4) rfl; have y2 : w_.cell? ⟨g, k * 8 + 3 + 2, none⟩ = some (.string f5) := Ro.cell FField.vlen hSw.2.2 HF.out (j := 5) rfl; have y3 : w_.cell? ⟨g, k * 8 + 3 + 3, none⟩ = some (.int .i64 f6) := Ro.cell FField.vlen hSw.2.2 HF.out (j := 6) rfl; have y4 : w_.cell? ⟨g, k * 8 + 3 + 4, none⟩ = some (.slice none 0 0) := Ro.cell FField.vlen hSw.2.2 HF.out (j := 7) rfl
      exact zz24
     try simp only [aS]
     refine lateOne (i := 9) qab ?_
     refine lateOp (i := 9) rfl qar (fun K hK => ?_)
     go_simp
     (go_at_call 63; refine (copyS_flat _ _ _ _ _).mono ?_; rintro e w4 ⟨rfl, hb⟩; have hS_ : (Below wo.heap.size wo w4 ∧ Blk w4 wo.heap.size 56 #[.string ca, .string cb, .slice (some ⟨g, 0, none⟩) cfs.length c7, uQ] ∧ RoF w4 wo.heap.size (.slice (some ⟨g, 0, none⟩) cfs.length c7) cfs) := ⟨hHeld.1.trans (hb.mono hHeld.1.size), hHeld.2.1.below hb nr, own_below hHeld.2.2 hb nr⟩; clear hb)
     clear hHeld
     refine hK.out _ _ hS_ (fun hHeld => ?_)
     clear hK K hS_
     try simp only [aS]
     (refine lgW (i := 10) (v := ?_) qab rfl (fun _ _ _ h => h) qar ?_ hHeld ?_; rotate_left; (focus (intro w_; go_simp; (try with_reducible rfl); done)); try simp only [aS])
     (refine lgt (i := 11) rfl qz hHeld ?_; try simp only [aS])
     refine lateOne (i := 12) qab ?_
     refine lateLast (i := 12) rfl qab qar (fun K hK => ?_)
     have o_f := fun j => Ro.frozen hHeld.2.2 j; have o_l := (World.ownsRow.lt hHeld.2.2 g rfl).2; have o0 : w4.cell? ⟨g, k * 8 + 3, none⟩ = some (.int .i64 f3) := Ro.cell FField.vlen hHeld.2.2 HF.out (j := 3) rfl; have o1 : w4.cell? ⟨g, k * 8 + 3 + 1, none⟩ = some (.int .i64 f4) := Ro.cell FField.vlen hHeld.2.2 HF.out (j := 4) rfl; have o2 : w4.cell? ⟨g, k * 8 + 3 + 2, none⟩ = some (.string f5) := Ro.cell FField.vlen hHeld.2.2 HF.out (j := 5) rfl; have o3 : w4.cell? ⟨g, k * 8 + 3 + 3, none⟩ = some (.int .i64 f6) := Ro.cell FField.vlen hHeld.2.2 HF.out (j := 6) rfl; have o4 : w4.cell? ⟨g, k * 8 + 3 + 4, none⟩ = some (.slice none 0 0) := Ro.cell FField.vlen hHeld.2.2 HF.out (j := 7) rfl
     go_simp
     refine hK.out _ _ ?_
     clear hK K
     try simp only [aS]
     refine lateDone qab ?_ _
     have R9 := hid (own_same (own_same (own_same (own_same (own_same hHeld.2.2 (rc.out 3 _ qaa rfl)) (rc.out 4 _ qaa rfl)) (rc.out 5 _ qaa rfl)) (rc.out 6 _ qaa rfl)) (rc.out 7 _ qaa rfl))
     have B9 := hid (((((hHeld.2.1.far (p := ⟨g, k * 8 + 3, none⟩) hgt (.int .i64 f3)).far (p := ⟨g, k * 8 + 3 + 1, none⟩) hgt (.int .i64 f4)).far (p := ⟨g, k * 8 + 3 + 2, none⟩) hgt (.string f5)).far (p := ⟨g, k * 8 + 3 + 3, none⟩) hgt (.int .i64 f6)).far (p := ⟨g, k * 8 + 3 + 4, none⟩) hgt (.slice none 0 0))
     have E9 := hid (((((hHeld.1.setCell (p := ⟨g, k * 8 + 3, none⟩) hgl (.int .i64 f3)).setCell (p := ⟨g, k * 8 + 3 + 1, none⟩) hgl (.int .i64 f4)).setCell (p := ⟨g, k * 8 + 3 + 2, none⟩) hgl (.string f5)).setCell (p := ⟨g, k * 8 + 3 + 3, none⟩) hgl (.int .i64 f6)).setCell (p := ⟨g, k * 8 + 3 + 4, none⟩) hgl (.slice none 0 0))
     go_wp2_with fail
     go_roundw
     case rel => exact ⟨k + 1, by omega, by go_num, E9.out, B9.out, R9.out⟩
     case measure => simp [intOf]; omega
    ·obtain rfl : k = cfs.length := qaa
     have E3 := E2.alloc E2.size (.cells #[] 87)
     obtain ⟨k2, k3⟩ := RK3.out _ (E1.trans (E3.mono hlo))
     have bT1 := b2.alloc (.cells #[] 87)
     have OW := hid (ownsRow_leC (own_empty wi 87 5) E2.size)
     have RDF := hid (RM.out.2.below (E1.trans (E3.mono hlo)) hB0)
     have hwd : wo.heap.size ≤ (wi.alloc (.cells #[] 87)).heap.size := E3.size
     have hBd : B ≤ (wi.alloc (.cells #[] 87)).heap.size := Nat.le_trans hB0 (Nat.le_trans hlo hwd)
     have hne1 : some wo.heap.size ≠ (Value.slice (some ⟨wi.heap.size, 0, none⟩) 0 0).ownBlock := by
      intro e
      have e2 : wo.heap.size = wi.heap.size := Option.some.inj e
      omega
     have r3 := hid (World.ownsRow.alloc r2 (.cells #[] 87))
     have hA7l : ∀ g, (Value.slice A7 cfs.length c7).ownBlock = some g → g < wi.heap.size := fun g e => (World.ownsRow.lt r2 g e).2
     have bT10 := bT1.cell 0; have bT11 := bT1.cell 1; have bT12 := bT1.cell 2; have bT13 := bT1.cell 3; have bT1l := bT1.lt; have bT1f := fun i => bT1.frozen i
     go_upto_region 12 with (at_builtin; go_must (refine wpList_append_rd _ rfl (.tmp 45) (.tmp 50) _ rfl wo.heap.size _ _ _ 56 Tryz.underlying54 infoMethodL rfl qaa (.slice (some ⟨wi.heap.size, 0, none⟩) 0 0) 0 _ rfl OW.out B AM cms.length cM (fvM cms) HQE.out RDF.out (fvM_one cms) qao qaa hwd ?_); intro v8 w8 own7 hg7 hat7; rw [Nat.zero_add, List.nil_append] at own7; obtain ⟨A8, c8, rfl⟩ := own_form own7; have OWN7 := hid own7; have HG7 := hid hg7; have HAT7 := hid hat7; have bT7 := (hg7.block _ bT1.lt hne1).trans bT1; have bT7_ : Blk w8 wo.heap.size 56 #[.string ca, .string cb, .slice A7 cfs.length c7, uQ] := bT7; have bT7_0 := bT7_.cell 0; have bT7_1 := bT7_.cell 1; have bT7_2 := bT7_.cell 2; have bT7_3 := bT7_.cell 3; have bT7_l := bT7_.lt; have bT7_f := fun i => bT7_.frozen i; clear own7 hg7 hat7 bT7)
     have hA8 : ∀ g, (Value.slice A8 cms.length c8).ownBlock = some g → wi.heap.size ≤ g := fun g e => by
      rcases HAT7.out with h9 | h9
      ·rw [h9] at e
       have e2 : wi.heap.size = g := Option.some.inj e
       omega
      ·rw [h9] at e
       have e2 : (wi.alloc (.cells #[] 87)).heap.size = g := Option.some.inj e
       simp at e2
       omega
     have bT8 : Blk (w8.setCell ⟨wo.heap.size, 3, none⟩ (.slice A8 cms.length c8)) wo.heap.size 56 #[.string ca, .string cb, .slice A7 cfs.length c7, .slice A8 cms.length c8] := by simpa using Blk.set_ bT7_ 3 (.slice A8 cms.length c8)
     have r9 : RoM (w8.setCell ⟨wo.heap.size, 3, none⟩ (.slice A8 cms.length c8)) wo.heap.size (.slice A8 cms.length c8) cms := own_setCell OWN7.out (fun e => Nat.lt_irrefl _ (Nat.lt_of_lt_of_le b2.lt (hA8 _ e))) _
     have r8 : RoF (w8.setCell ⟨wo.heap.size, 3, none⟩ (.slice A8 cms.length c8)) wo.heap.size (.slice A7 cfs.length c7) cfs := own_setCell (own_grown r3.out HG7.out fun g e e2 => by
      have h8 := hA7l g e
      have e3 : wi.heap.size = g := Option.some.inj e2
      omega) (fun e => Nat.lt_irrefl _ (hA7 _ e)) _
     have E4 : Below wo.heap.size wo (w8.setCell ⟨wo.heap.size, 3, none⟩ (.slice A8 cms.length c8)) := (E3.grown HG7.out E3.size fun k e => by have e2 : wi.heap.size = k := Option.some.inj e; omega).setCell nr _
     clear E3 k2 k3 bT1 OW RDF hwd hBd hne1 bT10 bT11 bT12 bT13 bT1l bT1f bT7_0 bT7_1 bT7_2 bT7_3 bT7_l bT7_f bT7_ OWN7 HG7 HAT7 E2 b2 r2 r3 b20 b21 b22 b23 b2l b2f
     generalize w8.setCell ⟨wo.heap.size, 3, none⟩ (.slice A8 cms.length c8) = W6 at *
     have hdd : ∀ g, (Value.slice A7 cfs.length c7).ownBlock = some g → (Value.slice A8 cms.length c8).ownBlock ≠ some g := fun g e e2 => by
      have := hA7l g e
      have := hA8 g e2
      omega
     have E5 : Below wo.heap.size wo (W6.alloc (.cells #[.string ca, .string cb, .slice A7 cfs.length c7, .slice A8 cms.length c8] 56)) := E4.alloc E4.size _
     have OW := hid (own_below HT1.out.a.row E5 nr)
     have RFz := hid (World.ownsRow.alloc r8 (.cells #[.string ca, .string cb, .slice A7 cfs.length c7, .slice A8 cms.length c8] 56))
     have RMz := hid (World.ownsRow.alloc r9 (.cells #[.string ca, .string cb, .slice A7 cfs.length c7, .slice A8 cms.length c8] 56))
     have RN := hid (rd_new W6 56 4 [.string ca, .string cb, .slice A7 cfs.length c7, .slice A8 cms.length c8] rfl)
     have ON := hid (show ∀ u ∈ ([.string ca, .string cb, .slice A7 cfs.length c7, .slice A8 cms.length c8] : List Value), u.oneCell' = true from by intro u hu; simp only [List.mem_cons, List.not_mem_nil, or_false] at hu; rcases hu with rfl | rfl | rfl | rfl <;> rfl)
     have hw6 : w.heap.size ≤ (W6.alloc (.cells #[.string ca, .string cb, .slice A7 cfs.length c7, .slice A8 cms.length c8] 56)).heap.size := Nat.le_trans hlo E5.size
     have bT80 := bT8.cell 0; have bT81 := bT8.cell 1; have bT82 := bT8.cell 2; have bT83 := bT8.cell 3; have bT8l := bT8.lt; have bT8f := fun i => bT8.frozen i
     have HH := hid (And.intro E5 (And.intro hdd hlo))
     go_wp2_with (at_builtin; go_must (refine wpList_append_rd _ rfl (.tmp 53) (.tmp 55) _ rfl w.heap.size _ _ _ 80 Tryz.underlying24 infoClassL rfl qaa (.slice Ao K'.length co) K'.length _ rfl OW.out (W6.heap.size + 1) _ 1 1 [.string ca, .string cb, .slice A7 cfs.length c7, .slice A8 cms.length c8] rfl RN.out ON.out qao qaa hw6 ?_); intro v7 w7 own7 hg7 hat7; have hS := hid (CpK.next (c := ⟨ca, cb, cfs, cms⟩) HT1.out HE1.out HH.out.1 HH.out.2.2 RFz.out RMz.out HH.out.2.1 own7 hg7 hat7 HPI.out rfl); have E7 := hid ((E1.trans (HH.out.1.mono HH.out.2.2)).grown hg7 hw6 fun k e => (World.ownsRow.lt HT1.out.a.row k e).1); clear own7 hg7 hat7)
     go_roundw
     case rel => exact ⟨i + 1, by omega, by go_num, hS.out, E7.out⟩
     case measure => simp [intOf]; omega
  ·obtain rfl : i = K.length := qaa
   obtain ⟨K', Ao, co, eo, T1, e1⟩ := C1
   subst eo
   rw [List.take_length] at e1
   have eL : K'.length = K.length := by
    have h9 : (K'.map Prod.fst).length = (K.map Prod.fst).length := by rw [e1]
    rwa [List.length_map, List.length_map] at h9
   have PLK : ∀ p, p ∈ K' → PlC p.1 := fun p hp => by
    have h8 : p.1 ∈ K.map Prod.fst := by rw [← e1]; exact List.mem_map.2 ⟨p, hp, rfl⟩
    obtain ⟨q, hq, e9⟩ := List.mem_map.1 h8
    rw [← e9]
    exact (HP.out q hq).1
   have OWI := hid (Two.ownI T1 PLK)
   rw [e1, eL] at OWI
   rw [eL]
   have E1h := hid E1
   clear T1 e1 PLK E1
   go_wp2_with fail
   go_ret
   exact ⟨Ao, co, rfl, OWI.out, E1h.out⟩
theorem find_K (K : List CV) (s : ByteArray) (A : Option Addr) (c : Nat) (w X : World) (hKl : K.length ≤ 1000000000) (hKr : RdK w w.heap.size K (.slice A K.length c)) (hp : ∀ p, p ∈ K → PlC p.1) (hb : Below w.heap.size w X) :
  Calls Tryz.prog 36 #[.slice A K.length c, .string s] X fun e w' => e = .returned (.int .i64 (fidx FClass.nm (K.map Prod.fst) s)) ∧ Below X.heap.size X w' ∧ Below w.heap.size w w' := by
 have hc := hKr.rdC hp
 have e : (K.map Prod.fst).length = K.length := List.length_map ..
 have h := find_any (K.map Prod.fst) s A c w X nr (by rw [e]; exact hKl) (by rw [e] at hc ⊢; exact hc) hb
 rw [e] at h
 exact h
theorem build_K (x : FNode) (hx : ClO x) (J : List CV) (A3 : Option Addr) (c3 : Nat) (At : Option Addr) (ct : Nat) (pa pp : ByteArray) (fs : List FField) (ms : List FMethod) (AP : Option Addr) (cP : Nat) (AQ : Option Addr) (cQ : Nat) (w : World) (hJr : RdK w w.heap.size J (.slice At J.length ct))
  (hPf : Rd w w.heap.size 8 (.slice AP fs.length cP) fs.length (fvF fs)) (hPm : Rd w w.heap.size 5 (.slice AQ ms.length cQ) ms.length (fvM ms)) (r3 : RdC w w.heap.size (.s 44 4 x.kids.length (FNode.flat x.kids)) (.slice A3 x.kids.length c3)) (G : List (List UInt8)) (hG : G.length ≤ 1000000000) (hgf : GdF G fs) (hgm : GdM G ms)
  (hts : ∀ t, t ∈ J.map Prod.fst → ClG G t) (hkg : ∀ y, y ∈ x.kids → y.tx.toList ∈ G) (hz : x.kids.length ≤ 1000000000) (htl : J.length ≤ 1000000000) (k n : Int) (s : ByteArray) (hk : k = x.kd ∧ n = x.nu ∧ s = x.tx) :
  Calls Tryz.prog 37 #[.agg #[.int .i64 k, .int .i64 n, .string s, .slice A3 x.kids.length c3], .agg #[.string pa, .string pp, .slice AP fs.length cP, .slice AQ ms.length cQ], .slice At J.length ct] w fun e w' => LcR w w' e (bldC x pa fs ms (J.map Prod.fst)) := by
 obtain ⟨z0, z1, z2, z3⟩ := x
 obtain ⟨rfl, rfl, rfl⟩ := hk
 have eJ : (J.map Prod.fst).length = J.length := List.length_map ..
 have hJr2 : RdK w w.heap.size J (.slice At (J.map Prod.fst).length ct) := by rw [eJ]; exact hJr
 rw [← eJ]
 exact build_go k n s z3 A3 c3 pa pp fs ms AP cP AQ cQ _ At ct w nr J rfl hJr2 (by rw [eJ]; exact htl) hPf hPm r3 hx G hG hgf hgm hts hkg hz (fun y hy => by
  obtain ⟨cl, f, h⟩ := hx.mem y hy
  exact Nat.le_trans h.nm qae)
theorem two_errS {w w1 w2 w3 : World} {uF : Value} (hF : RoF w1 w.heap.size uF [errF]) (hb : Below w.heap.size w w1) (e2 : w2 = w1.alloc (.cells #[.string ⟨#[69, 114, 114, 111, 114]⟩, .string ⟨#[]⟩, uF, .slice none 0 0] 56)) (e3 : w3 = w2.alloc (.cells #[] 56)) :
  Two w3 w.heap.size [(errC, uF, .slice none 0 0)] (.slice (some ⟨w1.heap.size, 0, none⟩) 1 1) [] (.slice (some ⟨w1.heap.size + 1, 0, none⟩) 0 0) := by
 have s2 : w2.heap.size = w1.heap.size + 1 := by rw [e2]; simp
 have hs := hb.size
 have o2 : w2.ownsRow w.heap.size 56 4 (.slice (some ⟨w1.heap.size, 0, none⟩) 1 1) 1 [.string ⟨#[69, 114, 114, 111, 114]⟩, .string ⟨#[]⟩, uF, .slice none 0 0] := by rw [e2]; exact own_made w1 _ hs qae qag
 have o3 : w3.ownsRow w2.heap.size 56 4 (.slice (some ⟨w2.heap.size, 0, none⟩) 0 0) 0 [] := by rw [e3]; exact own_empty w2 _ 4
 have b2 : Below w1.heap.size w1 w3 := by rw [e3, e2]; exact ((Below.refl _ _).alloc nr _).alloc qag _
 have b3 : Below w2.heap.size w2 w3 := by rw [e3]; exact (Below.refl _ _).alloc nr _
 rw [s2] at o3
 have hlt := World.ownsRow.lt hF
 have key : ∀ g, w1.heap.size ≤ g → g ∉ blkL [(errC, uF, (Value.slice none 0 0))] ++ blkL [] := fun g hg hm => by
  have hm2 : g ∈ ownB uF := by simpa [blkL, ownB, Value.ownBlock] using hm
  have := (hlt g (mem_ownB.1 hm2)).2
  omega
 refine ⟨⟨own_below o2 b3 nr, fun p hp => ?_⟩, ⟨own_up o3 fun g e => by have e9 : w1.heap.size + 1 = g := Option.some.inj e; omega, fun p hp => (by cases hp)⟩, ?_, fun g hg => ?_, fun g hg => ?_⟩
 ·rw [List.mem_singleton.1 hp]
  exact ⟨own_below hF b2 nr, Ro.nil _ _⟩
 ·have e9 : blkL [(errC, uF, (Value.slice none 0 0))] ++ blkL [] = ownB uF := by simp [blkL, ownB, Value.ownBlock]
  rw [e9]
  unfold ownB
  cases uF.ownBlock <;> simp
 ·have e9 : w1.heap.size = g := Option.some.inj hg
  subst e9
  refine ⟨key _ nr, fun e => ?_⟩
  have e8 : w1.heap.size + 1 = w1.heap.size := Option.some.inj e
  omega
 ·have e9 : w1.heap.size + 1 = g := Option.some.inj hg
  subst e9
  exact key _ qaa
theorem rd_nil9 (w : World) (B k : Nat) : Rd w B k (.slice none 0 0) 0 [] := ⟨none, 0, rfl, Nat.le_refl _, by decide, by simp, fun h => absurd h qae⟩
theorem linkC_none {x : FNode} {cs ts : List FClass} (hb : badN cs ts x.tx = false) (hp : parC cs x.kids = none) : linkC x cs ts = (2, ⟨⟨#[]⟩, ⟨#[]⟩, [], []⟩) := by
 unfold linkC
 rw [if_neg (by rw [hb]; simp), hp]
end Go.Proofs.YtkkjnfappndmpaaGreatDoor
