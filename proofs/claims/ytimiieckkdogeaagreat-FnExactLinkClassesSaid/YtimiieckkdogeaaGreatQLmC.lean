/-
  Parts of the proof: LmC. Conditions: none.
-/
import Derived.Test.YtimiieckkdogeaaGreatQLmB
import Derived.Test.YtimiieckkdogeaaGreatQLkF
set_option linter.unusedVariables false
set_option linter.unusedSimpArgs false
namespace Go.Proofs.YtimiieckkdogeaaGreat
set_option maxHeartbeats 40000000
open Lib (hid)
open Go.ChangeShapes Go.WideShapes Go.ChangeAt Go.RowKit Go.Deep Go.Joins
open Go.ChangeMaps (open_string shut_string)
set_option maxRecDepth 100000
theorem ownsRow_leC {w : World} {a b k n : Nat} {e : TypeId} {v : Value} {xs : List Value} (h : w.ownsRow a e k v n xs) (hb : b ≤ a) : w.ownsRow b e k v n xs := own_up h fun g e => Nat.le_trans hb (World.ownsRow.lt h g e).1
theorem err_spec (w : World) : Calls Tryz.prog 22 #[] w fun e w' => e = .returned (.agg #[.string ⟨#[69, 114, 114, 111, 114]⟩, .string ⟨#[]⟩, .slice (some ⟨w.heap.size + 1, 0, none⟩) 1 1, .slice none 0 0]) ∧ RoF w' w.heap.size (.slice (some ⟨w.heap.size + 1, 0, none⟩) 1 1) [errF] ∧ Below w.heap.size w w' := by
  have bR := (Blk.new w 40 #[.string ⟨#[]⟩, .string ⟨#[]⟩, .slice none 0 0, .slice none 0 0]).alloc (.cells #[.string ⟨#[109, 101, 115, 115, 97, 103, 101]⟩, .string ⟨#[69, 114, 114, 111, 114]⟩, .bool false, .int .i64 0, .int .i64 0, .string ⟨#[]⟩, .int .i64 0, .slice none 0 0] 51)
  have O1 := hid (fun cs => show ((w.alloc (.cells cs 40)).alloc (.cells #[.string ⟨#[109, 101, 115, 115, 97, 103, 101]⟩, .string ⟨#[69, 114, 114, 111, 114]⟩, .bool false, .int .i64 0, .int .i64 0, .string ⟨#[]⟩, .int .i64 0, .slice none 0 0] 51)).ownsRow w.heap.size 51 8 (.slice (some ⟨w.heap.size + 1, 0, none⟩) 1 1) 1 (fvF [errF]) from by
    have o1 : ((w.alloc (.cells cs 40)).alloc (.cells #[.string ⟨#[109, 101, 115, 115, 97, 103, 101]⟩, .string ⟨#[69, 114, 114, 111, 114]⟩, .bool false, .int .i64 0, .int .i64 0, .string ⟨#[]⟩, .int .i64 0, .slice none 0 0] 51)).ownsRow w.heap.size 51 8 (.slice (some ⟨(w.alloc (.cells cs 40)).heap.size, 0, none⟩) 1 1) 1 (fvF [errF]) := own_made (w.alloc (.cells cs 40)) #[.string ⟨#[109, 101, 115, 115, 97, 103, 101]⟩, .string ⟨#[69, 114, 114, 111, 114]⟩, .bool false, .int .i64 0, .int .i64 0, .string ⟨#[]⟩, .int .i64 0, .slice none 0 0] (by simp) (by decide) (by simp)
    rw [show (w.alloc (.cells cs 40)).heap.size = w.heap.size + 1 from by simp] at o1
    exact o1)
  have HB := fun cs => (((Below.refl w.heap.size w).alloc (Nat.le_refl _) (.cells cs 40)).alloc (by simp) (.cells #[.string ⟨#[109, 101, 115, 115, 97, 103, 101]⟩, .string ⟨#[69, 114, 114, 111, 114]⟩, .bool false, .int .i64 0, .int .i64 0, .string ⟨#[]⟩, .int .i64 0, .slice none 0 0] 51))
  go_enter Tryz.func22, Tryz.ntmps22
  have bR0 := bR.cell 0; have bR1 := bR.cell 1; have bR2 := bR.cell 2; have bR3 := bR.cell 3; have bRl := bR.lt; have bRf := fun i => bR.frozen i
  have hw : w.heap.size + 1 < ((w.alloc (.cells #[.string ⟨#[]⟩, .string ⟨#[]⟩, .slice none 0 0, .slice none 0 0] 40)).alloc (.cells #[.string ⟨#[109, 101, 115, 115, 97, 103, 101]⟩, .string ⟨#[69, 114, 114, 111, 114]⟩, .bool false, .int .i64 0, .int .i64 0, .string ⟨#[]⟩, .int .i64 0, .slice none 0 0] 51)).heap.size := by simp
  go_wp2_with fail
  refine bodyPost_ret (v := .agg #[.string ⟨#[69, 114, 114, 111, 114]⟩, .string ⟨#[]⟩, .slice (some ⟨w.heap.size + 1, 0, none⟩) 1 1, .slice none 0 0]) (by simp [results, Tryz.results22, go_sem, bR0, bR1, bR2, bR3, bRl, bRf]) rfl ⟨rfl, ?_, ?_⟩
  · have key : (Value.slice (some ⟨w.heap.size + 1, 0, none⟩) 1 1).ownBlock ≠ some w.heap.size := by
      intro e
      have e2 : w.heap.size + 1 = w.heap.size := Option.some.inj e
      omega
    repeat (refine own_setCell ?_ key _)
    exact O1.out _
  · repeat (refine Below.setCell ?_ (Nat.le_refl _) _)
    exact HB _
theorem own_same {w : World} {lo n c g j : Nat} {t : TypeId} {k : Nat} {xs : List Value} {u : Value} (h : w.ownsRow lo t k (.slice (some ⟨g, 0, none⟩) n c) n xs) (hj : xs[j]? = some u) : (w.setCell ⟨g, j, none⟩ u).ownsRow lo t k (.slice (some ⟨g, 0, none⟩) n c) n xs := by
  have h1 := (World.ownsRow.stored h j u).1
  rwa [show xs.set j u = xs from by
    obtain ⟨h2, h3⟩ := List.getElem?_eq_some_iff.1 hj
    rw [← h3, List.set_getElem_self]] at h1
/-- What is copied so far. -/
def CpK (K : List CV) (lo : Nat) (wr : World) (i : Nat) (u : Value) : Prop := ∃ K' A c, u = .slice A K'.length c ∧ Two wr lo K' u [] (.slice none 0 0) ∧ K'.map Prod.fst = (K.take i).map Prod.fst
theorem CpK.below {K : List CV} {lo i : Nat} {wr w' : World} {u : Value} (h : CpK K lo wr i u) (hb : Below wr.heap.size wr w') : CpK K lo w' i u := by
  obtain ⟨K', A, c, e, h1, h2⟩ := h
  exact ⟨K', A, c, e, h1.below hb (Nat.le_refl _), h2⟩
theorem CpK.next {K K' : List CV} {lo i : Nat} {w1 W W' : World} {u u' uF uM : Value} {c : FClass} {p : CV} (h1 : Two w1 lo K' u [] (.slice none 0 0)) (h2 : K'.map Prod.fst = (K.take i).map Prod.fst) (hb : Below w1.heap.size w1 W) (hlo : lo ≤ w1.heap.size) (hF : RoF W w1.heap.size uF c.fields) (hM : RoM W w1.heap.size uM c.methods) (hd : ∀ g, uF.ownBlock = some g → uM.ownBlock ≠ some g)
    (ho : W'.ownsRow lo 40 4 u' (K'.length + 1) (K'.flatMap clv ++ clv (c, uF, uM))) (hg : W.grownBy W' u.ownBlock) (hat : u'.ownBlock = u.ownBlock ∨ u'.ownBlock = some W.heap.size) (hp : K[i]? = some p) (hc : p.1 = c) : CpK K lo W' (i + 1) u' := by
  obtain ⟨A, cc, eu⟩ := own_form ho
  refine ⟨K' ++ [(c, uF, uM)], A, cc, by rw [eu, List.length_append]; rfl, Two.push h1 hb hlo hF hM hd ho hg hat, ?_⟩
  rw [List.map_append, h2, List.take_add_one, hp, List.map_append, ← hc]
  rfl
theorem copies_spec (K : List CV) (A : Option Addr) (c : Nat) (w : World) {B : Nat} (hB0 : B ≤ w.heap.size) (hKr : RdK w B K (.slice A K.length c)) (hKl : K.length ≤ 900000001) (hp : ∀ p, p ∈ K → PlC p.1 ∧ p.1.fields.length ≤ 1000000000 ∧ p.1.methods.length ≤ 1000000000) :
    Calls Tryz.prog 26 #[.slice A K.length c] w fun e w' => ∃ A' c', e = .returned (.slice A' K.length c') ∧ OwnI w' w.heap.size w'.heap.size [.s 40 4 (K.map Prod.fst).length (FClass.flat (K.map Prod.fst))] [.slice A' K.length c'] ∧ Below w.heap.size w w' := by
  have HKR := hid hKr
  have HP := hid hp
  clear hKr hp
  go_enter Tryz.func26, Tryz.ntmps26
  go_upto_region 2 with fail
  have E0 : Below w.heap.size w (w.alloc (.cells #[] 40)) := (Below.refl _ _).alloc (Nat.le_refl _) _
  have C0 : CpK K w.heap.size (w.alloc (.cells #[] 40)) 0 (.slice (some ⟨w.heap.size, 0, none⟩) 0 0) := ⟨[], _, 0, rfl, Two.none _ _ ⟨own_empty w 40 4, fun p hp => by cases hp⟩ (by simp [blkL]) (fun g hg => by simp [blkL]), by simp⟩
  generalize w.alloc (.cells #[] 40) = X0 at *
  go_wp2_with fail
  go_loopw [4, 3] (fun iv u wr => ∃ i : Nat, i ≤ K.length ∧ iv = .int .i64 i ∧ CpK K w.heap.size wr i u ∧ Below w.heap.size w wr) (fun iv _ _ => K.length - (intOf iv).toNat)
  case atStart => exact ⟨0, Nat.zero_le _, rfl, C0, E0⟩
  case round =>
    clear C0 E0
    obtain ⟨i, hi, rfl, C1, E1⟩ := hrel
    obtain ⟨wo, rfl⟩ : ∃ X : World, X = wr := ⟨_, rfl⟩
    by_cases hlt : i < K.length
    · obtain ⟨p, hpi⟩ : ∃ p, K[i]? = some p := ⟨_, List.getElem?_eq_getElem hlt⟩
      obtain ⟨K', Ao, co, eo, T1, e1⟩ := C1
      subst eo
      have HT1 := hid T1
      have HE1 := hid e1
      have hlo := E1.size
      have hKl' : K'.length ≤ 900000001 := by
        have h9 : (K'.map Prod.fst).length = ((K.take i).map Prod.fst).length := by rw [e1]
        rw [List.length_map, List.length_map, List.length_take] at h9
        omega
      have hpp := HP.out p (List.mem_of_getElem? hpi)
      have RM := hid (HKR.out.mem p (List.mem_of_getElem? hpi))
      have RK := hid (fun (X : World) (hb : Below w.heap.size w X) => HKR.out.at_ hb hB0 hpi)
      have HPI := hid hpi
      obtain ⟨⟨ca, cb, cfs, cms⟩, uFi, uMi⟩ := p
      obtain ⟨AF, cF, eF⟩ : ∃ A c, uFi = .slice A cfs.length c := RM.out.1.form
      obtain ⟨AM, cM, eM⟩ : ∃ A c, uMi = .slice A cms.length c := RM.out.2.form
      subst eF eM
      obtain ⟨bk, offk, Ek, hbk, -⟩ := RK.out w (Below.refl _ _)
      subst Ek
      have RK2 := hid (fun (X : World) (hb : Below w.heap.size w X) => show X.cell? ⟨bk, offk + i * 4, none⟩ = some (.string ca) ∧ X.cell? ⟨bk, offk + i * 4 + 1, none⟩ = some (.string cb) ∧ X.cell? ⟨bk, offk + i * 4 + 2, none⟩ = some (.slice AF cfs.length cF) ∧ X.cell? ⟨bk, offk + i * 4 + 3, none⟩ = some (.slice AM cms.length cM) from by
        obtain ⟨b', off', e', -, -, k0, k1, k2, k3⟩ := RK.out X hb
        cases e'
        exact ⟨k0, k1, k2, k3⟩)
      have hcf : cfs.length ≤ 1000000000 := hpp.2.1
      have hcm : cms.length ≤ 1000000000 := hpp.2.2
      have PL := hid (show PlC ⟨ca, cb, cfs, cms⟩ from hpp.1)
      have hi2 : (i : Int) < (K.length : Int) := by omega
      have hi0 : (0 : Int) ≤ (i : Int) := by omega
      clear RK hpi T1 e1 hpp
      have bx : ∀ a b cc d, Blk (wo.alloc (.cells #[a, b, cc, d] 40)) wo.heap.size 40 #[a, b, cc, d] := fun a b cc d => Blk.new wo _ _
      obtain ⟨k0, k1, k2, k3⟩ := RK2.out wo E1
      go_upto_region 6 with fail
      have bT := bx (.string ca) (.string cb) (.slice AF cfs.length cF) (.slice AM cms.length cM)
      have E2 : Below wo.heap.size wo (wo.alloc (.cells #[.string ca, .string cb, .slice AF cfs.length cF, .slice AM cms.length cM] 40)) := (Below.refl _ _).alloc (Nat.le_refl _) _
      clear k0 k1 k2 k3 bx
      generalize wo.alloc (.cells #[.string ca, .string cb, .slice AF cfs.length cF, .slice AM cms.length cM] 40) = X1 at *
      -- the fields
      obtain ⟨uP, hP⟩ : ∃ u, Value.slice AF cfs.length cF = u := ⟨_, rfl⟩
      obtain ⟨uQ, hQ⟩ : ∃ u, Value.slice AM cms.length cM = u := ⟨_, rfl⟩
      have HPE := hid hP.symm
      have HQE := hid hQ.symm
      have RK3 := hid (fun (X : World) (hb : Below w.heap.size w X) => show X.cell? ⟨bk, offk + i * 4 + 2, none⟩ = some uP ∧ X.cell? ⟨bk, offk + i * 4 + 3, none⟩ = some uQ from by rw [HPE.out, HQE.out]; exact (RK2.out X hb).2.2)
      rw [hP, hQ] at bT
      clear hP hQ
      have E3 := E2.alloc E2.size (.cells #[] 51)
      obtain ⟨k2, k3⟩ := RK3.out _ (E1.trans (E3.mono hlo))
      have bT1 := bT.alloc (.cells #[] 51)
      have OW := hid (ownsRow_leC (own_empty X1 51 8) E2.size)
      have RDF := hid (RM.out.1.below (E1.trans (E3.mono hlo)) hB0)
      have hwd : wo.heap.size ≤ (X1.alloc (.cells #[] 51)).heap.size := E3.size
      have hBd : B ≤ (X1.alloc (.cells #[] 51)).heap.size := Nat.le_trans hB0 (Nat.le_trans hlo hwd)
      have hne1 : some wo.heap.size ≠ (Value.slice (some ⟨X1.heap.size, 0, none⟩) 0 0).ownBlock := by
        intro e
        have e2 : wo.heap.size = X1.heap.size := Option.some.inj e
        have := bT.lt
        omega
      have bT10 := bT1.cell 0; have bT11 := bT1.cell 1; have bT12 := bT1.cell 2; have bT13 := bT1.cell 3; have bT1l := bT1.lt; have bT1f := fun i => bT1.frozen i
      go_upto_region 7 with (at_builtin; go_must (refine wpList_append_rd _ rfl (.tmp 18) (.tmp 23) _ rfl wo.heap.size _ _ _ 104 Tryz.underlying37 infoFieldL rfl (by omega) (.slice (some ⟨X1.heap.size, 0, none⟩) 0 0) 0 _ rfl OW.out B AF cfs.length cF (fvF cfs) HPE.out RDF.out (fvF_one cfs) (by unfold maxLen; omega) (by omega) hwd ?_); intro v7 w7 own7 hg7 hat7; rw [Nat.zero_add, List.nil_append] at own7; obtain ⟨A7, c7, rfl⟩ := own_form own7; have OWN7 := hid own7; have HG7 := hid hg7; have HAT7 := hid hat7; have bT7 := (hg7.block _ bT1.lt hne1).trans bT1; have bT7_ : Blk w7 wo.heap.size 40 #[.string ca, .string cb, uP, uQ] := bT7; have bT7_0 := bT7_.cell 0; have bT7_1 := bT7_.cell 1; have bT7_2 := bT7_.cell 2; have bT7_3 := bT7_.cell 3; have bT7_l := bT7_.lt; have bT7_f := fun i => bT7_.frozen i; clear own7 hg7 hat7 bT7)
      have hA7 : ∀ g, (Value.slice A7 cfs.length c7).ownBlock = some g → wo.heap.size < g := fun g e => by
        have hb1 := bT.lt
        rcases HAT7.out with h9 | h9
        · rw [h9] at e
          have e2 : X1.heap.size = g := Option.some.inj e
          omega
        · rw [h9] at e
          have e2 : (X1.alloc (.cells #[] 51)).heap.size = g := Option.some.inj e
          simp at e2
          omega
      have bT8 : Blk (w7.setCell ⟨wo.heap.size, 2, none⟩ (.slice A7 cfs.length c7)) wo.heap.size 40 #[.string ca, .string cb, .slice A7 cfs.length c7, uQ] := by simpa using Blk.set_ bT7_ 2 (.slice A7 cfs.length c7)
      have r8 : RoF (w7.setCell ⟨wo.heap.size, 2, none⟩ (.slice A7 cfs.length c7)) wo.heap.size (.slice A7 cfs.length c7) cfs := own_setCell OWN7.out (fun e => Nat.lt_irrefl _ (hA7 _ e)) _
      have E4 : Below wo.heap.size wo (w7.setCell ⟨wo.heap.size, 2, none⟩ (.slice A7 cfs.length c7)) := (E3.grown HG7.out E3.size fun k e => by have e2 : X1.heap.size = k := Option.some.inj e; have := bT.lt; omega).setCell (Nat.le_refl _) _
      clear E3 k2 k3 bT1 OW RDF hwd hBd hne1 bT10 bT11 bT12 bT13 bT1l bT1f bT7_0 bT7_1 bT7_2 bT7_3 bT7_l bT7_f bT7_ OWN7 HG7 HAT7 E2 bT
      generalize w7.setCell ⟨wo.heap.size, 2, none⟩ (.slice A7 cfs.length c7) = X2 at *
      go_wp2_with fail
      go_loopw [6] (fun iv wr => ∃ k : Nat, k ≤ cfs.length ∧ iv = .int .i64 k ∧ Below wo.heap.size wo wr ∧ Blk wr wo.heap.size 40 #[.string ca, .string cb, .slice A7 cfs.length c7, uQ] ∧ RoF wr wo.heap.size (.slice A7 cfs.length c7) cfs) (fun iv _ => cfs.length - (intOf iv).toNat)
      case atStart => exact ⟨0, Nat.zero_le _, rfl, E4, bT8, r8⟩
      case round =>
        clear E4 bT8 r8
        obtain ⟨k, hk, rfl, E2, b2, r2⟩ := hrel
        obtain ⟨wi, rfl⟩ : ∃ X : World, X = wr := ⟨_, rfl⟩
        have b20 := b2.cell 0; have b21 := b2.cell 1; have b22 := b2.cell 2; have b23 := b2.cell 3; have b2l := b2.lt; have b2f := fun i => b2.frozen i
        by_cases hlt3 : k < cfs.length
        · obtain ⟨f, hf⟩ : ∃ f, cfs[k]? = some f := ⟨_, List.getElem?_eq_getElem hlt3⟩
          obtain ⟨g, c', eg⟩ := r2.some (by omega)
          cases eg
          have HF := hid hf
          have hpl := PL.out f (List.mem_of_getElem? hf)
          have rc := hid (fun (j : Nat) (v : Value) (hj : j < 8) (hv : (FField.vs f)[j]? = some v) => show (fvF cfs)[k * 8 + j]? = some v from by rw [flat_get FField.vlen cfs k f hf j hj]; exact hv)
          have hgt : wo.heap.size ≠ g := Nat.ne_of_lt (hA7 g rfl)
          have hgl : wo.heap.size ≤ g := Nat.le_of_lt (hA7 g rfl)
          obtain ⟨f0, f1, f2, ⟨f3, f4, f5, f6, f7⟩⟩ := f
          obtain rfl : f7 = [] := hpl.2.2.2
          have hlt4 : (k : Int) < (cfs.length : Int) := by omega
          have hk0 : (0 : Int) ≤ (k : Int) := by omega
          clear hf hpl
          go_upto_region 10 with fail
          refine lateStart (S := (fun w_ => (Below wo.heap.size wo w_ ∧ Blk w_ wo.heap.size 40 #[.string ca, .string cb, .slice (some ⟨g, 0, none⟩) cfs.length c7, uQ] ∧ RoF w_ wo.heap.size (.slice (some ⟨g, 0, none⟩) cfs.length c7) cfs))) [12] (by kernel_rfl) ?_ (fun hHeld => ?_)
          · (try dsimp only)
            (exact ⟨below_drL E2, b2.drew, own_below r2 (below_drL (Below.refl _ _)) (Nat.le_refl _)⟩)
          generalize wi.drew = wd at *
          (refine lgT (i := 0) (v := ?_) (by kernel_rfl) rfl (fun _ _ _ h => h) (by rfl) ?_ hHeld ?_; rotate_left; (focus (intro w_ hSw; (try dsimp only at hSw); go_simp; (try with_reducible rfl); done)); try simp only [aS])
          refine lateTake (i := 1) (v := ?_) rfl (by kernel_rfl) (by decide) (by kernel_rfl) (by kernel_rfl) (by kernel_rfl) (by kernel_rfl) (fun _ _ _ h => h) (by rfl) ?_ hHeld ?_
          rotate_left
          · intro w_ hSw
            (try dsimp only at hSw)
            have y := hSw.2.1.cell 2
            go_simp
            (try with_reducible rfl)
          try simp only [aS]
          (refine lgT (i := 2) (v := ?_) (by kernel_rfl) rfl (fun _ _ _ h => h) (by rfl) ?_ hHeld ?_; rotate_left; (focus (intro w_ hSw; (try dsimp only at hSw); go_simp; (try with_reducible rfl); done)); try simp only [aS])
          (refine lgT (i := 3) (v := ?_) (by kernel_rfl) rfl (fun _ _ _ h => h) (by rfl) ?_ hHeld ?_; rotate_left; (focus (intro w_ hSw; (try dsimp only at hSw); go_simp; (try with_reducible rfl); done)); try simp only [aS])
          refine lateTake (i := 4) (v := ?_) rfl (by kernel_rfl) (by decide) (by kernel_rfl) (by kernel_rfl) (by kernel_rfl) (by kernel_rfl) (fun _ _ _ h => h) (by rfl) ?_ hHeld ?_
          rotate_left
          · intro w_ hSw
            (try dsimp only at hSw)
            have y := hSw.2.1.cell 2
            go_simp
            (try with_reducible rfl)
          try simp only [aS]
          (refine lgT (i := 5) (v := ?_) (by kernel_rfl) rfl (fun _ _ _ h => h) (by rfl) ?_ hHeld ?_; rotate_left; (focus (intro w_ hSw; (try dsimp only at hSw); go_simp; (try with_reducible rfl); done)); try simp only [aS])
          (refine lgT (i := 6) (v := ?_) (by kernel_rfl) rfl (fun _ _ _ h => h) (by rfl) ?_ hHeld ?_; rotate_left; (focus (intro w_ hSw; (try dsimp only at hSw); go_simp; (try with_reducible rfl); done)); try simp only [aS])
          (refine lgT (i := 7) (v := ?_) (by kernel_rfl) rfl (fun _ _ _ h => h) (by rfl) ?_ hHeld ?_; rotate_left; (focus (intro w_ hSw; (try dsimp only at hSw); go_simp; (try with_reducible rfl); done)); try simp only [aS])
          refine lateTake (i := 8) (v := ?_) rfl (by kernel_rfl) (by decide) (by kernel_rfl) (by kernel_rfl) (by kernel_rfl) (by kernel_rfl) (fun _ _ _ h => h) (by rfl) ?_ hHeld ?_
          rotate_left
          · intro w_ hSw
            (try dsimp only at hSw)
            have y0 : w_.cell? ⟨g, k * 8 + 3, none⟩ = some (.int .i64 f3) := Ro.cell FField.vlen hSw.2.2 HF.out (j := 3) rfl; have y1 : w_.cell? ⟨g, k * 8 + 3 + 1, none⟩ = some (.int .i64 f4) := Ro.cell FField.vlen hSw.2.2 HF.out (j := 4) rfl; have y2 : w_.cell? ⟨g, k * 8 + 3 + 2, none⟩ = some (.string f5) := Ro.cell FField.vlen hSw.2.2 HF.out (j := 5) rfl; have y3 : w_.cell? ⟨g, k * 8 + 3 + 3, none⟩ = some (.int .i64 f6) := Ro.cell FField.vlen hSw.2.2 HF.out (j := 6) rfl; have y4 : w_.cell? ⟨g, k * 8 + 3 + 4, none⟩ = some (.slice none 0 0) := Ro.cell FField.vlen hSw.2.2 HF.out (j := 7) rfl
            go_simp
            (try with_reducible rfl)
          try simp only [aS]
          refine lateOne (i := 9) (by kernel_rfl) ?_
          refine lateOp (i := 9) rfl (by rfl) (fun K hK => ?_)
          go_simp
          (go_at_call 51; refine (copyS_flat _ _ _ _ _).mono ?_; rintro e w4 ⟨rfl, hb⟩; have hS_ : (Below wo.heap.size wo w4 ∧ Blk w4 wo.heap.size 40 #[.string ca, .string cb, .slice (some ⟨g, 0, none⟩) cfs.length c7, uQ] ∧ RoF w4 wo.heap.size (.slice (some ⟨g, 0, none⟩) cfs.length c7) cfs) := ⟨hHeld.1.trans (hb.mono hHeld.1.size), hHeld.2.1.below hb (Nat.le_refl _), own_below hHeld.2.2 hb (Nat.le_refl _)⟩; clear hb)
          clear hHeld
          refine hK.out _ _ hS_ (fun hHeld => ?_)
          clear hK K hS_
          try simp only [aS]
          (refine lgW (i := 10) (v := ?_) (by kernel_rfl) rfl (fun _ _ _ h => h) (by rfl) ?_ hHeld ?_; rotate_left; (focus (intro w_; go_simp; (try with_reducible rfl); done)); try simp only [aS])
          (refine lgT (i := 11) (v := ?_) (by kernel_rfl) rfl (fun _ _ _ h => h) (by rfl) ?_ hHeld ?_; rotate_left; (focus (intro w_ hSw; (try dsimp only at hSw); go_simp; (try with_reducible rfl); done)); try simp only [aS])
          refine lateOne (i := 12) (by kernel_rfl) ?_
          refine lateLast (i := 12) rfl (by kernel_rfl) (by rfl) (fun K hK => ?_)
          have o_f := fun j => Ro.frozen hHeld.2.2 j; have o_l := (World.ownsRow.lt hHeld.2.2 g rfl).2; have o0 : w4.cell? ⟨g, k * 8 + 3, none⟩ = some (.int .i64 f3) := Ro.cell FField.vlen hHeld.2.2 HF.out (j := 3) rfl; have o1 : w4.cell? ⟨g, k * 8 + 3 + 1, none⟩ = some (.int .i64 f4) := Ro.cell FField.vlen hHeld.2.2 HF.out (j := 4) rfl; have o2 : w4.cell? ⟨g, k * 8 + 3 + 2, none⟩ = some (.string f5) := Ro.cell FField.vlen hHeld.2.2 HF.out (j := 5) rfl; have o3 : w4.cell? ⟨g, k * 8 + 3 + 3, none⟩ = some (.int .i64 f6) := Ro.cell FField.vlen hHeld.2.2 HF.out (j := 6) rfl; have o4 : w4.cell? ⟨g, k * 8 + 3 + 4, none⟩ = some (.slice none 0 0) := Ro.cell FField.vlen hHeld.2.2 HF.out (j := 7) rfl
          go_simp
          refine hK.out _ _ ?_
          clear hK K
          try simp only [aS]
          refine lateDone (by kernel_rfl) ?_ _
          have R9 := hid (own_same (own_same (own_same (own_same (own_same hHeld.2.2 (rc.out 3 _ (by omega) rfl)) (rc.out 4 _ (by omega) rfl)) (rc.out 5 _ (by omega) rfl)) (rc.out 6 _ (by omega) rfl)) (rc.out 7 _ (by omega) rfl))
          have B9 := hid (((((hHeld.2.1.far (p := ⟨g, k * 8 + 3, none⟩) hgt (.int .i64 f3)).far (p := ⟨g, k * 8 + 3 + 1, none⟩) hgt (.int .i64 f4)).far (p := ⟨g, k * 8 + 3 + 2, none⟩) hgt (.string f5)).far (p := ⟨g, k * 8 + 3 + 3, none⟩) hgt (.int .i64 f6)).far (p := ⟨g, k * 8 + 3 + 4, none⟩) hgt (.slice none 0 0))
          have E9 := hid (((((hHeld.1.setCell (p := ⟨g, k * 8 + 3, none⟩) hgl (.int .i64 f3)).setCell (p := ⟨g, k * 8 + 3 + 1, none⟩) hgl (.int .i64 f4)).setCell (p := ⟨g, k * 8 + 3 + 2, none⟩) hgl (.string f5)).setCell (p := ⟨g, k * 8 + 3 + 3, none⟩) hgl (.int .i64 f6)).setCell (p := ⟨g, k * 8 + 3 + 4, none⟩) hgl (.slice none 0 0))
          go_wp2_with fail
          go_roundw
          case rel => exact ⟨k + 1, by omega, by go_num, E9.out, B9.out, R9.out⟩
          case measure => simp [intOf]; omega
        · obtain rfl : k = cfs.length := by omega
          have E3 := E2.alloc E2.size (.cells #[] 44)
          obtain ⟨k2, k3⟩ := RK3.out _ (E1.trans (E3.mono hlo))
          have bT1 := b2.alloc (.cells #[] 44)
          have OW := hid (ownsRow_leC (own_empty wi 44 5) E2.size)
          have RDF := hid (RM.out.2.below (E1.trans (E3.mono hlo)) hB0)
          have hwd : wo.heap.size ≤ (wi.alloc (.cells #[] 44)).heap.size := E3.size
          have hBd : B ≤ (wi.alloc (.cells #[] 44)).heap.size := Nat.le_trans hB0 (Nat.le_trans hlo hwd)
          have hne1 : some wo.heap.size ≠ (Value.slice (some ⟨wi.heap.size, 0, none⟩) 0 0).ownBlock := by
            intro e
            have e2 : wo.heap.size = wi.heap.size := Option.some.inj e
            omega
          have r3 := hid (World.ownsRow.alloc r2 (.cells #[] 44))
          have hA7l : ∀ g, (Value.slice A7 cfs.length c7).ownBlock = some g → g < wi.heap.size := fun g e => (World.ownsRow.lt r2 g e).2
          have bT10 := bT1.cell 0; have bT11 := bT1.cell 1; have bT12 := bT1.cell 2; have bT13 := bT1.cell 3; have bT1l := bT1.lt; have bT1f := fun i => bT1.frozen i
          go_upto_region 12 with (at_builtin; go_must (refine wpList_append_rd _ rfl (.tmp 45) (.tmp 50) _ rfl wo.heap.size _ _ _ 56 Tryz.underlying38 infoMethodL rfl (by omega) (.slice (some ⟨wi.heap.size, 0, none⟩) 0 0) 0 _ rfl OW.out B AM cms.length cM (fvM cms) HQE.out RDF.out (fvM_one cms) (by unfold maxLen; omega) (by omega) hwd ?_); intro v8 w8 own7 hg7 hat7; rw [Nat.zero_add, List.nil_append] at own7; obtain ⟨A8, c8, rfl⟩ := own_form own7; have OWN7 := hid own7; have HG7 := hid hg7; have HAT7 := hid hat7; have bT7 := (hg7.block _ bT1.lt hne1).trans bT1; have bT7_ : Blk w8 wo.heap.size 40 #[.string ca, .string cb, .slice A7 cfs.length c7, uQ] := bT7; have bT7_0 := bT7_.cell 0; have bT7_1 := bT7_.cell 1; have bT7_2 := bT7_.cell 2; have bT7_3 := bT7_.cell 3; have bT7_l := bT7_.lt; have bT7_f := fun i => bT7_.frozen i; clear own7 hg7 hat7 bT7)
          have hA8 : ∀ g, (Value.slice A8 cms.length c8).ownBlock = some g → wi.heap.size ≤ g := fun g e => by
            rcases HAT7.out with h9 | h9
            · rw [h9] at e
              have e2 : wi.heap.size = g := Option.some.inj e
              omega
            · rw [h9] at e
              have e2 : (wi.alloc (.cells #[] 44)).heap.size = g := Option.some.inj e
              simp at e2
              omega
          have bT8 : Blk (w8.setCell ⟨wo.heap.size, 3, none⟩ (.slice A8 cms.length c8)) wo.heap.size 40 #[.string ca, .string cb, .slice A7 cfs.length c7, .slice A8 cms.length c8] := by simpa using Blk.set_ bT7_ 3 (.slice A8 cms.length c8)
          have r9 : RoM (w8.setCell ⟨wo.heap.size, 3, none⟩ (.slice A8 cms.length c8)) wo.heap.size (.slice A8 cms.length c8) cms := own_setCell OWN7.out (fun e => Nat.lt_irrefl _ (Nat.lt_of_lt_of_le b2.lt (hA8 _ e))) _
          have r8 : RoF (w8.setCell ⟨wo.heap.size, 3, none⟩ (.slice A8 cms.length c8)) wo.heap.size (.slice A7 cfs.length c7) cfs := own_setCell (own_grown r3.out HG7.out fun g e e2 => by
            have h8 := hA7l g e
            have e3 : wi.heap.size = g := Option.some.inj e2
            omega) (fun e => Nat.lt_irrefl _ (hA7 _ e)) _
          have E4 : Below wo.heap.size wo (w8.setCell ⟨wo.heap.size, 3, none⟩ (.slice A8 cms.length c8)) := (E3.grown HG7.out E3.size fun k e => by have e2 : wi.heap.size = k := Option.some.inj e; omega).setCell (Nat.le_refl _) _
          clear E3 k2 k3 bT1 OW RDF hwd hBd hne1 bT10 bT11 bT12 bT13 bT1l bT1f bT7_0 bT7_1 bT7_2 bT7_3 bT7_l bT7_f bT7_ OWN7 HG7 HAT7 E2 b2 r2 r3 b20 b21 b22 b23 b2l b2f
          generalize w8.setCell ⟨wo.heap.size, 3, none⟩ (.slice A8 cms.length c8) = W6 at *
          have hdd : ∀ g, (Value.slice A7 cfs.length c7).ownBlock = some g → (Value.slice A8 cms.length c8).ownBlock ≠ some g := fun g e e2 => by
            have := hA7l g e
            have := hA8 g e2
            omega
          have E5 : Below wo.heap.size wo (W6.alloc (.cells #[.string ca, .string cb, .slice A7 cfs.length c7, .slice A8 cms.length c8] 40)) := E4.alloc E4.size _
          have OW := hid (own_below HT1.out.a.row E5 (Nat.le_refl _))
          have RFz := hid (World.ownsRow.alloc r8 (.cells #[.string ca, .string cb, .slice A7 cfs.length c7, .slice A8 cms.length c8] 40))
          have RMz := hid (World.ownsRow.alloc r9 (.cells #[.string ca, .string cb, .slice A7 cfs.length c7, .slice A8 cms.length c8] 40))
          have RN := hid (rd_new W6 40 4 [.string ca, .string cb, .slice A7 cfs.length c7, .slice A8 cms.length c8] rfl)
          have ON := hid (show ∀ u ∈ ([.string ca, .string cb, .slice A7 cfs.length c7, .slice A8 cms.length c8] : List Value), u.oneCell' = true from by intro u hu; simp only [List.mem_cons, List.not_mem_nil, or_false] at hu; rcases hu with rfl | rfl | rfl | rfl <;> rfl)
          have hw6 : w.heap.size ≤ (W6.alloc (.cells #[.string ca, .string cb, .slice A7 cfs.length c7, .slice A8 cms.length c8] 40)).heap.size := Nat.le_trans hlo E5.size
          have bT80 := bT8.cell 0; have bT81 := bT8.cell 1; have bT82 := bT8.cell 2; have bT83 := bT8.cell 3; have bT8l := bT8.lt; have bT8f := fun i => bT8.frozen i
          have HH := hid (And.intro E5 (And.intro hdd hlo))
          go_wp2_with (at_builtin; go_must (refine wpList_append_rd _ rfl (.tmp 53) (.tmp 55) _ rfl w.heap.size _ _ _ 80 Tryz.underlying24 infoClassL rfl (by omega) (.slice Ao K'.length co) K'.length _ rfl OW.out (W6.heap.size + 1) _ 1 1 [.string ca, .string cb, .slice A7 cfs.length c7, .slice A8 cms.length c8] rfl RN.out ON.out (by unfold maxLen; omega) (by omega) hw6 ?_); intro v7 w7 own7 hg7 hat7; have hS := hid (CpK.next (c := ⟨ca, cb, cfs, cms⟩) HT1.out HE1.out HH.out.1 HH.out.2.2 RFz.out RMz.out HH.out.2.1 own7 hg7 hat7 HPI.out rfl); have E7 := hid ((E1.trans (HH.out.1.mono HH.out.2.2)).grown hg7 hw6 fun k e => (World.ownsRow.lt HT1.out.a.row k e).1); clear own7 hg7 hat7)
          go_roundw
          case rel => exact ⟨i + 1, by omega, by go_num, hS.out, E7.out⟩
          case measure => simp [intOf]; omega
    · obtain rfl : i = K.length := by omega
      obtain ⟨K', Ao, co, eo, T1, e1⟩ := C1
      subst eo
      rw [List.take_length] at e1
      have eL : K'.length = K.length := by
        have h9 : (K'.map Prod.fst).length = (K.map Prod.fst).length := by rw [e1]
        rwa [List.length_map, List.length_map] at h9
      have PLK : ∀ p, p ∈ K' → PlC p.1 := fun p hp => by
        have h8 : p.1 ∈ K.map Prod.fst := by rw [← e1]; exact List.mem_map.2 ⟨p, hp, rfl⟩
        obtain ⟨q, hq, e9⟩ := List.mem_map.1 h8
        rw [← e9]
        exact (HP.out q hq).1
      have OWI := hid (Two.ownI T1 PLK)
      rw [e1, eL] at OWI
      rw [eL]
      have E1h := hid E1
      clear T1 e1 PLK E1
      go_wp2_with fail
      go_ret
      exact ⟨Ao, co, rfl, OWI.out, E1h.out⟩
end Go.Proofs.YtimiieckkdogeaaGreat
