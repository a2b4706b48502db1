/-
  Parts of the proof: RoA, RoI. Conditions: none.
-/
import Derived.Test.YtahgcojmpafefaaGreatQaf
import Derived.Test.YtahgcojmpafefaaGreatQab
set_option linter.unusedVariables false
set_option linter.unusedSimpArgs false
namespace Go.Proofs.YtahgcojmpafefaaGreat
open Go.ChangeShapes Go.WideShapes Go.ChangeAt Go.RowKit Go.Deep Go.Joins
set_option maxRecDepth 100000
/-! ### plain -/
def bVals (l : List FBinding) : List FValue := l.map (·.a1)
def oVals (l : List FObject) : List FValue := l.flatMap (fun o => bVals o.a2)
def aVals (l : List FArg) : List FValue := l.map (·.a1)
def cVals (l : List FCall) : List FValue := l.flatMap (fun o => aVals o.a8)
def eVals (l : List FEnd) : List FValue := l.map (·.a1)
def fVals (f : FFrame) : List FValue := f.a3 ++ (cVals f.a4 ++ eVals f.a6)
def gVals (l : List FGen) : List FValue := l.flatMap (fun g => g.a1 :: fVals g.a2)
def rVals (l : List FFrame) : List FValue := l.flatMap fVals
def mVals (m : FMachine) : List FValue := m.a4 ++ (oVals m.a7 ++ (gVals m.a9 ++ rVals m.a10))
theorem map_take1 {α β : Type} (f : α → β) (l : List α) (k : Nat) (x : α) (h : l[k]? = some x) : (l.take (k + 1)).map f = (l.take k).map f ++ [f x] := by
  rw [List.take_add_one, h]; simp
theorem flat_take1 {α β : Type} (f : α → List β) (l : List α) (k : Nat) (x : α) (h : l[k]? = some x) : (l.take (k + 1)).flatMap f = (l.take k).flatMap f ++ f x := by
  rw [List.take_add_one, h]; simp
theorem FValue.wts_app : ∀ (l r : List FValue), FValue.wts (l ++ r) = FValue.wts l + FValue.wts r
  | [], r => by simp [FValue.wts]
  | x :: l, r => by rw [List.cons_append, FValue.wts, FValue.wts, FValue.wts_app l r]; omega
/-- length and weight -/
def lw (l : List FValue) : Nat := l.length + FValue.wts l
theorem lw_app (l r : List FValue) : lw (l ++ r) = lw l + lw r := by unfold lw; rw [List.length_append, FValue.wts_app]; omega
theorem lw_nil : lw [] = 0 := by unfold lw; simp [FValue.wts]
theorem lw_cons (x : FValue) (l : List FValue) : lw (x :: l) = 1 + x.wt + lw l := by unfold lw; rw [FValue.wts, List.length_cons]; omega
theorem lw_b : ∀ l : List FBinding, lw (bVals l) ≤ l.length + FBinding.wts l
  | [] => by rw [show bVals [] = [] from rfl, lw_nil]; omega
  | ⟨a, x⟩ :: r => by
    have h := lw_b r
    have e : bVals (⟨a, x⟩ :: r) = x :: bVals r := rfl
    rw [e, lw_cons, FBinding.wts, List.length_cons]
    have : FBinding.wt ⟨a, x⟩ = a.size + x.wt := by cases x; simp [FBinding.wt]
    omega
theorem lw_a : ∀ l : List FArg, lw (aVals l) ≤ l.length + FArg.wts l
  | [] => by rw [show aVals [] = [] from rfl, lw_nil]; omega
  | ⟨a, x⟩ :: r => by
    have h := lw_a r
    have e : aVals (⟨a, x⟩ :: r) = x :: aVals r := rfl
    rw [e, lw_cons, FArg.wts, List.length_cons]
    have : FArg.wt ⟨a, x⟩ = x.wt := by cases x; simp [FArg.wt]
    omega
theorem lw_e : ∀ l : List FEnd, lw (eVals l) ≤ l.length + FEnd.wts l
  | [] => by rw [show eVals [] = [] from rfl, lw_nil]; omega
  | ⟨a, x, b, c, d⟩ :: r => by
    have h := lw_e r
    have e : eVals (⟨a, x, b, c, d⟩ :: r) = x :: eVals r := rfl
    rw [e, lw_cons, FEnd.wts, List.length_cons]
    have : FEnd.wt ⟨a, x, b, c, d⟩ = x.wt := by cases x; simp [FEnd.wt]
    omega
theorem lw_o : ∀ l : List FObject, lw (oVals l) ≤ l.length + FObject.wts l
  | [] => by rw [show oVals [] = [] from rfl, lw_nil]; omega
  | ⟨a, b, c⟩ :: r => by
    have h := lw_o r
    have h1 := lw_b c
    have e : oVals (⟨a, b, c⟩ :: r) = bVals c ++ oVals r := rfl
    rw [e, lw_app, FObject.wts, List.length_cons, FObject.wt_eq]
    omega
theorem lw_c : ∀ l : List FCall, lw (cVals l) ≤ l.length + FCall.wts l
  | [] => by rw [show cVals [] = [] from rfl, lw_nil]; omega
  | ⟨z0, z1, z2, z3, z4, z5, z6, z7, z8⟩ :: r => by
    have h := lw_c r
    have h1 := lw_a z8
    have e : cVals (⟨z0, z1, z2, z3, z4, z5, z6, z7, z8⟩ :: r) = aVals z8 ++ cVals r := rfl
    rw [e, lw_app, FCall.wts, List.length_cons, FCall.wt_eq]
    omega
theorem lw_f (f : FFrame) : lw (fVals f) ≤ f.wt := by
  obtain ⟨z0, z1, z2, z3, z4, z5, z6, z7, z8, z9, z10, z11, z12⟩ := f
  have h1 := lw_c z4
  have h2 := lw_e z6
  have e : fVals ⟨z0, z1, z2, z3, z4, z5, z6, z7, z8, z9, z10, z11, z12⟩ = z3 ++ (cVals z4 ++ eVals z6) := rfl
  rw [e, lw_app, lw_app, FFrame.wt_eq]
  unfold lw at *
  omega
theorem lw_g : ∀ l : List FGen, lw (gVals l) ≤ l.length + FGen.wts l
  | [] => by rw [show gVals [] = [] from rfl, lw_nil]; omega
  | ⟨a, x, f⟩ :: r => by
    have h := lw_g r
    have h1 := lw_f f
    have e : gVals (⟨a, x, f⟩ :: r) = (x :: fVals f) ++ gVals r := rfl
    rw [e, lw_app, lw_cons, FGen.wts, List.length_cons]
    have : FGen.wt ⟨a, x, f⟩ = x.wt + f.wt := by cases x; cases f; simp [FGen.wt]
    omega
theorem lw_r : ∀ l : List FFrame, lw (rVals l) ≤ l.length + FFrame.wts l
  | [] => by rw [show rVals [] = [] from rfl, lw_nil]; omega
  | f :: r => by
    have h := lw_r r
    have h1 := lw_f f
    have e : rVals (f :: r) = fVals f ++ rVals r := rfl
    rw [e, lw_app, FFrame.wts, List.length_cons]
    omega
theorem lw_m (m : FMachine) : lw (mVals m) ≤ m.wt := by
  obtain ⟨z0, z1, z2, z3, z4, z5, ⟨z6⟩, z7, z8, z9, z10, ⟨z11, z12, z13⟩⟩ := m
  have h1 := lw_o z7
  have h2 := lw_g z9
  have h3 := lw_r z10
  have e : mVals ⟨z0, z1, z2, z3, z4, z5, ⟨z6⟩, z7, z8, z9, z10, ⟨z11, z12, z13⟩⟩ = z4 ++ (oVals z7 ++ (gVals z9 ++ rVals z10)) := rfl
  rw [e, lw_app, lw_app, lw_app, FMachine.wt_eq]
  unfold lw at *
  omega
/-! ### rows of values -/
theorem val_one (x : FValue) : ∀ y, y ∈ FValue.c x → ∀ u, y = .v u → u.oneCell' = true := by
  obtain ⟨z0, z1, z2, z3, z4⟩ := x
  rw [FValue.c_eq]
  intro y hx u hu
  simp only [List.mem_cons, List.not_mem_nil, or_false] at hx
  rcases hx with rfl | rfl | rfl | rfl | rfl <;> (first | (injection hu with hu; subst hu; rfl) | cases hu)
theorem vals_one (l : List FValue) : ∀ y, y ∈ FValue.flat l → ∀ u, y = .v u → u.oneCell' = true := by
  intro y hy u hu
  obtain ⟨x, _, hx⟩ := List.mem_flatMap.1 hy
  exact val_one x y hx u hu
theorem infoValueR : (Tryz.prog.info? 82).map (fun i => (i.zero.map Value.cells, i.size, i.bytes)) = some (some #[.int .i64 0, .int .i64 0, .string ByteArray.empty, .int .i64 0, .slice none 0 0], 5, 64) := by kernel_rfl
abbrev VlO (lo : Nat) (X : World) (A : Option Addr) (c : Nat) (l : List FValue) : Prop := OwnI X lo X.heap.size [.s 82 5 l.length (FValue.flat l)] [.slice A l.length c]
/-- What an append of m to l wants of world Y, and what it leaves. -/
structure PreA (Y : World) (lo : Nat) (X : World) (A : Option Addr) (c : Nat) (l m : List FValue) (us us2 : List Value) : Prop where
  ho : Y.ownsRow lo 82 5 (.slice A l.length c) l.length us
  h1 : ∀ u ∈ us2, u.oneCell' = true
  le : lo ≤ Y.heap.size
  done : ∀ (v' : Value) (Z : World), Z.ownsRow lo 82 5 v' (l.length + m.length) (us ++ us2) → Y.grownBy Z (Value.slice A l.length c).ownBlock → (v'.ownBlock = (Value.slice A l.length c).ownBlock ∨ v'.ownBlock = some Y.heap.size) →
    ∃ A' c', v' = .slice A' (l ++ m).length c' ∧ VlO lo Z A' c' (l ++ m) ∧ (∀ B w0, Below B w0 Y → B ≤ lo → Below B w0 Z) ∧ (∀ b t cs, Blk Y b t cs → (b < lo ∨ X.heap.size ≤ b) → Blk Z b t cs)
theorem pre_core {Y X : World} {lo : Nat} {A : Option Addr} {c : Nat} {l m : List FValue} {us us2 : List Value} {G G2 : List Nat} (hlX : lo ≤ X.heap.size) (hXY : X.heap.size ≤ Y.heap.size)
    (ho : Y.ownsRow lo 82 5 (.slice A l.length c) l.length us) (hol : OwnL Y (FValue.flat l) G us) (hG : G.Nodup) (hGb : ∀ b, b ∈ G → lo ≤ b ∧ b < X.heap.size)
    (hGv : ∀ g, (Value.slice A l.length c).ownBlock = some g → g ∉ G ∧ lo ≤ g ∧ g < X.heap.size) (hol2 : OwnL Y (FValue.flat m) G2 us2) (hG2 : G2.Nodup) (hGb2 : ∀ b, b ∈ G2 → X.heap.size ≤ b) : PreA Y lo X A c l m us us2 := by
  refine ⟨ho, OwnL.onecell _ _ _ hol2 (vals_one m), by omega, fun v' Z hown hg hat => ?_⟩
  obtain ⟨A', c', rfl⟩ := own_form hown
  have hp := OwnI.pushed hown hg hat hol hol2 hG hG2 (fun b hb1 hb2 => by have := hGb b hb1; have := hGb2 b hb2; omega) (fun b hb1 => (hGb b hb1).1) (fun b hb1 => by have := hGb2 b hb1; omega) (fun g hg => ⟨(hGv g hg).1, fun h2 => by have := (hGv g hg).2; have := hGb2 g h2; omega⟩)
  have e : FValue.flat (l ++ m) = FValue.flat l ++ FValue.flat m := List.flatMap_append
  refine ⟨A', c', by rw [List.length_append], ?_, fun B w0 hb hB => Below.grownI hb hg (fun g hg' => by have := (hGv g hg').2.1; omega) (by omega), fun b t cs hb hd => hb.bgrown hg (fun e => by have := (hGv b e.symm).2; omega)⟩
  unfold VlO
  rw [e, List.length_append]
  exact hp
/-- One copy is appended: it lies in the newest block. -/
theorem VlO.one {lo : Nat} {X w2 : World} {A : Option Addr} {c : Nat} {l : List FValue} {x : FValue} {us2 : List Value} (h : VlO lo X A c l) (hl : lo ≤ X.heap.size) (hb : Below X.heap.size X w2) (own2 : OwnI w2 X.heap.size w2.heap.size x.c us2) :
    ∃ us, PreA (w2.alloc (.cells us2.toArray 82)) lo X A c l [x] us us2 := by
  obtain ⟨us, G, ho, hol, hG, hGb, hGv⟩ := (OwnI.below h hb (Nat.le_refl _)).row
  obtain ⟨G2, g1, g2, g3⟩ := own2
  have hs := hb.size
  refine ⟨us, pre_core hl (by simp; omega) (World.ownsRow.alloc ho _) (OwnL.keep _ _ _ hol fun g hg => Below.heap_alloc w2 _ g (OwnL.lt _ _ _ hol g hg)) hG hGb hGv ?_ g2 (fun b hb => (g3 b hb).1)⟩
  have e : FValue.flat [x] = x.c := by simp [FValue.flat]
  rw [e]
  exact OwnL.keep _ _ _ g1 fun g hg => Below.heap_alloc w2 _ g (OwnL.lt _ _ _ g1 g hg)
/-- A row of copies is appended. -/
theorem VlO.many {lo : Nat} {X w2 : World} {A D : Option Addr} {c d : Nat} {l m : List FValue} (h : VlO lo X A c l) (hl : lo ≤ X.heap.size) (hb : Below X.heap.size X w2) (own2 : VlO X.heap.size w2 D d m) :
    ∃ us us2, PreA w2 lo X A c l m us us2 ∧ Rd w2 w2.heap.size 5 (.slice D m.length d) m.length us2 := by
  obtain ⟨us, G, ho, hol, hG, hGb, hGv⟩ := (OwnI.below h hb (Nat.le_refl _)).row
  obtain ⟨us2, G2, ho2, hol2, hG2, hGb2, hGv2⟩ := OwnI.row own2
  exact ⟨us, us2, pre_core hl hb.size ho hol hG hGb hGv hol2 hG2 (fun b hb => (hGb2 b hb).1), rd_of_own ho2⟩
theorem vl_empty (w : World) (lo : Nat) (hlo : lo ≤ w.heap.size) : VlO lo (w.alloc (.cells #[] 82)) (some ⟨w.heap.size, 0, none⟩) 0 [] :=
  OwnI.mk (lo' := lo) (hi' := lo) (ownsRow_le (own_empty w 82 5) hlo) (OwnI.nil _ _ _) (fun g hg => by have e9 : w.heap.size = g := Option.some.inj hg; simp; omega) (Nat.le_refl _) (by simp; omega)
end Go.Proofs.YtahgcojmpafefaaGreat
namespace Go.Proofs.YtahgcojmpafefaaGreat
set_option maxHeartbeats 40000000
open Lib (hid)
open Go.ChangeShapes Go.WideShapes Go.ChangeAt Go.RowKit Go.Deep Go.Joins
open Go.ChangeMaps (open_string shut_string)
set_option maxRecDepth 100000

theorem cpVals_any (l : List FValue) (hw : lw l ≤ 1000000000) (hl : l.length ≤ 1048576) (u : Value) (w : World) (B : Nat) (hB0 : B ≤ w.heap.size) (hr : RdC w B (.s 82 5 l.length (FValue.flat l)) u) :
    Calls Tryz.prog 31 #[u] w fun e w' => ∃ A c, e = .returned (.slice A l.length c) ∧ VlO w.heap.size w' A c l ∧ Below w.heap.size w w' := by
  obtain ⟨A, c, rfl⟩ := hr.form
  have HC := hid hr
  have hn : l.length ≤ 9223372036854775807 := by omega
  have hwl : FValue.wts l ≤ 1000000000 := by unfold lw at hw; omega
  obtain ⟨lo, hlo⟩ : ∃ lo, lo = w.heap.size := ⟨_, rfl⟩
  have hlo1 : lo ≤ w.heap.size := by omega
  have hlo2 : w.heap.size ≤ lo := by omega
  have HLO := hid hlo
  clear hlo hr
  go_enter Tryz.func31, Tryz.ntmps31
  go_wp2_with fail
  go_loopw [3, 9] (fun v i wr => ∃ (k : Nat) (A' : Option Addr) (c' : Nat), k ≤ l.length ∧ i = .int .i64 k ∧ v = .slice A' (l.take k).length c' ∧ VlO lo wr A' c' (l.take k) ∧ Below w.heap.size w wr) (fun _ i _ => l.length - (intOf i).toNat)
  case atStart => exact ⟨0, _, 0, Nat.zero_le _, rfl, rfl, vl_empty w lo hlo1, (Below.refl _ _).alloc (Nat.le_refl _) _⟩
  case round =>
    obtain ⟨k, A', c', hk, rfl, rfl, hown, hb⟩ := hrel
    have HOWN := hid hown
    have hbs := hb.size
    clear hown
    by_cases hlty : k < l.length
    · skip
      obtain ⟨xy, hxy⟩ : ∃ x, l[k]? = some x := ⟨_, List.getElem?_eq_getElem hlty⟩
      obtain ⟨bcy, offy, rfl, hbly, hccy⟩ := RdC.at_ FValue.len HC.out hxy
      have HXy := hid hxy
      have HWy := hid (FValue.wts_at l xy (List.mem_of_getElem? hxy))
      clear hxy
      obtain ⟨y0, y1, y2, y3, y4⟩ := xy
      rw [FValue.c_eq] at hccy
      obtain ⟨u0, e0, q0⟩ := hccy 0 _ rfl
      obtain rfl := q0.val
      clear q0
      have yk0 : wr.cell? ⟨bcy, offy + k * 5, none⟩ = some (.int .i64 y0) := (hb.cell (p := ⟨bcy, _, none⟩) (by show bcy < w.heap.size; omega)).trans (by simpa using e0)
      clear e0
      obtain ⟨u1, e1, q1⟩ := hccy 1 _ rfl
      obtain rfl := q1.val
      clear q1
      have yk1 : wr.cell? ⟨bcy, offy + k * 5 + 1, none⟩ = some (.int .i64 y1) := (hb.cell (p := ⟨bcy, _, none⟩) (by show bcy < w.heap.size; omega)).trans (by simpa using e1)
      clear e1
      obtain ⟨u2, e2, q2⟩ := hccy 2 _ rfl
      obtain rfl := q2.val
      clear q2
      have yk2 : wr.cell? ⟨bcy, offy + k * 5 + 2, none⟩ = some (.string y2) := (hb.cell (p := ⟨bcy, _, none⟩) (by show bcy < w.heap.size; omega)).trans (by simpa using e2)
      clear e2
      obtain ⟨u3, e3, q3⟩ := hccy 3 _ rfl
      obtain rfl := q3.val
      clear q3
      have yk3 : wr.cell? ⟨bcy, offy + k * 5 + 3, none⟩ = some (.int .i64 y3) := (hb.cell (p := ⟨bcy, _, none⟩) (by show bcy < w.heap.size; omega)).trans (by simpa using e3)
      clear e3
      obtain ⟨u4, e4, q4⟩ := hccy 4 _ rfl
      obtain ⟨yA4, yc4, rfl⟩ := q4.form
      have yQ4 := hid q4
      clear q4
      have yk4 : wr.cell? ⟨bcy, offy + k * 5 + 4, none⟩ = some (.slice yA4 y4.length yc4) := (hb.cell (p := ⟨bcy, _, none⟩) (by show bcy < w.heap.size; omega)).trans (by simpa using e4)
      clear e4
      clear hccy
      have hkl : (k : Int) < (l.length : Int) := by omega
      have hyw : FValue.wt (.mk y0 y1 y2 y3 y4) ≤ 1000000000 := by have := HWy.out; omega
      have htl := List.length_take_le k l
      generalize hac : l.take k = ac at *
      have HAC := hid hac
      clear hac
      go_wp2_with fail
      refine calls_worldD _ (fun X => VlO lo X A' c' ac ∧ Blk X wr.heap.size 82 #[.int .i64 y0, .int .i64 y1, .string y2, .int .i64 y3, .slice yA4 y4.length yc4] ∧ Below w.heap.size w X ∧ lo ≤ X.heap.size ∧ wr.heap.size < X.heap.size) ⟨(OwnI.alloc HOWN.out _).wide (Nat.le_refl _) (by simp), Blk.new _ _ _, hb.alloc hb.size _, by simp; omega, by simp⟩ ?_
      clear HOWN hb 
      rintro X1 ⟨hown, nb, hb, hlX, hgX⟩
      refine (cpVal_any (.mk y0 y1 y2 y3 y4) (by omega) [.int .i64 y0, .int .i64 y1, .string y2, .int .i64 y3, .slice yA4 y4.length yc4] _ w.heap.size hb.size (by rw [FValue.c_eq]; exact (RdVs.cons (by unfold RdC; rfl) (RdVs.cons (by unfold RdC; rfl) (RdVs.cons (by unfold RdC; rfl) (RdVs.cons (by unfold RdC; rfl) (RdVs.cons ((yQ4.out.up hB0).below hb (Nat.le_refl _)) (RdVs.nil _ _)))))))).mono ?_
      rintro e w21 ⟨us2, rfl, own2, hb2⟩
      have hv := own2.vs
      rw [FValue.c_eq] at hv
      obtain ⟨us2_0, rfl, hv_0⟩ := hv.unv
      obtain ⟨us2_1, rfl, hv_1⟩ := hv_0.unv
      obtain ⟨us2_2, rfl, hv_2⟩ := hv_1.unv
      obtain ⟨us2_3, rfl, hv_3⟩ := hv_2.unv
      obtain ⟨D4, d4, us2_4, rfl, _, hv_4⟩ := hv_3.uns
      obtain rfl := hv_4.un0
      clear hv hv_0 hv_1 hv_2 hv_3 hv_4
      have hs2 : X1.heap.size ≤ w21.heap.size := hb2.size
      obtain ⟨us, PA⟩ := VlO.one hown hlX hb2 own2
      replace nb := nb.below hb2 (Nat.le_refl _)
      replace hb := hb.trans (hb2.mono hb.size)
      have HPA := hid PA
      clear PA own2 hown hb2
      go_wp2_with (at_builtin; go_must (refine wpList_append_rd _ rfl _ _ _ rfl lo _ _ _ 64 Tryz.underlying38 infoValueR rfl (by omega) (.slice A' ac.length c') ac.length us rfl HPA.out.ho (w21.heap.size + 1) _ 1 1 _ rfl (rd_new w21 82 5 [.int .i64 y0, .int .i64 y1, .string y2, .int .i64 y3, .slice D4 y4.length d4] rfl) HPA.out.h1 (by unfold maxLen; omega) (by omega) HPA.out.le ?_); intro v1 w1 hown1 hg1 hat1; obtain ⟨E1, e1, rfl, N1, HBK, HBL⟩ := HPA.out.done _ _ hown1 hg1 hat1; have hle9 := Nat.le_trans HPA.out.le (HBK lo _ (Below.refl _ _) (Nat.le_refl _)).size; clear hown1 hg1 hat1 HPA)
      replace hb := HBK _ _ (hb.alloc hb.size _) (by omega)
      have HOWN := hid N1
      clear HBK HBL N1
      go_roundw
      case rel =>
        have e : l.take (k + 1) = ac ++ [(.mk y0 y1 y2 y3 y4)] := by rw [List.take_add_one, HXy.out, HAC.out]; rfl
        exact ⟨k + 1, E1, e1, by omega, by go_num, by rw [e]; simp, by rw [e]; exact HOWN.out, hb⟩
      case measure => simp [intOf]; omega
    · obtain rfl : k = l.length := by omega
      clear hlty
      go_wp2_with fail
      go_ret
      have ho := HOWN.out
      rw [List.take_length] at ho ⊢
      rw [HLO.out] at ho
      exact ⟨_, _, rfl, ho, hb⟩
theorem frVals_any (x : FFrame) (hw : x.wt ≤ 1048576) (us : List Value) (w : World) (B : Nat) (hB0 : B ≤ w.heap.size) (hr : RdVs w B x.c us) :
    Calls Tryz.prog 33 #[.agg us.toArray] w fun e w' => ∃ A c, e = .returned (.slice A (fVals x).length c) ∧ VlO w.heap.size w' A c (fVals x) ∧ Below w.heap.size w w' := by
  have hlw := lw_f x
  obtain ⟨z0, z1, z2, z3, z4, z5, z6, z7, z8, z9, z10, z11, z12⟩ := x
  rw [FFrame.wt_eq] at hw
  rw [FFrame.c_eq] at hr
  obtain ⟨us0, rfl, hr_0⟩ := hr.unv
  obtain ⟨us1, rfl, hr_1⟩ := hr_0.unv
  obtain ⟨A2, c2, us2, rfl, r2, hr_2⟩ := hr_1.uns
  obtain ⟨A3, c3, us3, rfl, r3, hr_3⟩ := hr_2.uns
  obtain ⟨A4, c4, us4, rfl, r4, hr_4⟩ := hr_3.uns
  obtain ⟨A5, c5, us5, rfl, r5, hr_5⟩ := hr_4.uns
  obtain ⟨A6, c6, us6, rfl, r6, hr_6⟩ := hr_5.uns
  obtain ⟨us7, rfl, hr_7⟩ := hr_6.unv
  obtain ⟨us8, rfl, hr_8⟩ := hr_7.unv
  obtain ⟨us9, rfl, hr_9⟩ := hr_8.unv
  obtain ⟨us10, rfl, hr_10⟩ := hr_9.unv
  obtain ⟨us11, rfl, hr_11⟩ := hr_10.unv
  obtain ⟨us12, rfl, hr_12⟩ := hr_11.unv
  obtain rfl := hr_12.un0
  have zQ2 := hid r2
  clear r2
  have zQ3 := hid r3
  clear r3
  have zQ4 := hid r4
  clear r4
  have zQ5 := hid r5
  clear r5
  have zQ6 := hid r6
  clear r6
  clear hr hr_0 hr_1 hr_2 hr_3 hr_4 hr_5 hr_6 hr_7 hr_8 hr_9 hr_10 hr_11 hr_12
  have HF := hid (show fVals ⟨z0, z1, z2, z3, z4, z5, z6, z7, z8, z9, z10, z11, z12⟩ = z3 ++ (cVals z4 ++ eVals z6) from rfl)
  rw [HF.out]
  clear hlw
  go_enter Tryz.func33, Tryz.ntmps33
  go_wp2_with fail
  refine calls_worldD _ (fun X => Blk X w.heap.size 91 #[.int .i64 z0, .int .i64 z1, .slice A2 z2.length c2, .slice A3 z3.length c3, .slice A4 z4.length c4, .slice A5 z5.length c5, .slice A6 z6.length c6, .int .i64 z7, .string z8, .string z9, .int .i64 z10, .int .i64 z11, .int .i64 z12] ∧ Below w.heap.size w X ∧ w.heap.size < X.heap.size) ⟨Blk.new _ _ _, (Below.refl _ _).alloc (Nat.le_refl _) _, by simp⟩ ?_
  rintro X0 ⟨kb, hb, hs0⟩
  refine (cpVals_any z3 (by unfold lw; omega) (by omega) _ X0 w.heap.size (by omega) ((zQ3.out.up hB0).below hb (Nat.le_refl _))).mono ?_
  rintro e Y0 ⟨E0, e0, rfl, own, hb2⟩
  have hs1 := hb2.size
  replace kb := kb.below hb2 (Nat.le_refl _)
  replace hb := hb.trans (hb2.mono hb.size)
  obtain ⟨lo, hlo⟩ : ∃ lo, lo = X0.heap.size := ⟨_, rfl⟩
  rw [← hlo] at own
  have hlo1 : w.heap.size < lo := by omega
  have hlo2 : w.heap.size ≤ lo := by omega
  have hlo3 : lo ≤ Y0.heap.size := by omega
  clear hlo hb2 hs0
  have kz4 : Y0.cell? ⟨w.heap.size, 4, none⟩ = some (.slice A4 z4.length c4) := kb.cell 4
  go_wp2_with fail
  clear kz4
  go_loopw [3, 16] (fun v i wr => ∃ (k : Nat) (A' : Option Addr) (c' : Nat), k ≤ z4.length ∧ i = .int .i64 k ∧ v = .slice A' (z3 ++ cVals (z4.take k)).length c' ∧ VlO lo wr A' c' (z3 ++ cVals (z4.take k)) ∧ Blk wr w.heap.size 91 #[.int .i64 z0, .int .i64 z1, .slice A2 z2.length c2, .slice A3 z3.length c3, .slice A4 z4.length c4, .slice A5 z5.length c5, .slice A6 z6.length c6, .int .i64 z7, .string z8, .string z9, .int .i64 z10, .int .i64 z11, .int .i64 z12] ∧ Below w.heap.size w wr ∧ lo ≤ wr.heap.size) (fun _ i _ => z4.length - (intOf i).toNat)
  case atStart => exact ⟨0, E0, e0, Nat.zero_le _, rfl, by rw [show (z3 ++ cVals (z4.take 0)) = z3 from by simp [cVals]], by rw [show (z3 ++ cVals (z4.take 0)) = z3 from by simp [cVals]]; exact own, kb, hb, hlo3⟩
  case round =>
    obtain ⟨k, A', c', hk, rfl, rfl, hown, kb, hb, hlo3⟩ := hrel
    have HOWN := hid hown
    have hbs := hb.size
    have hlw1 := (OwnI.below hown (Below.refl _ _) (Nat.le_refl _))
    clear hown hlw1
    clear own
    have hLt := lw_c (z4.take k)
    have hWt := FCall.wts_le z4 k
    have hTl := List.length_take_le k z4
    have hal : (z3 ++ cVals (z4.take k)).length ≤ 2097152 := by rw [List.length_append]; unfold lw at hLt; omega
    by_cases hltx : k < z4.length
    · skip
      obtain ⟨xx, hxx⟩ : ∃ x, z4[k]? = some x := ⟨_, List.getElem?_eq_getElem hltx⟩
      obtain ⟨bcx, offx, rfl, hblx, hccx⟩ := RdC.at_ FCall.len zQ4.out hxx
      have HXx := hid hxx
      have HWx := hid (FCall.wts_at z4 xx (List.mem_of_getElem? hxx))
      clear hxx
      obtain ⟨x0, x1, x2, x3, x4, x5, x6, x7, x8⟩ := xx
      rw [FCall.c_eq] at hccx
      obtain ⟨u0, e0, q0⟩ := hccx 0 _ rfl
      obtain rfl := q0.val
      clear q0
      have xk0 : wr.cell? ⟨bcx, offx + k * 9, none⟩ = some (.int .i64 x0) := (hb.cell (p := ⟨bcx, _, none⟩) (by show bcx < w.heap.size; omega)).trans (by simpa using e0)
      clear e0
      obtain ⟨u1, e1, q1⟩ := hccx 1 _ rfl
      obtain rfl := q1.val
      clear q1
      have xk1 : wr.cell? ⟨bcx, offx + k * 9 + 1, none⟩ = some (.string x1) := (hb.cell (p := ⟨bcx, _, none⟩) (by show bcx < w.heap.size; omega)).trans (by simpa using e1)
      clear e1
      obtain ⟨u2, e2, q2⟩ := hccx 2 _ rfl
      obtain rfl := q2.val
      clear q2
      have xk2 : wr.cell? ⟨bcx, offx + k * 9 + 2, none⟩ = some (.bool x2) := (hb.cell (p := ⟨bcx, _, none⟩) (by show bcx < w.heap.size; omega)).trans (by simpa using e2)
      clear e2
      obtain ⟨u3, e3, q3⟩ := hccx 3 _ rfl
      obtain rfl := q3.val
      clear q3
      have xk3 : wr.cell? ⟨bcx, offx + k * 9 + 3, none⟩ = some (.int .i64 x3) := (hb.cell (p := ⟨bcx, _, none⟩) (by show bcx < w.heap.size; omega)).trans (by simpa using e3)
      clear e3
      obtain ⟨u4, e4, q4⟩ := hccx 4 _ rfl
      obtain rfl := q4.val
      clear q4
      have xk4 : wr.cell? ⟨bcx, offx + k * 9 + 4, none⟩ = some (.int .i64 x4) := (hb.cell (p := ⟨bcx, _, none⟩) (by show bcx < w.heap.size; omega)).trans (by simpa using e4)
      clear e4
      obtain ⟨u5, e5, q5⟩ := hccx 5 _ rfl
      obtain rfl := q5.val
      clear q5
      have xk5 : wr.cell? ⟨bcx, offx + k * 9 + 5, none⟩ = some (.string x5) := (hb.cell (p := ⟨bcx, _, none⟩) (by show bcx < w.heap.size; omega)).trans (by simpa using e5)
      clear e5
      obtain ⟨u6, e6, q6⟩ := hccx 6 _ rfl
      obtain rfl := q6.val
      clear q6
      have xk6 : wr.cell? ⟨bcx, offx + k * 9 + 6, none⟩ = some (.string x6) := (hb.cell (p := ⟨bcx, _, none⟩) (by show bcx < w.heap.size; omega)).trans (by simpa using e6)
      clear e6
      obtain ⟨u7, e7, q7⟩ := hccx 7 _ rfl
      obtain ⟨xA7, xc7, rfl⟩ := q7.form
      have xQ7 := hid q7
      clear q7
      have xk7 : wr.cell? ⟨bcx, offx + k * 9 + 7, none⟩ = some (.slice xA7 x7.length xc7) := (hb.cell (p := ⟨bcx, _, none⟩) (by show bcx < w.heap.size; omega)).trans (by simpa using e7)
      clear e7
      obtain ⟨u8, e8, q8⟩ := hccx 8 _ rfl
      obtain ⟨xA8, xc8, rfl⟩ := q8.form
      have xQ8 := hid q8
      clear q8
      have xk8 : wr.cell? ⟨bcx, offx + k * 9 + 8, none⟩ = some (.slice xA8 x8.length xc8) := (hb.cell (p := ⟨bcx, _, none⟩) (by show bcx < w.heap.size; omega)).trans (by simpa using e8)
      clear e8
      clear hccx
      have hxw := HWx.out
      rw [FCall.wt_eq] at hxw
      have hkl : (k : Int) < (z4.length : Int) := by omega
      have hkl9 : z4.length ≤ 9223372036854775807 := by omega
      generalize hac : z3 ++ cVals (z4.take k) = ac at *
      have HAC := hid hac
      clear hac hLt
      go_wp2_with fail
      have HO2 := hid ((OwnI.alloc HOWN.out (.cells #[.int .i64 x0, .string x1, .bool x2, .int .i64 x3, .int .i64 x4, .string x5, .string x6, .slice xA7 x7.length xc7, .slice xA8 x8.length xc8] 156)).wide (Nat.le_refl _) (by simp) : VlO lo (wr.alloc (.cells #[.int .i64 x0, .string x1, .bool x2, .int .i64 x3, .int .i64 x4, .string x5, .string x6, .slice xA7 x7.length xc7, .slice xA8 x8.length xc8] 156)) A' c' ac)
      replace kb := kb.alloc (.cells #[.int .i64 x0, .string x1, .bool x2, .int .i64 x3, .int .i64 x4, .string x5, .string x6, .slice xA7 x7.length xc7, .slice xA8 x8.length xc8] 156)
      replace hb := hb.alloc hbs (.cells #[.int .i64 x0, .string x1, .bool x2, .int .i64 x3, .int .i64 x4, .string x5, .string x6, .slice xA7 x7.length xc7, .slice xA8 x8.length xc8] 156)
      clear HOWN hbs xk0 xk1 xk2 xk3 xk4 xk5 xk6 xk7 xk8
      replace hlo3 : lo ≤ (wr.alloc (.cells #[.int .i64 x0, .string x1, .bool x2, .int .i64 x3, .int .i64 x4, .string x5, .string x6, .slice xA7 x7.length xc7, .slice xA8 x8.length xc8] 156)).heap.size := by simp; omega
      generalize wr.alloc (.cells #[.int .i64 x0, .string x1, .bool x2, .int .i64 x3, .int .i64 x4, .string x5, .string x6, .slice xA7 x7.length xc7, .slice xA8 x8.length xc8] 156) = wa at *
      have HOWN := HO2
      have hbs := hb.size
      clear HO2
      go_loopw [3, 23] (fun v i wq => ∃ (j : Nat) (A' : Option Addr) (c' : Nat), j ≤ x8.length ∧ i = .int .i64 j ∧ v = .slice A' (ac ++ aVals (x8.take j)).length c' ∧ VlO lo wq A' c' (ac ++ aVals (x8.take j)) ∧ Blk wq w.heap.size 91 #[.int .i64 z0, .int .i64 z1, .slice A2 z2.length c2, .slice A3 z3.length c3, .slice (some ⟨bcx, offx, none⟩) z4.length c4, .slice A5 z5.length c5, .slice A6 z6.length c6, .int .i64 z7, .string z8, .string z9, .int .i64 z10, .int .i64 z11, .int .i64 z12] ∧ Below w.heap.size w wq ∧ lo ≤ wq.heap.size) (fun _ i _ => x8.length - (intOf i).toNat)
      case atStart => exact ⟨0, A', c', Nat.zero_le _, rfl, by rw [show (ac ++ aVals (x8.take 0)) = ac from by simp [aVals]], by rw [show (ac ++ aVals (x8.take 0)) = ac from by simp [aVals]]; exact HOWN.out, kb, hb, hlo3⟩
      case round =>
        obtain ⟨wq, rfl⟩ : ∃ X : World, X = wr := ⟨_, rfl⟩
        clear HOWN kb hb hbs
        obtain ⟨j, A', c', hj, rfl, rfl, hown, kb, hb, hlo3⟩ := hrel
        have HOWN := hid hown
        have hbs := hb.size
        clear hown
        have hal2 : (ac ++ aVals (x8.take j)).length ≤ 4194304 := by rw [List.length_append]; unfold aVals; rw [List.length_map]; have := List.length_take_le j x8; omega
        by_cases hlty : j < x8.length
        · skip
          obtain ⟨xy, hxy⟩ : ∃ x, x8[j]? = some x := ⟨_, List.getElem?_eq_getElem hlty⟩
          obtain ⟨bcy, offy, rfl, hbly, hccy⟩ := RdC.at_ FArg.len xQ8.out hxy
          have HXy := hid hxy
          have HWy := hid (FArg.wts_at x8 xy (List.mem_of_getElem? hxy))
          clear hxy
          obtain ⟨y0, ⟨y1, y2, y3, y4, y5⟩⟩ := xy
          rw [FArg.c_eq] at hccy
          obtain ⟨u0, e0, q0⟩ := hccy 0 _ rfl
          obtain rfl := q0.val
          clear q0
          have yk0 : wq.cell? ⟨bcy, offy + j * 6, none⟩ = some (.int .i64 y0) := (hb.cell (p := ⟨bcy, _, none⟩) (by show bcy < w.heap.size; omega)).trans (by simpa using e0)
          clear e0
          obtain ⟨u1, e1, q1⟩ := hccy 1 _ rfl
          obtain rfl := q1.val
          clear q1
          have yk1 : wq.cell? ⟨bcy, offy + j * 6 + 1, none⟩ = some (.int .i64 y1) := (hb.cell (p := ⟨bcy, _, none⟩) (by show bcy < w.heap.size; omega)).trans (by simpa using e1)
          clear e1
          obtain ⟨u2, e2, q2⟩ := hccy 2 _ rfl
          obtain rfl := q2.val
          clear q2
          have yk2 : wq.cell? ⟨bcy, offy + j * 6 + 2, none⟩ = some (.int .i64 y2) := (hb.cell (p := ⟨bcy, _, none⟩) (by show bcy < w.heap.size; omega)).trans (by simpa using e2)
          clear e2
          obtain ⟨u3, e3, q3⟩ := hccy 3 _ rfl
          obtain rfl := q3.val
          clear q3
          have yk3 : wq.cell? ⟨bcy, offy + j * 6 + 3, none⟩ = some (.string y3) := (hb.cell (p := ⟨bcy, _, none⟩) (by show bcy < w.heap.size; omega)).trans (by simpa using e3)
          clear e3
          obtain ⟨u4, e4, q4⟩ := hccy 4 _ rfl
          obtain rfl := q4.val
          clear q4
          have yk4 : wq.cell? ⟨bcy, offy + j * 6 + 4, none⟩ = some (.int .i64 y4) := (hb.cell (p := ⟨bcy, _, none⟩) (by show bcy < w.heap.size; omega)).trans (by simpa using e4)
          clear e4
          obtain ⟨u5, e5, q5⟩ := hccy 5 _ rfl
          obtain ⟨yA5, yc5, rfl⟩ := q5.form
          have yQ5 := hid q5
          clear q5
          have yk5 : wq.cell? ⟨bcy, offy + j * 6 + 5, none⟩ = some (.slice yA5 y5.length yc5) := (hb.cell (p := ⟨bcy, _, none⟩) (by show bcy < w.heap.size; omega)).trans (by simpa using e5)
          clear e5
          clear hccy
          have hjl : (j : Int) < (x8.length : Int) := by omega
          have hjl9 : x8.length ≤ 9223372036854775807 := by omega
          have hvw : FValue.wt (.mk y1 y2 y3 y4 y5) ≤ 1000000000 := by have := HWy.out; have := FArg.wt_eq y0 y1 y2 y3 y4 y5; have := FValue.wt_eq y1 y2 y3 y4 y5; omega
          generalize hac2 : (ac ++ aVals (x8.take j)) = ac2 at *
          have HAC2 := hid hac2
          clear hac2
          go_wp2_with fail
          refine calls_worldD _ (fun X => VlO lo X A' c' ac2 ∧ Blk X w.heap.size 91 #[.int .i64 z0, .int .i64 z1, .slice A2 z2.length c2, .slice A3 z3.length c3, .slice (some ⟨bcx, offx, none⟩) z4.length c4, .slice A5 z5.length c5, .slice A6 z6.length c6, .int .i64 z7, .string z8, .string z9, .int .i64 z10, .int .i64 z11, .int .i64 z12] ∧ Blk X wq.heap.size 158 #[.int .i64 y0, .int .i64 y1, .int .i64 y2, .string y3, .int .i64 y4, .slice yA5 y5.length yc5] ∧ Below w.heap.size w X ∧ lo ≤ X.heap.size ∧ wq.heap.size < X.heap.size) ⟨(OwnI.alloc HOWN.out _).wide (Nat.le_refl _) (by simp), kb.alloc _, Blk.new _ _ _, hb.alloc hb.size _, by simp; omega, by simp⟩ ?_
          clear HOWN hb kb
          rintro X2 ⟨hown, kb, nb, hb, hlX, hgX⟩
          refine (cpVal_any (.mk y1 y2 y3 y4 y5) (by omega) [.int .i64 y1, .int .i64 y2, .string y3, .int .i64 y4, .slice yA5 y5.length yc5] _ w.heap.size hb.size (by rw [FValue.c_eq]; exact (RdVs.cons (by unfold RdC; rfl) (RdVs.cons (by unfold RdC; rfl) (RdVs.cons (by unfold RdC; rfl) (RdVs.cons (by unfold RdC; rfl) (RdVs.cons ((yQ5.out.up hB0).below hb (Nat.le_refl _)) (RdVs.nil _ _)))))))).mono ?_
          rintro e w22 ⟨us2, rfl, own2, hb2⟩
          have hv := own2.vs
          rw [FValue.c_eq] at hv
          obtain ⟨us2_0, rfl, hv_0⟩ := hv.unv
          obtain ⟨us2_1, rfl, hv_1⟩ := hv_0.unv
          obtain ⟨us2_2, rfl, hv_2⟩ := hv_1.unv
          obtain ⟨us2_3, rfl, hv_3⟩ := hv_2.unv
          obtain ⟨D4, d4, us2_4, rfl, _, hv_4⟩ := hv_3.uns
          obtain rfl := hv_4.un0
          clear hv hv_0 hv_1 hv_2 hv_3 hv_4
          have hs2 : X2.heap.size ≤ w22.heap.size := hb2.size
          obtain ⟨us, PA⟩ := VlO.one hown hlX hb2 own2
          replace kb := kb.below hb2 (Nat.le_refl _)
          replace nb := nb.below hb2 (Nat.le_refl _)
          replace hb := hb.trans (hb2.mono hb.size)
          have HPA := hid PA
          clear PA own2 hown hb2
          go_wp2_with (at_builtin; go_must (refine wpList_append_rd _ rfl _ _ _ rfl lo _ _ _ 64 Tryz.underlying38 infoValueR rfl (by omega) (.slice A' ac2.length c') ac2.length us rfl HPA.out.ho (w22.heap.size + 1) _ 1 1 _ rfl (rd_new w22 82 5 [.int .i64 y1, .int .i64 y2, .string y3, .int .i64 y4, .slice D4 y5.length d4] rfl) HPA.out.h1 (by unfold maxLen; omega) (by omega) HPA.out.le ?_); intro v1 w1 hown1 hg1 hat1; obtain ⟨E2, e2, rfl, N2, HBK, HBL⟩ := HPA.out.done _ _ hown1 hg1 hat1; have hle9 := Nat.le_trans HPA.out.le (HBK lo _ (Below.refl _ _) (Nat.le_refl _)).size; clear hown1 hg1 hat1 HPA)
          replace hb := HBK _ _ (hb.alloc hb.size _) (by omega)
          replace kb := HBL _ _ _ (kb.alloc _) (by omega)
          have HOWN := hid N2
          clear HBK HBL N2
          go_roundw
          case rel =>
            have e : (ac ++ aVals (x8.take (j + 1))) = ac2 ++ [(.mk y1 y2 y3 y4 y5)] := by unfold aVals; rw [map_take1 _ _ _ _ HXy.out, ← List.append_assoc, show ac ++ (x8.take j).map _ = _ from HAC2.out]
            exact ⟨j + 1, E2, e2, by omega, by go_num, by rw [e]; simp, by rw [e]; exact HOWN.out, kb, hb, hle9⟩
          case measure => simp [intOf]; omega
        · obtain rfl : j = x8.length := by omega
          have hown := HOWN.out
          rw [List.take_length] at hown ⊢
          have HOWN2 := hid hown
          clear HOWN hown hlty
          go_wp2_with fail
          go_roundw
          case rel =>
            have e : z3 ++ cVals (z4.take (k + 1)) = ac ++ aVals x8 := by unfold cVals; rw [flat_take1 _ _ _ _ HXx.out, ← List.append_assoc, show z3 ++ (z4.take k).flatMap _ = _ from HAC.out]
            exact ⟨k + 1, _, _, by omega, by go_num, by rw [e], by rw [e]; exact HOWN2.out, kb, hb, hlo3⟩
          case measure => simp [intOf]; omega
    · obtain rfl : k = z4.length := by omega
      have hown := HOWN.out
      rw [List.take_length] at hown hal ⊢
      clear HOWN hltx hLt hWt hTl
      generalize hac : z3 ++ cVals z4 = ac at *
      have HAC := hid hac
      clear hac
      have kz6 : wr.cell? ⟨w.heap.size, 6, none⟩ = some (.slice A6 z6.length c6) := kb.cell 6
      go_wp2_with fail
      clear kz6
      go_loopw [3, 38] (fun v i wr => ∃ (k : Nat) (A' : Option Addr) (c' : Nat), k ≤ z6.length ∧ i = .int .i64 k ∧ v = .slice A' (ac ++ eVals (z6.take k)).length c' ∧ VlO lo wr A' c' (ac ++ eVals (z6.take k)) ∧ Blk wr w.heap.size 91 #[.int .i64 z0, .int .i64 z1, .slice A2 z2.length c2, .slice A3 z3.length c3, .slice A4 z4.length c4, .slice A5 z5.length c5, .slice A6 z6.length c6, .int .i64 z7, .string z8, .string z9, .int .i64 z10, .int .i64 z11, .int .i64 z12] ∧ Below w.heap.size w wr ∧ lo ≤ wr.heap.size) (fun _ i _ => z6.length - (intOf i).toNat)
      case atStart => exact ⟨0, A', c', Nat.zero_le _, rfl, by rw [show (ac ++ eVals (z6.take 0)) = ac from by simp [eVals]], by rw [show (ac ++ eVals (z6.take 0)) = ac from by simp [eVals]]; exact hown, kb, hb, hlo3⟩
      case round =>
        obtain ⟨k, A', c', hk, rfl, rfl, hown, kb, hb, hlo3⟩ := hrel
        have HOWN := hid hown
        have hbs := hb.size
        have hlw1 := (OwnI.below hown (Below.refl _ _) (Nat.le_refl _))
        clear hown hlw1
        clear hown
        have hal2 : (ac ++ eVals (z6.take k)).length ≤ 4194304 := by rw [List.length_append]; unfold eVals; rw [List.length_map]; have := List.length_take_le k z6; omega
        by_cases hlty : k < z6.length
        · skip
          obtain ⟨xy, hxy⟩ : ∃ x, z6[k]? = some x := ⟨_, List.getElem?_eq_getElem hlty⟩
          obtain ⟨bcy, offy, rfl, hbly, hccy⟩ := RdC.at_ FEnd.len zQ6.out hxy
          have HXy := hid hxy
          have HWy := hid (FEnd.wts_at z6 xy (List.mem_of_getElem? hxy))
          clear hxy
          obtain ⟨y0, ⟨y1, y2, y3, y4, y5⟩, y6, y7, y8⟩ := xy
          rw [FEnd.c_eq] at hccy
          obtain ⟨u0, e0, q0⟩ := hccy 0 _ rfl
          obtain rfl := q0.val
          clear q0
          have yk0 : wr.cell? ⟨bcy, offy + k * 9, none⟩ = some (.int .i64 y0) := (hb.cell (p := ⟨bcy, _, none⟩) (by show bcy < w.heap.size; omega)).trans (by simpa using e0)
          clear e0
          obtain ⟨u1, e1, q1⟩ := hccy 1 _ rfl
          obtain rfl := q1.val
          clear q1
          have yk1 : wr.cell? ⟨bcy, offy + k * 9 + 1, none⟩ = some (.int .i64 y1) := (hb.cell (p := ⟨bcy, _, none⟩) (by show bcy < w.heap.size; omega)).trans (by simpa using e1)
          clear e1
          obtain ⟨u2, e2, q2⟩ := hccy 2 _ rfl
          obtain rfl := q2.val
          clear q2
          have yk2 : wr.cell? ⟨bcy, offy + k * 9 + 2, none⟩ = some (.int .i64 y2) := (hb.cell (p := ⟨bcy, _, none⟩) (by show bcy < w.heap.size; omega)).trans (by simpa using e2)
          clear e2
          obtain ⟨u3, e3, q3⟩ := hccy 3 _ rfl
          obtain rfl := q3.val
          clear q3
          have yk3 : wr.cell? ⟨bcy, offy + k * 9 + 3, none⟩ = some (.string y3) := (hb.cell (p := ⟨bcy, _, none⟩) (by show bcy < w.heap.size; omega)).trans (by simpa using e3)
          clear e3
          obtain ⟨u4, e4, q4⟩ := hccy 4 _ rfl
          obtain rfl := q4.val
          clear q4
          have yk4 : wr.cell? ⟨bcy, offy + k * 9 + 4, none⟩ = some (.int .i64 y4) := (hb.cell (p := ⟨bcy, _, none⟩) (by show bcy < w.heap.size; omega)).trans (by simpa using e4)
          clear e4
          obtain ⟨u5, e5, q5⟩ := hccy 5 _ rfl
          obtain ⟨yA5, yc5, rfl⟩ := q5.form
          have yQ5 := hid q5
          clear q5
          have yk5 : wr.cell? ⟨bcy, offy + k * 9 + 5, none⟩ = some (.slice yA5 y5.length yc5) := (hb.cell (p := ⟨bcy, _, none⟩) (by show bcy < w.heap.size; omega)).trans (by simpa using e5)
          clear e5
          obtain ⟨u6, e6, q6⟩ := hccy 6 _ rfl
          obtain rfl := q6.val
          clear q6
          have yk6 : wr.cell? ⟨bcy, offy + k * 9 + 6, none⟩ = some (.int .i64 y6) := (hb.cell (p := ⟨bcy, _, none⟩) (by show bcy < w.heap.size; omega)).trans (by simpa using e6)
          clear e6
          obtain ⟨u7, e7, q7⟩ := hccy 7 _ rfl
          obtain rfl := q7.val
          clear q7
          have yk7 : wr.cell? ⟨bcy, offy + k * 9 + 7, none⟩ = some (.int .i64 y7) := (hb.cell (p := ⟨bcy, _, none⟩) (by show bcy < w.heap.size; omega)).trans (by simpa using e7)
          clear e7
          obtain ⟨u8, e8, q8⟩ := hccy 8 _ rfl
          obtain rfl := q8.val
          clear q8
          have yk8 : wr.cell? ⟨bcy, offy + k * 9 + 8, none⟩ = some (.int .i64 y8) := (hb.cell (p := ⟨bcy, _, none⟩) (by show bcy < w.heap.size; omega)).trans (by simpa using e8)
          clear e8
          clear hccy
          have hkl : (k : Int) < (z6.length : Int) := by omega
          have hkl9 : z6.length ≤ 9223372036854775807 := by omega
          have hvw : FValue.wt (.mk y1 y2 y3 y4 y5) ≤ 1000000000 := by have := HWy.out; have := FEnd.wt_eq y0 y1 y2 y3 y4 y5 y6 y7 y8; have := FValue.wt_eq y1 y2 y3 y4 y5; omega
          generalize hac2 : (ac ++ eVals (z6.take k)) = ac2 at *
          have HAC2 := hid hac2
          clear hac2
          go_wp2_with fail
          refine calls_worldD _ (fun X => VlO lo X A' c' ac2 ∧ Blk X w.heap.size 91 #[.int .i64 z0, .int .i64 z1, .slice A2 z2.length c2, .slice A3 z3.length c3, .slice A4 z4.length c4, .slice A5 z5.length c5, .slice (some ⟨bcy, offy, none⟩) z6.length c6, .int .i64 z7, .string z8, .string z9, .int .i64 z10, .int .i64 z11, .int .i64 z12] ∧ Blk X wr.heap.size 160 #[.int .i64 y0, .int .i64 y1, .int .i64 y2, .string y3, .int .i64 y4, .slice yA5 y5.length yc5, .int .i64 y6, .int .i64 y7, .int .i64 y8] ∧ Below w.heap.size w X ∧ lo ≤ X.heap.size ∧ wr.heap.size < X.heap.size) ⟨(OwnI.alloc HOWN.out _).wide (Nat.le_refl _) (by simp), kb.alloc _, Blk.new _ _ _, hb.alloc hb.size _, by simp; omega, by simp⟩ ?_
          clear HOWN hb kb
          rintro X3 ⟨hown, kb, nb, hb, hlX, hgX⟩
          refine (cpVal_any (.mk y1 y2 y3 y4 y5) (by omega) [.int .i64 y1, .int .i64 y2, .string y3, .int .i64 y4, .slice yA5 y5.length yc5] _ w.heap.size hb.size (by rw [FValue.c_eq]; exact (RdVs.cons (by unfold RdC; rfl) (RdVs.cons (by unfold RdC; rfl) (RdVs.cons (by unfold RdC; rfl) (RdVs.cons (by unfold RdC; rfl) (RdVs.cons ((yQ5.out.up hB0).below hb (Nat.le_refl _)) (RdVs.nil _ _)))))))).mono ?_
          rintro e w23 ⟨us2, rfl, own2, hb2⟩
          have hv := own2.vs
          rw [FValue.c_eq] at hv
          obtain ⟨us2_0, rfl, hv_0⟩ := hv.unv
          obtain ⟨us2_1, rfl, hv_1⟩ := hv_0.unv
          obtain ⟨us2_2, rfl, hv_2⟩ := hv_1.unv
          obtain ⟨us2_3, rfl, hv_3⟩ := hv_2.unv
          obtain ⟨D4, d4, us2_4, rfl, _, hv_4⟩ := hv_3.uns
          obtain rfl := hv_4.un0
          clear hv hv_0 hv_1 hv_2 hv_3 hv_4
          have hs2 : X3.heap.size ≤ w23.heap.size := hb2.size
          obtain ⟨us, PA⟩ := VlO.one hown hlX hb2 own2
          replace kb := kb.below hb2 (Nat.le_refl _)
          replace nb := nb.below hb2 (Nat.le_refl _)
          replace hb := hb.trans (hb2.mono hb.size)
          have HPA := hid PA
          clear PA own2 hown hb2
          go_wp2_with (at_builtin; go_must (refine wpList_append_rd _ rfl _ _ _ rfl lo _ _ _ 64 Tryz.underlying38 infoValueR rfl (by omega) (.slice A' ac2.length c') ac2.length us rfl HPA.out.ho (w23.heap.size + 1) _ 1 1 _ rfl (rd_new w23 82 5 [.int .i64 y1, .int .i64 y2, .string y3, .int .i64 y4, .slice D4 y5.length d4] rfl) HPA.out.h1 (by unfold maxLen; omega) (by omega) HPA.out.le ?_); intro v1 w1 hown1 hg1 hat1; obtain ⟨E3, e3, rfl, N3, HBK, HBL⟩ := HPA.out.done _ _ hown1 hg1 hat1; have hle9 := Nat.le_trans HPA.out.le (HBK lo _ (Below.refl _ _) (Nat.le_refl _)).size; clear hown1 hg1 hat1 HPA)
          replace hb := HBK _ _ (hb.alloc hb.size _) (by omega)
          replace kb := HBL _ _ _ (kb.alloc _) (by omega)
          have HOWN := hid N3
          clear HBK HBL N3
          go_roundw
          case rel =>
            have e : ac ++ eVals (z6.take (k + 1)) = ac2 ++ [(.mk y1 y2 y3 y4 y5)] := by unfold eVals; rw [map_take1 _ _ _ _ HXy.out, ← List.append_assoc, show ac ++ (z6.take k).map _ = _ from HAC2.out]
            exact ⟨k + 1, E3, e3, by omega, by go_num, by rw [e]; simp, by rw [e]; exact HOWN.out, kb, hb, hle9⟩
          case measure => simp [intOf]; omega
        · obtain rfl : k = z6.length := by omega
          have hown := HOWN.out
          rw [List.take_length] at hown ⊢
          clear HOWN hlty
          go_wp2_with fail
          go_ret
          have e : ac ++ eVals z6 = z3 ++ (cVals z4 ++ eVals z6) := by rw [← HAC.out, List.append_assoc]
          rw [e] at hown ⊢
          exact ⟨_, _, rfl, hown.wide hlo2 (Nat.le_refl _), hb⟩
end Go.Proofs.YtahgcojmpafefaaGreat
