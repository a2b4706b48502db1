/-
  Parts of the proof: RoB. Conditions: none.
-/
import Derived.Test.YtahgcojmpafefaaGreatQag
import Derived.Test.YtahgcojmpafefaaGreatQac
set_option linter.unusedVariables false
set_option linter.unusedSimpArgs false
namespace Go.Proofs.YtahgcojmpafefaaGreat
open Go.ChangeShapes Go.WideShapes Go.ChangeAt Go.RowKit Go.Deep Go.Joins
set_option maxRecDepth 100000
/-- What a slice of flat cells reads. -/
theorem RdC.rowV {w : World} {B e k n c : Nat} {A : Option Addr} {xs : List Cel} (h : RdC w B (.s e k n xs) (.slice A n c)) : ∃ us, Rd w B k (.slice A n c) n us ∧ RdVs w B xs us := by
  have hc := h.cap
  have hx : xs.length = n * k := by
    unfold RdC at h
    obtain ⟨A', c', _, _, _, h4, _⟩ := h
    exact h4
  by_cases hn : 0 < n
  · obtain ⟨b, off, rfl, hb, hl⟩ := h.cells hn
    obtain ⟨us, h1, h2⟩ := vals_at xs 0 (b := b) (o := off) fun j y hj => by rw [Nat.zero_add]; exact hl j y hj
    exact ⟨us, ⟨_, c, rfl, hc.1, hc.2, by rw [h1.1, hx], fun _ => ⟨b, off, rfl, hb, fun j u hu => by have := h2 j u hu; rw [Nat.zero_add] at this; exact this⟩⟩, h1⟩
  · have hn0 : n = 0 := by omega
    subst hn0
    have hx0 : xs = [] := List.eq_nil_of_length_eq_zero (by rw [hx]; omega)
    subst hx0
    exact ⟨[], ⟨A, c, rfl, hc.1, hc.2, by simp, fun h => absurd h (by omega)⟩, RdVs.nil _ _⟩
theorem RdVs.onecell {w : World} {B : Nat} {xs : List Cel} {us : List Value} (h : RdVs w B xs us) (hx : ∀ x, x ∈ xs → ∀ u, x = .v u → u.oneCell' = true) : ∀ u ∈ us, u.oneCell' = true := by
  intro u hu
  obtain ⟨j, hj, rfl⟩ := List.mem_iff_getElem.1 hu
  have hjx : j < xs.length := by rw [← h.1]; exact hj
  have hr := h.2 j xs[j] us[j] (List.getElem?_eq_getElem hjx) (List.getElem?_eq_getElem hj)
  cases hxe : xs[j] with
  | v y =>
    rw [hxe] at hr
    rw [hr.val]
    exact hx _ (List.getElem_mem hjx) y hxe
  | s e k n ys =>
    rw [hxe] at hr
    obtain ⟨A, c, e⟩ := hr.form
    rw [e]
    rfl
theorem rd_sharedV {w : World} {base e k n : Nat} {u : Value} {us : List Value} {xs : List Cel} (ho : w.ownsRow base e k u n us) (hr : RdVs w w.heap.size xs us) : RdC w w.heap.size (.s e k n xs) u := by
  unfold RdC
  rcases own_row ho with ⟨rfl, rfl, rfl⟩ | ⟨g, cap, f, rfl, hg, hn, hc, hrow, hx⟩
  · exact ⟨none, 0, rfl, Nat.le_refl _, Nat.zero_le _, by rw [← hr.1]; simp, fun h => absurd h (by omega)⟩
  · refine ⟨some ⟨g, 0, none⟩, cap, rfl, hn, hc, by rw [← hr.1]; exact ho.1, fun _ => ⟨g, 0, rfl, hrow.lt, RdL.of _ _ fun j x hj => ?_⟩⟩
    have hjl : j < us.length := by rw [hr.1]; exact (List.getElem?_eq_some_iff.1 hj).1
    have hu : us[j]? = some us[j] := List.getElem?_eq_getElem hjl
    refine ⟨us[j], ?_, hr.2 j x _ hj hu⟩
    have hj2 : j < n * k := by rw [← ho.1]; exact hjl
    have hle : n * k ≤ cap * k := Nat.mul_le_mul_right k hn
    rw [Nat.zero_add, hrow.cell (by omega), ← hx j hj2, hu]
theorem own_upV {w : World} {base lo k n : Nat} {e : TypeId} {u : Value} {us : List Value} (h : w.ownsRow base e k u n us) (hg : ∀ g, u.ownBlock = some g → lo ≤ g) : w.ownsRow lo e k u n us := own_up h hg
/-- The slice's block is not b. -/
def NoB (A : Option Addr) (b : Nat) : Prop := ∀ g, (Value.slice A 0 0).ownBlock = some g → g ≠ b
theorem own_any (A : Option Addr) (n c n' c' : Nat) : (Value.slice A n c).ownBlock = (Value.slice A n' c').ownBlock := by cases A <;> rfl
/-- A row of values in memory that lies from lo on; what they point to was there in world w0, below B0. -/
def SvO (w0 : World) (B0 lo : Nat) (X : World) (A : Option Addr) (c : Nat) (l : List FValue) : Prop :=
  ∃ us, X.ownsRow lo 82 5 (.slice A l.length c) l.length us ∧ RdVs w0 B0 (FValue.flat l) us
/-- What an append of m to l wants of world Y, and what it leaves. -/
structure PreS (w0 : World) (B0 lo : Nat) (Y : World) (A : Option Addr) (c : Nat) (l m : List FValue) (us us2 : List Value) : Prop where
  ho : Y.ownsRow lo 82 5 (.slice A l.length c) l.length us
  h1 : ∀ u ∈ us2, u.oneCell' = true
  le : lo ≤ Y.heap.size
  done : ∀ (v' : Value) (Z : World), Z.ownsRow lo 82 5 v' (l.length + m.length) (us ++ us2) → Y.grownBy Z (Value.slice A l.length c).ownBlock → (v'.ownBlock = (Value.slice A l.length c).ownBlock ∨ v'.ownBlock = some Y.heap.size) →
    ∃ A' c', v' = .slice A' (l ++ m).length c' ∧ SvO w0 B0 lo Z A' c' (l ++ m) ∧ (∀ w1, Below lo w1 Y → Below lo w1 Z) ∧ (∀ b t cs, Blk Y b t cs → NoB A b → Blk Z b t cs) ∧ (∀ b, b < Y.heap.size → NoB A b → NoB A' b)
theorem SvO.pre {w0 X Y : World} {B0 lo : Nat} {A : Option Addr} {c : Nat} {l m : List FValue} {us2 : List Value} (h : SvO w0 B0 lo X A c l) (hb : Below X.heap.size X Y) (hl : lo ≤ X.heap.size) (hr : RdVs w0 B0 (FValue.flat m) us2) : ∃ us, PreS w0 B0 lo Y A c l m us us2 := by
  obtain ⟨us, ho, hv⟩ := h
  have ho2 := own_below ho hb (Nat.le_refl _)
  have hs := hb.size
  refine ⟨us, ho2, hr.onecell (vals_one m), by omega, fun v' Z hown hg hat => ?_⟩
  obtain ⟨A', c', rfl⟩ := own_form hown
  have e : FValue.flat (l ++ m) = FValue.flat l ++ FValue.flat m := List.flatMap_append
  refine ⟨A', c', by rw [List.length_append], ⟨us ++ us2, by rw [List.length_append]; exact hown, by rw [e]; exact RdVs.app hv hr⟩, fun w1 h1 => Below.grownI h1 hg (fun g hg' => (World.ownsRow.lt ho2 g hg').1) (by omega), fun b t cs hb1 hn => hb1.bgrown hg (fun e9 => hn b ((own_any A 0 0 l.length c).trans e9.symm) rfl), fun b hb1 hn g hg9 => ?_⟩
  rcases hat with hat | hat
  · exact hn g ((own_any A 0 0 l.length c).trans (hat.symm.trans ((own_any A' _ _ 0 0).trans hg9)))
  · have e9 : some Y.heap.size = some g := hat.symm.trans ((own_any A' _ _ 0 0).trans hg9)
    have := Option.some.inj e9
    omega
theorem SvO.noB {w0 X : World} {B0 lo : Nat} {A : Option Addr} {c : Nat} {l : List FValue} (h : SvO w0 B0 lo X A c l) : NoB A X.heap.size := fun g hg => by
  obtain ⟨us, ho, _⟩ := h
  have := (World.ownsRow.lt ho g ((own_any A _ _ 0 0).trans hg)).2
  omega
theorem SvO.noBlo {w0 X : World} {B0 lo b : Nat} {A : Option Addr} {c : Nat} {l : List FValue} (h : SvO w0 B0 lo X A c l) (hb : b < lo) : NoB A b := fun g hg => by
  obtain ⟨us, ho, _⟩ := h
  have := (World.ownsRow.lt ho g ((own_any A _ _ 0 0).trans hg)).1
  omega
theorem SvO.up {w0 X : World} {B0 lo : Nat} {A : Option Addr} {c : Nat} {l : List FValue} (h : SvO w0 B0 lo X A c l) (lo' : Nat) (hlo : lo' ≤ lo) : SvO w0 B0 lo' X A c l := by
  obtain ⟨us, ho, hv⟩ := h
  exact ⟨us, own_upV ho (fun g hg => Nat.le_trans hlo (World.ownsRow.lt ho g hg).1), hv⟩
theorem SvO.start (w0 X : World) (B0 lo : Nat) (h : lo ≤ X.heap.size) : SvO w0 B0 lo (X.alloc (.cells #[] 82)) (some ⟨X.heap.size, 0, none⟩) 0 [] :=
  ⟨[], own_upV (own_empty X _ 5) (fun g e => by have e9 : X.heap.size = g := Option.some.inj e; omega), RdVs.nil _ _⟩
theorem SvO.read {w0 X : World} {B0 lo : Nat} {A : Option Addr} {c : Nat} {l : List FValue} (h : SvO w0 B0 lo X A c l) (hb : Below B0 w0 X) (hB : B0 ≤ w0.heap.size) : RdC X X.heap.size (.s 82 5 l.length (FValue.flat l)) (.slice A l.length c) := by
  obtain ⟨us, ho, hv⟩ := h
  exact rd_sharedV ho (hv.on hb (Nat.le_refl _) (Nat.le_trans hB hb.size))
theorem SvO.drew {w0 X : World} {B0 lo : Nat} {A : Option Addr} {c : Nat} {l : List FValue} (h : SvO w0 B0 lo X A c l) : SvO w0 B0 lo X.drew A c l := h
theorem SvO.raise {w0 X : World} {B0 lo : Nat} {A : Option Addr} {c : Nat} {l : List FValue} (h : SvO w0 B0 lo X A c l) (hn : NoB A lo) : SvO w0 B0 (lo + 1) X A c l := by
  obtain ⟨us, ho, hv⟩ := h
  refine ⟨us, own_upV ho (fun g hg => ?_), hv⟩
  have h1 := (World.ownsRow.lt ho g hg).1
  have h2 := hn g ((own_any A 0 0 _ _).trans hg)
  omega
theorem RdVs.cutV {w : World} {B : Nat} {xs ys : List Cel} {us : List Value} (h : RdVs w B (xs ++ ys) us) : ∃ u1 u2, us = u1 ++ u2 ∧ RdVs w B xs u1 ∧ RdVs w B ys u2 := by
  have hl := h.1
  rw [List.length_append] at hl
  refine ⟨us.take xs.length, us.drop xs.length, (List.take_append_drop _ _).symm, ⟨by rw [List.length_take]; omega, fun j x u hx hu => ?_⟩, ⟨by rw [List.length_drop]; omega, fun j x u hx hu => ?_⟩⟩
  · have hj : j < xs.length := (List.getElem?_eq_some_iff.1 hx).1
    rw [List.getElem?_take_of_lt hj] at hu
    exact h.2 j x u (by rw [List.getElem?_append_left hj]; exact hx) hu
  · rw [List.getElem?_drop] at hu
    exact h.2 (xs.length + j) x u (by rw [List.getElem?_append_right (by omega), Nat.add_sub_cancel_left]; exact hx) hu
theorem gen_cV (x0 : Int) (xv : FValue) (xf : FFrame) : FGen.c ⟨x0, xv, xf⟩ = .v (.int .i64 x0) :: (xv.c ++ xf.c) := by
  obtain ⟨y0, y1, y2, y3, y4⟩ := xv
  obtain ⟨z0, z1, z2, z3, z4, z5, z6, z7, z8, z9, z10, z11, z12⟩ := xf
  rw [FGen.c_eq, FValue.c_eq, FFrame.c_eq]
  rfl
theorem gen_wtV (x0 : Int) (xv : FValue) (xf : FFrame) : FGen.wt ⟨x0, xv, xf⟩ = xv.wt + xf.wt := by cases xv; cases xf; simp [FGen.wt]
theorem range_subV {w : World} {b o : Nat} (xs ys zs : List Value) (h : w.rangeAt b o (xs ++ (ys ++ zs))) : w.rangeAt b (o + xs.length) ys := fun j v hv => by
  have h1 := h (xs.length + j) v (by rw [List.getElem?_append_right (by omega), Nat.add_sub_cancel_left, List.getElem?_append_left (List.getElem?_eq_some_iff.1 hv).1]; exact hv)
  rw [Nat.add_assoc]
  exact h1
theorem run_load_at {P : Program} {w : World} {a : Act} {op : Oper} (ty : TypeId) (x : Operand) (b o : Nat) (us : List Value) (d : TypeDesc) (hr : w.rangeAt b o us) (ho : op.op = .load ty x) (hx : a.eval x = .pointer (some ⟨b, o, none⟩)) (hu : P.underlying ty = some d) (hd : d.isRow = true) {K : Nat} (hl : us.length = K) (hi : (P.info? ty).map (·.size) = some K) :
    (execOp a.eval op).run P w = .ok (.value (.agg us.toArray)) w := by
  unfold execOp
  simp only [ho, hx, Instr.loadAt, Instr.sureAddr, Sem.run_bind, Sem.run_pure, Result.andThen_ok, run_loadVar_mid w b o ty us d hr hu hd (by rw [hl]; exact hi)]
end Go.Proofs.YtahgcojmpafefaaGreat
