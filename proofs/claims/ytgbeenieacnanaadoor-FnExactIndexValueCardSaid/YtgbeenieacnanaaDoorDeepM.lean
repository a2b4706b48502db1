/-
  Marking nested data: plain facts on the marks, and one cell of an owned slice at a time. Conditions: none.
-/
import Derived.Test.YtgbeenieacnanaaDoorDeep
namespace Go.Proofs.YtgbeenieacnanaaDoor
open Go.ChangeShapes Go.WideShapes Go.ChangeAt Go.RowKit Go.Deep Go.Joins
open Go.ChangeMaps (open_string shut_string)
set_option linter.unusedVariables false
set_option maxRecDepth 100000

theorem mkL_nil (k : Int) : mkL [] k = [] := by unfold mkL; rfl
theorem mkL_v {u : Value} {r : List Cel} {k : Int} (k' : Int) (h : k' = k + 1) : mkL (.v u :: r) k = .v (mkV k u) :: mkL r k' := by
  rw [mkL, mkC, Cel.cnt, h]
  rfl
theorem mkL_s {e m n : Nat} {xs r : List Cel} {k : Int} (k' : Int) (h : k' = k + (cntL xs : Int)) : mkL (.s e m n xs :: r) k = .s e m n (mkL xs k) :: mkL r k' := by
  rw [mkL, mkC, Cel.cnt, h]
/-- The marks of a struct by value: its slices alone are marked. -/
def smk : List Cel → Int → List Cel
  | [], _ => []
  | .v u :: r, k => .v u :: smk r k
  | .s e m n xs :: r, k => .s e m n (mkL xs k) :: smk r (k + (cntL xs : Int))
def scnt : List Cel → Nat
  | [] => 0
  | .v u :: r => scnt r
  | .s e m n xs :: r => cntL xs + scnt r
theorem smk_v {u : Value} {r : List Cel} {k : Int} : smk (.v u :: r) k = .v u :: smk r k := rfl
theorem smk_s {e m n : Nat} {xs r : List Cel} {k : Int} (k' : Int) (h : k' = k + (cntL xs : Int)) : smk (.s e m n xs :: r) k = .s e m n (mkL xs k) :: smk r k' := by rw [h]; rfl
theorem mid_get {D M R : List Cel} {p j : Nat} {y : Cel} (hD : D.length = p) (h : M[j]? = some y) : (D ++ (M ++ R))[p + j]? = some y := by
  have hj : j < M.length := (List.getElem?_eq_some_iff.1 h).1
  rw [List.getElem?_append_right (by omega), hD, Nat.add_sub_cancel_left, List.getElem?_append_left hj, h]
theorem RdC.cells {w : World} {B e k n c : Nat} {A : Option Addr} {xs : List Cel} (h : RdC w B (.s e k n xs) (.slice A n c)) (hn : 0 < n) :
    ∃ b off, A = some ⟨b, off, none⟩ ∧ b < B ∧ ∀ (p : Nat) (y : Cel), xs[p]? = some y → ∃ u, w.cell? ⟨b, off + p, none⟩ = some u ∧ RdC w B y u := by
  unfold RdC at h
  obtain ⟨A', c', hA, _, _, _, h5⟩ := h
  simp only [Value.slice.injEq, true_and] at hA
  obtain ⟨rfl, rfl⟩ := hA
  obtain ⟨b, off, rfl, hb, hl⟩ := h5 hn
  exact ⟨b, off, rfl, hb, fun p y hy => RdL.get _ off p y hl hy⟩
theorem OwnC.head {w : World} {e k n c : Nat} {A : Option Addr} {xs : List Cel} {F : List Nat} (h : OwnC w (.s e k n xs) F (.slice A n c)) (hn : 0 < n) : ∃ g, A = some ⟨g, 0, none⟩ ∧ g ∈ F := by
  unfold OwnC at h
  obtain ⟨us, G, rfl, ho, hl⟩ := h
  rcases ho.2 with ⟨hv, h0⟩ | ⟨g, cap, cur, hv, _⟩
  · omega
  · simp only [Value.slice.injEq, true_and] at hv
    obtain ⟨rfl, rfl⟩ := hv
    exact ⟨g, rfl, List.mem_append_left _ (mem_ownB.2 rfl)⟩
theorem OwnC.row {w : World} {e k n c g : Nat} {xs : List Cel} {F : List Nat} (h : OwnC w (.s e k n xs) F (.slice (some ⟨g, 0, none⟩) n c)) : ∃ f, w.rowIs g e (c * k) f ∧ n ≤ c ∧ xs.length = n * k := by
  unfold OwnC at h
  obtain ⟨us, G, rfl, ho, hl⟩ := h
  have hlen := OwnL.len _ _ _ hl
  rcases own_row ho with ⟨hv, _⟩ | ⟨g1, cap, f, hv, _, hn, _, hrow, _⟩
  · cases hv
  · simp only [Value.slice.injEq, Option.some.injEq, Addr.mk.injEq, true_and, and_true] at hv
    obtain ⟨rfl, rfl⟩ := hv
    exact ⟨f, hrow, hn, by rw [← hlen]; exact ho.1⟩
theorem cell_set_other {w : World} {g p q : Nat} {z a : Value} (hne : p ≠ q) (h : w.cell? ⟨g, q, none⟩ = some a) : (w.setCell ⟨g, p, none⟩ z).cell? ⟨g, q, none⟩ = some a := by
  rw [World.cell?_setCell_other _ _ _ _ (fun e => by injection e with _ e2 _; exact hne e2)]
  exact h
theorem OnlyF.call {F G : List Nat} {a b c : World} (h : OnlyF F a b) (k : OnlyF G b c) (hs : ∀ g, g ∈ G → g ∈ F) : OnlyF F a c := h.trans (k.wide hs)
theorem OnlyF.of_below {F : List Nat} {a b c : World} (h : OnlyF F a b) (k : Below b.heap.size b c) : OnlyF F a c := h.trans (onlyF_below k)
/-- The contract of a marking function, by an interval of blocks. -/
theorem own_interval {w w' : World} {lo hi : Nat} {F : List Nat} {xs : List Cel} {us : List Value} (h2 : F.Nodup) (h3 : ∀ b, b ∈ F → lo ≤ b ∧ b < hi) (ho : OwnL w' xs F us) (hb : OnlyF F w w') : OwnI w' lo hi xs us ∧ Only lo hi w.heap.size w w' :=
  ⟨⟨F, ho, h2, h3⟩, ⟨hb.os, hb.tape, hb.output, hb.size, fun k hk hd => hb.block k hk fun e => by have := h3 k e; omega⟩⟩
theorem OwnL.one {w : World} {x : Cel} {F : List Nat} {u : Value} (h : OwnC w x F u) : OwnL w [x] F [u] := by
  have := OwnL.cons h (OwnL.nil w)
  rwa [List.append_nil] at this
theorem OwnL.unone {w : World} {x : Cel} {F : List Nat} {u : Value} (h : OwnL w [x] F [u]) : OwnC w x F u := by
  obtain ⟨u', us', F1, F2, he, rfl, hx, hr⟩ := h.uncons
  obtain ⟨rfl, rfl⟩ := hr.unnil
  simp only [List.cons.injEq, and_true] at he
  subst he
  simpa using hx
/-- A stretch of owned values: what it owns, and what it means to put other content in its stead. -/
theorem OwnL.sub {w : World} {D M R : List Cel} {F : List Nat} {u1 um u3 : List Value} (h : OwnL w (D ++ (M ++ R)) F (u1 ++ (um ++ u3))) (hF : F.Nodup) (h1 : u1.length = D.length) (h2 : um.length = M.length) :
    ∃ Fm, OwnL w M Fm um ∧ (∀ b, b ∈ Fm → b ∈ F) ∧ Fm.Nodup ∧ ∀ (w' : World) (M' : List Cel), OwnL w' M' Fm um → (∀ b, b ∈ F → b ∉ Fm → w'.heap[b]? = w.heap[b]?) → OwnL w' (D ++ (M' ++ R)) F (u1 ++ (um ++ u3)) := by
  obtain ⟨F1, F2, a1, a2, rfl, he, hD, hMR⟩ := OwnL.split D (M ++ R) F _ h
  obtain ⟨e1, e2⟩ := List.append_inj he (by rw [h1, OwnL.len _ _ _ hD])
  subst e1 e2
  obtain ⟨F3, F4, b1, b2, rfl, he2, hM, hR⟩ := OwnL.split M R F2 _ hMR
  obtain ⟨e3, e4⟩ := List.append_inj he2 (by rw [h2, OwnL.len _ _ _ hM])
  subst e3 e4
  have hd := List.nodup_append.1 hF
  have hd2 := List.nodup_append.1 hd.2.1
  refine ⟨F3, hM, fun b hb => by simp [hb], hd2.1, fun w' M' hM' hk => ?_⟩
  refine OwnL.join _ _ _ _ _ _ (OwnL.keep _ _ _ hD fun b hb => hk b (by simp [hb]) fun hb' => hd.2.2 b hb b (by simp [hb']) rfl) (OwnL.join _ _ _ _ _ _ hM' (OwnL.keep _ _ _ hR fun b hb => hk b (by simp [hb]) fun hb' => hd2.2.2 b hb' b hb rfl))
end Go.Proofs.YtgbeenieacnanaaDoor
