/-
  Appending to an owned slice whose elements own blocks of their own. Conditions: none.
-/
import Derived.Test.YtgbeenieacnanaaDoorDeepM
namespace Go.Proofs.YtgbeenieacnanaaDoor
open Go.ChangeShapes Go.WideShapes Go.ChangeAt Go.RowKit Go.Deep Go.Joins
open Go.ChangeMaps (open_string shut_string)
set_option linter.unusedVariables false
set_option maxRecDepth 100000

theorem own_up {w : World} {base lo k n : Nat} {e : TypeId} {u : Value} {us : List Value} (h : w.ownsRow base e k u n us) (hg : ∀ g, u.ownBlock = some g → lo ≤ g) : w.ownsRow lo e k u n us := by
  refine ⟨h.1, ?_⟩
  rcases h.2 with hn | ⟨g, cap, cur, rfl, h1, rest⟩
  · exact .inl hn
  · exact .inr ⟨g, cap, cur, rfl, hg g rfl, rest⟩
/-- The parts of an owned slice. -/
theorem OwnI.row {w : World} {lo hi e k n : Nat} {xs : List Cel} {u : Value} (h : OwnI w lo hi [.s e k n xs] [u]) :
    ∃ us G, w.ownsRow lo e k u n us ∧ OwnL w xs G us ∧ G.Nodup ∧ (∀ b, b ∈ G → lo ≤ b ∧ b < hi) ∧ ∀ g, u.ownBlock = some g → g ∉ G ∧ lo ≤ g ∧ g < hi := by
  obtain ⟨F, a1, a2, a3⟩ := h
  have hc := a1.unone
  unfold OwnC at hc
  obtain ⟨us, G, rfl, ho, hl⟩ := hc
  have hd := List.nodup_append.1 a2
  have hg : ∀ g, u.ownBlock = some g → g ∉ G ∧ lo ≤ g ∧ g < hi := fun g hg => by
    have hm : g ∈ ownB u := mem_ownB.2 hg
    exact ⟨fun hG => hd.2.2 g hm g hG rfl, a3 g (List.mem_append_left _ hm)⟩
  exact ⟨us, G, own_up ho fun g h => (hg g h).2.1, hl, hd.2.1, fun b hb => a3 b (List.mem_append_right _ hb), hg⟩
/-- What append leaves. -/
theorem OwnI.pushed {w w' : World} {lo e k n m : Nat} {xs ys : List Cel} {v v' : Value} {us us2 : List Value} {G G2 : List Nat} (ho : w'.ownsRow lo e k v' (n + m) (us ++ us2)) (hg : w.grownBy w' v.ownBlock)
    (hat : v'.ownBlock = v.ownBlock ∨ v'.ownBlock = some w.heap.size) (hl : OwnL w xs G us) (hl2 : OwnL w ys G2 us2) (hG : G.Nodup) (hG2 : G2.Nodup) (hd : ∀ b, b ∈ G → b ∉ G2) (h1 : ∀ b, b ∈ G → lo ≤ b) (h2 : ∀ b, b ∈ G2 → lo ≤ b)
    (hv : ∀ g, v.ownBlock = some g → g ∉ G ∧ g ∉ G2) : OwnI w' lo w'.heap.size [.s e k (n + m) (xs ++ ys)] [v'] := by
  have hlt : ∀ b, b ∈ G → b < w.heap.size := OwnL.lt _ _ _ hl
  have hlt2 : ∀ b, b ∈ G2 → b < w.heap.size := OwnL.lt _ _ _ hl2
  have k1 : OwnL w' xs G us := OwnL.keep _ _ _ hl fun b hb => hg.block b (hlt b hb) fun e => (hv b e.symm).1 hb
  have k2 : OwnL w' ys G2 us2 := OwnL.keep _ _ _ hl2 fun b hb => hg.block b (hlt2 b hb) fun e => (hv b e.symm).2 hb
  have hc := OwnC.mk ho (OwnL.join _ _ _ _ _ _ k1 k2)
  have hvn : ∀ g, v'.ownBlock = some g → g ∉ G ∧ g ∉ G2 := fun g hg' => by
    rcases hat with e | e
    · exact hv g (by rw [← e]; exact hg')
    · rw [e] at hg'
      have hgs : w.heap.size = g := by simpa using hg'
      exact ⟨fun hb => by have := hlt g hb; omega, fun hb => by have := hlt2 g hb; omega⟩
  refine ⟨_, OwnL.one hc, List.nodup_append.2 ⟨?_, List.nodup_append.2 ⟨hG, hG2, fun a ha b hb he => hd a ha (he ▸ hb)⟩, fun a ha b hb he => ?_⟩, fun b hb => ⟨?_, OwnC.lt _ _ _ hc b hb⟩⟩
  · unfold ownB
    cases v'.ownBlock <;> simp
  · subst he
    have := hvn a (mem_ownB.1 ha)
    rcases List.mem_append.1 hb with hb | hb
    · exact this.1 hb
    · exact this.2 hb
  · rcases List.mem_append.1 hb with hb | hb
    · exact (ho.lt b (mem_ownB.1 hb)).1
    · rcases List.mem_append.1 hb with hb | hb
      · exact h1 b hb
      · exact h2 b hb
/-- Every plain value of the cells takes one cell. -/
theorem OwnL.onecell {w : World} : ∀ (xs : List Cel) (F : List Nat) (us : List Value), OwnL w xs F us → (∀ x, x ∈ xs → ∀ u, x = .v u → u.oneCell' = true) → ∀ u, u ∈ us → u.oneCell' = true
  | [], F, us, h, ho, u, hu => by obtain ⟨_, rfl⟩ := h.unnil; cases hu
  | x :: r, F, us, h, ho, u, hu => by
    obtain ⟨a, us', F1, F2, rfl, rfl, hx, hr⟩ := h.uncons
    rcases List.mem_cons.1 hu with rfl | hu
    · cases x with
      | v y =>
        obtain ⟨_, rfl⟩ := hx.val
        exact ho _ (by simp) _ rfl
      | s e k n ys =>
        obtain ⟨A, c, rfl⟩ := hx.form
        rfl
    · exact OwnL.onecell r F2 us' hr (fun x hx => ho x (by simp [hx])) u hu
/-- An owned struct's cells as an append takes them: in a block of their own. -/
theorem rd_new (w : World) (t : TypeId) (k : Nat) (us : List Value) (h : us.length = k) : Rd (w.alloc (.cells us.toArray t)) (w.heap.size + 1) k (.slice (some ⟨w.heap.size, 0, none⟩) 1 1) 1 us := by
  refine ⟨_, 1, rfl, Nat.le_refl _, by unfold maxLen; omega, by omega, fun _ => ⟨w.heap.size, 0, rfl, by omega, fun j u hu => ?_⟩⟩
  rw [Nat.zero_add, World.cell?_alloc_new]
  simpa using hu
end Go.Proofs.YtgbeenieacnanaaDoor
