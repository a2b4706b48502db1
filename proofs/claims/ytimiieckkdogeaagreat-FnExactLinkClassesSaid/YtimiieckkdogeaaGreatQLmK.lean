/-
  Parts of the proof: LmK. Conditions: none.
-/
import Derived.Test.YtimiieckkdogeaaGreatQLmC
set_option linter.unusedVariables false
set_option linter.unusedSimpArgs false
namespace Go.Proofs.YtimiieckkdogeaaGreat
open Go.ChangeShapes Go.WideShapes Go.ChangeAt Go.RowKit Go.Deep Go.Joins
open Go.ChangeMaps (open_string shut_string)
set_option maxRecDepth 100000
theorem find_K (K : List CV) (s : ByteArray) (A : Option Addr) (c : Nat) (w X : World) (hKl : K.length ≤ 1000000000) (hKr : RdK w w.heap.size K (.slice A K.length c)) (hp : ∀ p, p ∈ K → PlC p.1) (hb : Below w.heap.size w X) :
    Calls Tryz.prog 24 #[.slice A K.length c, .string s] X fun e w' => e = .returned (.int .i64 (fidx FClass.nm (K.map Prod.fst) s)) ∧ Below X.heap.size X w' ∧ Below w.heap.size w w' := by
  have hc := hKr.rdC hp
  have e : (K.map Prod.fst).length = K.length := List.length_map ..
  have h := find_any (K.map Prod.fst) s A c w X (Nat.le_refl _) (by rw [e]; exact hKl) (by rw [e] at hc ⊢; exact hc) hb
  rw [e] at h
  exact h
theorem build_K (x : FNode) (hx : ClO x) (J : List CV) (A3 : Option Addr) (c3 : Nat) (At : Option Addr) (ct : Nat) (pa pp : ByteArray) (fs : List FField) (ms : List FMethod) (AP : Option Addr) (cP : Nat) (AQ : Option Addr) (cQ : Nat) (w : World) (hJr : RdK w w.heap.size J (.slice At J.length ct))
    (hPf : Rd w w.heap.size 8 (.slice AP fs.length cP) fs.length (fvF fs)) (hPm : Rd w w.heap.size 5 (.slice AQ ms.length cQ) ms.length (fvM ms)) (r3 : RdC w w.heap.size (.s 61 4 x.kids.length (FNode.flat x.kids)) (.slice A3 x.kids.length c3)) (G : List (List UInt8)) (hG : G.length ≤ 1000000000) (hgf : GdF G fs) (hgm : GdM G ms)
    (hts : ∀ t, t ∈ J.map Prod.fst → ClG G t) (hkg : ∀ y, y ∈ x.kids → y.tx.toList ∈ G) (hz : x.kids.length ≤ 1000000000) (htl : J.length ≤ 1000000000) (k n : Int) (s : ByteArray) (hk : k = x.kd ∧ n = x.nu ∧ s = x.tx) :
    Calls Tryz.prog 25 #[.agg #[.int .i64 k, .int .i64 n, .string s, .slice A3 x.kids.length c3], .agg #[.string pa, .string pp, .slice AP fs.length cP, .slice AQ ms.length cQ], .slice At J.length ct] w fun e w' => LcR w w' e (bldC x pa fs ms (J.map Prod.fst)) := by
  obtain ⟨z0, z1, z2, z3⟩ := x
  obtain ⟨rfl, rfl, rfl⟩ := hk
  have eJ : (J.map Prod.fst).length = J.length := List.length_map ..
  have hJr2 : RdK w w.heap.size J (.slice At (J.map Prod.fst).length ct) := by rw [eJ]; exact hJr
  rw [← eJ]
  exact build_go k n s z3 A3 c3 pa pp fs ms AP cP AQ cQ _ At ct w (Nat.le_refl _) J rfl hJr2 (by rw [eJ]; exact htl) hPf hPm r3 hx G hG hgf hgm hts hkg hz (fun y hy => by
    obtain ⟨cl, f, h⟩ := hx.mem y hy
    exact Nat.le_trans h.nm (by decide))
theorem two_errS {w w1 w2 w3 : World} {uF : Value} (hF : RoF w1 w.heap.size uF [errF]) (hb : Below w.heap.size w w1) (e2 : w2 = w1.alloc (.cells #[.string ⟨#[69, 114, 114, 111, 114]⟩, .string ⟨#[]⟩, uF, .slice none 0 0] 40)) (e3 : w3 = w2.alloc (.cells #[] 40)) :
    Two w3 w.heap.size [(errC, uF, .slice none 0 0)] (.slice (some ⟨w1.heap.size, 0, none⟩) 1 1) [] (.slice (some ⟨w1.heap.size + 1, 0, none⟩) 0 0) := by
  have s2 : w2.heap.size = w1.heap.size + 1 := by rw [e2]; simp
  have hs := hb.size
  have o2 : w2.ownsRow w.heap.size 40 4 (.slice (some ⟨w1.heap.size, 0, none⟩) 1 1) 1 [.string ⟨#[69, 114, 114, 111, 114]⟩, .string ⟨#[]⟩, uF, .slice none 0 0] := by rw [e2]; exact own_made w1 _ hs (by decide) (by simp)
  have o3 : w3.ownsRow w2.heap.size 40 4 (.slice (some ⟨w2.heap.size, 0, none⟩) 0 0) 0 [] := by rw [e3]; exact own_empty w2 _ 4
  have b2 : Below w1.heap.size w1 w3 := by rw [e3, e2]; exact ((Below.refl _ _).alloc (Nat.le_refl _) _).alloc (by simp) _
  have b3 : Below w2.heap.size w2 w3 := by rw [e3]; exact (Below.refl _ _).alloc (Nat.le_refl _) _
  rw [s2] at o3
  have hlt := World.ownsRow.lt hF
  have key : ∀ g, w1.heap.size ≤ g → g ∉ blkL [(errC, uF, (Value.slice none 0 0))] ++ blkL [] := fun g hg hm => by
    have hm2 : g ∈ ownB uF := by simpa [blkL, ownB, Value.ownBlock] using hm
    have := (hlt g (mem_ownB.1 hm2)).2
    omega
  refine ⟨⟨own_below o2 b3 (Nat.le_refl _), fun p hp => ?_⟩, ⟨own_up o3 fun g e => by have e9 : w1.heap.size + 1 = g := Option.some.inj e; omega, fun p hp => (by cases hp)⟩, ?_, fun g hg => ?_, fun g hg => ?_⟩
  · rw [List.mem_singleton.1 hp]
    exact ⟨own_below hF b2 (Nat.le_refl _), Ro.nil _ _⟩
  · have e9 : blkL [(errC, uF, (Value.slice none 0 0))] ++ blkL [] = ownB uF := by simp [blkL, ownB, Value.ownBlock]
    rw [e9]
    unfold ownB
    cases uF.ownBlock <;> simp
  · have e9 : w1.heap.size = g := Option.some.inj hg
    subst e9
    refine ⟨key _ (Nat.le_refl _), fun e => ?_⟩
    have e8 : w1.heap.size + 1 = w1.heap.size := Option.some.inj e
    omega
  · have e9 : w1.heap.size + 1 = g := Option.some.inj hg
    subst e9
    exact key _ (by omega)
theorem rd_nil9 (w : World) (B k : Nat) : Rd w B k (.slice none 0 0) 0 [] := ⟨none, 0, rfl, Nat.le_refl _, by decide, by simp, fun h => absurd h (by decide)⟩
theorem linkC_none {x : FNode} {cs ts : List FClass} (hb : badN cs ts x.tx = false) (hp : parC cs x.kids = none) : linkC x cs ts = (2, ⟨⟨#[]⟩, ⟨#[]⟩, [], []⟩) := by
  unfold linkC
  rw [if_neg (by rw [hb]; simp), hp]
end Go.Proofs.YtimiieckkdogeaaGreat
