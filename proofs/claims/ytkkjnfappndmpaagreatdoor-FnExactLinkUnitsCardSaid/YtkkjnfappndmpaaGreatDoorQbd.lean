/-
 Parts of the proof: LkS, LkI, LkC, LkD. Conditions: none.
-/
import Derived.Test.YtkkjnfappndmpaaGreatDoorQFold
import Derived.Test.YtkkjnfappndmpaaGreatDoorQae
import Derived.Test.YtkkjnfappndmpaaGreatDoorQbc
import Derived.Test.YtkkjnfappndmpaaGreatDoorQad
import Derived.Deep.QuietTactic
import Derived.Deep.DeepMust
import Derived.BigQuiet
import Derived.Deep.RegionHeld3
set_option linter.unusedVariables false
set_option linter.unusedSimpArgs false
namespace Go.Proofs.YtkkjnfappndmpaaGreatDoor
open Go.ChangeShapes Go.WideShapes Go.ChangeAt Go.RowKit Go.Deep Go.Joins
open Go.ChangeMaps (open_string shut_string)
set_option maxRecDepth 100000
theorem infoFieldL : (Tryz.prog.info? 79).map (fun i => (i.zero.map Value.cells, i.size, i.bytes)) = some (some #[.string ByteArray.empty, .string ByteArray.empty, .bool false, .int .i64 0, .int .i64 0, .string ByteArray.empty, .int .i64 0, .slice none 0 0], 8, 104) := by kernel_rfl
theorem infoMethodL : (Tryz.prog.info? 87).map (fun i => (i.zero.map Value.cells, i.size, i.bytes)) = some (some #[.string ByteArray.empty, .string ByteArray.empty, .string ByteArray.empty, .bool false, .bool false], 5, 56) := by kernel_rfl
theorem infoClassL : (Tryz.prog.info? 56).map (fun i => (i.zero.map Value.cells, i.size, i.bytes)) = some (some #[.string ByteArray.empty, .string ByteArray.empty, .slice none 0 0, .slice none 0 0], 4, 80) := by kernel_rfl
theorem below_drL {B : Nat} {a w : World} (h : Below B a w) : Below B a w.drew := ⟨h.os, h.tape, h.output, h.size, h.block⟩
theorem Ro.frozen {α : Type} {vs : α → List Value} {t : TypeId} {k lo g c n : Nat} {W : World} {l : List α} (h : Ro vs t k W lo (.slice (Option.some ⟨g, 0, none⟩) n c) l) (j : Nat) : W.frozen? ⟨g, j, none⟩ = false := by
 obtain ⟨A, c', e⟩ := h.form
 cases e
 exact World.ownsRow.frozenAt h j
/-- A class in the making, in a box of its own; S: blocks that stay as they are. -/
structure Lk (w0 w : World) (S : List Nat) (bc : Nat) (nm pa : ByteArray) (fs : List FField) (ms : List FMethod) (uF uM : Value) : Prop where
 box : Blk w bc 56 #[.string nm, .string pa, uF, uM]
 rf : RoF w w0.heap.size uF fs
 rm : RoM w w0.heap.size uM ms
 fm : ∀ g, uF.ownBlock = some g → uM.ownBlock ≠ some g
 be : Below w0.heap.size w0 w
 hbc : w0.heap.size ≤ bc
 nb : uF.ownBlock ≠ some bc ∧ uM.ownBlock ≠ some bc
 sp : ∀ s, s ∈ S → s < w.heap.size ∧ s ≠ bc ∧ uF.ownBlock ≠ some s ∧ uM.ownBlock ≠ some s
section
variable {w0 w w' : World} {S : List Nat} {bc : Nat} {nm pa : ByteArray} {fs : List FField} {ms : List FMethod} {uF uM : Value}
theorem Lk.below (h : Lk w0 w S bc nm pa fs ms uF uM) (hb : Below w.heap.size w w') : Lk w0 w' S bc nm pa fs ms uF uM :=
 ⟨h.box.below hb nr, h.rf.keep hb, h.rm.keep hb, h.fm, h.be.trans (hb.mono h.be.size), h.hbc, h.nb, fun s hs => by have h1 := h.sp s hs; have h2 := hb.size; exact ⟨by omega, h1.2⟩⟩
/-- One more block that stays. -/
theorem Lk.keep (h : Lk w0 w S bc nm pa fs ms uF uM) {s : Nat} (h1 : s < w.heap.size) (h2 : s ≠ bc) (h3 : uF.ownBlock ≠ some s) (h4 : uM.ownBlock ≠ some s) : Lk w0 w (s :: S) bc nm pa fs ms uF uM :=
 ⟨h.box, h.rf, h.rm, h.fm, h.be, h.hbc, h.nb, fun x hx => by rcases List.mem_cons.1 hx with rfl | hx; exact ⟨h1, h2, h3, h4⟩; exact h.sp x hx⟩
theorem Lk.drop {s : Nat} (h : Lk w0 w (s :: S) bc nm pa fs ms uF uM) : Lk w0 w S bc nm pa fs ms uF uM :=
 ⟨h.box, h.rf, h.rm, h.fm, h.be, h.hbc, h.nb, fun x hx => h.sp x (List.mem_cons_of_mem _ hx)⟩
/-- A block made now. -/
theorem Lk.fresh (h : Lk w0 w S bc nm pa fs ms uF uM) (o : Obj) : Lk w0 (w.alloc o) (w.heap.size :: S) bc nm pa fs ms uF uM := by
 refine (h.below ((Below.refl _ _).alloc nr o)).keep qag (fun e => ?_) (fun e => ?_) (fun e => ?_)
 ·have := h.box.lt; omega
 ·have := (World.ownsRow.lt h.rf _ e).2; omega
 ·have := (World.ownsRow.lt h.rm _ e).2; omega
theorem own_setCell {lo k n : Nat} {e : TypeId} {v : Value} {xs : List Value} {p : Addr} (h : w.ownsRow lo e k v n xs) (hp : v.ownBlock ≠ some p.block) (u : Value) : (w.setCell p u).ownsRow lo e k v n xs :=
 own_keep h fun g hg => Below.heap_setCell _ _ _ _ (fun e2 => hp (by rw [hg, e2]))
/-- An append to the row of fields. -/
theorem Lk.newF {X w7 : World} {v7 : Value} {f : FField} (h : Lk w0 w S bc nm pa fs ms uF uM) (hb : Below w.heap.size w X) (ho : w7.ownsRow w0.heap.size 79 8 v7 (fs.length + 1) (fvF fs ++ f.vs)) (hg : X.grownBy w7 uF.ownBlock) (hat : v7.ownBlock = uF.ownBlock ∨ v7.ownBlock = some X.heap.size) :
  Lk w0 (w7.setCell ⟨bc, 2, none⟩ v7) S bc nm pa (fs ++ [f]) ms v7 uM ∧ ∀ s, s ∈ S → (w7.setCell ⟨bc, 2, none⟩ v7).heap[s]? = w.heap[s]? := by
 have h' := h.below hb
 have hbx := h'.box.lt
 have hF := World.ownsRow.lt h'.rf
 have hM := World.ownsRow.lt h'.rm
 have b7 : Blk w7 bc 56 #[.string nm, .string pa, uF, uM] := (hg.block bc hbx fun e => h'.nb.1 e.symm).trans h'.box
 have hv7 : ∀ g, v7.ownBlock = some g → uF.ownBlock = some g ∨ X.heap.size = g := fun g e => by
  rcases hat with h1 | h1
  ·exact .inl (h1 ▸ e)
  ·rw [h1] at e; exact .inr (Option.some.inj e)
 have o7 : RoF w7 w0.heap.size v7 (fs ++ [f]) := Ro.push ho
 have q7 : RoM w7 w0.heap.size uM ms := own_grown h'.rm hg fun g e e2 => h.fm g e2 e
 have sz : X.heap.size ≤ w7.heap.size := hg.size
 have nb7 : v7.ownBlock ≠ some bc := fun e => by rcases hv7 _ e with h1 | h1; exact h'.nb.1 h1; omega
 have kp : ∀ s, s ≠ bc → (w7.setCell ⟨bc, 2, none⟩ v7).heap[s]? = w7.heap[s]? := fun s hs => Below.heap_setCell _ _ _ _ (by show s ≠ bc; exact hs)
 refine ⟨⟨?_, ?_, ?_, ?_, ?_, h.hbc, ?_, ?_⟩, ?_⟩
 ·simpa using Blk.set_ b7 2 v7
 ·exact own_setCell o7 nb7 _
 ·exact own_setCell q7 h.nb.2 _
 ·intro g e
  skip
  rcases hv7 _ e with h1 | h1
  ·exact h.fm _ h1
  ·exact fun e2 => by have := (hM _ e2).2; omega
 ·exact (h'.be.grown hg qbu fun g e => (hF g e).1).setCell qbs _
 ·exact ⟨nb7, h.nb.2⟩
 ·intro s hs
  have h1 := h'.sp s hs
  refine ⟨by simp; omega, h1.2.1, ?_⟩
  have h2 : v7.ownBlock ≠ some s := fun e => by
   rcases hv7 _ e with h3 | h3
   ·exact h1.2.2.1 h3
   ·omega
  exact ⟨h2, h1.2.2.2⟩
 ·intro s hs
  have h1 := h'.sp s hs
  have h0 := h.sp s hs
  rw [kp s h1.2.1, hg.block s h1.1 fun e => h1.2.2.1 e.symm]
  exact hb.block s h0.1
/-- A store into the row of fields. -/
theorem Lk.putF {X : World} {g c n i : Nat} {f x : FField} (h : Lk w0 w S bc nm pa fs ms (.slice (some ⟨g, 0, none⟩) n c) uM) (hb : Below w.heap.size w X) (hx : fs[i]? = some x) :
  Lk w0 (stW X g (i * 8) f.vs) S bc nm pa (fs.set i f) ms (.slice (some ⟨g, 0, none⟩) n c) uM ∧ ∀ s, s ∈ S → (stW X g (i * 8) f.vs).heap[s]? = w.heap[s]? := by
 have h' := h.below hb
 obtain ⟨A', c', e'⟩ := h'.rf.form
 cases e'
 obtain ⟨o7, hg⟩ := Ro.put FField.vlen h'.rf hx f
 have gx : (Value.slice (some ⟨g, 0, none⟩) fs.length c).ownBlock = some g := rfl
 have hX := World.ownsRow.lt h'.rf
 have sz : X.heap.size ≤ (stW X g (i * 8) f.vs).heap.size := hg.size
 refine ⟨⟨?_, ?_, ?_, h.fm, ?_, h.hbc, h.nb, ?_⟩, ?_⟩
 ·exact (hg.block bc h'.box.lt fun e => h'.nb.1 (gx.trans e.symm)).trans h'.box
 ·exact o7
 ·exact own_grown h'.rm hg fun j e e2 => h.fm j (gx.trans e2) e
 ·exact h'.be.grown hg qbu fun j e => by rw [← Option.some.inj e]; exact (hX g gx).1
 ·intro s hs
  have h1 := h'.sp s hs
  exact ⟨by omega, h1.2⟩
 ·intro s hs
  have h1 := h'.sp s hs
  have h0 := h.sp s hs
  rw [hg.block s h1.1 fun e => h1.2.2.1 (gx.trans e.symm)]
  exact hb.block s h0.1
/-- An append to the row of methods. -/
theorem Lk.newM {X w7 : World} {v7 : Value} {f : FMethod} (h : Lk w0 w S bc nm pa fs ms uF uM) (hb : Below w.heap.size w X) (ho : w7.ownsRow w0.heap.size 87 5 v7 (ms.length + 1) (fvM ms ++ f.vs)) (hg : X.grownBy w7 uM.ownBlock) (hat : v7.ownBlock = uM.ownBlock ∨ v7.ownBlock = some X.heap.size) :
  Lk w0 (w7.setCell ⟨bc, 3, none⟩ v7) S bc nm pa fs (ms ++ [f]) uF v7 ∧ ∀ s, s ∈ S → (w7.setCell ⟨bc, 3, none⟩ v7).heap[s]? = w.heap[s]? := by
 have h' := h.below hb
 have hbx := h'.box.lt
 have hF := World.ownsRow.lt h'.rf
 have hM := World.ownsRow.lt h'.rm
 have b7 : Blk w7 bc 56 #[.string nm, .string pa, uF, uM] := (hg.block bc hbx fun e => h'.nb.2 e.symm).trans h'.box
 have hv7 : ∀ g, v7.ownBlock = some g → uM.ownBlock = some g ∨ X.heap.size = g := fun g e => by
  rcases hat with h1 | h1
  ·exact .inl (h1 ▸ e)
  ·rw [h1] at e; exact .inr (Option.some.inj e)
 have o7 : RoM w7 w0.heap.size v7 (ms ++ [f]) := Ro.push ho
 have q7 : RoF w7 w0.heap.size uF fs := own_grown h'.rf hg fun g e e2 => h.fm g e e2
 have sz : X.heap.size ≤ w7.heap.size := hg.size
 have nb7 : v7.ownBlock ≠ some bc := fun e => by rcases hv7 _ e with h1 | h1; exact h'.nb.2 h1; omega
 have kp : ∀ s, s ≠ bc → (w7.setCell ⟨bc, 3, none⟩ v7).heap[s]? = w7.heap[s]? := fun s hs => Below.heap_setCell _ _ _ _ (by show s ≠ bc; exact hs)
 refine ⟨⟨?_, ?_, ?_, ?_, ?_, h.hbc, ?_, ?_⟩, ?_⟩
 ·simpa using Blk.set_ b7 3 v7
 ·exact own_setCell q7 h.nb.1 _
 ·exact own_setCell o7 nb7 _
 ·intro g e
  intro e2
  rcases hv7 _ e2 with h1 | h1
  ·exact h.fm _ e h1
  ·have := (hF _ e).2; omega
 ·exact (h'.be.grown hg qbu fun g e => (hM g e).1).setCell qbs _
 ·exact ⟨h.nb.1, nb7⟩
 ·intro s hs
  have h1 := h'.sp s hs
  refine ⟨by simp; omega, h1.2.1, ?_⟩
  have h2 : v7.ownBlock ≠ some s := fun e => by
   rcases hv7 _ e with h3 | h3
   ·exact h1.2.2.2 h3
   ·omega
  exact ⟨h1.2.2.1, h2⟩
 ·intro s hs
  have h1 := h'.sp s hs
  have h0 := h.sp s hs
  rw [kp s h1.2.1, hg.block s h1.1 fun e => h1.2.2.2 e.symm]
  exact hb.block s h0.1
/-- A store into the row of methods. -/
theorem Lk.putM {X : World} {g c n i : Nat} {f x : FMethod} (h : Lk w0 w S bc nm pa fs ms uF (.slice (some ⟨g, 0, none⟩) n c)) (hb : Below w.heap.size w X) (hx : ms[i]? = some x) :
  Lk w0 (stW X g (i * 5) f.vs) S bc nm pa fs (ms.set i f) uF (.slice (some ⟨g, 0, none⟩) n c) ∧ ∀ s, s ∈ S → (stW X g (i * 5) f.vs).heap[s]? = w.heap[s]? := by
 have h' := h.below hb
 obtain ⟨A', c', e'⟩ := h'.rm.form
 cases e'
 obtain ⟨o7, hg⟩ := Ro.put FMethod.vlen h'.rm hx f
 have gx : (Value.slice (some ⟨g, 0, none⟩) ms.length c).ownBlock = some g := rfl
 have hX := World.ownsRow.lt h'.rm
 have sz : X.heap.size ≤ (stW X g (i * 5) f.vs).heap.size := hg.size
 refine ⟨⟨?_, ?_, ?_, h.fm, ?_, h.hbc, h.nb, ?_⟩, ?_⟩
 ·exact (hg.block bc h'.box.lt fun e => h'.nb.2 (gx.trans e.symm)).trans h'.box
 ·exact own_grown h'.rf hg fun j e e2 => h.fm j e (gx.trans e2)
 ·exact o7
 ·exact h'.be.grown hg qbu fun j e => by rw [← Option.some.inj e]; exact (hX g gx).1
 ·intro s hs
  have h1 := h'.sp s hs
  exact ⟨by omega, h1.2⟩
 ·intro s hs
  have h1 := h'.sp s hs
  have h0 := h.sp s hs
  rw [hg.block s h1.1 fun e => h1.2.2.2 (gx.trans e.symm)]
  exact hb.block s h0.1
/-- The parent's name, put. -/
theorem Lk.par (h : Lk w0 w S bc nm pa fs ms uF uM) (p : ByteArray) : Lk w0 (w.setCell ⟨bc, 1, none⟩ (.string p)) S bc nm p fs ms uF uM ∧ ∀ s, s ∈ S → (w.setCell ⟨bc, 1, none⟩ (.string p)).heap[s]? = w.heap[s]? := by
 refine ⟨⟨by simpa using Blk.set_ h.box 1 (.string p), own_setCell h.rf h.nb.1 _, own_setCell h.rm h.nb.2 _, h.fm, h.be.setCell qbs _, h.hbc, h.nb, fun s hs => by have h1 := h.sp s hs; exact ⟨by simpa using h1.1, h1.2⟩⟩, fun s hs => Below.heap_setCell _ _ _ _ (h.sp s hs).2.1⟩
/-- A block that stays (to the rows) is written. -/
theorem Lk.grownS {s : Nat} (h : Lk w0 w S bc nm pa fs ms uF uM) (hg : w.grownBy w' (some s)) (hs : s ∈ S) (hlo : w0.heap.size ≤ s) : Lk w0 w' S bc nm pa fs ms uF uM := by
 have h1 := h.sp s hs
 refine ⟨(hg.block bc h.box.lt fun e => h1.2.1 (Option.some.inj e).symm).trans h.box, own_grown h.rf hg fun g e e2 => h1.2.2.1 (by rw [e]; exact e2.symm), own_grown h.rm hg fun g e e2 => h1.2.2.2 (by rw [e]; exact e2.symm), h.fm, h.be.grown hg h.be.size fun j e => by rw [← Option.some.inj e]; exact hlo, h.hbc, h.nb, fun x hx => by have h2 := h.sp x hx; have := hg.size; exact ⟨by omega, h2.2⟩⟩
/-- An append of a whole row to the methods. -/
theorem Lk.newMs {X w7 : World} {v7 : Value} {fl : List FMethod} (h : Lk w0 w S bc nm pa fs [] uF (.slice none 0 0)) (hb : Below w.heap.size w X) (ho : w7.ownsRow w0.heap.size 87 5 v7 (0 + fl.length) ([] ++ fvM fl)) (hg : X.grownBy w7 (Value.slice none 0 0).ownBlock) (hat : v7.ownBlock = (Value.slice none 0 0).ownBlock ∨ v7.ownBlock = some X.heap.size) :
  Lk w0 (w7.setCell ⟨bc, 3, none⟩ v7) S bc nm pa fs fl uF v7 ∧ ∀ s, s ∈ S → (w7.setCell ⟨bc, 3, none⟩ v7).heap[s]? = w.heap[s]? := by
 have h' := h.below hb
 have hbx := h'.box.lt
 have hF := World.ownsRow.lt h'.rf
 have hv7 : ∀ g, v7.ownBlock = some g → X.heap.size = g := fun g e => by
  rcases hat with h1 | h1
  ·rw [h1] at e; cases e
  ·rw [h1] at e; exact Option.some.inj e
 have b7 : Blk w7 bc 56 #[.string nm, .string pa, uF, .slice none 0 0] := (hg.block bc hbx fun e => by cases e).trans h'.box
 have o7 : RoM w7 w0.heap.size v7 fl := by
  have e : 0 + fl.length = fl.length := Nat.zero_add _
  rw [e, List.nil_append] at ho
  exact ho
 have q7 : RoF w7 w0.heap.size uF fs := own_grown h'.rf hg fun g e e2 => by cases e2
 have sz : X.heap.size ≤ w7.heap.size := hg.size
 have nb7 : v7.ownBlock ≠ some bc := fun e => by have := hv7 _ e; omega
 refine ⟨⟨by simpa using Blk.set_ b7 3 v7, own_setCell q7 h.nb.1 _, own_setCell o7 nb7 _, fun g e e2 => by have := (hF _ e).2; have := hv7 _ e2; omega, (h'.be.grown hg qbu fun g e => by cases e).setCell qbs _, h.hbc, ⟨h.nb.1, nb7⟩, fun s hs => ?_⟩, fun s hs => ?_⟩
 ·have h1 := h'.sp s hs
  exact ⟨by simp; omega, h1.2.1, h1.2.2.1, fun e => by have := hv7 _ e; omega⟩
 ·have h1 := h'.sp s hs
  rw [Below.heap_setCell _ _ _ _ (show s ≠ bc from h1.2.1), hg.block s h1.1 fun e => by cases e]
  exact hb.block s (h.sp s hs).1
end
/-- The whole of linkClass's memory: the class in the making, the node's box, the result's, the declared names (a map). -/
structure LkM (w wr : World) (S : List Nat) (bm : Nat) (z0 z1 : Int) (z2 : ByteArray) (A3 : Option Addr) (m c3 : Nat) (pa : ByteArray) (fs : List FField) (ms : List FMethod) (uF uM : Value) (nD : Nat) (D : List (List UInt8)) : Prop where
 lk : Lk w wr S (w.heap.size + 1 + 1) z2 pa fs ms uF uM
 n : Blk wr w.heap.size 44 #[.int .i64 z0, .int .i64 z1, .string z2, .slice A3 m c3]
 r : Blk wr (w.heap.size + 1) 56 #[.string ⟨#[]⟩, .string ⟨#[]⟩, .slice none 0 0, .slice none 0 0]
 sn : Seen Tryz.prog 9 4 wr bm nD D
 hs : ∀ s, s = w.heap.size ∨ s = w.heap.size + 1 ∨ s = bm → s ∈ S
 hm : w.heap.size + 1 + 1 < bm
section
variable {w wr w' : World} {S : List Nat} {bm : Nat} {z0 z1 : Int} {z2 : ByteArray} {A3 : Option Addr} {m c3 : Nat} {pa pa' : ByteArray} {fs fs' : List FField} {ms ms' : List FMethod} {uF uM uF' uM' : Value} {nD : Nat} {D : List (List UInt8)}
theorem LkM.stay (h : LkM w wr S bm z0 z1 z2 A3 m c3 pa fs ms uF uM nD D) (l : Lk w w' S (w.heap.size + 1 + 1) z2 pa' fs' ms' uF' uM') (fr : ∀ s, s ∈ S → w'.heap[s]? = wr.heap[s]?) : LkM w w' S bm z0 z1 z2 A3 m c3 pa' fs' ms' uF' uM' nD D :=
 ⟨l, (fr _ (h.hs _ (.inl rfl))).trans h.n, (fr _ (h.hs _ (.inr (.inl rfl)))).trans h.r, h.sn.block (fr _ (h.hs _ (.inr (.inr rfl)))), h.hs, h.hm⟩
theorem LkM.below (h : LkM w wr S bm z0 z1 z2 A3 m c3 pa fs ms uF uM nD D) (hb : Below wr.heap.size wr w') : LkM w w' S bm z0 z1 z2 A3 m c3 pa fs ms uF uM nD D :=
 h.stay (h.lk.below hb) fun s hs => hb.block s (h.lk.sp s hs).1
theorem LkM.fresh (h : LkM w wr S bm z0 z1 z2 A3 m c3 pa fs ms uF uM nD D) (o : Obj) : LkM w (wr.alloc o) (wr.heap.size :: S) bm z0 z1 z2 A3 m c3 pa fs ms uF uM nD D := by
 have hb : Below wr.heap.size wr (wr.alloc o) := (Below.refl _ _).alloc nr o
 have h1 := h.below hb
 exact ⟨h.lk.fresh o, h1.n, h1.r, h1.sn, fun s hs => List.mem_cons_of_mem _ (h.hs s hs), h.hm⟩
theorem LkM.drop {s : Nat} (h : LkM w wr (s :: S) bm z0 z1 z2 A3 m c3 pa fs ms uF uM nD D) (hs : ∀ s, s = w.heap.size ∨ s = w.heap.size + 1 ∨ s = bm → s ∈ S) : LkM w wr S bm z0 z1 z2 A3 m c3 pa fs ms uF uM nD D :=
 ⟨h.lk.drop, h.n, h.r, h.sn, hs, h.hm⟩
/-- A box of one's own is written. -/
theorem LkM.box {s : Nat} (h : LkM w wr S bm z0 z1 z2 A3 m c3 pa fs ms uF uM nD D) (hg : wr.grownBy w' (some s)) (hs : s ∈ S) (hm : bm < s) : LkM w w' S bm z0 z1 z2 A3 m c3 pa fs ms uF uM nD D := by
 have hm0 := h.hm
 have kp : ∀ x, x ∈ S → x ≠ s → w'.heap[x]? = wr.heap[x]? := fun x hx hne => hg.block x (h.lk.sp x hx).1 fun e => hne (Option.some.inj e)
 refine ⟨h.lk.grownS hg hs qaa, (kp _ (h.hs _ (.inl rfl)) qaa).trans h.n, (kp _ (h.hs _ (.inr (.inl rfl))) qaa).trans h.r, h.sn.block (kp _ (h.hs _ (.inr (.inr rfl))) qaa), h.hs, h.hm⟩
/-- A name is put into the map. -/
theorem LkM.mapped {nD' : Nat} {D' : List (List UInt8)} (h : LkM w wr S bm z0 z1 z2 A3 m c3 pa fs ms uF uM nD D) (hg : wr.grownBy w' (some bm)) (hsn : Seen Tryz.prog 9 4 w' bm nD' D') : LkM w w' S bm z0 z1 z2 A3 m c3 pa fs ms uF uM nD' D' := by
 have hm0 := h.hm
 have kp : ∀ x, x ∈ S → x ≠ bm → w'.heap[x]? = wr.heap[x]? := fun x hx hne => hg.block x (h.lk.sp x hx).1 fun e => hne (Option.some.inj e)
 exact ⟨h.lk.grownS hg (h.hs _ (.inr (.inr rfl))) qaa, (kp _ (h.hs _ (.inl rfl)) qaa).trans h.n, (kp _ (h.hs _ (.inr (.inl rfl))) qaa).trans h.r, hsn, h.hs, h.hm⟩
end
set_option maxHeartbeats 40000000
open Lib (hid)
theorem IntValue_impl (n : Int) (w : World) : Calls Tryz.prog 116 #[.int .i64 n] w fun e w' => e = .returned (.agg #[.int .i64 2, .int .i64 n, .string ⟨#[]⟩, .int .i64 0, .slice none 0 0]) ∧ Below w.heap.size w w' := by
 go_enter Tryz.func116, Tryz.ntmps116
 have b := Blk.new w 77 #[.int .i64 0, .int .i64 0, .string ⟨#[]⟩, .int .i64 0, .slice none 0 0]
 have hB := hid ((Below.refl w.heap.size w).alloc nr (.cells #[.int .i64 0, .int .i64 0, .string ⟨#[]⟩, .int .i64 0, .slice none 0 0] 77))
 go_wp2_with fail
 generalize w.alloc (.cells #[.int .i64 0, .int .i64 0, .string ⟨#[]⟩, .int .i64 0, .slice none 0 0] 77) = X at *
 have b0 := b.cell 0
 have b1 := b.cell 1
 have b2 := b.cell 2
 have b3 := b.cell 3
 have b4 := b.cell 4
 have bl := b.lt
 have bf := fun i => b.frozen i
 refine bodyPost_ret (v := .agg #[.int .i64 2, .int .i64 n, .string ⟨#[]⟩, .int .i64 0, .slice none 0 0]) (by simp [results, Tryz.results116, go_sem, b0, b1, b2, b3, b4, bl, bf]) rfl ⟨rfl, ?_⟩
 exact zz48
theorem TextValue_impl (s : ByteArray) (w : World) : Calls Tryz.prog 117 #[.string s] w fun e w' => e = .returned (.agg #[.int .i64 3, .int .i64 0, .string s, .int .i64 0, .slice none 0 0]) ∧ Below w.heap.size w w' := by
 go_enter Tryz.func117, Tryz.ntmps117
 have b := Blk.new w 77 #[.int .i64 0, .int .i64 0, .string ⟨#[]⟩, .int .i64 0, .slice none 0 0]
 have hB := hid ((Below.refl w.heap.size w).alloc nr (.cells #[.int .i64 0, .int .i64 0, .string ⟨#[]⟩, .int .i64 0, .slice none 0 0] 77))
 go_wp2_with fail
 generalize w.alloc (.cells #[.int .i64 0, .int .i64 0, .string ⟨#[]⟩, .int .i64 0, .slice none 0 0] 77) = X at *
 have b0 := b.cell 0
 have b1 := b.cell 1
 have b2 := b.cell 2
 have b3 := b.cell 3
 have b4 := b.cell 4
 have bl := b.lt
 have bf := fun i => b.frozen i
 refine bodyPost_ret (v := .agg #[.int .i64 3, .int .i64 0, .string s, .int .i64 0, .slice none 0 0]) (by simp [results, Tryz.results117, go_sem, b0, b1, b2, b3, b4, bl, bf]) rfl ⟨rfl, ?_⟩
 exact zz48
theorem NullValue_impl (w : World) : Calls Tryz.prog 118 #[] w fun e w' => e = .returned (.agg #[.int .i64 0, .int .i64 0, .string ⟨#[]⟩, .int .i64 0, .slice none 0 0]) ∧ Below w.heap.size w w' := by
 go_enter Tryz.func118, Tryz.ntmps118
 have b := Blk.new w 77 #[.int .i64 0, .int .i64 0, .string ⟨#[]⟩, .int .i64 0, .slice none 0 0]
 have hB := hid ((Below.refl w.heap.size w).alloc nr (.cells #[.int .i64 0, .int .i64 0, .string ⟨#[]⟩, .int .i64 0, .slice none 0 0] 77))
 go_wp2_with fail
 generalize w.alloc (.cells #[.int .i64 0, .int .i64 0, .string ⟨#[]⟩, .int .i64 0, .slice none 0 0] 77) = X at *
 have b0 := b.cell 0
 have b1 := b.cell 1
 have b2 := b.cell 2
 have b3 := b.cell 3
 have b4 := b.cell 4
 have bl := b.lt
 have bf := fun i => b.frozen i
 refine bodyPost_ret (v := .agg #[.int .i64 0, .int .i64 0, .string ⟨#[]⟩, .int .i64 0, .slice none 0 0]) (by simp [results, Tryz.results118, go_sem, b0, b1, b2, b3, b4, bl, bf]) rfl ⟨rfl, ?_⟩
 exact zz48
theorem BoolValue_impl_true (w : World) : Calls Tryz.prog 119 #[.bool true] w fun e w' => e = .returned (.agg #[.int .i64 1, .int .i64 1, .string ⟨#[]⟩, .int .i64 0, .slice none 0 0]) ∧ Below w.heap.size w w' := by
 go_enter Tryz.func119, Tryz.ntmps119
 have b := Blk.new w 77 #[.int .i64 0, .int .i64 0, .string ⟨#[]⟩, .int .i64 0, .slice none 0 0]
 have hB := hid ((Below.refl w.heap.size w).alloc nr (.cells #[.int .i64 0, .int .i64 0, .string ⟨#[]⟩, .int .i64 0, .slice none 0 0] 77))
 go_wp2_with fail
 generalize w.alloc (.cells #[.int .i64 0, .int .i64 0, .string ⟨#[]⟩, .int .i64 0, .slice none 0 0] 77) = X at *
 have b0 := b.cell 0
 have b1 := b.cell 1
 have b2 := b.cell 2
 have b3 := b.cell 3
 have b4 := b.cell 4
 have bl := b.lt
 have bf := fun i => b.frozen i
 refine bodyPost_ret (v := .agg #[.int .i64 1, .int .i64 1, .string ⟨#[]⟩, .int .i64 0, .slice none 0 0]) (by simp [results, Tryz.results119, go_sem, b0, b1, b2, b3, b4, bl, bf]) rfl ⟨rfl, ?_⟩
 exact zz48
theorem BoolValue_impl_false (w : World) : Calls Tryz.prog 119 #[.bool false] w fun e w' => e = .returned (.agg #[.int .i64 1, .int .i64 0, .string ⟨#[]⟩, .int .i64 0, .slice none 0 0]) ∧ Below w.heap.size w w' := by
 go_enter Tryz.func119, Tryz.ntmps119
 have b := Blk.new w 77 #[.int .i64 0, .int .i64 0, .string ⟨#[]⟩, .int .i64 0, .slice none 0 0]
 have hB := hid ((Below.refl w.heap.size w).alloc nr (.cells #[.int .i64 0, .int .i64 0, .string ⟨#[]⟩, .int .i64 0, .slice none 0 0] 77))
 go_wp2_with fail
 generalize w.alloc (.cells #[.int .i64 0, .int .i64 0, .string ⟨#[]⟩, .int .i64 0, .slice none 0 0] 77) = X at *
 have b0 := b.cell 0
 have b1 := b.cell 1
 have b2 := b.cell 2
 have b3 := b.cell 3
 have b4 := b.cell 4
 have bl := b.lt
 have bf := fun i => b.frozen i
 refine bodyPost_ret (v := .agg #[.int .i64 1, .int .i64 0, .string ⟨#[]⟩, .int .i64 0, .slice none 0 0]) (by simp [results, Tryz.results119, go_sem, b0, b1, b2, b3, b4, bl, bf]) rfl ⟨rfl, ?_⟩
 exact zz48
def fvA (v : FValue) : Value := match v with | ⟨k, n, s, y, _⟩ => .agg #[.int .i64 k, .int .i64 n, .string s, .int .i64 y, .slice none 0 0]
theorem litV_impl (k n : Int) (t : ByteArray) (ks : List FNode) (A : Option Addr) (m c : Nat) (w : World) (hk : inB k 1 3 = true) :
  Calls Tryz.prog 78 #[.agg #[.int .i64 k, .int .i64 n, .string t, .slice A m c]] w fun e w' => e = .returned (fvA (litV ⟨k, n, t, ks⟩)) ∧ Below w.heap.size w w' := by
 have hk2 := inB_iff.1 hk
 have hk3 : 1 ≤ k ∧ k ≤ 3 := hk2
 clear hk hk2
 by_cases h1 : k = 1
 ·subst h1
  clear hk3
  show Calls Tryz.prog _ _ w fun e w' => e = .returned (.agg #[.int .i64 2, .int .i64 n, .string ⟨#[]⟩, .int .i64 0, .slice none 0 0]) ∧ Below w.heap.size w w'
  go_enter Tryz.func78, Tryz.ntmps78
  have hB := hid (((Below.refl w.heap.size w).alloc nr (.cells #[.int .i64 1, .int .i64 n, .string t, .slice A m c] 44)).alloc qag (.cells #[.int .i64 0, .int .i64 0, .string ⟨#[]⟩, .int .i64 0, .slice none 0 0] 77))
  have b := Blk.new' (w.alloc (.cells #[.int .i64 1, .int .i64 n, .string t, .slice A m c] 44)) 77 #[.int .i64 0, .int .i64 0, .string ⟨#[]⟩, .int .i64 0, .slice none 0 0] (w.heap.size + 1) qag
  go_wp2_with (go_at_call 116; refine (IntValue_impl _ _).mono ?_; rintro e w1 ⟨rfl, hb⟩; replace b := b.below hb nr; replace hB := hid (hB.out.trans (hb.mono hB.out.size)); clear hb; have b0 := b.cell 0; have b1 := b.cell 1; have b2 := b.cell 2; have b3 := b.cell 3; have b4 := b.cell 4; have bl := b.lt; have bf := fun i => b.frozen i)
  refine bodyPost_ret (v := .agg #[.int .i64 2, .int .i64 n, .string ⟨#[]⟩, .int .i64 0, .slice none 0 0]) qba rfl ⟨rfl, ?_⟩
  exact zz83
 by_cases h2 : k = 2
 ·subst h2
  clear hk3
  show Calls Tryz.prog _ _ w fun e w' => e = .returned (.agg #[.int .i64 3, .int .i64 0, .string t, .int .i64 0, .slice none 0 0]) ∧ Below w.heap.size w w'
  go_enter Tryz.func78, Tryz.ntmps78
  have hB := hid (((Below.refl w.heap.size w).alloc nr (.cells #[.int .i64 2, .int .i64 n, .string t, .slice A m c] 44)).alloc qag (.cells #[.int .i64 0, .int .i64 0, .string ⟨#[]⟩, .int .i64 0, .slice none 0 0] 77))
  have b := Blk.new' (w.alloc (.cells #[.int .i64 2, .int .i64 n, .string t, .slice A m c] 44)) 77 #[.int .i64 0, .int .i64 0, .string ⟨#[]⟩, .int .i64 0, .slice none 0 0] (w.heap.size + 1) qag
  go_wp2_with (go_at_call 117; refine (TextValue_impl _ _).mono ?_; rintro e w1 ⟨rfl, hb⟩; replace b := b.below hb nr; replace hB := hid (hB.out.trans (hb.mono hB.out.size)); clear hb; have b0 := b.cell 0; have b1 := b.cell 1; have b2 := b.cell 2; have b3 := b.cell 3; have b4 := b.cell 4; have bl := b.lt; have bf := fun i => b.frozen i)
  refine bodyPost_ret (v := .agg #[.int .i64 3, .int .i64 0, .string t, .int .i64 0, .slice none 0 0]) qba rfl ⟨rfl, ?_⟩
  exact zz83
 obtain rfl : k = 3 := qaa
 clear hk3 h1 h2
 by_cases h0 : n = 0
 ·subst h0
  show Calls Tryz.prog _ _ w fun e w' => e = .returned (.agg #[.int .i64 0, .int .i64 0, .string ⟨#[]⟩, .int .i64 0, .slice none 0 0]) ∧ Below w.heap.size w w'
  go_enter Tryz.func78, Tryz.ntmps78
  have hB := hid (((Below.refl w.heap.size w).alloc nr (.cells #[.int .i64 3, .int .i64 0, .string t, .slice A m c] 44)).alloc qag (.cells #[.int .i64 0, .int .i64 0, .string ⟨#[]⟩, .int .i64 0, .slice none 0 0] 77))
  have b := Blk.new' (w.alloc (.cells #[.int .i64 3, .int .i64 0, .string t, .slice A m c] 44)) 77 #[.int .i64 0, .int .i64 0, .string ⟨#[]⟩, .int .i64 0, .slice none 0 0] (w.heap.size + 1) qag
  go_wp2_with (go_at_call 118; refine (NullValue_impl _).mono ?_; rintro e w1 ⟨rfl, hb⟩; replace b := b.below hb nr; replace hB := hid (hB.out.trans (hb.mono hB.out.size)); clear hb; have b0 := b.cell 0; have b1 := b.cell 1; have b2 := b.cell 2; have b3 := b.cell 3; have b4 := b.cell 4; have bl := b.lt; have bf := fun i => b.frozen i)
  refine bodyPost_ret (v := .agg #[.int .i64 0, .int .i64 0, .string ⟨#[]⟩, .int .i64 0, .slice none 0 0]) qba rfl ⟨rfl, ?_⟩
  exact zz83
 have h9 : (n == 0) = false := by rw [beq_eq_false_iff_ne]; exact h0
 by_cases h2 : n = 2
 ·subst h2
  show Calls Tryz.prog _ _ w fun e w' => e = .returned (.agg #[.int .i64 1, .int .i64 1, .string ⟨#[]⟩, .int .i64 0, .slice none 0 0]) ∧ Below w.heap.size w w'
  go_enter Tryz.func78, Tryz.ntmps78
  have hB := hid (((Below.refl w.heap.size w).alloc nr (.cells #[.int .i64 3, .int .i64 2, .string t, .slice A m c] 44)).alloc qag (.cells #[.int .i64 0, .int .i64 0, .string ⟨#[]⟩, .int .i64 0, .slice none 0 0] 77))
  have b := Blk.new' (w.alloc (.cells #[.int .i64 3, .int .i64 2, .string t, .slice A m c] 44)) 77 #[.int .i64 0, .int .i64 0, .string ⟨#[]⟩, .int .i64 0, .slice none 0 0] (w.heap.size + 1) qag
  go_wp2_with (go_at_call 119; refine (BoolValue_impl_true _).mono ?_; rintro e w1 ⟨rfl, hb⟩; replace b := b.below hb nr; replace hB := hid (hB.out.trans (hb.mono hB.out.size)); clear hb; have b0 := b.cell 0; have b1 := b.cell 1; have b2 := b.cell 2; have b3 := b.cell 3; have b4 := b.cell 4; have bl := b.lt; have bf := fun i => b.frozen i)
  refine bodyPost_ret (v := .agg #[.int .i64 1, .int .i64 1, .string ⟨#[]⟩, .int .i64 0, .slice none 0 0]) qba rfl ⟨rfl, ?_⟩
  exact zz83
 have h8 : (n == 2) = false := by rw [beq_eq_false_iff_ne]; exact h2
 have e : fvA (litV ⟨3, n, t, ks⟩) = .agg #[.int .i64 1, .int .i64 0, .string ⟨#[]⟩, .int .i64 0, .slice none 0 0] := by
  exact zz110
 rw [e]
 clear h0 h2 e
 go_enter Tryz.func78, Tryz.ntmps78
 have hB := hid (((Below.refl w.heap.size w).alloc nr (.cells #[.int .i64 3, .int .i64 n, .string t, .slice A m c] 44)).alloc qag (.cells #[.int .i64 0, .int .i64 0, .string ⟨#[]⟩, .int .i64 0, .slice none 0 0] 77))
 have b := Blk.new' (w.alloc (.cells #[.int .i64 3, .int .i64 n, .string t, .slice A m c] 44)) 77 #[.int .i64 0, .int .i64 0, .string ⟨#[]⟩, .int .i64 0, .slice none 0 0] (w.heap.size + 1) qag
 go_wp2_with (go_at_call 119; refine (BoolValue_impl_false _).mono ?_; rintro e w1 ⟨rfl, hb⟩; replace b := b.below hb nr; replace hB := hid (hB.out.trans (hb.mono hB.out.size)); clear hb; have b0 := b.cell 0; have b1 := b.cell 1; have b2 := b.cell 2; have b3 := b.cell 3; have b4 := b.cell 4; have bl := b.lt; have bf := fun i => b.frozen i)
 refine bodyPost_ret (v := .agg #[.int .i64 1, .int .i64 0, .string ⟨#[]⟩, .int .i64 0, .slice none 0 0]) qba rfl ⟨rfl, ?_⟩
 exact zz83
theorem addField_new (w0 : World) (S : List Nat) (bc : Nat) (nm pa : ByteArray) (fs : List FField) (ms : List FMethod) (uM : Value) (A : Option Addr) (c : Nat) (f0 f1 : ByteArray) (f2 : Bool) (f3 f4 : Int) (f5 : ByteArray) (f6 : Int) (w : World) (h : Lk w0 w S bc nm pa fs ms (.slice A fs.length c) uM) (hp : ∀ x, x ∈ fs → x.plain) (hn : fs.length ≤ 1000000000) (hi : fidx FField.nm fs f0 = -1) :
  Calls Tryz.prog 76 #[.pointer (some ⟨bc, 0, none⟩), .agg #[.string f0, .string f1, .bool f2, .int .i64 f3, .int .i64 f4, .string f5, .int .i64 f6, .slice none 0 0]] w fun e w' => e = .returned (.bool true) ∧ ∃ v, Lk w0 w' S bc nm pa (fs ++ [(⟨f0, f1, f2, ⟨f3, f4, f5, f6, []⟩⟩ : FField)]) ms v uM ∧ ∀ s, s ∈ S → w'.heap[s]? = w.heap[s]? := by
 have hbw : Below w.heap.size w (w.alloc (.cells #[.string f0, .string f1, .bool f2, .int .i64 f3, .int .i64 f4, .string f5, .int .i64 f6, .slice none 0 0] 79)) := (Below.refl _ _).alloc nr _
 have bF := Blk.new w 79 #[.string f0, .string f1, .bool f2, .int .i64 f3, .int .i64 f4, .string f5, .int .i64 f6, .slice none 0 0]
 have H := hid h
 clear h
 go_enter Tryz.func76, Tryz.ntmps76
 go_upto_region 1 with fail
 generalize w.alloc (.cells #[.string f0, .string f1, .bool f2, .int .i64 f3, .int .i64 f4, .string f5, .int .i64 f6, .slice none 0 0] 79) = X0 at *
 have HB := hid hbw
 have HX := hid (H.out.below hbw)
 clear hbw
 have hbl := HX.out.box.lt
 have hfl := bF.lt
 have kc := HX.out.box.cell 2
 have kf := bF.cell 0
 refine lateStart (S := (fun w_ => Below X0.heap.size X0 w_)) [] qab ?_ (fun hHeld => ?_)
 ·exact zz155
 (refine lgt (i := 0) rfl qz hHeld ?_; try simp only [aS])
 (refine lgt (i := 1) rfl qz hHeld ?_; try simp only [aS])
 (refine lgt (i := 2) rfl qz hHeld ?_; try simp only [aS])
 refine lateTake (i := 3) (v := ?_) rfl qab qae qab qab qab qab (fun _ _ _ h => h) qar ?_ hHeld ?_
 rotate_left
 ·intro w_ hSw
  (try dsimp only at hSw)
  have y := (hSw.cell (p := ⟨bc, 2, none⟩) hbl).trans kc
  exact zz24
 try simp only [aS]
 (refine lgt (i := 4) rfl qz hHeld ?_; try simp only [aS])
 refine lateTake (i := 5) (v := ?_) rfl qab qae qab qab qab qab (fun _ _ _ h => h) qar ?_ hHeld ?_
 rotate_left
 ·exact zz192
 try simp only [aS]
 refine lateOne (i := 6) qab ?_
 refine lateOp (i := 6) rfl qar (fun K hK => ?_)
 go_simp
 (go_at_call 114; refine (fieldAt_any fs f0 (.slice A fs.length c) _ hn (B := X0.heap.size) hHeld.size (rdF hp (HX.out.rf.rd.below hHeld nr))).mono ?_; rw [hi]; rintro e w1 ⟨rfl, hb⟩; have hS_ := hHeld.trans (hb.mono hHeld.size); clear hb)
 clear hHeld
 refine hK.out _ _ hS_ (fun hHeld => ?_)
 clear hK K hS_
 try simp only [aS]
 (refine lgt (i := 7) rfl qz hHeld ?_; try simp only [aS])
 refine lateDone qab ?_ _
 go_upto_region 3 with fail
 have HB1 := hid (HB.out.trans (hHeld.mono HB.out.size))
 have bC := (H.out.below HB1.out).box
 have bF1 := bF.below hHeld nr
 clear hHeld bF HX hbl hfl kc kf
 refine lateStart (S := (fun w_ => Blk w_ bc 56 #[.string nm, .string pa, .slice A fs.length c, uM] ∧ Blk w_ w.heap.size 79 #[.string f0, .string f1, .bool f2, .int .i64 f3, .int .i64 f4, .string f5, .int .i64 f6, .slice none 0 0])) [10] qab ?_ (fun hHeld => ?_)
 ·(try dsimp only)
  (exact ⟨bC.drew, bF1.drew⟩)
 (refine lgt (i := 0) rfl qz hHeld ?_; try simp only [aS])
 (refine lgt (i := 1) rfl qz hHeld ?_; try simp only [aS])
 (refine lgt (i := 2) rfl qz hHeld ?_; try simp only [aS])
 (refine lgt (i := 3) rfl qz hHeld ?_; try simp only [aS])
 refine lateTake (i := 4) (v := ?_) rfl qab qae qab qab qab qab (fun _ _ _ h => h) qar ?_ hHeld ?_
 rotate_left
 ·intro w_ hSw
  (try dsimp only at hSw)
  have y := hSw.1.cell 2
  exact zz24
 try simp only [aS]
 refine lateTake (i := 5) (v := ?_) rfl qab qae qab qab qab qab (fun _ _ _ h => h) qar ?_ hHeld ?_
 rotate_left
 ·exact zz200
 try simp only [aS]
 refine lateOne (i := 6) qab ?_
 refine lateOp (i := 6) rfl qar (fun K hK => ?_)
 go_simp
 (have hS_ := And.intro (hHeld.1.alloc (.cells #[.string f0, .string f1, .bool f2, .int .i64 f3, .int .i64 f4, .string f5, .int .i64 f6, .slice none 0 0] 79)) (hHeld.2.alloc (.cells #[.string f0, .string f1, .bool f2, .int .i64 f3, .int .i64 f4, .string f5, .int .i64 f6, .slice none 0 0] 79)))
 clear hHeld
 refine hK.out _ _ hS_ (fun hHeld => ?_)
 clear hK K hS_
 try simp only [aS]
 refine lateOne (i := 7) qab ?_
 refine lateOp (i := 7) rfl qar (fun K hK => ?_)
 have HBX := hid (HB1.out.trans (((below_drL (Below.refl _ w1)).alloc nr (.cells #[.string f0, .string f1, .bool f2, .int .i64 f3, .int .i64 f4, .string f5, .int .i64 f6, .slice none 0 0] 79)).mono HB1.out.size))
 have OW := hid (H.out.below HBX.out).rf
 have LU := hid (fun g e => (World.ownsRow.lt OW.out g e).2)
 have NB := hid (H.out.below HBX.out).nb
 refine wp_append_rd _ (.tmp 20) (.tmp 22) _ rfl w0.heap.size 79 _ 8 104 Tryz.underlying53 infoFieldL rfl qae (.slice A fs.length c) fs.length _ rfl OW.out (w1.heap.size + 1) _ 1 1 [.string f0, .string f1, .bool f2, .int .i64 f3, .int .i64 f4, .string f5, .int .i64 f6, .slice none 0 0] rfl (rd_new w1.drew 79 8 [.string f0, .string f1, .bool f2, .int .i64 f3, .int .i64 f4, .string f5, .int .i64 f6, .slice none 0 0] rfl) (by intro u hu; simp only [List.mem_cons, List.not_mem_nil, or_false] at hu; rcases hu with rfl | rfl | rfl | rfl | rfl | rfl | rfl | rfl <;> rfl) qao qaa (Nat.le_trans H.out.be.size HBX.out.size) ?_
 intro v7 w7 own7 hg7 hat7
 obtain ⟨A7, c7, rfl⟩ := own_form own7
 have hS_ := And.intro ((hg7.block bc hHeld.1.lt fun e => NB.out.1 e.symm).trans hHeld.1) ((hg7.block w.heap.size hHeld.2.lt fun e => absurd (World.ownsRow.lt H.out.rf _ e.symm).2 qaa).trans hHeld.2)
 clear hHeld
 refine hK.out _ _ hS_ (fun hHeld => ?_)
 clear hK K hS_
 try simp only [aS]
 (refine lgW (i := 8) (v := ?_) qab rfl (fun _ _ _ h => h) qar ?_ hHeld ?_; rotate_left; (focus (intro w_; go_simp; (try with_reducible rfl); done)); try simp only [aS])
 (refine lgt (i := 9) rfl qz hHeld ?_; try simp only [aS])
 refine lateOne (i := 10) qab ?_
 refine lateLast (i := 10) rfl qab qar (fun K hK => ?_)
 have o_l := hHeld.1.lt; have o_f := fun i => hHeld.1.frozen i; have o2 := hHeld.1.cell 2
 go_simp
 refine hK.out _ _ ?_
 clear hK K
 try simp only [aS]
 refine lateDone qab ?_ _
 go_wp2_with fail
 go_ret
 obtain ⟨L, fr⟩ := Lk.newF (f := (⟨f0, f1, f2, ⟨f3, f4, f5, f6, []⟩⟩ : FField)) H.out HBX.out own7 hg7 hat7
 exact ⟨rfl, _, L, fr⟩
theorem addField_put (w0 : World) (S : List Nat) (bc : Nat) (nm pa : ByteArray) (fs : List FField) (ms : List FMethod) (uM : Value) (A : Option Addr) (c : Nat) (f0 f1 : ByteArray) (f2 : Bool) (f3 f4 : Int) (f5 : ByteArray) (f6 : Int) (w : World) (h : Lk w0 w S bc nm pa fs ms (.slice A fs.length c) uM) (hp : ∀ x, x ∈ fs → x.plain) (hn : fs.length ≤ 1000000000) (i : Nat) (x : FField) (hi : fidx FField.nm fs f0 = (i : Int)) (hx : fs[i]? = some x) :
  Calls Tryz.prog 76 #[.pointer (some ⟨bc, 0, none⟩), .agg #[.string f0, .string f1, .bool f2, .int .i64 f3, .int .i64 f4, .string f5, .int .i64 f6, .slice none 0 0]] w fun e w' => e = .returned (.bool (!(x.ow.toList == nm.toList))) ∧ ∃ v, Lk w0 w' S bc nm pa (fs.set i (⟨f0, f1, f2, ⟨f3, f4, f5, f6, []⟩⟩ : FField)) ms v uM ∧ ∀ s, s ∈ S → w'.heap[s]? = w.heap[s]? := by
 have hil : i < fs.length := (List.getElem?_eq_some_iff.1 hx).1
 obtain ⟨g, c', e'⟩ := h.rf.some qaa
 cases e'
 obtain ⟨x0, x1, x2, ⟨x3, x4, x5, x6, x7⟩⟩ := x
 have KR := hid (fun (W : World) (h : Ro FField.vs 79 8 W w0.heap.size (.slice (some ⟨g, 0, none⟩) fs.length c) fs) (j : Nat) (v : Value) (hv : (FField.vs ⟨x0, x1, x2, ⟨x3, x4, x5, x6, x7⟩⟩)[j]? = some v) => Ro.cell FField.vlen h hx hv)
 have HXX := hid hx
 clear hx
 have hi0 : (0 : Int) ≤ (i : Int) := qaa
 have hil2 : (i : Int) < (fs.length : Int) := qaa
 have hbw : Below w.heap.size w (w.alloc (.cells #[.string f0, .string f1, .bool f2, .int .i64 f3, .int .i64 f4, .string f5, .int .i64 f6, .slice none 0 0] 79)) := (Below.refl _ _).alloc nr _
 have bF := Blk.new w 79 #[.string f0, .string f1, .bool f2, .int .i64 f3, .int .i64 f4, .string f5, .int .i64 f6, .slice none 0 0]
 have H := hid h
 clear h
 go_enter Tryz.func76, Tryz.ntmps76
 go_upto_region 1 with fail
 generalize w.alloc (.cells #[.string f0, .string f1, .bool f2, .int .i64 f3, .int .i64 f4, .string f5, .int .i64 f6, .slice none 0 0] 79) = X0 at *
 have HB := hid hbw
 have HX := hid (H.out.below hbw)
 clear hbw
 have hbl := HX.out.box.lt
 have hfl := bF.lt
 have kc := HX.out.box.cell 2
 have kf := bF.cell 0
 refine lateStart (S := (fun w_ => Below X0.heap.size X0 w_)) [] qab ?_ (fun hHeld => ?_)
 ·exact zz155
 (refine lgt (i := 0) rfl qz hHeld ?_; try simp only [aS])
 (refine lgt (i := 1) rfl qz hHeld ?_; try simp only [aS])
 (refine lgt (i := 2) rfl qz hHeld ?_; try simp only [aS])
 refine lateTake (i := 3) (v := ?_) rfl qab qae qab qab qab qab (fun _ _ _ h => h) qar ?_ hHeld ?_
 rotate_left
 ·intro w_ hSw
  (try dsimp only at hSw)
  have y := (hSw.cell (p := ⟨bc, 2, none⟩) hbl).trans kc
  exact zz24
 try simp only [aS]
 (refine lgt (i := 4) rfl qz hHeld ?_; try simp only [aS])
 refine lateTake (i := 5) (v := ?_) rfl qab qae qab qab qab qab (fun _ _ _ h => h) qar ?_ hHeld ?_
 rotate_left
 ·exact zz192
 try simp only [aS]
 refine lateOne (i := 6) qab ?_
 refine lateOp (i := 6) rfl qar (fun K hK => ?_)
 go_simp
 (go_at_call 114; refine (fieldAt_any fs f0 (.slice (some ⟨g, 0, none⟩) fs.length c) _ hn (B := X0.heap.size) hHeld.size (rdF hp (HX.out.rf.rd.below hHeld nr))).mono ?_; rw [hi]; rintro e w1 ⟨rfl, hb⟩; have hS_ := hHeld.trans (hb.mono hHeld.size); clear hb)
 clear hHeld
 refine hK.out _ _ hS_ (fun hHeld => ?_)
 clear hK K hS_
 try simp only [aS]
 (refine lgt (i := 7) rfl qz hHeld ?_; try simp only [aS])
 refine lateDone qab ?_ _
 go_upto_region 5 with fail
 have HB1 := hid (HB.out.trans (hHeld.mono HB.out.size))
 have bC := (H.out.below HB1.out).box
 have bF1 := bF.below hHeld nr
 clear hHeld bF HX hbl hfl kc kf
 have c0 := bC.cell 0
 have c2 := bC.cell 2
 have r1 := KR.out _ (H.out.below HB1.out).rf 1 _ rfl
 go_quiet (fail)
 go_upto_region 6 with fail
 have DQ := hid (below_drewN (Below.refl w1.heap.size w1) nq)
 generalize w1.drewN nq = Z at *
 have bC2 := bC.below DQ.out nr
 have bF2 := bF1.below DQ.out nr
 have DR := hid (below_drL DQ.out)
 clear bC bF1 c0 c2 r1 DQ
 refine lateStart (S := (fun w_ => Blk w_ bc 56 #[.string nm, .string pa, .slice (some ⟨g, 0, none⟩) fs.length c, uM] ∧ Blk w_ w.heap.size 79 #[.string f0, .string f1, .bool f2, .int .i64 f3, .int .i64 f4, .string f5, .int .i64 f6, .slice none 0 0])) [7] qab ?_ (fun hHeld => ?_)
 ·(try dsimp only)
  (exact ⟨bC2.drew, bF2.drew⟩)
 generalize World.drew Z = Zd at *
 (refine lgt (i := 0) rfl qz hHeld ?_; try simp only [aS])
 (refine lgt (i := 1) rfl qz hHeld ?_; try simp only [aS])
 (refine lgt (i := 2) rfl qz hHeld ?_; try simp only [aS])
 refine lateTake (i := 3) (v := ?_) rfl qab qae qab qab qab qab (fun _ _ _ h => h) qar ?_ hHeld ?_
 rotate_left
 ·intro w_ hSw
  (try dsimp only at hSw)
  have y := hSw.1.cell 2
  exact zz24
 try simp only [aS]
 (refine lgt (i := 4) rfl qz hHeld ?_; try simp only [aS])
 refine lateTake (i := 5) (v := ?_) rfl qab qae qab qab qab qab (fun _ _ _ h => h) qar ?_ hHeld ?_
 rotate_left
 ·exact zz200
 try simp only [aS]
 (refine lgt (i := 6) rfl qz hHeld ?_; try simp only [aS])
 refine lateOne (i := 7) qab ?_
 refine lateLast (i := 7) rfl qab qar (fun K hK => ?_)
 have RW := (H.out.below (HB1.out.trans (DR.out.mono HB1.out.size))).rf; have o_f := fun j => Ro.frozen RW j; have r0 : Zd.cell? ⟨g, i * 8, none⟩ = some (.string x0) := KR.out _ RW 0 _ rfl; have r1 : Zd.cell? ⟨g, i * 8 + 1, none⟩ = some (.string x1) := KR.out _ RW 1 _ rfl; have r2 : Zd.cell? ⟨g, i * 8 + 2, none⟩ = some (.bool x2) := KR.out _ RW 2 _ rfl; have r3 : Zd.cell? ⟨g, i * 8 + 3, none⟩ = some (.int .i64 x3) := KR.out _ RW 3 _ rfl; have r4 : Zd.cell? ⟨g, i * 8 + 4, none⟩ = some (.int .i64 x4) := KR.out _ RW 4 _ rfl; have r5 : Zd.cell? ⟨g, i * 8 + 5, none⟩ = some (.string x5) := KR.out _ RW 5 _ rfl; have r6 : Zd.cell? ⟨g, i * 8 + 6, none⟩ = some (.int .i64 x6) := KR.out _ RW 6 _ rfl; have r7 : Zd.cell? ⟨g, i * 8 + 7, none⟩ = some (.slice none 0 0) := KR.out _ RW 7 _ rfl
 go_simp
 refine hK.out _ _ ?_
 clear hK K
 try simp only [aS]
 refine lateDone qab ?_ _
 go_wp2_with fail
 go_ret
 obtain ⟨L, fr⟩ := Lk.putF (f := (⟨f0, f1, f2, ⟨f3, f4, f5, f6, []⟩⟩ : FField)) H.out (HB1.out.trans (DR.out.mono HB1.out.size)) HXX.out
 exact ⟨rfl, _, L, fr⟩
theorem addMethod_new (w0 : World) (S : List Nat) (bc : Nat) (nm pa : ByteArray) (fs : List FField) (ms : List FMethod) (uF : Value) (A : Option Addr) (c : Nat) (f0 f1 f2 : ByteArray) (f3 f4 : Bool) (w : World) (h : Lk w0 w S bc nm pa fs ms uF (.slice A ms.length c)) (hn : ms.length ≤ 1000000000) (hi : fidx FMethod.nm ms f0 = -1) :
  Calls Tryz.prog 77 #[.pointer (some ⟨bc, 0, none⟩), .agg #[.string f0, .string f1, .string f2, .bool f3, .bool f4]] w fun e w' => e = .returned (.bool true) ∧ ∃ v, Lk w0 w' S bc nm pa fs (ms ++ [(⟨f0, f1, f2, f3, f4⟩ : FMethod)]) uF v ∧ ∀ s, s ∈ S → w'.heap[s]? = w.heap[s]? := by
 have hbw : Below w.heap.size w (w.alloc (.cells #[.string f0, .string f1, .string f2, .bool f3, .bool f4] 87)) := (Below.refl _ _).alloc nr _
 have bF := Blk.new w 87 #[.string f0, .string f1, .string f2, .bool f3, .bool f4]
 have H := hid h
 clear h
 go_enter Tryz.func77, Tryz.ntmps77
 go_upto_region 1 with fail
 generalize w.alloc (.cells #[.string f0, .string f1, .string f2, .bool f3, .bool f4] 87) = X0 at *
 have HB := hid hbw
 have HX := hid (H.out.below hbw)
 clear hbw
 have hbl := HX.out.box.lt
 have hfl := bF.lt
 have kc := HX.out.box.cell 3
 have kf := bF.cell 0
 refine lateStart (S := (fun w_ => Below X0.heap.size X0 w_)) [] qab ?_ (fun hHeld => ?_)
 ·exact zz155
 (refine lgt (i := 0) rfl qz hHeld ?_; try simp only [aS])
 (refine lgt (i := 1) rfl qz hHeld ?_; try simp only [aS])
 (refine lgt (i := 2) rfl qz hHeld ?_; try simp only [aS])
 refine lateTake (i := 3) (v := ?_) rfl qab qae qab qab qab qab (fun _ _ _ h => h) qar ?_ hHeld ?_
 rotate_left
 ·intro w_ hSw
  (try dsimp only at hSw)
  have y := (hSw.cell (p := ⟨bc, 3, none⟩) hbl).trans kc
  exact zz24
 try simp only [aS]
 (refine lgt (i := 4) rfl qz hHeld ?_; try simp only [aS])
 refine lateTake (i := 5) (v := ?_) rfl qab qae qab qab qab qab (fun _ _ _ h => h) qar ?_ hHeld ?_
 rotate_left
 ·exact zz192
 try simp only [aS]
 refine lateOne (i := 6) qab ?_
 refine lateOp (i := 6) rfl qar (fun K hK => ?_)
 go_simp
 (go_at_call 115; refine (methodAt_any ms f0 (.slice A ms.length c) _ hn (B := X0.heap.size) hHeld.size (rdM (HX.out.rm.rd.below hHeld nr))).mono ?_; rw [hi]; rintro e w1 ⟨rfl, hb⟩; have hS_ := hHeld.trans (hb.mono hHeld.size); clear hb)
 clear hHeld
 refine hK.out _ _ hS_ (fun hHeld => ?_)
 clear hK K hS_
 try simp only [aS]
 (refine lgt (i := 7) rfl qz hHeld ?_; try simp only [aS])
 refine lateDone qab ?_ _
 go_upto_region 3 with fail
 have HB1 := hid (HB.out.trans (hHeld.mono HB.out.size))
 have bC := (H.out.below HB1.out).box
 have bF1 := bF.below hHeld nr
 clear hHeld bF HX hbl hfl kc kf
 refine lateStart (S := (fun w_ => Blk w_ bc 56 #[.string nm, .string pa, uF, .slice A ms.length c] ∧ Blk w_ w.heap.size 87 #[.string f0, .string f1, .string f2, .bool f3, .bool f4])) [10] qab ?_ (fun hHeld => ?_)
 ·(try dsimp only)
  (exact ⟨bC.drew, bF1.drew⟩)
 (refine lgt (i := 0) rfl qz hHeld ?_; try simp only [aS])
 (refine lgt (i := 1) rfl qz hHeld ?_; try simp only [aS])
 (refine lgt (i := 2) rfl qz hHeld ?_; try simp only [aS])
 (refine lgt (i := 3) rfl qz hHeld ?_; try simp only [aS])
 refine lateTake (i := 4) (v := ?_) rfl qab qae qab qab qab qab (fun _ _ _ h => h) qar ?_ hHeld ?_
 rotate_left
 ·exact zz208
 try simp only [aS]
 refine lateTake (i := 5) (v := ?_) rfl qab qae qab qab qab qab (fun _ _ _ h => h) qar ?_ hHeld ?_
 rotate_left
 ·exact zz209
 try simp only [aS]
 refine lateOne (i := 6) qab ?_
 refine lateOp (i := 6) rfl qar (fun K hK => ?_)
 go_simp
 (have hS_ := And.intro (hHeld.1.alloc (.cells #[.string f0, .string f1, .string f2, .bool f3, .bool f4] 87)) (hHeld.2.alloc (.cells #[.string f0, .string f1, .string f2, .bool f3, .bool f4] 87)))
 clear hHeld
 refine hK.out _ _ hS_ (fun hHeld => ?_)
 clear hK K hS_
 try simp only [aS]
 refine lateOne (i := 7) qab ?_
 refine lateOp (i := 7) rfl qar (fun K hK => ?_)
 have HBX := hid (HB1.out.trans (((below_drL (Below.refl _ w1)).alloc nr (.cells #[.string f0, .string f1, .string f2, .bool f3, .bool f4] 87)).mono HB1.out.size))
 have OW := hid (H.out.below HBX.out).rm
 have LU := hid (fun g e => (World.ownsRow.lt OW.out g e).2)
 have NB := hid (H.out.below HBX.out).nb
 refine wp_append_rd _ (.tmp 20) (.tmp 22) _ rfl w0.heap.size 87 _ 5 56 Tryz.underlying54 infoMethodL rfl qae (.slice A ms.length c) ms.length _ rfl OW.out (w1.heap.size + 1) _ 1 1 [.string f0, .string f1, .string f2, .bool f3, .bool f4] rfl (rd_new w1.drew 87 5 [.string f0, .string f1, .string f2, .bool f3, .bool f4] rfl) (by intro u hu; simp only [List.mem_cons, List.not_mem_nil, or_false] at hu; rcases hu with rfl | rfl | rfl | rfl | rfl <;> rfl) qao qaa (Nat.le_trans H.out.be.size HBX.out.size) ?_
 intro v7 w7 own7 hg7 hat7
 obtain ⟨A7, c7, rfl⟩ := own_form own7
 have hS_ := And.intro ((hg7.block bc hHeld.1.lt fun e => NB.out.2 e.symm).trans hHeld.1) ((hg7.block w.heap.size hHeld.2.lt fun e => absurd (World.ownsRow.lt H.out.rm _ e.symm).2 qaa).trans hHeld.2)
 clear hHeld
 refine hK.out _ _ hS_ (fun hHeld => ?_)
 clear hK K hS_
 try simp only [aS]
 (refine lgW (i := 8) (v := ?_) qab rfl (fun _ _ _ h => h) qar ?_ hHeld ?_; rotate_left; (focus (intro w_; go_simp; (try with_reducible rfl); done)); try simp only [aS])
 (refine lgt (i := 9) rfl qz hHeld ?_; try simp only [aS])
 refine lateOne (i := 10) qab ?_
 refine lateLast (i := 10) rfl qab qar (fun K hK => ?_)
 have o_l := hHeld.1.lt; have o_f := fun i => hHeld.1.frozen i; have o2 := hHeld.1.cell 3
 go_simp
 refine hK.out _ _ ?_
 clear hK K
 try simp only [aS]
 refine lateDone qab ?_ _
 go_wp2_with fail
 go_ret
 obtain ⟨L, fr⟩ := Lk.newM (f := (⟨f0, f1, f2, f3, f4⟩ : FMethod)) H.out HBX.out own7 hg7 hat7
 exact ⟨rfl, _, L, fr⟩
theorem addMethod_put (w0 : World) (S : List Nat) (bc : Nat) (nm pa : ByteArray) (fs : List FField) (ms : List FMethod) (uF : Value) (A : Option Addr) (c : Nat) (f0 f1 f2 : ByteArray) (f3 f4 : Bool) (w : World) (h : Lk w0 w S bc nm pa fs ms uF (.slice A ms.length c)) (hn : ms.length ≤ 1000000000) (i : Nat) (x : FMethod) (hi : fidx FMethod.nm ms f0 = (i : Int)) (hx : ms[i]? = some x) :
  Calls Tryz.prog 77 #[.pointer (some ⟨bc, 0, none⟩), .agg #[.string f0, .string f1, .string f2, .bool f3, .bool f4]] w fun e w' => e = .returned (.bool (!(x.ow.toList == nm.toList))) ∧ ∃ v, Lk w0 w' S bc nm pa fs (ms.set i (⟨f0, f1, f2, f3, f4⟩ : FMethod)) uF v ∧ ∀ s, s ∈ S → w'.heap[s]? = w.heap[s]? := by
 have hil : i < ms.length := (List.getElem?_eq_some_iff.1 hx).1
 obtain ⟨g, c', e'⟩ := h.rm.some qaa
 cases e'
 obtain ⟨x0, x1, x2, x3, x4⟩ := x
 have KR := hid (fun (W : World) (h : Ro FMethod.vs 87 5 W w0.heap.size (.slice (some ⟨g, 0, none⟩) ms.length c) ms) (j : Nat) (v : Value) (hv : (FMethod.vs ⟨x0, x1, x2, x3, x4⟩)[j]? = some v) => Ro.cell FMethod.vlen h hx hv)
 have HXX := hid hx
 clear hx
 have hi0 : (0 : Int) ≤ (i : Int) := qaa
 have hil2 : (i : Int) < (ms.length : Int) := qaa
 have hbw : Below w.heap.size w (w.alloc (.cells #[.string f0, .string f1, .string f2, .bool f3, .bool f4] 87)) := (Below.refl _ _).alloc nr _
 have bF := Blk.new w 87 #[.string f0, .string f1, .string f2, .bool f3, .bool f4]
 have H := hid h
 clear h
 go_enter Tryz.func77, Tryz.ntmps77
 go_upto_region 1 with fail
 generalize w.alloc (.cells #[.string f0, .string f1, .string f2, .bool f3, .bool f4] 87) = X0 at *
 have HB := hid hbw
 have HX := hid (H.out.below hbw)
 clear hbw
 have hbl := HX.out.box.lt
 have hfl := bF.lt
 have kc := HX.out.box.cell 3
 have kf := bF.cell 0
 refine lateStart (S := (fun w_ => Below X0.heap.size X0 w_)) [] qab ?_ (fun hHeld => ?_)
 ·exact zz155
 (refine lgt (i := 0) rfl qz hHeld ?_; try simp only [aS])
 (refine lgt (i := 1) rfl qz hHeld ?_; try simp only [aS])
 (refine lgt (i := 2) rfl qz hHeld ?_; try simp only [aS])
 refine lateTake (i := 3) (v := ?_) rfl qab qae qab qab qab qab (fun _ _ _ h => h) qar ?_ hHeld ?_
 rotate_left
 ·intro w_ hSw
  (try dsimp only at hSw)
  have y := (hSw.cell (p := ⟨bc, 3, none⟩) hbl).trans kc
  exact zz24
 try simp only [aS]
 (refine lgt (i := 4) rfl qz hHeld ?_; try simp only [aS])
 refine lateTake (i := 5) (v := ?_) rfl qab qae qab qab qab qab (fun _ _ _ h => h) qar ?_ hHeld ?_
 rotate_left
 ·exact zz192
 try simp only [aS]
 refine lateOne (i := 6) qab ?_
 refine lateOp (i := 6) rfl qar (fun K hK => ?_)
 go_simp
 (go_at_call 115; refine (methodAt_any ms f0 (.slice (some ⟨g, 0, none⟩) ms.length c) _ hn (B := X0.heap.size) hHeld.size (rdM (HX.out.rm.rd.below hHeld nr))).mono ?_; rw [hi]; rintro e w1 ⟨rfl, hb⟩; have hS_ := hHeld.trans (hb.mono hHeld.size); clear hb)
 clear hHeld
 refine hK.out _ _ hS_ (fun hHeld => ?_)
 clear hK K hS_
 try simp only [aS]
 (refine lgt (i := 7) rfl qz hHeld ?_; try simp only [aS])
 refine lateDone qab ?_ _
 go_upto_region 5 with fail
 have HB1 := hid (HB.out.trans (hHeld.mono HB.out.size))
 have bC := (H.out.below HB1.out).box
 have bF1 := bF.below hHeld nr
 clear hHeld bF HX hbl hfl kc kf
 have c0 := bC.cell 0
 have c2 := bC.cell 3
 have r1 := KR.out _ (H.out.below HB1.out).rm 1 _ rfl
 go_quiet (fail)
 go_upto_region 6 with fail
 have DQ := hid (below_drewN (Below.refl w1.heap.size w1) nq)
 generalize w1.drewN nq = Z at *
 have bC2 := bC.below DQ.out nr
 have bF2 := bF1.below DQ.out nr
 have DR := hid (below_drL DQ.out)
 clear bC bF1 c0 c2 r1 DQ
 refine lateStart (S := (fun w_ => Blk w_ bc 56 #[.string nm, .string pa, uF, .slice (some ⟨g, 0, none⟩) ms.length c] ∧ Blk w_ w.heap.size 87 #[.string f0, .string f1, .string f2, .bool f3, .bool f4])) [7] qab ?_ (fun hHeld => ?_)
 ·(try dsimp only)
  (exact ⟨bC2.drew, bF2.drew⟩)
 generalize World.drew Z = Zd at *
 (refine lgt (i := 0) rfl qz hHeld ?_; try simp only [aS])
 (refine lgt (i := 1) rfl qz hHeld ?_; try simp only [aS])
 (refine lgt (i := 2) rfl qz hHeld ?_; try simp only [aS])
 refine lateTake (i := 3) (v := ?_) rfl qab qae qab qab qab qab (fun _ _ _ h => h) qar ?_ hHeld ?_
 rotate_left
 ·exact zz208
 try simp only [aS]
 (refine lgt (i := 4) rfl qz hHeld ?_; try simp only [aS])
 refine lateTake (i := 5) (v := ?_) rfl qab qae qab qab qab qab (fun _ _ _ h => h) qar ?_ hHeld ?_
 rotate_left
 ·exact zz209
 try simp only [aS]
 (refine lgt (i := 6) rfl qz hHeld ?_; try simp only [aS])
 refine lateOne (i := 7) qab ?_
 refine lateLast (i := 7) rfl qab qar (fun K hK => ?_)
 have RW := (H.out.below (HB1.out.trans (DR.out.mono HB1.out.size))).rm; have o_f := fun j => Ro.frozen RW j; have r0 : Zd.cell? ⟨g, i * 5, none⟩ = some (.string x0) := KR.out _ RW 0 _ rfl; have r1 : Zd.cell? ⟨g, i * 5 + 1, none⟩ = some (.string x1) := KR.out _ RW 1 _ rfl; have r2 : Zd.cell? ⟨g, i * 5 + 2, none⟩ = some (.string x2) := KR.out _ RW 2 _ rfl; have r3 : Zd.cell? ⟨g, i * 5 + 3, none⟩ = some (.bool x3) := KR.out _ RW 3 _ rfl; have r4 : Zd.cell? ⟨g, i * 5 + 4, none⟩ = some (.bool x4) := KR.out _ RW 4 _ rfl
 go_simp
 refine hK.out _ _ ?_
 clear hK K
 try simp only [aS]
 refine lateDone qab ?_ _
 go_wp2_with fail
 go_ret
 obtain ⟨L, fr⟩ := Lk.putM (f := (⟨f0, f1, f2, f3, f4⟩ : FMethod)) H.out (HB1.out.trans (DR.out.mono HB1.out.size)) HXX.out
 exact ⟨rfl, _, L, fr⟩
theorem addField_impl (w0 : World) (S : List Nat) (bc : Nat) (nm pa : ByteArray) (fs : List FField) (ms : List FMethod) (uF uM : Value) (f : FField) (w : World) (h : Lk w0 w S bc nm pa fs ms uF uM) (hp : ∀ x, x ∈ fs → x.plain) (hf : f.plain) (hn : fs.length ≤ 1000000000) :
  Calls Tryz.prog 76 #[.pointer (some ⟨bc, 0, none⟩), .agg f.vs.toArray] w fun e w' => e = .returned (.bool (putF nm fs f).2) ∧ ∃ v, Lk w0 w' S bc nm pa (putF nm fs f).1 ms v uM ∧ ∀ s, s ∈ S → w'.heap[s]? = w.heap[s]? := by
 obtain ⟨A, c, rfl⟩ := h.rf.form
 obtain ⟨f0, f1, f2, ⟨f3, f4, f5, f6, f7⟩⟩ := f
 obtain rfl : f7 = [] := hf.2.2.2
 rcases fidx_lt FField.nm fs f0 with hi | ⟨i, x, hi, _, hx⟩
 ·rw [putF_no (nm := nm) (fs := fs) (f := ⟨f0, f1, f2, ⟨f3, f4, f5, f6, []⟩⟩) hi]
  exact addField_new w0 S bc nm pa fs ms uM A c f0 f1 f2 f3 f4 f5 f6 w h hp hn hi
 ·rw [putF_at (nm := nm) (fs := fs) (f := ⟨f0, f1, f2, ⟨f3, f4, f5, f6, []⟩⟩) hi hx]
  exact addField_put w0 S bc nm pa fs ms uM A c f0 f1 f2 f3 f4 f5 f6 w h hp hn i x hi hx
theorem addMethod_impl (w0 : World) (S : List Nat) (bc : Nat) (nm pa : ByteArray) (fs : List FField) (ms : List FMethod) (uF uM : Value) (f : FMethod) (w : World) (h : Lk w0 w S bc nm pa fs ms uF uM) (hn : ms.length ≤ 1000000000) :
  Calls Tryz.prog 77 #[.pointer (some ⟨bc, 0, none⟩), .agg f.vs.toArray] w fun e w' => e = .returned (.bool (putM nm ms f).2) ∧ ∃ v, Lk w0 w' S bc nm pa fs (putM nm ms f).1 uF v ∧ ∀ s, s ∈ S → w'.heap[s]? = w.heap[s]? := by
 obtain ⟨A, c, rfl⟩ := h.rm.form
 obtain ⟨f0, f1, f2, f3, f4⟩ := f
 rcases fidx_lt FMethod.nm ms f0 with hi | ⟨i, x, hi, _, hx⟩
 ·rw [putM_no (nm := nm) (fs := ms) (f := ⟨f0, f1, f2, f3, f4⟩) hi]
  exact addMethod_new w0 S bc nm pa fs ms uF A c f0 f1 f2 f3 f4 w h hn hi
 ·rw [putM_at (nm := nm) (fs := ms) (f := ⟨f0, f1, f2, f3, f4⟩) hi hx]
  exact addMethod_put w0 S bc nm pa fs ms uF A c f0 f1 f2 f3 f4 w h hn i x hi hx
/-- What linkClass answers: a class's cells and a code; with code 0 the class, its rows made by the call. -/
def LcR (w w' : World) (e : Ending) (r : Int × FClass) : Prop := ∃ a b A1 n1 c1 A2 n2 c2, e = .returned (.tuple #[.agg #[.string a, .string b, .slice A1 n1 c1, .slice A2 n2 c2], .int .i64 r.1]) ∧ Below w.heap.size w w' ∧
 (r.1 = 0 → a = FClass.nm r.2 ∧ b = r.2.pa ∧ RoF w' w.heap.size (.slice A1 n1 c1) r.2.fields ∧ RoM w' w.heap.size (.slice A2 n2 c2) r.2.methods ∧ ∀ g, (Value.slice A1 n1 c1).ownBlock = some g → (Value.slice A2 n2 c2).ownBlock ≠ some g)
theorem linkC_1 {x : FNode} {cs ts : List FClass} (h : badN cs ts x.tx = true) : linkC x cs ts = (1, ⟨⟨#[]⟩, ⟨#[]⟩, [], []⟩) := by unfold linkC; rw [if_pos h]
theorem class_any (l : List FClass) (s : ByteArray) (A : Option Addr) (c : Nat) (w X : World) {B : Nat} (hB0 : B ≤ w.heap.size) (hl : l.length ≤ 1000000000) (hr : RdC w B (.s 56 4 l.length (FClass.flat l)) (.slice A l.length c)) (hb : Below w.heap.size w X) :
  Calls Tryz.prog 74 #[.slice A l.length c, .string s] X fun e w' => e = .returned (.int .i64 (fidx FClass.nm l s)) ∧ Below X.heap.size X w' ∧ Below w.heap.size w w' :=
 (FindClass_impl l s _ X hl (B := B) (Nat.le_trans hB0 hb.size) (hr.below hb hB0)).mono fun e w' h => ⟨h.1, h.2, hb.trans (h.2.mono hb.size)⟩
theorem link_bad (z0 z1 : Int) (z2 : ByteArray) (z3 : List FNode) (A3 : Option Addr) (c3 : Nat) (cs ts : List FClass) (Ac : Option Addr) (cc : Nat) (At : Option Addr) (ct : Nat) (w : World) {B : Nat} (hB0 : B ≤ w.heap.size) (hc : RdC w B (.s 56 4 cs.length (FClass.flat cs)) (.slice Ac cs.length cc)) (ht : RdC w B (.s 56 4 ts.length (FClass.flat ts)) (.slice At ts.length ct)) (hcl : cs.length ≤ 1000000000) (htl : ts.length ≤ 1000000000) (hbad : badN cs ts z2 = true) : Calls Tryz.prog 43 #[.agg #[.int .i64 z0, .int .i64 z1, .string z2, .slice A3 z3.length c3], .slice Ac cs.length cc, .slice At ts.length ct] w fun e w' => LcR w w' e (linkC ⟨z0, z1, z2, z3⟩ cs ts) := by
 rw [linkC_1 hbad]
 have hq : (z2.toList == [115, 101, 108, 102] || (z2.toList == [112, 97, 114, 101, 110, 116] || (decide (0 ≤ fidx FClass.nm cs z2) || decide (0 ≤ fidx FClass.nm ts z2)))) = true := hbad
 clear hbad
 have HC := hid hc
 have HT := hid ht
 clear hc ht
 have FI := hid (fun X (hb : Below w.heap.size w X) => class_any cs z2 Ac cc w X hB0 hcl HC.out hb)
 have FJ := hid (fun X (hb : Below w.heap.size w X) => class_any ts z2 At ct w X hB0 htl HT.out hb)
 generalize fidx FClass.nm cs z2 = fi at *
 generalize fidx FClass.nm ts z2 = fj at *
 have bN := (Blk.new w 44 #[.int .i64 z0, .int .i64 z1, .string z2, .slice A3 z3.length c3]).alloc (.cells #[.string ⟨#[]⟩, .string ⟨#[]⟩, .slice none 0 0, .slice none 0 0] 56) |>.alloc (.cells #[.string z2, .string ⟨#[]⟩, .slice none 0 0, .slice none 0 0] 56)
 have bR := (Blk.new' (w.alloc (.cells #[.int .i64 z0, .int .i64 z1, .string z2, .slice A3 z3.length c3] 44)) 56 #[.string ⟨#[]⟩, .string ⟨#[]⟩, .slice none 0 0, .slice none 0 0] (w.heap.size + 1) qag).alloc (.cells #[.string z2, .string ⟨#[]⟩, .slice none 0 0, .slice none 0 0] 56)
 have bC := Blk.new' ((w.alloc (.cells #[.int .i64 z0, .int .i64 z1, .string z2, .slice A3 z3.length c3] 44)).alloc (.cells #[.string ⟨#[]⟩, .string ⟨#[]⟩, .slice none 0 0, .slice none 0 0] 56)) 56 #[.string z2, .string ⟨#[]⟩, .slice none 0 0, .slice none 0 0] (w.heap.size + 1 + 1) qag
 go_enter Tryz.func43, Tryz.ntmps43
 go_upto_region 2 with fail
 have HB := hid ((((Below.refl w.heap.size w).alloc nr (.cells #[.int .i64 z0, .int .i64 z1, .string z2, .slice A3 z3.length c3] 44)).alloc qag (.cells #[.string ⟨#[]⟩, .string ⟨#[]⟩, .slice none 0 0, .slice none 0 0] 56)).alloc qak (.cells #[.string z2, .string ⟨#[]⟩, .slice none 0 0, .slice none 0 0] 56))
 generalize ((w.alloc (.cells #[.int .i64 z0, .int .i64 z1, .string z2, .slice A3 z3.length c3] 44)).alloc (.cells #[.string ⟨#[]⟩, .string ⟨#[]⟩, .slice none 0 0, .slice none 0 0] 56)).alloc (.cells #[.string z2, .string ⟨#[]⟩, .slice none 0 0, .slice none 0 0] 56) = X0 at *
 cases h1 : (z2.toList == [115, 101, 108, 102]) <;> rw [h1] at hq
 ·cases h2 : (z2.toList == [112, 97, 114, 101, 110, 116]) <;> rw [h2] at hq
  ·cases h3 : decide (0 ≤ fi) <;> rw [h3] at hq
   ·cases h4 : decide (0 ≤ fj) <;> rw [h4] at hq
    ·simp at hq
    ·skip
     clear hq
     have bN2 := bN.cell 2
     have bC0 := bC.cell 0
     have bC1 := bC.cell 1
     have bC2 := bC.cell 2
     have bC3 := bC.cell 3
     have bCl := bC.lt
     have bCf := fun i => bC.frozen i
     have bR0 := bR.cell 0
     have bR1 := bR.cell 1
     have bR2 := bR.cell 2
     have bR3 := bR.cell 3
     have bRl := bR.lt
     have bRf := fun i => bR.frozen i
     go_wp2_with (first | (have _q := tok2; go_at_call 74; refine (FJ.out _ HB1.out).mono ?_; rintro e w2 ⟨rfl, hb, hb2⟩; have HB2 := hid hb2; replace bN := bN.below hb nr; replace bR := bR.below hb nr; replace bC := bC.below hb nr; have bN2 := bN.cell 2; have bC0 := bC.cell 0; have bC1 := bC.cell 1; have bC2 := bC.cell 2; have bC3 := bC.cell 3; have bCl := bC.lt; have bCf := fun i => bC.frozen i; have bR0 := bR.cell 0; have bR1 := bR.cell 1; have bR2 := bR.cell 2; have bR3 := bR.cell 3; have bRl := bR.lt; have bRf := fun i => bR.frozen i; clear hb hb2; have tok3 : True := trivial) | (go_at_call 74; refine (FI.out _ HB.out).mono ?_; rintro e w1 ⟨rfl, hb, hb2⟩; have HB1 := hid hb2; replace bN := bN.below hb nr; replace bR := bR.below hb nr; replace bC := bC.below hb nr; have bN2 := bN.cell 2; have bC0 := bC.cell 0; have bC1 := bC.cell 1; have bC2 := bC.cell 2; have bC3 := bC.cell 3; have bCl := bC.lt; have bCf := fun i => bC.frozen i; have bR0 := bR.cell 0; have bR1 := bR.cell 1; have bR2 := bR.cell 2; have bR3 := bR.cell 3; have bRl := bR.lt; have bRf := fun i => bR.frozen i; clear hb hb2; have tok2 : True := trivial))
     refine bodyPost_ret (v := .tuple #[.agg #[.string z2, .string ⟨#[]⟩, .slice none 0 0, .slice none 0 0], .int .i64 1]) qam rfl ⟨z2, ⟨#[]⟩, none, 0, 0, none, 0, 0, rfl, ?_, fun h => by cases h⟩
     repeat (refine Below.setCell ?_ qag _)
     exact HB2.out
   ·skip
    clear hq
    have bN2 := bN.cell 2
    have bC0 := bC.cell 0
    have bC1 := bC.cell 1
    have bC2 := bC.cell 2
    have bC3 := bC.cell 3
    have bCl := bC.lt
    have bCf := fun i => bC.frozen i
    have bR0 := bR.cell 0
    have bR1 := bR.cell 1
    have bR2 := bR.cell 2
    have bR3 := bR.cell 3
    have bRl := bR.lt
    have bRf := fun i => bR.frozen i
    go_wp2_with (first | (go_at_call 74; refine (FI.out _ HB.out).mono ?_; rintro e w1 ⟨rfl, hb, hb2⟩; have HB1 := hid hb2; replace bN := bN.below hb nr; replace bR := bR.below hb nr; replace bC := bC.below hb nr; have bN2 := bN.cell 2; have bC0 := bC.cell 0; have bC1 := bC.cell 1; have bC2 := bC.cell 2; have bC3 := bC.cell 3; have bCl := bC.lt; have bCf := fun i => bC.frozen i; have bR0 := bR.cell 0; have bR1 := bR.cell 1; have bR2 := bR.cell 2; have bR3 := bR.cell 3; have bRl := bR.lt; have bRf := fun i => bR.frozen i; clear hb hb2; have tok2 : True := trivial))
    refine bodyPost_ret (v := .tuple #[.agg #[.string z2, .string ⟨#[]⟩, .slice none 0 0, .slice none 0 0], .int .i64 1]) qam rfl ⟨z2, ⟨#[]⟩, none, 0, 0, none, 0, 0, rfl, ?_, fun h => by cases h⟩
    repeat (refine Below.setCell ?_ qag _)
    exact HB1.out
  ·skip
   exact zz49
 ·skip
  exact zz49
/-- A value without elements, copied. -/
theorem copyV_flat (k n : Int) (s : ByteArray) (y : Int) (w : World) : Calls Tryz.prog 75 #[.agg #[.int .i64 k, .int .i64 n, .string s, .int .i64 y, .slice none 0 0]] w fun e w' => e = .returned (.agg #[.int .i64 k, .int .i64 n, .string s, .int .i64 y, .slice none 0 0]) ∧ Below w.heap.size w w' := by
 have b1 := (Blk.new' (w.alloc (.cells #[.int .i64 k, .int .i64 n, .string s, .int .i64 y, .slice none 0 0] 77)) 77 #[.int .i64 0, .int .i64 0, .string ⟨#[]⟩, .int .i64 0, .slice none 0 0] (w.heap.size + 1) qag).alloc (.cells #[.int .i64 k, .int .i64 n, .string s, .int .i64 y, .slice none 0 0] 77)
 have b2 := Blk.new' ((w.alloc (.cells #[.int .i64 k, .int .i64 n, .string s, .int .i64 y, .slice none 0 0] 77)).alloc (.cells #[.int .i64 0, .int .i64 0, .string ⟨#[]⟩, .int .i64 0, .slice none 0 0] 77)) 77 #[.int .i64 k, .int .i64 n, .string s, .int .i64 y, .slice none 0 0] (w.heap.size + 1 + 1) qag
 have b0 := ((Blk.new w 77 #[.int .i64 k, .int .i64 n, .string s, .int .i64 y, .slice none 0 0]).alloc (.cells #[.int .i64 0, .int .i64 0, .string ⟨#[]⟩, .int .i64 0, .slice none 0 0] 77)).alloc (.cells #[.int .i64 k, .int .i64 n, .string s, .int .i64 y, .slice none 0 0] 77)
 go_enter Tryz.func75, Tryz.ntmps75
 go_upto_region 3 with fail
 have HB := Lib.hid ((((Below.refl w.heap.size w).alloc nr (.cells #[.int .i64 k, .int .i64 n, .string s, .int .i64 y, .slice none 0 0] 77)).alloc qag (.cells #[.int .i64 0, .int .i64 0, .string ⟨#[]⟩, .int .i64 0, .slice none 0 0] 77)).alloc qak (.cells #[.int .i64 k, .int .i64 n, .string s, .int .i64 y, .slice none 0 0] 77))
 generalize ((w.alloc (.cells #[.int .i64 k, .int .i64 n, .string s, .int .i64 y, .slice none 0 0] 77)).alloc (.cells #[.int .i64 0, .int .i64 0, .string ⟨#[]⟩, .int .i64 0, .slice none 0 0] 77)).alloc (.cells #[.int .i64 k, .int .i64 n, .string s, .int .i64 y, .slice none 0 0] 77) = X at *
 have b00 := b0.cell 0; have b01 := b0.cell 1; have b02 := b0.cell 2; have b03 := b0.cell 3; have b04 := b0.cell 4; have b0l := b0.lt; have b0f := fun i => b0.frozen i
 have b10 := b1.cell 0; have b11 := b1.cell 1; have b12 := b1.cell 2; have b13 := b1.cell 3; have b14 := b1.cell 4; have b1l := b1.lt; have b1f := fun i => b1.frozen i
 have b20 := b2.cell 0; have b21 := b2.cell 1; have b22 := b2.cell 2; have b23 := b2.cell 3; have b24 := b2.cell 4; have b2l := b2.lt; have b2f := fun i => b2.frozen i
 go_wp2_with fail
 go_loopw [11] (fun i wr => i = .int .i64 0 ∧ wr = X) (fun i _ => 0)
 case atStart => exact ⟨rfl, rfl⟩
 case round =>
  obtain ⟨rfl, rfl⟩ := hrel
  go_wp2_with fail
  refine bodyPost_ret (v := .agg #[.int .i64 k, .int .i64 n, .string s, .int .i64 y, .slice none 0 0]) (by simp [results, Tryz.results75, go_sem, b10, b11, b12, b13, b14, b1l, b1f]) rfl ⟨rfl, ?_⟩
  repeat (refine Below.setCell ?_ qag _)
  exact HB.out
end Go.Proofs.YtkkjnfappndmpaaGreatDoor
