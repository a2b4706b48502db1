/-
 Parts of the proof: LkE. Conditions: none.
-/
import Derived.Test.YtkkjnfappndmpaaGreatDoorQFold
import Derived.Test.YtkkjnfappndmpaaGreatDoorQbd
import Derived.Test.YtkkjnfappndmpaaGreatDoorQaa
import Derived.Deep.AppendLies
set_option linter.unusedVariables false
set_option linter.unusedSimpArgs false
namespace Go.Proofs.YtkkjnfappndmpaaGreatDoor
set_option maxHeartbeats 40000000
open Lib (hid)
open Go.ChangeShapes Go.WideShapes Go.ChangeAt Go.RowKit Go.Deep Go.Joins
open Go.ChangeMaps (open_string shut_string)
set_option maxRecDepth 100000
/-- A field's value, put again into the field's box. -/
theorem LkM.init {w w4 : World} {S : List Nat} {bm fb : Nat} {z0 z1 : Int} {z2 : ByteArray} {A3 : Option Addr} {m c3 : Nat} {pa : ByteArray} {fs : List FField} {ms : List FMethod} {uF uM : Value} {nD : Nat} {D : List (List UInt8)} {a0 a1 a2 a3 a4 a5 a6 a7 v3 v4 v5 v6 v7 : Value}
  (M : LkM w w4 (fb :: S) bm z0 z1 z2 A3 m c3 pa fs ms uF uM nD D) (hb : bm < fb) (b : Blk w4 fb 79 #[a0, a1, a2, a3, a4, a5, a6, a7]) :
  LkM w (((((w4.setCell ⟨fb, 3, none⟩ v3).setCell ⟨fb, 4, none⟩ v4).setCell ⟨fb, 5, none⟩ v5).setCell ⟨fb, 6, none⟩ v6).setCell ⟨fb, 7, none⟩ v7) (fb :: S) bm z0 z1 z2 A3 m c3 pa fs ms uF uM nD D ∧ Blk (((((w4.setCell ⟨fb, 3, none⟩ v3).setCell ⟨fb, 4, none⟩ v4).setCell ⟨fb, 5, none⟩ v5).setCell ⟨fb, 6, none⟩ v6).setCell ⟨fb, 7, none⟩ v7) fb 79 #[a0, a1, a2, v3, v4, v5, v6, v7] := by
 have g : ∀ (X : World) (i : Nat) (v : Value), X.grownBy (X.setCell ⟨fb, i, none⟩ v) (some fb) := fun X i v => ⟨rfl, rfl, rfl, by simp, fun k _ hk => Below.heap_setCell _ _ _ _ (fun e => hk (by rw [e]))⟩
 have hm := List.mem_cons_self (a := fb) (l := S)
 refine ⟨((((M.box (g _ _ _) hm hb).box (g _ _ _) hm hb).box (g _ _ _) hm hb).box (g _ _ _) hm hb).box (g _ _ _) hm hb, ?_⟩
 simpa using ((((b.set_ 3 v3).set_ 4 v4).set_ 5 v5).set_ 6 v6).set_ 7 v7
theorem LkM.start {w w2 : World} {z0 z1 : Int} {z2 : ByteArray} {A3 : Option Addr} {m c3 : Nat} (hb : Below w.heap.size w w2) (bN : Blk w2 w.heap.size 44 #[.int .i64 z0, .int .i64 z1, .string z2, .slice A3 m c3]) (bR : Blk w2 (w.heap.size + 1) 56 #[.string ⟨#[]⟩, .string ⟨#[]⟩, .slice none 0 0, .slice none 0 0]) (bC : Blk w2 (w.heap.size + 1 + 1) 56 #[.string z2, .string ⟨#[]⟩, .slice none 0 0, .slice none 0 0]) :
  LkM w (w2.alloc (.map #[] 0)) [w2.heap.size, w.heap.size, w.heap.size + 1] w2.heap.size z0 z1 z2 A3 m c3 ⟨#[]⟩ [] [] (.slice none 0 0) (.slice none 0 0) 0 [] := by
 have h0 := bN.lt
 have h1 := bR.lt
 have h2 := bC.lt
 refine ⟨⟨bC.alloc _, Ro.nil _ _, Ro.nil _ _, fun g e => (by cases e), hb.alloc hb.size _, by omega, ⟨fun e => (by cases e), fun e => (by cases e)⟩, fun s hs => ?_⟩, bN.alloc _, bR.alloc _, Seen.made w2, fun s hs => ?_, h2⟩
 ·simp only [List.mem_cons, List.not_mem_nil, or_false] at hs
  exact ⟨by simp; omega, by omega, fun e => (by cases e), fun e => (by cases e)⟩
 ·simp only [List.mem_cons, List.not_mem_nil, or_false]
  omega
theorem parC_ne {cs : List FClass} {l : List FNode} (h : (hdN l).kd ≠ 52) : parC cs l = some (⟨#[]⟩, [], []) := by unfold parC; rw [if_neg h]
theorem hdN_0 {l : List FNode} {y : FNode} (h : l[0]? = some y) : hdN l = y := by cases l with | nil => simp at h | cons a r => simp at h; exact h
theorem dcl_take {l : List FNode} {k : Nat} {y : FNode} (h : l[k]? = some y) (s : ByteArray) : dclB (l.take (k + 1)) s = (dclB (l.take k) s || FNode.isDecl s y) := by
 unfold dclB
 rw [List.take_add_one, h, List.any_append]
 simp
theorem isDecl_55 (s : ByteArray) (y1 : Int) (y2 : ByteArray) (y3 : List FNode) : FNode.isDecl s ⟨55, y1, y2, y3⟩ = (s.toList == y2.toList) := by
 show ((55 : Int) == 55 && (y2.toList == s.toList)) = (s.toList == y2.toList)
 rw [show ((55 : Int) == 55) = true from rfl, Bool.true_and, Bool.eq_iff_iff, beq_iff_eq, beq_iff_eq]
 exact eq_comm
theorem parC_no {cs : List FClass} {l : List FNode} {y1 : Int} {y2 : ByteArray} {y3 : List FNode} (h : l[0]? = some ⟨52, y1, y2, y3⟩) (hf : fidx FClass.nm cs y2 = -1) : parC cs l = none := by
 unfold parC
 rw [hdN_0 h, if_pos (show (FNode.mk 52 y1 y2 y3).kd = 52 from rfl)]
 show (clAt cs y2).map _ = none
 unfold clAt
 rw [hf, atI_neg]
 rfl
theorem parC_at {cs : List FClass} {l : List FNode} {y1 : Int} {y2 : ByteArray} {y3 : List FNode} {i : Nat} {c : FClass} (h : l[0]? = some ⟨52, y1, y2, y3⟩) (hf : fidx FClass.nm cs y2 = i) (hc : cs[i]? = some c) : parC cs l = some (y2, c.fields, c.methods) := by
 unfold parC
 rw [hdN_0 h, if_pos (show (FNode.mk 52 y1 y2 y3).kd = 52 from rfl)]
 show (clAt cs y2).map _ = _
 unfold clAt
 rw [hf, atI_nat hc]
 rfl
/-- A class's row, cell by cell, in a later world. -/
theorem RdK.at_ {w X : World} {B : Nat} {K : List CV} {A : Option Addr} {n c i : Nat} {p : CV} (h : RdK w B K (.slice A n c)) (hb : Below w.heap.size w X) (hB : B ≤ w.heap.size) (hp : K[i]? = some p) : ∃ b off, A = some ⟨b, off, none⟩ ∧ b < w.heap.size ∧ n = K.length ∧
  X.cell? ⟨b, off + i * 4, none⟩ = some (.string (FClass.nm p.1)) ∧ X.cell? ⟨b, off + i * 4 + 1, none⟩ = some (.string p.1.pa) ∧ X.cell? ⟨b, off + i * 4 + 2, none⟩ = some p.2.1 ∧ X.cell? ⟨b, off + i * 4 + 3, none⟩ = some p.2.2 := by
 obtain ⟨A', c', e, h1, h2, h3, h4⟩ := h.row
 cases e
 have hl : 0 < K.length := by have := (List.getElem?_eq_some_iff.1 hp).1; omega
 obtain ⟨b, off, rfl, hbl, hcell⟩ := h4 hl
 have g : ∀ j v, j < 4 → (clv p)[j]? = some v → X.cell? ⟨b, off + (i * 4 + j), none⟩ = some v := fun j v hj hv => (hb.cell (p := ⟨b, off + (i * 4 + j), none⟩) (by show b < w.heap.size; omega)).trans (hcell _ v (by rw [flat_get clv_len K i p hp j hj]; exact hv))
 exact ⟨b, off, rfl, by omega, rfl, g 0 _ qaa rfl, g 1 _ qaa rfl, g 2 _ qaa rfl, g 3 _ qaa rfl⟩
/-- An element of a row that is read, cell by cell, in a later world. -/
theorem rd_at {α : Type} {vs : α → List Value} {k : Nat} (hk : ∀ x, (vs x).length = k) {w X : World} {B C : Nat} {l : List α} {u : Value} {i : Nat} {x : α} (h : Rd w B k u l.length (l.flatMap vs)) (hb : Below C w X) (hB : B ≤ C) (hx : l[i]? = some x) : ∃ b off c, u = .slice (some ⟨b, off, none⟩) l.length c ∧ b < B ∧
  ∀ j v, (vs x)[j]? = some v → X.cell? ⟨b, off + i * k + j, none⟩ = some v := by
 obtain ⟨A', c', rfl, h1, h2, h3, h4⟩ := h
 have hl : 0 < l.length := by have := (List.getElem?_eq_some_iff.1 hx).1; omega
 obtain ⟨b, off, rfl, hbl, hcell⟩ := h4 hl
 refine ⟨b, off, c', rfl, hbl, fun j v hv => ?_⟩
 have hj : j < k := by rw [← hk x]; exact (List.getElem?_eq_some_iff.1 hv).1
 rw [Nat.add_assoc]
 exact (hb.cell (p := ⟨b, off + (i * k + j), none⟩) (by show b < C; omega)).trans (hcell _ v (by rw [flat_get hk l i x hx j hj]; exact hv))
/-- What lies ahead of member k in the first pass. -/
def Lc1 (w : World) (S : List Nat) (bm : Nat) (z0 z1 : Int) (z2 : ByteArray) (z3 : List FNode) (A3 : Option Addr) (c3 : Nat) (cs : List FClass) (k : Nat) (wr : World) : Prop := ∃ pa fs ms uF uM nD D, LkM w wr S bm z0 z1 z2 A3 z3.length c3 pa fs ms uF uM nD D ∧ nD ≤ k ∧
 (k = 0 → pa = ⟨#[]⟩ ∧ fs = [] ∧ ms = [] ∧ uF = .slice none 0 0 ∧ uM = .slice none 0 0) ∧ (0 < k → parC cs z3 = some (pa, fs, ms)) ∧ ∀ s : ByteArray, hasS D s.toList = dclB (z3.take k) s
theorem Lc1.next {w w' : World} {S : List Nat} {bm k : Nat} {z0 z1 : Int} {z2 : ByteArray} {z3 : List FNode} {A3 : Option Addr} {c3 : Nat} {cs : List FClass} {pa : ByteArray} {fs : List FField} {ms : List FMethod} {uF uM : Value} {nD : Nat} {D : List (List UInt8)} {y : FNode}
  (M : LkM w w' S bm z0 z1 z2 A3 z3.length c3 pa fs ms uF uM nD D) (hn : nD ≤ k + 1) (hy : z3[k]? = some y) (h52 : y.kd ≠ 52) (h0 : k = 0 → pa = ⟨#[]⟩ ∧ fs = [] ∧ ms = [] ∧ uF = .slice none 0 0 ∧ uM = .slice none 0 0) (h1 : 0 < k → parC cs z3 = some (pa, fs, ms)) (hD : ∀ s : ByteArray, hasS D s.toList = (dclB (z3.take k) s || FNode.isDecl s y)) : Lc1 w S bm z0 z1 z2 z3 A3 c3 cs (k + 1) w' := by
 refine ⟨pa, fs, ms, uF, uM, nD, D, M, hn, fun h => absurd h qaa, fun _ => ?_, fun s => by rw [dcl_take hy, hD]⟩
 by_cases hk : k = 0
 ·subst hk
  obtain ⟨rfl, rfl, rfl, _⟩ := h0 rfl
  exact parC_ne (by rw [hdN_0 hy]; exact h52)
 ·exact h1 qaa
theorem link_go (z0 z1 : Int) (z2 : ByteArray) (z3 : List FNode) (A3 : Option Addr) (c3 : Nat) (cs ts : List FClass) (Ac : Option Addr) (cc : Nat) (At : Option Addr) (ct : Nat) (w : World) {B : Nat} (hB0 : B ≤ w.heap.size) (K J : List CV) (hKe : K.map Prod.fst = cs) (hJe : J.map Prod.fst = ts) (hKr : RdK w B K (.slice Ac cs.length cc)) (hJr : RdK w B J (.slice At ts.length ct)) (r3 : RdC w B (.s 44 4 z3.length (FNode.flat z3)) (.slice A3 z3.length c3)) (hcl : cs.length ≤ 1000000000) (htl : ts.length ≤ 1000000000) (hx : ClO ⟨z0, z1, z2, z3⟩) (G : List (List UInt8)) (hG : G.length ≤ 1000000000) (hcs : ∀ t, t ∈ cs → ClG G t) (hts : ∀ t, t ∈ ts → ClG G t) (hkg : ∀ y, y ∈ z3 → y.tx.toList ∈ G) (hz : z3.length ≤ 1000000000) (hsz : ∀ y, y ∈ z3 → y.tx.size ≤ 1000)
  (hbad : badN cs ts z2 = false) : Calls Tryz.prog 43 #[.agg #[.int .i64 z0, .int .i64 z1, .string z2, .slice A3 z3.length c3], .slice Ac cs.length cc, .slice At ts.length ct] w fun e w' => LcR w w' e (linkC ⟨z0, z1, z2, z3⟩ cs ts) := by
 have hc : RdC w B (.s 56 4 cs.length (FClass.flat cs)) (.slice Ac cs.length cc) := by subst hKe; exact hKr.rdC fun p hp x hx => ((hcs p.1 (List.mem_map.2 ⟨p, hp, rfl⟩)).f.mem x hx).1
 have ht : RdC w B (.s 56 4 ts.length (FClass.flat ts)) (.slice At ts.length ct) := by subst hJe; exact hJr.rdC fun p hp x hx => ((hts p.1 (List.mem_map.2 ⟨p, hp, rfl⟩)).f.mem x hx).1
 have hq : (z2.toList == [115, 101, 108, 102] || (z2.toList == [112, 97, 114, 101, 110, 116] || (decide (0 ≤ fidx FClass.nm cs z2) || decide (0 ≤ fidx FClass.nm ts z2)))) = false := hbad
 simp only [Bool.or_eq_false_iff] at hq
 obtain ⟨h1, h2, h3, h4⟩ := hq
 have LK := hid (show linkC ⟨z0, z1, z2, z3⟩ cs ts = match parC cs z3 with
  | none => (2, ⟨⟨#[]⟩, ⟨#[]⟩, [], []⟩)
  | some (pa, fs, ms) => if z3.any (noTr ts) then (3, ⟨⟨#[]⟩, ⟨#[]⟩, [], []⟩) else if (bsC ⟨z0, z1, z2, z3⟩ ts fs ms).ok then (0, ⟨z2, pa, (bsC ⟨z0, z1, z2, z3⟩ ts fs ms).fs, (bsC ⟨z0, z1, z2, z3⟩ ts fs ms).ms⟩) else (4, ⟨⟨#[]⟩, ⟨#[]⟩, [], []⟩) from by
   unfold linkC
   rw [if_neg (show ¬ (badN cs ts (FNode.mk z0 z1 z2 z3).tx = true) from by show ¬ (badN cs ts z2 = true); rw [hbad]; simp)]
   rfl)
 have HC := hid hc
 have HT := hid ht
 have HKR := hid hKr
 have HJR := hid hJr
 have R3 := hid r3
 have HX := hid hx
 clear hc ht hKr hJr r3 hx hbad
 have FN := hid (fun (s : ByteArray) X (hb : Below w.heap.size w X) => class_any cs s Ac cc w X hB0 hcl HC.out hb)
 have FT := hid (fun (s : ByteArray) X (hb : Below w.heap.size w X) => class_any ts s At ct w X hB0 htl HT.out hb)
 have FI := hid (fun X (hb : Below w.heap.size w X) => FN.out z2 X hb)
 have FJ := hid (fun X (hb : Below w.heap.size w X) => FT.out z2 X hb)
 generalize fidx FClass.nm cs z2 = fi at *
 generalize fidx FClass.nm ts z2 = fj at *
 have bN := (Blk.new w 44 #[.int .i64 z0, .int .i64 z1, .string z2, .slice A3 z3.length c3]).alloc (.cells #[.string ⟨#[]⟩, .string ⟨#[]⟩, .slice none 0 0, .slice none 0 0] 56) |>.alloc (.cells #[.string z2, .string ⟨#[]⟩, .slice none 0 0, .slice none 0 0] 56)
 have bR := (Blk.new' (w.alloc (.cells #[.int .i64 z0, .int .i64 z1, .string z2, .slice A3 z3.length c3] 44)) 56 #[.string ⟨#[]⟩, .string ⟨#[]⟩, .slice none 0 0, .slice none 0 0] (w.heap.size + 1) qag).alloc (.cells #[.string z2, .string ⟨#[]⟩, .slice none 0 0, .slice none 0 0] 56)
 have bC := Blk.new' ((w.alloc (.cells #[.int .i64 z0, .int .i64 z1, .string z2, .slice A3 z3.length c3] 44)).alloc (.cells #[.string ⟨#[]⟩, .string ⟨#[]⟩, .slice none 0 0, .slice none 0 0] 56)) 56 #[.string z2, .string ⟨#[]⟩, .slice none 0 0, .slice none 0 0] (w.heap.size + 1 + 1) qag
 go_enter Tryz.func43, Tryz.ntmps43
 go_upto_region 2 with fail
 have HB := hid ((((Below.refl w.heap.size w).alloc nr (.cells #[.int .i64 z0, .int .i64 z1, .string z2, .slice A3 z3.length c3] 44)).alloc qag (.cells #[.string ⟨#[]⟩, .string ⟨#[]⟩, .slice none 0 0, .slice none 0 0] 56)).alloc qak (.cells #[.string z2, .string ⟨#[]⟩, .slice none 0 0, .slice none 0 0] 56))
 generalize ((w.alloc (.cells #[.int .i64 z0, .int .i64 z1, .string z2, .slice A3 z3.length c3] 44)).alloc (.cells #[.string ⟨#[]⟩, .string ⟨#[]⟩, .slice none 0 0, .slice none 0 0] 56)).alloc (.cells #[.string z2, .string ⟨#[]⟩, .slice none 0 0, .slice none 0 0] 56) = X0 at *
 have bN2 := bN.cell 2
 have bC0 := bC.cell 0; have bC1 := bC.cell 1; have bC2 := bC.cell 2; have bC3 := bC.cell 3; have bCl := bC.lt; have bCf := fun i => bC.frozen i
 have bR0 := bR.cell 0; have bR1 := bR.cell 1; have bR2 := bR.cell 2; have bR3 := bR.cell 3; have bRl := bR.lt; have bRf := fun i => bR.frozen i
 have hmm := @run_makeMap Tryz.prog
 go_upto_region 5 with (first | (have _q := tok2; go_at_call 74; refine (FJ.out _ HB1.out).mono ?_; rintro e w2 ⟨rfl, hb, hb2⟩; have HB2 := hid hb2; replace bN := bN.below hb nr; replace bR := bR.below hb nr; replace bC := bC.below hb nr; have bN2 := bN.cell 2; have bC0 := bC.cell 0; have bC1 := bC.cell 1; have bC2 := bC.cell 2; have bC3 := bC.cell 3; have bCl := bC.lt; have bCf := fun i => bC.frozen i; have bR0 := bR.cell 0; have bR1 := bR.cell 1; have bR2 := bR.cell 2; have bR3 := bR.cell 3; have bRl := bR.lt; have bRf := fun i => bR.frozen i; clear hb hb2; have tok3 : True := trivial) | (go_at_call 74; refine (FI.out _ HB.out).mono ?_; rintro e w1 ⟨rfl, hb, hb2⟩; have HB1 := hid hb2; replace bN := bN.below hb nr; replace bR := bR.below hb nr; replace bC := bC.below hb nr; have bN2 := bN.cell 2; have bC0 := bC.cell 0; have bC1 := bC.cell 1; have bC2 := bC.cell 2; have bC3 := bC.cell 3; have bCl := bC.lt; have bCf := fun i => bC.frozen i; have bR0 := bR.cell 0; have bR1 := bR.cell 1; have bR2 := bR.cell 2; have bR3 := bR.cell 3; have bRl := bR.lt; have bRf := fun i => bR.frozen i; clear hb hb2; have tok2 : True := trivial))
 have MK0 := LkM.start (z0 := z0) (z1 := z1) (z2 := z2) (A3 := A3) (m := z3.length) (c3 := c3) HB2.out bN bR bC
 clear bN bR bC bN2 bC0 bC1 bC2 bC3 bCl bCf bR0 bR1 bR2 bR3 bRl bRf hmm HB HB1 FI FJ h1 h2 h3 h4
 obtain ⟨bm, hbm⟩ : ∃ bm, bm = w2.heap.size := ⟨_, rfl⟩
 obtain ⟨S, hS⟩ : ∃ S, S = [w2.heap.size, w.heap.size, w.heap.size + 1] := ⟨_, rfl⟩
 rw [← hS, ← hbm] at MK0
 have HSS := hid (MK0.hs)
 have hSb : ∀ s, s ∈ S → s ≤ bm := by
  intro s hs
  rw [hS] at hs
  simp only [List.mem_cons, List.not_mem_nil, or_false] at hs
  have := MK0.hm
  omega
 have HSB := hid hSb
 rw [← hbm]
 generalize w2.alloc (.map #[] 0) = X1 at *
 clear hS hbm hSb HB2
 have kn3 := MK0.n.cell 3
 go_wp2_with fail
 go_loopw [55] (fun i wr => ∃ k : Nat, k ≤ z3.length ∧ i = .int .i64 k ∧ Lc1 w S bm z0 z1 z2 z3 A3 c3 cs k wr) (fun i _ => z3.length - (intOf i).toNat)
 case atStart => exact ⟨0, Nat.zero_le _, rfl, ⟨#[]⟩, [], [], _, _, 0, [], MK0, Nat.le_refl _, fun _ => ⟨rfl, rfl, rfl, rfl, rfl⟩, fun h => absurd h qaa, fun s => by rw [List.take_zero]; rfl⟩
 case round =>
  clear MK0 kn3
  obtain ⟨k, hk, rfl, pa, fs, ms, uF, uM, nD, D, M, hnD, h0, h1, hD⟩ := hrel
  obtain ⟨wo, rfl⟩ : ∃ X : World, X = wr := ⟨_, rfl⟩
  have hbm := M.hm
  by_cases hlt : k < z3.length
  ·obtain ⟨y, hy⟩ : ∃ y, z3[k]? = some y := ⟨_, List.getElem?_eq_getElem hlt⟩
   have hyo := HX.out.any (x := ⟨z0, z1, z2, z3⟩) (show z3[k]? = some y from hy)
   have hys := hsz y (List.mem_of_getElem? hy)
   obtain ⟨by_, offy, Ey, hbly, hcc⟩ := RdC.at_ FNode.len R3.out hy
   subst Ey
   have HY := hid hy
   have HD := hid hD
   have H0 := hid h0
   have H1 := hid h1
   have MM := hid M
   have hlt2 : (k : Int) < (z3.length : Int) := qaa
   have hk0 : (0 : Int) ≤ (k : Int) := qaa
   obtain ⟨y0, y1, y2, y3⟩ := y
   obtain ⟨Dy, dy, cy_0, cy_1, cy_2, cy_3, q3⟩ := opN M.lk.be (Nat.lt_of_lt_of_le hbly hB0) hcc (offy + k * 4) (offy + k * 4 + 1) (offy + k * 4 + 2) (offy + k * 4 + 3) qaa
   have M1 := hid (M.fresh (.cells #[.int .i64 y0, .int .i64 y1, .string y2, .slice Dy y3.length dy] 44))
   have bY := Blk.new wo 44 #[.int .i64 y0, .int .i64 y1, .string y2, .slice Dy y3.length dy]
   have hy2 : y2.size ≤ maxLen := by unfold maxLen; have : y2.size ≤ 1000 := hys; omega
   have hsl : ∀ s, s = w.heap.size ∨ s = w.heap.size + 1 ∨ s = bm → s ∈ S := HSS.out
   clear hcc q3 hy hD h0 h1 M
   rcases hyo.kd with hk52 | hk53 | hk54 | hk55
   ·obtain ⟨e52, e0, _⟩ := hk52
    obtain rfl : y0 = 52 := e52
    obtain rfl : k = 0 := of_decide_eq_true e0
    obtain ⟨rfl, rfl, rfl, rfl, rfl⟩ := H0.out rfl
    clear e0 hlt hk
    simp only [Nat.zero_mul, Nat.add_zero] at cy_0 cy_1 cy_2 cy_3
    rcases fidx_lt FClass.nm cs y2 with hi | ⟨i, cl, hi, hil, hci⟩
    ·have PN := hid (parC_no HY.out hi)
     have FY := hid (FN.out y2)
     rw [hi] at FY
     go_wp2_with (go_at_call 74; refine (FY.out _ M1.out.lk.be).mono ?_; rintro e w3 ⟨rfl, hb, hb2⟩; have M3 := M1.out.below hb; have bC := M3.lk.box; have bR := M3.r; have HB3 := hid hb2; have bC0 := bC.cell 0; have bC1 := bC.cell 1; have bC2 := bC.cell 2; have bC3 := bC.cell 3; have bCl := bC.lt; have bCf := fun i => bC.frozen i; have bR0 := bR.cell 0; have bR1 := bR.cell 1; have bR2 := bR.cell 2; have bR3 := bR.cell 3; have bRl := bR.lt; have bRf := fun i => bR.frozen i; clear hb hb2)
     rw [show linkC ⟨z0, z1, z2, z3⟩ cs ts = (2, ⟨⟨#[]⟩, ⟨#[]⟩, [], []⟩) from by rw [LK.out, PN.out]]
     refine bodyPost_ret (v := .tuple #[.agg #[.string z2, .string ⟨#[]⟩, .slice none 0 0, .slice none 0 0], .int .i64 2]) qam rfl ⟨z2, ⟨#[]⟩, none, 0, 0, none, 0, 0, rfl, ?_, fun h => by cases h⟩
     repeat (refine Below.setCell ?_ qag _)
     exact HB3.out
    ·obtain ⟨p, hp, hpc⟩ : ∃ p, K[i]? = some p ∧ p.1 = cl := by
      subst hKe
      exact zz79
     have HCL := hid (hcs cl (List.mem_of_getElem? hci))
     have PN := hid (parC_at HY.out hi hci)
     have hkl : K.length = cs.length := by rw [← hKe, List.length_map]
     have RM := hid (HKR.out.mem p (List.mem_of_getElem? hp))
     obtain ⟨⟨ca, cb, cfs, cms⟩, uFi, uMi⟩ := p
     subst hpc
     obtain ⟨AF, cF, eF⟩ : ∃ A c, uFi = .slice A cfs.length c := RM.out.1.form
     obtain ⟨AM, cM, eM⟩ : ∃ A c, uMi = .slice A cms.length c := RM.out.2.form
     subst eF eM
     have RK := hid (fun (X : World) (hb : Below w.heap.size w X) => HKR.out.at_ hb hB0 hp)
     obtain ⟨bk, offk, Ek, hbk, -⟩ := RK.out w (Below.refl _ _)
     subst Ek
     have RK2 := hid (fun (X : World) (hb : Below w.heap.size w X) => show X.cell? ⟨bk, offk + i * 4 + 2, none⟩ = some (.slice AF cfs.length cF) ∧ X.cell? ⟨bk, offk + i * 4 + 3, none⟩ = some (.slice AM cms.length cM) from by
      obtain ⟨b', off', e', -, -, -, -, k2, k3⟩ := RK.out X hb
      cases e'
      exact ⟨k2, k3⟩)
     have FY := hid (FN.out y2)
     rw [hi] at FY
     have hi0 : (0 : Int) ≤ (i : Int) := qaa
     have hil2 : (i : Int) < (cs.length : Int) := qaa
     have hfl : cfs.length ≤ 1000000000 := Nat.le_trans HCL.out.f.len hG
     have hml : cms.length ≤ 1000000000 := Nat.le_trans HCL.out.m.len hG
     clear hp hci RK hkl
     go_upto_region 15 with (go_at_call 74; refine (FY.out _ M1.out.lk.be).mono ?_; rintro e w3 ⟨rfl, hb, hb2⟩; have M3 := M1.out.below hb; have bC := M3.lk.box; have bC0 := bC.cell 0; have bC1 := bC.cell 1; have bC2 := bC.cell 2; have bC3 := bC.cell 3; have bCl := bC.lt; have bCf := fun i => bC.frozen i; have bY3 := bY.below hb nr; have bY2 := Blk.cell bY3 2; clear hb hb2)
     obtain ⟨L4, fr4⟩ := M3.lk.par y2
     have M4 := M3.stay L4 fr4
     clear L4 fr4 M3 bC bC0 bC1 bC2 bC3 bCl bCf bY bY3 bY2
     generalize w3.setCell ⟨w.heap.size + 1 + 1, 1, none⟩ (.string y2) = X4 at *
     obtain ⟨k2, k3⟩ := RK2.out X4 M4.lk.be
     go_wp2_with fail
     clear k2 k3
     go_loopw [84] (fun iv wr => ∃ j : Nat, j ≤ cfs.length ∧ iv = .int .i64 j ∧ ∃ uF, LkM w wr (wo.heap.size :: S) bm z0 z1 z2 (some ⟨by_, offy, none⟩) z3.length c3 y2 (cfs.take j) [] uF (.slice none 0 0) nD D) (fun iv _ => cfs.length - (intOf iv).toNat)
     case atStart => exact ⟨0, Nat.zero_le _, rfl, _, by rw [List.take_zero]; exact M4⟩
     case round =>
      clear M4
      obtain ⟨j, hj, rfl, uF, M5⟩ := hrel
      by_cases hjl : j < cfs.length
      ·obtain ⟨f, hf⟩ : ∃ f, cfs[j]? = some f := ⟨_, List.getElem?_eq_getElem hjl⟩
       have hfp := (HCL.out.f.mem f (List.mem_of_getElem? hf)).1
       obtain ⟨bf, offf, cF2, eF, hbf, hfc⟩ := rd_at FField.vlen RM.out.1 M5.lk.be hB0 hf
       cases eF
       have HTK := hid (show cfs.take (j + 1) = cfs.take j ++ [f] by rw [List.take_add_one, hf]; rfl)
       have hLl : (cfs.take j).length ≤ 1000000000 := by rw [List.length_take]; omega
       obtain ⟨A9, c9, eU⟩ : ∃ A c, uF = .slice A (cfs.take j).length c := M5.lk.rf.form
       subst eU
       generalize cfs.take j = L at *
       have hjl2 : (j : Int) < (cfs.length : Int) := qaa
       obtain ⟨f0, f1, f2, ⟨f3, f4, f5, f6, f7⟩⟩ := f
       obtain rfl : f7 = [] := hfp.2.2.2
       have q0 : wr.cell? ⟨bf, offf + j * 8, none⟩ = some (.string f0) := hfc 0 _ rfl
       have q1 : wr.cell? ⟨bf, offf + j * 8 + 1, none⟩ = some (.string f1) := hfc 1 _ rfl
       have q2 : wr.cell? ⟨bf, offf + j * 8 + 2, none⟩ = some (.bool f2) := hfc 2 _ rfl
       have q3 : wr.cell? ⟨bf, offf + j * 8 + 3, none⟩ = some (.int .i64 f3) := hfc 3 _ rfl
       have q4 : wr.cell? ⟨bf, offf + j * 8 + 4, none⟩ = some (.int .i64 f4) := hfc 4 _ rfl
       have q5 : wr.cell? ⟨bf, offf + j * 8 + 5, none⟩ = some (.string f5) := hfc 5 _ rfl
       have q6 : wr.cell? ⟨bf, offf + j * 8 + 6, none⟩ = some (.int .i64 f6) := hfc 6 _ rfl
       have q7 : wr.cell? ⟨bf, offf + j * 8 + 7, none⟩ = some (.slice none 0 0) := hfc 7 _ rfl
       have M6 := hid (M5.fresh (.cells #[.string f0, .string f1, .bool f2, .int .i64 f3, .int .i64 f4, .string f5, .int .i64 f6, .slice none 0 0] 79))
       have bF := Blk.new wr 79 #[.string f0, .string f1, .bool f2, .int .i64 f3, .int .i64 f4, .string f5, .int .i64 f6, .slice none 0 0]
       have M5H := hid M5
       clear hfc hf M5
       go_upto_region 19 with (go_at_call 75; refine (copyV_flat _ _ _ _ _).mono ?_; rintro e w4 ⟨rfl, hb⟩; have M7 := M6.out.below hb; have bF4 := bF.below hb nr; have bF40 := bF4.cell 0; have bF41 := bF4.cell 1; have bF42 := bF4.cell 2; have bF43 := bF4.cell 3; have bF44 := bF4.cell 4; have bF45 := bF4.cell 5; have bF46 := bF4.cell 6; have bF47 := bF4.cell 7; have bF4l := bF4.lt; have bF4f := fun i => bF4.frozen i; clear hb)
       obtain ⟨M8, bF8⟩ := LkM.init (v3 := .int .i64 f3) (v4 := .int .i64 f4) (v5 := .string f5) (v6 := .int .i64 f6) (v7 := .slice none 0 0) M7 (M5H.out.lk.sp bm (List.mem_cons_of_mem _ (hsl _ (.inr (.inr rfl))))).1 bF4
       clear M7 bF4 bF bF40 bF41 bF42 bF43 bF44 bF45 bF46 bF47 bF4l bF4f q0 q1 q2 q3 q4 q5 q6 q7
       generalize ((((w4.setCell ⟨wr.heap.size, 3, none⟩ (.int .i64 f3)).setCell ⟨wr.heap.size, 4, none⟩ (.int .i64 f4)).setCell ⟨wr.heap.size, 5, none⟩ (.string f5)).setCell ⟨wr.heap.size, 6, none⟩ (.int .i64 f6)).setCell ⟨wr.heap.size, 7, none⟩ (.slice none 0 0) = W5 at *
       have HA := hid (M8.lk.below ((Below.refl _ _).alloc nr (.cells #[.string f0, .string f1, .bool f2, .int .i64 f3, .int .i64 f4, .string f5, .int .i64 f6, .slice none 0 0] 79)))
       have BX := HA.out.box
       have NB := hid HA.out.nb
       have OW := hid HA.out.rf
       have RN := hid (rd_new W5 79 8 [.string f0, .string f1, .bool f2, .int .i64 f3, .int .i64 f4, .string f5, .int .i64 f6, .slice none 0 0] rfl)
       have ON := hid (show ∀ u ∈ ([.string f0, .string f1, .bool f2, .int .i64 f3, .int .i64 f4, .string f5, .int .i64 f6, .slice none 0 0] : List Value), u.oneCell' = true from by intro u hu; simp only [List.mem_cons, List.not_mem_nil, or_false] at hu; rcases hu with rfl | rfl | rfl | rfl | rfl | rfl | rfl | rfl <;> rfl)
       have BC := M8.lk.box
       have BC2 := BC.cell 2
       have bF80 := bF8.cell 0; have bF81 := bF8.cell 1; have bF82 := bF8.cell 2; have bF83 := bF8.cell 3; have bF84 := bF8.cell 4; have bF85 := bF8.cell 5; have bF86 := bF8.cell 6; have bF87 := bF8.cell 7; have bF8l := bF8.lt; have bF8f := fun i => bF8.frozen i
       have hw5 : w.heap.size ≤ (W5.alloc (.cells #[.string f0, .string f1, .bool f2, .int .i64 f3, .int .i64 f4, .string f5, .int .i64 f6, .slice none 0 0] 79)).heap.size := HA.out.be.size
       go_upto_region 20 with (at_builtin; go_must (refine wpList_append_rd _ rfl (.tmp 93) (.tmp 95) _ rfl w.heap.size _ _ _ 104 Tryz.underlying53 infoFieldL rfl qaa (.slice A9 L.length c9) L.length _ rfl OW.out (W5.heap.size + 1) _ 1 1 [.string f0, .string f1, .bool f2, .int .i64 f3, .int .i64 f4, .string f5, .int .i64 f6, .slice none 0 0] rfl RN.out ON.out qao qaa hw5 ?_); intro v7 w7 own7 hg7 hat7; obtain ⟨A7, c7, rfl⟩ := own_form own7; have bC7 := (hg7.block _ BX.lt (fun e => NB.out.1 e.symm)).trans BX; have bC72 := Blk.cell bC7 2; have bC7l := Blk.lt bC7; have bC7f := fun i => Blk.frozen bC7 i)
       obtain ⟨L9, fr9⟩ := Lk.newF (f := ⟨f0, f1, f2, ⟨f3, f4, f5, f6, []⟩⟩) M8.lk ((Below.refl _ _).alloc nr _) own7 hg7 hat7
       have M9 := hid ((M8.stay L9 fr9).drop fun s h => List.mem_cons_of_mem _ (hsl s h))
       clear L9 fr9 own7 hg7 hat7 bC7 bC72 bC7l bC7f M8 bF8 bF80 bF81 bF82 bF83 bF84 bF85 bF86 bF87 bF8l bF8f BC BC2 HA BX NB OW RN ON hw5
       go_wp2_with fail
       go_roundw
       case rel => exact ⟨j + 1, by omega, by go_num, _, by rw [HTK.out]; exact M9.out⟩
       case measure => simp [intOf]; omega
      ·obtain rfl : j = cfs.length := qaa
       rw [List.take_length] at M5
       have M5d := M5.below (below_drL (Below.refl wr.heap.size wr))
       have k3 := (RK2.out _ M5d.lk.be).2
       have bC := M5d.lk.box
       have OW := hid M5d.lk.rm
       have RMM := hid (RM.out.2.below M5d.lk.be hB0)
       have hwd : w.heap.size ≤ wr.drew.heap.size := M5d.lk.be.size
       have M5D := hid M5d
       clear M5 M5d hjl hj
       go_upto_region 21 with fail
       refine lateStart (S := (fun w_ => Blk w_ (w.heap.size + 1 + 1) 56 #[.string z2, .string y2, uF, .slice none 0 0] ∧ w_.cell? ⟨bk, offk + i * 4 + 3, none⟩ = some (.slice AM cms.length cM))) [9] qab ?_ (fun hHeld => ?_)
       ·(try dsimp only)
        (exact ⟨bC, k3⟩)
       generalize wr.drew = wd at *
       (refine lgt (i := 0) rfl qz hHeld ?_; try simp only [aS])
       refine lateTake (i := 1) (v := ?_) rfl qab qae qab qab qab qab (fun _ _ _ h => h) qar ?_ hHeld ?_
       rotate_left
       ·exact zz208
       try simp only [aS]
       (refine lgt (i := 2) rfl qz hHeld ?_; try simp only [aS])
       (refine lgt (i := 3) rfl qz hHeld ?_; try simp only [aS])
       (refine lgt (i := 4) rfl qz hHeld ?_; try simp only [aS])
       (refine lgt (i := 5) rfl qz hHeld ?_; try simp only [aS])
       refine lateTake (i := 6) (v := ?_) rfl qab qae qab qab qab qab (fun _ _ _ h => h) qar ?_ hHeld ?_
       rotate_left
       ·intro w_ hSw
        (try dsimp only at hSw)
        have y := hSw.2
        exact zz24
       try simp only [aS]
       refine lateOne (i := 7) qab ?_
       refine lateOp (i := 7) rfl qar (fun K hK => ?_)
       have NB := hid M5D.out.lk.nb
       have hbk2 : bk < w.heap.size := hbk
       refine wp_append_rd _ (.tmp 100) (.tmp 105) _ rfl w.heap.size 87 _ 5 56 Tryz.underlying54 infoMethodL rfl qae (.slice none 0 0) 0 _ rfl OW.out B _ cms.length _ (fvM cms) rfl RMM.out (fvM_one cms) qao qaa hwd ?_
       intro v7 w7 own7 hg7 hat7
       obtain ⟨A7, c7, rfl⟩ := own_form own7
       have hS_ := And.intro ((hg7.block _ hHeld.1.lt fun e => by cases e).trans hHeld.1) ((World.grownBy.cell_far hg7 ⟨bk, offk + i * 4 + 3, none⟩ (Nat.lt_of_lt_of_le hbk hwd) (fun e => by cases e)).trans hHeld.2)
       clear hHeld
       refine hK.out _ _ hS_ (fun hHeld => ?_)
       clear hK K hS_
       try simp only [aS]
       (refine lgt (i := 8) rfl qz hHeld ?_; try simp only [aS])
       refine lateOne (i := 9) qab ?_
       refine lateLast (i := 9) rfl qab qar (fun K hK => ?_)
       have o_l := hHeld.1.lt; have o_f := fun i => hHeld.1.frozen i; have o2 := hHeld.1.cell 3
       go_simp
       refine hK.out _ _ ?_
       clear hK K
       try simp only [aS]
       refine lateDone qab ?_ _
       obtain ⟨L9, fr9⟩ := Lk.newMs M5D.out.lk (Below.refl _ _) own7 hg7 hat7
       have M9 := (M5D.out.stay L9 fr9).drop hsl
       rw [Nat.zero_add] at M9
       have M9H := hid M9
       clear L9 fr9 own7 hg7 hat7 M9
       go_wp2_with fail
       go_roundw
       case rel => exact ⟨1, by omega, by go_num, y2, cfs, cms, _, _, nD, D, M9H.out, by omega, fun h => by omega, fun _ => PN.out, fun s => by rw [dcl_take HY.out, HD.out]; simp [FNode.isDecl, FNode.kd]⟩
       case measure => simp [intOf]; omega
   ·obtain rfl : y0 = 53 := hk53
    exact zz104
   ·obtain rfl : y0 = 54 := hk54.1
    exact zz104
   ·obtain rfl : y0 = 55 := hk55.1
    have hn9 : nD < maxLen := by unfold maxLen; omega
    have SN := hid M1.out.sn
    have hbw := M1.out.lk.sp bm (List.mem_cons_of_mem _ (hsl _ (.inr (.inr rfl))))
    have hne : wo.heap.size ≠ bm := by have := MM.out.lk.sp bm (hsl _ (.inr (.inr rfl))); omega
    go_wp2_with (at_mapUpdate; go_must (refine wpList_put_seen _ rfl _ _ _ 51 rfl 9 4 Tryz.underlying9 Tryz.underlying4 Tryz.underlying51 bm nD D rfl SN.out hn9 y2 hy2 rfl rfl ?_); intro w3 hsn hg; have bY3 := (hg.block _ bY.lt (fun e => hne (Option.some.inj e))).trans bY; have bY0 := Blk.cell bY3 0)
    go_roundw
    case rel => exact ⟨k + 1, by omega, by go_num, Lc1.next ((M1.out.mapped hg hsn).drop hsl) qaa HY.out (by intro h; cases h) H0.out H1.out fun s => by rw [hasS_cons, HD.out s, isDecl_55, Bool.or_comm]⟩
    case measure => simp [intOf]; omega
  ·obtain rfl : k = z3.length := qaa
   have PC : parC cs z3 = some (pa, fs, ms) := by
    by_cases h9 : 0 < z3.length
    ·exact h1 h9
    ·have h8 : z3 = [] := List.eq_nil_of_length_eq_zero qaa
     obtain ⟨rfl, rfl, rfl, _⟩ := h0 qaa
     rw [h8]
     exact parC_ne qae
   have HD := hid (fun s => (hD s).trans (by rw [List.take_length]) : ∀ s : ByteArray, hasS D s.toList = dclB z3 s)
   obtain ⟨g1, g2, g3⟩ := parC_good hcs HX.out (show parC cs (FNode.mk z0 z1 z2 z3).kids = some (pa, fs, ms) from PC)
   have GF0 := hid g2
   have GM0 := hid g3
   have LK3 := hid (show linkC ⟨z0, z1, z2, z3⟩ cs ts = if z3.any (noTr ts) then (3, ⟨⟨#[]⟩, ⟨#[]⟩, [], []⟩) else if (bsC ⟨z0, z1, z2, z3⟩ ts fs ms).ok then (0, ⟨z2, pa, (bsC ⟨z0, z1, z2, z3⟩ ts fs ms).fs, (bsC ⟨z0, z1, z2, z3⟩ ts fs ms).ms⟩) else (4, ⟨⟨#[]⟩, ⟨#[]⟩, [], []⟩) from by rw [LK.out, PC])
   have hsl : ∀ s, s = w.heap.size ∨ s = w.heap.size + 1 ∨ s = bm → s ∈ S := HSS.out
   have kn3 := M.n.cell 3
   clear h0 h1 hD PC g1 g2 g3 LK hlt hk
   go_wp2_with fail
   obtain ⟨AF0, cF0, eF0⟩ : ∃ A c, uF = .slice A fs.length c := M.lk.rf.form
   obtain ⟨AM0, cM0, eM0⟩ : ∃ A c, uM = .slice A ms.length c := M.lk.rm.form
   subst eF0 eM0
   go_loopw [112] (fun iv wr => ∃ k : Nat, k ≤ z3.length ∧ iv = .int .i64 k ∧ LkM w wr S bm z0 z1 z2 A3 z3.length c3 pa fs ms (.slice AF0 fs.length cF0) (.slice AM0 ms.length cM0) nD D ∧ ∀ (j : Nat) (y : FNode), j < k → z3[j]? = some y → noTr ts y = false) (fun iv _ => z3.length - (intOf iv).toNat)
   case atStart => exact ⟨0, Nat.zero_le _, rfl, M, fun j y h => absurd h qaa⟩
   case round =>
    clear M kn3
    obtain ⟨k, hk, rfl, M, hno⟩ := hrel
    have HNO := hid hno
    have MM := hid M
    by_cases hlt : k < z3.length
    ·obtain ⟨y, hy⟩ : ∃ y, z3[k]? = some y := ⟨_, List.getElem?_eq_getElem hlt⟩
     obtain ⟨by_, offy, Ey, hbly, hcc⟩ := RdC.at_ FNode.len R3.out hy
     subst Ey
     have HY := hid hy
     have hlt2 : (k : Int) < (z3.length : Int) := qaa
     have hk0 : (0 : Int) ≤ (k : Int) := qaa
     obtain ⟨y0, y1, y2, y3⟩ := y
     obtain ⟨Dy, dy, cy_0, cy_1, cy_2, cy_3, q3⟩ := opN M.lk.be (Nat.lt_of_lt_of_le hbly hB0) hcc (offy + k * 4) (offy + k * 4 + 1) (offy + k * 4 + 2) (offy + k * 4 + 3) qaa
     have M1 := hid (M.fresh (.cells #[.int .i64 y0, .int .i64 y1, .string y2, .slice Dy y3.length dy] 44))
     have bY := Blk.new wr 44 #[.int .i64 y0, .int .i64 y1, .string y2, .slice Dy y3.length dy]
     clear hcc q3 hy hno M
     by_cases h53 : y0 = 53
     ·subst h53
      have FY := hid (FT.out y2)
      have hnt : noTr ts ⟨53, y1, y2, y3⟩ = decide (fidx FClass.nm ts y2 < 0) := by unfold noTr; show ((53 : Int) == 53 && _) = _; rw [show ((53 : Int) == 53) = true from rfl, Bool.true_and]; rfl
      have HNT := hid hnt
      generalize fidx FClass.nm ts y2 = fi at *
      clear hnt
      cases hd : decide (fi < 0) with
      | true =>
       go_wp2_with (go_at_call 74; refine (FY.out _ M1.out.lk.be).mono ?_; rintro e w3 ⟨rfl, hb, hb2⟩; have M3 := M1.out.below hb; have bC := M3.lk.box; have bR := M3.r; have HB3 := hid hb2; have bC0 := bC.cell 0; have bC1 := bC.cell 1; have bC2 := bC.cell 2; have bC3 := bC.cell 3; have bCl := bC.lt; have bCf := fun i => bC.frozen i; have bR0 := bR.cell 0; have bR1 := bR.cell 1; have bR2 := bR.cell 2; have bR3 := bR.cell 3; have bRl := bR.lt; have bRf := fun i => bR.frozen i; clear hb hb2)
       rw [show linkC ⟨z0, z1, z2, z3⟩ cs ts = (3, ⟨⟨#[]⟩, ⟨#[]⟩, [], []⟩) from by rw [LK3.out, if_pos (List.any_eq_true.2 ⟨_, List.mem_of_getElem? HY.out, by rw [HNT.out]; exact hd⟩)]]
       refine bodyPost_ret (v := .tuple #[.agg #[.string z2, .string pa, .slice AF0 fs.length cF0, .slice AM0 ms.length cM0], .int .i64 3]) qam rfl ⟨z2, pa, AF0, fs.length, cF0, AM0, ms.length, cM0, rfl, ?_, fun h => by cases h⟩
       repeat (refine Below.setCell ?_ qag _)
       exact HB3.out
      | false =>
       go_wp2_with (go_at_call 74; refine (FY.out _ M1.out.lk.be).mono ?_; rintro e w3 ⟨rfl, hb, hb2⟩; have M3 := M1.out.below hb; clear hb hb2)
       go_roundw
       case rel =>
        refine ⟨k + 1, by omega, by go_num, M3.drop hsl, fun j y hj hy => ?_⟩
        by_cases e : j = k
        ·subst e
         rw [HY.out] at hy
         cases hy
         rw [HNT.out]; exact hd
        ·exact HNO.out j y qaa hy
       case measure => simp [intOf]; omega
     ·have h5 : (y0 == 53) = false := by rw [beq_eq_false_iff_ne]; exact h53
      go_wp2_with fail
      go_roundw
      case rel =>
       refine ⟨k + 1, by omega, by go_num, M1.out.drop hsl, fun j y hj hy => ?_⟩
       by_cases e : j = k
       ·subst e
        rw [HY.out] at hy
        cases hy
        show ((y0 == 53) && _) = false
        rw [h5]; rfl
       ·exact HNO.out j y qaa hy
      case measure => simp [intOf]; omega
    ·obtain rfl : k = z3.length := qaa
     have hany : z3.any (noTr ts) = false := by
      exact zz122
     obtain ⟨s0, hs0⟩ : ∃ s0, s0 = (⟨fs, ms, true⟩ : BS) := ⟨_, rfl⟩
     have LK4 := hid (show linkC ⟨z0, z1, z2, z3⟩ cs ts = if (z3.foldl (BS.step z2 z3 ts) s0).ok then (0, ⟨z2, pa, (z3.foldl (BS.step z2 z3 ts) s0).fs, (z3.foldl (BS.step z2 z3 ts) s0).ms⟩) else (4, ⟨⟨#[]⟩, ⟨#[]⟩, [], []⟩) from by rw [LK3.out, hany, hs0]; rfl)
     have HOK := hid (show s0.ok = true by rw [hs0])
     have GS0 := hid (show s0.gd G by rw [hs0]; exact ⟨GF0.out, GM0.out⟩)
     have MS : LkM w wr S bm z0 z1 z2 A3 z3.length c3 pa s0.fs s0.ms (.slice AF0 fs.length cF0) (.slice AM0 ms.length cM0) nD D := by rw [hs0]; exact M
     have NT3 := hid (HNO.out)
     have kn3 := M.n.cell 3
     clear hs0 hany LK3 GF0 GM0 hno HNO hlt hk M MM
     go_wp2_with fail
     have HST := hid (fun (k : Nat) (y : FNode) (hy : z3[k]? = some y) => show (z3.take (k + 1)).foldl (BS.step z2 z3 ts) s0 = BS.step z2 z3 ts ((z3.take k).foldl (BS.step z2 z3 ts) s0) y from by rw [List.take_add_one, hy, List.foldl_append]; rfl)
     have HGD := hid (fun (k : Nat) => show ((z3.take k).foldl (BS.step z2 z3 ts) s0).gd G from BS.gd.steps (Nat.le_trans HX.out.nm qae) hts _ _ GS0.out fun y hy => ⟨hkg y (List.mem_of_mem_take hy), HX.out.mem y (List.mem_of_mem_take hy)⟩)
     go_loopw [131, 17] (fun iv fv wr => ∃ k : Nat, k ≤ z3.length ∧ iv = .int .i64 k ∧ fv = .bool ((z3.take k).foldl (BS.step z2 z3 ts) s0).ok ∧ ∃ uF uM, LkM w wr S bm z0 z1 z2 A3 z3.length c3 pa ((z3.take k).foldl (BS.step z2 z3 ts) s0).fs ((z3.take k).foldl (BS.step z2 z3 ts) s0).ms uF uM nD D) (fun iv _ _ => z3.length - (intOf iv).toNat)
     case atStart => exact ⟨0, Nat.zero_le _, rfl, by rw [List.take_zero]; exact (congrArg Value.bool HOK.out).symm, _, _, by rw [List.take_zero]; exact MS⟩
     case round =>
      clear MS kn3 GS0 HOK
      obtain ⟨k, hk, rfl, rfl, uF, uM, M⟩ := hrel
      by_cases hlt : k < z3.length
      ·obtain ⟨y, hy⟩ : ∃ y, z3[k]? = some y := ⟨_, List.getElem?_eq_getElem hlt⟩
       have hyo := HX.out.any (x := ⟨z0, z1, z2, z3⟩) (show z3[k]? = some y from hy)
       have HSK := hid (HST.out k y hy)
       have hgd := HGD.out k
       have HKG := hid (hkg y (List.mem_of_getElem? hy))
       have HNK := hid (NT3.out k y hlt hy)
       have hsz2 := hsz y (List.mem_of_getElem? hy)
       generalize (z3.take k).foldl (BS.step z2 z3 ts) s0 = st at *
       have HG := hid hgd
       have hfl : st.fs.length ≤ 1000000000 := Nat.le_trans hgd.1.len hG
       have hml : st.ms.length ≤ 1000000000 := Nat.le_trans hgd.2.len hG
       obtain ⟨by_, offy, Ey, hbly, hcc⟩ := RdC.at_ FNode.len R3.out hy
       subst Ey
       have HY := hid hy
       have hlt2 : (k : Int) < (z3.length : Int) := qaa
       have hk0 : (0 : Int) ≤ (k : Int) := qaa
       obtain ⟨wo, rfl⟩ : ∃ X : World, X = wr := ⟨_, rfl⟩
       obtain ⟨y0, y1, y2, y3⟩ := y
       obtain ⟨Dy, dy, cy_0, cy_1, cy_2, cy_3, q3⟩ := opN M.lk.be (Nat.lt_of_lt_of_le hbly hB0) hcc (offy + k * 4) (offy + k * 4 + 1) (offy + k * 4 + 2) (offy + k * 4 + 3) qaa
       have QY := hid q3
       have M1 := hid (M.fresh (.cells #[.int .i64 y0, .int .i64 y1, .string y2, .slice Dy y3.length dy] 44))
       have bY := Blk.new wo 44 #[.int .i64 y0, .int .i64 y1, .string y2, .slice Dy y3.length dy]
       have hmw : bm < wo.heap.size := (M.lk.sp bm (hsl _ (.inr (.inr rfl)))).1
       clear hcc q3 hy hgd M
       rcases hyo.kd with hk52 | hk53 | hk54 | hk55
       ·obtain ⟨e52, _, _⟩ := hk52
        obtain rfl : y0 = 52 := e52
        go_wp2_with fail
        go_roundw
        case rel => exact ⟨k + 1, by omega, by go_num, by rw [HSK.out]; rfl, _, _, by rw [HSK.out]; exact M1.out.drop hsl⟩
        case measure => simp [intOf]; omega
       ·obtain rfl : y0 = 53 := hk53
        have hz2 : z2.size ≤ 1000 := Nat.le_trans HX.out.nm qae
        have hge : decide (fidx FClass.nm ts y2 < 0) = false := HNK.out
        rcases fidx_lt FClass.nm ts y2 with hi | ⟨i, cl, hi, hil, hci⟩
        ·rw [hi] at hge; simp at hge
        obtain ⟨p, hp, hpc⟩ : ∃ p, J[i]? = some p ∧ p.1 = cl := by
         exact zz112
        have HCL := hid (hts cl (List.mem_of_getElem? hci))
        have hcat : clAt ts y2 = some cl := by unfold clAt; rw [hi, atI_nat hci]
        have RM := hid (HJR.out.mem p (List.mem_of_getElem? hp))
        obtain ⟨⟨ca, cb, cfs, cms⟩, uFi, uMi⟩ := p
        subst hpc
        have HS0 := hid (show (z3.take (k + 1)).foldl (BS.step z2 z3 ts) s0 = (st.useF z2 cfs).useM z2 z3 cms from by
         rw [HSK.out]
         unfold BS.step
         exact zz115)
        obtain ⟨AF, cF, eF⟩ : ∃ A c, uFi = .slice A cfs.length c := RM.out.1.form
        obtain ⟨AM, cM, eM⟩ : ∃ A c, uMi = .slice A cms.length c := RM.out.2.form
        subst eF eM
        have RK := hid (fun (X : World) (hb : Below w.heap.size w X) => HJR.out.at_ hb hB0 hp)
        obtain ⟨bk, offk, Ek, hbk, -⟩ := RK.out w (Below.refl _ _)
        subst Ek
        have RK2 := hid (fun (X : World) (hb : Below w.heap.size w X) => show X.cell? ⟨bk, offk + i * 4, none⟩ = some (.string ca) ∧ X.cell? ⟨bk, offk + i * 4 + 1, none⟩ = some (.string cb) ∧ X.cell? ⟨bk, offk + i * 4 + 2, none⟩ = some (.slice AF cfs.length cF) ∧ X.cell? ⟨bk, offk + i * 4 + 3, none⟩ = some (.slice AM cms.length cM) from by
         exact zz84)
        have FY := hid (FT.out y2)
        rw [hi] at FY
        have hi0 : (0 : Int) ≤ (i : Int) := qaa
        have hil2 : (i : Int) < (ts.length : Int) := qaa
        have hcf : cfs.length ≤ 1000000000 := Nat.le_trans HCL.out.f.len hG
        have hcm : cms.length ≤ 1000000000 := Nat.le_trans HCL.out.m.len hG
        clear hp hci RK hge hcat
        go_upto_region 36 with (go_at_call 74; refine (FY.out _ M1.out.lk.be).mono ?_; rintro e w3 ⟨rfl, hb, hb2⟩; have M3 := M1.out.below hb; obtain ⟨kk0, kk1, kk2, kk3⟩ := RK2.out _ M3.lk.be; clear hb hb2)
        have M4 := M3.fresh (.cells #[.string ca, .string cb, .slice AF cfs.length cF, .slice AM cms.length cM] 56)
        have bT := Blk.new w3 56 #[.string ca, .string cb, .slice AF cfs.length cF, .slice AM cms.length cM]
        clear M3 kk0 kk1 kk2 kk3 bY
        generalize w3.alloc (.cells #[.string ca, .string cb, .slice AF cfs.length cF, .slice AM cms.length cM] 56) = X4 at *
        have kt2 := bT.cell 2
        have ktl := bT.lt
        go_wp2_with fail
        clear kt2 ktl
        go_loopw [149, 17] (fun iv fv wr => ∃ j : Nat, j ≤ cfs.length ∧ iv = .int .i64 j ∧ fv = .bool (st.useF z2 (cfs.take j)).ok ∧ Blk wr w3.heap.size 56 #[.string ca, .string cb, .slice AF cfs.length cF, .slice AM cms.length cM] ∧ ∃ uF, LkM w wr (w3.heap.size :: wo.heap.size :: S) bm z0 z1 z2 (some ⟨by_, offy, none⟩) z3.length c3 pa (st.useF z2 (cfs.take j)).fs (st.useF z2 (cfs.take j)).ms uF uM nD D) (fun iv _ _ => cfs.length - (intOf iv).toNat)
        case atStart => exact ⟨0, Nat.zero_le _, rfl, by rw [List.take_zero]; rfl, bT, _, by rw [List.take_zero]; exact M4⟩
        case round =>
         clear M4 bT
         obtain ⟨j, hj, rfl, rfl, bT, uF, M5⟩ := hrel
         by_cases hjl : j < cfs.length
         ·obtain ⟨f, hf⟩ : ∃ f, cfs[j]? = some f := ⟨_, List.getElem?_eq_getElem hjl⟩
          have hfp := HCL.out.f.mem f (List.mem_of_getElem? hf)
          obtain ⟨bf, offf, cF2, eF, hbf, hfc⟩ := rd_at FField.vlen RM.out.1 M5.lk.be hB0 hf
          cases eF
          have HTK := hid (show st.useF z2 (cfs.take (j + 1)) = (st.useF z2 (cfs.take j)).putF z2 (f.own z2) from by unfold BS.useF; rw [List.take_add_one, hf, List.foldl_append]; rfl)
          have hgj : (st.useF z2 (cfs.take j)).gd G := BS.gd.useF hz2 _ _ HG.out fun x hx => HCL.out.f.mem x (List.mem_of_mem_take hx)
          generalize st.useF z2 (cfs.take j) = sj at *
          have hpj : ∀ x, x ∈ sj.fs → x.plain := fun x hx => (hgj.1.mem x hx).1
          have hlj : sj.fs.length ≤ 1000000000 := Nat.le_trans hgj.1.len hG
          clear hgj
          have hjl2 : (j : Int) < (cfs.length : Int) := qaa
          obtain ⟨f0, f1, f2, ⟨f3, f4, f5, f6, f7⟩⟩ := f
          obtain rfl : f7 = [] := hfp.1.2.2.2
          have hwp : FField.plain ⟨f0, z2, f2, ⟨f3, f4, f5, f6, []⟩⟩ := own_plainF hfp.1 hz2
          have q0 : wr.cell? ⟨bf, offf + j * 8, none⟩ = some (.string f0) := hfc 0 _ rfl
          have q1 : wr.cell? ⟨bf, offf + j * 8 + 1, none⟩ = some (.string f1) := hfc 1 _ rfl
          have q2 : wr.cell? ⟨bf, offf + j * 8 + 2, none⟩ = some (.bool f2) := hfc 2 _ rfl
          have q3 : wr.cell? ⟨bf, offf + j * 8 + 3, none⟩ = some (.int .i64 f3) := hfc 3 _ rfl
          have q4 : wr.cell? ⟨bf, offf + j * 8 + 4, none⟩ = some (.int .i64 f4) := hfc 4 _ rfl
          have q5 : wr.cell? ⟨bf, offf + j * 8 + 5, none⟩ = some (.string f5) := hfc 5 _ rfl
          have q6 : wr.cell? ⟨bf, offf + j * 8 + 6, none⟩ = some (.int .i64 f6) := hfc 6 _ rfl
          have q7 : wr.cell? ⟨bf, offf + j * 8 + 7, none⟩ = some (.slice none 0 0) := hfc 7 _ rfl
          have M6 := M5.fresh (.cells #[.string f0, .string f1, .bool f2, .int .i64 f3, .int .i64 f4, .string f5, .int .i64 f6, .slice none 0 0] 79)
          have M7 := M5.fresh (.cells #[.string f0, .string z2, .bool f2, .int .i64 f3, .int .i64 f4, .string f5, .int .i64 f6, .slice none 0 0] 79)
          have bF := Blk.new wr 79 #[.string f0, .string f1, .bool f2, .int .i64 f3, .int .i64 f4, .string f5, .int .i64 f6, .slice none 0 0]
          have bF7 := Blk.new wr 79 #[.string f0, .string z2, .bool f2, .int .i64 f3, .int .i64 f4, .string f5, .int .i64 f6, .slice none 0 0]
          have bT7 := bT.alloc (.cells #[.string f0, .string z2, .bool f2, .int .i64 f3, .int .i64 f4, .string f5, .int .i64 f6, .slice none 0 0] 79)
          have hbm5 : bm < wr.heap.size := (M5.lk.sp bm (List.mem_cons_of_mem _ (List.mem_cons_of_mem _ (hsl _ (.inr (.inr rfl)))))).1
          have htne : w3.heap.size ≠ wr.heap.size := Nat.ne_of_lt (M5.lk.sp w3.heap.size (List.mem_cons_self ..)).1
          have bC6 := M6.lk.box
          have bC60 := bC6.cell 0
          have bFl := bF.lt
          have bFf := fun i => bF.frozen i
          clear hfc hf M5 bT
          go_upto_region 40 with fail
          clear M6 bF bC6 bC60 bFl bFf q0 q1 q2 q3 q4 q5 q6 q7
          generalize wr.alloc (.cells #[.string f0, .string z2, .bool f2, .int .i64 f3, .int .i64 f4, .string f5, .int .i64 f6, .slice none 0 0] 79) = W4 at *
          have bF70 := bF7.cell 0; have bF71 := bF7.cell 1; have bF72 := bF7.cell 2; have bF73 := bF7.cell 3; have bF74 := bF7.cell 4; have bF75 := bF7.cell 5; have bF76 := bF7.cell 6; have bF77 := bF7.cell 7; have bF7l := bF7.lt; have bF7f := fun i => bF7.frozen i
          go_upto_region 41 with (go_at_call 75; refine (copyV_flat _ _ _ _ _).mono ?_; rintro e w5 ⟨rfl, hb⟩; have M8 := M7.below hb; have bF8 := bF7.below hb nr; have bT8 := bT7.below hb nr; have bF80 := bF8.cell 0; have bF81 := bF8.cell 1; have bF82 := bF8.cell 2; have bF83 := bF8.cell 3; have bF84 := bF8.cell 4; have bF85 := bF8.cell 5; have bF86 := bF8.cell 6; have bF87 := bF8.cell 7; have bF8l := bF8.lt; have bF8f := fun i => bF8.frozen i; clear hb)
          obtain ⟨M9, bF9⟩ := LkM.init (v3 := .int .i64 f3) (v4 := .int .i64 f4) (v5 := .string f5) (v6 := .int .i64 f6) (v7 := .slice none 0 0) M8 hbm5 bF8
          have bT9 := ((((bT8.far (p := ⟨wr.heap.size, 3, none⟩) htne (.int .i64 f3)).far (p := ⟨wr.heap.size, 4, none⟩) htne (.int .i64 f4)).far (p := ⟨wr.heap.size, 5, none⟩) htne (.string f5)).far (p := ⟨wr.heap.size, 6, none⟩) htne (.int .i64 f6)).far (p := ⟨wr.heap.size, 7, none⟩) htne (.slice none 0 0)
          clear M7 bF7 bT7 bF70 bF71 bF72 bF73 bF74 bF75 bF76 bF77 bF7l bF7f M8 bF8 bT8 bF80 bF81 bF82 bF83 bF84 bF85 bF86 bF87 bF8l bF8f
          generalize ((((w5.setCell ⟨wr.heap.size, 3, none⟩ (.int .i64 f3)).setCell ⟨wr.heap.size, 4, none⟩ (.int .i64 f4)).setCell ⟨wr.heap.size, 5, none⟩ (.string f5)).setCell ⟨wr.heap.size, 6, none⟩ (.int .i64 f6)).setCell ⟨wr.heap.size, 7, none⟩ (.slice none 0 0) = W5 at *
          have bF90 := bF9.cell 0; have bF91 := bF9.cell 1; have bF92 := bF9.cell 2; have bF93 := bF9.cell 3; have bF94 := bF9.cell 4; have bF95 := bF9.cell 5; have bF96 := bF9.cell 6; have bF97 := bF9.cell 7; have bF9l := bF9.lt; have bF9f := fun i => bF9.frozen i
          have MX := hid M9
          clear M9
          cases hr : (putF z2 sj.fs ⟨f0, z2, f2, ⟨f3, f4, f5, f6, []⟩⟩).2
          all_goals
           have HR := hid hr
           have HS := hid (show st.useF z2 (cfs.take (j + 1)) = ⟨(putF z2 sj.fs ⟨f0, z2, f2, ⟨f3, f4, f5, f6, []⟩⟩).1, sj.ms, (putF z2 sj.fs ⟨f0, z2, f2, ⟨f3, f4, f5, f6, []⟩⟩).2 && sj.ok⟩ from HTK.out)
           rw [hr] at HS
           clear hr
           go_wp2_with (go_at_call 76; refine (addField_impl w _ _ z2 pa _ _ _ _ ⟨f0, z2, f2, ⟨f3, f4, f5, f6, []⟩⟩ _ MX.out.lk hpj hwp hlj).mono ?_; rw [HR.out]; rintro e w6 ⟨rfl, vF, L3, fr3⟩; have MY := hid ((MX.out.stay L3 fr3).drop fun s h => List.mem_cons_of_mem _ (List.mem_cons_of_mem _ (hsl s h))); have bTY := (fr3 w3.heap.size (List.mem_cons_of_mem _ (List.mem_cons_self ..))).trans bT9; clear L3 fr3)
           go_roundw
           case rel => exact ⟨j + 1, by omega, by go_num, by rw [HS.out]; rfl, bTY, _, by rw [HS.out]; exact MY.out⟩
           case measure => simp [intOf]; omega
         ·obtain rfl : j = cfs.length := qaa
          rw [List.take_length] at M5
          rw [List.take_length]
          have hg2 : (st.useF z2 cfs).gd G := BS.gd.useF hz2 _ _ HG.out fun x hx => HCL.out.f.mem x hx
          generalize st.useF z2 cfs = s2 at *
          have HG2 := hid hg2
          have kt3 := bT.cell 3
          have ktl := bT.lt
          clear hg2 hjl hj
          go_wp2_with fail
          have M5b := M5.drop fun s h => List.mem_cons_of_mem _ (hsl s h)
          clear kt3 ktl bT M5
          go_loopw [169, 17] (fun iv fv wr => ∃ j : Nat, j ≤ cms.length ∧ iv = .int .i64 j ∧ fv = .bool (s2.useM z2 z3 (cms.take j)).ok ∧ ∃ uF uM, LkM w wr (wo.heap.size :: S) bm z0 z1 z2 (some ⟨by_, offy, none⟩) z3.length c3 pa (s2.useM z2 z3 (cms.take j)).fs (s2.useM z2 z3 (cms.take j)).ms uF uM nD D) (fun iv _ _ => cms.length - (intOf iv).toNat)
          case atStart => exact ⟨0, Nat.zero_le _, rfl, by rw [List.take_zero]; rfl, _, _, by rw [List.take_zero]; exact M5b⟩
          case round =>
           clear M5b
           obtain ⟨j, hj, rfl, rfl, uF, uM, M5⟩ := hrel
           by_cases hjl : j < cms.length
           ·obtain ⟨f, hf⟩ : ∃ f, cms[j]? = some f := ⟨_, List.getElem?_eq_getElem hjl⟩
            have hfp := HCL.out.m.mem f (List.mem_of_getElem? hf)
            obtain ⟨bf, offf, cF2, eF, hbf, hfc⟩ := rd_at FMethod.vlen RM.out.2 M5.lk.be hB0 hf
            cases eF
            have HTK := hid (show s2.useM z2 z3 (cms.take (j + 1)) = (if dclB z3 (FMethod.nm f) then s2.useM z2 z3 (cms.take j) else (s2.useM z2 z3 (cms.take j)).putM z2 (f.own z2)) from by unfold BS.useM; rw [List.take_add_one, hf, List.foldl_append]; rfl)
            have hgj : (s2.useM z2 z3 (cms.take j)).gd G := BS.gd.useM hz2 _ _ HG2.out fun x hx => HCL.out.m.mem x (List.mem_of_mem_take hx)
            generalize s2.useM z2 z3 (cms.take j) = sj at *
            have hlj : sj.ms.length ≤ 1000000000 := Nat.le_trans hgj.2.len hG
            clear hgj
            have hjl2 : (j : Int) < (cms.length : Int) := qaa
            obtain ⟨f0, f1, f2, f3, f4⟩ := f
            have hf0 : f0.size ≤ 1000 := hfp.1.1
            have hsm : f0.size ≤ maxLen := by unfold maxLen; omega
            have q0 : wr.cell? ⟨bf, offf + j * 5, none⟩ = some (.string f0) := hfc 0 _ rfl
            have q1 : wr.cell? ⟨bf, offf + j * 5 + 1, none⟩ = some (.string f1) := hfc 1 _ rfl
            have q2 : wr.cell? ⟨bf, offf + j * 5 + 2, none⟩ = some (.string f2) := hfc 2 _ rfl
            have q3 : wr.cell? ⟨bf, offf + j * 5 + 3, none⟩ = some (.bool f3) := hfc 3 _ rfl
            have q4 : wr.cell? ⟨bf, offf + j * 5 + 4, none⟩ = some (.bool f4) := hfc 4 _ rfl
            have M6 := M5.fresh (.cells #[.string f0, .string f1, .string f2, .bool f3, .bool f4] 87)
            have M7 := M5.fresh (.cells #[.string f0, .string z2, .string f2, .bool f3, .bool f4] 87)
            have bF := Blk.new wr 87 #[.string f0, .string f1, .string f2, .bool f3, .bool f4]
            have bF7 := Blk.new wr 87 #[.string f0, .string z2, .string f2, .bool f3, .bool f4]
            have hbm5 : bm < wr.heap.size := (M5.lk.sp bm (List.mem_cons_of_mem _ (hsl _ (.inr (.inr rfl))))).1
            have bC6 := M6.lk.box
            have bC60 := bC6.cell 0
            have bFl := bF.lt
            have bFf := fun i => bF.frozen i
            clear hfc hf M5
            go_upto_region 47 with fail
            clear M6 bF bC6 bC60 bFl bFf q0 q1 q2 q3 q4
            generalize wr.alloc (.cells #[.string f0, .string z2, .string f2, .bool f3, .bool f4] 87) = W4 at *
            have bF70 := bF7.cell 0; have bF71 := bF7.cell 1; have bF72 := bF7.cell 2; have bF73 := bF7.cell 3; have bF74 := bF7.cell 4; have bF7l := bF7.lt; have bF7f := fun i => bF7.frozen i
            have MX := hid M7
            have SN7 := hid M7.sn
            clear M7
            have HAS := hid (HD.out f0)
            cases hd : dclB z3 f0
            ·rw [hd] at HAS
             cases hr : (putM z2 sj.ms ⟨f0, z2, f2, f3, f4⟩).2
             all_goals
              have HR := hid hr
              have HS := hid (show s2.useM z2 z3 (cms.take (j + 1)) = ⟨sj.fs, (putM z2 sj.ms ⟨f0, z2, f2, f3, f4⟩).1, (putM z2 sj.ms ⟨f0, z2, f2, f3, f4⟩).2 && sj.ok⟩ from by rw [HTK.out, show dclB z3 (FMethod.nm ⟨f0, f1, f2, f3, f4⟩) = false from hd]; rfl)
              rw [hr] at HS
              clear hr
              go_wp2_with (first | (at_lookup; refine wpList_look_seen _ rfl _ _ 51 rfl 9 4 Tryz.underlying9 Tryz.underlying4 (fun W => by kernel_rfl) Tryz.underlying51 bm nD D rfl SN7.out f0 hsm rfl ?_; rw [HAS.out]) | (go_at_call 77; refine (addMethod_impl w _ _ z2 pa _ _ _ _ ⟨f0, z2, f2, f3, f4⟩ _ MX.out.lk hlj).mono ?_; rw [HR.out]; rintro e w6 ⟨rfl, vF, L3, fr3⟩; have MY := hid ((MX.out.stay L3 fr3).drop fun s h => List.mem_cons_of_mem _ (hsl s h)); clear L3 fr3))
              go_roundw
              case rel => exact ⟨j + 1, by omega, by go_num, by rw [HS.out]; rfl, _, _, by rw [HS.out]; exact MY.out⟩
              case measure => simp [intOf]; omega
            ·rw [hd] at HAS
             have HS := hid (show s2.useM z2 z3 (cms.take (j + 1)) = sj from by rw [HTK.out, show dclB z3 (FMethod.nm ⟨f0, f1, f2, f3, f4⟩) = true from hd]; rfl)
             go_wp2_with (at_lookup; refine wpList_look_seen _ rfl _ _ 51 rfl 9 4 Tryz.underlying9 Tryz.underlying4 (fun W => by kernel_rfl) Tryz.underlying51 bm nD D rfl SN7.out f0 hsm rfl ?_; rw [HAS.out])
             go_roundw
             case rel => exact ⟨j + 1, by omega, by go_num, by rw [HS.out], _, _, by rw [HS.out]; exact MX.out.drop fun s h => List.mem_cons_of_mem _ (hsl s h)⟩
             case measure => simp [intOf]; omega
           ·obtain rfl : j = cms.length := qaa
            rw [List.take_length] at M5
            rw [List.take_length]
            have M5b := hid (M5.drop hsl)
            clear M5 hjl hj
            go_wp2_with fail
            go_roundw
            case rel => exact ⟨k + 1, by omega, by go_num, by rw [HS0.out], _, _, by rw [HS0.out]; exact M5b.out⟩
            case measure => simp [intOf]; omega
       ·obtain ⟨e54, ⟨yk, eyk, ⟨hk13, hk400⟩, hn54⟩⟩ := hk54
        obtain rfl : y0 = 54 := e54
        obtain rfl : y3 = [yk] := eyk
        have hn := inB_iff.1 hn54
        have hn2 : 0 ≤ y1 ∧ y1 ≤ 1 := hn
        have hy4 : y1 = 0 ∨ y1 = 1 := qaa
        clear hn hn2 hn54
        obtain ⟨q0, q1, q2, q3⟩ := yk
        obtain ⟨bq, offq, Eq_, hblq, hcq⟩ := RdC.at_ (l := [⟨q0, q1, q2, q3⟩]) FNode.len QY.out (i := 0) (x := ⟨q0, q1, q2, q3⟩) rfl
        subst Eq_
        obtain ⟨Dq, dq, kq0, kq1, kq2, kq3, -⟩ := opN (Below.refl w.heap.size w) (Nat.lt_of_lt_of_le hblq hB0) hcq (offq) (offq + 1) (offq + 2) (offq + 3) qaa
        have hbq : bq < w.heap.size := Nat.lt_of_lt_of_le hblq hB0
        have QC := hid (fun (X : World) (hb : Below w.heap.size w X) => show X.cell? ⟨bq, offq, none⟩ = some (.int .i64 q0) ∧ X.cell? ⟨bq, offq + 1, none⟩ = some (.int .i64 q1) ∧ X.cell? ⟨bq, offq + 2, none⟩ = some (.string q2) ∧ X.cell? ⟨bq, offq + 3, none⟩ = some (.slice Dq q3.length dq) from
         ⟨(hb.cell (p := ⟨bq, offq, none⟩) hbq).trans kq0, (hb.cell (p := ⟨bq, offq + 1, none⟩) hbq).trans kq1, (hb.cell (p := ⟨bq, offq + 2, none⟩) hbq).trans kq2, (hb.cell (p := ⟨bq, offq + 3, none⟩) hbq).trans kq3⟩)
        obtain ⟨V, hV⟩ : ∃ V, litV ⟨q0, q1, q2, q3⟩ = V := ⟨_, rfl⟩
        have hz2 : z2.size ≤ 1000 := Nat.le_trans HX.out.nm qae
        have hVp : ∀ b, FField.plain ⟨y2, z2, b, V⟩ := fun b => by rw [← hV]; exact litV_plain hsz2 hz2 hk400
        have hfp : ∀ x, x ∈ st.fs → x.plain := fun x hx => (HG.out.1.mem x hx).1
        have LV0 := hid (fun X => litV_impl q0 q1 q2 q3 Dq q3.length dq X hk13)
        rw [hV] at LV0
        obtain ⟨v0, v1, v2, v3, v4⟩ := V
        obtain rfl : v4 = [] := (hVp false).2.2.2
        have LV := hid (fun (X : World) => show Calls Tryz.prog 78 #[.agg #[.int .i64 q0, .int .i64 q1, .string q2, .slice Dq q3.length dq]] X fun e w' => e = .returned (.agg #[.int .i64 v0, .int .i64 v1, .string v2, .int .i64 v3, .slice none 0 0]) ∧ Below X.heap.size X w' from LV0.out X)
        clear LV0 hcq kq0 kq1 kq2 kq3 QY hblq
        obtain ⟨b1, hb1⟩ : ∃ b, prvI y1 = b := ⟨_, rfl⟩
        have hA1 : (bits .and .i64 y1 1 != 0) = b1 := by rw [← hb1]; rcases hy4 with rfl | rfl <;> decide
        cases hr : (putF z2 st.fs ⟨y2, z2, b1, ⟨v0, v1, v2, v3, []⟩⟩).2
        all_goals
         have HR := hid hr
         have HS := hid (show (z3.take (k + 1)).foldl (BS.step z2 z3 ts) s0 = ⟨(putF z2 st.fs ⟨y2, z2, b1, ⟨v0, v1, v2, v3, []⟩⟩).1, st.ms, (putF z2 st.fs ⟨y2, z2, b1, ⟨v0, v1, v2, v3, []⟩⟩).2 && st.ok⟩ from by rw [HSK.out, ← hb1, ← hV]; rfl)
         rw [hr] at HS
         clear hr hV
        ·skip
         simp only [List.length_singleton] at M1 bY cy_3
         go_upto_region 51 with fail
         generalize wo.alloc (.cells #[.int .i64 54, .int .i64 y1, .string y2, .slice (some ⟨bq, offq, none⟩) 1 dy] 44) = X9 at *
         have MD := hid (M1.out.below (below_drL (Below.refl _ _)))
         have bYD := bY.drew
         clear bY
         refine lateStart (S := (fun w_ => (Below w.heap.size w w_ ∧ Blk w_ wo.heap.size 44 #[.int .i64 54, .int .i64 y1, .string y2, .slice (some ⟨bq, offq, none⟩) 1 dy] ∧ ∃ u, Blk w_ (w.heap.size + 1 + 1) 56 #[.string z2, .string pa, u, uM]))) [] qab ?_ (fun hHeld => ?_)
         ·(try dsimp only)
          (exact ⟨MD.out.lk.be, bYD, _, MD.out.lk.box⟩)
         generalize X9.drew = wd at *
         (refine lgt (i := 0) rfl qz hHeld ?_; try simp only [aS])
         refine lateTake (i := 1) (v := ?_) rfl qab qae qab qab qab qab (fun _ _ _ h => h) qar ?_ hHeld ?_
         rotate_left
         ·exact zz185
         try simp only [aS]
         (refine lgt (i := 2) rfl qz hHeld ?_; try simp only [aS])
         refine lateTake (i := 3) (v := ?_) rfl qab qae qab qab qab qab (fun _ _ _ h => h) qar ?_ hHeld ?_
         rotate_left
         ·exact zz204
         try simp only [aS]
         (refine lgt (i := 4) rfl qz hHeld ?_; try simp only [aS])
         refine lateTake (i := 5) (v := ?_) rfl qab qae qab qab qab qab (fun _ _ _ h => h) qar ?_ hHeld ?_
         rotate_left
         ·exact zz198
         try simp only [aS]
         (refine lgt (i := 6) rfl qz hHeld ?_; try simp only [aS])
         (refine lgt (i := 7) rfl qz hHeld ?_; try simp only [aS])
         (refine lgt (i := 8) rfl qz hHeld ?_; try simp only [aS])
         refine lateTake (i := 9) (v := ?_) rfl qab qae qab qab qab qab (fun _ _ _ h => h) qar ?_ hHeld ?_
         rotate_left
         ·exact zz199
         try simp only [aS]
         (refine lgt (i := 10) rfl qz hHeld ?_; try simp only [aS])
         refine lateTake (i := 11) (v := ?_) rfl qab qae qab qab qab qab (fun _ _ _ h => h) qar ?_ hHeld ?_
         rotate_left
         ·exact zz193
         try simp only [aS]
         refine lateOne (i := 12) qab ?_
         refine lateOp (i := 12) rfl qar (fun K hK => ?_)
         go_simp
         (go_at_call 78; refine (LV.out _).mono ?_; rintro e w4 ⟨rfl, hb⟩; have M4 := hid (MD.out.below hb); have bY4 := bYD.below hb nr; have hS_ : (Below w.heap.size w w4 ∧ Blk w4 wo.heap.size 44 #[.int .i64 54, .int .i64 y1, .string y2, .slice (some ⟨bq, offq, none⟩) 1 dy] ∧ ∃ u, Blk w4 (w.heap.size + 1 + 1) 56 #[.string z2, .string pa, u, uM]) := ⟨M4.out.lk.be, bY4, _, M4.out.lk.box⟩; clear hb)
         clear hHeld
         refine hK.out _ _ hS_ (fun hHeld => ?_)
         clear hK K hS_
         try simp only [aS]
         (refine lgt (i := 13) rfl qz hHeld ?_; try simp only [aS])
         refine lateOne (i := 14) qab ?_
         refine lateOp (i := 14) rfl qar (fun K hK => ?_)
         go_simp
         (go_at_call 76; refine (addField_impl w _ _ z2 pa _ _ _ _ ⟨y2, z2, b1, ⟨v0, v1, v2, v3, []⟩⟩ _ M4.out.lk hfp (hVp b1) hfl).mono ?_; rw [HR.out]; rintro e w3 ⟨rfl, vF, L3, fr3⟩; have M3 := hid (M4.out.stay L3 fr3); have hS_ : (Below w.heap.size w w3 ∧ Blk w3 wo.heap.size 44 #[.int .i64 54, .int .i64 y1, .string y2, .slice (some ⟨bq, offq, none⟩) 1 dy] ∧ ∃ u, Blk w3 (w.heap.size + 1 + 1) 56 #[.string z2, .string pa, u, uM]) := ⟨M3.out.lk.be, (fr3 _ (List.mem_cons_self ..)).trans bY4, _, M3.out.lk.box⟩; clear L3 fr3)
         clear hHeld
         refine hK.out _ _ hS_ (fun hHeld => ?_)
         clear hK K hS_
         try simp only [aS]
         (refine lgt (i := 15) rfl qz hHeld ?_; try simp only [aS])
         refine lateSkip (i := 16) rfl qab qae qab qab (fun _ _ _ h => h) qar hHeld ?_
         try simp only [aS]
         exact zz72
        ·skip
         simp only [List.length_singleton] at M1 bY cy_3
         go_upto_region 51 with fail
         generalize wo.alloc (.cells #[.int .i64 54, .int .i64 y1, .string y2, .slice (some ⟨bq, offq, none⟩) 1 dy] 44) = X9 at *
         have MD := hid (M1.out.below (below_drL (Below.refl _ _)))
         have bYD := bY.drew
         clear bY
         refine lateStart (S := (fun w_ => (Below w.heap.size w w_ ∧ Blk w_ wo.heap.size 44 #[.int .i64 54, .int .i64 y1, .string y2, .slice (some ⟨bq, offq, none⟩) 1 dy] ∧ ∃ u, Blk w_ (w.heap.size + 1 + 1) 56 #[.string z2, .string pa, u, uM]))) [] qab ?_ (fun hHeld => ?_)
         ·(try dsimp only)
          (exact ⟨MD.out.lk.be, bYD, _, MD.out.lk.box⟩)
         generalize X9.drew = wd at *
         (refine lgt (i := 0) rfl qz hHeld ?_; try simp only [aS])
         refine lateTake (i := 1) (v := ?_) rfl qab qae qab qab qab qab (fun _ _ _ h => h) qar ?_ hHeld ?_
         rotate_left
         ·exact zz185
         try simp only [aS]
         (refine lgt (i := 2) rfl qz hHeld ?_; try simp only [aS])
         refine lateTake (i := 3) (v := ?_) rfl qab qae qab qab qab qab (fun _ _ _ h => h) qar ?_ hHeld ?_
         rotate_left
         ·exact zz204
         try simp only [aS]
         (refine lgt (i := 4) rfl qz hHeld ?_; try simp only [aS])
         refine lateTake (i := 5) (v := ?_) rfl qab qae qab qab qab qab (fun _ _ _ h => h) qar ?_ hHeld ?_
         rotate_left
         ·exact zz198
         try simp only [aS]
         (refine lgt (i := 6) rfl qz hHeld ?_; try simp only [aS])
         (refine lgt (i := 7) rfl qz hHeld ?_; try simp only [aS])
         (refine lgt (i := 8) rfl qz hHeld ?_; try simp only [aS])
         refine lateTake (i := 9) (v := ?_) rfl qab qae qab qab qab qab (fun _ _ _ h => h) qar ?_ hHeld ?_
         rotate_left
         ·exact zz199
         try simp only [aS]
         (refine lgt (i := 10) rfl qz hHeld ?_; try simp only [aS])
         refine lateTake (i := 11) (v := ?_) rfl qab qae qab qab qab qab (fun _ _ _ h => h) qar ?_ hHeld ?_
         rotate_left
         ·exact zz193
         try simp only [aS]
         refine lateOne (i := 12) qab ?_
         refine lateOp (i := 12) rfl qar (fun K hK => ?_)
         go_simp
         (go_at_call 78; refine (LV.out _).mono ?_; rintro e w4 ⟨rfl, hb⟩; have M4 := hid (MD.out.below hb); have bY4 := bYD.below hb nr; have hS_ : (Below w.heap.size w w4 ∧ Blk w4 wo.heap.size 44 #[.int .i64 54, .int .i64 y1, .string y2, .slice (some ⟨bq, offq, none⟩) 1 dy] ∧ ∃ u, Blk w4 (w.heap.size + 1 + 1) 56 #[.string z2, .string pa, u, uM]) := ⟨M4.out.lk.be, bY4, _, M4.out.lk.box⟩; clear hb)
         clear hHeld
         refine hK.out _ _ hS_ (fun hHeld => ?_)
         clear hK K hS_
         try simp only [aS]
         (refine lgt (i := 13) rfl qz hHeld ?_; try simp only [aS])
         refine lateOne (i := 14) qab ?_
         refine lateOp (i := 14) rfl qar (fun K hK => ?_)
         go_simp
         (go_at_call 76; refine (addField_impl w _ _ z2 pa _ _ _ _ ⟨y2, z2, b1, ⟨v0, v1, v2, v3, []⟩⟩ _ M4.out.lk hfp (hVp b1) hfl).mono ?_; rw [HR.out]; rintro e w3 ⟨rfl, vF, L3, fr3⟩; have M3 := hid (M4.out.stay L3 fr3); have hS_ : (Below w.heap.size w w3 ∧ Blk w3 wo.heap.size 44 #[.int .i64 54, .int .i64 y1, .string y2, .slice (some ⟨bq, offq, none⟩) 1 dy] ∧ ∃ u, Blk w3 (w.heap.size + 1 + 1) 56 #[.string z2, .string pa, u, uM]) := ⟨M3.out.lk.be, (fr3 _ (List.mem_cons_self ..)).trans bY4, _, M3.out.lk.box⟩; clear L3 fr3)
         clear hHeld
         refine hK.out _ _ hS_ (fun hHeld => ?_)
         clear hK K hS_
         try simp only [aS]
         (refine lgt (i := 15) rfl qz hHeld ?_; try simp only [aS])
         (refine lgt (i := 16) rfl qz hHeld ?_; try simp only [aS])
         exact zz72
       ·obtain ⟨e55, hn55⟩ := hk55
        obtain rfl : y0 = 55 := e55
        have hn := inB_iff.1 hn55
        have hn2 : 0 ≤ y1 ∧ y1 ≤ 3 := hn
        have hy4 : y1 = 0 ∨ y1 = 1 ∨ y1 = 2 ∨ y1 = 3 := qaa
        clear hn hn2 hn55
        have bC := M1.out.lk.box
        have bC0 := bC.cell 0
        have bCl := bC.lt
        obtain ⟨b1, hb1⟩ : ∃ b, prvI y1 = b := ⟨_, rfl⟩
        obtain ⟨b2, hb2⟩ : ∃ b, stcI y1 = b := ⟨_, rfl⟩
        have hA1 : (bits .and .i64 y1 1 != 0) = b1 := by rw [← hb1]; rcases hy4 with rfl | rfl | rfl | rfl <;> decide
        have hA2 : (bits .and .i64 y1 2 != 0) = b2 := by rw [← hb2]; rcases hy4 with rfl | rfl | rfl | rfl <;> decide
        cases hr : (putM z2 st.ms ⟨y2, z2, z2, b1, b2⟩).2
        all_goals
         have HR := hid hr
         have HS := hid (show (z3.take (k + 1)).foldl (BS.step z2 z3 ts) s0 = ⟨st.fs, (putM z2 st.ms ⟨y2, z2, z2, b1, b2⟩).1, (putM z2 st.ms ⟨y2, z2, z2, b1, b2⟩).2 && st.ok⟩ from by rw [HSK.out, ← hb1, ← hb2]; rfl)
         rw [hr] at HS
         clear hr
         go_wp2_with (go_at_call 77; refine (addMethod_impl w _ _ z2 pa _ _ _ _ ⟨y2, z2, z2, b1, b2⟩ _ M1.out.lk hml).mono ?_; rw [HR.out]; rintro e w3 ⟨rfl, v3, L3, fr3⟩; have M3 := hid ((M1.out.stay L3 fr3).drop hsl); clear L3 fr3)
         go_roundw
         case rel => exact ⟨k + 1, by omega, by go_num, by rw [HS.out]; rfl, _, _, by rw [HS.out]; exact M3.out⟩
         case measure => simp [intOf]; omega
      ·obtain rfl : k = z3.length := qaa
       rw [List.take_length] at M
       rw [List.take_length]
       generalize z3.foldl (BS.step z2 z3 ts) s0 = se at *
       obtain ⟨AF9, cF9, eF9⟩ : ∃ A c, uF = .slice A se.fs.length c := M.lk.rf.form
       obtain ⟨AM9, cM9, eM9⟩ : ∃ A c, uM = .slice A se.ms.length c := M.lk.rm.form
       subst eF9 eM9
       have bC := M.lk.box
       have bR := M.r
       have sR := M.lk.sp (w.heap.size + 1) (hsl _ (.inr (.inl rfl)))
       have RFx := hid M.lk.rf
       have RMx := hid M.lk.rm
       have FMx := hid M.lk.fm
       have BEx := hid M.lk.be
       have bC0 := bC.cell 0; have bC1 := bC.cell 1; have bC2 := bC.cell 2; have bC3 := bC.cell 3; have bCl := bC.lt; have bCf := fun i => bC.frozen i
       have bR0 := bR.cell 0; have bR1 := bR.cell 1; have bR2 := bR.cell 2; have bR3 := bR.cell 3; have bRl := bR.lt; have bRf := fun i => bR.frozen i
       cases hok : se.ok
       all_goals
        have LK5 := LK4.out
        rw [hok] at LK5
        replace LK5 := hid LK5
        clear M LK4
        go_wp2_with fail
        rw [LK5.out]
       ·refine bodyPost_ret (v := .tuple #[.agg #[.string z2, .string pa, .slice AF9 se.fs.length cF9, .slice AM9 se.ms.length cM9], .int .i64 4]) qam rfl ⟨z2, pa, AF9, se.fs.length, cF9, AM9, se.ms.length, cM9, rfl, ?_, fun h => by cases h⟩
        repeat (refine Below.setCell ?_ qag _)
        exact BEx.out
       ·refine bodyPost_ret (v := .tuple #[.agg #[.string z2, .string pa, .slice AF9 se.fs.length cF9, .slice AM9 se.ms.length cM9], .int .i64 0]) qam rfl ⟨z2, pa, AF9, se.fs.length, cF9, AM9, se.ms.length, cM9, rfl, ?_, fun _ => ⟨rfl, rfl, ?_, ?_, FMx.out⟩⟩
        ·repeat (refine Below.setCell ?_ qag _)
         exact BEx.out
        ·repeat (refine own_setCell ?_ sR.2.2.1 _)
         exact RFx.out
        ·repeat (refine own_setCell ?_ sR.2.2.2 _)
         exact RMx.out
end Go.Proofs.YtkkjnfappndmpaaGreatDoor
