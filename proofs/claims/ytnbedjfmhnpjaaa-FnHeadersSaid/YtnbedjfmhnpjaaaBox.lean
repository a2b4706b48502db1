/-
  Variables that hold outputs. Conditions: none.
-/
import Derived.Test.YtnbedjfmhnpjaaaDrP
import Derived.Test.YtnbedjfmhnpjaaaOutT
import Derived.Test.YtnbedjfmhnpjaaaSame
import Derived.Test.YtnbedjfmhnpjaaaIsOutI
import Derived.Test.YtnbedjfmhnpjaaaIsOutS
namespace Go.Proofs.Ytnbedjfmhnpjaaa
open Go.ChangeShapes Go.WideShapes Go.ChangeAt Go.RowKit Go.Deep Go.Joins
set_option linter.unusedVariables false
set_option linter.unusedSimpArgs false
set_option maxRecDepth 100000
/-- Block b holds the output o as a variable. -/
structure Bo (X : World) (b : Nat) (A1 : Option Addr) (c1 : Nat) (A2 : Option Addr) (c2 : Nat) (o : Out) : Prop where
  blk : Blk X b 27 #[.string o.sent, .slice A1 o.heads.length c1, .slice A2 o.bufs.length c2]
  rd : OutR X X.heap.size (.agg #[.string o.sent, .slice A1 o.heads.length c1, .slice A2 o.bufs.length c2]) o
section
variable {X X' : World} {b lo c1 c2 : Nat} {A1 A2 : Option Addr} {o : Out}
theorem Bo.below (h : Bo X b A1 c1 A2 c2 o) (hb : Below X.heap.size X X') : Bo X' b A1 c1 A2 c2 o :=
  ⟨h.blk.below hb (Nat.le_refl _), (h.rd.below hb (Nat.le_refl _)).more hb.size⟩
theorem Bo.drew (h : Bo X b A1 c1 A2 c2 o) : Bo X.drew b A1 c1 A2 c2 o := h.below (Below.refl _ _).drew
theorem Bo.new (h : OutO X lo (.agg #[.string o.sent, .slice A1 o.heads.length c1, .slice A2 o.bufs.length c2]) o) :
    Bo (X.alloc (.cells #[.string o.sent, .slice A1 o.heads.length c1, .slice A2 o.bufs.length c2] 27)) X.heap.size A1 c1 A2 c2 o :=
  ⟨Blk.new _ _ _, (h.reads.below ((Below.refl _ _).alloc (Nat.le_refl _) _) (Nat.le_refl _)).more (by simp)⟩
theorem Bo.lt (h : Bo X b A1 c1 A2 c2 o) : b < X.heap.size := h.blk.lt
end
theorem Bo.put {X : World} {g lo c1 c2 : Nat} {A1 A2 : Option Addr} {o : Out} {cs : Array Value} (h : Blk X g 27 cs) (h3 : cs.size = 3) (own : OutO X lo (.agg #[.string o.sent, .slice A1 o.heads.length c1, .slice A2 o.bufs.length c2]) o) (hg : g < lo) :
    Bo (((X.setCell ⟨g, 0, none⟩ (.string o.sent)).setCell ⟨g, 1, none⟩ (.slice A1 o.heads.length c1)).setCell ⟨g, 2, none⟩ (.slice A2 o.bufs.length c2)) g A1 c1 A2 c2 o := by
  obtain ⟨x, y, z, rfl⟩ : ∃ x y z, cs = #[x, y, z] := by
    obtain ⟨l⟩ := cs
    match l, h3 with
    | [x, y, z], _ => exact ⟨x, y, z, rfl⟩
  exact ⟨((h.set_ 0 _).set_ 1 _).set_ 2 _, (own.inI.set3 (.inl hg) _ _ _).inO.reads⟩
theorem below_put {B g : Nat} {X Y : World} (h : Below B X Y) (hg : B ≤ g) (x y z : Value) : Below B X (((Y.setCell ⟨g, 0, none⟩ x).setCell ⟨g, 1, none⟩ y).setCell ⟨g, 2, none⟩ z) :=
  ((h.setCell (p := ⟨g, 0, none⟩) hg _).setCell (p := ⟨g, 1, none⟩) hg _).setCell (p := ⟨g, 2, none⟩) hg _
theorem tiny_sz {o : Out} (h : o.tiny) : ∀ x, x ∈ o.heads → x.a0.size ≤ 1000000000 ∧ x.a1.size ≤ 1000000000 := fun x hx => by
  have := h.s x hx
  omega
/-- What FnOutput computes: the outputs of its variables. -/
structure FoP (o : Out) (ok : Bool) (s : ByteArray) (st b c : Out) (fine : Bool) (bad : Int) (d : Out) (good : Bool) (e : Out) (cl : Bool) (t : ByteArray) (f : Out) : Prop where
  oks : ok = decide (o.bufs.length < 5)
  tst : st.tiny
  tb : b.tiny
  tc : c.tiny
  td : d.tiny
  te : e.tiny
  tf : f.tiny
  tx : ok = true → fine = true → t = s
  clt : ok = true → cl = true
  eo : ok = true → e = o
  en : ok = true → fine = true → c = d
  b0 : ok = true → fine = true → good = true → bad = 0
  b2 : ok = true → fine = true → good = false → bad = 2
  f0 : f.bufs.length = 0
  ic : ok = true → isO o = true → isO c = true
  jf : isO o = true → isO f = true
theorem fo_p {o : Out} (h : o.tiny) {k : Int} (h0 : 0 ≤ k) (h3 : k ≤ 3) (s : ByteArray) :
    FoP o (startB o k) s (startF o k) (echoF (startF o k) s) (endF (echoF (startF o k) s)) (echoB (startF o k) s) (endC (echoF (startF o k) s)) (echoF o (escF k s)) (echoB o (escF k s)) (cleanF (echoF (startF o k) s)) (btB (echoF (startF o k) s)) (btS (echoF (startF o k) s)) (flushF o) := by
  have e1 : startB o k = true → startF o k = startY o k := fun h => by unfold startF; rw [if_pos h]
  have hb := bf_ok o k s
  refine ⟨start_b h0 h3, tiny_start h k, tiny_echo (tiny_start h k) s, tiny_end (tiny_echo (tiny_start h k) s), tiny_echo h _, tiny_clean (tiny_echo (tiny_start h k) s), tiny_flush h, ?_, ?_, ?_, ?_, ?_, ?_, flush_none o, ?_, isO_flush⟩ <;> intro hk <;> rw [e1 hk]
  · exact hb.tx
  · exact hb.bt
  · exact hb.cl
  · exact hb.en
  · intro hf hg; rw [hb.ec hf, if_pos hg]
  · intro hf hg; rw [hb.ec hf, hg]; rfl
  · exact hb.is
end Go.Proofs.Ytnbedjfmhnpjaaa
