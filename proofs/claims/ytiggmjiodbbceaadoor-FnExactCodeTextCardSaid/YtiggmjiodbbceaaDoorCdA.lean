/-
  The text of a code as bytes; what a strings.Builder of the call's own does. Conditions: none.
-/
import Derived.Test.YtiggmjiodbbceaaDoorLnI
import Derived.Test.YtiggmjiodbbceaaDoorLnS
import Derived.Test.YtiggmjiodbbceaaDoorDataR
import Derived.Ground.NamesProg
import Derived.Shelf.Lay
import Derived.Shelf.LaysM
import Derived.Shelf.Strings.BuilderK
namespace Go.Proofs.YtiggmjiodbbceaaDoor
open Go.ChangeShapes Go.WideShapes Go.ChangeAt Go.RowKit Go.Deep Go.Joins Go.Shelf
open Go.ChangeMaps (open_string shut_string)
set_option linter.unusedVariables false
set_option linter.unusedSimpArgs false
set_option maxRecDepth 100000

def laysBS_ren : Go.Shelf.Ren := ⟨fun | 169 => 53 | n => n, fun | 70 => 68 | 9 => 9 | 0 => 0 | 72 => 70 | 37 => 31 | 127 => 92 | 3 => 3 | 5 => 5 | n => n, fun | n => n⟩
theorem laysBS : Go.Proofs.Lays.n169 Tryd.prog laysBS_ren := {
  mixed := by kernel_rfl
  f169 := Tryd.func53.trans (congrArg some (by kernel_rfl))
  t0 := Tryd.underlying0
  a0 := Tryd.isAgg0
  z0 := Tryd.sizeOf0
  v0 := Tryd.zeroValue0
  t3 := Tryd.underlying3
  a3 := Tryd.isAgg3
  z3 := Tryd.sizeOf3
  v3 := Tryd.zeroValue3
  t9 := Tryd.underlying9
  a9 := Tryd.isAgg9
  z9 := Tryd.sizeOf9
  v9 := Tryd.zeroValue9
  t37 := Tryd.underlying31
  a37 := Tryd.isAgg31
  z37 := Tryd.sizeOf31
  v37 := Tryd.zeroValue31
  t70 := Tryd.underlying68
  a70 := Tryd.isAgg68
  z70 := Tryd.sizeOf68
  v70 := Tryd.zeroValue68
  t72 := Tryd.underlying70
  a72 := Tryd.isAgg70
  z72 := Tryd.sizeOf70
  v72 := Tryd.zeroValue70
  t127 := Tryd.underlying92
  a127 := Tryd.isAgg92
  z127 := Tryd.sizeOf92
  v127 := Tryd.zeroValue92 }
theorem bsX : Builder.Extra Tryd.prog laysBS_ren where
  sizeBuilder := by kernel_rfl
  liesBuilder := by kernel_rfl
  t5 := laysFields.t5
  a5 := laysFields.a5
  z5 := laysFields.z5
  v5 := laysFields.v5
  infoByte := by kernel_rfl
  cellsByte := by kernel_rfl
  sizeByte := by kernel_rfl
  neB5 := by decide
abbrev Bld (b : Nat) (l : List UInt8) (w : World) : Prop := Lib.IsBuilderF 70 5 b b (Lib.byteCells l) w
theorem Bld.below {b : Nat} {l : List UInt8} {w w' : World} (h : Bld b l w) (hb : Below w.heap.size w w') : Bld b l w' := by
  have one : ∀ p, Lib.BuilderAtF 70 5 b b p (Lib.byteCells l) w → Lib.BuilderAtF 70 5 b b p (Lib.byteCells l) w' := fun p h => by
    have hlt := h.lt
    obtain ⟨hB, v, hv, hown, hne⟩ := h
    exact ⟨hB, v, (hb.block b hlt).trans hv, hown.kept (row := none) ⟨hb.os, hb.tape, hb.output, hb.size, fun k hk _ => hb.block k hk⟩ (Classical.em _), hne⟩
  exact h.elim (fun x => .inl (one _ x)) (fun x => .inr (one _ x))
theorem Bld.lt {b : Nat} {l : List UInt8} {w : World} (h : Bld b l w) : b < w.heap.size := h.elim (fun x => x.lt) (fun x => x.lt)
theorem Bld.fresh (w : World) : Bld w.heap.size [] (w.alloc (.cells #[.pointer none, .slice none 0 0] 70)) := Lib.IsBuilderF.of (Lib.fresh_isBuilder _ _ w)
theorem byteCells_app (a b : List UInt8) : Lib.byteCells a ++ Lib.byteCells b = Lib.byteCells (a ++ b) := by simp [Lib.byteCells]
theorem strCells_bytes (s : ByteArray) : Lib.strCells s = Lib.byteCells s.data.toList := by simp [Lib.strCells, Lib.byteCells]
theorem ccUsed (b : Nat) (w : World) (h0 : w.cell? ⟨b, 0, none⟩ = some (.pointer (some ⟨b, 0, none⟩))) :
    Calls Tryd.prog 71 #[.pointer (some ⟨b, 0, none⟩)] w fun e w' => e = .returned (.tuple #[]) ∧ w' = w := by
  obtain ⟨j, hj, _⟩ := Option.map_eq_some_iff.1 (show (Tryd.prog.info? 70).map (·.size) = some 2 by kernel_rfl)
  go_enter Tryd.func71, Tryd.ntmps71
  go_wp2
  rw [Lib.run_neq_ptr_same w _ Tryd.underlying68 hj]
  go_wp2
  go_end0
  exact ⟨rfl, rfl⟩
theorem ccFresh (b : Nat) (w : World) (h0 : w.cell? ⟨b, 0, none⟩ = some (.pointer none)) (hsh : w.shape? b = some (70, 2)) (hfz : w.frozen? ⟨b, 0, none⟩ = false) :
    Calls Tryd.prog 71 #[.pointer (some ⟨b, 0, none⟩)] w fun e w' => e = .returned (.tuple #[]) ∧ w' = w.setCell ⟨b, 0, none⟩ (.pointer (some ⟨b, 0, none⟩)) := by
  obtain ⟨j, hj, hjs⟩ := Option.map_eq_some_iff.1 (show (Tryd.prog.info? 70).map (·.size) = some 2 by kernel_rfl)
  go_enter Tryd.func71, Tryd.ntmps71
  go_wp2
  rw [Lib.run_to_unsafe w ⟨b, 0, none⟩ Tryd.underlying68 Tryd.underlying106 hj (by rw [hjs]; decide) hsh (Nat.zero_lt_succ 1)]
  simp only [Result.andThen]
  rw [Oper.upon_value]
  go_wp2
  rw [run_callFunc_extern Tryd.func79 (by kernel_rfl) (by kernel_rfl) (by kernel_rfl) (e := Extern.AbiNoEscape.same) (by kernel_rfl)]
  rw [Lib.run_noEscape]
  simp only [Result.andThen]
  rw [Oper.upon_value]
  go_wp2
  rw [Lib.run_from_unsafe w ⟨b, 0, none⟩ Tryd.underlying106 Tryd.underlying68 hj hsh bsX.liesBuilder]
  simp only [Result.andThen]
  rw [Oper.upon_value]
  go_wp2
  go_end0
  exact ⟨rfl, rfl⟩
theorem ccC (b : Nat) (l : List UInt8) (w : World) (h : Bld b l w) :
    Calls Tryd.prog 71 #[.pointer (some ⟨b, 0, none⟩)] w fun e w' => e = .returned (.tuple #[]) ∧ Lib.BuilderAtF 70 5 b b (.pointer (some ⟨b, 0, none⟩)) (Lib.byteCells l) w' ∧ Below b w w' ∧ Lib.OthersKept 5 (some b) w w' := by
  rcases h with h | h
  · refine (ccFresh b w h.cell0 h.shape h.frozen0).mono ?_
    rintro e w' ⟨rfl, rfl⟩
    exact ⟨rfl, h.used _, (Below.refl b w).setCell (p := ⟨b, 0, none⟩) (Nat.le_refl _) _, (Lib.OthersKept.refl _ _ w).setCell ⟨b, 0, none⟩ rfl _⟩
  · refine (ccUsed b w h.cell0).mono ?_
    rintro e w' ⟨rfl, rfl⟩
    exact ⟨rfl, h, Below.refl b _, Lib.OthersKept.refl _ _ _⟩
set_option maxHeartbeats 2000000 in
theorem wsC (b : Nat) (l : List UInt8) (s : ByteArray) (w : World) (h : Bld b l w) (hl : l.length + s.size ≤ 140737488355328) :
    Calls Tryd.prog 52 #[.pointer (some ⟨b, 0, none⟩), .string s] w fun e w' => e = .returned (.tuple #[.int .i64 s.size, .nilIface]) ∧ Bld b (l ++ s.data.toList) w' ∧ Below b w w' ∧ Lib.OthersKept 5 (some b) w w' := by
  obtain ⟨i0, hi, hz⟩ := Option.map_eq_some_iff.1 (show (Tryd.prog.info? 5).map (fun i => (i.zero, i.size, i.bytes)) = some (some (.int .u8 0), 1, 1) by kernel_rfl)
  simp only [Prod.mk.injEq] at hz
  obtain ⟨hz0, hz1, hz2⟩ := hz
  have hbw := h.lt
  have HL := Lib.hid (show (Lib.byteCells l).length = l.length by simp [Lib.byteCells])
  have CC := Lib.hid (ccC b l w h)
  have HI := Lib.hid hi
  clear h
  go_enter Tryd.func52, Tryd.ntmps52
  go_wp2_with (go_at_call 71; refine CC.out.mono ?_)
  rintro e w1 ⟨rfl, h1, hb1, hk1⟩
  obtain ⟨hB, v, hbk, hown, hne⟩ := h1
  have c0 : w1.cell? ⟨b, 0, none⟩ = some (.pointer (some ⟨b, 0, none⟩)) := by rw [Lib.cell_of_heap hbk]; rfl
  have c1 : w1.cell? ⟨b, 1, none⟩ = some v := by rw [Lib.cell_of_heap hbk]; rfl
  have hsz := hb1.size
  go_wp2_with (at_builtin; refine Lib.wpList_append_own_stringF _ rfl _ _ 31 9 rfl b 5 i0 Tryd.underlying31 Tryd.underlying9 HI.out hz0 hz1 hz2 _ _ _ rfl hown s rfl ?c3 ?c4 ?c5 ?_)
  case c3 => rw [HL.out]; unfold maxLen; omega
  case c4 => rw [HL.out]; omega
  case c5 => omega
  intro v' w2 hown' hgrow _
  have hlt : b < w1.heap.size := by omega
  have hb2 : w2.heap[b]? = some (.cells #[.pointer (some ⟨b, 0, none⟩), v] 70 (0, 0)) := by
    rw [hgrow.block b hlt (fun e => hne e.symm)]
    exact hbk
  have d0 : w2.cell? ⟨b, 0, none⟩ = some (.pointer (some ⟨b, 0, none⟩)) := by rw [Lib.cell_of_heap hb2]; rfl
  have d1 : w2.cell? ⟨b, 1, none⟩ = some v := by rw [Lib.cell_of_heap hb2]; rfl
  have f1 : w2.frozen? ⟨b, 1, none⟩ = false := Lib.frozen_of_heap hb2 1
  obtain ⟨ao, n', cap, rfl⟩ : ∃ ao n' cap, v' = .slice ao n' cap := by
    rcases hown'.2 with ⟨hv, _⟩ | ⟨g, cap, cur, fz, hv, _⟩
    · exact ⟨_, _, _, hv⟩
    · exact ⟨_, _, _, hv⟩
  go_wp2
  go_ret2
  refine ⟨rfl, .inr ?_, ?_, (hk1.grown hgrow (Lib.ownsRowF_kind hown)).setCell ⟨b, 1, none⟩ rfl _⟩
  · rw [← byteCells_app, ← strCells_bytes]
    exact Lib.BuilderAtF.put (T := 70) (e := 5) hB hb2 (bs' := Lib.byteCells l ++ Lib.strCells s) (by simpa [Lib.strCells_length] using hown') (by decide)
  · exact (hb1.grown hgrow (by omega) (fun k hk => (hown.lt k hk).1)).setCell (p := ⟨b, 1, none⟩) hB _
theorem bsC (b : Nat) (l : List UInt8) (w : World) (h : Bld b l w) :
    Calls Tryd.prog 53 #[.pointer (some ⟨b, 0, none⟩)] w fun e w' => e = .returned (.string ⟨l.toArray⟩) ∧ Below b w w' := by
  refine (Any.Builder_String_any_k laysBS bsX b b l w h (Nat.le_of_lt h.lt)).mono ?_
  rintro e w' ⟨rfl, h1, h2, h3⟩
  exact ⟨rfl, h2⟩
/-! ### the text -/
def ctP (k : Nat) (x : FIns) : ByteArray := ((itoF k ++ ⟨#[32]⟩) ++ insLn x.a0 x.a1 x.a2 x.a3 x.a4) ++ ⟨#[10]⟩
def ctB (l : List FIns) : Nat → List UInt8
  | 0 => []
  | k + 1 => ctB l k ++ (match l[k]? with | some x => (ctP k x).data.toList | none => [])
def ctS (l : List FIns) (k : Nat) : ByteArray := ⟨(ctB l k).toArray⟩
theorem ctB_succ {l : List FIns} {k : Nat} {x : FIns} (h : l[k]? = some x) : ctB l (k + 1) = ctB l k ++ (ctP k x).data.toList := by rw [ctB, h]
theorem ba_app (a : List UInt8) (b : ByteArray) : (⟨a.toArray⟩ : ByteArray) ++ b = ⟨(a ++ b.data.toList).toArray⟩ := by
  apply ByteArray.ext
  apply Array.ext'
  rw [ByteArray.data_append]
  simp
theorem ctS_succ {l : List FIns} {k : Nat} {x : FIns} (h : l[k]? = some x) : ctS l (k + 1) = ctS l k ++ ctP k x := by
  unfold ctS
  rw [ctB_succ h, ba_app]
theorem ctP_size (k : Nat) (hk : k ≤ 9223372036854775807) (x : FIns) (h : x.ok) : (ctP k x).size ≤ 100 * (1 + x.wt) := by
  obtain ⟨z0, z1, z2, z3, z4⟩ := x
  rw [FIns.ok_eq] at h
  obtain ⟨_, _, _, a0, a1, b0, b1⟩ := h
  have h1 := itoF_size (k : Int) (by omega) (by omega)
  have h2 := insLn_size z0 z1 z2 z3 z4 a0 a1 b0 b1
  have h3 : (⟨#[32]⟩ : ByteArray).size = 1 := rfl
  have h4 : (⟨#[10]⟩ : ByteArray).size = 1 := rfl
  rw [FIns.wt_eq]
  unfold ctP
  simp only [ByteArray.size_append]
  omega
theorem ctB_len (l : List FIns) (h : FIns.oks l) (hl : l.length ≤ 1000000000) : ∀ k, k ≤ l.length → (ctB l k).length ≤ 100 * (k + FIns.wts (l.take k))
  | 0, _ => by simp [ctB]
  | k + 1, hk => by
    have ih := ctB_len l h hl k (by omega)
    have hx := List.getElem?_eq_getElem (l := l) (i := k) (by omega)
    have hp := ctP_size k (by omega) l[k] (FIns.oks_mem l h _ (List.getElem_mem _))
    have hs : (ctP k l[k]).data.toList.length = (ctP k l[k]).size := by simp
    rw [ctB_succ hx, List.length_append, FIns.wts_take l k _ hx]
    omega
theorem ctB_len' (l : List FIns) (h : FIns.oks l) (hw : l.length + FIns.wts l ≤ 1048576) (k : Nat) (hk : k ≤ l.length) : (ctB l k).length ≤ 104857600 := by
  have h1 := ctB_len l h (by omega) k hk
  have h2 := FIns.wts_le l k
  omega
theorem ctS_size (l : List FIns) (k : Nat) : (ctS l k).size = (ctB l k).length := by
  show (ctB l k).toArray.size = _
  simp
/-! ### what a round of the program's loop knows -/
structure CdS (w : World) (X b : Nat) (l : List UInt8) (y0 y1 y2 : Int) (y3 y4 : ByteArray) (v : World) : Prop where
  blk : Blk v X 28 #[.int .i64 y0, .int .i64 y1, .int .i64 y2, .string y3, .string y4]
  bld : Bld b l v
  bel : Below w.heap.size w v
  lt : w.heap.size < b
  far : b < X
theorem CdS.below {w : World} {X b : Nat} {l : List UInt8} {y0 y1 y2 : Int} {y3 y4 : ByteArray} {v v' : World} (h : CdS w X b l y0 y1 y2 y3 y4 v) (hb : Below v.heap.size v v') : CdS w X b l y0 y1 y2 y3 y4 v' :=
  ⟨h.blk.below hb (Nat.le_refl _), h.bld.below hb, h.bel.trans (hb.mono h.bel.size), h.lt, h.far⟩
theorem CdS.drew {w : World} {X b : Nat} {l : List UInt8} {y0 y1 y2 : Int} {y3 y4 : ByteArray} {v : World} (h : CdS w X b l y0 y1 y2 y3 y4 v) : CdS w X b l y0 y1 y2 y3 y4 v.drew :=
  h.below (Below.refl _ _).drew
theorem CdS.wrote {w : World} {X b : Nat} {l l' : List UInt8} {y0 y1 y2 : Int} {y3 y4 : ByteArray} {v v' : World} (h : CdS w X b l y0 y1 y2 y3 y4 v) (h1 : Bld b l' v') (h2 : Below b v v') (h3 : Lib.OthersKept 5 (some b) v v') : CdS w X b l' y0 y1 y2 y3 y4 v' :=
  ⟨h3 X _ h.blk (fun e => by have := Option.some.inj e; have := h.far; omega) (fun c fz e => by injection e with _ e2 _; revert e2; decide), h1, h.bel.trans (h2.mono (Nat.le_of_lt h.lt)), h.lt, h.far⟩
end Go.Proofs.YtiggmjiodbbceaaDoor
