/-
  strings.Split at a slash; rows of strings; the words for the loops of SplitPath. Conditions: none.
-/
import Derived.Test.YtffachcddoechaaDoorPthB
import Derived.Test.YtffachcddoechaaDoorDeep
import Derived.Ground.NamesProg
import Derived.Shelf.Lay
import Derived.Shelf.LaysM
import Derived.Shelf.Strings.Split
import Derived.WalkSmall
namespace Go.Proofs.YtffachcddoechaaDoor
open Go.ChangeShapes Go.WideShapes Go.ChangeAt Go.RowKit Go.Deep Go.Joins Go.Shelf
open Go.ChangeMaps (open_string shut_string)
set_option linter.unusedVariables false
set_option linter.unusedSimpArgs false
set_option maxRecDepth 100000
def laysSplit_ren : Go.Shelf.Ren := ⟨fun | 146 => 34 | 221 => 52 | 268 => 60 | 138 => 61 | 143 => 62 | 195 => 66 | 197 => 67 | 218 => 68 | 219 => 69 | 260 => 72 | 217 => 73 | 225 => 74 | 224 => 75 | 267 => 76 | 266 => 77 | 314 => 78 | n => n, fun | 9 => 9 | 31 => 22 | 3 => 3 | 4 => 4 | 0 => 0 | 105 => 86 | 21 => 21 | 5 => 5 | 46 => 92 | 119 => 94 | 139 => 97 | 138 => 96 | 146 => 99 | 51 => 98 | n => n, fun | 1 => 0 | 3 => 1 | 4 => 2 | n => n⟩
theorem laysSplit : Go.Proofs.LaysM.n146 Tryd.prog laysSplit_ren := {
  mixed := by kernel_rfl
  f138 := Tryd.func61.trans (congrArg some (by kernel_rfl))
  f143 := Tryd.func62.trans (congrArg some (by kernel_rfl))
  f146 := Tryd.func34.trans (congrArg some (by kernel_rfl))
  f195 := Tryd.func66.trans (congrArg some (by kernel_rfl))
  f197 := Tryd.func67.trans (congrArg some (by kernel_rfl))
  f217 := Tryd.func73.trans (congrArg some (by kernel_rfl))
  f218 := Tryd.func68.trans (congrArg some (by kernel_rfl))
  f219 := Tryd.func69.trans (congrArg some (by kernel_rfl))
  f221 := Tryd.func52.trans (congrArg some (by kernel_rfl))
  f224 := Tryd.func75.trans (congrArg some (by kernel_rfl))
  f225 := Tryd.func74.trans (congrArg some (by kernel_rfl))
  f260 := Tryd.func72.trans (congrArg some (by kernel_rfl))
  f266 := Tryd.func77.trans (congrArg some (by kernel_rfl))
  f267 := Tryd.func76.trans (congrArg some (by kernel_rfl))
  f268 := Tryd.func60.trans (congrArg some (by kernel_rfl))
  f314 := Tryd.func78.trans (congrArg some (by kernel_rfl))
  t0 := Tryd.underlying0
  a0 := Tryd.isAgg0
  z0 := Tryd.sizeOf0
  v0 := Tryd.zeroValue0
  t3 := Tryd.underlying3
  a3 := Tryd.isAgg3
  z3 := Tryd.sizeOf3
  v3 := Tryd.zeroValue3
  t4 := Tryd.underlying4
  a4 := Tryd.isAgg4
  z4 := Tryd.sizeOf4
  v4 := Tryd.zeroValue4
  t5 := Tryd.underlying5
  a5 := Tryd.isAgg5
  z5 := Tryd.sizeOf5
  v5 := Tryd.zeroValue5
  t9 := Tryd.underlying9
  a9 := Tryd.isAgg9
  z9 := Tryd.sizeOf9
  v9 := Tryd.zeroValue9
  t21 := Tryd.underlying21
  a21 := Tryd.isAgg21
  z21 := Tryd.sizeOf21
  v21 := Tryd.zeroValue21
  t31 := Tryd.underlying22
  a31 := Tryd.isAgg22
  z31 := Tryd.sizeOf22
  v31 := Tryd.zeroValue22
  t46 := Tryd.underlying92
  a46 := Tryd.isAgg92
  z46 := Tryd.sizeOf92
  v46 := Tryd.zeroValue92
  t51 := Tryd.underlying98
  a51 := Tryd.isAgg98
  z51 := Tryd.sizeOf98
  v51 := Tryd.zeroValue98
  t105 := Tryd.underlying86
  a105 := Tryd.isAgg86
  z105 := Tryd.sizeOf86
  v105 := Tryd.zeroValue86
  t119 := Tryd.underlying94
  a119 := Tryd.isAgg94
  z119 := Tryd.sizeOf94
  t138 := Tryd.underlying96
  a138 := Tryd.isAgg96
  z138 := Tryd.sizeOf96
  v138 := Tryd.zeroValue96
  t139 := Tryd.underlying97
  a139 := Tryd.isAgg97
  z139 := Tryd.sizeOf97
  v139 := Tryd.zeroValue97
  t146 := Tryd.underlying99
  a146 := Tryd.isAgg99
  z146 := Tryd.sizeOf99
  v146 := Tryd.zeroValue99
  g1 := by kernel_rfl
  g3 := by kernel_rfl
  g4 := by kernel_rfl
  i0 := by kernel_rfl
  i3 := by kernel_rfl
  i4 := by kernel_rfl
  i5 := by kernel_rfl
  i9 := by kernel_rfl
  i21 := by kernel_rfl
  i31 := by kernel_rfl
  i46 := by kernel_rfl
  i51 := by kernel_rfl
  i105 := by kernel_rfl
  i138 := by kernel_rfl
  i139 := by kernel_rfl
  i146 := by kernel_rfl
  m1 := by kernel_rfl
  s1_3 := fun w h => Go.Proofs.cell_of_shapedOpen_int (zero := #[.int .i64 0]) (t := 3) h (of_decide_eq_true (by kernel_rfl)) (by kernel_rfl) rfl (by kernel_rfl) (by kernel_rfl) Tryd.underlying3
  m3 := by kernel_rfl
  m4 := by kernel_rfl }
/-- The library's own variable that strings.Index reads holds some integer. -/
def MaxAt (w : World) : Prop := ∃ g m, Tryd.prog.globalNamed "internal/bytealg.MaxLen" = some g ∧ w.cell? ⟨g, 0, none⟩ = some (.int .i64 m)
theorem MaxAt.shaped {w : World} (h : w.ShapedOpen Tryd.prog) : MaxAt w := by
  obtain ⟨m, hm⟩ := laysSplit.s1_3 w h
  exact ⟨_, m, laysSplit.m1, hm⟩
theorem MaxAt.below {w w' : World} (h : MaxAt w) (hb : Below w.heap.size w w') : MaxAt w' := by
  obtain ⟨g, m, h1, h2⟩ := h
  exact ⟨g, m, h1, (hb.cell (p := ⟨g, 0, none⟩) (World.block_lt_of_cell? _ _ h2)).trans h2⟩
theorem pcs_zero (s : ByteArray) : s.extract 0 s.size = s := by
  apply ba_ext
  rw [ext_end, List.drop_zero]
theorem splitC (s : ByteArray) (w : World) (hs : s.size ≤ 1048576) (hm : MaxAt w) : Calls Tryd.prog 34 #[.string s, .string ⟨#[47]⟩] w fun e w' => e = .returned (.slice (some ⟨w.heap.size, 0, none⟩) (pcs s 0).length (pcs s 0).length) ∧ w' = w.alloc (.cells ((pcs s 0).map Value.string).toArray 9) := by
  obtain ⟨g, m, h1, h2⟩ := hm
  have hg := Option.some.inj (laysSplit.m1.symm.trans h1)
  rw [← hg] at h2
  have hl := Lib.splitB_all slash (by rw [slash_size]; exact Nat.le_refl _) 0 _ s rfl
  unfold pcs
  rw [pcs_zero, hl]
  exact Any.strings_Split { laysSplit with } laysSplit.i9 s slash m w (by omega) h2 (by rw [slash_size]; exact Nat.le_refl _)
theorem split_small : ∀ (k : Nat) (t : ByteArray), ∀ x ∈ Lib.splitB slash 0 k t, x.size ≤ t.size
  | 0, t, x, hx => by
    rw [Lib.splitB_zero] at hx
    obtain rfl := List.mem_singleton.1 hx
    exact Nat.le_refl _
  | k + 1, t, x, hx => by
    rw [Lib.splitB] at hx
    split at hx
    · obtain rfl := List.mem_singleton.1 hx
      exact Nat.le_refl _
    · rcases List.mem_cons.1 hx with rfl | hx
      · rw [ByteArray.size_extract]; omega
      · have := split_small k _ x hx
        rw [ByteArray.size_extract] at this
        omega
theorem pcs_small (s : ByteArray) (a : Nat) : ∀ x ∈ pcs s a, x.size ≤ s.size := fun x hx => by
  have := split_small _ _ x hx
  rw [ByteArray.size_extract] at this
  omega
/-- A row of strings in the call's own memory. -/
abbrev STbl (w : World) (base g c : Nat) (V : List ByteArray) : Prop := w.ownsRow base 9 1 (.slice (some ⟨g, 0, none⟩) V.length c) V.length (V.map Value.string)
theorem sInfo : (Tryd.prog.info? 9).map (fun i => (i.zero.map Value.cells, i.size, i.bytes)) = some (some #[.string ByteArray.empty], 1, 16) := by kernel_rfl
theorem srd_one (w : World) (u : Value) (e : TypeId) : Rd (w.alloc (.cells #[u] e)) (w.heap.size + 1) 1 (.slice (some ⟨w.heap.size, 0, none⟩) 1 1) 1 [u] := by
  refine ⟨_, _, rfl, Nat.le_refl _, by unfold maxLen; omega, rfl, fun _ => ⟨_, _, rfl, by omega, fun j x hx => ?_⟩⟩
  match j, hx with
  | 0, hx => obtain rfl : u = x := by simpa using hx
             simp [go_sem]
theorem STbl.lt {w : World} {base g c : Nat} {V : List ByteArray} (h : STbl w base g c V) : base ≤ g ∧ g < w.heap.size := own_lt h g rfl
theorem STbl.cap {w : World} {base g c : Nat} {V : List ByteArray} (h : STbl w base g c V) : V.length ≤ c := by
  rcases own_row h with ⟨hv, _, _⟩ | ⟨g6, cap6, f6, hv, _, h9, _, _, _⟩
  · cases hv
  · injection hv with e1 e2 e3
    omega
theorem STbl.pop {w : World} {base g c : Nat} {V : List ByteArray} {x : ByteArray} (h : STbl w base g c (V ++ [x])) : STbl w base g c V := by
  unfold STbl at h
  rw [List.length_append, List.map_append] at h
  exact ownsRow_pop (n := V.length) (size := 1) (xs := V.map Value.string) (last := [x].map Value.string) (by simp) h
theorem slast : ∀ L : List ByteArray, L.length ≠ 0 → ∃ L' x, L = L' ++ [x]
  | L, h => ⟨L.dropLast, L.getLast (fun e => h (by rw [e]; rfl)), (List.dropLast_concat_getLast _).symm⟩
theorem lit0 : (ByteArray.mk #[]).toList = ([] : List UInt8) := (ByteArray.toList_eq _).trans rfl
theorem lit0e : ByteArray.empty.toList = ([] : List UInt8) := (ByteArray.toList_eq _).trans rfl
theorem lit1 : (ByteArray.mk #[46]).toList = dotL := (ByteArray.toList_eq _).trans rfl
theorem lit2 : (ByteArray.mk #[46, 46]).toList = upL := (ByteArray.toList_eq _).trans rfl
theorem nonempty_size {p : ByteArray} (h : (p.toList == ([] : List UInt8)) = false) : 1 ≤ p.size := by
  rcases Nat.eq_zero_or_pos p.size with e | e
  · rw [ByteArray.toList_eq] at h
    have : p.data.toList = [] := List.length_eq_zero_iff.1 (by rw [← Lib.size_eq]; exact e)
    rw [this] at h
    cases h
  · exact e
def IRel (w : World) (s : ByteArray) (v i : Value) (wr : World) : Prop := ∃ (k g c : Nat) (acc : List ByteArray), k ≤ (pcs s 0).length ∧ i = .int .i64 k ∧ v = .slice (some ⟨g, 0, none⟩) acc.length c ∧ STbl wr w.heap.size g c acc ∧ g ≠ w.heap.size + 1 ∧ foldP ((pcs s 0).drop k) acc = spO s ∧ Blk wr (w.heap.size + 1) 9 ((pcs s 0).map Value.string).toArray ∧ Below w.heap.size w wr ∧ acc.length ≤ k
def SRel (w : World) (s : ByteArray) (v a i : Value) (wr : World) : Prop := ∃ (k b g c : Nat) (acc : List ByteArray), i = .int .i64 k ∧ a = .int .i64 b ∧ v = .slice (some ⟨g, 0, none⟩) acc.length c ∧ STbl wr w.heap.size g c acc ∧ ((k ≤ s.size ∧ b ≤ k ∧ (∀ j, b ≤ j → j < k → s.data.toList[j]? ≠ some 47) ∧ foldP (pcs s b) acc = spO s) ∨ (k = s.size + 1 ∧ spO s = some acc)) ∧ Below w.heap.size w wr ∧ acc.length ≤ k
end Go.Proofs.YtffachcddoechaaDoor
