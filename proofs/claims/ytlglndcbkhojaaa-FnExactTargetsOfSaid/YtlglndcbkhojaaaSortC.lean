/-
  What slices.Sort and slices.Compact leave at a row of numbers that the call owns: the library's contracts laid at this program. Conditions: none.
-/
import Derived.Test.YtlglndcbkhojaaaMem
import Derived.Ground.NamesProg
import Derived.Ground.Names2Prog
import Derived.Shelf.Lay
import Derived.Shelf.Sort.Plain
import Derived.Shelf.Slices.In.CompactI
import Derived.Sort.OwnSorted
import Derived.Sort.Grow
import Derived.Lib.OwnBridge
namespace Go.Proofs.Ytlglndcbkhojaaa
open Go.ChangeShapes Go.WideShapes Go.ChangeAt Go.RowKit Go.Deep Go.Joins Go.Shelf Go.Sort
set_option linter.unusedVariables false
def laysSortI_ren : Go.Shelf.Ren := ⟨fun | 189 => 70 | 125 => 92 | 257 => 91 | 128 => 113 | 129 => 114 | 294 => 104 | 295 => 105 | 296 => 106 | 297 => 107 | 298 => 108 | 299 => 109 | 216 => 110 | 300 => 111 | 301 => 112 | 328 => 124 | 329 => 125 | 330 => 126 | 331 => 127 | 332 => 128 | 215 => 129 | 343 => 135 | n => n, fun | 28 => 51 | 3 => 3 | 46 => 116 | 0 => 0 | 51 => 134 | 53 => 136 | 4 => 4 | 183 => 127 | 182 => 126 | 131 => 131 | 5 => 5 | 9 => 9 | 218 => 158 | 222 => 162 | 228 => 167 | 229 => 168 | n => n, fun | n => n⟩
theorem laysSortI : Go.Proofs.Lays.n189 Try.prog laysSortI_ren := {
  mixed := by kernel_rfl
  f125 := Try.func92.trans (congrArg some (by kernel_rfl))
  f128 := Try.func113.trans (congrArg some (by kernel_rfl))
  f129 := Try.func114.trans (congrArg some (by kernel_rfl))
  f189 := Try.func70.trans (congrArg some (by kernel_rfl))
  f215 := Try.func129.trans (congrArg some (by kernel_rfl))
  f216 := Try.func110.trans (congrArg some (by kernel_rfl))
  f257 := Try.func91.trans (congrArg some (by kernel_rfl))
  f294 := Try.func104.trans (congrArg some (by kernel_rfl))
  f295 := Try.func105.trans (congrArg some (by kernel_rfl))
  f296 := Try.func106.trans (congrArg some (by kernel_rfl))
  f297 := Try.func107.trans (congrArg some (by kernel_rfl))
  f298 := Try.func108.trans (congrArg some (by kernel_rfl))
  f299 := Try.func109.trans (congrArg some (by kernel_rfl))
  f300 := Try.func111.trans (congrArg some (by kernel_rfl))
  f301 := Try.func112.trans (congrArg some (by kernel_rfl))
  f328 := Try.func124.trans (congrArg some (by kernel_rfl))
  f329 := Try.func125.trans (congrArg some (by kernel_rfl))
  f330 := Try.func126.trans (congrArg some (by kernel_rfl))
  f331 := Try.func127.trans (congrArg some (by kernel_rfl))
  f332 := Try.func128.trans (congrArg some (by kernel_rfl))
  f343 := Try.func135.trans (congrArg some (by kernel_rfl))
  t0 := Try.underlying0
  a0 := Try.isAgg0
  z0 := Try.sizeOf0
  v0 := Try.zeroValue0
  t3 := Try.underlying3
  a3 := Try.isAgg3
  z3 := Try.sizeOf3
  v3 := Try.zeroValue3
  t4 := Try.underlying4
  a4 := Try.isAgg4
  z4 := Try.sizeOf4
  v4 := Try.zeroValue4
  t5 := Try.underlying5
  a5 := Try.isAgg5
  z5 := Try.sizeOf5
  v5 := Try.zeroValue5
  t9 := Try.underlying9
  a9 := Try.isAgg9
  z9 := Try.sizeOf9
  v9 := Try.zeroValue9
  t28 := Try.underlying51
  a28 := Try.isAgg51
  z28 := Try.sizeOf51
  v28 := Try.zeroValue51
  t46 := Try.underlying116
  a46 := Try.isAgg116
  z46 := Try.sizeOf116
  v46 := Try.zeroValue116
  t51 := Try.underlying134
  a51 := Try.isAgg134
  z51 := Try.sizeOf134
  v51 := Try.zeroValue134
  t53 := Try.underlying136
  a53 := Try.isAgg136
  z53 := Try.sizeOf136
  v53 := Try.zeroValue136
  t131 := Try.underlying131
  a131 := Try.isAgg131
  z131 := Try.sizeOf131
  v131 := Try.zeroValue131
  t182 := Try.underlying126
  a182 := Try.isAgg126
  z182 := Try.sizeOf126
  v182 := Try.zeroValue126
  t183 := Try.underlying127
  a183 := Try.isAgg127
  z183 := Try.sizeOf127
  v183 := Try.zeroValue127
  t218 := Try.underlying158
  a218 := Try.isAgg158
  z218 := Try.sizeOf158
  v218 := Try.zeroValue158
  t222 := Try.underlying162
  a222 := Try.isAgg162
  z222 := Try.sizeOf162
  v222 := Try.zeroValue162
  t228 := Try.underlying167
  a228 := Try.isAgg167
  z228 := Try.sizeOf167
  v228 := Try.zeroValue167
  t229 := Try.underlying168
  a229 := Try.isAgg168
  z229 := Try.sizeOf168
  v229 := Try.zeroValue168 }
def laysCompactI_ren : Go.Shelf.Ren := ⟨fun | 20 => 71 | n => n, fun | 22 => 51 | 3 => 3 | 4 => 4 | 0 => 0 | n => n, fun | n => n⟩
theorem laysCompactI : Go.Proofs.Lays2.n20 Try.prog laysCompactI_ren := {
  mixed := by kernel_rfl
  f20 := Try.func71.trans (congrArg some (by kernel_rfl))
  t0 := Try.underlying0
  a0 := Try.isAgg0
  z0 := Try.sizeOf0
  v0 := Try.zeroValue0
  t3 := Try.underlying3
  a3 := Try.isAgg3
  z3 := Try.sizeOf3
  v3 := Try.zeroValue3
  t4 := Try.underlying4
  a4 := Try.isAgg4
  z4 := Try.sizeOf4
  v4 := Try.zeroValue4
  t22 := Try.underlying51
  a22 := Try.isAgg51
  z22 := Try.sizeOf51
  v22 := Try.zeroValue51
  i3 := by kernel_rfl }
def srt (l : List Int) : List Int := l.mergeSort fun x y => decide (x ≤ y)
theorem sortInt_any (l : List Int) (w : World) {base g cap : Nat} {e : TypeId} (h : w.ownsRow base e 1 (.slice (some ⟨g, 0, none⟩) l.length cap) l.length (l.map (Value.int .i64))) (hl : l.length ≤ 1000000000) :
    Calls Try.prog 70 #[.slice (some ⟨g, 0, none⟩) l.length cap] w fun r w' => r = .returned (.tuple #[]) ∧ w'.ownsRow base e 1 (.slice (some ⟨g, 0, none⟩) l.length cap) l.length ((srt l).map (Value.int .i64)) ∧ w.grownBy w' (some g) := by
  obtain ⟨g', cap', hv, hbg, hgl, hnc, hcm, hlen, hH⟩ := Lib.holds_of_ownsRow h (by simp)
  injection hv with e1 _ e3
  injection e1 with e1
  injection e1 with e1 _ _
  subst e1 e3
  refine (Any.slices_Sort_int laysSortI g 0 cap l w hH hgl (by omega)).mono ?_
  rintro r w' ⟨rfl, n, os, rfl⟩
  have hr := Lib.ownsRow_putRow (q := n) (k := l.length) (ys := srt l) h (List.length_mergeSort l) (Nat.le_refl _)
  rw [List.take_of_length_le (by rw [srt, List.length_mergeSort]; exact Nat.le_refl _)] at hr
  refine ⟨rfl, own_keep hr fun b hb => heap_grow_old _ _ (own_lt hr b hb).2, rfl, rfl, rfl, by simp, fun k hk hne => ?_⟩
  rw [heap_grow_old _ _ (by simpa using hk)]
  have : g ≠ k := fun e => hne (by rw [e])
  simp [putRow, mapBlock, Sort.ahead, Array.getElem?_modify, this]
theorem compactInt_any (l : List Int) (w : World) {base g cap : Nat} {e : TypeId} (h : w.ownsRow base e 1 (.slice (some ⟨g, 0, none⟩) l.length cap) l.length (l.map (Value.int .i64))) (hl : l.length ≤ 1000000000) :
    Calls Try.prog 71 #[.slice (some ⟨g, 0, none⟩) l.length cap] w fun r w' => r = .returned (.slice (some ⟨g, 0, none⟩) (Lib.compact l).length cap) ∧ w'.ownsRow base e 1 (.slice (some ⟨g, 0, none⟩) (Lib.compact l).length cap) (Lib.compact l).length ((Lib.compact l).map (Value.int .i64)) ∧ w.grownBy w' (some g) := by
  obtain ⟨g', cap', hv, hbg, hgl, hnc, hcm, hlen, hH⟩ := Lib.holds_of_ownsRow h (by simp)
  injection hv with e1 _ e3
  injection e1 with e1
  injection e1 with e1 _ _
  subst e1 e3
  refine (calls_of_every_depth fun D => AnyS.slices_Compact_int_in laysCompactI D g 0 cap l w hH (by omega) (by omega)).mono ?_
  rintro r w' ⟨rfl, q, rfl⟩
  have hle := Lib.compact_length_le l
  have hr := Lib.ownsRow_putRow (q := q) (k := (Lib.compact l).length) (ys := Lib.compact l ++ List.replicate (l.length - (Lib.compact l).length) 0) h (by simp; omega) hle
  rw [List.take_left] at hr
  refine ⟨rfl, hr, rfl, rfl, rfl, by simp [putRow, mapBlock, Sort.ahead], fun k hk hne => ?_⟩
  have : g ≠ k := fun e => hne (by rw [e])
  simp [putRow, mapBlock, Sort.ahead, Array.getElem?_modify, this]
end Go.Proofs.Ytlglndcbkhojaaa
