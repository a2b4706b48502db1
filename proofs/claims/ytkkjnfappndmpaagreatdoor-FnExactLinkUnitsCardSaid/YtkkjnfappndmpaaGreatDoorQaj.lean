/-
 Parts of the proof: LuP, LuR. Conditions: none.
-/
import Derived.Test.YtkkjnfappndmpaaGreatDoorQFold
import Derived.Test.YtkkjnfappndmpaaGreatDoorQae
import Derived.Test.YtkkjnfappndmpaaGreatDoorQah
import Derived.Test.YtkkjnfappndmpaaGreatDoorQai
import Derived.Test.YtkkjnfappndmpaaGreatDoorQac
import Derived.Test.YtkkjnfappndmpaaGreatDoorQag
import Derived.Test.YtkkjnfappndmpaaGreatDoorQaa
import Derived.Test.YtkkjnfappndmpaaGreatDoorQad
set_option linter.unusedVariables false
set_option linter.unusedSimpArgs false
namespace Go.Proofs.YtkkjnfappndmpaaGreatDoor
open Go.ChangeShapes Go.WideShapes Go.ChangeAt Go.RowKit Go.Deep Go.Joins
def FUnit.body : FUnit → FNode | ⟨_, b⟩ => b
/-- A unit that may stand at place i. -/
def unB (us : List FUnit) (i : Nat) (u : FUnit) : Bool := isnF (FUnit.nm u) && ((fidx FUnit.nm us (FUnit.nm u) == (i : Int)) && (csS u.body == 0))
def unsA (us : List FUnit) : Prop := ∀ (i : Nat) (u : FUnit), us[i]? = some u → unB us i u = true
def isFnU (x : FNode) : Bool := x.kd == 49
/-- The names of the functions among some nodes. -/
def fnL (l : List FNode) : List (List UInt8) := (l.filter isFnU).map fun y => y.tx.toList
def fnA (bs : List FNode) : List (List UInt8) := bs.flatMap fun x => fnL x.kids
theorem fnL_split (l : List FNode) (j : Nat) : fnL l = fnL (l.take j) ++ fnL (l.drop j) := by
 have h : fnL (l.take j ++ l.drop j) = fnL (l.take j) ++ fnL (l.drop j) := by unfold fnL; rw [List.filter_append, List.map_append]
 rw [List.take_append_drop] at h
 exact h
theorem fnL_one {l : List FNode} {j : Nat} {y : FNode} (h : l[j]? = some y) : fnL (l.take (j + 1)) = fnL (l.take j) ++ (if isFnU y = true then [y.tx.toList] else []) := by
 rw [List.take_add_one, h]
 unfold fnL
 rw [List.filter_append, List.map_append]
 cases hf : isFnU y <;> simp [hf]
theorem fnL_cons (y : FNode) (l : List FNode) (hf : isFnU y = true) : fnL (y :: l) = y.tx.toList :: fnL l := by
 unfold fnL
 rw [List.filter_cons, if_pos hf, List.map_cons]
theorem fnA_one {bs : List FNode} {k : Nat} {x : FNode} (h : bs[k]? = some x) : fnA (bs.take (k + 1)) = fnA (bs.take k) ++ fnL x.kids := by
 rw [List.take_add_one, h]
 unfold fnA
 simp
theorem fnA_split {bs : List FNode} {k : Nat} {x : FNode} (h : bs[k]? = some x) : fnA bs = fnA (bs.take k) ++ (fnL x.kids ++ fnA (bs.drop (k + 1))) := by
 have hk := (List.getElem?_eq_some_iff.1 h).1
 have e : bs.drop k = x :: bs.drop (k + 1) := by rw [List.drop_eq_getElem_cons hk, (List.getElem?_eq_some_iff.1 h).2]
 have h1 : fnA (bs.take k ++ bs.drop k) = fnA (bs.take k) ++ fnA (bs.drop k) := List.flatMap_append
 rw [List.take_append_drop, e] at h1
 exact h1
/-- The names that stand before kid j of script k. -/
def nmK (bs : List FNode) (k : Nat) (l : List FNode) (j : Nat) : List (List UInt8) := fnA (bs.take k) ++ fnL (l.take j)
theorem nmK_at {bs : List FNode} {k : Nat} {x : FNode} (h : bs[k]? = some x) {j : Nat} {y : FNode} (hy : x.kids[j]? = some y) (hf : isFnU y = true) : ∃ r, fnA bs = nmK bs k x.kids j ++ y.tx.toList :: r := by
 have hj := (List.getElem?_eq_some_iff.1 hy).1
 have e : x.kids.drop j = y :: x.kids.drop (j + 1) := by rw [List.drop_eq_getElem_cons hj, (List.getElem?_eq_some_iff.1 hy).2]
 refine ⟨fnL (x.kids.drop (j + 1)) ++ fnA (bs.drop (k + 1)), ?_⟩
 rw [fnA_split h, fnL_split x.kids j, e, fnL_cons _ _ hf]
 unfold nmK
 simp [List.append_assoc]
theorem nmK_yes {bs : List FNode} {k : Nat} {l : List FNode} {j : Nat} {y : FNode} (hy : l[j]? = some y) (hf : isFnU y = true) : nmK bs k l (j + 1) = nmK bs k l j ++ [y.tx.toList] := by
 unfold nmK
 rw [fnL_one hy, if_pos hf, List.append_assoc]
theorem nmK_no {bs : List FNode} {k : Nat} {l : List FNode} {j : Nat} {y : FNode} (hy : l[j]? = some y) (hf : isFnU y = false) : nmK bs k l (j + 1) = nmK bs k l j := by
 unfold nmK
 rw [fnL_one hy, if_neg (by rw [hf]; decide), List.append_nil]
theorem nmK_zero (bs : List FNode) (k : Nat) (l : List FNode) : nmK bs k l 0 = fnA (bs.take k) := by
 unfold nmK
 rw [List.take_zero]
 simp [fnL]
theorem nmK_end {bs : List FNode} {k : Nat} {x : FNode} (h : bs[k]? = some x) : nmK bs k x.kids x.kids.length = fnA (bs.take (k + 1)) := by
 unfold nmK
 rw [List.take_length, fnA_one h]
theorem fnL_len (l : List FNode) : (fnL l).length ≤ l.length := by
 unfold fnL
 rw [List.length_map]
 exact List.length_filter_le ..
theorem fnA_len : ∀ bs : List FNode, (fnA bs).length ≤ FNode.wts bs
 | [] => by simp [fnA]
 | x :: r => by
  have e : fnA (x :: r) = fnL x.kids ++ fnA r := List.flatMap_cons
  have h1 := fnA_len r
  have h2 := fnL_len x.kids
  have h3 := kids_wt x
  rw [e, List.length_append, FNode.wts]
  omega
theorem nmK_len {bs : List FNode} {k : Nat} {x : FNode} (h : bs[k]? = some x) (j : Nat) : (nmK bs k x.kids j).length ≤ FNode.wts bs := by
 have h1 := fnA_len bs
 rw [fnA_split h, fnL_split x.kids j] at h1
 simp only [List.length_append] at h1
 unfold nmK
 rw [List.length_append]
 omega
/-- A name that stands in a list, asked of the list turned round. -/
theorem has_rev (l : List (List UInt8)) (s : List UInt8) : hasS l.reverse s = true ↔ s ∈ l := by
 unfold hasS
 rw [List.contains_iff_mem, List.mem_reverse]
open Classical in
noncomputable def luF (us : List FUnit) : Int × List FClass :=
 if 8 < us.length then (5, []) else if ¬ unsA us then (5, []) else if ¬ (fnA (us.map FUnit.body)).Nodup then (1, []) else linkL (us.map FUnit.body)
theorem luF_many {us : List FUnit} (h : 8 < us.length) : luF us = (5, []) := by unfold luF; rw [if_pos h]
theorem luF_bad {us : List FUnit} (h : ¬ 8 < us.length) {i : Nat} {u : FUnit} (hu : us[i]? = some u) (hb : unB us i u = false) : luF us = (5, []) := by
 unfold luF
 rw [if_neg h, if_pos (fun hk => by have h9 := hk i u hu; rw [hb] at h9; cases h9)]
theorem luF_dup {us : List FUnit} (h : ¬ 8 < us.length) (hk : unsA us) (hd : ¬ (fnA (us.map FUnit.body)).Nodup) : luF us = (1, []) := by
 unfold luF
 rw [if_neg h, if_neg (fun h2 => h2 hk), if_pos hd]
theorem luF_go {us : List FUnit} (h : ¬ 8 < us.length) (hk : unsA us) (hd : (fnA (us.map FUnit.body)).Nodup) : luF us = linkL (us.map FUnit.body) := by
 unfold luF
 rw [if_neg h, if_neg (fun h2 => h2 hk), if_neg (fun h2 => h2 hd)]
theorem nmK_dup {bs : List FNode} {k : Nat} {x : FNode} (h : bs[k]? = some x) {j : Nat} {y : FNode} (hy : x.kids[j]? = some y) (hf : isFnU y = true) (hm : y.tx.toList ∈ nmK bs k x.kids j) : ¬ (fnA bs).Nodup := by
 obtain ⟨r, e⟩ := nmK_at h hy hf
 rw [e]
 intro hd
 exact (List.nodup_append.1 hd).2.2 _ hm _ (List.mem_cons_self ..) rfl
theorem nodup_one {l : List (List UInt8)} {s : List UInt8} (h : l.Nodup) (hs : s ∉ l) : (l ++ [s]).Nodup :=
 List.nodup_append.2 ⟨h, List.nodup_cons.2 ⟨List.not_mem_nil, List.nodup_nil⟩, fun a ha b hb e => by
  have e2 : b = s := by simpa using hb
  subst e2
  subst e
  exact hs ha⟩
theorem body_wt (u : FUnit) : u.body.wt ≤ u.wt ∧ (FUnit.nm u).size ≤ u.wt := by
 obtain ⟨p, ⟨a, b, c, d⟩⟩ := u
 rw [FUnit.wt_eq]
 show (FNode.mk a b c d).wt ≤ _ ∧ p.size ≤ _
 rw [FNode.wt_eq]
 omega
theorem body_wts : ∀ us : List FUnit, (us.map FUnit.body).length + FNode.wts (us.map FUnit.body) ≤ us.length + FUnit.wts us
 | [] => by simp [FNode.wts]
 | u :: r => by
  have h1 := body_wts r
  have h2 := (body_wt u).1
  rw [List.map_cons, List.length_cons, List.length_cons, FNode.wts, FUnit.wts]
  omega
theorem body_at {us : List FUnit} {k : Nat} {u : FUnit} (h : us[k]? = some u) : (us.map FUnit.body)[k]? = some u.body := by rw [List.getElem?_map, h]; rfl
theorem body_flat {us : List FUnit} {k : Nat} {u : FUnit} (h : us[k]? = some u) : FNode.flat ((us.map FUnit.body).take (k + 1)) = FNode.flat ((us.map FUnit.body).take k) ++ u.body.c := by
 rw [List.take_add_one, body_at h]
 simp [FNode.flat]
open Go.ChangeMaps (open_string shut_string)
set_option maxRecDepth 100000
theorem infoNodeU : (Tryz.prog.info? 44).map (fun i => (i.zero.map Value.cells, i.size, i.bytes)) = some (some #[.int .i64 0, .int .i64 0, .string ByteArray.empty, .slice none 0 0], 4, 56) := by kernel_rfl
theorem rd_sharedU {w : World} {base e k n : Nat} {u : Value} {us : List Value} {xs : List Cel} (ho : w.ownsRow base e k u n us) (hr : RdVs w w.heap.size xs us) : RdC w w.heap.size (.s e k n xs) u := by
 unfold RdC
 rcases own_row ho with ⟨rfl, rfl, rfl⟩ | ⟨g, cap, f, rfl, hg, hn, hc, hrow, hx⟩
 ·exact ⟨none, 0, rfl, Nat.le_refl _, Nat.zero_le _, by rw [← hr.1]; simp, fun h => absurd h qaa⟩
 ·refine ⟨some ⟨g, 0, none⟩, cap, rfl, hn, hc, by rw [← hr.1]; exact ho.1, fun _ => ⟨g, 0, rfl, hrow.lt, RdL.of _ _ fun j x hj => ?_⟩⟩
  have hjl : j < us.length := by rw [hr.1]; exact (List.getElem?_eq_some_iff.1 hj).1
  have hu : us[j]? = some us[j] := List.getElem?_eq_getElem hjl
  refine ⟨us[j], ?_, hr.2 j x _ hj hu⟩
  have hj2 : j < n * k := by rw [← ho.1]; exact hjl
  have hle : n * k ≤ cap * k := Nat.mul_le_mul_right k hn
  rw [Nat.zero_add, hrow.cell qaa, ← hx j hj2, hu]
/-- The scripts of the first k units, in a row of the call's own whose kids are the argument's. -/
def LuB (l : List FUnit) (w : World) (b : Nat) (wr : World) (k : Nat) (v : Value) : Prop := ∃ A c us, v = .slice A k c ∧ wr.ownsRow b 44 4 v k us ∧ RdVs w w.heap.size (FNode.flat ((l.map FUnit.body).take k)) us ∧ Below w.heap.size w wr
theorem LuB.be {l : List FUnit} {w wr : World} {b k : Nat} {v : Value} (h : LuB l w b wr k v) : Below w.heap.size w wr := by
 obtain ⟨A, c, us, e, h1, h2, h3⟩ := h
 exact h3
theorem LuB.below {l : List FUnit} {w wr w' : World} {b k : Nat} {v : Value} (h : LuB l w b wr k v) (hb : Below wr.heap.size wr w') : LuB l w b w' k v := by
 obtain ⟨A, c, us, e, h1, h2, h3⟩ := h
 exact ⟨A, c, us, e, own_below h1 hb nr, h2, h3.trans (hb.mono h3.size)⟩
theorem own_upU {w : World} {base lo k n : Nat} {e : TypeId} {u : Value} {us : List Value} (h : w.ownsRow base e k u n us) (hg : ∀ g, u.ownBlock = some g → lo ≤ g) : w.ownsRow lo e k u n us := by
 exact zz149
theorem LuB.start (l : List FUnit) (w wr : World) (b : Nat) (h : b ≤ wr.heap.size) (hb : Below w.heap.size w wr) : LuB l w b (wr.alloc (.cells #[] 44)) 0 (.slice (some ⟨wr.heap.size, 0, none⟩) 0 0) :=
 ⟨_, _, [], rfl, own_upU (own_empty wr _ 4) (fun g e => by have e9 : wr.heap.size = g := Option.some.inj e; omega), by rw [List.take_zero]; exact RdVs.nil _ _, hb.alloc hb.size _⟩
/-- One script more. -/
theorem LuB.next {l : List FUnit} {w wr w' : World} {b k : Nat} {u : FUnit} {v v' : Value} {us us2 : List Value} (hx : l[k]? = some u) (h3 : Below w.heap.size w wr) (h2 : RdVs w w.heap.size (FNode.flat ((l.map FUnit.body).take k)) us) (hr : RdVs w w.heap.size u.body.c us2)
  (ho : w'.ownsRow b 44 4 v' (k + 1) (us ++ us2)) (hg : wr.grownBy w' v.ownBlock) (hv : ∀ g, v.ownBlock = some g → w.heap.size ≤ g) : LuB l w b w' (k + 1) v' := by
 obtain ⟨A, c, e⟩ := own_form ho
 exact ⟨A, c, us ++ us2, e, ho, by rw [body_flat hx]; exact RdVs.app h2 hr, h3.grown hg h3.size fun g e => hv g e⟩
theorem LuB.read {l : List FUnit} {w wr : World} {b : Nat} {v : Value} (h : LuB l w b wr l.length v) : RdC wr wr.heap.size (.s 44 4 (l.map FUnit.body).length (FNode.flat (l.map FUnit.body))) v := by
 obtain ⟨A, c, us, e, h1, h2, h3⟩ := h
 have hl : (l.map FUnit.body).length = l.length := List.length_map ..
 rw [← hl, List.take_length] at h2
 rw [hl]
 exact rd_sharedU h1 (h2.on h3 nr h3.size)
/-- The row stays where only a row of names has grown. -/
theorem LuB.fr {l : List FUnit} {w wr w' : World} {b k c : Nat} {A : Option Addr} {NS : List FStr} {v : Value} (h : LuB l w b wr k v) (V : VsS wr w' w.heap.size (some w.heap.size) A c NS) (hlt : w.heap.size < b) : LuB l w b w' k v := by
 obtain ⟨A, c, us, e, h1, h2, h3⟩ := h
 refine ⟨A, c, us, e, ⟨h1.1, ?_⟩, h2, h3.trans (V.lo (fun g e => Nat.le_of_eq (Option.some.inj e)) h3.size)⟩
 rcases h1.2 with hn | ⟨g, cap, cur, rfl, h4, h5, rest⟩
 ·exact .inl hn
 ·exact .inr ⟨g, cap, cur, rfl, h4, (V.fr.block g (World.ownsRow.lt h1 g rfl).2 (fun e => by have := Option.some.inj e; omega)).trans h5, rest⟩
/-- A row of no names, in a block that is there. -/
theorem own_noneU {w : World} {b : Nat} (h : Blk w b 9 #[]) : w.ownsRow b 9 1 (.slice (some ⟨b, 0, none⟩) 0 0) 0 [] :=
 ⟨rfl, .inr ⟨b, 0, #[], rfl, Nat.le_refl _, h, Nat.le_refl _, Nat.zero_le _, rfl, rfl⟩⟩
def sNm (l : List FStr) : List (List UInt8) := l.map fun y => y.a0.toList
theorem inV_nm (l : List FStr) (s : ByteArray) : inV l s = true ↔ s.toList ∈ sNm l := by
 unfold inV sNm
 rw [List.any_eq_true, List.mem_map]
 constructor
 ·rintro ⟨y, h1, h2⟩
  exact ⟨y, h1, by simpa using h2⟩
 ·rintro ⟨y, h1, h2⟩
  exact ⟨y, h1, by simpa using h2⟩
/-- What LinkUnits answers. -/
def LuR (l : List FUnit) (w w' : World) (e : Ending) : Prop := ∃ A c, e = .returned (.tuple #[.slice A (luF l).2.length c, .int .i64 (luF l).1]) ∧ OwnI w' w.heap.size w'.heap.size [.s 56 4 (luF l).2.length (FClass.flat (luF l).2)] [.slice A (luF l).2.length c] ∧ Below w.heap.size w w'
theorem luR_none {l : List FUnit} {w w' : World} {z : Int} (h : luF l = (z, [])) (hb : Below w.heap.size w w') : LuR l w w' (.returned (.tuple #[.slice none 0 0, .int .i64 z])) := by
 unfold LuR
 rw [h]
 exact ⟨none, 0, rfl, ⟨[], OwnL.one (OwnC.nil _ _ _), List.nodup_nil, fun b hb => by cases hb⟩, hb⟩
theorem luR_empty {l : List FUnit} {w w' : World} {z : Int} (h : luF l = (z, [])) (hb : Below w.heap.size w w') : LuR l w (w'.alloc (.cells #[] 56)) (.returned (.tuple #[.slice (some ⟨w'.heap.size, 0, none⟩) 0 0, .int .i64 z])) := by
 unfold LuR
 rw [h]
 exact ⟨some ⟨w'.heap.size, 0, none⟩, 0, rfl, OwnI.mk (lo' := w'.heap.size) (hi' := w'.heap.size) (own_empty w' _ 4) (OwnI.nil _ _ _) (fun g hg => by have e9 : w'.heap.size = g := Option.some.inj hg; have := hb.size; simp; omega) hb.size qag, hb.alloc hb.size _⟩
end Go.Proofs.YtkkjnfappndmpaaGreatDoor
