/-
 Parts of the proof: LkP, LkQ, LkR. Conditions: none.
-/
import Derived.Test.YtkkjnfappndmpaaGreatDoorQFold
import Derived.Test.YtkkjnfappndmpaaGreatDoorQac
import Derived.Test.YtkkjnfappndmpaaGreatDoorQad
import Derived.Test.YtkkjnfappndmpaaGreatDoorQaa
set_option linter.unusedVariables false
set_option linter.unusedSimpArgs false
namespace Go.Proofs.YtkkjnfappndmpaaGreatDoor
open Go.ChangeShapes Go.WideShapes Go.ChangeAt Go.RowKit Go.Deep Go.Joins
theorem ba_list (a : ByteArray) : a.toList = a.data.toList := Lib.toList_data a
theorem ba_inj {a b : ByteArray} (h : a.toList = b.toList) : a = b := by
 rw [ba_list, ba_list] at h
 exact bytes_inj h
def FField.ow : FField → ByteArray | ⟨_, z1, _, _⟩ => z1
def FField.own (f : FField) (s : ByteArray) : FField := match f with | ⟨a, _, c, d⟩ => ⟨a, s, c, d⟩
def FMethod.ow : FMethod → ByteArray | ⟨_, z1, _, _, _⟩ => z1
def FMethod.own (f : FMethod) (s : ByteArray) : FMethod := match f with | ⟨a, _, c, d, e⟩ => ⟨a, s, c, d, e⟩
def FClass.fields : FClass → List FField | ⟨_, _, l, _⟩ => l
def FClass.methods : FClass → List FMethod | ⟨_, _, _, l⟩ => l
/-- A field's value has no elements; no text is long. -/
def FField.plain : FField → Prop | ⟨a, b, _, ⟨_, _, c, _, l⟩⟩ => a.size ≤ 1000 ∧ b.size ≤ 1000 ∧ c.size ≤ 1000 ∧ l = []
def FMethod.plain : FMethod → Prop | ⟨a, b, c, _, _⟩ => a.size ≤ 1000 ∧ b.size ≤ 1000 ∧ c.size ≤ 1000
/-! ### putting a field or a method -/
def putF (nm : ByteArray) (fs : List FField) (f : FField) : List FField × Bool :=
 match fs.findIdx? (fun x => (FField.nm x).toList == (FField.nm f).toList) with
 | none => (fs ++ [f], true)
 | some i => (fs.set i f, match fs[i]? with | some x => !(x.ow.toList == nm.toList) | none => true)
def putM (nm : ByteArray) (fs : List FMethod) (f : FMethod) : List FMethod × Bool :=
 match fs.findIdx? (fun x => (FMethod.nm x).toList == (FMethod.nm f).toList) with
 | none => (fs ++ [f], true)
 | some i => (fs.set i f, match fs[i]? with | some x => !(x.ow.toList == nm.toList) | none => true)
theorem fidx_none {α : Type} {nm : α → ByteArray} {l : List α} {s : ByteArray} (h : fidx nm l s = -1) : l.findIdx? (fun x => (nm x).toList == s.toList) = none := by
 unfold fidx at h
 cases e : l.findIdx? (fun x => (nm x).toList == s.toList) with
 | none => rfl
 | some i => rw [e] at h; simp only at h; omega
theorem fidx_some {α : Type} {nm : α → ByteArray} {l : List α} {s : ByteArray} {k : Nat} (h : fidx nm l s = k) : l.findIdx? (fun x => (nm x).toList == s.toList) = some k := by
 unfold fidx at h
 cases e : l.findIdx? (fun x => (nm x).toList == s.toList) with
 | none => rw [e] at h; simp only at h; omega
 | some i => rw [e] at h; simp only at h; congr 1; omega
theorem putF_no {nm : ByteArray} {fs : List FField} {f : FField} (h : fidx FField.nm fs f.nm = -1) : putF nm fs f = (fs ++ [f], true) := by unfold putF; rw [fidx_none h]
theorem putF_at {nm : ByteArray} {fs : List FField} {f x : FField} {k : Nat} (h : fidx FField.nm fs f.nm = k) (hx : fs[k]? = some x) : putF nm fs f = (fs.set k f, !(x.ow.toList == nm.toList)) := by
 unfold putF; rw [fidx_some h]; simp only [hx]
theorem putM_no {nm : ByteArray} {fs : List FMethod} {f : FMethod} (h : fidx FMethod.nm fs f.nm = -1) : putM nm fs f = (fs ++ [f], true) := by unfold putM; rw [fidx_none h]
theorem putM_at {nm : ByteArray} {fs : List FMethod} {f x : FMethod} {k : Nat} (h : fidx FMethod.nm fs f.nm = k) (hx : fs[k]? = some x) : putM nm fs f = (fs.set k f, !(x.ow.toList == nm.toList)) := by
 unfold putM; rw [fidx_some h]; simp only [hx]
/-! ### good rows: distinct names out of a list, nothing long -/
theorem nodup_len {α : Type} [DecidableEq α] : ∀ (l G : List α), l.Nodup → (∀ x, x ∈ l → x ∈ G) → l.length ≤ G.length
 | [], _, _, _ => by simp
 | a :: r, G, h, hs => by
  have h1 := List.nodup_cons.1 h
  have ha := hs a (List.mem_cons_self ..)
  have ih := nodup_len r (G.erase a) h1.2 fun x hx => (List.mem_erase_of_ne (fun e => h1.1 (by rw [← e]; exact hx))).2 (hs x (List.mem_cons_of_mem _ hx))
  rw [List.length_erase_of_mem ha] at ih
  have := List.length_pos_of_mem ha
  simp only [List.length_cons]
  omega
/-- Rows of things that have names. -/
structure GdR {α : Type} (nm : α → ByteArray) (pl : α → Prop) (G : List (List UInt8)) (l : List α) : Prop where
 dup : (l.map fun x => (nm x).toList).Nodup
 mem : ∀ x, x ∈ l → pl x ∧ (nm x).toList ∈ G
section
variable {α : Type} {nm : α → ByteArray} {pl : α → Prop} {G : List (List UInt8)} {l : List α} {f : α}
theorem GdR.nil : GdR nm pl G [] := ⟨List.nodup_nil, fun _ h => by cases h⟩
theorem GdR.len (h : GdR nm pl G l) : l.length ≤ G.length := by
 have := nodup_len _ G h.dup fun x hx => by
  obtain ⟨y, hy, rfl⟩ := List.mem_map.1 hx
  exact (h.mem y hy).2
 simpa using this
theorem GdR.push (h : GdR nm pl G l) (hi : l.findIdx? (fun x => (nm x).toList == (nm f).toList) = none) (hp : pl f) (hg : (nm f).toList ∈ G) : GdR nm pl G (l ++ [f]) := by
 rw [List.findIdx?_eq_none_iff] at hi
 refine ⟨?_, fun x hx => ?_⟩
 ·rw [List.map_append, List.nodup_append]
  refine ⟨h.dup, by simp, fun a ha b hb e => ?_⟩
  obtain ⟨x, hx, rfl⟩ := List.mem_map.1 ha
  have hb' : b = (nm f).toList := by simpa using hb
  have := hi x hx
  rw [e, hb'] at this
  simp at this
 ·rcases List.mem_append.1 hx with hx | hx
  ·exact h.mem x hx
  ·rw [List.mem_singleton.1 hx]; exact ⟨hp, hg⟩
theorem GdR.set (h : GdR nm pl G l) {i : Nat} (hi : l.findIdx? (fun x => (nm x).toList == (nm f).toList) = some i) (hp : pl f) (hg : (nm f).toList ∈ G) : GdR nm pl G (l.set i f) := by
 obtain ⟨hil, he, _⟩ := List.findIdx?_eq_some_iff_getElem.1 hi
 have hm : (l.set i f).map (fun x => (nm x).toList) = l.map fun x => (nm x).toList := by
  rw [List.map_set]
  have e : (nm f).toList = (l.map fun x => (nm x).toList)[i]'(by simpa using hil) := by
   rw [List.getElem_map]
   exact (by simpa using he : (nm l[i]).toList = (nm f).toList).symm
  rw [e, List.set_getElem_self]
 refine ⟨by rw [hm]; exact h.dup, fun x hx => ?_⟩
 rcases List.mem_or_eq_of_mem_set hx with hx | rfl
 ·exact h.mem x hx
 ·exact ⟨hp, hg⟩
end
abbrev GdF := GdR FField.nm FField.plain
abbrev GdM := GdR FMethod.nm FMethod.plain
theorem GdR.putF {G : List (List UInt8)} {nm : ByteArray} {fs : List FField} {f : FField} (h : GdF G fs) (hp : f.plain) (hg : (FField.nm f).toList ∈ G) : GdF G (putF nm fs f).1 := by
 unfold Proofs.YtkkjnfappndmpaaGreatDoor.putF
 split
 ·next e => exact GdR.push h e hp hg
 ·next i e => exact GdR.set h e hp hg
theorem GdR.putM {G : List (List UInt8)} {nm : ByteArray} {fs : List FMethod} {f : FMethod} (h : GdM G fs) (hp : f.plain) (hg : (FMethod.nm f).toList ∈ G) : GdM G (putM nm fs f).1 := by
 unfold Proofs.YtkkjnfappndmpaaGreatDoor.putM
 split
 ·next e => exact GdR.push h e hp hg
 ·next i e => exact GdR.set h e hp hg
theorem own_plainF {f : FField} {s : ByteArray} (h : f.plain) (hs : s.size ≤ 1000) : (f.own s).plain := by
 obtain ⟨a, b, c, ⟨d, e, g, i, l⟩⟩ := f
 exact ⟨h.1, hs, h.2.2.1, h.2.2.2⟩
theorem own_plainM {f : FMethod} {s : ByteArray} (h : f.plain) (hs : s.size ≤ 1000) : (f.own s).plain := by
 obtain ⟨a, b, c, d, e⟩ := f
 exact ⟨h.1, hs, h.2.2⟩
theorem own_nmF (f : FField) (s : ByteArray) : FField.nm (f.own s) = FField.nm f := by obtain ⟨a, b, c, ⟨d, e, g, i, l⟩⟩ := f; rfl
theorem own_nmM (f : FMethod) (s : ByteArray) : FMethod.nm (f.own s) = FMethod.nm f := by obtain ⟨a, b, c, d, e⟩ := f; rfl
/-! ### a class in the making -/
structure BS where
 fs : List FField
 ms : List FMethod
 ok : Bool
def BS.putF (nm : ByteArray) (s : BS) (f : FField) : BS := ⟨(Proofs.YtkkjnfappndmpaaGreatDoor.putF nm s.fs f).1, s.ms, (Proofs.YtkkjnfappndmpaaGreatDoor.putF nm s.fs f).2 && s.ok⟩
def BS.putM (nm : ByteArray) (s : BS) (f : FMethod) : BS := ⟨s.fs, (Proofs.YtkkjnfappndmpaaGreatDoor.putM nm s.ms f).1, (Proofs.YtkkjnfappndmpaaGreatDoor.putM nm s.ms f).2 && s.ok⟩
def FNode.isDecl (s : ByteArray) (x : FNode) : Bool := x.kd == 55 && x.tx.toList == s.toList
def dclB (kids : List FNode) (s : ByteArray) : Bool := kids.any (FNode.isDecl s)
def BS.useF (nm : ByteArray) (s : BS) (l : List FField) : BS := l.foldl (fun s f => s.putF nm (f.own nm)) s
def BS.useM (nm : ByteArray) (kids : List FNode) (s : BS) (l : List FMethod) : BS := l.foldl (fun s m => if dclB kids (FMethod.nm m) then s else s.putM nm (m.own nm)) s
def clAt (cs : List FClass) (s : ByteArray) : Option FClass := atI cs (fidx FClass.nm cs s)
def prvI (n : Int) : Bool := n == 1 || n == 3
def stcI (n : Int) : Bool := n == 2 || n == 3
def litV (x : FNode) : FValue := if x.kd = 1 then ⟨2, x.nu, ⟨#[]⟩, 0, []⟩ else if x.kd = 2 then ⟨3, 0, x.tx, 0, []⟩ else if x.nu = 0 then ⟨0, 0, ⟨#[]⟩, 0, []⟩ else ⟨1, if x.nu = 2 then 1 else 0, ⟨#[]⟩, 0, []⟩
def hdN (l : List FNode) : FNode := match l with | x :: _ => x | [] => ⟨0, 0, ⟨#[]⟩, []⟩
def fldOf (nm : ByteArray) (x : FNode) : FField := ⟨x.tx, nm, prvI x.nu, litV (hdN x.kids)⟩
theorem nm_mk (a b : ByteArray) (p : Bool) (v : FValue) : FField.nm ⟨a, b, p, v⟩ = a := by obtain ⟨d, e, g, i, l⟩ := v; rfl
theorem fld_nm (nm : ByteArray) (x : FNode) : FField.nm (fldOf nm x) = x.tx := nm_mk _ _ _ _
def mthOf (nm : ByteArray) (x : FNode) : FMethod := ⟨x.tx, nm, nm, prvI x.nu, stcI x.nu⟩
def BS.use (nm : ByteArray) (kids : List FNode) (ts : List FClass) (s : BS) (x : FNode) : BS := match clAt ts x.tx with | some t => (s.useF nm t.fields).useM nm kids t.methods | none => s
/-- A member, put. -/
def BS.step (nm : ByteArray) (kids : List FNode) (ts : List FClass) (s : BS) (x : FNode) : BS :=
 if x.kd = 53 then s.use nm kids ts x else if x.kd = 54 then s.putF nm (fldOf nm x) else if x.kd = 55 then s.putM nm (mthOf nm x) else s
def BS.stepW (nm : ByteArray) (kids : List FNode) (ts : List FClass) (s : BS) (x : FNode) : BS := if x.kd = 53 then s.use nm kids ts x else s
def BS.stepM (nm : ByteArray) (s : BS) (x : FNode) : BS := if x.kd = 54 then s.putF nm (fldOf nm x) else if x.kd = 55 then s.putM nm (mthOf nm x) else s
/-- Two passes are one where the traits stand ahead. -/
theorem two_late {cl : Bool} (nm : ByteArray) (kids : List FNode) (ts : List FClass) : ∀ (l : List FNode) (s : BS) (f : Bool), clsF cl 2 f l = true → l.foldl (BS.stepW nm kids ts) s = s ∧ l.foldl (BS.stepM nm) s = l.foldl (BS.step nm kids ts) s
 | [], s, f, _ => ⟨rfl, rfl⟩
 | x :: r, s, f, h => by
  unfold clsF at h
  rw [Bool.and_eq_true] at h
  have h2 := h.2
  clear h
  by_cases h52 : x.kd = 52
  ·rw [if_pos h52] at h2; simp at h2
  rw [if_neg h52] at h2
  by_cases h53 : x.kd = 53
  ·rw [if_pos h53] at h2; simp at h2
  rw [if_neg h53] at h2
  have hr : clsF cl 2 false r = true := by
   exact zz111
  have ih := two_late (cl := cl) nm kids ts r
  constructor
  ·rw [List.foldl_cons]
   have e : BS.stepW nm kids ts s x = s := by unfold BS.stepW; rw [if_neg h53]
   rw [e]; exact (ih s false hr).1
  ·rw [List.foldl_cons, List.foldl_cons]
   have e : BS.stepM nm s x = BS.step nm kids ts s x := by unfold BS.stepM BS.step; rw [if_neg h53]
   rw [e]; exact (ih _ false hr).2
theorem two_pass {cl : Bool} (nm : ByteArray) (kids : List FNode) (ts : List FClass) : ∀ (l : List FNode) (s : BS) (g : Nat) (f : Bool), clsF cl g f l = true → l.foldl (BS.stepM nm) (l.foldl (BS.stepW nm kids ts) s) = l.foldl (BS.step nm kids ts) s
 | [], s, g, f, _ => rfl
 | x :: r, s, g, f, h => by
  have ih := two_pass (cl := cl) nm kids ts r
  unfold clsF at h
  rw [Bool.and_eq_true] at h
  have h2 := h.2
  clear h
  rw [List.foldl_cons, List.foldl_cons, List.foldl_cons]
  by_cases h52 : x.kd = 52
  ·rw [if_pos h52] at h2
   simp only [Bool.and_eq_true] at h2
   have e1 : BS.stepW nm kids ts s x = s := by unfold BS.stepW; rw [if_neg qaa]
   have e3 : BS.step nm kids ts s x = s := by unfold BS.step; rw [if_neg qaa, if_neg qaa, if_neg qaa]
   have e2 : ∀ s', BS.stepM nm s' x = s' := fun s' => by unfold BS.stepM; rw [if_neg qaa, if_neg qaa]
   rw [e1, e3, e2]
   exact ih s 0 false h2.2.2.2.2
  rw [if_neg h52] at h2
  by_cases h53 : x.kd = 53
  ·rw [if_pos h53] at h2
   simp only [Bool.and_eq_true] at h2
   have e2 : ∀ s', BS.stepM nm s' x = s' := fun s' => by unfold BS.stepM; rw [if_neg qaa, if_neg qaa]
   have e3 : BS.step nm kids ts s x = BS.stepW nm kids ts s x := by unfold BS.step BS.stepW; rw [if_pos h53, if_pos h53]
   rw [e2, e3]
   exact ih _ 1 false h2.2.2
  rw [if_neg h53] at h2
  have hr : clsF cl 2 false r = true := by
   exact zz111
  have e1 : BS.stepW nm kids ts s x = s := by unfold BS.stepW; rw [if_neg h53]
  have e3 : BS.stepM nm s x = BS.step nm kids ts s x := by unfold BS.stepM BS.step; rw [if_neg h53]
  rw [e1, (two_late nm kids ts r s false hr).1, e3]
  exact (two_late nm kids ts r _ false hr).2
/-! ### a declaration -/
def selfL : List UInt8 := [115, 101, 108, 102]
def parL : List UInt8 := [112, 97, 114, 101, 110, 116]
def badN (cs ts : List FClass) (s : ByteArray) : Bool := s.toList == selfL || (s.toList == parL || (decide (0 ≤ fidx FClass.nm cs s) || decide (0 ≤ fidx FClass.nm ts s)))
def parC (cs : List FClass) (kids : List FNode) : Option (ByteArray × List FField × List FMethod) :=
 if (hdN kids).kd = 52 then (clAt cs (hdN kids).tx).map fun c => ((hdN kids).tx, c.fields, c.methods) else some (⟨#[]⟩, [], [])
def noTr (ts : List FClass) (x : FNode) : Bool := x.kd == 53 && decide (fidx FClass.nm ts x.tx < 0)
def bsC (x : FNode) (ts : List FClass) (fs : List FField) (ms : List FMethod) : BS := x.kids.foldl (BS.step x.tx x.kids ts) ⟨fs, ms, true⟩
def linkC (x : FNode) (cs ts : List FClass) : Int × FClass :=
 if badN cs ts x.tx then (1, ⟨⟨#[]⟩, ⟨#[]⟩, [], []⟩) else match parC cs x.kids with
 | none => (2, ⟨⟨#[]⟩, ⟨#[]⟩, [], []⟩)
 | some (pa, fs, ms) => if x.kids.any (noTr ts) then (3, ⟨⟨#[]⟩, ⟨#[]⟩, [], []⟩) else if (bsC x ts fs ms).ok then (0, ⟨x.tx, pa, (bsC x ts fs ms).fs, (bsC x ts fs ms).ms⟩) else (4, ⟨⟨#[]⟩, ⟨#[]⟩, [], []⟩)
def addC (x : FNode) (cs ts : List FClass) : Int × List FClass × List FClass :=
 if x.kd = 50 ∨ x.kd = 51 then (if (linkC x cs ts).1 = 0 then (0, if x.kd = 50 then (cs ++ [(linkC x cs ts).2], ts) else (cs, ts ++ [(linkC x cs ts).2])) else ((linkC x cs ts).1, [], [])) else (0, cs, ts)
def addK : List FNode → List FClass → List FClass → Int × List FClass
 | [], cs, _ => (0, cs)
 | x :: r, cs, ts => if (addC x cs ts).1 = 0 then addK r (addC x cs ts).2.1 (addC x cs ts).2.2 else ((addC x cs ts).1, [])
def nodesL (l : List FNode) : List FNode := (l.filter scF).flatMap FNode.kids
def errL : ByteArray := ⟨#[69, 114, 114, 111, 114]⟩
def msgL : ByteArray := ⟨#[109, 101, 115, 115, 97, 103, 101]⟩
def errF : FField := ⟨msgL, errL, false, ⟨0, 0, ⟨#[]⟩, 0, []⟩⟩
def errC : FClass := ⟨errL, ⟨#[]⟩, [errF], []⟩
def linkL (l : List FNode) : Int × List FClass := addK (nodesL l) [errC] []
theorem nodesL_cons (x : FNode) (r : List FNode) : nodesL (x :: r) = if scF x then x.kids ++ nodesL r else nodesL r := by
 unfold nodesL
 cases h : scF x <;> simp [List.filter_cons, h]
/-! ### what a class of a script's declaration is like -/
theorem good_sz {t : ByteArray} (h : goodF t = true) : t.size ≤ 20 := by
 unfold goodF nameF at h
 simp only [Bool.and_eq_true, decide_eq_true_eq] at h
 exact h.1.1.2
theorem fT_name {k : Int} {t : ByteArray} (hk : k = 49 ∨ k = 50 ∨ k = 51 ∨ k = 52 ∨ k = 53 ∨ k = 54 ∨ k = 55) (h : fT k t = true) : goodF t = true := by
 rcases hk with rfl | rfl | rfl | rfl | rfl | rfl | rfl <;> simpa [fT, gdK] using h
/-- What the rules say of a member. -/
structure MbO (cl first : Bool) (x : FNode) : Prop where
 nm : x.tx.size ≤ 20
 kd : (x.kd = 52 ∧ first = true ∧ cl = true) ∨ x.kd = 53 ∨ (x.kd = 54 ∧ ∃ y, x.kids = [y] ∧ (inB y.kd 1 3 = true ∧ y.tx.size ≤ 400) ∧ inB x.nu 0 1 = true) ∨ (x.kd = 55 ∧ inB x.nu 0 3 = true)
theorem lit_sz {y : FNode} (hk : inB y.kd 1 3 = true) (h : exF y = true) : y.tx.size ≤ 400 := by
 obtain ⟨k, n, t, ks⟩ := y
 have hk' := inB_iff.1 hk
 have hk2 : 1 ≤ k ∧ k ≤ 3 := hk'
 show t.size ≤ 400
 unfold exF nf nodeF at h
 simp only [Bool.and_eq_true] at h
 have ht := h.1.2
 have h1 : k = 1 ∨ k = 2 ∨ k = 3 := qaa
 rcases h1 with rfl | rfl | rfl
 ·exact zz117
 ·simpa [fT] using ht
 ·exact zz117
theorem cls_mem {cl : Bool} : ∀ (l : List FNode) (g : Nat) (f : Bool), clsF cl g f l = true → (∀ x r, l = x :: r → MbO cl f x) ∧ ∀ (j : Nat) (x : FNode), l[j + 1]? = some x → MbO cl false x
 | [], g, f, _ => ⟨fun _ _ h => (by cases h), fun j x h => (by simp at h)⟩
 | x :: r, g, f, h => by
  unfold clsF at h
  rw [Bool.and_eq_true] at h
  obtain ⟨h1, h2⟩ := h
  have hx : MbO cl f x ∧ ∃ g', clsF cl g' false r = true := by
   rw [Bool.and_eq_true] at h1
   by_cases h52 : x.kd = 52
   ·rw [if_pos h52] at h2
    simp only [Bool.and_eq_true] at h2
    exact ⟨⟨good_sz (fT_name qaa h1.2), .inl ⟨h52, h2.1, h2.2.1⟩⟩, _, h2.2.2.2.2⟩
   rw [if_neg h52] at h2
   by_cases h53 : x.kd = 53
   ·rw [if_pos h53] at h2
    simp only [Bool.and_eq_true] at h2
    exact ⟨⟨good_sz (fT_name qaa h1.2), .inr (.inl h53)⟩, _, h2.2.2⟩
   rw [if_neg h53] at h2
   by_cases h54 : x.kd = 54
   ·rw [if_pos h54, Bool.and_eq_true] at h2
    refine ⟨⟨good_sz (fT_name qaa h1.2), .inr (.inr (.inl ⟨h54, ?_⟩))⟩, _, h2.2⟩
    have h3 := h2.1
    split at h3
    ·next y e =>
     rw [Bool.and_eq_true] at h3
     refine ⟨y, e, ⟨h3.1, lit_sz h3.1 h3.2⟩, ?_⟩
     have := h1.1
     rw [h54] at this
     simpa [fN] using this
    ·cases h3
   rw [if_neg h54] at h2
   by_cases h55 : x.kd = 55
   ·rw [if_pos h55, Bool.and_eq_true] at h2
    refine ⟨⟨good_sz (fT_name qaa h1.2), .inr (.inr (.inr ⟨h55, ?_⟩))⟩, _, h2.2⟩
    have := h1.1
    rw [h55] at this
    simpa [fN] using this
   ·rw [if_neg h55] at h2; cases h2
  obtain ⟨hx, g', hr⟩ := hx
  obtain ⟨i1, i2⟩ := cls_mem r g' false hr
  refine ⟨fun y r' e => by cases e; exact hx, fun j y hy => ?_⟩
  cases j with
  | zero =>
   cases r with
   | nil => simp at hy
   | cons z r' => simp at hy; subst hy; exact i1 z r' rfl
  | succ j => exact i2 j y (by simpa using hy)
/-- A declaration in a script. -/
structure ClO (x : FNode) : Prop where
 nm : x.tx.size ≤ 20
 hd : ∀ y r, x.kids = y :: r → MbO (x.kd == 50) true y
 tl : ∀ (j : Nat) (y : FNode), x.kids[j + 1]? = some y → MbO (x.kd == 50) false y
 two : ∀ (ts : List FClass) (s : BS), x.kids.foldl (BS.stepM x.tx) (x.kids.foldl (BS.stepW x.tx x.kids ts) s) = x.kids.foldl (BS.step x.tx x.kids ts) s
theorem top_cl {x : FNode} (h : topF x = true) (hk : x.kd = 50 ∨ x.kd = 51) : ClO x := by
 unfold topF at h
 rw [if_neg qaa, if_pos hk, Bool.and_eq_true, Bool.and_eq_true] at h
 obtain ⟨i1, i2⟩ := cls_mem _ _ _ h.2
 exact ⟨good_sz (fT_name qaa h.1.2), i1, i2, fun ts s => two_pass _ _ _ _ _ _ _ h.2⟩
theorem ClO.any {x : FNode} (h : ClO x) {j : Nat} {y : FNode} (hy : x.kids[j]? = some y) : MbO (x.kd == 50) (decide (j = 0)) y := by
 cases j with
 | zero =>
  cases e : x.kids with
  | nil => rw [e] at hy; simp at hy
  | cons z r => rw [e] at hy; simp at hy; subst hy; exact h.hd z r e
 | succ j => simpa using h.tl j y hy
theorem nodes_top {l : List FNode} {x : FNode} (h : x ∈ nodesL l) : topF x = true := by
 unfold nodesL at h
 obtain ⟨s, hs, hx⟩ := List.mem_flatMap.1 h
 have := (List.mem_filter.1 hs).2
 unfold scF at this
 simp only [Bool.and_eq_true, List.all_eq_true] at this
 exact this.2.2.2.2 x hx
/-! ### classes -/
structure ClG (G : List (List UInt8)) (c : FClass) : Prop where
 f : GdF G c.fields
 m : GdM G c.methods
 nm : (FClass.nm c).size ≤ 1000
 pa : (match c with | ⟨_, p, _, _⟩ => p.size) ≤ 1000
def BS.gd (G : List (List UInt8)) (s : BS) : Prop := GdF G s.fs ∧ GdM G s.ms
theorem BS.gd.putF {G : List (List UInt8)} {s : BS} {nm : ByteArray} {f : FField} (h : s.gd G) (hp : f.plain) (hg : (FField.nm f).toList ∈ G) : (s.putF nm f).gd G := ⟨h.1.putF hp hg, h.2⟩
theorem BS.gd.putM {G : List (List UInt8)} {s : BS} {nm : ByteArray} {f : FMethod} (h : s.gd G) (hp : f.plain) (hg : (FMethod.nm f).toList ∈ G) : (s.putM nm f).gd G := ⟨h.1, h.2.putM hp hg⟩
theorem BS.gd.useF {G : List (List UInt8)} {nm : ByteArray} (hn : nm.size ≤ 1000) : ∀ (l : List FField) (s : BS), s.gd G → (∀ f, f ∈ l → f.plain ∧ (FField.nm f).toList ∈ G) → (s.useF nm l).gd G
 | [], s, h, _ => h
 | f :: r, s, h, hl => by
  unfold BS.useF
  rw [List.foldl_cons]
  have h1 := hl f (List.mem_cons_self ..)
  exact BS.gd.useF hn r _ (h.putF (own_plainF h1.1 hn) (by rw [own_nmF]; exact h1.2)) fun g hg => hl g (List.mem_cons_of_mem _ hg)
theorem BS.gd.useM {G : List (List UInt8)} {nm : ByteArray} {kids : List FNode} (hn : nm.size ≤ 1000) : ∀ (l : List FMethod) (s : BS), s.gd G → (∀ f, f ∈ l → f.plain ∧ (FMethod.nm f).toList ∈ G) → (s.useM nm kids l).gd G
 | [], s, h, _ => h
 | f :: r, s, h, hl => by
  unfold BS.useM
  rw [List.foldl_cons]
  have h1 := hl f (List.mem_cons_self ..)
  refine BS.gd.useM hn r _ ?_ fun g hg => hl g (List.mem_cons_of_mem _ hg)
  split
  ·exact h
  ·exact h.putM (own_plainM h1.1 hn) (by rw [own_nmM]; exact h1.2)
theorem clAt_mem {cs : List FClass} {s : ByteArray} {c : FClass} (h : clAt cs s = some c) : c ∈ cs := atI_some h
theorem litV_plain {a b : ByteArray} {p : Bool} {y : FNode} (ha : a.size ≤ 1000) (hb : b.size ≤ 1000) (hy : y.tx.size ≤ 400) : FField.plain ⟨a, b, p, litV y⟩ := by
 unfold litV
 split
 ·exact zz153
 ·split
  ·exact ⟨ha, hb, Nat.le_trans hy qae, rfl⟩
  ·split
   ·exact zz153
   ·exact zz153
theorem fld_plain {nm : ByteArray} {cl f : Bool} {x : FNode} (hn : nm.size ≤ 1000) (h : MbO cl f x) (hk : x.kd = 54) : (fldOf nm x).plain := by
 obtain ⟨y, e, hy, _⟩ : ∃ y, x.kids = [y] ∧ (inB y.kd 1 3 = true ∧ y.tx.size ≤ 400) ∧ inB x.nu 0 1 = true := by
  rcases h.kd with h | h | h | h
  ·omega
  ·omega
  ·exact h.2
  ·omega
 have hs := h.nm
 unfold fldOf
 rw [e]
 exact litV_plain qaa hn hy.2
theorem mth_plain {nm : ByteArray} {cl f : Bool} {x : FNode} (hn : nm.size ≤ 1000) (h : MbO cl f x) : (mthOf nm x).plain := by
 have hs := h.nm
 exact ⟨by omega, hn, hn⟩
theorem BS.gd.step {G : List (List UInt8)} {nm : ByteArray} {kids : List FNode} {ts : List FClass} {s : BS} {x : FNode} {cl f : Bool} (h : s.gd G) (hn : nm.size ≤ 1000) (hts : ∀ t, t ∈ ts → ClG G t) (hx : MbO cl f x) (hg : x.tx.toList ∈ G) : (s.step nm kids ts x).gd G := by
 unfold BS.step
 split
 ·unfold BS.use
  exact zz147
 ·exact zz121
theorem BS.gd.steps {G : List (List UInt8)} {nm : ByteArray} {kids : List FNode} {ts : List FClass} (hn : nm.size ≤ 1000) (hts : ∀ t, t ∈ ts → ClG G t) : ∀ (l : List FNode) (s : BS), s.gd G → (∀ x, x ∈ l → x.tx.toList ∈ G ∧ ∃ cl f, MbO cl f x) → (l.foldl (BS.step nm kids ts) s).gd G
 | [], s, h, _ => h
 | x :: r, s, h, hl => by
  obtain ⟨h1, cl, f, h2⟩ := hl x (List.mem_cons_self ..)
  exact BS.gd.steps hn hts r _ (h.step hn hts h2 h1) fun y hy => hl y (List.mem_cons_of_mem _ hy)
theorem parC_good {G : List (List UInt8)} {cs : List FClass} {x : FNode} {pa : ByteArray} {fs : List FField} {ms : List FMethod} (hcs : ∀ t, t ∈ cs → ClG G t) (hx : ClO x) (h : parC cs x.kids = some (pa, fs, ms)) : pa.size ≤ 20 ∧ GdF G fs ∧ GdM G ms := by
 unfold parC at h
 split at h
 ·next h52 =>
  cases e : clAt cs (hdN x.kids).tx with
  | none => rw [e] at h; cases h
  | some c =>
   rw [e] at h
   injection h with h
   injection h with h1 h
   injection h with h2 h3
   subst h1 h2 h3
   have hc := hcs c (clAt_mem e)
   refine ⟨?_, hc.f, hc.m⟩
   cases ek : x.kids with
   | nil => exact (by decide : (⟨#[]⟩ : ByteArray).size ≤ 20)
   | cons y r => exact (hx.hd y r ek).nm
 ·injection h with h
  injection h with h1 h
  injection h with h2 h3
  subst h1 h2 h3
  exact ⟨(by decide : (⟨#[]⟩ : ByteArray).size ≤ 20), GdR.nil, GdR.nil⟩
theorem ClO.mem {x : FNode} (h : ClO x) : ∀ y, y ∈ x.kids → ∃ cl f, MbO cl f y := fun y hy => by
 obtain ⟨j, hj⟩ := List.mem_iff_getElem?.1 hy
 exact ⟨_, _, h.any hj⟩
theorem linkC_good {G : List (List UInt8)} {cs ts : List FClass} {x : FNode} (hcs : ∀ t, t ∈ cs → ClG G t) (hts : ∀ t, t ∈ ts → ClG G t) (hx : ClO x) (hg : ∀ y, y ∈ x.kids → y.tx.toList ∈ G) (h0 : (linkC x cs ts).1 = 0) : ClG G (linkC x cs ts).2 := by
 unfold linkC at h0 ⊢
 split at h0
 ·cases h0
 ·next hb =>
  rw [if_neg hb]
  split at h0
  ·cases h0
  ·next pa fs ms hp =>
   split at h0
   ·cases h0
   ·next ha =>
    split at h0
    ·next ho =>
     simp only [if_neg ha, if_pos ho]
     obtain ⟨p1, p2, p3⟩ := parC_good hcs hx hp
     have hn := hx.nm
     have hgd : (bsC x ts fs ms).gd G := BS.gd.steps qaa hts _ _ ⟨p2, p3⟩ fun y hy => ⟨hg y hy, hx.mem y hy⟩
     exact ⟨hgd.1, hgd.2, by show x.tx.size ≤ 1000; omega, by show pa.size ≤ 1000; omega⟩
    ·cases h0
/-- All that is good: of the classes and the traits, while n declarations are still to come. -/
structure LkG (G : List (List UInt8)) (N : Nat) (l : List FNode) (cs ts : List FClass) : Prop where
 gc : ∀ t, t ∈ cs → ClG G t
 gt : ∀ t, t ∈ ts → ClG G t
 nc : cs.length + l.length ≤ N
 nt : ts.length + l.length ≤ N
 top : ∀ x, x ∈ l → topF x = true ∧ ∀ y, y ∈ x.kids → y.tx.toList ∈ G
theorem LkG.next {G : List (List UInt8)} {N : Nat} {x : FNode} {r : List FNode} {cs ts : List FClass} (h : LkG G N (x :: r) cs ts) (h0 : (addC x cs ts).1 = 0) : LkG G N r (addC x cs ts).2.1 (addC x cs ts).2.2 := by
 have hx := h.top x (List.mem_cons_self ..)
 have hc := h.nc
 have ht := h.nt
 rw [List.length_cons] at hc ht
 have hr : ∀ y, y ∈ r → topF y = true ∧ ∀ z, z ∈ y.kids → z.tx.toList ∈ G := fun y hy => h.top y (List.mem_cons_of_mem _ hy)
 unfold addC at h0 ⊢
 by_cases hk : x.kd = 50 ∨ x.kd = 51
 ·rw [if_pos hk] at h0 ⊢
  by_cases h1 : (linkC x cs ts).1 = 0
  ·rw [if_pos h1]
   have hg := linkC_good h.gc h.gt (top_cl hx.1 hk) hx.2 h1
   by_cases h50 : x.kd = 50
   ·simp only [if_pos h50]
    exact ⟨fun t ht => by rcases List.mem_append.1 ht with h2 | h2; exact h.gc t h2; rw [List.mem_singleton.1 h2]; exact hg, h.gt, by rw [List.length_append]; simp; omega, by omega, hr⟩
   ·simp only [if_neg h50]
    exact ⟨h.gc, fun t ht => by rcases List.mem_append.1 ht with h2 | h2; exact h.gt t h2; rw [List.mem_singleton.1 h2]; exact hg, by omega, by rw [List.length_append]; simp; omega, hr⟩
  ·rw [if_neg h1] at h0; exact absurd h0 h1
 ·rw [if_neg hk]
  exact ⟨h.gc, h.gt, (by show cs.length + r.length ≤ N; omega), (by show ts.length + r.length ≤ N; omega), hr⟩
theorem LkG.all {G : List (List UInt8)} {N : Nat} : ∀ (l : List FNode) (cs ts : List FClass), LkG G N l cs ts → (∀ t, t ∈ (addK l cs ts).2 → ClG G t) ∧ (addK l cs ts).2.length ≤ N
 | [], cs, ts, h => ⟨h.gc, by have := h.nc; simpa [addK] using this⟩
 | x :: r, cs, ts, h => by
  unfold addK
  split
  ·next h0 => exact LkG.all r _ _ (h.next h0)
  ·exact ⟨fun t ht => (by cases ht), by simp⟩
theorem addC_no {x : FNode} {cs ts : List FClass} (h : ¬ (x.kd = 50 ∨ x.kd = 51)) : addC x cs ts = (0, cs, ts) := by unfold addC; rw [if_neg h]
theorem addC_cl {x : FNode} {cs ts : List FClass} (h : x.kd = 50) (h0 : (linkC x cs ts).1 = 0) : addC x cs ts = (0, cs ++ [(linkC x cs ts).2], ts) := by unfold addC; rw [if_pos (.inl h), if_pos h0, if_pos h]
theorem addC_tr {x : FNode} {cs ts : List FClass} (h : x.kd = 51) (h0 : (linkC x cs ts).1 = 0) : addC x cs ts = (0, cs, ts ++ [(linkC x cs ts).2]) := by unfold addC; rw [if_pos (.inr h), if_pos h0, if_neg qaa]
theorem addC_bad {x : FNode} {cs ts : List FClass} (h : x.kd = 50 ∨ x.kd = 51) (h0 : (linkC x cs ts).1 ≠ 0) : addC x cs ts = ((linkC x cs ts).1, [], []) := by unfold addC; rw [if_pos h, if_neg h0]
theorem addK_to {x : FNode} {r : List FNode} {cs ts cs' ts' : List FClass} (h : addC x cs ts = (0, cs', ts')) : addK (x :: r) cs ts = addK r cs' ts' := by rw [addK, h, if_pos rfl]
theorem addK_bad {x : FNode} {r : List FNode} {cs ts : List FClass} (h : x.kd = 50 ∨ x.kd = 51) (h0 : (linkC x cs ts).1 ≠ 0) : addK (x :: r) cs ts = ((linkC x cs ts).1, []) := by rw [addK, addC_bad h h0, if_neg h0]
theorem LkG.to {G : List (List UInt8)} {N : Nat} {x : FNode} {r : List FNode} {cs ts cs' ts' : List FClass} (h : LkG G N (x :: r) cs ts) (e : addC x cs ts = (0, cs', ts')) : LkG G N r cs' ts' := by
 have := h.next (by rw [e])
 rw [e] at this
 exact this
theorem nodes_drop {l : List FNode} {k : Nat} {x : FNode} (h : l[k]? = some x) : nodesL (l.drop k) = if scF x then x.kids ++ nodesL (l.drop (k + 1)) else nodesL (l.drop (k + 1)) := by
 have hl : k < l.length := (List.getElem?_eq_some_iff.1 h).1
 rw [List.drop_eq_getElem_cons hl, (List.getElem?_eq_some_iff.1 h).2, nodesL_cons]
theorem drop_cons {l : List FNode} {k : Nat} {x : FNode} (h : l[k]? = some x) : l.drop k = x :: l.drop (k + 1) := by
 have hl : k < l.length := (List.getElem?_eq_some_iff.1 h).1
 rw [List.drop_eq_getElem_cons hl, (List.getElem?_eq_some_iff.1 h).2]
theorem nodesL_nil : nodesL [] = [] := rfl
/-- The names of all members. -/
def namesG (l : List FNode) : List (List UInt8) := msgL.toList :: (nodesL l).flatMap fun x => x.kids.map fun y => y.tx.toList
theorem kids_wt (x : FNode) : x.kids.length + FNode.wts x.kids ≤ x.wt := by
 obtain ⟨a, b, c, d⟩ := x
 rw [FNode.wt_eq]
 show d.length + FNode.wts d ≤ _
 omega
theorem names_wt : ∀ l : List FNode, (l.flatMap fun x => x.kids.map fun y => y.tx.toList).length ≤ FNode.wts l
 | [] => by simp
 | x :: r => by
  have ih := names_wt r
  have h := kids_wt x
  rw [List.flatMap_cons, List.length_append, List.length_map, FNode.wts]
  omega
theorem nodes_wt : ∀ l : List FNode, (nodesL l).length + FNode.wts (nodesL l) ≤ FNode.wts l
 | [] => by rw [nodesL_nil]; simp [FNode.wts]
 | x :: r => by
  have ih := nodes_wt r
  have h := kids_wt x
  have ha : ∀ a b : List FNode, FNode.wts (a ++ b) = FNode.wts a + FNode.wts b := by
   intro a b
   induction a with
   | nil => simp [FNode.wts]
   | cons y a ih => rw [List.cons_append, FNode.wts, FNode.wts, ih]; omega
  rw [nodesL_cons, FNode.wts]
  split
  ·rw [List.length_append, ha]; omega
  ·omega
theorem names_len (l : List FNode) : (namesG l).length ≤ FNode.wts l + 1 := by
 have h1 := names_wt (nodesL l)
 have h2 := nodes_wt l
 unfold namesG
 rw [List.length_cons]
 omega
theorem err_good (G : List (List UInt8)) (h : msgL.toList ∈ G) : ClG G errC := by
 refine ⟨⟨by simp [errC, FClass.fields], fun x hx => ?_⟩, GdR.nil, by decide, by decide⟩
 have hx2 : x = errF := by simpa [errC, FClass.fields] using hx
 subst hx2
 exact ⟨⟨by decide, by decide, by decide, rfl⟩, h⟩
theorem link_start (l : List FNode) (N : Nat) (hN : FNode.wts l + 1 ≤ N) : LkG (namesG l) N (nodesL l) [errC] [] := by
 have h2 := nodes_wt l
 refine ⟨fun t ht => ?_, fun t ht => (by cases ht), qak, qak, fun x hx => ⟨nodes_top hx, fun y hy => ?_⟩⟩
 ·rw [List.mem_singleton.1 ht]
  exact err_good _ (List.mem_cons_self ..)
 ·unfold namesG
  exact List.mem_cons_of_mem _ (List.mem_flatMap.2 ⟨x, hx, List.mem_map.2 ⟨y, hy, rfl⟩⟩)
theorem link_good (l : List FNode) : (∀ t, t ∈ (linkL l).2 → ClG (namesG l) t) ∧ (linkL l).2.length ≤ FNode.wts l + 1 := LkG.all _ _ _ (link_start l _ nr)
open Go.ChangeMaps (open_string shut_string)
set_option maxRecDepth 100000
def FField.vs : FField → List Value | ⟨a, b, p, ⟨k, n, s, x, _⟩⟩ => [.string a, .string b, .bool p, .int .i64 k, .int .i64 n, .string s, .int .i64 x, .slice none 0 0]
def FMethod.vs : FMethod → List Value | ⟨a, b, c, p, q⟩ => [.string a, .string b, .string c, .bool p, .bool q]
theorem FField.vlen (x : FField) : x.vs.length = 8 := by obtain ⟨a, b, p, ⟨k, n, s, x, l⟩⟩ := x; rfl
theorem FMethod.vlen (x : FMethod) : x.vs.length = 5 := by obtain ⟨a, b, c, p, q⟩ := x; rfl
abbrev fvF (l : List FField) : List Value := l.flatMap FField.vs
abbrev fvM (l : List FMethod) : List Value := l.flatMap FMethod.vs
theorem fvF_one (l : List FField) : ∀ u ∈ fvF l, u.oneCell' = true := by
 intro u hu
 obtain ⟨⟨a, b, p, ⟨k, n, s, x, l⟩⟩, _, hp⟩ := List.mem_flatMap.1 hu
 simp only [FField.vs, List.mem_cons, List.not_mem_nil, or_false] at hp
 rcases hp with rfl | rfl | rfl | rfl | rfl | rfl | rfl | rfl <;> rfl
theorem fvM_one (l : List FMethod) : ∀ u ∈ fvM l, u.oneCell' = true := by
 intro u hu
 obtain ⟨⟨a, b, c, p, q⟩, _, hp⟩ := List.mem_flatMap.1 hu
 simp only [FMethod.vs, List.mem_cons, List.not_mem_nil, or_false] at hp
 rcases hp with rfl | rfl | rfl | rfl | rfl <;> rfl
/-! ### stores one after another -/
def stW : World → Nat → Nat → List Value → World
 | W, _, _, [] => W
 | W, g, p, a :: r => stW (W.setCell ⟨g, p, none⟩ a) g (p + 1) r
theorem flat_sets {α : Type} {vs : α → List Value} {k : Nat} (hk : ∀ x, (vs x).length = k) : ∀ (l : List α) (i : Nat) (f x : α), l[i]? = some x → sets (l.flatMap vs) (i * k) (vs f) = (l.set i f).flatMap vs := by
 intro l i f x hx
 have hl : i < l.length := (List.getElem?_eq_some_iff.1 hx).1
 have e : l = l.take i ++ (l[i] :: l.drop (i + 1)) := by rw [List.getElem_cons_drop, List.take_append_drop]
 have e2 : l.set i f = l.take i ++ (f :: l.drop (i + 1)) := by rw [List.set_eq_take_append_cons_drop, if_pos hl]
 have h1 : ((l.take i).flatMap vs).length = i * k := by rw [flat_len hk, List.length_take, Nat.min_eq_left qaa]
 rw [e2]
 conv => lhs; rw [e]
 rw [List.flatMap_append, List.flatMap_cons, List.flatMap_append, List.flatMap_cons, sets_app _ _ _ _ h1 (by rw [List.length_append, hk, hk]; omega), hk, List.append_assoc]
 congr 2
 rw [← hk l[i], List.drop_left]
theorem own_sets {lo n c g : Nat} {t : TypeId} {k : Nat} : ∀ (vs : List Value) (W : World) (p : Nat) (xs : List Value), W.ownsRow lo t k (.slice (some ⟨g, 0, none⟩) n c) n xs →
  (stW W g p vs).ownsRow lo t k (.slice (some ⟨g, 0, none⟩) n c) n (sets xs p vs) ∧ W.grownBy (stW W g p vs) (some g)
 | [], W, p, xs, h => ⟨h, grown_refl W _⟩
 | a :: r, W, p, xs, h => by
  obtain ⟨h1, g1⟩ := World.ownsRow.stored h p a
  obtain ⟨h2, g2⟩ := own_sets r _ (p + 1) _ h1
  exact ⟨h2, grown_trans g1 g2⟩
/-! ### rows -/
section
variable {α : Type} {vs : α → List Value} {t : TypeId} {k : Nat} {W W' : World} {lo : Nat} {u : Value} {l : List α}
def Ro (vs : α → List Value) (t : TypeId) (k : Nat) (W : World) (lo : Nat) (u : Value) (l : List α) : Prop := W.ownsRow lo t k u l.length (l.flatMap vs)
theorem Ro.form (h : Ro vs t k W lo u l) : ∃ A c, u = .slice A l.length c := (rd_of_own h).form
theorem Ro.keep (h : Ro vs t k W lo u l) (hb : Below W.heap.size W W') : Ro vs t k W' lo u l := own_below h hb nr
theorem Ro.rd (h : Ro vs t k W lo u l) : Rd W W.heap.size k u l.length (l.flatMap vs) := rd_of_own h
theorem Ro.some (h : Ro vs t k W lo u l) (h0 : 0 < l.length) : ∃ g c, u = .slice (Option.some ⟨g, 0, none⟩) l.length c := by
 rcases own_row h with ⟨_, hn, _⟩ | ⟨g, cap, f, hv, _⟩
 ·omega
 ·exact ⟨g, cap, hv⟩
theorem Ro.cell {c g n i j : Nat} {x : α} {v : Value} (hk : ∀ x, (vs x).length = k) (h : Ro vs t k W lo (.slice (Option.some ⟨g, 0, none⟩) n c) l) (hx : l[i]? = Option.some x) (hv : (vs x)[j]? = Option.some v) : W.cell? ⟨g, i * k + j, none⟩ = Option.some v := by
 obtain ⟨A, c', e, h1, h2, h3, h4⟩ := h.rd
 have hl : 0 < l.length := by have := (List.getElem?_eq_some_iff.1 hx).1; omega
 obtain ⟨b, off, rfl, hb, hc⟩ := h4 hl
 rcases own_row h with ⟨e2, _, _⟩ | ⟨g2, cap, f, e2, _⟩
 ·rw [e2] at e; cases e
 ·have hj : j < k := by rw [← hk x]; exact (List.getElem?_eq_some_iff.1 hv).1
  have := hc (i * k + j) v (by rw [flat_get hk l i x hx j hj]; exact hv)
  rw [e2] at e
  cases e
  cases e2
  simpa using this
theorem Ro.nil (W : World) (lo : Nat) : Ro vs t k W lo (.slice none 0 0) ([] : List α) := ⟨by simp, .inl ⟨rfl, rfl⟩⟩
theorem Ro.put {c g i : Nat} {x : α} (hk : ∀ x, (vs x).length = k) (h : Ro vs t k W lo (.slice (Option.some ⟨g, 0, none⟩) l.length c) l) (hx : l[i]? = Option.some x) (f : α) :
  Ro vs t k (stW W g (i * k) (vs f)) lo (.slice (Option.some ⟨g, 0, none⟩) l.length c) (l.set i f) ∧ W.grownBy (stW W g (i * k) (vs f)) (Option.some g) := by
 obtain ⟨h1, g1⟩ := own_sets (vs f) W (i * k) _ h
 rw [flat_sets hk l i f x hx] at h1
 refine ⟨?_, g1⟩
 unfold Ro
 rw [List.length_set]
 exact h1
theorem Ro.push {f : α} (h : W.ownsRow lo t k u (l.length + 1) (l.flatMap vs ++ vs f)) : Ro vs t k W lo u (l ++ [f]) := by
 unfold Ro
 rw [List.length_append, List.flatMap_append]
 simpa using h
end
abbrev RoF := Ro FField.vs 79 8
abbrev RoM := Ro FMethod.vs 87 5
/-- Exact cells read as the data. -/
theorem rdC_flat {α : Type} {vs : α → List Value} {cf : α → List Cel} {k B : Nat} {W : World} {u : Value} {l : List α} (e : TypeId) (hk0 : 0 < k) (hk : ∀ x, (vs x).length = k) (hc : ∀ x, (cf x).length = k)
  (hr : ∀ x, x ∈ l → ∀ (r : Nat) (c : Cel), (cf x)[r]? = some c → ∃ v, (vs x)[r]? = some v ∧ RdC W B c v) (h : Rd W B k u l.length (l.flatMap vs)) : RdC W B (.s e k l.length (l.flatMap cf)) u := by
 obtain ⟨A, c, rfl, h1, h2, h3, h4⟩ := h
 have hcl : (l.flatMap cf).length = l.length * k := by
  clear hr h1 h3 h4
  induction l with
  | nil => simp
  | cons x r ih => rw [List.flatMap_cons, List.length_append, hc, ih, List.length_cons, Nat.add_mul]; omega
 unfold RdC
 refine ⟨A, c, rfl, h1, h2, hcl, fun hn => ?_⟩
 obtain ⟨b, off, rfl, hb, hcell⟩ := h4 hn
 refine ⟨b, off, rfl, hb, RdL.of _ _ fun j x hx => ?_⟩
 have hj : j < l.length * k := by rw [← hcl]; exact (List.getElem?_eq_some_iff.1 hx).1
 have hi : j / k < l.length := Nat.div_lt_of_lt_mul (by rw [Nat.mul_comm]; exact hj)
 have hm : j % k < k := Nat.mod_lt _ hk0
 have ej : j = (j / k) * k + j % k := by rw [Nat.mul_comm]; exact (Nat.div_add_mod j k).symm
 have hy : l[j / k]? = some l[j / k] := List.getElem?_eq_getElem hi
 have hx2 : (cf l[j / k])[j % k]? = some x := by
  rw [← hx]
  conv => rhs; rw [ej]
  clear hr h1 h3 h4 hcell hx ej hcl
  have key : ∀ (l : List α) (i : Nat) (x : α), l[i]? = some x → ∀ j, j < k → (l.flatMap cf)[i * k + j]? = (cf x)[j]? := by
   intro l
   induction l with
   | nil => intro i x h; simp at h
   | cons y r ih =>
    intro i x h j hj
    cases i with
    | zero =>
     obtain rfl : y = x := by simpa using h
     rw [List.flatMap_cons, Nat.zero_mul, Nat.zero_add, List.getElem?_append_left (by rw [hc]; exact hj)]
    | succ i =>
     have h' : r[i]? = some x := by simpa using h
     have e : (i + 1) * k + j = (cf y).length + (i * k + j) := by rw [hc, Nat.succ_mul]; omega
     rw [List.flatMap_cons, e, List.getElem?_append_right qaa, Nat.add_sub_cancel_left]
     exact ih i x h' j hj
  exact (key l _ _ hy _ hm).symm
 obtain ⟨v, hv, hrd⟩ := hr _ (List.getElem_mem hi) _ _ hx2
 refine ⟨v, hcell j v ?_, hrd⟩
 rw [ej, flat_get hk l _ _ hy _ hm]
 exact hv
theorem fvF_cel {W : World} {B : Nat} {x : FField} (hp : x.plain) : ∀ (r : Nat) (c : Cel), x.c[r]? = some c → ∃ v, x.vs[r]? = some v ∧ RdC W B c v := by
 obtain ⟨a, b, p, ⟨k, n, s, y, l⟩⟩ := x
 obtain rfl : l = [] := hp.2.2.2
 rw [FField.c_eq]
 intro r c h
 match r, h with
 | 0, h => obtain rfl : _ = c := by simpa using h
           exact ⟨_, rfl, by unfold RdC; rfl⟩
 | 1, h => obtain rfl : _ = c := by simpa using h
           exact ⟨_, rfl, by unfold RdC; rfl⟩
 | 2, h => obtain rfl : _ = c := by simpa using h
           exact ⟨_, rfl, by unfold RdC; rfl⟩
 | 3, h => obtain rfl : _ = c := by simpa using h
           exact ⟨_, rfl, by unfold RdC; rfl⟩
 | 4, h => obtain rfl : _ = c := by simpa using h
           exact ⟨_, rfl, by unfold RdC; rfl⟩
 | 5, h => obtain rfl : _ = c := by simpa using h
           exact ⟨_, rfl, by unfold RdC; rfl⟩
 | 6, h => obtain rfl : _ = c := by simpa using h
           exact ⟨_, rfl, by unfold RdC; rfl⟩
 | 7, h => obtain rfl : _ = c := by simpa using h
           exact ⟨_, rfl, RdC.nil (Nat.zero_le _)⟩
 | r + 8, h => simp at h
theorem fvM_cel {W : World} {B : Nat} {x : FMethod} : ∀ (r : Nat) (c : Cel), x.c[r]? = some c → ∃ v, x.vs[r]? = some v ∧ RdC W B c v := by
 obtain ⟨a, b, p, k, n⟩ := x
 rw [FMethod.c_eq]
 intro r c h
 match r, h with
 | 0, h => obtain rfl : _ = c := by simpa using h
           exact ⟨_, rfl, by unfold RdC; rfl⟩
 | 1, h => obtain rfl : _ = c := by simpa using h
           exact ⟨_, rfl, by unfold RdC; rfl⟩
 | 2, h => obtain rfl : _ = c := by simpa using h
           exact ⟨_, rfl, by unfold RdC; rfl⟩
 | 3, h => obtain rfl : _ = c := by simpa using h
           exact ⟨_, rfl, by unfold RdC; rfl⟩
 | 4, h => obtain rfl : _ = c := by simpa using h
           exact ⟨_, rfl, by unfold RdC; rfl⟩
 | r + 5, h => simp at h
theorem rdF {W : World} {B : Nat} {u : Value} {l : List FField} (hp : ∀ x, x ∈ l → x.plain) (h : Rd W B 8 u l.length (fvF l)) : RdC W B (.s 79 8 l.length (FField.flat l)) u :=
 rdC_flat _ qaa FField.vlen FField.len (fun x hx => fvF_cel (hp x hx)) h
theorem rdM {W : World} {B : Nat} {u : Value} {l : List FMethod} (h : Rd W B 5 u l.length (fvM l)) : RdC W B (.s 87 5 l.length (FMethod.flat l)) u :=
 rdC_flat _ qaa FMethod.vlen FMethod.len (fun x _ => fvM_cel) h
/-! ### classes -/
/-- A class and the values that stand for its fields and methods. -/
abbrev CV := FClass × Value × Value
def FClass.pa : FClass → ByteArray | ⟨_, p, _, _⟩ => p
def clv (p : CV) : List Value := [.string (FClass.nm p.1), .string p.1.pa, p.2.1, p.2.2]
theorem clv_len (p : CV) : (clv p).length = 4 := rfl
structure RdK (W : World) (B : Nat) (K : List CV) (u : Value) : Prop where
 row : Rd W B 4 u K.length (K.flatMap clv)
 mem : ∀ p, p ∈ K → Rd W B 8 p.2.1 p.1.fields.length (fvF p.1.fields) ∧ Rd W B 5 p.2.2 p.1.methods.length (fvM p.1.methods)
def PlC (c : FClass) : Prop := ∀ x, x ∈ c.fields → x.plain
theorem map_flat (K : List CV) : K.flatMap (fun p => p.1.c) = FClass.flat (K.map Prod.fst) := by
 unfold FClass.flat
 rw [List.flatMap_map]
theorem RdK.rdC {W : World} {B : Nat} {K : List CV} {u : Value} (h : RdK W B K u) (hp : ∀ p, p ∈ K → PlC p.1) : RdC W B (.s 56 4 (K.map Prod.fst).length (FClass.flat (K.map Prod.fst))) u := by
 rw [← map_flat, List.length_map]
 refine rdC_flat _ qaa clv_len (fun p => FClass.len p.1) (fun p hpK r c hc => ?_) h.row
 have hm := h.mem p hpK
 have hpl := hp p hpK
 obtain ⟨⟨a, b, fs, ms⟩, uF, uM⟩ := p
 simp only at hc hm
 rw [FClass.c_eq] at hc
 match r, hc with
 | 0, hc => obtain rfl : _ = c := by simpa using hc
            exact ⟨_, rfl, by unfold RdC; rfl⟩
 | 1, hc => obtain rfl : _ = c := by simpa using hc
            exact ⟨_, rfl, by unfold RdC; rfl⟩
 | 2, hc => obtain rfl : _ = c := by simpa using hc
            exact ⟨_, rfl, rdF hpl hm.1⟩
 | 3, hc => obtain rfl : _ = c := by simpa using hc
            exact ⟨_, rfl, rdM hm.2⟩
 | r + 4, hc => simp at hc
structure OwnK (W : World) (lo : Nat) (K : List CV) (u : Value) : Prop where
 row : W.ownsRow lo 56 4 u K.length (K.flatMap clv)
 mem : ∀ p, p ∈ K → RoF W lo p.2.1 p.1.fields ∧ RoM W lo p.2.2 p.1.methods
theorem OwnK.rdK {W : World} {lo : Nat} {K : List CV} {u : Value} (h : OwnK W lo K u) : RdK W W.heap.size K u := ⟨rd_of_own h.row, fun p hp => ⟨(h.mem p hp).1.rd, (h.mem p hp).2.rd⟩⟩
def blkL (K : List CV) : List Nat := K.flatMap fun p => ownB p.2.1 ++ ownB p.2.2
theorem OwnK.lt {W : World} {lo : Nat} {K : List CV} {u : Value} (h : OwnK W lo K u) : (∀ g, u.ownBlock = some g → lo ≤ g ∧ g < W.heap.size) ∧ ∀ g, g ∈ blkL K → lo ≤ g ∧ g < W.heap.size := by
 refine ⟨World.ownsRow.lt h.row, fun g hg => ?_⟩
 unfold blkL at hg
 obtain ⟨p, hp, hg⟩ := List.mem_flatMap.1 hg
 rcases List.mem_append.1 hg with hg | hg
 ·exact World.ownsRow.lt (h.mem p hp).1 g (mem_ownB.1 hg)
 ·exact World.ownsRow.lt (h.mem p hp).2 g (mem_ownB.1 hg)
/-- Two lists of one's own, apart. -/
structure Two (W : World) (lo : Nat) (K : List CV) (u : Value) (J : List CV) (v : Value) : Prop where
 a : OwnK W lo K u
 b : OwnK W lo J v
 nd : (blkL K ++ blkL J).Nodup
 hu : ∀ g, u.ownBlock = some g → g ∉ blkL K ++ blkL J ∧ v.ownBlock ≠ some g
 hv : ∀ g, v.ownBlock = some g → g ∉ blkL K ++ blkL J
section
variable {W W' : World} {lo : Nat} {K J : List CV} {u v : Value}
theorem Two.swap (h : Two W lo K u J v) : Two W lo J v K u := by
 refine ⟨h.b, h.a, ?_, fun g hg => ⟨fun hm => h.hv g hg (by rw [List.mem_append] at hm ⊢; exact hm.symm), fun he => (h.hu g he).2 hg⟩, fun g hg hm => (h.hu g hg).1 (by rw [List.mem_append] at hm ⊢; exact hm.symm)⟩
 have := List.nodup_append.1 h.nd
 exact List.nodup_append.2 ⟨this.2.1, this.1, fun a ha b hb e => this.2.2 b hb a ha e.symm⟩
theorem OwnK.below {C : Nat} (h : OwnK W lo K u) (hb : Below C W W') (hC : W.heap.size ≤ C) : OwnK W' lo K u := ⟨own_below h.row hb hC, fun p hp => ⟨own_below (h.mem p hp).1 hb hC, own_below (h.mem p hp).2 hb hC⟩⟩
theorem Two.below {C : Nat} (h : Two W lo K u J v) (hb : Below C W W') (hC : W.heap.size ≤ C) : Two W' lo K u J v := ⟨h.a.below hb hC, h.b.below hb hC, h.nd, h.hu, h.hv⟩
theorem Two.none (W : World) (lo : Nat) (h : OwnK W lo K u) (hn : (blkL K).Nodup) (hu : ∀ g, u.ownBlock = some g → g ∉ blkL K) : Two W lo K u [] (.slice none 0 0) := by
 refine ⟨h, ⟨⟨by simp, .inl ⟨rfl, rfl⟩⟩, fun p hp => by cases hp⟩, by simpa [blkL] using hn, fun g hg => ⟨by simpa [blkL] using hu g hg, by simp [Value.ownBlock]⟩, fun g hg => by simp [Value.ownBlock] at hg⟩
theorem blkL_push (K : List CV) (p : CV) : blkL (K ++ [p]) = blkL K ++ (ownB p.2.1 ++ ownB p.2.2) := by unfold blkL; simp
/-- A row that is kept by what grows another. -/
theorem own_grown {e : TypeId} {k n : Nat} {x : Value} {xs : List Value} {o : Option Nat} (h : W.ownsRow lo e k x n xs) (hg : W.grownBy W' o) (hd : ∀ g, x.ownBlock = some g → o ≠ some g) : W'.ownsRow lo e k x n xs :=
 own_keep h fun g hx => hg.block g (World.ownsRow.lt h g hx).2 fun e => hd g hx e.symm
/-- What an append of a class leaves, whose own rows are younger than all that was there (w1). -/
theorem Two.push {w1 : World} {c : FClass} {uF uM u' : Value} (h1 : Two w1 lo K u J v) (hb : Below w1.heap.size w1 W) (hlo : lo ≤ w1.heap.size) (hF : RoF W w1.heap.size uF c.fields) (hM : RoM W w1.heap.size uM c.methods) (hd : ∀ g, uF.ownBlock = some g → uM.ownBlock ≠ some g)
  (ho : W'.ownsRow lo 56 4 u' (K.length + 1) (K.flatMap clv ++ clv (c, uF, uM))) (hg : W.grownBy W' u.ownBlock) (hat : u'.ownBlock = u.ownBlock ∨ u'.ownBlock = some W.heap.size) : Two W' lo (K ++ [(c, uF, uM)]) u' J v := by
 have h : Two W lo K u J v := h1.below hb nr
 obtain ⟨a1, a2⟩ := h1.a.lt
 obtain ⟨b1, b2⟩ := h1.b.lt
 have f1 : ∀ g, uF.ownBlock = some g → w1.heap.size ≤ g ∧ g < W.heap.size := World.ownsRow.lt hF
 have m1 : ∀ g, uM.ownBlock = some g → w1.heap.size ≤ g ∧ g < W.heap.size := World.ownsRow.lt hM
 have hs := hb.size
 have hun : ∀ g, u.ownBlock = some g → uF.ownBlock ≠ some g ∧ uM.ownBlock ≠ some g := fun g hg => ⟨fun e => by have := a1 g hg; have := f1 g e; omega, fun e => by have := a1 g hg; have := m1 g e; omega⟩
 have hnew : ∀ g, g ∈ ownB uF ++ ownB uM → w1.heap.size ≤ g ∧ g < W.heap.size := fun g hg => by
  rcases List.mem_append.1 hg with hg | hg
  ·exact f1 g (mem_ownB.1 hg)
  ·exact m1 g (mem_ownB.1 hg)
 have hold : ∀ g, g ∈ blkL K ++ blkL J → g < w1.heap.size := fun g hg => by
  rcases List.mem_append.1 hg with hg | hg
  ·exact (a2 g hg).2
  ·exact (b2 g hg).2
 have kp : ∀ (p : CV), p ∈ K ∨ p ∈ J → (RoF W lo p.2.1 p.1.fields ∧ RoM W lo p.2.2 p.1.methods) → RoF W' lo p.2.1 p.1.fields ∧ RoM W' lo p.2.2 p.1.methods := fun p hp hm => by
  have hin : ∀ g, g ∈ ownB p.2.1 ++ ownB p.2.2 → u.ownBlock ≠ some g := fun g hgm e => (h.hu g e).1 (by
   rw [List.mem_append]
   rcases hp with hp | hp
   ·exact .inl (List.mem_flatMap.2 ⟨p, hp, hgm⟩)
   ·exact .inr (List.mem_flatMap.2 ⟨p, hp, hgm⟩))
  exact ⟨own_grown hm.1 hg fun g e => hin g (List.mem_append_left _ (mem_ownB.2 e)), own_grown hm.2 hg fun g e => hin g (List.mem_append_right _ (mem_ownB.2 e))⟩
 have hun' : ∀ g, u'.ownBlock = some g → g ∉ blkL K ++ blkL J ∧ g ∉ ownB uF ++ ownB uM ∧ v.ownBlock ≠ some g := fun g hg' => by
  rcases hat with e | e
  ·rw [e] at hg'
   refine ⟨(h.hu g hg').1, fun hm => ?_, (h.hu g hg').2⟩
   have := a1 g hg'
   have := hnew g hm
   omega
  ·rw [e] at hg'
   obtain rfl : W.heap.size = g := by simpa using hg'
   exact ⟨fun hm => by have := hold _ hm; omega, fun hm => by have := hnew _ hm; omega, fun e2 => by have := b1 _ e2; omega⟩
 have ndn : (ownB uF ++ ownB uM).Nodup := by
  refine List.nodup_append.2 ⟨?_, ?_, fun a ha b hb' e => ?_⟩
  ·unfold ownB; cases uF.ownBlock <;> simp
  ·unfold ownB; cases uM.ownBlock <;> simp
  ·subst e; exact hd a (mem_ownB.1 ha) (mem_ownB.1 hb')
 have nd := List.nodup_append.1 h.nd
 refine ⟨⟨?_, fun p hp => ?_⟩, ⟨own_grown h.b.row hg fun g e e2 => (h.hu g e2).2 e, fun p hp => kp p (.inr hp) (h.b.mem p hp)⟩, ?_, fun g hg' => ⟨fun hm => ?_, (hun' g hg').2.2⟩, fun g hg' hm => ?_⟩
 ·rw [List.length_append, List.flatMap_append]
  simpa using ho
 ·rcases List.mem_append.1 hp with hp | hp
  ·exact kp p (.inl hp) (h.a.mem p hp)
  ·rw [List.mem_singleton.1 hp]
   exact ⟨own_up (own_grown hF hg fun g e e2 => (hun g e2).1 e) fun g e => by have := f1 g e; omega, own_up (own_grown hM hg fun g e e2 => (hun g e2).2 e) fun g e => by have := m1 g e; omega⟩
 ·rw [blkL_push]
  refine List.nodup_append.2 ⟨List.nodup_append.2 ⟨nd.1, ndn, fun a ha b hb' e => ?_⟩, nd.2.1, fun a ha b hb' e => ?_⟩
  ·have := (a2 a ha).2
   have := hnew b hb'
   omega
  ·rcases List.mem_append.1 ha with ha | ha
   ·exact nd.2.2 a ha b hb' e
   ·have := hnew a ha
    have := (b2 b hb').2
    omega
 ·rw [blkL_push] at hm
  have := hun' g hg'
  rcases List.mem_append.1 hm with hm | hm
  ·rcases List.mem_append.1 hm with hm | hm
   ·exact this.1 (List.mem_append_left _ hm)
   ·exact this.2.1 hm
  ·exact this.1 (List.mem_append_right _ hm)
 ·rw [blkL_push] at hm
  have hvo := h.hv g hg'
  rcases List.mem_append.1 hm with hm | hm
  ·rcases List.mem_append.1 hm with hm | hm
   ·exact hvo (List.mem_append_left _ hm)
   ·have := hnew g hm
    have := (b1 g hg').2
    omega
  ·exact hvo (List.mem_append_right _ hm)
/-! ### at the end: as owned data -/
theorem own_flatF : ∀ (l : List FField), (∀ x, x ∈ l → x.plain) → OwnL W (FField.flat l) [] (fvF l)
 | [], _ => OwnL.nil W
 | x :: r, h => by
  have ih := own_flatF r fun y hy => h y (List.mem_cons_of_mem _ hy)
  have hx := h x (List.mem_cons_self ..)
  obtain ⟨a, b, p, ⟨k, n, s, y, l⟩⟩ := x
  obtain rfl : l = [] := hx.2.2.2
  have e1 : FField.flat (⟨a, b, p, ⟨k, n, s, y, []⟩⟩ :: r) = FField.c ⟨a, b, p, ⟨k, n, s, y, []⟩⟩ ++ FField.flat r := List.flatMap_cons
  rw [e1, FField.c_eq, fvF, List.flatMap_cons]
  refine OwnL.consv (OwnL.consv (OwnL.consv (OwnL.consv (OwnL.consv (OwnL.consv (OwnL.consv ?_))))))
  exact OwnL.cons (F1 := []) (OwnC.nil W _ _) ih
theorem own_flatM : ∀ (l : List FMethod), OwnL W (FMethod.flat l) [] (fvM l)
 | [] => OwnL.nil W
 | x :: r => by
  have ih := own_flatM r
  obtain ⟨a, b, p, k, n⟩ := x
  have e1 : FMethod.flat (⟨a, b, p, k, n⟩ :: r) = FMethod.c ⟨a, b, p, k, n⟩ ++ FMethod.flat r := List.flatMap_cons
  rw [e1, FMethod.c_eq, fvM, List.flatMap_cons]
  exact OwnL.consv (OwnL.consv (OwnL.consv (OwnL.consv (OwnL.consv ih))))
theorem own_flatK : ∀ (K : List CV), (∀ p, p ∈ K → PlC p.1 ∧ RoF W lo p.2.1 p.1.fields ∧ RoM W lo p.2.2 p.1.methods) → OwnL W (K.flatMap fun p => p.1.c) (blkL K) (K.flatMap clv)
 | [], _ => OwnL.nil W
 | p :: r, h => by
  have ih := own_flatK r fun y hy => h y (List.mem_cons_of_mem _ hy)
  obtain ⟨h1, h2, h3⟩ := h p (List.mem_cons_self ..)
  obtain ⟨⟨a, b, fs, ms⟩, uF, uM⟩ := p
  rw [List.flatMap_cons, List.flatMap_cons, FClass.c_eq, show blkL ((⟨a, b, fs, ms⟩, uF, uM) :: r) = (ownB uF ++ ownB uM) ++ blkL r from List.flatMap_cons]
  refine OwnL.join _ _ _ _ _ _ ?_ ih
  refine OwnL.consv (OwnL.consv ?_)
  have i1 : OwnC W (.s 79 8 fs.length (FField.flat fs)) (ownB uF) uF := by simpa using OwnC.mk (show W.ownsRow lo 79 8 uF fs.length (fvF fs) from h2) (own_flatF fs h1)
  have i2 : OwnC W (.s 87 5 ms.length (FMethod.flat ms)) (ownB uM) uM := by simpa using OwnC.mk (show W.ownsRow lo 87 5 uM ms.length (fvM ms) from h3) (own_flatM ms)
  exact OwnL.cons i1 (by simpa using OwnL.cons i2 (OwnL.nil W))
theorem Two.ownI (h : Two W lo K u J v) (hp : ∀ p, p ∈ K → PlC p.1) : OwnI W lo W.heap.size [.s 56 4 (K.map Prod.fst).length (FClass.flat (K.map Prod.fst))] [u] := by
 obtain ⟨a1, a2⟩ := h.a.lt
 rw [← map_flat, List.length_map]
 refine ⟨ownB u ++ blkL K, OwnL.one (OwnC.mk h.a.row (own_flatK K fun p hpK => ⟨hp p hpK, h.a.mem p hpK⟩)), List.nodup_append.2 ⟨?_, (List.nodup_append.1 h.nd).1, fun a ha b hb e => ?_⟩, fun b hb => ?_⟩
 ·unfold ownB; cases u.ownBlock <;> simp
 ·subst e
  exact (h.hu a (mem_ownB.1 ha)).1 (List.mem_append_left _ hb)
 ·rcases List.mem_append.1 hb with hb | hb
  ·exact a1 b (mem_ownB.1 hb)
  ·exact a2 b hb
end
end Go.Proofs.YtkkjnfappndmpaaGreatDoor
