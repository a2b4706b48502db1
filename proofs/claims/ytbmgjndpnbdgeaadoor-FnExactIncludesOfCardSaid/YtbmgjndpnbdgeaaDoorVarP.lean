/-
  Which names a tree lists: plain, and rows of strings of one's own. Conditions: none.
-/
import Derived.Test.YtbmgjndpnbdgeaaDoorDataU
import Derived.Test.YtbmgjndpnbdgeaaDoorDeepM
import Derived.Test.YtbmgjndpnbdgeaaDoorSeen
namespace Go.Proofs.YtbmgjndpnbdgeaaDoor
open Go.ChangeShapes Go.WideShapes Go.ChangeAt Go.RowKit Go.Deep Go.Joins
set_option linter.unusedVariables false
set_option linter.unusedSimpArgs false
def isV (k : Int) : Bool := k == 4 || (k == 24 || (k == 25 || (k == 17 || k == 40)))
abbrev thisL : List UInt8 := [116, 104, 105, 115]
def inV (l : List FStr) (s : ByteArray) : Bool := l.any fun y => y.a0.toList == s.toList
def addV (k : Int) (s : ByteArray) (l : List FStr) : List FStr := if (isV k && (!(s.toList == thisL) && !inV l s)) = true then l ++ [⟨s⟩] else l
def FNode.kd : FNode → Int | .mk a0 _ _ _ => a0
mutual
/-- The names of a node behind those that are listed already. -/
def visN : FNode → List FStr → List FStr
  | .mk a0 a1 a2 a3, l => visL (a0 == 23) a3 (addV a0 a2 l)
def visL (cl : Bool) : List FNode → List FStr → List FStr
  | [], l => l
  | x :: r, l => visL cl r (if (!cl || x.kd == 25) = true then visN x l else l)
end
def visQ (z : List FNode) : List FStr := visL false z []
theorem visL_take (cl : Bool) : ∀ (z : List FNode) (l : List FStr) (k : Nat) (x : FNode), z[k]? = some x → visL cl (z.take (k + 1)) l = (if (!cl || x.kd == 25) = true then visN x (visL cl (z.take k) l) else visL cl (z.take k) l)
  | [], l, k, x, h => by simp at h
  | y :: r, l, 0, x, h => by
    obtain rfl : y = x := by simpa using h
    simp [visL]
  | y :: r, l, k + 1, x, h => by
    rw [List.take_succ_cons, List.take_succ_cons, visL, visL]
    exact visL_take cl r _ k x (by simpa using h)
theorem FStr.wts_snoc : ∀ (l : List FStr) (s : ByteArray), FStr.wts (l ++ [⟨s⟩]) = FStr.wts l + s.size
  | [], s => by simp [FStr.wts, FStr.wt]
  | x :: r, s => by rw [List.cons_append, FStr.wts, FStr.wts, FStr.wts_snoc r s]; omega
theorem addV_wt (k : Int) (s : ByteArray) (l : List FStr) : (addV k s l).length + FStr.wts (addV k s l) ≤ l.length + FStr.wts l + 1 + s.size := by
  unfold addV
  split
  · rw [FStr.wts_snoc, List.length_append]; simp; omega
  · omega
mutual
theorem visN_wt : ∀ (x : FNode) (l : List FStr), (visN x l).length + FStr.wts (visN x l) ≤ l.length + FStr.wts l + 1 + x.wt
  | .mk a0 a1 a2 a3, l => by
    rw [visN, FNode.wt_eq]
    have h1 := visL_wt (a0 == 23) a3 (addV a0 a2 l)
    have h2 := addV_wt a0 a2 l
    omega
theorem visL_wt (cl : Bool) : ∀ (z : List FNode) (l : List FStr), (visL cl z l).length + FStr.wts (visL cl z l) ≤ l.length + FStr.wts l + z.length + FNode.wts z
  | [], l => by simp [visL, FNode.wts]
  | x :: r, l => by
    rw [visL, FNode.wts, List.length_cons]
    split
    · have h1 := visL_wt cl r (visN x l)
      have h2 := visN_wt x l
      omega
    · have h1 := visL_wt cl r l
      omega
end
theorem visQ_wt (z : List FNode) (h : z.length + FNode.wts z ≤ 1048576) : (visQ z).length + FStr.wts (visQ z) ≤ 1000000000 := by
  have := visL_wt false z []
  unfold visQ
  simp [FStr.wts] at this
  omega
/-! ### rows of strings -/
def sVals (l : List FStr) : List Value := l.map fun y => .string y.a0
theorem sVals_snoc (l : List FStr) (s : ByteArray) : sVals (l ++ [⟨s⟩]) = sVals l ++ [.string s] := by simp [sVals]
theorem sVals_len (l : List FStr) : (sVals l).length = l.length := by simp [sVals]
theorem sv_own (w : World) (lo hi : Nat) : ∀ l : List FStr, OwnI w lo hi (FStr.flat l) (sVals l)
  | [] => OwnI.nil w lo hi
  | ⟨x⟩ :: r => by
    have e : FStr.flat (⟨x⟩ :: r) = .v (.string x) :: FStr.flat r := by
      show FStr.c ⟨x⟩ ++ _ = _
      rw [FStr.c_eq]
      rfl
    rw [e]
    exact (sv_own w lo hi r).consv _
theorem own_sv {w : World} {base c : Nat} {A : Option Addr} {l : List FStr} (h : w.ownsRow base 9 1 (.slice A l.length c) l.length (sVals l)) (hle : base ≤ w.heap.size) :
    OwnI w base w.heap.size [.s 9 1 l.length (FStr.flat l)] [.slice A l.length c] :=
  OwnI.mk h (sv_own w w.heap.size w.heap.size l) (fun g hg => ⟨(own_lt h g hg).1, (own_lt h g hg).2, .inl (own_lt h g hg).2⟩) hle (Nat.le_refl _)
theorem inV_snoc (l : List FStr) (s t : ByteArray) : inV (l ++ [⟨s⟩]) t = (s.toList == t.toList || inV l t) := by
  unfold inV
  rw [List.any_append]
  simp [Bool.or_comm]
theorem inV_take (l : List FStr) (s : ByteArray) (k : Nat) (y : FStr) (h : l[k]? = some y) : inV (l.take (k + 1)) s = (inV (l.take k) s || y.a0.toList == s.toList) := by
  unfold inV
  rw [List.take_add_one, h, List.any_append]
  simp
theorem sv_cell {w : World} {base c : Nat} {A : Option Addr} {l : List FStr} (h : w.ownsRow base 9 1 (.slice A l.length c) l.length (sVals l)) {k : Nat} {y : FStr} (hk : l[k]? = some y) :
    ∃ g o, A = some ⟨g, o, none⟩ ∧ w.cell? ⟨g, o + k, none⟩ = some (.string y.a0) := by
  have hkl := (List.getElem?_eq_some_iff.1 hk).1
  obtain ⟨A', c', e, _, _, _, hc⟩ := rd_of_own h
  injection e with e1 e2 e3
  subst e1 e3
  obtain ⟨g, o, rfl, _, hcell⟩ := hc (by omega)
  exact ⟨g, o, rfl, hcell k _ (by unfold sVals; rw [List.getElem?_map, hk]; rfl)⟩
theorem sInfoV : (Tryd.prog.info? 9).map (fun i => (i.zero.map Value.cells, i.size, i.bytes)) = some (some #[.string ByteArray.empty], 1, 16) := by kernel_rfl
theorem srd_oneV (w : World) (u : Value) (e : TypeId) : Rd (w.alloc (.cells #[u] e)) (w.heap.size + 1) 1 (.slice (some ⟨w.heap.size, 0, none⟩) 1 1) 1 [u] := by
  refine ⟨_, _, rfl, Nat.le_refl _, by unfold maxLen; omega, rfl, fun _ => ⟨_, _, rfl, by omega, fun j x hx => ?_⟩⟩
  cases j with
  | zero => simpa [World.cell?_alloc_new] using hx
  | succ j => simp at hx
end Go.Proofs.YtbmgjndpnbdgeaaDoor
