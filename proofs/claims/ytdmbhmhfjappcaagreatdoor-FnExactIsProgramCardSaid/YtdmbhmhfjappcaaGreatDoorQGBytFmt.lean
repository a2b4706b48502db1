/-
  Parts of the proof: Byt, Fmt. Conditions: none.
-/
import Derived.Test.YtdmbhmhfjappcaaGreatDoorQGStrName
import Derived.Test.YtdmbhmhfjappcaaGreatDoorQGMemMark
import Derived.Lib.AppendStr
import Derived.Laws.BytesArg
import Derived.Test.YtdmbhmhfjappcaaGreatDoorQGBasePsV
import Derived.Ground.NamesProg
import Derived.Shelf.Lay
import Derived.Shelf.LaysM
import Derived.Shelf.Strconv.Itoa3
import Derived.Lib.ItoaLen
import Derived.Lib.Walk
namespace Go.Proofs.YtdmbhmhfjappcaaGreatDoor
open Go.ChangeShapes Go.WideShapes Go.ChangeAt Go.RowKit Go.Deep Go.Joins
open Go.ChangeMaps (open_string shut_string)
set_option linter.unusedVariables false
set_option linter.unusedSimpArgs false
set_option maxRecDepth 100000
def escL (f : UInt8 → List UInt8) (s : ByteArray) (k : Nat) : List UInt8 := (s.data.toList.take k).flatMap f
theorem escL_zero (f : UInt8 → List UInt8) (s : ByteArray) : escL f s 0 = [] := by simp [escL]
theorem escL_succ (f : UInt8 → List UInt8) (s : ByteArray) (k : Nat) (h : k < s.size) : escL f s (k + 1) = escL f s k ++ f s[k] := by
  unfold escL
  rw [List.take_add_one, List.flatMap_append, List.getElem?_eq_getElem (by simpa using h)]
  simp
  rfl
theorem escL_le {f : UInt8 → List UInt8} (hf : ∀ c, (f c).length ≤ 6) (s : ByteArray) (k : Nat) : (escL f s k).length ≤ 6 * k := by
  induction k with
  | zero => simp [escL_zero]
  | succ k ih =>
    by_cases h : k < s.size
    · rw [escL_succ f s k h, List.length_append]
      have := hf s[k]
      omega
    · have : escL f s (k + 1) = escL f s k := by
        unfold escL
        rw [List.take_of_length_le (by simp; have : s.data.size = s.size := rfl; omega), List.take_of_length_le (by simp; have : s.data.size = s.size := rfl; omega)]
      rw [this]; omega
/-- Bytes as cells. -/
def bCells (l : List UInt8) : List Value := l.map fun b => Value.int .u8 b.toNat
theorem bCells_append (a b : List UInt8) : bCells (a ++ b) = bCells a ++ bCells b := List.map_append
theorem bCells_len (l : List UInt8) : (bCells l).length = l.length := List.length_map _
theorem bCells_one (l : List UInt8) : ∀ u ∈ bCells l, u.oneCell' = true := by
  intro u hu
  simp only [bCells, List.mem_map] at hu
  obtain ⟨b, _, rfl⟩ := hu
  rfl
theorem strCells_b (l : List UInt8) : Lib.strCells ⟨l.toArray⟩ = bCells l := by simp [Lib.strCells, bCells]
theorem strOfNums_b (l : List UInt8) : strOfNums (l.map fun b => (b.toNat : Int)) = ⟨l.toArray⟩ := by
  unfold strOfNums
  congr 1
  apply Array.ext'
  simp only [List.map_map]
  refine (List.map_congr_left (g := id) fun b _ => ?_).trans (List.map_id _)
  simp
/-- A string of the bytes of an owned row. -/
theorem conv_own {w : World} {base n c : Nat} {A : Option Addr} {l : List UInt8} (src e dst : TypeId) (P : Program) (hs : P.underlying src = some (.slice e)) (he : P.underlying e = some (.int .u8)) (hd : P.underlying dst = some .string)
    (h : w.ownsRow base e 1 (.slice A n c) n (bCells l)) : (convert src dst (.slice A n c)).run P w = .ok (.string ⟨l.toArray⟩) w := by
  have hl : l.length = n := by have := h.1; rw [bCells_len] at this; omega
  rcases own_row h with ⟨hv, h0, hx⟩ | ⟨g, cap, f, hv, hg, hn, hc, hrow, hf⟩
  · cases hv
    have : l = [] := List.eq_nil_of_length_eq_zero (by omega)
    subst this
    exact run_convert_bytes_nil (P := P) w src e hs he _ _ dst hd
  · injection hv with e1 e2 e3
    subst e1 e3
    rw [← strOfNums_b]
    refine run_convert_bytes_arg (P := P) w src e hs he g 0 n c (l.map fun b => (b.toNat : Int)) (by simpa using hl) (fun i hi => ?_) dst hd
    rw [Nat.zero_add, hrow.cell (by omega), ← hf i (by omega)]
    unfold bCells
    rw [List.getElem?_map, List.getElem?_eq_getElem (by omega), List.getD_eq_getElem?_getD, List.getElem?_map, List.getElem?_eq_getElem (by omega)]
    rfl


theorem infoU8 : (Tryz.prog.info? 5).map (fun i => (i.zero.map Value.cells, i.size, i.bytes)) = some (some #[.int .u8 0], 1, 1) := by kernel_rfl
theorem rdb_new (w : World) (e : TypeId) (l : List Value) (n : Nat) (hn : l.length = n) (hm : n ≤ maxLen) : Rd (w.alloc (.cells l.toArray e)) (w.heap.size + 1) 1 (.slice (some ⟨w.heap.size, 0, none⟩) n n) n l := by
  refine ⟨_, _, rfl, Nat.le_refl _, hm, by omega, fun _ => ⟨_, _, rfl, by omega, fun j u hu => ?_⟩⟩
  rw [Nat.zero_add, World.cell?_alloc_new]
  simpa using hu
theorem own_lit (w : World) (e : TypeId) (l : List Value) (n : Nat) (hn : l.length = n) (hm : n ≤ maxLen) : (w.alloc (.cells l.toArray e)).ownsRow w.heap.size e 1 (.slice (some ⟨w.heap.size, 0, none⟩) n n) n l := by
  subst hn
  exact ⟨by simp, .inr ⟨w.heap.size, _, _, rfl, Nat.le_refl _, heap_alloc_new w _, Nat.le_refl _, hm, by simp, by simp⟩⟩
/-- What a text between quotes reads: a quote or a backslash has a backslash ahead of it. -/
def quo (c : UInt8) : List UInt8 := if c = 39 ∨ c = 92 then [92, c] else [c]
theorem quo_le (c : UInt8) : (quo c).length ≤ 6 := by unfold quo; split <;> simp
def quoL (s : ByteArray) : List UInt8 := (39 :: escL quo s s.size) ++ [39]
def quoF (s : ByteArray) : ByteArray := ⟨(quoL s).toArray⟩
theorem quoF_size (s : ByteArray) : (quoF s).size ≤ 6 * s.size + 2 := by
  have := escL_le quo_le s s.size
  show (quoL s).toArray.size ≤ _
  unfold quoL
  simp
  omega
theorem u8_eq (c : UInt8) (n : Nat) (hn : n < 256) : ((c.toNat : Int) == (n : Int)) = decide (c = UInt8.ofNat n) := by
  have : ((c.toNat : Int) = (n : Int)) ↔ c = UInt8.ofNat n := by
    constructor
    · intro h
      have h' : c.toNat = n := by omega
      rw [← h']; simp
    · rintro rfl
      simp [Nat.mod_eq_of_lt hn]
  by_cases h : c = UInt8.ofNat n
  · rw [decide_eq_true h, beq_iff_eq]; exact this.2 h
  · rw [decide_eq_false h, beq_eq_false_iff_ne]; exact fun e => h (this.1 e)
end Go.Proofs.YtdmbhmhfjappcaaGreatDoor
namespace Go.Proofs.YtdmbhmhfjappcaaGreatDoor
open Go.ChangeShapes Go.WideShapes Go.ChangeAt Go.RowKit Go.Deep Go.Joins Go.Shelf
open Go.ChangeMaps (open_string shut_string)
set_option linter.unusedVariables false
set_option linter.unusedSimpArgs false
set_option maxRecDepth 100000
def laysItoa_ren : Go.Shelf.Ren := ⟨fun | 171 => 115 | 243 => 121 | 246 => 130 | 283 => 135 | 284 => 136 | 285 => 137 | 286 => 138 | 129 => 142 | 317 => 141 | 318 => 143 | 319 => 144 | 320 => 145 | 337 => 146 | 338 => 147 | n => n, fun | 3 => 3 | 9 => 9 | 2 => 2 | 4 => 4 | 171 => 184 | 0 => 0 | 53 => 176 | 37 => 162 | 5 => 5 | 173 => 187 | 212 => 195 | 51 => 196 | 20 => 20 | 213 => 197 | 46 => 179 | 232 => 200 | 233 => 201 | n => n, fun | 17 => 2 | 18 => 3 | 19 => 4 | n => n⟩
theorem laysItoa : Go.Proofs.LaysM.n171 Tryz.prog laysItoa_ren := {
  mixed := by kernel_rfl
  f129 := Tryz.func142.trans (congrArg some (by kernel_rfl))
  f171 := Tryz.func115.trans (congrArg some (by kernel_rfl))
  f243 := Tryz.func121.trans (congrArg some (by kernel_rfl))
  f246 := Tryz.func130.trans (congrArg some (by kernel_rfl))
  f283 := Tryz.func135.trans (congrArg some (by kernel_rfl))
  f284 := Tryz.func136.trans (congrArg some (by kernel_rfl))
  f285 := Tryz.func137.trans (congrArg some (by kernel_rfl))
  f286 := Tryz.func138.trans (congrArg some (by kernel_rfl))
  f317 := Tryz.func141.trans (congrArg some (by kernel_rfl))
  f318 := Tryz.func143.trans (congrArg some (by kernel_rfl))
  f319 := Tryz.func144.trans (congrArg some (by kernel_rfl))
  f320 := Tryz.func145.trans (congrArg some (by kernel_rfl))
  f337 := Tryz.func146.trans (congrArg some (by kernel_rfl))
  f338 := Tryz.func147.trans (congrArg some (by kernel_rfl))
  t0 := Tryz.underlying0
  a0 := Tryz.isAgg0
  z0 := Tryz.sizeOf0
  v0 := Tryz.zeroValue0
  t2 := Tryz.underlying2
  a2 := Tryz.isAgg2
  z2 := Tryz.sizeOf2
  v2 := Tryz.zeroValue2
  t3 := Tryz.underlying3
  a3 := Tryz.isAgg3
  z3 := Tryz.sizeOf3
  v3 := Tryz.zeroValue3
  t4 := Tryz.underlying4
  a4 := Tryz.isAgg4
  z4 := Tryz.sizeOf4
  v4 := Tryz.zeroValue4
  t5 := Tryz.underlying5
  a5 := Tryz.isAgg5
  z5 := Tryz.sizeOf5
  v5 := Tryz.zeroValue5
  t9 := Tryz.underlying9
  a9 := Tryz.isAgg9
  z9 := Tryz.sizeOf9
  v9 := Tryz.zeroValue9
  t20 := Tryz.underlying20
  a20 := Tryz.isAgg20
  z20 := Tryz.sizeOf20
  v20 := Tryz.zeroValue20
  t37 := Tryz.underlying162
  a37 := Tryz.isAgg162
  z37 := Tryz.sizeOf162
  v37 := Tryz.zeroValue162
  t46 := Tryz.underlying179
  a46 := Tryz.isAgg179
  z46 := Tryz.sizeOf179
  v46 := Tryz.zeroValue179
  t51 := Tryz.underlying196
  a51 := Tryz.isAgg196
  z51 := Tryz.sizeOf196
  v51 := Tryz.zeroValue196
  t53 := Tryz.underlying176
  a53 := Tryz.isAgg176
  z53 := Tryz.sizeOf176
  v53 := Tryz.zeroValue176
  t171 := Tryz.underlying184
  a171 := Tryz.isAgg184
  z171 := Tryz.sizeOf184
  v171 := Tryz.zeroValue184
  t173 := Tryz.underlying187
  a173 := Tryz.isAgg187
  z173 := Tryz.sizeOf187
  v173 := Tryz.zeroValue187
  t212 := Tryz.underlying195
  a212 := Tryz.isAgg195
  z212 := Tryz.sizeOf195
  v212 := Tryz.zeroValue195
  t213 := Tryz.underlying197
  a213 := Tryz.isAgg197
  z213 := Tryz.sizeOf197
  t232 := Tryz.underlying200
  a232 := Tryz.isAgg200
  z232 := Tryz.sizeOf200
  v232 := Tryz.zeroValue200
  t233 := Tryz.underlying201
  a233 := Tryz.isAgg201
  z233 := Tryz.sizeOf201
  v233 := Tryz.zeroValue201
  g17 := by kernel_rfl
  g18 := by kernel_rfl
  g19 := by kernel_rfl
  i0 := by kernel_rfl
  i2 := by kernel_rfl
  i3 := by kernel_rfl
  i4 := by kernel_rfl
  i5 := by kernel_rfl
  i9 := by kernel_rfl
  i20 := by kernel_rfl
  i37 := by kernel_rfl
  i46 := by kernel_rfl
  i51 := by kernel_rfl
  i53 := by kernel_rfl
  i171 := by kernel_rfl
  i173 := by kernel_rfl
  i212 := by kernel_rfl
  i232 := by kernel_rfl
  i233 := by kernel_rfl
  m17 := by kernel_rfl
  m18 := by kernel_rfl
  m19 := by kernel_rfl }
def itoF (n : Int) : ByteArray := ⟨(Lib.itoa n).toArray⟩
theorem itoF_size (n : Int) (h0 : -9223372036854775808 ≤ n) (h1 : n ≤ 9223372036854775807) : (itoF n).size ≤ 21 := by
  have := Lib.itoa_length_le n h0 h1
  show (Lib.itoa n).toArray.size ≤ _
  simpa using this
theorem below_grewN (w : World) (k : Nat) (os : Array Obj) : Below w.heap.size w (Sort.grow (w.drewN k) os) :=
  ⟨rfl, rfl, rfl, by simp [Sort.grow, World.drewN], fun i hi => by
    show (w.heap ++ os)[i]? = w.heap[i]?
    rw [Array.getElem?_append_left hi]⟩
/-- The digits of u, none for 0. -/
def dig0 (u : Nat) : List UInt8 := if u = 0 then [] else Lib.decDigits u
theorem dig0_step (u : Nat) (h : u ≠ 0) : dig0 u = dig0 (u / 10) ++ [UInt8.ofNat (48 + u % 10)] := by
  unfold dig0
  rw [if_neg h, Lib.decDigits]
  by_cases h1 : u < 10
  · rw [dif_pos h1, if_pos (by omega), Nat.mod_eq_of_lt h1]; rfl
  · rw [dif_neg h1, if_neg (by omega)]
theorem itoF_zero : itoF 0 = ⟨#[48]⟩ := by kernel_rfl
theorem itoF_pos (u : Nat) (h : u ≠ 0) : itoF u = ⟨(dig0 u).toArray⟩ := by
  unfold itoF Lib.itoa dig0
  rw [if_neg (by omega), if_neg h]; rfl
theorem itoF_neg (u : Nat) (h : u ≠ 0) : itoF (-(u : Int)) = ⟨(45 :: dig0 u).toArray⟩ := by
  unfold itoF Lib.itoa dig0
  rw [if_pos (by omega), if_neg h]; congr 3; simp
theorem dig_byte (m : Nat) (h : m < 10) : UInt8.ofNat (((48 + m : Nat) : Int)).toNat = UInt8.ofNat (48 + m) := by congr 1
theorem conv_dig (z : Int) (m : Nat) (hz : z = 48 + (m : Int)) (W : World) : ∃ q : ByteArray, q.data.toList = [UInt8.ofNat (48 + m)] ∧ q.size = 1 ∧ (convert 162 9 (.slice (some ⟨W.heap.size, 0, none⟩) 1 1)).run Tryz.prog (W.alloc (.cells #[.int .u8 z] 5)) = .ok (.string q) (W.alloc (.cells #[.int .u8 z] 5)) :=
  ⟨_, rfl, rfl, conv1 W 162 5 9 Tryz.underlying162 Tryz.underlying5 Tryz.underlying9 _ (UInt8.ofNat (48 + m)) (by congr 1; omega)⟩
theorem dig0_le (u : Nat) (h : u < 18446744073709551616) : (dig0 u).length ≤ 20 := by
  unfold dig0
  split
  · simp
  · rw [Lib.decDigits_length]; exact Lib.nDigits_le20 u h
theorem str_eq {a b : ByteArray} (h : a.data.toList = b.data.toList) : a = b := ByteArray.ext (Array.ext' h)
set_option maxHeartbeats 2000000 in
theorem Fmt_spec_pos (u : Nat) (h1 : u ≤ 9223372036854775807) (hu : u ≠ 0) (w : World) : Calls Tryz.prog 112 #[.int .i64 u] w fun e w' => e = .returned (.string (itoF u)) ∧ Below w.heap.size w w' := by
  have HR := Lib.hid (itoF_pos u hu)
  go_enter Tryz.func112, Tryz.ntmps112
  go_wp2_with fail
  go_loopw [3, 4] (fun v i wr => ∃ (x : Nat) (t : ByteArray), x ≤ u ∧ i = .int .i64 x ∧ v = .string t ∧ dig0 u = dig0 x ++ t.data.toList ∧ Below w.heap.size w wr) (fun _ i _ => (intOf i).natAbs)
  case atStart => exact ⟨u, ByteArray.empty, Nat.le_refl _, rfl, rfl, by show _ = _ ++ []; simp, Below.refl _ _⟩
  case round =>
    obtain ⟨x, t, hx, rfl, rfl, hd, hb⟩ := hrel
    have ht : t.size ≤ 20 := by
      have e1 := dig0_le u (by omega)
      rw [hd, List.length_append] at e1
      have : t.size = t.data.toList.length := by simp
      omega
    have HB := Lib.hid hb
    have HD := Lib.hid hd
    clear hb hd
    by_cases hx0 : x = 0
    · subst hx0
      have HS := Lib.hid (show ∀ y : ByteArray, y.data.toList = t.data.toList → y = itoF u from fun y hy => by
        rw [HR.out]; exact str_eq (by rw [hy, HD.out]; rfl))
      go_wp2_with fail
      go_ret
      exact ⟨ret_str (HS.out _ rfl), HB.out⟩
    · have hm := Nat.mod_lt x (show 10 > 0 by omega)
      obtain ⟨q, hq, hqs, hcv⟩ := conv_dig (48 + (x : Int) % 10) (x % 10) (by omega) wr
      have HQ := Lib.hid hq
      clear hq
      go_wp2_with fail
      go_roundw
      case rel => exact ⟨x / 10, _, by omega, by go_num, rfl, by rw [HD.out, dig0_step x hx0]; simp [HQ.out], (HB.out.alloc HB.out.size _)⟩
      case measure => simp [intOf]; omega
set_option maxHeartbeats 2000000 in
theorem Fmt_spec_neg (u : Nat) (h1 : u ≤ 9223372036854775808) (hu : u ≠ 0) (w : World) : Calls Tryz.prog 112 #[.int .i64 (-(u : Int))] w fun e w' => e = .returned (.string (itoF (-(u : Int)))) ∧ Below w.heap.size w w' := by
  have HR := Lib.hid (itoF_neg u hu)
  go_enter Tryz.func112, Tryz.ntmps112
  go_wp2_with fail
  go_loopw [3, 4] (fun v i wr => ∃ (x : Nat) (t : ByteArray), x ≤ u ∧ i = .int .i64 (-(x : Int)) ∧ v = .string t ∧ dig0 u = dig0 x ++ t.data.toList ∧ Below w.heap.size w wr) (fun _ i _ => (intOf i).natAbs)
  case atStart => exact ⟨u, ByteArray.empty, Nat.le_refl _, rfl, rfl, by show _ = _ ++ []; simp, Below.refl _ _⟩
  case round =>
    obtain ⟨x, t, hx, rfl, rfl, hd, hb⟩ := hrel
    have ht : t.size ≤ 20 := by
      have e1 := dig0_le u (by omega)
      rw [hd, List.length_append] at e1
      have : t.size = t.data.toList.length := by simp
      omega
    have HB := Lib.hid hb
    have HD := Lib.hid hd
    clear hb hd
    by_cases hx0 : x = 0
    · subst hx0
      have HS := Lib.hid (show ∀ y : ByteArray, y.data.toList = 45 :: t.data.toList → y = itoF (-(u : Int)) from fun y hy => by
        rw [HR.out]; exact str_eq (by rw [hy, HD.out]; rfl))
      go_wp2_with fail
      go_ret
      exact ⟨ret_str (HS.out _ (by simp)), HB.out⟩
    · have hm := Nat.mod_lt x (show 10 > 0 by omega)
      by_cases hd0 : x % 10 = 0
      · obtain ⟨q, hq, hqs, hcv⟩ := conv_dig (48 + -((x : Int) % 10)) (x % 10) (by omega) wr
        have HQ := Lib.hid hq
        clear hq
        go_wp2_with fail
        go_roundw
        case rel => exact ⟨x / 10, _, by omega, by go_num, rfl, by rw [HD.out, dig0_step x hx0]; simp [HQ.out], (HB.out.alloc HB.out.size _)⟩
        case measure => simp [intOf]; omega
      · obtain ⟨q, hq, hqs, hcv⟩ := conv_dig (48 + (x : Int) % 10) (x % 10) (by omega) wr
        have HQ := Lib.hid hq
        clear hq
        go_wp2_with fail
        go_roundw
        case rel => exact ⟨x / 10, _, by omega, by go_num, rfl, by rw [HD.out, dig0_step x hx0]; simp [HQ.out], (HB.out.alloc HB.out.size _)⟩
        case measure => simp [intOf]; omega
theorem Fmt_spec (n : Int) (h0 : -9223372036854775808 ≤ n) (h1 : n ≤ 9223372036854775807) (w : World) : Calls Tryz.prog 112 #[.int .i64 n] w fun e w' => e = .returned (.string (itoF n)) ∧ Below w.heap.size w w' := by
  by_cases hz : n = 0
  · subst hz
    rw [itoF_zero]
    go_enter Tryz.func112, Tryz.ntmps112
    go_wp2_with fail
    go_ret
    exact ⟨rfl, Below.refl _ _⟩
  · by_cases hp : 0 ≤ n
    · obtain ⟨u, rfl⟩ : ∃ u : Nat, n = u := ⟨n.toNat, by omega⟩
      exact Fmt_spec_pos u (by omega) (by omega) w
    · obtain ⟨u, rfl⟩ : ∃ u : Nat, n = -(u : Int) := ⟨(-n).toNat, by omega⟩
      exact Fmt_spec_neg u (by omega) (by omega) w
end Go.Proofs.YtdmbhmhfjappcaaGreatDoor
