/-
  FormatInt of both packages. Conditions: none; the program's needs the table internal/strconv.uint64pow10.
-/
import Derived.Test.YtgbeenieacnanaaDoorTab
import Derived.Test.YtgbeenieacnanaaDoorByt
import Derived.Ground.NamesProg
import Derived.Shelf.Lay
import Derived.Shelf.LaysM
import Derived.Shelf.Strconv.Itoa3
import Derived.Lib.ItoaLen
import Derived.Lib.Walk
namespace Go.Proofs.YtgbeenieacnanaaDoor
open Go.ChangeShapes Go.WideShapes Go.ChangeAt Go.RowKit Go.Deep Go.Joins Go.Shelf
open Go.ChangeMaps (open_string shut_string)
set_option linter.unusedVariables false
set_option linter.unusedSimpArgs false
set_option maxRecDepth 100000
def laysItoa_ren : Go.Shelf.Ren := ⟨fun | 171 => 76 | 243 => 79 | 246 => 85 | 283 => 89 | 284 => 90 | 285 => 91 | 286 => 92 | 129 => 96 | 317 => 95 | 318 => 97 | 319 => 98 | 320 => 99 | 337 => 100 | 338 => 101 | n => n, fun | 3 => 3 | 9 => 9 | 2 => 2 | 4 => 4 | 171 => 112 | 0 => 0 | 53 => 104 | 37 => 84 | 5 => 5 | 173 => 115 | 212 => 124 | 51 => 125 | 20 => 20 | 213 => 126 | 46 => 107 | 232 => 130 | 233 => 131 | n => n, fun | 17 => 2 | 18 => 3 | 19 => 4 | n => n⟩
theorem laysItoa : Go.Proofs.LaysM.n171 Tryd.prog laysItoa_ren := {
  mixed := by kernel_rfl
  f129 := Tryd.func96.trans (congrArg some (by kernel_rfl))
  f171 := Tryd.func76.trans (congrArg some (by kernel_rfl))
  f243 := Tryd.func79.trans (congrArg some (by kernel_rfl))
  f246 := Tryd.func85.trans (congrArg some (by kernel_rfl))
  f283 := Tryd.func89.trans (congrArg some (by kernel_rfl))
  f284 := Tryd.func90.trans (congrArg some (by kernel_rfl))
  f285 := Tryd.func91.trans (congrArg some (by kernel_rfl))
  f286 := Tryd.func92.trans (congrArg some (by kernel_rfl))
  f317 := Tryd.func95.trans (congrArg some (by kernel_rfl))
  f318 := Tryd.func97.trans (congrArg some (by kernel_rfl))
  f319 := Tryd.func98.trans (congrArg some (by kernel_rfl))
  f320 := Tryd.func99.trans (congrArg some (by kernel_rfl))
  f337 := Tryd.func100.trans (congrArg some (by kernel_rfl))
  f338 := Tryd.func101.trans (congrArg some (by kernel_rfl))
  t0 := Tryd.underlying0
  a0 := Tryd.isAgg0
  z0 := Tryd.sizeOf0
  v0 := Tryd.zeroValue0
  t2 := Tryd.underlying2
  a2 := Tryd.isAgg2
  z2 := Tryd.sizeOf2
  v2 := Tryd.zeroValue2
  t3 := Tryd.underlying3
  a3 := Tryd.isAgg3
  z3 := Tryd.sizeOf3
  v3 := Tryd.zeroValue3
  t4 := Tryd.underlying4
  a4 := Tryd.isAgg4
  z4 := Tryd.sizeOf4
  v4 := Tryd.zeroValue4
  t5 := Tryd.underlying5
  a5 := Tryd.isAgg5
  z5 := Tryd.sizeOf5
  v5 := Tryd.zeroValue5
  t9 := Tryd.underlying9
  a9 := Tryd.isAgg9
  z9 := Tryd.sizeOf9
  v9 := Tryd.zeroValue9
  t20 := Tryd.underlying20
  a20 := Tryd.isAgg20
  z20 := Tryd.sizeOf20
  v20 := Tryd.zeroValue20
  t37 := Tryd.underlying84
  a37 := Tryd.isAgg84
  z37 := Tryd.sizeOf84
  v37 := Tryd.zeroValue84
  t46 := Tryd.underlying107
  a46 := Tryd.isAgg107
  z46 := Tryd.sizeOf107
  v46 := Tryd.zeroValue107
  t51 := Tryd.underlying125
  a51 := Tryd.isAgg125
  z51 := Tryd.sizeOf125
  v51 := Tryd.zeroValue125
  t53 := Tryd.underlying104
  a53 := Tryd.isAgg104
  z53 := Tryd.sizeOf104
  v53 := Tryd.zeroValue104
  t171 := Tryd.underlying112
  a171 := Tryd.isAgg112
  z171 := Tryd.sizeOf112
  v171 := Tryd.zeroValue112
  t173 := Tryd.underlying115
  a173 := Tryd.isAgg115
  z173 := Tryd.sizeOf115
  v173 := Tryd.zeroValue115
  t212 := Tryd.underlying124
  a212 := Tryd.isAgg124
  z212 := Tryd.sizeOf124
  v212 := Tryd.zeroValue124
  t213 := Tryd.underlying126
  a213 := Tryd.isAgg126
  z213 := Tryd.sizeOf126
  t232 := Tryd.underlying130
  a232 := Tryd.isAgg130
  z232 := Tryd.sizeOf130
  v232 := Tryd.zeroValue130
  t233 := Tryd.underlying131
  a233 := Tryd.isAgg131
  z233 := Tryd.sizeOf131
  v233 := Tryd.zeroValue131
  g17 := by kernel_rfl
  g18 := by kernel_rfl
  g19 := by kernel_rfl
  i0 := by kernel_rfl
  i2 := by kernel_rfl
  i3 := by kernel_rfl
  i4 := by kernel_rfl
  i5 := by kernel_rfl
  i9 := by kernel_rfl
  i20 := by kernel_rfl
  i37 := by kernel_rfl
  i46 := by kernel_rfl
  i51 := by kernel_rfl
  i53 := by kernel_rfl
  i171 := by kernel_rfl
  i173 := by kernel_rfl
  i212 := by kernel_rfl
  i232 := by kernel_rfl
  i233 := by kernel_rfl
  m17 := by kernel_rfl
  m18 := by kernel_rfl
  m19 := by kernel_rfl }
def itoF (n : Int) : ByteArray := ⟨(Lib.itoa n).toArray⟩
theorem itoF_size (n : Int) (h0 : -9223372036854775808 ≤ n) (h1 : n ≤ 9223372036854775807) : (itoF n).size ≤ 21 := by
  have := Lib.itoa_length_le n h0 h1
  show (Lib.itoa n).toArray.size ≤ _
  simpa using this
theorem below_grewN (w : World) (k : Nat) (os : Array Obj) : Below w.heap.size w (Sort.grow (w.drewN k) os) :=
  ⟨rfl, rfl, rfl, by simp [Sort.grow, World.drewN], fun i hi => by
    show (w.heap ++ os)[i]? = w.heap[i]?
    rw [Array.getElem?_append_left hi]⟩
/-- The digits of u, none for 0. -/
def dig0 (u : Nat) : List UInt8 := if u = 0 then [] else Lib.decDigits u
theorem dig0_step (u : Nat) (h : u ≠ 0) : dig0 u = dig0 (u / 10) ++ [UInt8.ofNat (48 + u % 10)] := by
  unfold dig0
  rw [if_neg h, Lib.decDigits]
  by_cases h1 : u < 10
  · rw [dif_pos h1, if_pos (by omega), Nat.mod_eq_of_lt h1]; rfl
  · rw [dif_neg h1, if_neg (by omega)]
theorem itoF_zero : itoF 0 = ⟨#[48]⟩ := by kernel_rfl
theorem itoF_pos (u : Nat) (h : u ≠ 0) : itoF u = ⟨(dig0 u).toArray⟩ := by
  unfold itoF Lib.itoa dig0
  rw [if_neg (by omega), if_neg h]; rfl
theorem itoF_neg (u : Nat) (h : u ≠ 0) : itoF (-(u : Int)) = ⟨(45 :: dig0 u).toArray⟩ := by
  unfold itoF Lib.itoa dig0
  rw [if_pos (by omega), if_neg h]; congr 3; simp
theorem dig_byte (m : Nat) (h : m < 10) : UInt8.ofNat (((48 + m : Nat) : Int)).toNat = UInt8.ofNat (48 + m) := by congr 1
theorem conv_dig (z : Int) (m : Nat) (hz : z = 48 + (m : Int)) (W : World) : ∃ q : ByteArray, q.data.toList = [UInt8.ofNat (48 + m)] ∧ q.size = 1 ∧ (convert 84 9 (.slice (some ⟨W.heap.size, 0, none⟩) 1 1)).run Tryd.prog (W.alloc (.cells #[.int .u8 z] 5)) = .ok (.string q) (W.alloc (.cells #[.int .u8 z] 5)) :=
  ⟨_, rfl, rfl, conv1 W 84 5 9 Tryd.underlying84 Tryd.underlying5 Tryd.underlying9 _ (UInt8.ofNat (48 + m)) (by congr 1; omega)⟩
theorem dig0_le (u : Nat) (h : u < 18446744073709551616) : (dig0 u).length ≤ 20 := by
  unfold dig0
  split
  · simp
  · rw [Lib.decDigits_length]; exact Lib.nDigits_le20 u h
theorem str_eq {a b : ByteArray} (h : a.data.toList = b.data.toList) : a = b := ByteArray.ext (Array.ext' h)
set_option maxHeartbeats 2000000 in
theorem Fmt_spec_pos (u : Nat) (h1 : u ≤ 9223372036854775807) (hu : u ≠ 0) (w : World) : Calls Tryd.prog 74 #[.int .i64 u] w fun e w' => e = .returned (.string (itoF u)) ∧ Below w.heap.size w w' := by
  have HR := Lib.hid (itoF_pos u hu)
  go_enter Tryd.func74, Tryd.ntmps74
  go_wp2_with fail
  go_loopw [3, 4] (fun v i wr => ∃ (x : Nat) (t : ByteArray), x ≤ u ∧ i = .int .i64 x ∧ v = .string t ∧ dig0 u = dig0 x ++ t.data.toList ∧ Below w.heap.size w wr) (fun _ i _ => (intOf i).natAbs)
  case atStart => exact ⟨u, ByteArray.empty, Nat.le_refl _, rfl, rfl, by show _ = _ ++ []; simp, Below.refl _ _⟩
  case round =>
    obtain ⟨x, t, hx, rfl, rfl, hd, hb⟩ := hrel
    have ht : t.size ≤ 20 := by
      have e1 := dig0_le u (by omega)
      rw [hd, List.length_append] at e1
      have : t.size = t.data.toList.length := by simp
      omega
    have HB := Lib.hid hb
    have HD := Lib.hid hd
    clear hb hd
    by_cases hx0 : x = 0
    · subst hx0
      have HS := Lib.hid (show ∀ y : ByteArray, y.data.toList = t.data.toList → y = itoF u from fun y hy => by
        rw [HR.out]; exact str_eq (by rw [hy, HD.out]; rfl))
      go_wp2_with fail
      go_ret
      exact ⟨ret_str (HS.out _ rfl), HB.out⟩
    · have hm := Nat.mod_lt x (show 10 > 0 by omega)
      obtain ⟨q, hq, hqs, hcv⟩ := conv_dig (48 + (x : Int) % 10) (x % 10) (by omega) wr
      have HQ := Lib.hid hq
      clear hq
      go_wp2_with fail
      go_roundw
      case rel => exact ⟨x / 10, _, by omega, by go_num, rfl, by rw [HD.out, dig0_step x hx0]; simp [HQ.out], (HB.out.alloc HB.out.size _)⟩
      case measure => simp [intOf]; omega
set_option maxHeartbeats 2000000 in
theorem Fmt_spec_neg (u : Nat) (h1 : u ≤ 9223372036854775808) (hu : u ≠ 0) (w : World) : Calls Tryd.prog 74 #[.int .i64 (-(u : Int))] w fun e w' => e = .returned (.string (itoF (-(u : Int)))) ∧ Below w.heap.size w w' := by
  have HR := Lib.hid (itoF_neg u hu)
  go_enter Tryd.func74, Tryd.ntmps74
  go_wp2_with fail
  go_loopw [3, 4] (fun v i wr => ∃ (x : Nat) (t : ByteArray), x ≤ u ∧ i = .int .i64 (-(x : Int)) ∧ v = .string t ∧ dig0 u = dig0 x ++ t.data.toList ∧ Below w.heap.size w wr) (fun _ i _ => (intOf i).natAbs)
  case atStart => exact ⟨u, ByteArray.empty, Nat.le_refl _, rfl, rfl, by show _ = _ ++ []; simp, Below.refl _ _⟩
  case round =>
    obtain ⟨x, t, hx, rfl, rfl, hd, hb⟩ := hrel
    have ht : t.size ≤ 20 := by
      have e1 := dig0_le u (by omega)
      rw [hd, List.length_append] at e1
      have : t.size = t.data.toList.length := by simp
      omega
    have HB := Lib.hid hb
    have HD := Lib.hid hd
    clear hb hd
    by_cases hx0 : x = 0
    · subst hx0
      have HS := Lib.hid (show ∀ y : ByteArray, y.data.toList = 45 :: t.data.toList → y = itoF (-(u : Int)) from fun y hy => by
        rw [HR.out]; exact str_eq (by rw [hy, HD.out]; rfl))
      go_wp2_with fail
      go_ret
      exact ⟨ret_str (HS.out _ (by simp)), HB.out⟩
    · have hm := Nat.mod_lt x (show 10 > 0 by omega)
      by_cases hd0 : x % 10 = 0
      · obtain ⟨q, hq, hqs, hcv⟩ := conv_dig (48 + -((x : Int) % 10)) (x % 10) (by omega) wr
        have HQ := Lib.hid hq
        clear hq
        go_wp2_with fail
        go_roundw
        case rel => exact ⟨x / 10, _, by omega, by go_num, rfl, by rw [HD.out, dig0_step x hx0]; simp [HQ.out], (HB.out.alloc HB.out.size _)⟩
        case measure => simp [intOf]; omega
      · obtain ⟨q, hq, hqs, hcv⟩ := conv_dig (48 + (x : Int) % 10) (x % 10) (by omega) wr
        have HQ := Lib.hid hq
        clear hq
        go_wp2_with fail
        go_roundw
        case rel => exact ⟨x / 10, _, by omega, by go_num, rfl, by rw [HD.out, dig0_step x hx0]; simp [HQ.out], (HB.out.alloc HB.out.size _)⟩
        case measure => simp [intOf]; omega
theorem Fmt_spec (n : Int) (h0 : -9223372036854775808 ≤ n) (h1 : n ≤ 9223372036854775807) (w : World) : Calls Tryd.prog 74 #[.int .i64 n] w fun e w' => e = .returned (.string (itoF n)) ∧ Below w.heap.size w w' := by
  by_cases hz : n = 0
  · subst hz
    rw [itoF_zero]
    go_enter Tryd.func74, Tryd.ntmps74
    go_wp2_with fail
    go_ret
    exact ⟨rfl, Below.refl _ _⟩
  · by_cases hp : 0 ≤ n
    · obtain ⟨u, rfl⟩ : ∃ u : Nat, n = u := ⟨n.toNat, by omega⟩
      exact Fmt_spec_pos u (by omega) (by omega) w
    · obtain ⟨u, rfl⟩ : ∃ u : Nat, n = -(u : Int) := ⟨(-n).toNat, by omega⟩
      exact Fmt_spec_neg u (by omega) (by omega) w
end Go.Proofs.YtgbeenieacnanaaDoor
