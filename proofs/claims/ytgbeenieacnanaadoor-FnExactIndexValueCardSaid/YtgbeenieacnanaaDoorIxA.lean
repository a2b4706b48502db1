/-
  TextKey, KeyOf, FindKey and what they call. Conditions: none: the listed variables.
-/
import Derived.Test.YtgbeenieacnanaaDoorIxP
import Derived.Test.YtgbeenieacnanaaDoorIvI
import Derived.Test.YtgbeenieacnanaaDoorIvS
namespace Go.Proofs.YtgbeenieacnanaaDoor
open Go.ChangeShapes Go.WideShapes Go.ChangeAt Go.RowKit Go.Deep Go.Joins
open Go.ChangeMaps (open_string shut_string)
set_option linter.unusedVariables false
set_option linter.unusedSimpArgs false
set_option maxRecDepth 100000
theorem null_impl (w : World) : Calls Tryd.prog 24 #[] w fun e w' => e = .returned (.agg #[.int .i64 0, .int .i64 0, .string ⟨#[]⟩, .int .i64 0, .slice none 0 0]) ∧ Below w.heap.size w w' := by
  have HB := Lib.hid ((Below.refl w.heap.size w).alloc (Nat.le_refl _) (.cells #[.int .i64 0, .int .i64 0, .string ⟨#[]⟩, .int .i64 0, .slice none 0 0] 28))
  have bk := Blk.new w 28 #[.int .i64 0, .int .i64 0, .string ⟨#[]⟩, .int .i64 0, .slice none 0 0]
  have bk0 := bk.cell 0
  have bk1 := bk.cell 1
  have bk2 := bk.cell 2
  have bk3 := bk.cell 3
  have bk4 := bk.cell 4
  have bkl := bk.lt
  go_enter Tryd.func24, Tryd.ntmps24
  go_wp2_with fail
  refine bodyPost_ret (v := .agg #[.int .i64 0, .int .i64 0, .string ⟨#[]⟩, .int .i64 0, .slice none 0 0]) (by simp [results, Tryd.results24, go_sem, bk0, bk1, bk2, bk3, bk4, bkl]) rfl ⟨rfl, HB.out⟩
theorem text_impl (s : ByteArray) (w : World) : Calls Tryd.prog 28 #[.string s] w fun e w' => e = .returned (.agg #[.int .i64 3, .int .i64 0, .string s, .int .i64 0, .slice none 0 0]) ∧ Below w.heap.size w w' := by
  have HB := Lib.hid ((Below.refl w.heap.size w).alloc (Nat.le_refl _) (.cells #[.int .i64 3, .int .i64 0, .string s, .int .i64 0, .slice none 0 0] 28))
  have bk := Blk.new w 28 #[.int .i64 3, .int .i64 0, .string s, .int .i64 0, .slice none 0 0]
  have bk0 := bk.cell 0
  have bk1 := bk.cell 1
  have bk2 := bk.cell 2
  have bk3 := bk.cell 3
  have bk4 := bk.cell 4
  have bkl := bk.lt
  go_enter Tryd.func28, Tryd.ntmps28
  go_wp2_with fail
  refine bodyPost_ret (v := .agg #[.int .i64 3, .int .i64 0, .string s, .int .i64 0, .slice none 0 0]) (by simp [results, Tryd.results28, go_sem, bk0, bk1, bk2, bk3, bk4, bkl]) rfl ⟨rfl, HB.out⟩
theorem text_spec (s : ByteArray) (w : World) : Calls Tryd.prog 22 #[.string s] w fun e w' => e = .returned (.agg #[.int .i64 3, .int .i64 0, .string s, .int .i64 0, .slice none 0 0]) ∧ Below w.heap.size w w' := by
  have HB := Lib.hid ((Below.refl w.heap.size w).alloc (Nat.le_refl _) (.cells #[.int .i64 3, .int .i64 0, .string s, .int .i64 0, .slice none 0 0] 28))
  have bk := Blk.new w 28 #[.int .i64 3, .int .i64 0, .string s, .int .i64 0, .slice none 0 0]
  have bk0 := bk.cell 0
  have bk1 := bk.cell 1
  have bk2 := bk.cell 2
  have bk3 := bk.cell 3
  have bk4 := bk.cell 4
  have bkl := bk.lt
  go_enter Tryd.func22, Tryd.ntmps22
  go_wp2_with fail
  refine bodyPost_ret (v := .agg #[.int .i64 3, .int .i64 0, .string s, .int .i64 0, .slice none 0 0]) (by simp [results, Tryd.results22, go_sem, bk0, bk1, bk2, bk3, bk4, bkl]) rfl ⟨rfl, HB.out⟩
theorem ik_impl (n : Int) (w : World) : Calls Tryd.prog 45 #[.int .i64 n] w fun e w' => e = .returned (.agg #[.bool false, .int .i64 n, .string ⟨#[]⟩]) ∧ Below w.heap.size w w' := by
  have HB := Lib.hid ((Below.refl w.heap.size w).alloc (Nat.le_refl _) (.cells #[.bool false, .int .i64 n, .string ⟨#[]⟩] 44))
  have bk := Blk.new w 44 #[.bool false, .int .i64 n, .string ⟨#[]⟩]
  have bk0 := bk.cell 0
  have bk1 := bk.cell 1
  have bk2 := bk.cell 2
  have bkl := bk.lt
  go_enter Tryd.func45, Tryd.ntmps45
  go_wp2_with fail
  refine bodyPost_ret (v := .agg #[.bool false, .int .i64 n, .string ⟨#[]⟩]) (by simp [results, Tryd.results45, go_sem, bk0, bk1, bk2, bkl]) rfl ⟨rfl, HB.out⟩
set_option maxHeartbeats 1000000 in
theorem tk_impl (s : ByteArray) (w : World) (hV : TabV w) : Calls Tryd.prog 46 #[.string s] w fun e w' => e = .returned (.agg #[.bool (tkF s).a0, .int .i64 (tkF s).a1, .string (tkF s).a2]) ∧ Below w.heap.size w w' := by
  have HP := Lib.hid (fun W hb => ps_impl s W (hV.below hb))
  clear hV
  have HB := Lib.hid ((Below.refl w.heap.size w).alloc (Nat.le_refl _) (.cells #[.bool false, .int .i64 0, .string ⟨#[]⟩] 44))
  have b0 := Lib.hid (Blk.new w 44 #[.bool false, .int .i64 0, .string ⟨#[]⟩])
  have HT := tkF.eq_1 s
  generalize hq : psF s = q at *
  clear hq
  cases q with
  | some n =>
    dsimp only at HT
    rw [HT]
    go_enter Tryd.func46, Tryd.ntmps46
    go_wp2_with (first | (go_at_call 62; refine (HP.out _ HB.out).mono ?_; rintro e w1 ⟨rfl, hb1⟩; have b1 := Lib.hid (b0.out.below hb1 (Nat.le_refl _)); have b1l := b1.out.lt; have b1f := fun i => b1.out.frozen i; have c10 := b1.out.cell 0; have c11 := b1.out.cell 1; have c12 := b1.out.cell 2) | (go_at_call 45; refine (ik_impl n _).mono ?_; rintro e w2 ⟨rfl, hb2⟩; have b2 := Lib.hid (b1.out.below hb2 (Nat.le_refl _)); have b2l := b2.out.lt; have b2f := fun i => b2.out.frozen i; have c20 := b2.out.cell 0; have c21 := b2.out.cell 1; have c22 := b2.out.cell 2))
    refine bodyPost_ret (v := .agg #[.bool false, .int .i64 n, .string ⟨#[]⟩]) (by simp [results, Tryd.results46, go_sem, c20, c21, c22, b2l, b2f]) rfl ⟨rfl, ?_⟩
    repeat (refine Below.setCell ?_ (by simp) _)
    exact (HB.out.trans (hb1.mono HB.out.size)).trans (hb2.mono (Nat.le_trans HB.out.size hb1.size))
  | none =>
    dsimp only at HT
    rw [HT]
    go_enter Tryd.func46, Tryd.ntmps46
    go_wp2_with (first | (go_at_call 62; refine (HP.out _ HB.out).mono ?_; rintro e w1 ⟨rfl, hb1⟩; have b1 := Lib.hid (b0.out.below hb1 (Nat.le_refl _)); have b1l := b1.out.lt; have b1f := fun i => b1.out.frozen i; have c10 := b1.out.cell 0; have c11 := b1.out.cell 1; have c12 := b1.out.cell 2))
    refine bodyPost_ret (v := .agg #[.bool true, .int .i64 0, .string s]) (by simp [results, Tryd.results46, go_sem, c10, c11, c12, b1l, b1f]) rfl ⟨rfl, ?_⟩
    repeat (refine Below.setCell ?_ (by simp) _)
    exact HB.out.trans (hb1.mono HB.out.size)
set_option maxHeartbeats 1000000 in
theorem tk_spec (s : ByteArray) (w : World) (hs : s.size ≤ 9223372036854775807) : Calls Tryd.prog 42 #[.string s] w fun e w' => e = .returned (.agg #[.bool (tkF s).a0, .int .i64 (tkF s).a1, .string (tkF s).a2]) ∧ Below w.heap.size w w' := by
  have HP := Lib.hid (fun W (hb : Below w.heap.size w W) => ps_spec s W hs)
  have HB := Lib.hid ((Below.refl w.heap.size w).alloc (Nat.le_refl _) (.cells #[.bool false, .int .i64 0, .string ⟨#[]⟩] 44))
  have b0 := Lib.hid (Blk.new w 44 #[.bool false, .int .i64 0, .string ⟨#[]⟩])
  have HT := tkF.eq_1 s
  generalize hq : psF s = q at *
  clear hq
  cases q with
  | some n =>
    dsimp only at HT
    rw [HT]
    go_enter Tryd.func42, Tryd.ntmps42
    go_wp2_with (first | (go_at_call 60; refine (HP.out _ HB.out).mono ?_; rintro e w1 ⟨rfl, hb1⟩; have b1 := Lib.hid (b0.out.below hb1 (Nat.le_refl _)); have b1l := b1.out.lt; have b1f := fun i => b1.out.frozen i; have c10 := b1.out.cell 0; have c11 := b1.out.cell 1; have c12 := b1.out.cell 2))
    refine bodyPost_ret (v := .agg #[.bool false, .int .i64 n, .string ⟨#[]⟩]) (by simp [results, Tryd.results42, go_sem, c10, c11, c12, b1l, b1f]) rfl ⟨rfl, ?_⟩
    repeat (refine Below.setCell ?_ (by simp) _)
    exact HB.out.trans (hb1.mono HB.out.size)
  | none =>
    dsimp only at HT
    rw [HT]
    go_enter Tryd.func42, Tryd.ntmps42
    go_wp2_with (first | (go_at_call 60; refine (HP.out _ HB.out).mono ?_; rintro e w1 ⟨rfl, hb1⟩; have b1 := Lib.hid (b0.out.below hb1 (Nat.le_refl _)); have b1l := b1.out.lt; have b1f := fun i => b1.out.frozen i; have c10 := b1.out.cell 0; have c11 := b1.out.cell 1; have c12 := b1.out.cell 2))
    refine bodyPost_ret (v := .agg #[.bool true, .int .i64 0, .string s]) (by simp [results, Tryd.results42, go_sem, c10, c11, c12, b1l, b1f]) rfl ⟨rfl, ?_⟩
    repeat (refine Below.setCell ?_ (by simp) _)
    exact HB.out.trans (hb1.mono HB.out.size)
set_option maxHeartbeats 1000000 in
theorem ko_impl (z0 z1 : Int) (z2 : ByteArray) (z3 : Int) (A : Option Addr) (m c : Nat) (hs : z2.size ≤ 9223372036854775807) (w : World) (hV : TabV w) : Calls Tryd.prog 25 #[.agg #[.int .i64 z0, .int .i64 z1, .string z2, .int .i64 z3, .slice A m c]] w fun e w' => e = .returned (.tuple #[.agg #[.bool (koK z0 z1 z2).a0, .int .i64 (koK z0 z1 z2).a1, .string (koK z0 z1 z2).a2], .bool (koB z0 z1 z2)]) ∧ Below w.heap.size w w' := by
  have HB0 := Lib.hid ((Below.refl w.heap.size w).alloc (Nat.le_refl _) (.cells #[.int .i64 z0, .int .i64 z1, .string z2, .int .i64 z3, .slice A m c] 28))
  by_cases h0 : z0 = 0
  · subst h0
    have HK := Lib.hid (show koK 0 z1 z2 = ⟨true, 0, ⟨#[]⟩⟩ ∧ koB 0 z1 z2 = true from by unfold koK koB koO; exact ⟨rfl, rfl⟩)
    have HB := Lib.hid (HB0.out.alloc (by simp) (.cells #[.bool true, .int .i64 0, .string ⟨#[]⟩] 44))
    have bk := Blk.new' (w.alloc (.cells #[.int .i64 0, .int .i64 z1, .string z2, .int .i64 z3, .slice A m c] 28)) 44 #[.bool true, .int .i64 0, .string ⟨#[]⟩] (w.heap.size + 1) (by simp)
    have bk0 := bk.cell 0
    have bk1 := bk.cell 1
    have bk2 := bk.cell 2
    have bkl := bk.lt
    go_enter Tryd.func25, Tryd.ntmps25
    go_wp2_with fail
    rw [HK.out.1, HK.out.2]
    refine bodyPost_ret (v := .tuple #[.agg #[.bool true, .int .i64 0, .string ⟨#[]⟩], .bool true]) (by simp [results, Tryd.results25, go_sem, bk0, bk1, bk2, bkl]) rfl ⟨rfl, HB.out⟩
  by_cases h1 : z0 = 1
  · subst h1
    have HK := Lib.hid (show koK 1 z1 z2 = ⟨false, z1, ⟨#[]⟩⟩ ∧ koB 1 z1 z2 = true from by unfold koK koB koO; exact ⟨rfl, rfl⟩)
    have HB := Lib.hid (HB0.out.alloc (by simp) (.cells #[.bool false, .int .i64 0, .string ⟨#[]⟩] 44))
    have b0 := Lib.hid (Blk.new' (w.alloc (.cells #[.int .i64 1, .int .i64 z1, .string z2, .int .i64 z3, .slice A m c] 28)) 44 #[.bool false, .int .i64 0, .string ⟨#[]⟩] (w.heap.size + 1) (by simp))
    skip
    go_enter Tryd.func25, Tryd.ntmps25
    go_wp2_with (go_at_call 45; refine (ik_impl z1 _).mono ?_; rintro e w1 ⟨rfl, hb1⟩; have b1 := Lib.hid (b0.out.below hb1 (Nat.le_refl _)); have b1l := b1.out.lt; have b1f := fun i => b1.out.frozen i; have c10 := b1.out.cell 0; have c11 := b1.out.cell 1; have c12 := b1.out.cell 2)
    rw [HK.out.1, HK.out.2]
    refine bodyPost_ret (v := .tuple #[.agg #[.bool false, .int .i64 z1, .string ⟨#[]⟩], .bool true]) (by simp [results, Tryd.results25, go_sem, c10, c11, c12, b1l, b1f]) rfl ⟨rfl, ?_⟩
    repeat (refine Below.setCell ?_ (by simp) _)
    exact HB.out.trans (hb1.mono HB.out.size)
  by_cases h2 : z0 = 2
  · subst h2
    have HK := Lib.hid (show koK 2 z1 z2 = ⟨false, z1, ⟨#[]⟩⟩ ∧ koB 2 z1 z2 = true from by unfold koK koB koO; exact ⟨rfl, rfl⟩)
    have HB := Lib.hid (HB0.out.alloc (by simp) (.cells #[.bool false, .int .i64 0, .string ⟨#[]⟩] 44))
    have b0 := Lib.hid (Blk.new' (w.alloc (.cells #[.int .i64 2, .int .i64 z1, .string z2, .int .i64 z3, .slice A m c] 28)) 44 #[.bool false, .int .i64 0, .string ⟨#[]⟩] (w.heap.size + 1) (by simp))
    skip
    go_enter Tryd.func25, Tryd.ntmps25
    go_wp2_with (go_at_call 45; refine (ik_impl z1 _).mono ?_; rintro e w1 ⟨rfl, hb1⟩; have b1 := Lib.hid (b0.out.below hb1 (Nat.le_refl _)); have b1l := b1.out.lt; have b1f := fun i => b1.out.frozen i; have c10 := b1.out.cell 0; have c11 := b1.out.cell 1; have c12 := b1.out.cell 2)
    rw [HK.out.1, HK.out.2]
    refine bodyPost_ret (v := .tuple #[.agg #[.bool false, .int .i64 z1, .string ⟨#[]⟩], .bool true]) (by simp [results, Tryd.results25, go_sem, c10, c11, c12, b1l, b1f]) rfl ⟨rfl, ?_⟩
    repeat (refine Below.setCell ?_ (by simp) _)
    exact HB.out.trans (hb1.mono HB.out.size)
  by_cases h3 : z0 = 3
  · subst h3
    have HK := Lib.hid (show koK 3 z1 z2 = tkF z2 ∧ koB 3 z1 z2 = true from by unfold koK koB koO; exact ⟨rfl, rfl⟩)
    have HB := Lib.hid (HB0.out.alloc (by simp) (.cells #[.bool false, .int .i64 0, .string ⟨#[]⟩] 44))
    have b0 := Lib.hid (Blk.new' (w.alloc (.cells #[.int .i64 3, .int .i64 z1, .string z2, .int .i64 z3, .slice A m c] 28)) 44 #[.bool false, .int .i64 0, .string ⟨#[]⟩] (w.heap.size + 1) (by simp))
    have HT := Lib.hid (tk_impl z2 _ (hV.below HB.out))
    go_enter Tryd.func25, Tryd.ntmps25
    go_wp2_with (go_at_call 46; refine (HT.out).mono ?_; rintro e w1 ⟨rfl, hb1⟩; have b1 := Lib.hid (b0.out.below hb1 (Nat.le_refl _)); have b1l := b1.out.lt; have b1f := fun i => b1.out.frozen i; have c10 := b1.out.cell 0; have c11 := b1.out.cell 1; have c12 := b1.out.cell 2)
    rw [HK.out.1, HK.out.2]
    refine bodyPost_ret (v := .tuple #[.agg #[.bool (tkF z2).a0, .int .i64 (tkF z2).a1, .string (tkF z2).a2], .bool true]) (by simp [results, Tryd.results25, go_sem, c10, c11, c12, b1l, b1f]) rfl ⟨rfl, ?_⟩
    repeat (refine Below.setCell ?_ (by simp) _)
    exact HB.out.trans (hb1.mono HB.out.size)
  have n0 : (z0 == 0) = false := beq_false_of_ne h0
  have n1 : (z0 == 1) = false := beq_false_of_ne h1
  have n2 : (z0 == 2) = false := beq_false_of_ne h2
  have n3 : (z0 == 3) = false := beq_false_of_ne h3
  have HK := Lib.hid (show koK z0 z1 z2 = ⟨false, 0, ⟨#[]⟩⟩ ∧ koB z0 z1 z2 = false from by unfold koK koB koO; rw [n0, n1, n2, n3]; exact ⟨rfl, rfl⟩)
  have HB := Lib.hid (HB0.out.alloc (by simp) (.cells #[.bool false, .int .i64 0, .string ⟨#[]⟩] 44))
  have bk := Blk.new' (w.alloc (.cells #[.int .i64 z0, .int .i64 z1, .string z2, .int .i64 z3, .slice A m c] 28)) 44 #[.bool false, .int .i64 0, .string ⟨#[]⟩] (w.heap.size + 1) (by simp)
  have bk0 := bk.cell 0
  have bk1 := bk.cell 1
  have bk2 := bk.cell 2
  have bkl := bk.lt
  go_enter Tryd.func25, Tryd.ntmps25
  go_wp2_with fail
  rw [HK.out.1, HK.out.2]
  refine bodyPost_ret (v := .tuple #[.agg #[.bool false, .int .i64 0, .string ⟨#[]⟩], .bool false]) (by simp [results, Tryd.results25, go_sem, bk0, bk1, bk2, bkl]) rfl ⟨rfl, HB.out⟩
set_option maxHeartbeats 1000000 in
theorem ko_spec (z0 z1 : Int) (z2 : ByteArray) (z3 : Int) (A : Option Addr) (m c : Nat) (hs : z2.size ≤ 9223372036854775807) (w : World) : Calls Tryd.prog 18 #[.agg #[.int .i64 z0, .int .i64 z1, .string z2, .int .i64 z3, .slice A m c]] w fun e w' => e = .returned (.tuple #[.agg #[.bool (koK z0 z1 z2).a0, .int .i64 (koK z0 z1 z2).a1, .string (koK z0 z1 z2).a2], .bool (koB z0 z1 z2)]) ∧ Below w.heap.size w w' := by
  have HB0 := Lib.hid ((Below.refl w.heap.size w).alloc (Nat.le_refl _) (.cells #[.int .i64 z0, .int .i64 z1, .string z2, .int .i64 z3, .slice A m c] 28))
  by_cases h0 : z0 = 0
  · subst h0
    have HK := Lib.hid (show koK 0 z1 z2 = ⟨true, 0, ⟨#[]⟩⟩ ∧ koB 0 z1 z2 = true from by unfold koK koB koO; exact ⟨rfl, rfl⟩)
    have HB := Lib.hid (HB0.out.alloc (by simp) (.cells #[.bool true, .int .i64 0, .string ⟨#[]⟩] 44))
    have bk := Blk.new' (w.alloc (.cells #[.int .i64 0, .int .i64 z1, .string z2, .int .i64 z3, .slice A m c] 28)) 44 #[.bool true, .int .i64 0, .string ⟨#[]⟩] (w.heap.size + 1) (by simp)
    have bk0 := bk.cell 0
    have bk1 := bk.cell 1
    have bk2 := bk.cell 2
    have bkl := bk.lt
    go_enter Tryd.func18, Tryd.ntmps18
    go_wp2_with fail
    rw [HK.out.1, HK.out.2]
    refine bodyPost_ret (v := .tuple #[.agg #[.bool true, .int .i64 0, .string ⟨#[]⟩], .bool true]) (by simp [results, Tryd.results18, go_sem, bk0, bk1, bk2, bkl]) rfl ⟨rfl, HB.out⟩
  by_cases h1 : z0 = 1
  · subst h1
    have HK := Lib.hid (show koK 1 z1 z2 = ⟨false, z1, ⟨#[]⟩⟩ ∧ koB 1 z1 z2 = true from by unfold koK koB koO; exact ⟨rfl, rfl⟩)
    have HB := Lib.hid (HB0.out.alloc (by simp) (.cells #[.bool false, .int .i64 z1, .string ⟨#[]⟩] 44))
    have bk := Blk.new' (w.alloc (.cells #[.int .i64 1, .int .i64 z1, .string z2, .int .i64 z3, .slice A m c] 28)) 44 #[.bool false, .int .i64 z1, .string ⟨#[]⟩] (w.heap.size + 1) (by simp)
    have bk0 := bk.cell 0
    have bk1 := bk.cell 1
    have bk2 := bk.cell 2
    have bkl := bk.lt
    go_enter Tryd.func18, Tryd.ntmps18
    go_wp2_with fail
    rw [HK.out.1, HK.out.2]
    refine bodyPost_ret (v := .tuple #[.agg #[.bool false, .int .i64 z1, .string ⟨#[]⟩], .bool true]) (by simp [results, Tryd.results18, go_sem, bk0, bk1, bk2, bkl]) rfl ⟨rfl, HB.out⟩
  by_cases h2 : z0 = 2
  · subst h2
    have HK := Lib.hid (show koK 2 z1 z2 = ⟨false, z1, ⟨#[]⟩⟩ ∧ koB 2 z1 z2 = true from by unfold koK koB koO; exact ⟨rfl, rfl⟩)
    have HB := Lib.hid (HB0.out.alloc (by simp) (.cells #[.bool false, .int .i64 z1, .string ⟨#[]⟩] 44))
    have bk := Blk.new' (w.alloc (.cells #[.int .i64 2, .int .i64 z1, .string z2, .int .i64 z3, .slice A m c] 28)) 44 #[.bool false, .int .i64 z1, .string ⟨#[]⟩] (w.heap.size + 1) (by simp)
    have bk0 := bk.cell 0
    have bk1 := bk.cell 1
    have bk2 := bk.cell 2
    have bkl := bk.lt
    go_enter Tryd.func18, Tryd.ntmps18
    go_wp2_with fail
    rw [HK.out.1, HK.out.2]
    refine bodyPost_ret (v := .tuple #[.agg #[.bool false, .int .i64 z1, .string ⟨#[]⟩], .bool true]) (by simp [results, Tryd.results18, go_sem, bk0, bk1, bk2, bkl]) rfl ⟨rfl, HB.out⟩
  by_cases h3 : z0 = 3
  · subst h3
    have HK := Lib.hid (show koK 3 z1 z2 = tkF z2 ∧ koB 3 z1 z2 = true from by unfold koK koB koO; exact ⟨rfl, rfl⟩)
    have HB := Lib.hid (HB0.out.alloc (by simp) (.cells #[.bool false, .int .i64 0, .string ⟨#[]⟩] 44))
    have b0 := Lib.hid (Blk.new' (w.alloc (.cells #[.int .i64 3, .int .i64 z1, .string z2, .int .i64 z3, .slice A m c] 28)) 44 #[.bool false, .int .i64 0, .string ⟨#[]⟩] (w.heap.size + 1) (by simp))
    have HT := Lib.hid (fun W => tk_spec z2 W hs)
    go_enter Tryd.func18, Tryd.ntmps18
    go_wp2_with (go_at_call 42; refine (HT.out _).mono ?_; rintro e w1 ⟨rfl, hb1⟩; have b1 := Lib.hid (b0.out.below hb1 (Nat.le_refl _)); have b1l := b1.out.lt; have b1f := fun i => b1.out.frozen i; have c10 := b1.out.cell 0; have c11 := b1.out.cell 1; have c12 := b1.out.cell 2)
    rw [HK.out.1, HK.out.2]
    refine bodyPost_ret (v := .tuple #[.agg #[.bool (tkF z2).a0, .int .i64 (tkF z2).a1, .string (tkF z2).a2], .bool true]) (by simp [results, Tryd.results18, go_sem, c10, c11, c12, b1l, b1f]) rfl ⟨rfl, ?_⟩
    repeat (refine Below.setCell ?_ (by simp) _)
    exact HB.out.trans (hb1.mono HB.out.size)
  have n0 : (z0 == 0) = false := beq_false_of_ne h0
  have n1 : (z0 == 1) = false := beq_false_of_ne h1
  have n2 : (z0 == 2) = false := beq_false_of_ne h2
  have n3 : (z0 == 3) = false := beq_false_of_ne h3
  have HK := Lib.hid (show koK z0 z1 z2 = ⟨false, 0, ⟨#[]⟩⟩ ∧ koB z0 z1 z2 = false from by unfold koK koB koO; rw [n0, n1, n2, n3]; exact ⟨rfl, rfl⟩)
  have HB := Lib.hid (HB0.out.alloc (by simp) (.cells #[.bool false, .int .i64 0, .string ⟨#[]⟩] 44))
  have bk := Blk.new' (w.alloc (.cells #[.int .i64 z0, .int .i64 z1, .string z2, .int .i64 z3, .slice A m c] 28)) 44 #[.bool false, .int .i64 0, .string ⟨#[]⟩] (w.heap.size + 1) (by simp)
  have bk0 := bk.cell 0
  have bk1 := bk.cell 1
  have bk2 := bk.cell 2
  have bkl := bk.lt
  go_enter Tryd.func18, Tryd.ntmps18
  go_wp2_with fail
  rw [HK.out.1, HK.out.2]
  refine bodyPost_ret (v := .tuple #[.agg #[.bool false, .int .i64 0, .string ⟨#[]⟩], .bool false]) (by simp [results, Tryd.results18, go_sem, bk0, bk1, bk2, bkl]) rfl ⟨rfl, HB.out⟩
theorem own_zero (w : World) (lo hi : Nat) : OwnI w lo hi (FValue.c zeroV) [.int .i64 0, .int .i64 0, .string ⟨#[]⟩, .int .i64 0, .slice none 0 0] := by
  unfold zeroV
  rw [FValue.c_eq]
  exact OwnI.consv (OwnI.consv (OwnI.consv (OwnI.consv (OwnI.none _ _ _ _ _) _) _) _) _
theorem own_text (w : World) (lo hi : Nat) (s : ByteArray) : OwnI w lo hi (FValue.c ⟨3, 0, s, 0, []⟩) [.int .i64 3, .int .i64 0, .string s, .int .i64 0, .slice none 0 0] := by
  rw [FValue.c_eq]
  exact OwnI.consv (OwnI.consv (OwnI.consv (OwnI.consv (OwnI.none _ _ _ _ _) _) _) _) _
end Go.Proofs.YtgbeenieacnanaaDoor
