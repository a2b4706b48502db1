/-
  QuoteText of both packages. Conditions: none.
-/
import Derived.Test.YtiggmjiodbbceaaDoorByt
import Derived.Lib.Walk
namespace Go.Proofs.YtiggmjiodbbceaaDoor
open Go.ChangeShapes Go.WideShapes Go.ChangeAt Go.RowKit Go.Deep Go.Joins
open Go.ChangeMaps (open_string shut_string)
set_option linter.unusedVariables false
set_option linter.unusedSimpArgs false
set_option maxRecDepth 100000
set_option maxHeartbeats 2000000 in
theorem Quote_impl (s : ByteArray) (w : World) (hs : s.size ≤ 1000000000000) : Calls Tryd.prog 37 #[.string s] w fun e w' => e = .returned (.string (quoF s)) ∧ Below w.heap.size w w' := by
  go_enter Tryd.func37, Tryd.ntmps37
  go_wp2_with fail
  go_loopw [3, 4] (fun v i wr => ∃ (k : Nat) (A : Option Addr) (n c : Nat), k ≤ s.size ∧ i = .int .i64 k ∧ v = .slice A n c ∧ wr.ownsRow w.heap.size 5 1 v n (bCells (39 :: escL quo s k)) ∧ Below w.heap.size w wr) (fun _ i _ => s.size - (intOf i).toNat)
  case atStart => exact ⟨0, some ⟨w.heap.size, 0, none⟩, 1, 1, Nat.zero_le _, rfl, rfl, by rw [escL_zero]; exact own_lit w 5 [.int .u8 39] 1 rfl (by unfold maxLen; omega), (Below.refl _ _).alloc (Nat.le_refl _) _⟩
  case round =>
    obtain ⟨k, A, n, c, hk, rfl, rfl, hown, hb⟩ := hrel
    have HO := Lib.hid hown
    have HB := Lib.hid hb
    have hn : n ≤ 6 * k + 1 := by
      have e1 := hown.1
      rw [bCells_len] at e1
      have := escL_le quo_le s k
      simp only [List.length_cons] at e1
      omega
    clear hown hb
    by_cases hlt : k < s.size
    · have HE := Lib.hid (escL_succ quo s k hlt)
      have hx1 := (u8_lt s[k]).1
      have hx0 := (u8_lt s[k]).2
      have HX := Lib.hid (show s[k] = s[k] from rfl)
      have h39 : ((s[k].toNat : Int) == 39) = decide (s[k] = 39) := u8_eq s[k] 39 (by omega)
      have h92 : ((s[k].toNat : Int) == 92) = decide (s[k] = 92) := u8_eq s[k] 92 (by omega)
      by_cases hq : s[k] = 39 ∨ s[k] = 92
      · have HQ := Lib.hid (show quo s[k] = [92, s[k]] by unfold quo; rw [if_pos hq])
        have hc : ((s[k].toNat : Int) == 39) = true ∨ (((s[k].toNat : Int) == 39) = false ∧ ((s[k].toNat : Int) == 92) = true) := by
          rcases hq with h | h
          · exact .inl (by rw [h39, decide_eq_true h])
          · by_cases h' : s[k] = 39
            · exact .inl (by rw [h39, decide_eq_true h'])
            · exact .inr ⟨by rw [h39, decide_eq_false h'], by rw [h92, decide_eq_true h]⟩
        clear h39 h92 hq
        rcases hc with g1 | ⟨g1, g2⟩
        · have tok1 : True := trivial
          have tok2 : True := trivial
          go_wp2_with (first
            | (at_builtin; have _t := tok1; go_must (refine wpList_append_rd _ rfl (.tmp 22) (.tmp 23) _ rfl w.heap.size _ _ _ 1 Tryd.underlying31 infoU8 rfl (by omega) _ (n) _ rfl (HO.out.alloc _) (wr.heap.size + 1) _ 1 1 _ rfl (rdb_new wr 5 [.int .u8 92] 1 rfl (by unfold maxLen; omega)) (by intro u hu; simp only [List.mem_cons, List.not_mem_nil, or_false] at hu; rcases hu with rfl; rfl) (by unfold maxLen; omega) (by omega) (by have := HB.out.size; simp; omega) ?_); intro v_a w_a own_a g_a at_a; obtain ⟨A_a, c_a, rfl⟩ := own_form own_a; have B_a : Below w.heap.size w w_a := (HB.out.alloc HB.out.size _).grown g_a (by have := HB.out.size; simp; omega) (fun k hk => (HO.out.lt k hk).1); clear tok1)
            | (at_builtin; have _t := tok2; go_must (refine wpList_append_rd _ rfl (.tmp 25) (.tmp 29) _ rfl w.heap.size _ _ _ 1 Tryd.underlying31 infoU8 rfl (by omega) _ (n + 1) _ rfl (own_a.alloc _) (w_a.heap.size + 1) _ 1 1 _ rfl (rdb_new w_a 5 [.int .u8 s[k].toNat] 1 rfl (by unfold maxLen; omega)) (by intro u hu; simp only [List.mem_cons, List.not_mem_nil, or_false] at hu; rcases hu with rfl; rfl) (by unfold maxLen; omega) (by omega) (by have := B_a.size; simp; omega) ?_); intro v_b w_b own_b g_b at_b; obtain ⟨A_b, c_b, rfl⟩ := own_form own_b; have B_b : Below w.heap.size w w_b := (B_a.alloc B_a.size _).grown g_b (by have := B_a.size; simp; omega) (fun k hk => (own_a.lt k hk).1); clear tok2))
          go_roundw
          case rel => exact ⟨k + 1, A_b, _, c_b, by omega, by go_num, rfl, by rw [HE.out, HQ.out, ← List.cons_append, bCells_append, show bCells [92, s[k]] = [.int .u8 92] ++ [.int .u8 s[k].toNat] from rfl, ← List.append_assoc]; exact own_b, B_b⟩
          case measure => simp [intOf]; omega
        · have tok1 : True := trivial
          have tok2 : True := trivial
          go_wp2_with (first
            | (at_builtin; have _t := tok1; go_must (refine wpList_append_rd _ rfl (.tmp 22) (.tmp 23) _ rfl w.heap.size _ _ _ 1 Tryd.underlying31 infoU8 rfl (by omega) _ (n) _ rfl (HO.out.alloc _) (wr.heap.size + 1) _ 1 1 _ rfl (rdb_new wr 5 [.int .u8 92] 1 rfl (by unfold maxLen; omega)) (by intro u hu; simp only [List.mem_cons, List.not_mem_nil, or_false] at hu; rcases hu with rfl; rfl) (by unfold maxLen; omega) (by omega) (by have := HB.out.size; simp; omega) ?_); intro v_a w_a own_a g_a at_a; obtain ⟨A_a, c_a, rfl⟩ := own_form own_a; have B_a : Below w.heap.size w w_a := (HB.out.alloc HB.out.size _).grown g_a (by have := HB.out.size; simp; omega) (fun k hk => (HO.out.lt k hk).1); clear tok1)
            | (at_builtin; have _t := tok2; go_must (refine wpList_append_rd _ rfl (.tmp 25) (.tmp 29) _ rfl w.heap.size _ _ _ 1 Tryd.underlying31 infoU8 rfl (by omega) _ (n + 1) _ rfl (own_a.alloc _) (w_a.heap.size + 1) _ 1 1 _ rfl (rdb_new w_a 5 [.int .u8 s[k].toNat] 1 rfl (by unfold maxLen; omega)) (by intro u hu; simp only [List.mem_cons, List.not_mem_nil, or_false] at hu; rcases hu with rfl; rfl) (by unfold maxLen; omega) (by omega) (by have := B_a.size; simp; omega) ?_); intro v_b w_b own_b g_b at_b; obtain ⟨A_b, c_b, rfl⟩ := own_form own_b; have B_b : Below w.heap.size w w_b := (B_a.alloc B_a.size _).grown g_b (by have := B_a.size; simp; omega) (fun k hk => (own_a.lt k hk).1); clear tok2))
          go_roundw
          case rel => exact ⟨k + 1, A_b, _, c_b, by omega, by go_num, rfl, by rw [HE.out, HQ.out, ← List.cons_append, bCells_append, show bCells [92, s[k]] = [.int .u8 92] ++ [.int .u8 s[k].toNat] from rfl, ← List.append_assoc]; exact own_b, B_b⟩
          case measure => simp [intOf]; omega
      · have HQ := Lib.hid (show quo s[k] = [s[k]] by unfold quo; rw [if_neg hq])
        have g1 : ((s[k].toNat : Int) == 39) = false := by rw [h39, decide_eq_false (fun h => hq (.inl h))]
        have g2 : ((s[k].toNat : Int) == 92) = false := by rw [h92, decide_eq_false (fun h => hq (.inr h))]
        clear h39 h92 hq
        have tok1 : True := trivial
        go_wp2_with ((at_builtin; have _t := tok1; go_must (refine wpList_append_rd _ rfl (.tmp 25) (.tmp 29) _ rfl w.heap.size _ _ _ 1 Tryd.underlying31 infoU8 rfl (by omega) _ (n) _ rfl (HO.out.alloc _) (wr.heap.size + 1) _ 1 1 _ rfl (rdb_new wr 5 [.int .u8 s[k].toNat] 1 rfl (by unfold maxLen; omega)) (by intro u hu; simp only [List.mem_cons, List.not_mem_nil, or_false] at hu; rcases hu with rfl; rfl) (by unfold maxLen; omega) (by omega) (by have := HB.out.size; simp; omega) ?_); intro v_a w_a own_a g_a at_a; obtain ⟨A_a, c_a, rfl⟩ := own_form own_a; have B_a : Below w.heap.size w w_a := (HB.out.alloc HB.out.size _).grown g_a (by have := HB.out.size; simp; omega) (fun k hk => (HO.out.lt k hk).1); clear tok1))
        go_roundw
        case rel => exact ⟨k + 1, A_a, _, c_a, by omega, by go_num, rfl, by rw [HE.out, HQ.out, ← List.cons_append, bCells_append]; exact own_a, B_a⟩
        case measure => simp [intOf]; omega
    · obtain rfl : k = s.size := by omega
      clear hlt
      have tok1 : True := trivial
      go_wp2_with ((at_builtin; have _t := tok1; go_must (refine wpList_append_rd _ rfl (.tmp 31) (.tmp 32) _ rfl w.heap.size _ _ _ 1 Tryd.underlying31 infoU8 rfl (by omega) _ (n) _ rfl (HO.out.alloc _) (wr.heap.size + 1) _ 1 1 _ rfl (rdb_new wr 5 [.int .u8 39] 1 rfl (by unfold maxLen; omega)) (by intro u hu; simp only [List.mem_cons, List.not_mem_nil, or_false] at hu; rcases hu with rfl; rfl) (by unfold maxLen; omega) (by omega) (by have := HB.out.size; simp; omega) ?_); intro v_a w_a own_a g_a at_a; obtain ⟨A_a, c_a, rfl⟩ := own_form own_a; have B_a : Below w.heap.size w w_a := (HB.out.alloc HB.out.size _).grown g_a (by have := HB.out.size; simp; omega) (fun k hk => (HO.out.lt k hk).1); clear tok1; rw [show bCells (39 :: escL quo s s.size) ++ [Value.int .u8 39] = bCells (quoL s) from by unfold quoL; rw [bCells_append]; rfl] at own_a; have hcv := conv_own 31 5 9 Tryd.prog Tryd.underlying31 Tryd.underlying5 Tryd.underlying9 own_a; clear own_a))
      go_ret
      exact ⟨rfl, B_a⟩
set_option maxHeartbeats 2000000 in
theorem Quote_spec (s : ByteArray) (w : World) (hs : s.size ≤ 1000000000000) : Calls Tryd.prog 34 #[.string s] w fun e w' => e = .returned (.string (quoF s)) ∧ Below w.heap.size w w' := by
  go_enter Tryd.func34, Tryd.ntmps34
  go_wp2_with fail
  go_loopw [3, 4] (fun v i wr => ∃ (k : Nat) (A : Option Addr) (n c : Nat), k ≤ s.size ∧ i = .int .i64 k ∧ v = .slice A n c ∧ wr.ownsRow w.heap.size 5 1 v n (bCells (39 :: escL quo s k)) ∧ Below w.heap.size w wr) (fun _ i _ => s.size - (intOf i).toNat)
  case atStart => exact ⟨0, some ⟨w.heap.size, 0, none⟩, 1, 1, Nat.zero_le _, rfl, rfl, by rw [escL_zero]; exact own_lit w 5 [.int .u8 39] 1 rfl (by unfold maxLen; omega), (Below.refl _ _).alloc (Nat.le_refl _) _⟩
  case round =>
    obtain ⟨k, A, n, c, hk, rfl, rfl, hown, hb⟩ := hrel
    have HO := Lib.hid hown
    have HB := Lib.hid hb
    have hn : n ≤ 6 * k + 1 := by
      have e1 := hown.1
      rw [bCells_len] at e1
      have := escL_le quo_le s k
      simp only [List.length_cons] at e1
      omega
    clear hown hb
    by_cases hlt : k < s.size
    · have HE := Lib.hid (escL_succ quo s k hlt)
      have hx1 := (u8_lt s[k]).1
      have hx0 := (u8_lt s[k]).2
      have HX := Lib.hid (show s[k] = s[k] from rfl)
      have h39 : ((s[k].toNat : Int) == 39) = decide (s[k] = 39) := u8_eq s[k] 39 (by omega)
      have h92 : ((s[k].toNat : Int) == 92) = decide (s[k] = 92) := u8_eq s[k] 92 (by omega)
      by_cases hq : s[k] = 39 ∨ s[k] = 92
      · have HQ := Lib.hid (show quo s[k] = [92, s[k]] by unfold quo; rw [if_pos hq])
        have hc : ((s[k].toNat : Int) == 39) = true ∨ (((s[k].toNat : Int) == 39) = false ∧ ((s[k].toNat : Int) == 92) = true) := by
          rcases hq with h | h
          · exact .inl (by rw [h39, decide_eq_true h])
          · by_cases h' : s[k] = 39
            · exact .inl (by rw [h39, decide_eq_true h'])
            · exact .inr ⟨by rw [h39, decide_eq_false h'], by rw [h92, decide_eq_true h]⟩
        clear h39 h92 hq
        rcases hc with g1 | ⟨g1, g2⟩
        · have tok1 : True := trivial
          have tok2 : True := trivial
          go_wp2_with (first
            | (at_builtin; have _t := tok1; go_must (refine wpList_append_rd _ rfl (.tmp 22) (.tmp 23) _ rfl w.heap.size _ _ _ 1 Tryd.underlying31 infoU8 rfl (by omega) _ (n) _ rfl (HO.out.alloc _) (wr.heap.size + 1) _ 1 1 _ rfl (rdb_new wr 5 [.int .u8 92] 1 rfl (by unfold maxLen; omega)) (by intro u hu; simp only [List.mem_cons, List.not_mem_nil, or_false] at hu; rcases hu with rfl; rfl) (by unfold maxLen; omega) (by omega) (by have := HB.out.size; simp; omega) ?_); intro v_a w_a own_a g_a at_a; obtain ⟨A_a, c_a, rfl⟩ := own_form own_a; have B_a : Below w.heap.size w w_a := (HB.out.alloc HB.out.size _).grown g_a (by have := HB.out.size; simp; omega) (fun k hk => (HO.out.lt k hk).1); clear tok1)
            | (at_builtin; have _t := tok2; go_must (refine wpList_append_rd _ rfl (.tmp 25) (.tmp 29) _ rfl w.heap.size _ _ _ 1 Tryd.underlying31 infoU8 rfl (by omega) _ (n + 1) _ rfl (own_a.alloc _) (w_a.heap.size + 1) _ 1 1 _ rfl (rdb_new w_a 5 [.int .u8 s[k].toNat] 1 rfl (by unfold maxLen; omega)) (by intro u hu; simp only [List.mem_cons, List.not_mem_nil, or_false] at hu; rcases hu with rfl; rfl) (by unfold maxLen; omega) (by omega) (by have := B_a.size; simp; omega) ?_); intro v_b w_b own_b g_b at_b; obtain ⟨A_b, c_b, rfl⟩ := own_form own_b; have B_b : Below w.heap.size w w_b := (B_a.alloc B_a.size _).grown g_b (by have := B_a.size; simp; omega) (fun k hk => (own_a.lt k hk).1); clear tok2))
          go_roundw
          case rel => exact ⟨k + 1, A_b, _, c_b, by omega, by go_num, rfl, by rw [HE.out, HQ.out, ← List.cons_append, bCells_append, show bCells [92, s[k]] = [.int .u8 92] ++ [.int .u8 s[k].toNat] from rfl, ← List.append_assoc]; exact own_b, B_b⟩
          case measure => simp [intOf]; omega
        · have tok1 : True := trivial
          have tok2 : True := trivial
          go_wp2_with (first
            | (at_builtin; have _t := tok1; go_must (refine wpList_append_rd _ rfl (.tmp 22) (.tmp 23) _ rfl w.heap.size _ _ _ 1 Tryd.underlying31 infoU8 rfl (by omega) _ (n) _ rfl (HO.out.alloc _) (wr.heap.size + 1) _ 1 1 _ rfl (rdb_new wr 5 [.int .u8 92] 1 rfl (by unfold maxLen; omega)) (by intro u hu; simp only [List.mem_cons, List.not_mem_nil, or_false] at hu; rcases hu with rfl; rfl) (by unfold maxLen; omega) (by omega) (by have := HB.out.size; simp; omega) ?_); intro v_a w_a own_a g_a at_a; obtain ⟨A_a, c_a, rfl⟩ := own_form own_a; have B_a : Below w.heap.size w w_a := (HB.out.alloc HB.out.size _).grown g_a (by have := HB.out.size; simp; omega) (fun k hk => (HO.out.lt k hk).1); clear tok1)
            | (at_builtin; have _t := tok2; go_must (refine wpList_append_rd _ rfl (.tmp 25) (.tmp 29) _ rfl w.heap.size _ _ _ 1 Tryd.underlying31 infoU8 rfl (by omega) _ (n + 1) _ rfl (own_a.alloc _) (w_a.heap.size + 1) _ 1 1 _ rfl (rdb_new w_a 5 [.int .u8 s[k].toNat] 1 rfl (by unfold maxLen; omega)) (by intro u hu; simp only [List.mem_cons, List.not_mem_nil, or_false] at hu; rcases hu with rfl; rfl) (by unfold maxLen; omega) (by omega) (by have := B_a.size; simp; omega) ?_); intro v_b w_b own_b g_b at_b; obtain ⟨A_b, c_b, rfl⟩ := own_form own_b; have B_b : Below w.heap.size w w_b := (B_a.alloc B_a.size _).grown g_b (by have := B_a.size; simp; omega) (fun k hk => (own_a.lt k hk).1); clear tok2))
          go_roundw
          case rel => exact ⟨k + 1, A_b, _, c_b, by omega, by go_num, rfl, by rw [HE.out, HQ.out, ← List.cons_append, bCells_append, show bCells [92, s[k]] = [.int .u8 92] ++ [.int .u8 s[k].toNat] from rfl, ← List.append_assoc]; exact own_b, B_b⟩
          case measure => simp [intOf]; omega
      · have HQ := Lib.hid (show quo s[k] = [s[k]] by unfold quo; rw [if_neg hq])
        have g1 : ((s[k].toNat : Int) == 39) = false := by rw [h39, decide_eq_false (fun h => hq (.inl h))]
        have g2 : ((s[k].toNat : Int) == 92) = false := by rw [h92, decide_eq_false (fun h => hq (.inr h))]
        clear h39 h92 hq
        have tok1 : True := trivial
        go_wp2_with ((at_builtin; have _t := tok1; go_must (refine wpList_append_rd _ rfl (.tmp 25) (.tmp 29) _ rfl w.heap.size _ _ _ 1 Tryd.underlying31 infoU8 rfl (by omega) _ (n) _ rfl (HO.out.alloc _) (wr.heap.size + 1) _ 1 1 _ rfl (rdb_new wr 5 [.int .u8 s[k].toNat] 1 rfl (by unfold maxLen; omega)) (by intro u hu; simp only [List.mem_cons, List.not_mem_nil, or_false] at hu; rcases hu with rfl; rfl) (by unfold maxLen; omega) (by omega) (by have := HB.out.size; simp; omega) ?_); intro v_a w_a own_a g_a at_a; obtain ⟨A_a, c_a, rfl⟩ := own_form own_a; have B_a : Below w.heap.size w w_a := (HB.out.alloc HB.out.size _).grown g_a (by have := HB.out.size; simp; omega) (fun k hk => (HO.out.lt k hk).1); clear tok1))
        go_roundw
        case rel => exact ⟨k + 1, A_a, _, c_a, by omega, by go_num, rfl, by rw [HE.out, HQ.out, ← List.cons_append, bCells_append]; exact own_a, B_a⟩
        case measure => simp [intOf]; omega
    · obtain rfl : k = s.size := by omega
      clear hlt
      have tok1 : True := trivial
      go_wp2_with ((at_builtin; have _t := tok1; go_must (refine wpList_append_rd _ rfl (.tmp 31) (.tmp 32) _ rfl w.heap.size _ _ _ 1 Tryd.underlying31 infoU8 rfl (by omega) _ (n) _ rfl (HO.out.alloc _) (wr.heap.size + 1) _ 1 1 _ rfl (rdb_new wr 5 [.int .u8 39] 1 rfl (by unfold maxLen; omega)) (by intro u hu; simp only [List.mem_cons, List.not_mem_nil, or_false] at hu; rcases hu with rfl; rfl) (by unfold maxLen; omega) (by omega) (by have := HB.out.size; simp; omega) ?_); intro v_a w_a own_a g_a at_a; obtain ⟨A_a, c_a, rfl⟩ := own_form own_a; have B_a : Below w.heap.size w w_a := (HB.out.alloc HB.out.size _).grown g_a (by have := HB.out.size; simp; omega) (fun k hk => (HO.out.lt k hk).1); clear tok1; rw [show bCells (39 :: escL quo s s.size) ++ [Value.int .u8 39] = bCells (quoL s) from by unfold quoL; rw [bCells_append]; rfl] at own_a; have hcv := conv_own 31 5 9 Tryd.prog Tryd.underlying31 Tryd.underlying5 Tryd.underlying9 own_a; clear own_a))
      go_ret
      exact ⟨rfl, B_a⟩
end Go.Proofs.YtiggmjiodbbceaaDoor
