/-
  Escaping of strings: EscapeHTML, EscapeURL, EscapeScript and EscapeIn of both packages. Conditions: none.
-/
import Derived.Test.YtnbedjfmhnpjaaaEscA
import Derived.Lib.Bytealg
import Derived.Lib.Strings
import Derived.Lib.Slices
import Derived.Lib.Walk
namespace Go.Proofs.Ytnbedjfmhnpjaaa
open Go.ChangeShapes Go.WideShapes Go.ChangeAt Go.RowKit Go.Deep Go.Joins
open Go.ChangeMaps (open_string shut_string)
set_option linter.unusedVariables false
set_option linter.unusedSimpArgs false
set_option maxRecDepth 100000

theorem infoU8 : (Try.prog.info? 5).map (fun i => (i.zero.map Value.cells, i.size, i.bytes)) = some (some #[.int .u8 0], 1, 1) := by kernel_rfl
theorem infoU8' : ∃ i, Try.prog.info? 5 = some i ∧ i.zero = some (.int .u8 0) ∧ i.size = 1 ∧ i.bytes = 1 := by
  have h : (Try.prog.info? 5).map (fun i => (i.zero, i.size, i.bytes)) = some (some (.int .u8 0), 1, 1) := by kernel_rfl
  obtain ⟨i, hi, hz⟩ := Option.map_eq_some_iff.1 h
  simp only [Prod.mk.injEq] at hz
  exact ⟨i, hi, hz.1, hz.2.1, hz.2.2⟩
theorem rd_new (w : World) (e : TypeId) (l : List Value) (n : Nat) (hn : l.length = n) (hm : n ≤ maxLen) : Rd (w.alloc (.cells l.toArray e)) (w.heap.size + 1) 1 (.slice (some ⟨w.heap.size, 0, none⟩) n n) n l := by
  refine ⟨_, _, rfl, Nat.le_refl _, hm, by omega, fun _ => ⟨_, _, rfl, by omega, fun j u hu => ?_⟩⟩
  rw [Nat.zero_add, World.cell?_alloc_new]
  simpa using hu
theorem ext_one (s : ByteArray) (k : Nat) (h : k < s.size) : s.extract k (k + 1) = ⟨[s[k]].toArray⟩ := by
  apply ByteArray.ext
  rw [ByteArray.data_extract]
  apply Array.ext'
  have hk : k < s.data.toList.length := by simpa using h
  rw [Array.toList_extract, List.extract_eq_take_drop, List.drop_eq_getElem_cons hk]
  simp
  rfl
theorem idx_bare (c : UInt8) : (bareI c.toNat = true → ¬ (c.toNat : Int) < 32 ∧ ¬ 126 < (c.toNat : Int) ∧ ¬ 0 ≤ Lib.indexByte [92, 39, 34, 60, 62, 38] c) ∧ (¬ (c.toNat : Int) < 32 → ¬ 126 < (c.toNat : Int) → ¬ 0 ≤ Lib.indexByte [92, 39, 34, 60, 62, 38] c → bareI c.toNat = true) := by
  have h : ∀ n : Fin 256, (bareI (n.val : Int) = true → ¬ (n.val : Int) < 32 ∧ ¬ 126 < (n.val : Int) ∧ ¬ 0 ≤ Lib.indexByte [92, 39, 34, 60, 62, 38] (UInt8.ofNat n.val)) ∧ (¬ (n.val : Int) < 32 → ¬ 126 < (n.val : Int) → ¬ 0 ≤ Lib.indexByte [92, 39, 34, 60, 62, 38] (UInt8.ofNat n.val) → bareI (n.val : Int) = true) := by decide +kernel
  have := h ⟨c.toNat, c.toNat_lt⟩
  simpa using this
theorem sliteIndexByte_any (s : ByteArray) (c : Int) (w : World) :
    Calls Try.prog 59 #[.string s, .int .u8 c] w fun e w' => e = .returned (.int .i64 (Lib.indexByte s.data.toList c.toNat.toUInt8)) ∧ w = w' := by
  go_enter Try.func59, Try.ntmps59
  go_wp2
  rw [run_callFunc_extern Try.func63 (by kernel_rfl) (by kernel_rfl) (by kernel_rfl) (e := Extern.BytealgIndexByte.indexByte) (by kernel_rfl), Lib.run_indexByteString]
  simp only [Result.andThen]
  rw [Oper.upon_value]
  go_wp2
  go_ret
  exact ⟨rfl, rfl⟩
theorem indexByte_any (s : ByteArray) (c : Int) (w : World) :
    Calls Try.prog 55 #[.string s, .int .u8 c] w fun e w' => e = .returned (.int .i64 (Lib.indexByte s.data.toList c.toNat.toUInt8)) ∧ w = w' := by
  go_enter Try.func55, Try.ntmps55
  go_wp2_with (go_at_call 59; refine (sliteIndexByte_any _ _ _).mono ?_; rintro e w' ⟨rfl, rfl⟩)
  go_ret
  exact ⟨rfl, rfl⟩
set_option maxHeartbeats 2000000 in
theorem escH_impl (s : ByteArray) (w : World) (hs : s.size ≤ 1000000000000) : Calls Try.prog 39 #[.string s] w fun e w' => e = .returned (.string ⟨(escL escH s s.size).toArray⟩) ∧ Below w.heap.size w w' := by
  obtain ⟨iu, iu1, iu2, iu3, iu4⟩ := infoU8'
  go_enter Try.func39, Try.ntmps39
  go_wp2_with fail
  go_loopw [3, 4] (fun v i wr => ∃ (k : Nat) (A : Option Addr) (n c : Nat), k ≤ s.size ∧ i = .int .i64 k ∧ v = .slice A n c ∧ wr.ownsRow w.heap.size 5 1 v n (bCells (escL escH s k)) ∧ Below w.heap.size w wr) (fun _ i _ => s.size - (intOf i).toNat)
  case atStart => exact ⟨0, some ⟨w.heap.size, 0, none⟩, 0, 0, Nat.zero_le _, rfl, rfl, by rw [escL_zero]; exact own_empty w _ _, (Below.refl _ _).alloc (Nat.le_refl _) _⟩
  case round =>
    obtain ⟨k, A, n, c, hk, rfl, rfl, hown, hb⟩ := hrel
    have HO := Lib.hid hown
    have HB := Lib.hid hb
    have hn : n ≤ 6 * k := by
      have e1 := hown.1
      rw [bCells_len] at e1
      have := escL_le escH_le s k
      omega
    clear hown hb
    by_cases hlt : k < s.size
    · have HE := Lib.hid (escL_succ escH s k hlt)
      have hx1 := (u8_lt s[k]).1
      have hx0 := (u8_lt s[k]).2
      have HX := Lib.hid (show s[k] = s[k] from rfl)
      have hent : ∀ W : World, Calls Try.prog 53 #[.int .u8 s[k].toNat] W fun e w' => e = .returned (.string ⟨(entI s[k].toNat).toArray⟩) ∧ W = w' := fun W => entityOf_any _ W (by omega) (by omega)
      by_cases he : (entI s[k].toNat).isEmpty = true
      · have hq : escH s[k] = [s[k]] := by unfold escH; rw [if_pos he]
        have hz : entI s[k].toNat = [] := List.isEmpty_iff.1 he
        have HENT := Lib.hid hent
        rw [hz] at hent
        clear HENT
        have tok1 : True := trivial
        go_wp2_with (first
          | (go_at_call 53; refine (hent _).mono ?_; rintro e w' ⟨rfl, rfl⟩)
          | (at_builtin; have _t := tok1; go_must (refine wpList_append_rd _ rfl (.tmp 19) (.tmp 23) _ rfl w.heap.size _ _ _ 1 Try.underlying22 infoU8 rfl (by omega) (.slice A n c) n _ rfl (HO.out.alloc _) (wr.heap.size + 1) _ 1 1 _ rfl (rd_new wr 5 [.int .u8 s[k].toNat] 1 rfl (by unfold maxLen; omega)) (by intro u hu; simp only [List.mem_cons, List.not_mem_nil, or_false] at hu; rcases hu with rfl <;> rfl) (by unfold maxLen; omega) (by omega) (by have := HB.out.size; simp; omega) ?_); intro v2 w2 hown2 hg2 hat2; obtain ⟨A5, c5, rfl⟩ := own_form hown2; have hB2 : Below w.heap.size w w2 := (HB.out.alloc HB.out.size _).grown hg2 (by have := HB.out.size; simp; omega) (fun k hk => (HO.out.lt k hk).1); clear tok1))
        go_roundw
        case rel => exact ⟨k + 1, A5, _, c5, by omega, by go_num, rfl, by rw [HE.out, bCells_append, hq]; exact hown2, hB2⟩
        case measure => simp [intOf]; omega
      · have hq : escH s[k] = entI s[k].toNat := by unfold escH; rw [if_neg he]
        have hlen := entI_le s[k].toNat
        have hz2 : 0 < (entI s[k].toNat).length := by
          cases hh : entI s[k].toNat with
          | nil => rw [hh] at he; exact absurd rfl he
          | cons a b => simp
        have hz : (((⟨(entI s[k].toNat).toArray⟩ : ByteArray).toList) == ((⟨#[]⟩ : ByteArray).toList)) = false := by
          rw [beq_eq_false_iff_ne]
          intro hh
          have := congrArg List.length hh
          rw [size_toList, size_toList] at this
          have e2 : (⟨(entI s[k].toNat).toArray⟩ : ByteArray).size = (entI s[k].toNat).length := by show (entI s[k].toNat).toArray.size = _; simp
          rw [e2] at this
          have : (entI s[k].toNat).length = 0 := this
          omega
        have hy3 : ¬ ((⟨(entI s[k].toNat).toArray⟩ : ByteArray).toList) = [] := by
          intro hh
          have := congrArg List.length hh
          rw [size_toList] at this
          have e2 : (⟨(entI s[k].toNat).toArray⟩ : ByteArray).size = (entI s[k].toNat).length := by show (entI s[k].toNat).toArray.size = _; simp
          rw [e2] at this
          have : (entI s[k].toNat).length = 0 := this
          omega
        have hy1 : (((⟨(entI s[k].toNat).toArray⟩ : ByteArray).toList) == ([] : List UInt8)) = false := by rw [beq_eq_false_iff_ne]; exact hy3
        have hy2 : ((⟨(entI s[k].toNat).toArray⟩ : ByteArray).toList).isEmpty = false := by rw [Bool.eq_false_iff]; exact fun h => hy3 (List.isEmpty_iff.1 h)
        have hsz : (⟨(entI s[k].toNat).toArray⟩ : ByteArray).size = (entI s[k].toNat).length := by show (entI s[k].toNat).toArray.size = _; simp
        have HL := Lib.hid (strCells_b (entI s[k].toNat))
        have HSZ := Lib.hid hsz
        clear hsz
        generalize hg : (⟨(entI s[k].toNat).toArray⟩ : ByteArray) = t at *
        clear hg
        have tok1 : True := trivial
        go_wp2_with (first
          | (go_at_call 53; refine (hent _).mono ?_; rintro e w' ⟨rfl, rfl⟩)
          | (at_builtin; have _t := tok1; go_must (refine Lib.wpList_append_own_string _ rfl (.tmp 25) (.tmp 26) _ _ rfl w.heap.size _ _ Try.underlying22 Try.underlying9 iu1 iu2 iu3 iu4 (.slice A n c) n _ rfl HO.out t rfl (by have := HSZ.out; unfold maxLen; omega) (by have := HSZ.out; omega) HB.out.size ?_); intro v2 w2 hown2 hg2 hat2; obtain ⟨A5, c5, rfl⟩ := own_form hown2; rw [HL.out] at hown2; have hB2 : Below w.heap.size w w2 := HB.out.grown hg2 HB.out.size (fun k hk => (HO.out.lt k hk).1); clear tok1))
        go_roundw
        case rel => exact ⟨k + 1, A5, _, c5, by omega, by go_num, rfl, by rw [HE.out, bCells_append, hq]; exact hown2, hB2⟩
        case measure => simp [intOf]; omega
    · obtain rfl : k = s.size := by omega
      clear hlt
      have hcv := conv_own 22 5 9 Try.prog Try.underlying22 Try.underlying5 Try.underlying9 HO.out
      go_wp2_with fail
      go_ret
      exact ⟨rfl, HB.out⟩
set_option maxHeartbeats 2000000 in
theorem escU_impl (s : ByteArray) (w : World) (hs : s.size ≤ 1000000000000) : Calls Try.prog 40 #[.string s] w fun e w' => e = .returned (.string ⟨(escL escU s s.size).toArray⟩) ∧ Below w.heap.size w w' := by
  go_enter Try.func40, Try.ntmps40
  go_wp2_with fail
  go_loopw [3, 4] (fun v i wr => ∃ (k : Nat) (A : Option Addr) (n c : Nat), k ≤ s.size ∧ i = .int .i64 k ∧ v = .slice A n c ∧ wr.ownsRow w.heap.size 5 1 v n (bCells (escL escU s k)) ∧ Below w.heap.size w wr) (fun _ i _ => s.size - (intOf i).toNat)
  case atStart => exact ⟨0, some ⟨w.heap.size, 0, none⟩, 0, 0, Nat.zero_le _, rfl, rfl, by rw [escL_zero]; exact own_empty w _ _, (Below.refl _ _).alloc (Nat.le_refl _) _⟩
  case round =>
    obtain ⟨k, A, n, c, hk, rfl, rfl, hown, hb⟩ := hrel
    have HO := Lib.hid hown
    have HB := Lib.hid hb
    have hn : n ≤ 6 * k := by
      have e1 := hown.1
      rw [bCells_len] at e1
      have := escL_le escU_le s k
      omega
    clear hown hb
    by_cases hlt : k < s.size
    · have HE := Lib.hid (escL_succ escU s k hlt)
      have hx1 := (u8_lt s[k]).1
      have hx0 := (u8_lt s[k]).2
      have HX := Lib.hid (show s[k] = s[k] from rfl)
      by_cases hp : plI s[k].toNat = true
      · have hq : escU s[k] = [s[k]] := by unfold escU; rw [if_pos hp]
        have hcase : ltrI (s[k].toNat : Int) = true ∨ (ltrI (s[k].toNat : Int) = false ∧ digI (s[k].toNat : Int) = true) ∨ (ltrI (s[k].toNat : Int) = false ∧ digI (s[k].toNat : Int) = false ∧ ((s[k].toNat : Int) == 45) = true) ∨ (ltrI (s[k].toNat : Int) = false ∧ digI (s[k].toNat : Int) = false ∧ ((s[k].toNat : Int) == 45) = false ∧ ((s[k].toNat : Int) == 95) = true) ∨ (ltrI (s[k].toNat : Int) = false ∧ digI (s[k].toNat : Int) = false ∧ ((s[k].toNat : Int) == 45) = false ∧ ((s[k].toNat : Int) == 95) = false ∧ ((s[k].toNat : Int) == 46) = true) ∨ (ltrI (s[k].toNat : Int) = false ∧ digI (s[k].toNat : Int) = false ∧ ((s[k].toNat : Int) == 45) = false ∧ ((s[k].toNat : Int) == 95) = false ∧ ((s[k].toNat : Int) == 46) = false ∧ ((s[k].toNat : Int) == 126) = true) := by
          unfold plI at hp
          cases h1 : ltrI (s[k].toNat : Int) <;> cases h2 : digI (s[k].toNat : Int) <;> cases h3 : ((s[k].toNat : Int) == 45) <;> cases h4 : ((s[k].toNat : Int) == 95) <;> cases h5 : ((s[k].toNat : Int) == 46) <;> cases h6 : ((s[k].toNat : Int) == 126) <;> simp_all
        clear hp
        rcases hcase with g1 | ⟨g1, g2⟩ | ⟨g1, g2, g3⟩ | ⟨g1, g2, g3, g4⟩ | ⟨g1, g2, g3, g4, g5⟩ | ⟨g1, g2, g3, g4, g5, g6⟩
        · have tok1 : True := trivial
          go_wp2_with (first
            | (go_at_call 49; refine (isLetter_any _ _ (by omega) (by omega)).mono ?_; rintro e w' ⟨rfl, rfl⟩)
            | (go_at_call 50; refine (isDigit_any _ _ (by omega) (by omega)).mono ?_; rintro e w' ⟨rfl, rfl⟩)
            | (at_builtin; have _t := tok1; go_must (refine wpList_append_rd _ rfl (.tmp 38) (.tmp 40) _ rfl w.heap.size _ _ _ 1 Try.underlying22 infoU8 rfl (by omega) (.slice A n c) n _ rfl (HO.out.alloc _) (wr.heap.size + 1) _ 1 1 _ rfl (rd_new wr 5 [.int .u8 s[k].toNat] 1 rfl (by unfold maxLen; omega)) (by intro u hu; simp only [List.mem_cons, List.not_mem_nil, or_false] at hu; rcases hu with rfl <;> rfl) (by unfold maxLen; omega) (by omega) (by have := HB.out.size; simp; omega) ?_); intro v2 w2 hown2 hg2 hat2; obtain ⟨A5, c5, rfl⟩ := own_form hown2; have hB2 : Below w.heap.size w w2 := (HB.out.alloc HB.out.size _).grown hg2 (by have := HB.out.size; simp; omega) (fun k hk => (HO.out.lt k hk).1); clear tok1))
          go_roundw
          case rel => exact ⟨k + 1, A5, _, c5, by omega, by go_num, rfl, by rw [HE.out, bCells_append, hq]; exact hown2, hB2⟩
          case measure => simp [intOf]; omega
        · have tok1 : True := trivial
          go_wp2_with (first
            | (go_at_call 49; refine (isLetter_any _ _ (by omega) (by omega)).mono ?_; rintro e w' ⟨rfl, rfl⟩)
            | (go_at_call 50; refine (isDigit_any _ _ (by omega) (by omega)).mono ?_; rintro e w' ⟨rfl, rfl⟩)
            | (at_builtin; have _t := tok1; go_must (refine wpList_append_rd _ rfl (.tmp 38) (.tmp 40) _ rfl w.heap.size _ _ _ 1 Try.underlying22 infoU8 rfl (by omega) (.slice A n c) n _ rfl (HO.out.alloc _) (wr.heap.size + 1) _ 1 1 _ rfl (rd_new wr 5 [.int .u8 s[k].toNat] 1 rfl (by unfold maxLen; omega)) (by intro u hu; simp only [List.mem_cons, List.not_mem_nil, or_false] at hu; rcases hu with rfl <;> rfl) (by unfold maxLen; omega) (by omega) (by have := HB.out.size; simp; omega) ?_); intro v2 w2 hown2 hg2 hat2; obtain ⟨A5, c5, rfl⟩ := own_form hown2; have hB2 : Below w.heap.size w w2 := (HB.out.alloc HB.out.size _).grown hg2 (by have := HB.out.size; simp; omega) (fun k hk => (HO.out.lt k hk).1); clear tok1))
          go_roundw
          case rel => exact ⟨k + 1, A5, _, c5, by omega, by go_num, rfl, by rw [HE.out, bCells_append, hq]; exact hown2, hB2⟩
          case measure => simp [intOf]; omega
        · have tok1 : True := trivial
          go_wp2_with (first
            | (go_at_call 49; refine (isLetter_any _ _ (by omega) (by omega)).mono ?_; rintro e w' ⟨rfl, rfl⟩)
            | (go_at_call 50; refine (isDigit_any _ _ (by omega) (by omega)).mono ?_; rintro e w' ⟨rfl, rfl⟩)
            | (at_builtin; have _t := tok1; go_must (refine wpList_append_rd _ rfl (.tmp 38) (.tmp 40) _ rfl w.heap.size _ _ _ 1 Try.underlying22 infoU8 rfl (by omega) (.slice A n c) n _ rfl (HO.out.alloc _) (wr.heap.size + 1) _ 1 1 _ rfl (rd_new wr 5 [.int .u8 s[k].toNat] 1 rfl (by unfold maxLen; omega)) (by intro u hu; simp only [List.mem_cons, List.not_mem_nil, or_false] at hu; rcases hu with rfl <;> rfl) (by unfold maxLen; omega) (by omega) (by have := HB.out.size; simp; omega) ?_); intro v2 w2 hown2 hg2 hat2; obtain ⟨A5, c5, rfl⟩ := own_form hown2; have hB2 : Below w.heap.size w w2 := (HB.out.alloc HB.out.size _).grown hg2 (by have := HB.out.size; simp; omega) (fun k hk => (HO.out.lt k hk).1); clear tok1))
          go_roundw
          case rel => exact ⟨k + 1, A5, _, c5, by omega, by go_num, rfl, by rw [HE.out, bCells_append, hq]; exact hown2, hB2⟩
          case measure => simp [intOf]; omega
        · have tok1 : True := trivial
          go_wp2_with (first
            | (go_at_call 49; refine (isLetter_any _ _ (by omega) (by omega)).mono ?_; rintro e w' ⟨rfl, rfl⟩)
            | (go_at_call 50; refine (isDigit_any _ _ (by omega) (by omega)).mono ?_; rintro e w' ⟨rfl, rfl⟩)
            | (at_builtin; have _t := tok1; go_must (refine wpList_append_rd _ rfl (.tmp 38) (.tmp 40) _ rfl w.heap.size _ _ _ 1 Try.underlying22 infoU8 rfl (by omega) (.slice A n c) n _ rfl (HO.out.alloc _) (wr.heap.size + 1) _ 1 1 _ rfl (rd_new wr 5 [.int .u8 s[k].toNat] 1 rfl (by unfold maxLen; omega)) (by intro u hu; simp only [List.mem_cons, List.not_mem_nil, or_false] at hu; rcases hu with rfl <;> rfl) (by unfold maxLen; omega) (by omega) (by have := HB.out.size; simp; omega) ?_); intro v2 w2 hown2 hg2 hat2; obtain ⟨A5, c5, rfl⟩ := own_form hown2; have hB2 : Below w.heap.size w w2 := (HB.out.alloc HB.out.size _).grown hg2 (by have := HB.out.size; simp; omega) (fun k hk => (HO.out.lt k hk).1); clear tok1))
          go_roundw
          case rel => exact ⟨k + 1, A5, _, c5, by omega, by go_num, rfl, by rw [HE.out, bCells_append, hq]; exact hown2, hB2⟩
          case measure => simp [intOf]; omega
        · have tok1 : True := trivial
          go_wp2_with (first
            | (go_at_call 49; refine (isLetter_any _ _ (by omega) (by omega)).mono ?_; rintro e w' ⟨rfl, rfl⟩)
            | (go_at_call 50; refine (isDigit_any _ _ (by omega) (by omega)).mono ?_; rintro e w' ⟨rfl, rfl⟩)
            | (at_builtin; have _t := tok1; go_must (refine wpList_append_rd _ rfl (.tmp 38) (.tmp 40) _ rfl w.heap.size _ _ _ 1 Try.underlying22 infoU8 rfl (by omega) (.slice A n c) n _ rfl (HO.out.alloc _) (wr.heap.size + 1) _ 1 1 _ rfl (rd_new wr 5 [.int .u8 s[k].toNat] 1 rfl (by unfold maxLen; omega)) (by intro u hu; simp only [List.mem_cons, List.not_mem_nil, or_false] at hu; rcases hu with rfl <;> rfl) (by unfold maxLen; omega) (by omega) (by have := HB.out.size; simp; omega) ?_); intro v2 w2 hown2 hg2 hat2; obtain ⟨A5, c5, rfl⟩ := own_form hown2; have hB2 : Below w.heap.size w w2 := (HB.out.alloc HB.out.size _).grown hg2 (by have := HB.out.size; simp; omega) (fun k hk => (HO.out.lt k hk).1); clear tok1))
          go_roundw
          case rel => exact ⟨k + 1, A5, _, c5, by omega, by go_num, rfl, by rw [HE.out, bCells_append, hq]; exact hown2, hB2⟩
          case measure => simp [intOf]; omega
        · have tok1 : True := trivial
          go_wp2_with (first
            | (go_at_call 49; refine (isLetter_any _ _ (by omega) (by omega)).mono ?_; rintro e w' ⟨rfl, rfl⟩)
            | (go_at_call 50; refine (isDigit_any _ _ (by omega) (by omega)).mono ?_; rintro e w' ⟨rfl, rfl⟩)
            | (at_builtin; have _t := tok1; go_must (refine wpList_append_rd _ rfl (.tmp 38) (.tmp 40) _ rfl w.heap.size _ _ _ 1 Try.underlying22 infoU8 rfl (by omega) (.slice A n c) n _ rfl (HO.out.alloc _) (wr.heap.size + 1) _ 1 1 _ rfl (rd_new wr 5 [.int .u8 s[k].toNat] 1 rfl (by unfold maxLen; omega)) (by intro u hu; simp only [List.mem_cons, List.not_mem_nil, or_false] at hu; rcases hu with rfl <;> rfl) (by unfold maxLen; omega) (by omega) (by have := HB.out.size; simp; omega) ?_); intro v2 w2 hown2 hg2 hat2; obtain ⟨A5, c5, rfl⟩ := own_form hown2; have hB2 : Below w.heap.size w w2 := (HB.out.alloc HB.out.size _).grown hg2 (by have := HB.out.size; simp; omega) (fun k hk => (HO.out.lt k hk).1); clear tok1))
          go_roundw
          case rel => exact ⟨k + 1, A5, _, c5, by omega, by go_num, rfl, by rw [HE.out, bCells_append, hq]; exact hown2, hB2⟩
          case measure => simp [intOf]; omega
      · have hq : escU s[k] = 37 :: hexL s[k] := by unfold escU; rw [if_neg hp]
        have g1 : ltrI (s[k].toNat : Int) = false := by unfold plI at hp; cases h : ltrI (s[k].toNat : Int) <;> simp_all
        have g2 : digI (s[k].toNat : Int) = false := by unfold plI at hp; cases h : digI (s[k].toNat : Int) <;> simp_all
        have g3 : ((s[k].toNat : Int) == 45) = false := by unfold plI at hp; cases h : ((s[k].toNat : Int) == 45) <;> simp_all
        have g4 : ((s[k].toNat : Int) == 95) = false := by unfold plI at hp; cases h : ((s[k].toNat : Int) == 95) <;> simp_all
        have g5 : ((s[k].toNat : Int) == 46) = false := by unfold plI at hp; cases h : ((s[k].toNat : Int) == 46) <;> simp_all
        have g6 : ((s[k].toNat : Int) == 126) = false := by unfold plI at hp; cases h : ((s[k].toNat : Int) == 126) <;> simp_all
        clear hp
        have hd1 : s[k].toNat / 16 < 16 := by have := s[k].toNat_lt; omega
        have hd2 : s[k].toNat % 16 < 16 := by omega
        have hh1 : ∀ W : World, Calls Try.prog 54 #[.int .u8 ((s[k].toNat : Int) / 16)] W fun e w' => e = .returned (.int .u8 (hexD (s[k].toNat / 16)).toNat) ∧ W = w' := fun W => hexUpper_any (s[k].toNat / 16) hd1 W
        have hh2 : ∀ W : World, Calls Try.prog 54 #[.int .u8 ((s[k].toNat : Int) % 16)] W fun e w' => e = .returned (.int .u8 (hexD (s[k].toNat % 16)).toNat) ∧ W = w' := fun W => hexUpper_any (s[k].toNat % 16) hd2 W
        have tok1 : True := trivial
        go_wp2_with (first
          | (go_at_call 49; refine (isLetter_any _ _ (by omega) (by omega)).mono ?_; rintro e w' ⟨rfl, rfl⟩)
          | (go_at_call 50; refine (isDigit_any _ _ (by omega) (by omega)).mono ?_; rintro e w' ⟨rfl, rfl⟩)
          | (go_at_call 54; refine (hh1 _).mono ?_; rintro e w' ⟨rfl, rfl⟩)
          | (go_at_call 54; refine (hh2 _).mono ?_; rintro e w' ⟨rfl, rfl⟩)
          | (at_builtin; have _t := tok1; go_must (refine wpList_append_rd _ rfl (.tmp 42) (.tmp 49) _ rfl w.heap.size _ _ _ 1 Try.underlying22 infoU8 rfl (by omega) (.slice A n c) n _ rfl (HO.out.alloc _) (wr.heap.size + 1) _ 3 3 _ rfl (rd_new wr 5 [.int .u8 37, .int .u8 (hexD (s[k].toNat / 16)).toNat, .int .u8 (hexD (s[k].toNat % 16)).toNat] 3 rfl (by unfold maxLen; omega)) (by intro u hu; simp only [List.mem_cons, List.not_mem_nil, or_false] at hu; rcases hu with rfl | rfl | rfl <;> rfl) (by unfold maxLen; omega) (by omega) (by have := HB.out.size; simp; omega) ?_); intro v2 w2 hown2 hg2 hat2; obtain ⟨A5, c5, rfl⟩ := own_form hown2; have hB2 : Below w.heap.size w w2 := (HB.out.alloc HB.out.size _).grown hg2 (by have := HB.out.size; simp; omega) (fun k hk => (HO.out.lt k hk).1); clear tok1))
        go_roundw
        case rel => exact ⟨k + 1, A5, _, c5, by omega, by go_num, rfl, by rw [HE.out, bCells_append, hq]; exact hown2, hB2⟩
        case measure => simp [intOf]; omega
    · obtain rfl : k = s.size := by omega
      clear hlt
      have hcv := conv_own 22 5 9 Try.prog Try.underlying22 Try.underlying5 Try.underlying9 HO.out
      go_wp2_with fail
      go_ret
      exact ⟨rfl, HB.out⟩
set_option maxHeartbeats 2000000 in
theorem escS_impl (s : ByteArray) (w : World) (hs : s.size ≤ 1000000000000) : Calls Try.prog 41 #[.string s] w fun e w' => e = .returned (.string ⟨(escL escS s s.size).toArray⟩) ∧ Below w.heap.size w w' := by
  go_enter Try.func41, Try.ntmps41
  go_wp2_with fail
  go_loopw [3, 4] (fun v i wr => ∃ (k : Nat) (A : Option Addr) (n c : Nat), k ≤ s.size ∧ i = .int .i64 k ∧ v = .slice A n c ∧ wr.ownsRow w.heap.size 5 1 v n (bCells (escL escS s k)) ∧ Below w.heap.size w wr) (fun _ i _ => s.size - (intOf i).toNat)
  case atStart => exact ⟨0, some ⟨w.heap.size, 0, none⟩, 0, 0, Nat.zero_le _, rfl, rfl, by rw [escL_zero]; exact own_empty w _ _, (Below.refl _ _).alloc (Nat.le_refl _) _⟩
  case round =>
    obtain ⟨k, A, n, c, hk, rfl, rfl, hown, hb⟩ := hrel
    have HO := Lib.hid hown
    have HB := Lib.hid hb
    have hn : n ≤ 6 * k := by
      have e1 := hown.1
      rw [bCells_len] at e1
      have := escL_le escS_le s k
      omega
    clear hown hb
    by_cases hlt : k < s.size
    · have HE := Lib.hid (escL_succ escS s k hlt)
      have hx1 := (u8_lt s[k]).1
      have hx0 := (u8_lt s[k]).2
      have HX := Lib.hid (show s[k] = s[k] from rfl)
      have hidx : ∀ W : World, Calls Try.prog 55 #[.string ⟨#[92, 39, 34, 60, 62, 38]⟩, .int .u8 s[k].toNat] W fun e w' => e = .returned (.int .i64 (Lib.indexByte [92, 39, 34, 60, 62, 38] s[k])) ∧ W = w' := fun W => by
        refine (indexByte_any _ _ W).mono ?_
        rintro e w' ⟨rfl, rfl⟩
        exact ⟨by simp, rfl⟩
      have HI := Lib.hid (idx_bare s[k])
      generalize hid : Lib.indexByte [92, 39, 34, 60, 62, 38] s[k] = idx at *
      clear hid
      by_cases hp : bareI s[k].toNat = true
      · have hq : escS s[k] = [s[k]] := by unfold escS; rw [if_pos hp]
        obtain ⟨i1, i2, i3⟩ := HI.out.1 hp
        have hz1 : ¬ (s[k].toNat : Int) < 32 := i1
        have hz2 : ¬ 126 < (s[k].toNat : Int) := i2
        have hz3 : ¬ 0 ≤ idx := i3
        clear hp i1 i2 i3
        have tok1 : True := trivial
        go_wp2_with (first
          | (go_at_call 55; refine (hidx _).mono ?_; rintro e w' ⟨rfl, rfl⟩)
          | (at_builtin; have _t := tok1; go_must (refine wpList_append_rd _ rfl (.tmp 36) (.tmp 38) _ rfl w.heap.size _ _ _ 1 Try.underlying22 infoU8 rfl (by omega) (.slice A n c) n _ rfl (HO.out.alloc _) (wr.heap.size + 1) _ 1 1 _ rfl (rd_new wr 5 [.int .u8 s[k].toNat] 1 rfl (by unfold maxLen; omega)) (by intro u hu; simp only [List.mem_cons, List.not_mem_nil, or_false] at hu; rcases hu with rfl <;> rfl) (by unfold maxLen; omega) (by omega) (by have := HB.out.size; simp; omega) ?_); intro v2 w2 hown2 hg2 hat2; obtain ⟨A5, c5, rfl⟩ := own_form hown2; have hB2 : Below w.heap.size w w2 := (HB.out.alloc HB.out.size _).grown hg2 (by have := HB.out.size; simp; omega) (fun k hk => (HO.out.lt k hk).1); clear tok1))
        go_roundw
        case rel => exact ⟨k + 1, A5, _, c5, by omega, by go_num, rfl, by rw [HE.out, bCells_append, hq]; exact hown2, hB2⟩
        case measure => simp [intOf]; omega
      · have hq : escS s[k] = 92 :: 120 :: hexL s[k] := by unfold escS; rw [if_neg hp]
        have hcase : (s[k].toNat : Int) < 32 ∨ (¬ (s[k].toNat : Int) < 32 ∧ 126 < (s[k].toNat : Int)) ∨ (¬ (s[k].toNat : Int) < 32 ∧ ¬ 126 < (s[k].toNat : Int) ∧ 0 ≤ idx) := by
          by_cases a1 : (s[k].toNat : Int) < 32
          · exact .inl a1
          · by_cases a2 : 126 < (s[k].toNat : Int)
            · exact .inr (.inl ⟨a1, a2⟩)
            · by_cases a3 : 0 ≤ idx
              · exact .inr (.inr ⟨a1, a2, a3⟩)
              · exact absurd (HI.out.2 a1 a2 a3) hp
        clear hp
        rcases hcase with z1 | ⟨z1, z2⟩ | ⟨z1, z2, z3⟩
        · have hd1 : s[k].toNat / 16 < 16 := by have := s[k].toNat_lt; omega
          have hd2 : s[k].toNat % 16 < 16 := by omega
          have hh1 : ∀ W : World, Calls Try.prog 54 #[.int .u8 ((s[k].toNat : Int) / 16)] W fun e w' => e = .returned (.int .u8 (hexD (s[k].toNat / 16)).toNat) ∧ W = w' := fun W => hexUpper_any (s[k].toNat / 16) hd1 W
          have hh2 : ∀ W : World, Calls Try.prog 54 #[.int .u8 ((s[k].toNat : Int) % 16)] W fun e w' => e = .returned (.int .u8 (hexD (s[k].toNat % 16)).toNat) ∧ W = w' := fun W => hexUpper_any (s[k].toNat % 16) hd2 W
          have tok1 : True := trivial
          go_wp2_with (first
            | (go_at_call 55; refine (hidx _).mono ?_; rintro e w' ⟨rfl, rfl⟩)
            | (go_at_call 54; refine (hh1 _).mono ?_; rintro e w' ⟨rfl, rfl⟩)
            | (go_at_call 54; refine (hh2 _).mono ?_; rintro e w' ⟨rfl, rfl⟩)
            | (at_builtin; have _t := tok1; go_must (refine wpList_append_rd _ rfl (.tmp 27) (.tmp 34) _ rfl w.heap.size _ _ _ 1 Try.underlying22 infoU8 rfl (by omega) (.slice A n c) n _ rfl (HO.out.alloc _) (wr.heap.size + 1) _ 4 4 _ rfl (rd_new wr 5 [.int .u8 92, .int .u8 120, .int .u8 (hexD (s[k].toNat / 16)).toNat, .int .u8 (hexD (s[k].toNat % 16)).toNat] 4 rfl (by unfold maxLen; omega)) (by intro u hu; simp only [List.mem_cons, List.not_mem_nil, or_false] at hu; rcases hu with rfl | rfl | rfl | rfl <;> rfl) (by unfold maxLen; omega) (by omega) (by have := HB.out.size; simp; omega) ?_); intro v2 w2 hown2 hg2 hat2; obtain ⟨A5, c5, rfl⟩ := own_form hown2; have hB2 : Below w.heap.size w w2 := (HB.out.alloc HB.out.size _).grown hg2 (by have := HB.out.size; simp; omega) (fun k hk => (HO.out.lt k hk).1); clear tok1))
          go_roundw
          case rel => exact ⟨k + 1, A5, _, c5, by omega, by go_num, rfl, by rw [HE.out, bCells_append, hq]; exact hown2, hB2⟩
          case measure => simp [intOf]; omega
        · have hd1 : s[k].toNat / 16 < 16 := by have := s[k].toNat_lt; omega
          have hd2 : s[k].toNat % 16 < 16 := by omega
          have hh1 : ∀ W : World, Calls Try.prog 54 #[.int .u8 ((s[k].toNat : Int) / 16)] W fun e w' => e = .returned (.int .u8 (hexD (s[k].toNat / 16)).toNat) ∧ W = w' := fun W => hexUpper_any (s[k].toNat / 16) hd1 W
          have hh2 : ∀ W : World, Calls Try.prog 54 #[.int .u8 ((s[k].toNat : Int) % 16)] W fun e w' => e = .returned (.int .u8 (hexD (s[k].toNat % 16)).toNat) ∧ W = w' := fun W => hexUpper_any (s[k].toNat % 16) hd2 W
          have tok1 : True := trivial
          go_wp2_with (first
            | (go_at_call 55; refine (hidx _).mono ?_; rintro e w' ⟨rfl, rfl⟩)
            | (go_at_call 54; refine (hh1 _).mono ?_; rintro e w' ⟨rfl, rfl⟩)
            | (go_at_call 54; refine (hh2 _).mono ?_; rintro e w' ⟨rfl, rfl⟩)
            | (at_builtin; have _t := tok1; go_must (refine wpList_append_rd _ rfl (.tmp 27) (.tmp 34) _ rfl w.heap.size _ _ _ 1 Try.underlying22 infoU8 rfl (by omega) (.slice A n c) n _ rfl (HO.out.alloc _) (wr.heap.size + 1) _ 4 4 _ rfl (rd_new wr 5 [.int .u8 92, .int .u8 120, .int .u8 (hexD (s[k].toNat / 16)).toNat, .int .u8 (hexD (s[k].toNat % 16)).toNat] 4 rfl (by unfold maxLen; omega)) (by intro u hu; simp only [List.mem_cons, List.not_mem_nil, or_false] at hu; rcases hu with rfl | rfl | rfl | rfl <;> rfl) (by unfold maxLen; omega) (by omega) (by have := HB.out.size; simp; omega) ?_); intro v2 w2 hown2 hg2 hat2; obtain ⟨A5, c5, rfl⟩ := own_form hown2; have hB2 : Below w.heap.size w w2 := (HB.out.alloc HB.out.size _).grown hg2 (by have := HB.out.size; simp; omega) (fun k hk => (HO.out.lt k hk).1); clear tok1))
          go_roundw
          case rel => exact ⟨k + 1, A5, _, c5, by omega, by go_num, rfl, by rw [HE.out, bCells_append, hq]; exact hown2, hB2⟩
          case measure => simp [intOf]; omega
        · have hd1 : s[k].toNat / 16 < 16 := by have := s[k].toNat_lt; omega
          have hd2 : s[k].toNat % 16 < 16 := by omega
          have hh1 : ∀ W : World, Calls Try.prog 54 #[.int .u8 ((s[k].toNat : Int) / 16)] W fun e w' => e = .returned (.int .u8 (hexD (s[k].toNat / 16)).toNat) ∧ W = w' := fun W => hexUpper_any (s[k].toNat / 16) hd1 W
          have hh2 : ∀ W : World, Calls Try.prog 54 #[.int .u8 ((s[k].toNat : Int) % 16)] W fun e w' => e = .returned (.int .u8 (hexD (s[k].toNat % 16)).toNat) ∧ W = w' := fun W => hexUpper_any (s[k].toNat % 16) hd2 W
          have tok1 : True := trivial
          go_wp2_with (first
            | (go_at_call 55; refine (hidx _).mono ?_; rintro e w' ⟨rfl, rfl⟩)
            | (go_at_call 54; refine (hh1 _).mono ?_; rintro e w' ⟨rfl, rfl⟩)
            | (go_at_call 54; refine (hh2 _).mono ?_; rintro e w' ⟨rfl, rfl⟩)
            | (at_builtin; have _t := tok1; go_must (refine wpList_append_rd _ rfl (.tmp 27) (.tmp 34) _ rfl w.heap.size _ _ _ 1 Try.underlying22 infoU8 rfl (by omega) (.slice A n c) n _ rfl (HO.out.alloc _) (wr.heap.size + 1) _ 4 4 _ rfl (rd_new wr 5 [.int .u8 92, .int .u8 120, .int .u8 (hexD (s[k].toNat / 16)).toNat, .int .u8 (hexD (s[k].toNat % 16)).toNat] 4 rfl (by unfold maxLen; omega)) (by intro u hu; simp only [List.mem_cons, List.not_mem_nil, or_false] at hu; rcases hu with rfl | rfl | rfl | rfl <;> rfl) (by unfold maxLen; omega) (by omega) (by have := HB.out.size; simp; omega) ?_); intro v2 w2 hown2 hg2 hat2; obtain ⟨A5, c5, rfl⟩ := own_form hown2; have hB2 : Below w.heap.size w w2 := (HB.out.alloc HB.out.size _).grown hg2 (by have := HB.out.size; simp; omega) (fun k hk => (HO.out.lt k hk).1); clear tok1))
          go_roundw
          case rel => exact ⟨k + 1, A5, _, c5, by omega, by go_num, rfl, by rw [HE.out, bCells_append, hq]; exact hown2, hB2⟩
          case measure => simp [intOf]; omega
    · obtain rfl : k = s.size := by omega
      clear hlt
      have hcv := conv_own 22 5 9 Try.prog Try.underlying22 Try.underlying5 Try.underlying9 HO.out
      go_wp2_with fail
      go_ret
      exact ⟨rfl, HB.out⟩
set_option maxHeartbeats 2000000 in
theorem escH_spec (s : ByteArray) (w : World) (hs : s.size ≤ 1000000000000) : Calls Try.prog 60 #[.string s] w fun e w' => e = .returned (.string ⟨(escL escH s s.size).toArray⟩) ∧ Below w.heap.size w w' := by
  go_enter Try.func60, Try.ntmps60
  go_wp2_with fail
  go_loopw [3, 4] (fun v i wr => ∃ k : Nat, k ≤ s.size ∧ i = .int .i64 k ∧ v = .string ⟨(escL escH s k).toArray⟩ ∧ Below w.heap.size w wr) (fun _ i _ => s.size - (intOf i).toNat)
  case atStart => exact ⟨0, Nat.zero_le _, rfl, by rw [escL_zero], Below.refl _ _⟩
  case round =>
    obtain ⟨k, hk, rfl, rfl, hb⟩ := hrel
    have HB := Lib.hid hb
    have hn : (escL escH s k).length ≤ 6 * k := escL_le escH_le s k
    clear hb
    by_cases hlt : k < s.size
    · have HE := Lib.hid (escL_succ escH s k hlt)
      have hx1 := (u8_lt s[k]).1
      have hx0 := (u8_lt s[k]).2
      have hsz : (⟨(escL escH s k).toArray⟩ : ByteArray).size = (escL escH s k).length := by show (escL escH s k).toArray.size = _; simp
      have HSZ := Lib.hid hsz
      have HAPP := Lib.hid (fun t : List UInt8 => str_app (escL escH s k) t)
      have hszb : (⟨(escL escH s k).toArray⟩ : ByteArray).size ≤ 6000000000000 := by omega
      clear hsz
      generalize hg : (⟨(escL escH s k).toArray⟩ : ByteArray) = u at *
      clear hg
      have hsz2 : (⟨(escH s[k]).toArray⟩ : ByteArray).size ≤ 6 := by show (escH s[k]).toArray.size ≤ 6; simpa using escH_le s[k]
      have HA := Lib.hid (HAPP.out (escH s[k]))
      have hent : ∀ W : World, Calls Try.prog 64 #[.int .u8 s[k].toNat] W fun e w' => e = .returned (.string ⟨(escH s[k]).toArray⟩) ∧ Below W.heap.size W w' := l4Entity_any s[k]
      generalize hg2 : (⟨(escH s[k]).toArray⟩ : ByteArray) = t at *
      clear hg2
      go_wp2_with (go_at_call 64; refine (hent _).mono ?_; rintro e w1 ⟨rfl, hb1⟩)
      go_roundw
      case rel => exact ⟨k + 1, by omega, by go_num, by rw [HE.out, ← HA.out], HB.out.trans (hb1.mono HB.out.size)⟩
      case measure => simp [intOf]; omega
    · obtain rfl : k = s.size := by omega
      clear hlt
      go_wp2_with fail
      go_ret
      exact ⟨rfl, HB.out⟩
set_option maxHeartbeats 2000000 in
theorem escU_spec (s : ByteArray) (w : World) (hs : s.size ≤ 1000000000000) : Calls Try.prog 61 #[.string s] w fun e w' => e = .returned (.string ⟨(escL escU s s.size).toArray⟩) ∧ Below w.heap.size w w' := by
  go_enter Try.func61, Try.ntmps61
  go_wp2_with fail
  go_loopw [3, 4] (fun v i wr => ∃ k : Nat, k ≤ s.size ∧ i = .int .i64 k ∧ v = .string ⟨(escL escU s k).toArray⟩ ∧ Below w.heap.size w wr) (fun _ i _ => s.size - (intOf i).toNat)
  case atStart => exact ⟨0, Nat.zero_le _, rfl, by rw [escL_zero], Below.refl _ _⟩
  case round =>
    obtain ⟨k, hk, rfl, rfl, hb⟩ := hrel
    have HB := Lib.hid hb
    have hn : (escL escU s k).length ≤ 6 * k := escL_le escU_le s k
    clear hb
    by_cases hlt : k < s.size
    · have HE := Lib.hid (escL_succ escU s k hlt)
      have hx1 := (u8_lt s[k]).1
      have hx0 := (u8_lt s[k]).2
      have hsz : (⟨(escL escU s k).toArray⟩ : ByteArray).size = (escL escU s k).length := by show (escL escU s k).toArray.size = _; simp
      have HSZ := Lib.hid hsz
      have HAPP := Lib.hid (fun t : List UInt8 => str_app (escL escU s k) t)
      have hszb : (⟨(escL escU s k).toArray⟩ : ByteArray).size ≤ 6000000000000 := by omega
      clear hsz
      generalize hg : (⟨(escL escU s k).toArray⟩ : ByteArray) = u at *
      clear hg
      have hx : s.extract k (k + 1) = ⟨[s[k]].toArray⟩ := ext_one s k hlt
      by_cases hp : plI s[k].toNat = true
      · have hq : escU s[k] = [s[k]] := by unfold escU; rw [if_pos hp]
        have HA := Lib.hid (HAPP.out [s[k]])
        have hsz2 : (⟨[s[k]].toArray⟩ : ByteArray).size ≤ 1 := Nat.le_refl 1
        go_wp2_with (go_at_call 65; refine (l4Plain_any _ _ (by omega) (by omega)).mono ?_; rintro e w1 ⟨rfl, rfl⟩)
        go_roundw
        case rel => exact ⟨k + 1, by omega, by go_num, by rw [HE.out, hq, ← HA.out], HB.out⟩
        case measure => simp [intOf]; omega
      · have hq : escU s[k] = [37] ++ hexL s[k] := by unfold escU; rw [if_neg hp]; rfl
        have hp' : plI s[k].toNat = false := by simpa using hp
        clear hp
        have HA := Lib.hid ((HAPP.out ([37] ++ hexL s[k])))
        have HA2 := Lib.hid (str_app [37] (hexL s[k]))
        have hsz2 : (⟨(hexL s[k]).toArray⟩ : ByteArray).size = 2 := rfl
        have HCT := Lib.hid (l4Hex_any s[k])
        generalize hg2 : (⟨(hexL s[k]).toArray⟩ : ByteArray) = t at *
        clear hg2
        go_wp2_with (first | (go_at_call 65; refine (l4Plain_any _ _ (by omega) (by omega)).mono ?_; rintro e w1 ⟨rfl, rfl⟩) | (go_at_call 66; refine (HCT.out _).mono ?_; rintro e w1 ⟨rfl, hb1⟩))
        go_roundw
        case rel => exact ⟨k + 1, by omega, by go_num, by rw [HE.out, hq, ← HA.out, ← HA2.out, ByteArray.append_assoc], HB.out.trans (hb1.mono HB.out.size)⟩
        case measure => simp [intOf]; omega
    · obtain rfl : k = s.size := by omega
      clear hlt
      go_wp2_with fail
      go_ret
      exact ⟨rfl, HB.out⟩
set_option maxHeartbeats 2000000 in
theorem escS_spec (s : ByteArray) (w : World) (hs : s.size ≤ 1000000000000) : Calls Try.prog 62 #[.string s] w fun e w' => e = .returned (.string ⟨(escL escS s s.size).toArray⟩) ∧ Below w.heap.size w w' := by
  go_enter Try.func62, Try.ntmps62
  go_wp2_with fail
  go_loopw [3, 4] (fun v i wr => ∃ k : Nat, k ≤ s.size ∧ i = .int .i64 k ∧ v = .string ⟨(escL escS s k).toArray⟩ ∧ Below w.heap.size w wr) (fun _ i _ => s.size - (intOf i).toNat)
  case atStart => exact ⟨0, Nat.zero_le _, rfl, by rw [escL_zero], Below.refl _ _⟩
  case round =>
    obtain ⟨k, hk, rfl, rfl, hb⟩ := hrel
    have HB := Lib.hid hb
    have hn : (escL escS s k).length ≤ 6 * k := escL_le escS_le s k
    clear hb
    by_cases hlt : k < s.size
    · have HE := Lib.hid (escL_succ escS s k hlt)
      have hx1 := (u8_lt s[k]).1
      have hx0 := (u8_lt s[k]).2
      have hsz : (⟨(escL escS s k).toArray⟩ : ByteArray).size = (escL escS s k).length := by show (escL escS s k).toArray.size = _; simp
      have HSZ := Lib.hid hsz
      have HAPP := Lib.hid (fun t : List UInt8 => str_app (escL escS s k) t)
      have hszb : (⟨(escL escS s k).toArray⟩ : ByteArray).size ≤ 6000000000000 := by omega
      clear hsz
      generalize hg : (⟨(escL escS s k).toArray⟩ : ByteArray) = u at *
      clear hg
      have hx : s.extract k (k + 1) = ⟨[s[k]].toArray⟩ := ext_one s k hlt
      by_cases hp : bareI s[k].toNat = true
      · have hq : escS s[k] = [s[k]] := by unfold escS; rw [if_pos hp]
        have HA := Lib.hid (HAPP.out [s[k]])
        have hsz2 : (⟨[s[k]].toArray⟩ : ByteArray).size ≤ 1 := Nat.le_refl 1
        go_wp2_with (go_at_call 67; refine (l4Bare_any _ _ (by omega) (by omega)).mono ?_; rintro e w1 ⟨rfl, rfl⟩)
        go_roundw
        case rel => exact ⟨k + 1, by omega, by go_num, by rw [HE.out, hq, ← HA.out], HB.out⟩
        case measure => simp [intOf]; omega
      · have hq : escS s[k] = [92, 120] ++ hexL s[k] := by unfold escS; rw [if_neg hp]; rfl
        have hp' : bareI s[k].toNat = false := by simpa using hp
        clear hp
        have HA := Lib.hid ((HAPP.out ([92, 120] ++ hexL s[k])))
        have HA2 := Lib.hid (str_app [92, 120] (hexL s[k]))
        have hsz2 : (⟨(hexL s[k]).toArray⟩ : ByteArray).size = 2 := rfl
        have HCT := Lib.hid (l4Hex_any s[k])
        generalize hg2 : (⟨(hexL s[k]).toArray⟩ : ByteArray) = t at *
        clear hg2
        go_wp2_with (first | (go_at_call 67; refine (l4Bare_any _ _ (by omega) (by omega)).mono ?_; rintro e w1 ⟨rfl, rfl⟩) | (go_at_call 66; refine (HCT.out _).mono ?_; rintro e w1 ⟨rfl, hb1⟩))
        go_roundw
        case rel => exact ⟨k + 1, by omega, by go_num, by rw [HE.out, hq, ← HA.out, ← HA2.out, ByteArray.append_assoc], HB.out.trans (hb1.mono HB.out.size)⟩
        case measure => simp [intOf]; omega
    · obtain rfl : k = s.size := by omega
      clear hlt
      go_wp2_with fail
      go_ret
      exact ⟨rfl, HB.out⟩
def escF (x : Int) (s : ByteArray) : ByteArray := if x = 1 then ⟨(escL escH s s.size).toArray⟩ else if x = 2 then ⟨(escL escU s s.size).toArray⟩ else if x = 3 then ⟨(escL escS s s.size).toArray⟩ else s
theorem escF_le (x : Int) (s : ByteArray) : (escF x s).size ≤ 6 * s.size := by
  have hz : ∀ l : List UInt8, (⟨l.toArray⟩ : ByteArray).size = l.length := fun l => by show l.toArray.size = _; simp
  unfold escF
  split
  · rw [hz]; exact escL_le escH_le s _
  · split
    · rw [hz]; exact escL_le escU_le s _
    · split
      · rw [hz]; exact escL_le escS_le s _
      · omega
theorem escIn_impl (x : Int) (s : ByteArray) (w : World) (hs : s.size ≤ 1000000000000) : Calls Try.prog 16 #[.int .i64 x, .string s] w fun e w' => e = .returned (.string (escF x s)) ∧ Below w.heap.size w w' := by
  by_cases h1 : x = 1
  · subst h1
    go_enter Try.func16, Try.ntmps16
    go_wp2_with (go_at_call 39; refine (escH_impl s _ hs).mono ?_; rintro e w1 ⟨rfl, hb⟩)
    go_ret
    exact ⟨rfl, hb⟩
  by_cases h2 : x = 2
  · subst h2
    go_enter Try.func16, Try.ntmps16
    go_wp2_with (go_at_call 40; refine (escU_impl s _ hs).mono ?_; rintro e w1 ⟨rfl, hb⟩)
    go_ret
    exact ⟨rfl, hb⟩
  by_cases h3 : x = 3
  · subst h3
    go_enter Try.func16, Try.ntmps16
    go_wp2_with (go_at_call 41; refine (escS_impl s _ hs).mono ?_; rintro e w1 ⟨rfl, hb⟩)
    go_ret
    exact ⟨rfl, hb⟩
  have e1 : (x == 1) = false := by simpa using h1
  have e2 : (x == 2) = false := by simpa using h2
  have e3 : (x == 3) = false := by simpa using h3
  have he := Lib.hid (show escF x s = s by unfold escF; rw [if_neg h1, if_neg h2, if_neg h3])
  clear h1 h2 h3
  go_enter Try.func16, Try.ntmps16
  go_wp2_with fail
  go_ret
  exact ⟨ret_str he.out.symm, Below.refl _ _⟩
theorem escIn_spec (x : Int) (s : ByteArray) (w : World) (hs : s.size ≤ 1000000000000) : Calls Try.prog 58 #[.int .i64 x, .string s] w fun e w' => e = .returned (.string (escF x s)) ∧ Below w.heap.size w w' := by
  by_cases h1 : x = 1
  · subst h1
    go_enter Try.func58, Try.ntmps58
    go_wp2_with (go_at_call 60; refine (escH_spec s _ hs).mono ?_; rintro e w1 ⟨rfl, hb⟩)
    go_ret
    exact ⟨rfl, hb⟩
  by_cases h2 : x = 2
  · subst h2
    go_enter Try.func58, Try.ntmps58
    go_wp2_with (go_at_call 61; refine (escU_spec s _ hs).mono ?_; rintro e w1 ⟨rfl, hb⟩)
    go_ret
    exact ⟨rfl, hb⟩
  by_cases h3 : x = 3
  · subst h3
    go_enter Try.func58, Try.ntmps58
    go_wp2_with (go_at_call 62; refine (escS_spec s _ hs).mono ?_; rintro e w1 ⟨rfl, hb⟩)
    go_ret
    exact ⟨rfl, hb⟩
  have e1 : (x == 1) = false := by simpa using h1
  have e2 : (x == 2) = false := by simpa using h2
  have e3 : (x == 3) = false := by simpa using h3
  have he := Lib.hid (show escF x s = s by unfold escF; rw [if_neg h1, if_neg h2, if_neg h3])
  clear h1 h2 h3
  go_enter Try.func58, Try.ntmps58
  go_wp2_with fail
  go_ret
  exact ⟨ret_str he.out.symm, Below.refl _ _⟩
end Go.Proofs.Ytnbedjfmhnpjaaa
