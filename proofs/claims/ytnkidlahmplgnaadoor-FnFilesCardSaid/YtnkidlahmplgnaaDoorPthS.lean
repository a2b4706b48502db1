/-
  SplitPath of package spec. Conditions: none.
-/
import Derived.Test.YtnkidlahmplgnaaDoorPthC
import Derived.Deep.DeepMust
import Derived.WalkSmall
namespace Go.Proofs.YtnkidlahmplgnaaDoor
open Go.ChangeShapes Go.WideShapes Go.ChangeAt Go.RowKit Go.Deep Go.Joins Go.Shelf
open Go.ChangeMaps (open_string shut_string)
set_option linter.unusedVariables false
set_option linter.unusedSimpArgs false
set_option maxRecDepth 100000
set_option maxHeartbeats 8000000 in
theorem SplitPath_spec (s : ByteArray) (w : World) (hs : s.size ≤ 1048576) :
    Calls Tryd.prog 42 #[.string s] w fun e w' => ∃ A c, e = .returned (.tuple #[.slice A (spV s).length c, .bool (spB s)]) ∧ w'.ownsRow w.heap.size 9 1 (.slice A (spV s).length c) (spV s).length ((spV s).map Value.string) ∧ Below w.heap.size w w' := by
  have HE := Lib.hid (show ∀ (w' : World) (q : List ByteArray) (b : Bool), spV s = q → spB s = b → ∀ (A : Option Addr) (c : Nat), w'.ownsRow w.heap.size 9 1 (.slice A q.length c) q.length (q.map Value.string) → Below w.heap.size w w' → ∃ A' c', Ending.returned (.tuple #[.slice A q.length c, .bool b]) = Ending.returned (.tuple #[.slice A' (spV s).length c', .bool (spB s)]) ∧ w'.ownsRow w.heap.size 9 1 (.slice A' (spV s).length c') (spV s).length ((spV s).map Value.string) ∧ Below w.heap.size w w' from by
    rintro w' q b rfl rfl A c h1 h2
    exact ⟨A, c, rfl, h1, h2⟩)
  go_enter Tryd.func42, Tryd.ntmps42
  go_wp2_with fail
  go_loopw [4, 5, 6] (fun v a i wr => SRel w s v a i wr) (fun _ _ i _ => s.size + 2 - (intOf i).toNat)
  case atStart =>
    unfold SRel
    exact ⟨0, 0, w.heap.size, 0, [], rfl, rfl, rfl, by simpa [STbl] using own_empty w 9 1, .inl ⟨Nat.zero_le _, Nat.le_refl _, fun j h1 h2 => absurd h2 (by omega), rfl⟩, (Below.refl _ _).alloc (Nat.le_refl _) _, Nat.le_refl _⟩
  case round =>
    obtain ⟨k, b, g, c, acc, rfl, rfl, rfl, own, hst, hb, hacc⟩ := hrel
    have OWN := Lib.hid own
    have HB := Lib.hid hb
    have hbs := hb.size
    have hlm := STbl.lt own
    obtain ⟨hlm1, hlm2⟩ := hlm
    clear own hb
    rcases hst with ⟨hk, hbk, hno, hfo⟩ | ⟨rfl, hfin⟩
    · have hk3 : k ≤ 1048576 := by omega
      have hle : decide ((k : Int) ≤ (s.size : Int)) = true := decide_eq_true (by omega)
      have HFO := Lib.hid hfo
      have HNO := Lib.hid hno
      clear hfo hno
      by_cases hlt : k < s.size
      · have hd : decide ((k : Int) < (s.size : Int)) = true := decide_eq_true (by omega)
        have hd2 : decide (k < s.size) = true := decide_eq_true hlt
        have hgb := getD_b s k hlt
        by_cases h47 : s[k] = 47
        · have hn47 : ((s[k].toNat : Int) != 47) = false := by rw [h47]; rfl
          have hp1 := pcs_hit s b k hbk hlt HNO.out (by rw [hgb, h47])
          obtain ⟨p, hp⟩ : ∃ p, p = s.extract b k := ⟨_, rfl⟩
          obtain ⟨rest, hrest⟩ : ∃ rest, rest = pcs s (k + 1) := ⟨_, rfl⟩
          rw [← hp, ← hrest] at hp1
          have hpe : s.extract b k = p := hp.symm
          have hps : p.size ≤ 9223372036854775807 := by rw [hp, ByteArray.size_extract]; omega
          have HDR := Lib.hid hp1
          have HNX := Lib.hid (fun (acc' : List ByteArray) (h : foldP rest acc' = spO s) => (Or.inl ⟨by omega, Nat.le_refl _, fun j h1 h2 => absurd h2 (by omega), by rw [← hrest]; exact h⟩ : (k + 1 ≤ s.size ∧ k + 1 ≤ k + 1 ∧ (∀ j, k + 1 ≤ j → j < k + 1 → s.data.toList[j]? ≠ some 47) ∧ foldP (pcs s (k + 1)) acc' = spO s) ∨ (k + 1 = s.size + 1 ∧ spO s = some acc')))
          clear hp1 hp hrest hgb
          cases q0 : (p.toList == ([] : List UInt8)) with
          | true =>
            have q0a : (p.toList == []) = true := q0
            have q0b : (p.toList == (ByteArray.mk #[]).toList) = true := by rw [lit0]; exact q0
            have q0c : p.toList.isEmpty = true := by rw [← q0]; cases p.toList <;> rfl
            have q0d : (p.toList == ByteArray.empty.toList) = true := by rw [lit0e]; exact q0
            have HF := Lib.hid (fold_e (r := rest) (acc := acc) q0)
            clear q0
            go_wp2_with fail
            go_roundw
            case rel =>
              unfold SRel
              exact ⟨k + 1, k + 1, g, c, acc, by go_num, by go_num, rfl, OWN.out, HNX.out _ (by rw [← HF.out, ← HDR.out]; exact HFO.out), HB.out, by omega⟩
            case measure => simp [intOf]; omega
          | false =>
          have q0a : (p.toList == []) = false := q0
          have q0b : (p.toList == (ByteArray.mk #[]).toList) = false := by rw [lit0]; exact q0
          have q0c : p.toList.isEmpty = false := by rw [← q0]; cases p.toList <;> rfl
          have q0d : (p.toList == ByteArray.empty.toList) = false := by rw [lit0e]; exact q0
          have Q0 := Lib.hid q0
          clear q0
          cases q1 : (p.toList == dotL) with
          | true =>
            have q1a : (p.toList == [46]) = true := q1
            have q1b : (p.toList == (ByteArray.mk #[46]).toList) = true := by rw [lit1]; exact q1
            have HF := Lib.hid (fold_d (r := rest) (acc := acc) Q0.out q1)
            clear q1
            go_wp2_with fail
            go_roundw
            case rel =>
              unfold SRel
              exact ⟨k + 1, k + 1, g, c, acc, by go_num, by go_num, rfl, OWN.out, HNX.out _ (by rw [← HF.out, ← HDR.out]; exact HFO.out), HB.out, by omega⟩
            case measure => simp [intOf]; omega
          | false =>
          have q1a : (p.toList == [46]) = false := q1
          have q1b : (p.toList == (ByteArray.mk #[46]).toList) = false := by rw [lit1]; exact q1
          have Q1 := Lib.hid q1
          clear q1
          cases q2 : (p.toList == upL) with
          | true =>
            have q2a : (p.toList == [46, 46]) = true := q2
            have q2b : (p.toList == (ByteArray.mk #[46, 46]).toList) = true := by rw [lit2]; exact q2
            by_cases hz : acc.length = 0
            · have dz : ((acc.length : Int) == 0) = true := by simp [hz]
              have HF := Lib.hid (fold_u0 (r := rest) (acc := acc) Q0.out Q1.out q2 hz)
              clear q2
              obtain ⟨e1, e2⟩ := sp_none (s := s) (by rw [← HFO.out, HDR.out, HF.out])
              have EE := Lib.hid (And.intro e1 e2)
              clear e1 e2
              go_wp2_with fail
              go_ret2
              exact HE.out _ [] false EE.out.1 EE.out.2 _ _ (ownsRow_le (own_empty _ 9 1) (by have := HB.out.size; omega)) (HB.out.alloc HB.out.size _)
            have dz : ((acc.length : Int) == 0) = false := by simp [hz]
            have HF := Lib.hid (fold_u (r := rest) (acc := acc) Q0.out Q1.out q2 hz)
            obtain ⟨acc2, x, hax⟩ := slast acc hz
            have HF2 := Lib.hid (show foldP (p :: rest) (acc2 ++ [x]) = foldP rest acc2 from by rw [← hax, HF.out, hax, List.dropLast_concat])
            subst hax
            have O2 := Lib.hid (STbl.pop OWN.out)
            have hcap := STbl.cap OWN.out
            have hl2 : (acc2 ++ [x]).length = acc2.length + 1 := by simp
            rw [hl2] at hcap hacc
            clear q2 HF hz
            go_wp2_with fail
            go_roundw
            case rel =>
              unfold SRel
              exact ⟨k + 1, k + 1, g, c, acc2, by go_num, by go_num, rfl, O2.out, HNX.out _ (by rw [← HF2.out, ← HDR.out]; exact HFO.out), HB.out, by omega⟩
            case measure => simp [intOf]; omega
          | false =>
          have q2a : (p.toList == [46, 46]) = false := q2
          have q2b : (p.toList == (ByteArray.mk #[46, 46]).toList) = false := by rw [lit2]; exact q2
          have Q2 := Lib.hid q2
          clear q2
          cases q3 : partF p with
          | false =>
            have Q3 := Lib.hid (show (decide (1 ≤ p.size) && partF p) = false from by rw [q3]; simp)
            have HF := Lib.hid (fold_n (r := rest) (acc := acc) Q0.out Q1.out Q2.out q3)
            clear q3
            obtain ⟨e1, e2⟩ := sp_none (s := s) (by rw [← HFO.out, HDR.out, HF.out])
            have EE := Lib.hid (And.intro e1 e2)
            clear e1 e2
            go_wp2_with (go_at_call 51; refine (part_spec p _ hps).mono ?_; rw [Q3.out]; rintro e w' ⟨rfl, rfl⟩)
            go_ret2
            exact HE.out _ [] false EE.out.1 EE.out.2 _ _ (ownsRow_le (own_empty _ 9 1) (by have := HB.out.size; omega)) (HB.out.alloc HB.out.size _)
          | true =>
            have Q3 := Lib.hid (show (decide (1 ≤ p.size) && partF p) = true from by rw [q3, decide_eq_true (nonempty_size Q0.out)]; rfl)
            have HF := Lib.hid (fold_p (r := rest) (acc := acc) Q0.out Q1.out Q2.out q3)
            clear q3
            have RDX := Lib.hid (srd_one wr (.string p) 9)
            have L1 := Lib.hid (STbl.lt OWN.out)
            go_wp2_with (first | (go_at_call 51; refine (part_spec p _ hps).mono ?_; rw [Q3.out]; rintro e w' ⟨rfl, rfl⟩) | (at_builtin; go_must (refine wpList_append_rd _ rfl (.tmp 31) (.tmp 33) _ rfl w.heap.size _ _ _ 16 Tryd.underlying27 sInfo rfl (by omega) (.slice (some ⟨g, 0, none⟩) acc.length c) _ _ rfl (OWN.out.alloc _) (wr.heap.size + 1) _ 1 _ [.string p] rfl RDX.out (by intro u hu; simp only [List.mem_cons, List.not_mem_nil, or_false] at hu; rcases hu with rfl; rfl) (by unfold maxLen; omega) (by omega) (by simp; omega) ?_); intro v2 w4 hown2 hg2 hat2; obtain ⟨A6, c6, rfl⟩ := own_form hown2; have HG2 := Lib.hid hg2; have HW2 := Lib.hid hown2; have HA2 := Lib.hid hat2; clear hg2 hat2 hown2))
            go_roundw
            case rel =>
              have hown2 := HW2.out
              have hg2 : (wr.alloc (.cells #[.string p] 9)).grownBy w4 (some g) := HG2.out
              have hat2 := HA2.out
              rcases own_row hown2 with ⟨hv, h0, _⟩ | ⟨g6, cap6, f6, hv, _, _, _, _, _⟩
              · omega
              injection hv with e1 e2 e3
              subst e1
              have T2 : STbl w4 w.heap.size g6 c6 (acc ++ [p]) := by
                unfold STbl
                rw [List.length_append, List.map_append]
                exact hown2
              have hl1 := L1.out
              unfold SRel
              exact ⟨k + 1, k + 1, g6, c6, acc ++ [p], by go_num, by go_num, by rw [List.length_append]; rfl, T2, HNX.out _ (by rw [← HF.out, ← HDR.out]; exact HFO.out), (HB.out.alloc HB.out.size _).grown hg2 (by have := HB.out.size; simp; omega) (fun j hj => by have := Option.some.inj hj; omega), (by rw [List.length_append]; simp; omega)⟩
            case measure => simp [intOf]; omega
        · have hn47 : ((s[k].toNat : Int) != 47) = true := by
            rw [bne_iff_ne]
            intro e
            exact h47 (UInt8.toNat_inj.1 (by have h : ((47 : UInt8).toNat) = 47 := rfl; omega))
          have HG := Lib.hid hgb
          have H47 := Lib.hid h47
          clear hgb h47
          go_wp2_with fail
          go_roundw
          case rel =>
            unfold SRel
            refine ⟨k + 1, b, g, c, acc, by go_num, rfl, rfl, OWN.out, .inl ⟨by omega, by omega, fun j h1 h2 => ?_, HFO.out⟩, HB.out, by omega⟩
            by_cases e : j < k
            · exact HNO.out j h1 e
            · obtain rfl : j = k := by omega
              rw [HG.out]
              exact fun e => H47.out (Option.some.inj e)
          case measure => simp [intOf]; omega
      · obtain rfl : k = s.size := by omega
        have hd : decide ((s.size : Int) < (s.size : Int)) = false := decide_eq_false (by omega)
        clear hlt
        obtain ⟨k, hkk⟩ : ∃ k, k = s.size := ⟨_, rfl⟩
        have hp1 := pcs_end s b hbk HNO.out
        obtain ⟨p, hp⟩ : ∃ p, p = s.extract b s.size := ⟨_, rfl⟩
        obtain ⟨rest, hrest⟩ : ∃ rest : List ByteArray, rest = [] := ⟨_, rfl⟩
        rw [← hp, ← hrest] at hp1
        have hpe : s.extract b s.size = p := hp.symm
        have hps : p.size ≤ 9223372036854775807 := by rw [hp, ByteArray.size_extract]; omega
        have HDR := Lib.hid hp1
        have HNX := Lib.hid (fun (acc' : List ByteArray) (h : foldP rest acc' = spO s) => (show spO s = some acc' from by rw [← h, hrest]; rfl))
        clear hp1 hp hrest hkk k
        cases q0 : (p.toList == ([] : List UInt8)) with
        | true =>
          have q0a : (p.toList == []) = true := q0
          have q0b : (p.toList == (ByteArray.mk #[]).toList) = true := by rw [lit0]; exact q0
          have q0c : p.toList.isEmpty = true := by rw [← q0]; cases p.toList <;> rfl
          have q0d : (p.toList == ByteArray.empty.toList) = true := by rw [lit0e]; exact q0
          have HF := Lib.hid (fold_e (r := rest) (acc := acc) q0)
          clear q0
          go_wp2_with fail
          go_roundw
          case rel =>
            unfold SRel
            exact ⟨s.size + 1, s.size + 1, g, c, acc, by go_num, by go_num, rfl, OWN.out, .inr ⟨rfl, HNX.out _ (by rw [← HF.out, ← HDR.out]; exact HFO.out)⟩, HB.out, by omega⟩
          case measure => simp [intOf] <;> omega
        | false =>
        have q0a : (p.toList == []) = false := q0
        have q0b : (p.toList == (ByteArray.mk #[]).toList) = false := by rw [lit0]; exact q0
        have q0c : p.toList.isEmpty = false := by rw [← q0]; cases p.toList <;> rfl
        have q0d : (p.toList == ByteArray.empty.toList) = false := by rw [lit0e]; exact q0
        have Q0 := Lib.hid q0
        clear q0
        cases q1 : (p.toList == dotL) with
        | true =>
          have q1a : (p.toList == [46]) = true := q1
          have q1b : (p.toList == (ByteArray.mk #[46]).toList) = true := by rw [lit1]; exact q1
          have HF := Lib.hid (fold_d (r := rest) (acc := acc) Q0.out q1)
          clear q1
          go_wp2_with fail
          go_roundw
          case rel =>
            unfold SRel
            exact ⟨s.size + 1, s.size + 1, g, c, acc, by go_num, by go_num, rfl, OWN.out, .inr ⟨rfl, HNX.out _ (by rw [← HF.out, ← HDR.out]; exact HFO.out)⟩, HB.out, by omega⟩
          case measure => simp [intOf] <;> omega
        | false =>
        have q1a : (p.toList == [46]) = false := q1
        have q1b : (p.toList == (ByteArray.mk #[46]).toList) = false := by rw [lit1]; exact q1
        have Q1 := Lib.hid q1
        clear q1
        cases q2 : (p.toList == upL) with
        | true =>
          have q2a : (p.toList == [46, 46]) = true := q2
          have q2b : (p.toList == (ByteArray.mk #[46, 46]).toList) = true := by rw [lit2]; exact q2
          by_cases hz : acc.length = 0
          · have dz : ((acc.length : Int) == 0) = true := by simp [hz]
            have HF := Lib.hid (fold_u0 (r := rest) (acc := acc) Q0.out Q1.out q2 hz)
            clear q2
            obtain ⟨e1, e2⟩ := sp_none (s := s) (by rw [← HFO.out, HDR.out, HF.out])
            have EE := Lib.hid (And.intro e1 e2)
            clear e1 e2
            go_wp2_with fail
            go_ret2
            exact HE.out _ [] false EE.out.1 EE.out.2 _ _ (ownsRow_le (own_empty _ 9 1) (by have := HB.out.size; omega)) (HB.out.alloc HB.out.size _)
          have dz : ((acc.length : Int) == 0) = false := by simp [hz]
          have HF := Lib.hid (fold_u (r := rest) (acc := acc) Q0.out Q1.out q2 hz)
          obtain ⟨acc2, x, hax⟩ := slast acc hz
          have HF2 := Lib.hid (show foldP (p :: rest) (acc2 ++ [x]) = foldP rest acc2 from by rw [← hax, HF.out, hax, List.dropLast_concat])
          subst hax
          have O2 := Lib.hid (STbl.pop OWN.out)
          have hcap := STbl.cap OWN.out
          have hl2 : (acc2 ++ [x]).length = acc2.length + 1 := by simp
          rw [hl2] at hcap hacc
          clear q2 HF hz
          go_wp2_with fail
          go_roundw
          case rel =>
            unfold SRel
            exact ⟨s.size + 1, s.size + 1, g, c, acc2, by go_num, by go_num, rfl, O2.out, .inr ⟨rfl, HNX.out _ (by rw [← HF2.out, ← HDR.out]; exact HFO.out)⟩, HB.out, by omega⟩
          case measure => simp [intOf] <;> omega
        | false =>
        have q2a : (p.toList == [46, 46]) = false := q2
        have q2b : (p.toList == (ByteArray.mk #[46, 46]).toList) = false := by rw [lit2]; exact q2
        have Q2 := Lib.hid q2
        clear q2
        cases q3 : partF p with
        | false =>
          have Q3 := Lib.hid (show (decide (1 ≤ p.size) && partF p) = false from by rw [q3]; simp)
          have HF := Lib.hid (fold_n (r := rest) (acc := acc) Q0.out Q1.out Q2.out q3)
          clear q3
          obtain ⟨e1, e2⟩ := sp_none (s := s) (by rw [← HFO.out, HDR.out, HF.out])
          have EE := Lib.hid (And.intro e1 e2)
          clear e1 e2
          go_wp2_with (go_at_call 51; refine (part_spec p _ hps).mono ?_; rw [Q3.out]; rintro e w' ⟨rfl, rfl⟩)
          go_ret2
          exact HE.out _ [] false EE.out.1 EE.out.2 _ _ (ownsRow_le (own_empty _ 9 1) (by have := HB.out.size; omega)) (HB.out.alloc HB.out.size _)
        | true =>
          have Q3 := Lib.hid (show (decide (1 ≤ p.size) && partF p) = true from by rw [q3, decide_eq_true (nonempty_size Q0.out)]; rfl)
          have HF := Lib.hid (fold_p (r := rest) (acc := acc) Q0.out Q1.out Q2.out q3)
          clear q3
          have RDX := Lib.hid (srd_one wr (.string p) 9)
          have L1 := Lib.hid (STbl.lt OWN.out)
          go_wp2_with (first | (go_at_call 51; refine (part_spec p _ hps).mono ?_; rw [Q3.out]; rintro e w' ⟨rfl, rfl⟩) | (at_builtin; go_must (refine wpList_append_rd _ rfl (.tmp 31) (.tmp 33) _ rfl w.heap.size _ _ _ 16 Tryd.underlying27 sInfo rfl (by omega) (.slice (some ⟨g, 0, none⟩) acc.length c) _ _ rfl (OWN.out.alloc _) (wr.heap.size + 1) _ 1 _ [.string p] rfl RDX.out (by intro u hu; simp only [List.mem_cons, List.not_mem_nil, or_false] at hu; rcases hu with rfl; rfl) (by unfold maxLen; omega) (by omega) (by simp; omega) ?_); intro v2 w4 hown2 hg2 hat2; obtain ⟨A6, c6, rfl⟩ := own_form hown2; have HG2 := Lib.hid hg2; have HW2 := Lib.hid hown2; have HA2 := Lib.hid hat2; clear hg2 hat2 hown2))
          go_roundw
          case rel =>
            have hown2 := HW2.out
            have hg2 : (wr.alloc (.cells #[.string p] 9)).grownBy w4 (some g) := HG2.out
            have hat2 := HA2.out
            rcases own_row hown2 with ⟨hv, h0, _⟩ | ⟨g6, cap6, f6, hv, _, _, _, _, _⟩
            · omega
            injection hv with e1 e2 e3
            subst e1
            have T2 : STbl w4 w.heap.size g6 c6 (acc ++ [p]) := by
              unfold STbl
              rw [List.length_append, List.map_append]
              exact hown2
            have hl1 := L1.out
            unfold SRel
            exact ⟨s.size + 1, s.size + 1, g6, c6, acc ++ [p], by go_num, by go_num, by rw [List.length_append]; rfl, T2, .inr ⟨rfl, HNX.out _ (by rw [← HF.out, ← HDR.out]; exact HFO.out)⟩, (HB.out.alloc HB.out.size _).grown hg2 (by have := HB.out.size; simp; omega) (fun j hj => by have := Option.some.inj hj; omega), (by rw [List.length_append]; simp; omega)⟩
          case measure => simp [intOf] <;> omega
    · have hle : decide (((s.size + 1 : Nat) : Int) ≤ (s.size : Int)) = false := decide_eq_false (by omega)
      have hle2 : decide ((s.size : Int) + 1 ≤ (s.size : Int)) = false := decide_eq_false (by omega)
      obtain ⟨e1, e2⟩ := sp_some hfin
      have EE := Lib.hid (And.intro e1 e2)
      clear e1 e2 hfin
      go_wp2_with fail
      go_ret2
      exact HE.out _ acc true EE.out.1 EE.out.2 _ _ OWN.out HB.out
end Go.Proofs.YtnkidlahmplgnaaDoor
