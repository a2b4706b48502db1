/-
  SplitPath of package impl. Conditions: none.
-/
import Derived.Test.YtnkidlahmplgnaaDoorPthC
import Derived.Deep.DeepMust
import Derived.WalkSmall
namespace Go.Proofs.YtnkidlahmplgnaaDoor
open Go.ChangeShapes Go.WideShapes Go.ChangeAt Go.RowKit Go.Deep Go.Joins Go.Shelf
open Go.ChangeMaps (open_string shut_string)
set_option linter.unusedVariables false
set_option linter.unusedSimpArgs false
set_option maxRecDepth 100000
set_option maxHeartbeats 8000000 in
theorem SplitPath_impl (s : ByteArray) (w : World) (hs : s.size ≤ 1048576) (hm : MaxAt w) :
    Calls Tryd.prog 7 #[.string s] w fun e w' => ∃ A c, e = .returned (.tuple #[.slice A (spV s).length c, .bool (spB s)]) ∧ w'.ownsRow w.heap.size 9 1 (.slice A (spV s).length c) (spV s).length ((spV s).map Value.string) ∧ Below w.heap.size w w' := by
  have HE := Lib.hid (show ∀ (w' : World) (q : List ByteArray) (b : Bool), spV s = q → spB s = b → ∀ (A : Option Addr) (c : Nat), w'.ownsRow w.heap.size 9 1 (.slice A q.length c) q.length (q.map Value.string) → Below w.heap.size w w' → ∃ A' c', Ending.returned (.tuple #[.slice A q.length c, .bool b]) = Ending.returned (.tuple #[.slice A' (spV s).length c', .bool (spB s)]) ∧ w'.ownsRow w.heap.size 9 1 (.slice A' (spV s).length c') (spV s).length ((spV s).map Value.string) ∧ Below w.heap.size w w' from by
    rintro w' q b rfl rfl A c h1 h2
    exact ⟨A, c, rfl, h1, h2⟩)
  have hpl := pcs_len s
  have hm1 := Lib.hid (hm.below ((Below.refl w.heap.size w).alloc (Nat.le_refl _) (.cells #[] 9)))
  clear hm
  go_enter Tryd.func7, Tryd.ntmps7
  go_wp2_with (go_at_call 19; refine (splitC s _ hs hm1.out).mono ?_; rintro e w' ⟨rfl, rfl⟩)
  go_loopw [4, 11] (fun v i wr => IRel w s v i wr) (fun _ i _ => (pcs s 0).length - (intOf i).toNat)
  case atStart =>
    unfold IRel
    refine ⟨0, w.heap.size, 0, [], Nat.zero_le _, rfl, rfl, by simpa [STbl] using World.ownsRow.alloc (own_empty w 9 1) _, by omega, by rw [List.drop_zero]; rfl, ?_, ((Below.refl _ _).alloc (Nat.le_refl _) _).alloc (by simp) _, Nat.le_refl _⟩
    exact Blk.new' _ _ _ _ (by simp)
  case round =>
    obtain ⟨k, g, c, acc, hk, rfl, rfl, own, hne, hfo, hpc, hb, hacc⟩ := hrel
    have OWN := Lib.hid own
    have HNE := Lib.hid hne
    have HFO := Lib.hid hfo
    have HPC := Lib.hid hpc
    have HB := Lib.hid hb
    have HSZ := Lib.hid hpc.lt
    have hbs := hb.size
    by_cases hlt : k < (pcs s 0).length
    · obtain ⟨p, hp⟩ : ∃ p, (pcs s 0)[k]? = some p := ⟨_, List.getElem?_eq_getElem hlt⟩
      have hps : p.size ≤ 9223372036854775807 := by have := pcs_small s 0 p (List.mem_of_getElem? hp); omega
      have c_0 : wr.cell? ⟨w.heap.size + 1, k, none⟩ = some (.string p) := by rw [hpc.cell k]; simp [hp]
      obtain ⟨rest, hrest⟩ : ∃ rest, rest = (pcs s 0).drop (k + 1) := ⟨_, rfl⟩
      have HDR0 : (pcs s 0).drop k = p :: rest := by rw [hrest, List.drop_eq_getElem_cons hlt, (List.getElem?_eq_some_iff.1 hp).2]
      have HDR := Lib.hid HDR0
      have HRS := Lib.hid hrest
      have hlm := STbl.lt own
      obtain ⟨hlm1, hlm2⟩ := hlm
      clear HDR0 hrest hp own hne hfo hpc hb
      cases q0 : (p.toList == ([] : List UInt8)) with
      | true =>
        have q0a : (p.toList == []) = true := q0
        have q0b : (p.toList == (ByteArray.mk #[]).toList) = true := by rw [lit0]; exact q0
        have q0c : p.toList.isEmpty = true := by rw [← q0]; cases p.toList <;> rfl
        have q0d : (p.toList == ByteArray.empty.toList) = true := by rw [lit0e]; exact q0
        have HF := Lib.hid (fold_e (r := rest) (acc := acc) q0)
        clear q0
        go_wp2_with fail
        go_roundw
        case rel =>
          unfold IRel
          exact ⟨k + 1, g, c, acc, by omega, by go_num, rfl, OWN.out, HNE.out, by rw [← HRS.out, ← HF.out, ← HDR.out]; exact HFO.out, HPC.out, HB.out, by omega⟩
        case measure => simp [intOf]; omega
      | false =>
      have q0a : (p.toList == []) = false := q0
      have q0b : (p.toList == (ByteArray.mk #[]).toList) = false := by rw [lit0]; exact q0
      have q0c : p.toList.isEmpty = false := by rw [← q0]; cases p.toList <;> rfl
      have q0d : (p.toList == ByteArray.empty.toList) = false := by rw [lit0e]; exact q0
      have Q0 := Lib.hid q0
      clear q0
      cases q1 : (p.toList == dotL) with
      | true =>
        have q1a : (p.toList == [46]) = true := q1
        have q1b : (p.toList == (ByteArray.mk #[46]).toList) = true := by rw [lit1]; exact q1
        have HF := Lib.hid (fold_d (r := rest) (acc := acc) Q0.out q1)
        clear q1
        go_wp2_with fail
        go_roundw
        case rel =>
          unfold IRel
          exact ⟨k + 1, g, c, acc, by omega, by go_num, rfl, OWN.out, HNE.out, by rw [← HRS.out, ← HF.out, ← HDR.out]; exact HFO.out, HPC.out, HB.out, by omega⟩
        case measure => simp [intOf]; omega
      | false =>
      have q1a : (p.toList == [46]) = false := q1
      have q1b : (p.toList == (ByteArray.mk #[46]).toList) = false := by rw [lit1]; exact q1
      have Q1 := Lib.hid q1
      clear q1
      cases q2 : (p.toList == upL) with
      | true =>
        have q2a : (p.toList == [46, 46]) = true := q2
        have q2b : (p.toList == (ByteArray.mk #[46, 46]).toList) = true := by rw [lit2]; exact q2
        by_cases hz : acc.length = 0
        · have dz : ((acc.length : Int) == 0) = true := by simp [hz]
          have HF := Lib.hid (fold_u0 (r := rest) (acc := acc) Q0.out Q1.out q2 hz)
          clear q2
          obtain ⟨e1, e2⟩ := sp_none (s := s) (by rw [← HFO.out, HDR.out, HF.out])
          have EE := Lib.hid (And.intro e1 e2)
          clear e1 e2
          go_wp2_with fail
          go_ret2
          exact HE.out _ [] false EE.out.1 EE.out.2 none 0 (World.ownsRow_nil _ _ _ _) HB.out
        have dz : ((acc.length : Int) == 0) = false := by simp [hz]
        have HF := Lib.hid (fold_u (r := rest) (acc := acc) Q0.out Q1.out q2 hz)
        obtain ⟨acc2, x, hax⟩ := slast acc hz
        have HF2 := Lib.hid (show foldP (p :: rest) (acc2 ++ [x]) = foldP rest acc2 from by rw [← hax, HF.out, hax, List.dropLast_concat])
        subst hax
        have O2 := Lib.hid (STbl.pop OWN.out)
        have hcap := STbl.cap OWN.out
        have hl2 : (acc2 ++ [x]).length = acc2.length + 1 := by simp
        rw [hl2] at hcap hacc
        clear q2 HF hz
        go_wp2_with fail
        go_roundw
        case rel =>
          unfold IRel
          exact ⟨k + 1, g, c, acc2, by omega, by go_num, rfl, O2.out, HNE.out, by rw [← HRS.out, ← HF2.out, ← HDR.out]; exact HFO.out, HPC.out, HB.out, by omega⟩
        case measure => simp [intOf]; omega
      | false =>
      have q2a : (p.toList == [46, 46]) = false := q2
      have q2b : (p.toList == (ByteArray.mk #[46, 46]).toList) = false := by rw [lit2]; exact q2
      have Q2 := Lib.hid q2
      clear q2
      cases q3 : partF p with
      | false =>
        have Q3 := Lib.hid q3
        have HF := Lib.hid (fold_n (r := rest) (acc := acc) Q0.out Q1.out Q2.out q3)
        clear q3
        obtain ⟨e1, e2⟩ := sp_none (s := s) (by rw [← HFO.out, HDR.out, HF.out])
        have EE := Lib.hid (And.intro e1 e2)
        clear e1 e2
        go_wp2_with (go_at_call 20; refine (part_impl p _ hps).mono ?_; rw [Q3.out]; rintro e w' ⟨rfl, rfl⟩)
        go_ret2
        exact HE.out _ [] false EE.out.1 EE.out.2 none 0 (World.ownsRow_nil _ _ _ _) HB.out
      | true =>
        have Q3 := Lib.hid q3
        have HF := Lib.hid (fold_p (r := rest) (acc := acc) Q0.out Q1.out Q2.out q3)
        clear q3
        have RDX := Lib.hid (srd_one wr (.string p) 9)
        have L1 := Lib.hid (STbl.lt OWN.out)
        go_wp2_with (first | (go_at_call 20; refine (part_impl p _ hps).mono ?_; rw [Q3.out]; rintro e w' ⟨rfl, rfl⟩) | (at_builtin; go_must (refine wpList_append_rd _ rfl (.tmp 15) (.tmp 17) _ rfl w.heap.size _ _ _ 16 Tryd.underlying27 sInfo rfl (by omega) (.slice (some ⟨g, 0, none⟩) acc.length c) _ _ rfl (OWN.out.alloc _) (wr.heap.size + 1) _ 1 _ [.string p] rfl RDX.out (by intro u hu; simp only [List.mem_cons, List.not_mem_nil, or_false] at hu; rcases hu with rfl; rfl) (by unfold maxLen; omega) (by omega) (by simp; omega) ?_); intro v2 w4 hown2 hg2 hat2; obtain ⟨A6, c6, rfl⟩ := own_form hown2; have HG2 := Lib.hid hg2; have HW2 := Lib.hid hown2; have HA2 := Lib.hid hat2; clear hg2 hat2 hown2))
        go_roundw
        case rel =>
          have hown2 := HW2.out
          have hg2 : (wr.alloc (.cells #[.string p] 9)).grownBy w4 (some g) := HG2.out
          have hat2 := HA2.out
          rcases own_row hown2 with ⟨hv, h0, _⟩ | ⟨g6, cap6, f6, hv, _, _, _, _, _⟩
          · omega
          injection hv with e1 e2 e3
          subst e1
          have T2 : STbl w4 w.heap.size g6 c6 (acc ++ [p]) := by
            unfold STbl
            rw [List.length_append, List.map_append]
            exact hown2
          have hl1 := L1.out
          have hne6 : g6 ≠ w.heap.size + 1 := by
            have := HNE.out
            have := HSZ.out
            rcases hat2 with e | e
            · have h : g6 = g := Option.some.inj e
              omega
            · have h : g6 = _ := Option.some.inj e
              simp at h
              omega
          unfold IRel
          exact ⟨k + 1, g6, c6, acc ++ [p], by omega, by go_num, by rw [List.length_append]; rfl, T2, hne6, by rw [← HRS.out, ← HF.out, ← HDR.out]; exact HFO.out, (hg2.block (w.heap.size + 1) (by have := HSZ.out; simp; omega) (fun e => HNE.out (Option.some.inj e.symm))).trans (HPC.out.alloc _), (HB.out.alloc HB.out.size _).grown hg2 (by have := HB.out.size; simp; omega) (fun j hj => by have := Option.some.inj hj; omega), (by rw [List.length_append]; simp; omega)⟩
        case measure => simp [intOf]; omega
    · obtain rfl : k = (pcs s 0).length := by omega
      clear hlt
      have hfin : spO s = some acc := by
        rw [← hfo, List.drop_length]
        rfl
      obtain ⟨e1, e2⟩ := sp_some hfin
      have EE := Lib.hid (And.intro e1 e2)
      clear e1 e2 hfin hfo own hne hpc hb
      go_wp2_with fail
      go_ret2
      exact HE.out _ acc true EE.out.1 EE.out.2 _ _ OWN.out HB.out
end Go.Proofs.YtnkidlahmplgnaaDoor
