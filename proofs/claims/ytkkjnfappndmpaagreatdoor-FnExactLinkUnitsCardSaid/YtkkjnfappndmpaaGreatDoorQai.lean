/-
 Parts of the proof: PthS, PthN. Conditions: none.
-/
import Derived.Test.YtkkjnfappndmpaaGreatDoorQFold
import Derived.Test.YtkkjnfappndmpaaGreatDoorQaf
import Derived.Deep.DeepMust
import Derived.WalkSmall
import Derived.Shelf.Strings.OnBuilder
set_option linter.unusedVariables false
set_option linter.unusedSimpArgs false
namespace Go.Proofs.YtkkjnfappndmpaaGreatDoor
set_option maxHeartbeats 40000000
open Lib (hid)
open Go.ChangeShapes Go.WideShapes Go.ChangeAt Go.RowKit Go.Deep Go.Joins Go.Shelf
open Go.ChangeMaps (open_string shut_string)
set_option maxRecDepth 100000
theorem SplitPath_spec (s : ByteArray) (w : World) (hs : s.size ≤ 1048576) :
  Calls Tryz.prog 50 #[.string s] w fun e w' => ∃ A c, e = .returned (.tuple #[.slice A (spV s).length c, .bool (spB s)]) ∧ w'.ownsRow w.heap.size 9 1 (.slice A (spV s).length c) (spV s).length ((spV s).map Value.string) ∧ Below w.heap.size w w' := by
 have HE := hid (show ∀ (w' : World) (q : List ByteArray) (b : Bool), spV s = q → spB s = b → ∀ (A : Option Addr) (c : Nat), w'.ownsRow w.heap.size 9 1 (.slice A q.length c) q.length (q.map Value.string) → Below w.heap.size w w' → ∃ A' c', Ending.returned (.tuple #[.slice A q.length c, .bool b]) = Ending.returned (.tuple #[.slice A' (spV s).length c', .bool (spB s)]) ∧ w'.ownsRow w.heap.size 9 1 (.slice A' (spV s).length c') (spV s).length ((spV s).map Value.string) ∧ Below w.heap.size w w' from by
  rintro w' q b rfl rfl A c h1 h2
  exact ⟨A, c, rfl, h1, h2⟩)
 go_enter Tryz.func50, Tryz.ntmps50
 go_wp2_with fail
 go_loopw [4, 5, 6] (fun v a i wr => SRel w s v a i wr) (fun _ _ i _ => s.size + 2 - (intOf i).toNat)
 case atStart =>
  unfold SRel
  exact ⟨0, 0, w.heap.size, 0, [], rfl, rfl, rfl, by simpa [STbl] using own_empty w 9 1, .inl ⟨Nat.zero_le _, Nat.le_refl _, fun j h1 h2 => absurd h2 qaa, rfl⟩, (Below.refl _ _).alloc nr _, Nat.le_refl _⟩
 case round =>
  obtain ⟨k, b, g, c, acc, rfl, rfl, rfl, own, hst, hb, hacc⟩ := hrel
  have OWN := hid own
  have HB := hid hb
  have hbs := hb.size
  have hlm := STbl.lt own
  obtain ⟨hlm1, hlm2⟩ := hlm
  clear own hb
  rcases hst with ⟨hk, hbk, hno, hfo⟩ | ⟨rfl, hfin⟩
  ·have hk3 : k ≤ 1048576 := qaa
   have hle : decide ((k : Int) ≤ (s.size : Int)) = true := decide_eq_true qaa
   have HFO := hid hfo
   have HNO := hid hno
   clear hfo hno
   by_cases hlt : k < s.size
   ·have hd : decide ((k : Int) < (s.size : Int)) = true := decide_eq_true qaa
    have hd2 : decide (k < s.size) = true := decide_eq_true hlt
    have hgb := getD_b s k hlt
    by_cases h47 : s[k] = 47
    ·have hn47 : ((s[k].toNat : Int) != 47) = false := by rw [h47]; rfl
     have hp1 := pcs_hit s b k hbk hlt HNO.out (by rw [hgb, h47])
     obtain ⟨p, hp⟩ : ∃ p, p = s.extract b k := ⟨_, rfl⟩
     obtain ⟨rest, hrest⟩ : ∃ rest, rest = pcs s (k + 1) := ⟨_, rfl⟩
     rw [← hp, ← hrest] at hp1
     have hpe : s.extract b k = p := hp.symm
     have hps : p.size ≤ 9223372036854775807 := by rw [hp, ByteArray.size_extract]; omega
     have HDR := hid hp1
     have HNX := hid (fun (acc' : List ByteArray) (h : foldP rest acc' = spO s) => (Or.inl ⟨by omega, Nat.le_refl _, fun j h1 h2 => absurd h2 qaa, by rw [← hrest]; exact h⟩ : (k + 1 ≤ s.size ∧ k + 1 ≤ k + 1 ∧ (∀ j, k + 1 ≤ j → j < k + 1 → s.data.toList[j]? ≠ some 47) ∧ foldP (pcs s (k + 1)) acc' = spO s) ∨ (k + 1 = s.size + 1 ∧ spO s = some acc')))
     clear hp1 hp hrest hgb
     cases q0 : (p.toList == ([] : List UInt8)) with
     | true =>
      have q0a : (p.toList == []) = true := q0
      have q0b : (p.toList == (ByteArray.mk #[]).toList) = true := by rw [lit0]; exact q0
      have q0c : p.toList.isEmpty = true := by rw [← q0]; cases p.toList <;> rfl
      have q0d : (p.toList == ByteArray.empty.toList) = true := by rw [lit0e]; exact q0
      have HF := hid (fold_e (r := rest) (acc := acc) q0)
      clear q0
      exact zz107
     | false =>
     have q0a : (p.toList == []) = false := q0
     have q0b : (p.toList == (ByteArray.mk #[]).toList) = false := by rw [lit0]; exact q0
     have q0c : p.toList.isEmpty = false := by rw [← q0]; cases p.toList <;> rfl
     have q0d : (p.toList == ByteArray.empty.toList) = false := by rw [lit0e]; exact q0
     have Q0 := hid q0
     clear q0
     cases q1 : (p.toList == dotL) with
     | true =>
      have q1a : (p.toList == [46]) = true := q1
      have q1b : (p.toList == (ByteArray.mk #[46]).toList) = true := by rw [lit1]; exact q1
      have HF := hid (fold_d (r := rest) (acc := acc) Q0.out q1)
      clear q1
      exact zz107
     | false =>
     have q1a : (p.toList == [46]) = false := q1
     have q1b : (p.toList == (ByteArray.mk #[46]).toList) = false := by rw [lit1]; exact q1
     have Q1 := hid q1
     clear q1
     cases q2 : (p.toList == upL) with
     | true =>
      have q2a : (p.toList == [46, 46]) = true := q2
      have q2b : (p.toList == (ByteArray.mk #[46, 46]).toList) = true := by rw [lit2]; exact q2
      by_cases hz : acc.length = 0
      ·exact zz66
      have dz : ((acc.length : Int) == 0) = false := by simp [hz]
      have HF := hid (fold_u (r := rest) (acc := acc) Q0.out Q1.out q2 hz)
      obtain ⟨acc2, x, hax⟩ := slast acc hz
      have HF2 := hid (show foldP (p :: rest) (acc2 ++ [x]) = foldP rest acc2 from by rw [← hax, HF.out, hax, List.dropLast_concat])
      subst hax
      have O2 := hid (STbl.pop OWN.out)
      have hcap := STbl.cap OWN.out
      have hl2 : (acc2 ++ [x]).length = acc2.length + 1 := by simp
      rw [hl2] at hcap hacc
      clear q2 HF hz
      go_wp2_with fail
      go_roundw
      case rel =>
       unfold SRel
       exact ⟨k + 1, k + 1, g, c, acc2, by go_num, by go_num, rfl, O2.out, HNX.out _ (by rw [← HF2.out, ← HDR.out]; exact HFO.out), HB.out, by omega⟩
      case measure => simp [intOf]; omega
     | false =>
     have q2a : (p.toList == [46, 46]) = false := q2
     have q2b : (p.toList == (ByteArray.mk #[46, 46]).toList) = false := by rw [lit2]; exact q2
     have Q2 := hid q2
     clear q2
     cases q3 : partF p with
     | false =>
      exact zz58
     | true =>
      have Q3 := hid (show (decide (1 ≤ p.size) && partF p) = true from by rw [q3, decide_eq_true (nonempty_size Q0.out)]; rfl)
      have HF := hid (fold_p (r := rest) (acc := acc) Q0.out Q1.out Q2.out q3)
      clear q3
      have RDX := hid (srd_one wr (.string p) 9)
      have L1 := hid (STbl.lt OWN.out)
      go_wp2_with (first | (go_at_call 82; refine (part_spec p _ hps).mono ?_; rw [Q3.out]; rintro e w' ⟨rfl, rfl⟩) | (at_builtin; go_must (refine wpList_append_rd _ rfl (.tmp 31) (.tmp 33) _ rfl w.heap.size _ _ _ 16 Tryz.underlying40 sInfo rfl qaa (.slice (some ⟨g, 0, none⟩) acc.length c) _ _ rfl (OWN.out.alloc _) (wr.heap.size + 1) _ 1 _ [.string p] rfl RDX.out qa1 qao qaa qak ?_); intro v2 w4 hown2 hg2 hat2; obtain ⟨A6, c6, rfl⟩ := own_form hown2; have HG2 := hid hg2; have HW2 := hid hown2; have HA2 := hid hat2; clear hg2 hat2 hown2))
      go_roundw
      case rel =>
       have hown2 := HW2.out
       have hg2 : (wr.alloc (.cells #[.string p] 9)).grownBy w4 (some g) := HG2.out
       have hat2 := HA2.out
       rcases own_row hown2 with ⟨hv, h0, _⟩ | ⟨g6, cap6, f6, hv, _, _, _, _, _⟩
       ·omega
       injection hv with e1 e2 e3
       subst e1
       have T2 : STbl w4 w.heap.size g6 c6 (acc ++ [p]) := by
        exact zz128
       have hl1 := L1.out
       unfold SRel
       exact ⟨k + 1, k + 1, g6, c6, acc ++ [p], by go_num, by go_num, by rw [List.length_append]; rfl, T2, HNX.out _ qbg, (HB.out.alloc HB.out.size _).grown hg2 (by have := HB.out.size; simp; omega) (fun j hj => by have := Option.some.inj hj; omega), (by rw [List.length_append]; simp; omega)⟩
      case measure => simp [intOf]; omega
    ·have hn47 : ((s[k].toNat : Int) != 47) = true := by
      rw [bne_iff_ne]
      intro e
      exact h47 (UInt8.toNat_inj.1 (by have h : ((47 : UInt8).toNat) = 47 := rfl; omega))
     have HG := hid hgb
     have H47 := hid h47
     clear hgb h47
     go_wp2_with fail
     go_roundw
     case rel =>
      unfold SRel
      refine ⟨k + 1, b, g, c, acc, by go_num, rfl, rfl, OWN.out, .inl ⟨by omega, by omega, fun j h1 h2 => ?_, HFO.out⟩, HB.out, by omega⟩
      by_cases e : j < k
      ·exact HNO.out j h1 e
      ·obtain rfl : j = k := qaa
       rw [HG.out]
       exact fun e => H47.out (Option.some.inj e)
     case measure => simp [intOf]; omega
   ·obtain rfl : k = s.size := qaa
    have hd : decide ((s.size : Int) < (s.size : Int)) = false := decide_eq_false qaa
    clear hlt
    obtain ⟨k, hkk⟩ : ∃ k, k = s.size := ⟨_, rfl⟩
    have hp1 := pcs_end s b hbk HNO.out
    obtain ⟨p, hp⟩ : ∃ p, p = s.extract b s.size := ⟨_, rfl⟩
    obtain ⟨rest, hrest⟩ : ∃ rest : List ByteArray, rest = [] := ⟨_, rfl⟩
    rw [← hp, ← hrest] at hp1
    have hpe : s.extract b s.size = p := hp.symm
    have hps : p.size ≤ 9223372036854775807 := by rw [hp, ByteArray.size_extract]; omega
    have HDR := hid hp1
    have HNX := hid (fun (acc' : List ByteArray) (h : foldP rest acc' = spO s) => (show spO s = some acc' from by rw [← h, hrest]; rfl))
    clear hp1 hp hrest hkk k
    cases q0 : (p.toList == ([] : List UInt8)) with
    | true =>
     have q0a : (p.toList == []) = true := q0
     have q0b : (p.toList == (ByteArray.mk #[]).toList) = true := by rw [lit0]; exact q0
     have q0c : p.toList.isEmpty = true := by rw [← q0]; cases p.toList <;> rfl
     have q0d : (p.toList == ByteArray.empty.toList) = true := by rw [lit0e]; exact q0
     have HF := hid (fold_e (r := rest) (acc := acc) q0)
     clear q0
     exact zz103
    | false =>
    have q0a : (p.toList == []) = false := q0
    have q0b : (p.toList == (ByteArray.mk #[]).toList) = false := by rw [lit0]; exact q0
    have q0c : p.toList.isEmpty = false := by rw [← q0]; cases p.toList <;> rfl
    have q0d : (p.toList == ByteArray.empty.toList) = false := by rw [lit0e]; exact q0
    have Q0 := hid q0
    clear q0
    cases q1 : (p.toList == dotL) with
    | true =>
     have q1a : (p.toList == [46]) = true := q1
     have q1b : (p.toList == (ByteArray.mk #[46]).toList) = true := by rw [lit1]; exact q1
     have HF := hid (fold_d (r := rest) (acc := acc) Q0.out q1)
     clear q1
     exact zz103
    | false =>
    have q1a : (p.toList == [46]) = false := q1
    have q1b : (p.toList == (ByteArray.mk #[46]).toList) = false := by rw [lit1]; exact q1
    have Q1 := hid q1
    clear q1
    cases q2 : (p.toList == upL) with
    | true =>
     have q2a : (p.toList == [46, 46]) = true := q2
     have q2b : (p.toList == (ByteArray.mk #[46, 46]).toList) = true := by rw [lit2]; exact q2
     by_cases hz : acc.length = 0
     ·exact zz66
     have dz : ((acc.length : Int) == 0) = false := by simp [hz]
     have HF := hid (fold_u (r := rest) (acc := acc) Q0.out Q1.out q2 hz)
     obtain ⟨acc2, x, hax⟩ := slast acc hz
     have HF2 := hid (show foldP (p :: rest) (acc2 ++ [x]) = foldP rest acc2 from by rw [← hax, HF.out, hax, List.dropLast_concat])
     subst hax
     have O2 := hid (STbl.pop OWN.out)
     have hcap := STbl.cap OWN.out
     have hl2 : (acc2 ++ [x]).length = acc2.length + 1 := by simp
     rw [hl2] at hcap hacc
     clear q2 HF hz
     go_wp2_with fail
     go_roundw
     case rel =>
      unfold SRel
      exact ⟨s.size + 1, s.size + 1, g, c, acc2, by go_num, by go_num, rfl, O2.out, .inr ⟨rfl, HNX.out _ (by rw [← HF2.out, ← HDR.out]; exact HFO.out)⟩, HB.out, by omega⟩
     case measure => simp [intOf] <;> omega
    | false =>
    have q2a : (p.toList == [46, 46]) = false := q2
    have q2b : (p.toList == (ByteArray.mk #[46, 46]).toList) = false := by rw [lit2]; exact q2
    have Q2 := hid q2
    clear q2
    cases q3 : partF p with
    | false =>
     exact zz58
    | true =>
     have Q3 := hid (show (decide (1 ≤ p.size) && partF p) = true from by rw [q3, decide_eq_true (nonempty_size Q0.out)]; rfl)
     have HF := hid (fold_p (r := rest) (acc := acc) Q0.out Q1.out Q2.out q3)
     clear q3
     have RDX := hid (srd_one wr (.string p) 9)
     have L1 := hid (STbl.lt OWN.out)
     go_wp2_with (first | (go_at_call 82; refine (part_spec p _ hps).mono ?_; rw [Q3.out]; rintro e w' ⟨rfl, rfl⟩) | (at_builtin; go_must (refine wpList_append_rd _ rfl (.tmp 31) (.tmp 33) _ rfl w.heap.size _ _ _ 16 Tryz.underlying40 sInfo rfl qaa (.slice (some ⟨g, 0, none⟩) acc.length c) _ _ rfl (OWN.out.alloc _) (wr.heap.size + 1) _ 1 _ [.string p] rfl RDX.out qa1 qao qaa qak ?_); intro v2 w4 hown2 hg2 hat2; obtain ⟨A6, c6, rfl⟩ := own_form hown2; have HG2 := hid hg2; have HW2 := hid hown2; have HA2 := hid hat2; clear hg2 hat2 hown2))
     go_roundw
     case rel =>
      have hown2 := HW2.out
      have hg2 : (wr.alloc (.cells #[.string p] 9)).grownBy w4 (some g) := HG2.out
      have hat2 := HA2.out
      rcases own_row hown2 with ⟨hv, h0, _⟩ | ⟨g6, cap6, f6, hv, _, _, _, _, _⟩
      ·omega
      injection hv with e1 e2 e3
      subst e1
      have T2 : STbl w4 w.heap.size g6 c6 (acc ++ [p]) := by
       exact zz128
      have hl1 := L1.out
      unfold SRel
      exact ⟨s.size + 1, s.size + 1, g6, c6, acc ++ [p], by go_num, by go_num, by rw [List.length_append]; rfl, T2, .inr ⟨rfl, HNX.out _ qbg⟩, (HB.out.alloc HB.out.size _).grown hg2 (by have := HB.out.size; simp; omega) (fun j hj => by have := Option.some.inj hj; omega), (by rw [List.length_append]; simp; omega)⟩
     case measure => simp [intOf] <;> omega
  ·have hle : decide (((s.size + 1 : Nat) : Int) ≤ (s.size : Int)) = false := decide_eq_false qaa
   have hle2 : decide ((s.size : Int) + 1 ≤ (s.size : Int)) = false := decide_eq_false qaa
   obtain ⟨e1, e2⟩ := sp_some hfin
   have EE := hid (And.intro e1 e2)
   clear e1 e2 hfin
   go_wp2_with fail
   go_ret2
   exact HE.out _ acc true EE.out.1 EE.out.2 _ _ OWN.out HB.out
def laysJoin_ren : Go.Shelf.Ren := ⟨fun | 156 => 66 | 165 => 99 | 166 => 100 | 169 => 101 | 240 => 129 | 241 => 130 | 276 => 145 | 277 => 146 | n => n, fun | 31 => 40 | 9 => 9 | 3 => 3 | 4 => 4 | 0 => 0 | 20 => 20 | 72 => 127 | 76 => 131 | 70 => 125 | 37 => 84 | 75 => 130 | 127 => 144 | 164 => 153 | 5 => 5 | 80 => 133 | n => n, fun | n => n⟩
theorem laysJoin : Go.Proofs.Lays.n156 Tryz.prog laysJoin_ren := {
 mixed := by kernel_rfl
 f156 := Tryz.func66.trans (congrArg some qab)
 f165 := Tryz.func99.trans (congrArg some qab)
 f166 := Tryz.func100.trans (congrArg some qab)
 f169 := Tryz.func101.trans (congrArg some qab)
 f240 := Tryz.func129.trans (congrArg some qab)
 f241 := Tryz.func130.trans (congrArg some qab)
 f276 := Tryz.func145.trans (congrArg some qab)
 f277 := Tryz.func146.trans (congrArg some qab)
 t0 := Tryz.underlying0
 a0 := Tryz.isAgg0
 z0 := Tryz.sizeOf0
 v0 := Tryz.zeroValue0
 t3 := Tryz.underlying3
 a3 := Tryz.isAgg3
 z3 := Tryz.sizeOf3
 v3 := Tryz.zeroValue3
 t4 := Tryz.underlying4
 a4 := Tryz.isAgg4
 z4 := Tryz.sizeOf4
 v4 := Tryz.zeroValue4
 t9 := Tryz.underlying9
 a9 := Tryz.isAgg9
 z9 := Tryz.sizeOf9
 v9 := Tryz.zeroValue9
 t20 := Tryz.underlying20
 a20 := Tryz.isAgg20
 z20 := Tryz.sizeOf20
 v20 := Tryz.zeroValue20
 t31 := Tryz.underlying40
 a31 := Tryz.isAgg40
 z31 := Tryz.sizeOf40
 v31 := Tryz.zeroValue40
 t37 := Tryz.underlying84
 a37 := Tryz.isAgg84
 z37 := Tryz.sizeOf84
 v37 := Tryz.zeroValue84
 t70 := Tryz.underlying125
 a70 := Tryz.isAgg125
 z70 := Tryz.sizeOf125
 v70 := Tryz.zeroValue125
 t72 := Tryz.underlying127
 a72 := Tryz.isAgg127
 z72 := Tryz.sizeOf127
 v72 := Tryz.zeroValue127
 t75 := Tryz.underlying130
 a75 := Tryz.isAgg130
 z75 := Tryz.sizeOf130
 v75 := Tryz.zeroValue130
 t76 := Tryz.underlying131
 a76 := Tryz.isAgg131
 z76 := Tryz.sizeOf131
 v76 := Tryz.zeroValue131
 t127 := Tryz.underlying144
 a127 := Tryz.isAgg144
 z127 := Tryz.sizeOf144
 v127 := Tryz.zeroValue144
 t164 := Tryz.underlying153
 a164 := Tryz.isAgg153
 z164 := Tryz.sizeOf153
 v164 := Tryz.zeroValue153 }
theorem joinX : Builder.Extra Tryz.prog laysJoin_ren where
 sizeBuilder := by kernel_rfl
 liesBuilder := by kernel_rfl
 t5 := laysSplit.t5
 a5 := laysSplit.a5
 z5 := laysSplit.z5
 v5 := laysSplit.v5
 infoByte := by kernel_rfl
 cellsByte := by kernel_rfl
 sizeByte := by kernel_rfl
 neB5 := by decide
def jn (V : List ByteArray) : List UInt8 := Lib.join (V.map (·.data.toList)) [47]
theorem jn_snoc : ∀ (V : List ByteArray) (k : Nat) (x : ByteArray), V[k]? = some x → jn (V.take (k + 1)) = (if k = 0 then [] else jn (V.take k) ++ [47]) ++ x.data.toList
 | [], k, x, h => by simp at h
 | a :: r, 0, x, h => by
  obtain rfl : a = x := by simpa using h
  unfold jn
  simp [Lib.join_one]
 | a :: r, k + 1, x, h => by
  have hr : (r.map (·.data.toList))[k]? = some x.data.toList := by
   rw [List.getElem?_map]
   have : r[k]? = some x := by simpa using h
   rw [this]; rfl
  unfold jn
  rw [if_neg qaa, List.take_succ_cons, List.take_succ_cons, List.map_cons, List.map_cons, Lib.join_cons, Lib.join_cons, List.map_take, List.map_take, Lib.joinTail_take_succ _ _ _ _ hr]
  simp [List.append_assoc]
theorem jn_len (V : List ByteArray) (h : ∀ x ∈ V, x.size ≤ 20) : ∀ k, k ≤ V.length → (jn (V.take k)).length ≤ 21 * k
 | 0, _ => by unfold jn; simp [Lib.join_nil]
 | k + 1, hk => by
  have ih := jn_len V h k qaa
  have hx := List.getElem?_eq_getElem (l := V) (i := k) qaa
  have h20 := h V[k] (List.getElem_mem _)
  have hze := Lib.size_eq V[k]
  rw [jn_snoc V k _ hx, List.length_append]
  split
  ·simp; omega
  ·rw [List.length_append]; simp; omega
def nmOk (s : ByteArray) : Bool := decide (s.size ≤ 400) && (spB s && inB ((jn (spV s)).length : Int) 1 60)
def nmS (s : ByteArray) : ByteArray := if nmOk s = true then ⟨(jn (spV s)).toArray⟩ else ⟨#[]⟩
theorem nm_f {s : ByteArray} (h : nmOk s = false) : nmS s = ⟨#[]⟩ := if_neg (by rw [h]; simp)
theorem nm_t {s : ByteArray} (h : nmOk s = true) : nmS s = ⟨(jn (spV s)).toArray⟩ := if_pos h
theorem joinC (V : List ByteArray) (A : Option Addr) (c : Nat) (w : World) {base : Nat} (h : w.ownsRow base 9 1 (.slice A V.length c) V.length (V.map Value.string)) (hs : ∀ x ∈ V, x.size ≤ 20) (hl : V.length ≤ 1000) :
  Calls Tryz.prog 66 #[.slice A V.length c, .string ⟨#[47]⟩] w fun e w' => e = .returned (.string ⟨(jn V).toArray⟩) ∧ Below w.heap.size w w' := by
 have hjl := jn_len V hs V.length nr
 rw [List.take_length] at hjl
 rcases own_row h with ⟨hv, h0, hx⟩ | ⟨g, cap, f, hv, hb, hc, _, hrow, hcell⟩
 ·injection hv with e1 e2 e3
  have hV : V = [] := List.length_eq_zero_iff.1 h0
  subst hV e1 e3
  exact (Any.strings_Join_none laysJoin joinX _ 0 slash w).mono fun e w' ⟨he, hw⟩ => ⟨he, hw ▸ Below.refl _ _⟩
 ·injection hv with e1 e2 e3
  subst e1 e3
  refine Any.strings_Join laysJoin joinX g 0 c V slash w (fun j x hx => ?_) (own_lt h g rfl).2 qaa hc (by show (jn V).length ≤ _; omega)
  have hj : j < V.length := (List.getElem?_eq_some_iff.1 hx).1
  rw [Nat.zero_add, World.ownsRow.cellAt h j qaa, List.getElem?_map, hx]
  rfl
theorem own_some {w : World} {base c : Nat} {A : Option Addr} {V : List ByteArray} (h : w.ownsRow base 9 1 (.slice A V.length c) V.length (V.map Value.string)) (h0 : 0 < V.length) : ∃ g, A = some ⟨g, 0, none⟩ := by
 rcases own_row h with ⟨hv, h1, hx⟩ | ⟨g, cap, f, hv, hb, hc, _, hrow, hcell⟩
 ·omega
 ·injection hv with e1 e2 e3
  exact ⟨g, e1⟩
def isnF (s : ByteArray) : Bool := nmOk s && ((nmS s).toList == s.toList)
theorem NormalPath_impl (s : ByteArray) (w : World) (hs : s.size ≤ 1048576) (hm : MaxAt w) :
  Calls Tryz.prog 40 #[.string s] w fun e w' => e = .returned (.tuple #[.string (nmS s), .bool (nmOk s)]) ∧ Below w.heap.size w w' := by
 by_cases h4 : s.size ≤ 400
 case neg =>
  have d4 : decide ((400 : Int) < (s.size : Int)) = true := decide_eq_true qaa
  have R := hid (show nmOk s = false from by unfold nmOk; rw [decide_eq_false h4]; rfl)
  have R2 := hid (nm_f R.out)
  go_enter Tryz.func40, Tryz.ntmps40
  go_wp2_with fail
  go_ret2
  rw [R.out, R2.out]
  exact ⟨rfl, Below.refl _ _⟩
 have d4 : decide ((400 : Int) < (s.size : Int)) = false := decide_eq_false qaa
 obtain ⟨hvl, hvs⟩ := spV_len s
 have HVS := hid hvs
 have hjl := jn_len (spV s) hvs (spV s).length nr
 rw [List.take_length] at hjl
 have hsz : (⟨(jn (spV s)).toArray⟩ : ByteArray).size = (jn (spV s)).length := by simp [ByteArray.size]
 obtain ⟨n, hn⟩ : ∃ n, n = (jn (spV s)).length := ⟨_, rfl⟩
 rw [← hn] at hsz hjl
 have HOK := hid (show nmOk s = (spB s && inB (n : Int) 1 60) from by unfold nmOk; rw [decide_eq_true h4, hn]; rfl)
 clear hvs hn
 have hn9 : n ≤ 9223372036854775807 := qaa
 cases hb : spB s with
 | false =>
  have HB := hid hb
  have R := hid (show nmOk s = false from by rw [HOK.out, hb]; rfl)
  have R2 := hid (nm_f R.out)
  clear hb
  go_enter Tryz.func40, Tryz.ntmps40
  go_wp2_with (first | (go_at_call 65; refine (SplitPath_impl s _ hs hm).mono ?_; rw [HB.out]; rintro e w2 ⟨A, c, rfl, own2, hb2⟩; have O2 := hid own2; have B2 := hid hb2; clear own2 hb2) | (go_at_call 66; refine (joinC (spV s) A c _ O2.out HVS.out qaa).mono ?_; rintro e w3 ⟨rfl, hb3⟩; have B3 := hid (B2.out.trans (hb3.mono B2.out.size)); clear hb3))
  go_ret2
  rw [R.out, R2.out]
  exact ⟨rfl, B3.out⟩
 | true =>
  have HB := hid hb
  cases hi : inB (n : Int) 1 60 with
  | false =>
   have R := hid (show nmOk s = false from by rw [HOK.out, hb, hi]; rfl)
   have R2 := hid (nm_f R.out)
   exact zz64
  | true =>
   have R := hid (show nmOk s = true from by rw [HOK.out, hb, hi]; rfl)
   have R2 := hid (nm_t R.out)
   exact zz64
theorem NormalPath_spec (s : ByteArray) (w : World) (hs : s.size ≤ 1048576) :
  Calls Tryz.prog 32 #[.string s] w fun e w' => e = .returned (.tuple #[.string (nmS s), .bool (nmOk s)]) ∧ Below w.heap.size w w' := by
 by_cases h4 : s.size ≤ 400
 case neg =>
  have d4 : decide ((400 : Int) < (s.size : Int)) = true := decide_eq_true qaa
  have R := hid (show nmOk s = false from by unfold nmOk; rw [decide_eq_false h4]; rfl)
  have R2 := hid (nm_f R.out)
  go_enter Tryz.func32, Tryz.ntmps32
  go_wp2_with fail
  go_ret2
  rw [R.out, R2.out]
  exact ⟨rfl, Below.refl _ _⟩
 have d4 : decide ((400 : Int) < (s.size : Int)) = false := decide_eq_false qaa
 obtain ⟨hvl, hvs⟩ := spV_len s
 have HVS := hid hvs
 have HJL := hid (jn_len (spV s) hvs)
 have HOK := hid (show nmOk s = (spB s && inB ((jn (spV s)).length : Int) 1 60) from by unfold nmOk; rw [decide_eq_true h4]; rfl)
 obtain ⟨V, hV⟩ : ∃ V, V = spV s := ⟨_, rfl⟩
 obtain ⟨bb, hbb⟩ : ∃ bb, bb = spB s := ⟨_, rfl⟩
 have HSP := hid (SplitPath_spec s w hs)
 have HT := hid (nm_t (s := s))
 rw [← hV] at HVS HJL HOK HSP hvl HT
 rw [← hbb] at HOK HSP
 clear hvs hV hbb
 go_enter Tryz.func32, Tryz.ntmps32
 go_wp2_with (go_at_call 50; refine HSP.out.mono ?_; rintro e w2 ⟨A, c, rfl, own2, hb2⟩; have O2 := hid own2; have B2 := hid hb2; clear own2 hb2)
 go_loop [6, 7] (fun v i => ∃ (k : Nat) (o : ByteArray), k ≤ V.length ∧ i = .int .i64 k ∧ v = .string o ∧ o.data.toList = jn (V.take k) ∧ o.size ≤ 21 * k) (fun _ i => V.length - (intOf i).toNat)
 case atStart => exact ⟨0, ⟨#[]⟩, Nat.zero_le _, rfl, rfl, by unfold jn; rfl, by show 0 ≤ _; omega⟩
 case round =>
  obtain ⟨k, o, hk, rfl, rfl, ho, hoz⟩ := hrel
  have HO := hid ho
  clear ho
  by_cases hlt : k < V.length
  ·obtain ⟨g, rfl⟩ := own_some O2.out qaa
   obtain ⟨x, hx⟩ : ∃ x, V[k]? = some x := ⟨_, List.getElem?_eq_getElem hlt⟩
   have c_0 : w2.cell? ⟨g, k, none⟩ = some (.string x) := by
    rw [World.ownsRow.cellAt O2.out k qaa, List.getElem?_map, hx]
    rfl
   have hx20 := HVS.out x (List.mem_of_getElem? hx)
   have HJ := hid (jn_snoc V k x hx)
   clear hx
   by_cases hk0 : 0 < k
   ·have d0 : decide ((0 : Int) < (k : Int)) = true := decide_eq_true qaa
    go_wp2_with fail
    go_round
    case rel =>
     refine ⟨k + 1, _, by omega, by go_num, rfl, ?_, ?_⟩
     ·rw [HJ.out, if_neg qaa, ← HO.out]
      simp [ByteArray.data_append, Array.toList_append]
     ·rw [ByteArray.size_append, ByteArray.size_append]
      show o.size + 1 + x.size ≤ _
      omega
    case measure => simp [intOf]; omega
   ·obtain rfl : k = 0 := qaa
    have d0 : decide ((0 : Int) < ((0 : Nat) : Int)) = false := decide_eq_false qaa
    go_wp2_with fail
    go_round
    case rel =>
     refine ⟨0 + 1, _, by omega, by go_num, rfl, ?_, ?_⟩
     ·rw [HJ.out, if_pos rfl]
      have h0 := HO.out
      unfold jn at h0
      simp [Lib.join_nil] at h0
      simp [ByteArray.data_append, Array.toList_append, h0]
     ·rw [ByteArray.size_append]
      omega
    case measure => simp [intOf]; omega
  ·obtain rfl : k = V.length := qaa
   clear hlt
   have hol : o.data.toList = jn V := by rw [HO.out, List.take_length]
   have hoe : o = ⟨(jn V).toArray⟩ := ba_ext (by rw [hol])
   have hosz : o.size = (jn V).length := by rw [Lib.size_eq, hol]
   have HOE := hid hoe
   rw [← hosz] at HOK
   have hoz9 : o.size ≤ 9223372036854775807 := qaa
   clear hol hoe hosz
   cases bb with
   | false =>
    have R := hid (show nmOk s = false from HOK.out)
    have R2 := hid (nm_f R.out)
    go_wp2_with fail
    go_ret2
    rw [R.out, R2.out]
    exact ⟨rfl, B2.out⟩
   | true =>
    cases hi : inB (o.size : Int) 1 60 with
    | false =>
     have R := hid (show nmOk s = false from by rw [HOK.out, hi]; rfl)
     have R2 := hid (nm_f R.out)
     exact zz142
    | true =>
     have R := hid (show nmOk s = true from by rw [HOK.out, hi]; rfl)
     have R2 := hid (show nmS s = o from by rw [HT.out R.out, HOE.out])
     exact zz142
theorem IsNormal_impl (s : ByteArray) (w : World) (hs : s.size ≤ 1048576) (hm : MaxAt w) :
  Calls Tryz.prog 19 #[.string s] w fun e w' => e = .returned (.bool (isnF s)) ∧ Below w.heap.size w w' := by
 have HC := hid (NormalPath_impl s w hs hm)
 have HR := hid (show isnF s = (nmOk s && ((nmS s).toList == s.toList)) from rfl)
 generalize nmOk s = b at *
 generalize nmS s = t at *
 cases b with
 | false =>
  have R := hid (show isnF s = false from HR.out)
  exact zz125
 | true =>
  have R := hid (show isnF s = (t.toList == s.toList) from HR.out)
  exact zz125
theorem IsNormal_spec (s : ByteArray) (w : World) (hs : s.size ≤ 1048576) :
  Calls Tryz.prog 14 #[.string s] w fun e w' => e = .returned (.bool (isnF s)) ∧ Below w.heap.size w w' := by
 have HC := hid (NormalPath_spec s w hs)
 have HR := hid (show isnF s = (nmOk s && ((nmS s).toList == s.toList)) from rfl)
 generalize nmOk s = b at *
 generalize nmS s = t at *
 cases b with
 | false =>
  have R := hid (show isnF s = false from HR.out)
  exact zz126
 | true =>
  have R := hid (show isnF s = (t.toList == s.toList) from HR.out)
  exact zz126
end Go.Proofs.YtkkjnfappndmpaaGreatDoor
