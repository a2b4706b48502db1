/-
  IncludesOf of both packages. Conditions: none; the program's needs that the library's variable that strings.Index reads holds an integer.
-/
import Derived.Test.YtbmgjndpnbdgeaaDoorIncI
namespace Go.Proofs.YtbmgjndpnbdgeaaDoor
open Go.ChangeShapes Go.WideShapes Go.ChangeAt Go.RowKit Go.Deep Go.Joins
open Go.ChangeMaps (open_string shut_string)
set_option linter.unusedVariables false
set_option linter.unusedSimpArgs false
set_option maxRecDepth 100000
set_option maxHeartbeats 1000000 in
theorem Inc_spec (z0 z1 : Int) (z2 : ByteArray) (z3 : List FNode) (us : List Value) (w : World) (hw : FNode.wt ⟨z0, z1, z2, z3⟩ ≤ 1048576) {B : Nat} (hB0 : B ≤ w.heap.size) (hr : RdVs w B (FNode.c ⟨z0, z1, z2, z3⟩) us) :
    Calls Tryd.prog 5 #[.agg us.toArray] w fun e w' => ∃ A' c', e = .returned (.slice A' (incQ ⟨z0, z1, z2, z3⟩).length c') ∧ OwnI w' w.heap.size w'.heap.size [.s 9 1 (incQ ⟨z0, z1, z2, z3⟩).length (FStr.flat (incQ ⟨z0, z1, z2, z3⟩))] [.slice A' (incQ ⟨z0, z1, z2, z3⟩).length c'] ∧ Below w.heap.size w w' := by
  rw [FNode.c_eq] at hr
  obtain ⟨us0, rfl, hr_0⟩ := hr.unv
  obtain ⟨us1, rfl, hr_1⟩ := hr_0.unv
  obtain ⟨us2, rfl, hr_2⟩ := hr_1.unv
  obtain ⟨A3, c3, us3, rfl, r3, hr_3⟩ := hr_2.uns
  obtain rfl := hr_3.un0
  have R3 := Lib.hid r3
  clear r3 hr hr_0 hr_1 hr_2 hr_3
  have hs1 : (w.alloc (.cells #[.int .i64 z0, .int .i64 z1, .string z2, .slice A3 z3.length c3] 30)).heap.size = w.heap.size + 1 := by simp
  have hba : Below w.heap.size w ((w.alloc (.cells #[.int .i64 z0, .int .i64 z1, .string z2, .slice A3 z3.length c3] 30)).alloc (.cells #[] 9)) := ((Below.refl _ _).alloc (Nat.le_refl _) _).alloc (by simp) _
  have RX := Lib.hid (show RdVs ((w.alloc (.cells #[.int .i64 z0, .int .i64 z1, .string z2, .slice A3 z3.length c3] 30)).alloc (.cells #[] 9)) B (FNode.c ⟨z0, z1, z2, z3⟩) [.int .i64 z0, .int .i64 z1, .string z2, .slice A3 z3.length c3] from by
    rw [FNode.c_eq]
    exact RdVs.cons (by unfold RdC; rfl) (RdVs.cons (by unfold RdC; rfl) (RdVs.cons (by unfold RdC; rfl) (RdVs.cons (R3.out.on hba hB0 (Nat.le_refl _)) (RdVs.nil _ _)))))
  have hown := own_empty (w.alloc (.cells #[.int .i64 z0, .int .i64 z1, .string z2, .slice A3 z3.length c3] 30)) 9 1
  rw [hs1] at hown
  have CALL := Lib.hid (incS_any ⟨z0, z1, z2, z3⟩ [.int .i64 z0, .int .i64 z1, .string z2, .slice A3 z3.length c3] _ B (w.heap.size + 1) [] (some ⟨w.heap.size + 1, 0, none⟩) 0 (by omega) (by simp) RX.out hown hw (by show 0 + 0 + _ ≤ _; omega))
  have HBA := Lib.hid hba
  clear hba hown hs1
  go_enter Tryd.func5, Tryd.ntmps5
  go_wp2_with (go_at_call 14; refine CALL.out.mono ?_; rintro e w2 ⟨A', c', rfl, V⟩)
  go_ret
  have hlo := V.lo (fun g hg => by have e9 : w.heap.size + 1 = g := Option.some.inj hg; omega) (by simp)
  have hb := HBA.out.trans (hlo.mono (by omega))
  have hz := hlo.size
  exact ⟨A', c', rfl, (own_sv V.own (by simp at hz; omega)).wide (by omega) (Nat.le_refl _), hb⟩
set_option maxHeartbeats 1000000 in
theorem Inc_impl (z0 z1 : Int) (z2 : ByteArray) (z3 : List FNode) (us : List Value) (w : World) (hw : FNode.wt ⟨z0, z1, z2, z3⟩ ≤ 1048576) (hm : MaxAt w) {B : Nat} (hB0 : B ≤ w.heap.size) (hr : RdVs w B (FNode.c ⟨z0, z1, z2, z3⟩) us) :
    Calls Tryd.prog 7 #[.agg us.toArray] w fun e w' => ∃ A' c', e = .returned (.slice A' (incQ ⟨z0, z1, z2, z3⟩).length c') ∧ OwnI w' w.heap.size w'.heap.size [.s 9 1 (incQ ⟨z0, z1, z2, z3⟩).length (FStr.flat (incQ ⟨z0, z1, z2, z3⟩))] [.slice A' (incQ ⟨z0, z1, z2, z3⟩).length c'] ∧ Below w.heap.size w w' := by
  rw [FNode.c_eq] at hr
  obtain ⟨us0, rfl, hr_0⟩ := hr.unv
  obtain ⟨us1, rfl, hr_1⟩ := hr_0.unv
  obtain ⟨us2, rfl, hr_2⟩ := hr_1.unv
  obtain ⟨A3, c3, us3, rfl, r3, hr_3⟩ := hr_2.uns
  obtain rfl := hr_3.un0
  have R3 := Lib.hid r3
  clear r3 hr hr_0 hr_1 hr_2 hr_3
  have hmm := @run_makeMap Tryd.prog
  have hmf : ∀ (fn : Fn) (first cap : Array Value) (w : World), (Instr.makeFunc fn first cap).run Tryd.prog w = .ok (.func fn first cap) w := fun _ _ _ _ => rfl
  go_enter Tryd.func7, Tryd.ntmps7
  go_upto_region 5 with fail
  obtain ⟨V, hV⟩ : ∃ V, w.heap.size + 1 + 1 + 1 + 1 + 1 = V := ⟨_, rfl⟩
  obtain ⟨M, hM⟩ : ∃ M, w.heap.size + 1 + 1 + 1 + 1 = M := ⟨_, rfl⟩
  obtain ⟨b, hb⟩ : ∃ b, w.heap.size + 1 + 1 + 1 = b := ⟨_, rfl⟩
  obtain ⟨O, hO⟩ : ∃ O, w.heap.size + 1 + 1 = O := ⟨_, rfl⟩
  have hs1 : (w.alloc (.cells #[.int .i64 z0, .int .i64 z1, .string z2, .slice A3 z3.length c3] 30)).heap.size = w.heap.size + 1 := by simp
  have V5 := vars_start (w.alloc (.cells #[.int .i64 z0, .int .i64 z1, .string z2, .slice A3 z3.length c3] 30)) O b M V (by rw [hs1]; exact hO) (by rw [hs1]; exact hb) (by rw [hs1]; exact hM) (by rw [hs1]; exact hV)
  have hba : Below w.heap.size w (((((((w.alloc (.cells #[.int .i64 z0, .int .i64 z1, .string z2, .slice A3 z3.length c3] 30)).alloc (.cells #[] 9)).alloc (.cells #[.slice (some ⟨(w.alloc (.cells #[.int .i64 z0, .int .i64 z1, .string z2, .slice A3 z3.length c3] 30)).heap.size, 0, none⟩) 0 0] 26)).alloc (.map #[] 0)).alloc (.cells #[.map (some b)] 40)).alloc (.cells #[.func (.func 16) #[] #[.pointer (some ⟨M, 0, none⟩), .pointer (some ⟨O, 0, none⟩), .pointer (some ⟨V, 0, none⟩)]] 41))) :=
    ((((((Below.refl _ _).alloc (Nat.le_refl _) _).alloc (by simp) _).alloc (by first | (simp; done) | (simp; omega)) _).alloc (by first | (simp; done) | (simp; omega)) _).alloc (by first | (simp; done) | (simp; omega)) _).alloc (by first | (simp; done) | (simp; omega)) _
  have RX := Lib.hid (show RdVs (((((((w.alloc (.cells #[.int .i64 z0, .int .i64 z1, .string z2, .slice A3 z3.length c3] 30)).alloc (.cells #[] 9)).alloc (.cells #[.slice (some ⟨(w.alloc (.cells #[.int .i64 z0, .int .i64 z1, .string z2, .slice A3 z3.length c3] 30)).heap.size, 0, none⟩) 0 0] 26)).alloc (.map #[] 0)).alloc (.cells #[.map (some b)] 40)).alloc (.cells #[.func (.func 16) #[] #[.pointer (some ⟨M, 0, none⟩), .pointer (some ⟨O, 0, none⟩), .pointer (some ⟨V, 0, none⟩)]] 41))) B (FNode.c ⟨z0, z1, z2, z3⟩) [.int .i64 z0, .int .i64 z1, .string z2, .slice A3 z3.length c3] from by
    rw [FNode.c_eq]
    exact RdVs.cons (by unfold RdC; rfl) (RdVs.cons (by unfold RdC; rfl) (RdVs.cons (by unfold RdC; rfl) (RdVs.cons (R3.out.on hba hB0 (Nat.le_refl _)) (RdVs.nil _ _)))))
  have BG : Blk (((((((w.alloc (.cells #[.int .i64 z0, .int .i64 z1, .string z2, .slice A3 z3.length c3] 30)).alloc (.cells #[] 9)).alloc (.cells #[.slice (some ⟨(w.alloc (.cells #[.int .i64 z0, .int .i64 z1, .string z2, .slice A3 z3.length c3] 30)).heap.size, 0, none⟩) 0 0] 26)).alloc (.map #[] 0)).alloc (.cells #[.map (some b)] 40)).alloc (.cells #[.func (.func 16) #[] #[.pointer (some ⟨M, 0, none⟩), .pointer (some ⟨O, 0, none⟩), .pointer (some ⟨V, 0, none⟩)]] 41))) w.heap.size 30 #[.int .i64 z0, .int .i64 z1, .string z2, .slice A3 z3.length c3] := (((((Blk.new w _ _).alloc _).alloc _).alloc _).alloc _).alloc _
  rw [hs1] at V5 hba RX BG
  have MB : MaxB w (w.heap.size + 1) := by obtain ⟨g, m, h1, h2, h3⟩ := MaxB.of hm; exact ⟨g, m, h1, by omega, h3⟩
  have hbz : w.heap.size + 1 ≤ (((((((w.alloc (.cells #[.int .i64 z0, .int .i64 z1, .string z2, .slice A3 z3.length c3] 30)).alloc (.cells #[] 9)).alloc (.cells #[.slice (some ⟨(w.alloc (.cells #[.int .i64 z0, .int .i64 z1, .string z2, .slice A3 z3.length c3] 30)).heap.size, 0, none⟩) 0 0] 26)).alloc (.map #[] 0)).alloc (.cells #[.map (some b)] 40)).alloc (.cells #[.func (.func 16) #[] #[.pointer (some ⟨M, 0, none⟩), .pointer (some ⟨O, 0, none⟩), .pointer (some ⟨V, 0, none⟩)]] 41))).heap.size := by first | (simp; done) | (simp; omega)
  rw [hs1] at hbz
  rw [hV, hM, hb, hO]
  generalize ((((((w.alloc (.cells #[.int .i64 z0, .int .i64 z1, .string z2, .slice A3 z3.length c3] 30)).alloc (.cells #[] 9)).alloc (.cells #[.slice (some ⟨w.heap.size + 1, 0, none⟩) 0 0] 26)).alloc (.map #[] 0)).alloc (.cells #[.map (some b)] 40)).alloc (.cells #[.func (.func 16) #[] #[.pointer (some ⟨M, 0, none⟩), .pointer (some ⟨O, 0, none⟩), .pointer (some ⟨V, 0, none⟩)]] 41)) = w5 at *
  have kv : w5.cell? ⟨V, 0, none⟩ = some (.func (.func 16) #[] #[.pointer (some ⟨M, 0, none⟩), .pointer (some ⟨O, 0, none⟩), .pointer (some ⟨V, 0, none⟩)]) := V5.fn.cell 0
  have kg0 : w5.cell? ⟨w.heap.size, 0, none⟩ = some (.int .i64 z0) := BG.cell 0
  have kg1 : w5.cell? ⟨w.heap.size, 1, none⟩ = some (.int .i64 z1) := BG.cell 1
  have kg2 : w5.cell? ⟨w.heap.size, 2, none⟩ = some (.string z2) := BG.cell 2
  have kg3 : w5.cell? ⟨w.heap.size, 3, none⟩ = some (.slice A3 z3.length c3) := BG.cell 3
  have MB5 : MaxB w5 (w.heap.size + 1) := by
    obtain ⟨g, m, h1, h2, h3⟩ := MaxB.of hm
    exact ⟨g, m, h1, by omega, (hba.cell (p := ⟨g, 0, none⟩) h2).trans h3⟩
  have CALL := Lib.hid (incI_any ⟨z0, z1, z2, z3⟩ [.int .i64 z0, .int .i64 z1, .string z2, .slice A3 z3.length c3] w5 B (w.heap.size + 1) O M V b [] (some ⟨w.heap.size + 1, 0, none⟩) 0 (by omega) hbz (by omega) (by omega) MB5 RX.out V5 hw (by show 0 + 0 + _ ≤ _; omega))
  have HBA := Lib.hid hba
  have hbO : w.heap.size + 1 ≤ O := by omega
  have hbb : w.heap.size + 1 ≤ b := by omega
  clear hV hM hb hO hba MB5 MB V5 BG hmm hmf
  go_wp2_with (go_at_call 16; refine CALL.out.mono ?_; rintro e w2 ⟨rfl, A', c', V2⟩; have ko : w2.cell? ⟨O, 0, none⟩ = some (.slice A' (incN ⟨z0, z1, z2, z3⟩ []).length c') := V2.out.cell 0)
  go_ret
  have hlo := V2.lo hbO hbb (fun g hg => by have e9 : w.heap.size + 1 = g := Option.some.inj hg; omega) hbz
  have hb2 := HBA.out.trans (hlo.mono (by omega))
  exact ⟨A', c', rfl, (own_sv V2.own (by have := hlo.size; omega)).wide (by omega) (Nat.le_refl _), hb2⟩
end Go.Proofs.YtbmgjndpnbdgeaaDoor
