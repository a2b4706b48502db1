/-
  MethodNode of both packages: a copy of the first method of a name in a class or trait of a name, in memory of its own. Conditions: none.
-/
import Derived.Test.YtjfmckepelfojaaFindFn
namespace Go.Proofs.Ytjfmckepelfojaa
open Go.ChangeShapes Go.WideShapes Go.ChangeAt Go.RowKit Go.Deep Go.Joins
open Go.ChangeMaps (open_string shut_string)
set_option linter.unusedVariables false
set_option linter.unusedSimpArgs false
set_option maxRecDepth 100000

def isHost (s : ByteArray) (k : FNode) : Bool := (k.kind == 50 || k.kind == 51) && k.text.toList == s.toList
def isMeth (s : ByteArray) (k : FNode) : Bool := k.kind == 55 && k.text.toList == s.toList
def hostF (a s : ByteArray) (k : FNode) : Option FNode := if isHost a k = true then k.kids.find? (isMeth s) else none
def mtF (l : List FUnit) (a s : ByteArray) : Option FNode := l.findSome? fun u => u.kids.findSome? (hostF a s)
def mtQ (l : List FUnit) (a s : ByteArray) : FNode := (mtF l a s).getD zeroN
def mtB (l : List FUnit) (a s : ByteArray) : Bool := (mtF l a s).isSome
theorem mt_hit {l : List FUnit} {a s : ByteArray} {i k m : Nat} {u : FUnit} {x y : FNode} (hu : l[i]? = some u) (hx : u.kids[k]? = some x) (hh : isHost a x = true) (hy : x.kids[m]? = some y) (hp : isMeth s y = true)
    (hno : ∀ (j : Nat) (z : FNode), j < m → x.kids[j]? = some z → isMeth s z = false) (hno1 : ∀ (j : Nat) (z : FNode), j < k → u.kids[j]? = some z → hostF a s z = none) (hno2 : ∀ (j : Nat) (z : FUnit), j < i → l[j]? = some z → z.kids.findSome? (hostF a s) = none) : mtQ l a s = y ∧ mtB l a s = true := by
  have h1 : hostF a s x = some y := by unfold hostF; rw [if_pos hh]; exact find_hit _ _ m y hy hp hno
  have h := findSome_hit (fun u => u.kids.findSome? (hostF a s)) l i u y hu (findSome_hit _ _ k x y hx h1 hno1) hno2
  unfold mtQ mtB mtF
  rw [h]
  exact ⟨rfl, rfl⟩
theorem mt_miss {l : List FUnit} {a s : ByteArray} (hno2 : ∀ (j : Nat) (z : FUnit), l[j]? = some z → z.kids.findSome? (hostF a s) = none) : mtQ l a s = zeroN ∧ mtB l a s = false := by
  have h := findSome_miss (fun u => u.kids.findSome? (hostF a s)) l hno2
  unfold mtQ mtB mtF
  rw [h]
  exact ⟨rfl, rfl⟩
theorem host_no {a s : ByteArray} {x : FNode} (h : isHost a x = false) : hostF a s x = none := by unfold hostF; rw [h]; rfl
theorem host_miss {a s : ByteArray} {x : FNode} (h : ∀ (j : Nat) (z : FNode), x.kids[j]? = some z → isMeth s z = false) : hostF a s x = none := by
  unfold hostF
  split
  · exact find_miss _ _ h
  · rfl
theorem node_kids_wt {x y : FNode} {m : Nat} (hy : x.kids[m]? = some y) : x.kids.length + y.wt ≤ x.wt := by
  obtain ⟨z0, z1, z2, z3⟩ := x
  have h2 := FNode.wts_at z3 y (List.mem_of_getElem? hy)
  rw [FNode.wt_eq]
  show z3.length + _ ≤ _
  omega
theorem node_kids_len (x : FNode) : x.kids.length ≤ x.wt := by
  obtain ⟨z0, z1, z2, z3⟩ := x
  rw [FNode.wt_eq]
  show z3.length ≤ _
  omega
theorem mtQ_wt (l : List FUnit) (a s : ByteArray) : (mtQ l a s).wt ≤ FUnit.wts l := by
  unfold mtQ mtF
  cases h : l.findSome? (fun u => u.kids.findSome? (hostF a s)) with
  | none =>
    show zeroN.wt ≤ _
    have : zeroN.wt = 0 := by unfold zeroN; rw [FNode.wt_eq]; rfl
    omega
  | some y =>
    show y.wt ≤ _
    obtain ⟨u, hu, hx⟩ := List.exists_of_findSome?_eq_some h
    obtain ⟨x, hxm, hxy⟩ := List.exists_of_findSome?_eq_some hx
    obtain ⟨i, hi⟩ := List.mem_iff_getElem?.1 hu
    obtain ⟨k, hk⟩ := List.mem_iff_getElem?.1 hxm
    unfold hostF at hxy
    split at hxy
    · obtain ⟨m, hm⟩ := List.mem_iff_getElem?.1 (List.mem_of_find?_eq_some hxy)
      have h1 := (kids_wt hi hk).2
      have h2 := node_kids_wt hm
      omega
    · cases hxy

set_option maxHeartbeats 8000000 in
theorem MethodNode_impl (l : List FUnit) (a s : ByteArray) (u : Value) (w : World) (hl : l.length + FUnit.wts l ≤ 1000000000) {B : Nat} (hB0 : B ≤ w.heap.size) (hr0 : RdC w B (.s 65 5 l.length (FUnit.flat l)) u) :
    Calls Try.prog 36 #[u, .string a, .string s] w fun e w' => ∃ us, e = .returned (.tuple #[.agg us.toArray, .bool (mtB l a s)]) ∧ OwnI w' w.heap.size w'.heap.size (mtQ l a s).c us ∧ Below w.heap.size w w' := by
  have hr := hr0.up hB0
  clear hr0
  obtain ⟨A, c, rfl⟩ := hr.form
  have HC := Lib.hid hr
  have hn : l.length ≤ 9223372036854775807 := by omega
  clear hr
  go_enter Try.func36, Try.ntmps36
  go_wp2_with fail
  go_loopw [16] (fun i wr => ∃ k : Nat, k ≤ l.length ∧ i = .int .i64 k ∧ (∀ (j : Nat) (z : FUnit), j < k → l[j]? = some z → z.kids.findSome? (hostF a s) = none) ∧ Blk wr w.heap.size 45 #[.int .i64 0, .int .i64 0, .string ⟨#[]⟩, .slice none 0 0] ∧ Below w.heap.size w wr) (fun i _ => l.length - (intOf i).toNat)
  case atStart => exact ⟨0, Nat.zero_le _, rfl, fun j z hj => absurd hj (by omega), Blk.new _ _ _, (Below.refl _ _).alloc (Nat.le_refl _) _⟩
  case round =>
    obtain ⟨k, hk, rfl, hno, br, hb⟩ := hrel
    have HNO := Lib.hid hno
    clear hno
    by_cases hlt : k < l.length
    · obtain ⟨x, hx⟩ : ∃ x, l[k]? = some x := ⟨_, List.getElem?_eq_getElem hlt⟩
      obtain ⟨bc, offc, rfl, hblc, hcc⟩ := RdC.at_ FUnit.len HC.out hx
      have HX := Lib.hid hx
      have hbs := hb.size
      clear hx
      obtain ⟨y0, ⟨y1, y2, y3, y4⟩⟩ := x
      rw [FUnit.c_eq] at hcc
      obtain ⟨u0, e0, q0⟩ := hcc 0 _ rfl
      obtain rfl := q0.val
      obtain ⟨u1, e1, q1⟩ := hcc 1 _ rfl
      obtain rfl := q1.val
      obtain ⟨u2, e2, q2⟩ := hcc 2 _ rfl
      obtain rfl := q2.val
      obtain ⟨u3, e3, q3⟩ := hcc 3 _ rfl
      obtain rfl := q3.val
      obtain ⟨u4, e4, q4⟩ := hcc 4 _ rfl
      obtain ⟨A4, c4, rfl⟩ := q4.form
      have HK := Lib.hid q4
      have hkl : y4.length ≤ 1000000000 := by have := kids_len HX.out; have e : FUnit.kids ⟨y0, ⟨y1, y2, y3, y4⟩⟩ = y4 := rfl; rw [e] at this; omega
      have hn4 : y4.length ≤ 9223372036854775807 := by omega
      have k0 : wr.cell? ⟨bc, offc + k * 5, none⟩ = some (.string y0) := (hb.cell (p := ⟨bc, _, none⟩) hblc).trans (by simpa using e0)
      have k1 : wr.cell? ⟨bc, offc + k * 5 + 1, none⟩ = some (.int .i64 y1) := (hb.cell (p := ⟨bc, _, none⟩) hblc).trans (by simpa using e1)
      have k2 : wr.cell? ⟨bc, offc + k * 5 + 2, none⟩ = some (.int .i64 y2) := (hb.cell (p := ⟨bc, _, none⟩) hblc).trans (by simpa using e2)
      have k3 : wr.cell? ⟨bc, offc + k * 5 + 3, none⟩ = some (.string y3) := (hb.cell (p := ⟨bc, _, none⟩) hblc).trans (by simpa using e3)
      have k4 : wr.cell? ⟨bc, offc + k * 5 + 4, none⟩ = some (.slice A4 y4.length c4) := (hb.cell (p := ⟨bc, _, none⟩) hblc).trans (by simpa using e4)
      clear hcc e0 e1 e2 e3 e4 q0 q1 q2 q3 q4
      go_wp2_with fail
      obtain ⟨wo, hwo⟩ : ∃ wo : World, wo = wr.alloc (.cells #[.string y0, .int .i64 y1, .int .i64 y2, .string y3, .slice A4 y4.length c4] 65) := ⟨_, rfl⟩
      have bro : Blk wo w.heap.size 45 #[.int .i64 0, .int .i64 0, .string ⟨#[]⟩, .slice none 0 0] := by rw [hwo]; exact br.alloc _
      have hbo : Below w.heap.size w wo := by rw [hwo]; exact hb.alloc hbs _
      rw [← hwo]
      clear hwo k0 k1 k2 k3 k4 br hb
      go_loopw [24] (fun i wi => ∃ m : Nat, m ≤ y4.length ∧ i = .int .i64 m ∧ (∀ (j : Nat) (z : FNode), j < m → y4[j]? = some z → hostF a s z = none) ∧ Blk wi w.heap.size 45 #[.int .i64 0, .int .i64 0, .string ⟨#[]⟩, .slice none 0 0] ∧ Below w.heap.size w wi) (fun i _ => y4.length - (intOf i).toNat)
      case atStart => exact ⟨0, Nat.zero_le _, rfl, fun j z hj => absurd hj (by omega), bro, hbo⟩
      case round =>
        obtain ⟨m, hm, rfl, hnk, br, hb⟩ := hrel
        have HNK := Lib.hid hnk
        have hbs2 := hb.size
        clear hnk bro hbo
        obtain ⟨wi, hwi⟩ : ∃ wi : World, wi = wr := ⟨_, rfl⟩
        rw [← hwi] at br hb hbs2 ⊢
        clear hwi
        by_cases hmt : m < y4.length
        · obtain ⟨x, hx⟩ : ∃ x, y4[m]? = some x := ⟨_, List.getElem?_eq_getElem hmt⟩
          obtain ⟨bd, offd, rfl, hbld, hcc⟩ := RdC.at_ FNode.len HK.out hx
          have HX2 := Lib.hid (show (FUnit.kids ⟨y0, ⟨y1, y2, y3, y4⟩⟩)[m]? = some x from hx)
          clear hx
          obtain ⟨z0, z1, z2, z3⟩ := x
          rw [FNode.c_eq] at hcc
          obtain ⟨u0, e0, q0⟩ := hcc 0 _ rfl
          obtain rfl := q0.val
          obtain ⟨u1, e1, q1⟩ := hcc 1 _ rfl
          obtain rfl := q1.val
          obtain ⟨u2, e2, q2⟩ := hcc 2 _ rfl
          obtain rfl := q2.val
          obtain ⟨u3, e3, q3⟩ := hcc 3 _ rfl
          obtain ⟨A3, c3, rfl⟩ := q3.form
          have Q3 := Lib.hid q3
          have k0 : wi.cell? ⟨bd, offd + m * 4, none⟩ = some (.int .i64 z0) := (hb.cell (p := ⟨bd, _, none⟩) hbld).trans (by simpa using e0)
          have k1 : wi.cell? ⟨bd, offd + m * 4 + 1, none⟩ = some (.int .i64 z1) := (hb.cell (p := ⟨bd, _, none⟩) hbld).trans (by simpa using e1)
          have k2 : wi.cell? ⟨bd, offd + m * 4 + 2, none⟩ = some (.string z2) := (hb.cell (p := ⟨bd, _, none⟩) hbld).trans (by simpa using e2)
          have k3 : wi.cell? ⟨bd, offd + m * 4 + 3, none⟩ = some (.slice A3 z3.length c3) := (hb.cell (p := ⟨bd, _, none⟩) hbld).trans (by simpa using e3)
          clear hcc e0 e1 e2 e3 q0 q1 q2 q3
          have hzl : z3.length ≤ 1000000000 := by have := (kids_wt HX.out HX2.out).2; have := node_kids_len (FNode.mk z0 z1 z2 z3); have e : (FNode.mk z0 z1 z2 z3).kids = z3 := rfl; rw [e] at this; omega
          have hzn : z3.length ≤ 9223372036854775807 := by omega
          by_cases hh : isHost a (.mk z0 z1 z2 z3) = true
          · have hh2 : (z2.toList == a.toList) = true := by unfold isHost at hh; simp only [Bool.and_eq_true] at hh; exact hh.2
            have hh1 : z0 = 50 ∨ z0 = 51 := by unfold isHost at hh; simp [FNode.kind] at hh; exact hh.1
            have HH := Lib.hid hh
            have HH2 := Lib.hid hh2
            clear hh
            rcases hh1 with rfl | rfl
            · skip
              go_wp2_with fail
              obtain ⟨wm, hwm⟩ : ∃ wm : World, wm = wi.alloc (.cells #[.int .i64 50, .int .i64 z1, .string z2, .slice A3 z3.length c3] 45) := ⟨_, rfl⟩
              have brm : Blk wm w.heap.size 45 #[.int .i64 0, .int .i64 0, .string ⟨#[]⟩, .slice none 0 0] := by rw [hwm]; exact br.alloc _
              have hbm : Below w.heap.size w wm := by rw [hwm]; exact hb.alloc hbs2 _
              rw [← hwm]
              clear hwm k0 k1 k2 k3 br hb
              go_loopw [45] (fun i wj => ∃ p : Nat, p ≤ z3.length ∧ i = .int .i64 p ∧ (∀ (j : Nat) (z : FNode), j < p → (FNode.mk 50 z1 z2 z3).kids[j]? = some z → isMeth s z = false) ∧ Blk wj w.heap.size 45 #[.int .i64 0, .int .i64 0, .string ⟨#[]⟩, .slice none 0 0] ∧ Below w.heap.size w wj) (fun i _ => z3.length - (intOf i).toNat)
              case atStart => exact ⟨0, Nat.zero_le _, rfl, fun j z hj => absurd hj (by omega), brm, hbm⟩
              case round =>
                obtain ⟨p, hpm, rfl, hnm, br, hb⟩ := hrel
                have HNM := Lib.hid hnm
                have hbs3 := hb.size
                clear hnm brm hbm
                by_cases hpt : p < z3.length
                · obtain ⟨x, hx⟩ : ∃ x, z3[p]? = some x := ⟨_, List.getElem?_eq_getElem hpt⟩
                  obtain ⟨be, offe, rfl, hble, hcc⟩ := RdC.at_ FNode.len Q3.out hx
                  have HX3 := Lib.hid (show (FNode.mk 50 z1 z2 z3).kids[p]? = some x from hx)
                  have hxw : x.wt ≤ 1000000000 := by have := (kids_wt HX.out HX2.out).2; have := node_kids_wt HX3.out; omega
                  have HCP := Lib.hid (cpNode_any x hxw)
                  clear hx hxw
                  obtain ⟨x0, x1, x2, x3⟩ := x
                  rw [FNode.c_eq] at hcc
                  obtain ⟨u0, e0, q0⟩ := hcc 0 _ rfl
                  obtain rfl := q0.val
                  obtain ⟨u1, e1, q1⟩ := hcc 1 _ rfl
                  obtain rfl := q1.val
                  obtain ⟨u2, e2, q2⟩ := hcc 2 _ rfl
                  obtain rfl := q2.val
                  obtain ⟨u3, e3, q3⟩ := hcc 3 _ rfl
                  obtain ⟨A5, c5, rfl⟩ := q3.form
                  have Q5 := Lib.hid q3
                  have j0 : wr.cell? ⟨be, offe + p * 4, none⟩ = some (.int .i64 x0) := (hb.cell (p := ⟨be, _, none⟩) hble).trans (by simpa using e0)
                  have j1 : wr.cell? ⟨be, offe + p * 4 + 1, none⟩ = some (.int .i64 x1) := (hb.cell (p := ⟨be, _, none⟩) hble).trans (by simpa using e1)
                  have j2 : wr.cell? ⟨be, offe + p * 4 + 2, none⟩ = some (.string x2) := (hb.cell (p := ⟨be, _, none⟩) hble).trans (by simpa using e2)
                  have j3 : wr.cell? ⟨be, offe + p * 4 + 3, none⟩ = some (.slice A5 x3.length c5) := (hb.cell (p := ⟨be, _, none⟩) hble).trans (by simpa using e3)
                  clear hcc e0 e1 e2 e3 q0 q1 q2 q3
                  by_cases hp : isMeth s (.mk x0 x1 x2 x3) = true
                  · have hp1 : (x0 == 55) = true := by unfold isMeth at hp; simp only [Bool.and_eq_true] at hp; exact hp.1
                    have hp2 : (x2.toList == s.toList) = true := by unfold isMeth at hp; simp only [Bool.and_eq_true] at hp; exact hp.2
                    have HP := Lib.hid hp
                    have hxx : x0 = 55 := by simpa using hp1
                    subst hxx
                    have HP2 := Lib.hid hp2
                    clear hp hp1
                    go_wp2_with fail
                    refine calls_worldD _ (fun X => Blk X w.heap.size 45 #[.int .i64 0, .int .i64 0, .string ⟨#[]⟩, .slice none 0 0] ∧ Below w.heap.size w X) ⟨br.alloc _, hb.alloc hbs3 _⟩ ?_
                    clear br hb j0 j1 j2 j3
                    rintro X0 ⟨br, hb⟩
                    have s0 := br.lt
                    refine (HCP.out [.int .i64 55, .int .i64 x1, .string x2, .slice A5 x3.length c5] _ w.heap.size (by omega) (by rw [FNode.c_eq]; exact RdVs.cons (by unfold RdC; rfl) (RdVs.cons (by unfold RdC; rfl) (RdVs.cons (by unfold RdC; rfl) (RdVs.cons (Q5.out.below hb (Nat.le_refl _)) (RdVs.nil _ _)))))).mono ?_
                    rw [FNode.c_eq]
                    rintro e w2 ⟨us2, rfl, own2, hb2⟩
                    have hv := own2.vs
                    obtain ⟨us2_0, rfl, hv_0⟩ := hv.unv
                    obtain ⟨us2_1, rfl, hv_1⟩ := hv_0.unv
                    obtain ⟨us2_2, rfl, hv_2⟩ := hv_1.unv
                    obtain ⟨D3, d3, us2_3, rfl, _, hv_3⟩ := hv_2.uns
                    obtain rfl := hv_3.un0
                    clear hv hv_0 hv_1 hv_2 hv_3
                    replace br := br.below hb2 (Nat.le_refl _)
                    replace hb := hb.trans (hb2.mono (by omega))
                    have br_0 : w2.cell? ⟨w.heap.size, 0, none⟩ = some (.int .i64 0) := br.cell 0
                    have br_1 : w2.cell? ⟨w.heap.size, 1, none⟩ = some (.int .i64 0) := br.cell 1
                    have br_2 : w2.cell? ⟨w.heap.size, 2, none⟩ = some (.string ⟨#[]⟩) := br.cell 2
                    have br_3 : w2.cell? ⟨w.heap.size, 3, none⟩ = some (.slice none 0 0) := br.cell 3
                    have br_l := br.lt
                    have br_f := fun i => br.frozen i
                    have hs2 : X0.heap.size ≤ w2.heap.size := hb2.size
                    have OW := Lib.hid own2
                    clear own2 hb2
                    go_wp2_with fail
                    obtain ⟨f1, f2⟩ := mt_hit HX.out HX2.out HH.out HX3.out HP.out HNM.out HNK.out HNO.out
                    rw [f1, f2, FNode.c_eq]
                    refine bodyPost_ret (v := .tuple #[.agg #[.int .i64 55, .int .i64 x1, .string x2, .slice D3 x3.length d3], .bool true]) (by simp [results, Try.results36, go_sem, br_0, br_1, br_2, br_3, br_l, br_f]) rfl ⟨_, rfl, ?_, ?_⟩
                    · refine OwnI.wide (lo := X0.heap.size) (hi := w2.heap.size) ?_ (by omega) (by simp)
                      repeat (refine OwnI.set ?_ (.inl (by simp; try omega)) _)
                      exact OW.out
                    · repeat (refine Below.setCell ?_ (by simp) _)
                      exact hb
                  · have HP := Lib.hid (show isMeth s (.mk x0 x1 x2 x3) = false from by simpa using hp)
                    by_cases hxx : x0 = 55
                    · subst hxx
                      have hp2 : (x2.toList == s.toList) = false := by
                        have := HP.out
                        unfold isMeth at this
                        simpa [FNode.kind, FNode.text] using this
                      have HP2 := Lib.hid hp2
                      clear hp
                      go_wp2_with fail
                      go_roundw
                      case rel =>
                        refine ⟨p + 1, by omega, by go_num, fun j z hj hjz => ?_, br.alloc _, hb.alloc hbs3 _⟩
                        by_cases e : j = p
                        · subst e
                          have hj2 := Option.some.inj ((HX3.out).symm.trans hjz)
                          subst hj2
                          exact HP.out
                        · exact HNM.out j z (by omega) hjz
                      case measure => simp [intOf]; omega
                    · have hz9 : (x0 == 55) = false := by simpa using hxx
                      have HZ9 := Lib.hid hz9
                      clear hp hxx
                      go_wp2_with fail
                      go_roundw
                      case rel =>
                        refine ⟨p + 1, by omega, by go_num, fun j z hj hjz => ?_, br.alloc _, hb.alloc hbs3 _⟩
                        by_cases e : j = p
                        · subst e
                          have hj2 := Option.some.inj ((HX3.out).symm.trans hjz)
                          subst hj2
                          exact HP.out
                        · exact HNM.out j z (by omega) hjz
                      case measure => simp [intOf]; omega
                · obtain rfl : p = z3.length := by omega
                  clear hpt
                  go_wp2_with fail
                  go_roundw
                  case rel =>
                    refine ⟨m + 1, by omega, by go_num, fun j z hj hjz => ?_, br, hb⟩
                    by_cases e : j = m
                    · subst e
                      have hj2 := Option.some.inj ((HX2.out).symm.trans hjz)
                      subst hj2
                      exact host_miss fun j z hz => HNM.out j z (List.getElem?_eq_some_iff.1 hz).1 hz
                    · exact HNK.out j z (by omega) hjz
                  case measure => simp [intOf]; omega
            · skip
              go_wp2_with fail
              obtain ⟨wm, hwm⟩ : ∃ wm : World, wm = wi.alloc (.cells #[.int .i64 51, .int .i64 z1, .string z2, .slice A3 z3.length c3] 45) := ⟨_, rfl⟩
              have brm : Blk wm w.heap.size 45 #[.int .i64 0, .int .i64 0, .string ⟨#[]⟩, .slice none 0 0] := by rw [hwm]; exact br.alloc _
              have hbm : Below w.heap.size w wm := by rw [hwm]; exact hb.alloc hbs2 _
              rw [← hwm]
              clear hwm k0 k1 k2 k3 br hb
              go_loopw [45] (fun i wj => ∃ p : Nat, p ≤ z3.length ∧ i = .int .i64 p ∧ (∀ (j : Nat) (z : FNode), j < p → (FNode.mk 51 z1 z2 z3).kids[j]? = some z → isMeth s z = false) ∧ Blk wj w.heap.size 45 #[.int .i64 0, .int .i64 0, .string ⟨#[]⟩, .slice none 0 0] ∧ Below w.heap.size w wj) (fun i _ => z3.length - (intOf i).toNat)
              case atStart => exact ⟨0, Nat.zero_le _, rfl, fun j z hj => absurd hj (by omega), brm, hbm⟩
              case round =>
                obtain ⟨p, hpm, rfl, hnm, br, hb⟩ := hrel
                have HNM := Lib.hid hnm
                have hbs3 := hb.size
                clear hnm brm hbm
                by_cases hpt : p < z3.length
                · obtain ⟨x, hx⟩ : ∃ x, z3[p]? = some x := ⟨_, List.getElem?_eq_getElem hpt⟩
                  obtain ⟨be, offe, rfl, hble, hcc⟩ := RdC.at_ FNode.len Q3.out hx
                  have HX3 := Lib.hid (show (FNode.mk 51 z1 z2 z3).kids[p]? = some x from hx)
                  have hxw : x.wt ≤ 1000000000 := by have := (kids_wt HX.out HX2.out).2; have := node_kids_wt HX3.out; omega
                  have HCP := Lib.hid (cpNode_any x hxw)
                  clear hx hxw
                  obtain ⟨x0, x1, x2, x3⟩ := x
                  rw [FNode.c_eq] at hcc
                  obtain ⟨u0, e0, q0⟩ := hcc 0 _ rfl
                  obtain rfl := q0.val
                  obtain ⟨u1, e1, q1⟩ := hcc 1 _ rfl
                  obtain rfl := q1.val
                  obtain ⟨u2, e2, q2⟩ := hcc 2 _ rfl
                  obtain rfl := q2.val
                  obtain ⟨u3, e3, q3⟩ := hcc 3 _ rfl
                  obtain ⟨A5, c5, rfl⟩ := q3.form
                  have Q5 := Lib.hid q3
                  have j0 : wr.cell? ⟨be, offe + p * 4, none⟩ = some (.int .i64 x0) := (hb.cell (p := ⟨be, _, none⟩) hble).trans (by simpa using e0)
                  have j1 : wr.cell? ⟨be, offe + p * 4 + 1, none⟩ = some (.int .i64 x1) := (hb.cell (p := ⟨be, _, none⟩) hble).trans (by simpa using e1)
                  have j2 : wr.cell? ⟨be, offe + p * 4 + 2, none⟩ = some (.string x2) := (hb.cell (p := ⟨be, _, none⟩) hble).trans (by simpa using e2)
                  have j3 : wr.cell? ⟨be, offe + p * 4 + 3, none⟩ = some (.slice A5 x3.length c5) := (hb.cell (p := ⟨be, _, none⟩) hble).trans (by simpa using e3)
                  clear hcc e0 e1 e2 e3 q0 q1 q2 q3
                  by_cases hp : isMeth s (.mk x0 x1 x2 x3) = true
                  · have hp1 : (x0 == 55) = true := by unfold isMeth at hp; simp only [Bool.and_eq_true] at hp; exact hp.1
                    have hp2 : (x2.toList == s.toList) = true := by unfold isMeth at hp; simp only [Bool.and_eq_true] at hp; exact hp.2
                    have HP := Lib.hid hp
                    have hxx : x0 = 55 := by simpa using hp1
                    subst hxx
                    have HP2 := Lib.hid hp2
                    clear hp hp1
                    go_wp2_with fail
                    refine calls_worldD _ (fun X => Blk X w.heap.size 45 #[.int .i64 0, .int .i64 0, .string ⟨#[]⟩, .slice none 0 0] ∧ Below w.heap.size w X) ⟨br.alloc _, hb.alloc hbs3 _⟩ ?_
                    clear br hb j0 j1 j2 j3
                    rintro X0 ⟨br, hb⟩
                    have s0 := br.lt
                    refine (HCP.out [.int .i64 55, .int .i64 x1, .string x2, .slice A5 x3.length c5] _ w.heap.size (by omega) (by rw [FNode.c_eq]; exact RdVs.cons (by unfold RdC; rfl) (RdVs.cons (by unfold RdC; rfl) (RdVs.cons (by unfold RdC; rfl) (RdVs.cons (Q5.out.below hb (Nat.le_refl _)) (RdVs.nil _ _)))))).mono ?_
                    rw [FNode.c_eq]
                    rintro e w2 ⟨us2, rfl, own2, hb2⟩
                    have hv := own2.vs
                    obtain ⟨us2_0, rfl, hv_0⟩ := hv.unv
                    obtain ⟨us2_1, rfl, hv_1⟩ := hv_0.unv
                    obtain ⟨us2_2, rfl, hv_2⟩ := hv_1.unv
                    obtain ⟨D3, d3, us2_3, rfl, _, hv_3⟩ := hv_2.uns
                    obtain rfl := hv_3.un0
                    clear hv hv_0 hv_1 hv_2 hv_3
                    replace br := br.below hb2 (Nat.le_refl _)
                    replace hb := hb.trans (hb2.mono (by omega))
                    have br_0 : w2.cell? ⟨w.heap.size, 0, none⟩ = some (.int .i64 0) := br.cell 0
                    have br_1 : w2.cell? ⟨w.heap.size, 1, none⟩ = some (.int .i64 0) := br.cell 1
                    have br_2 : w2.cell? ⟨w.heap.size, 2, none⟩ = some (.string ⟨#[]⟩) := br.cell 2
                    have br_3 : w2.cell? ⟨w.heap.size, 3, none⟩ = some (.slice none 0 0) := br.cell 3
                    have br_l := br.lt
                    have br_f := fun i => br.frozen i
                    have hs2 : X0.heap.size ≤ w2.heap.size := hb2.size
                    have OW := Lib.hid own2
                    clear own2 hb2
                    go_wp2_with fail
                    obtain ⟨f1, f2⟩ := mt_hit HX.out HX2.out HH.out HX3.out HP.out HNM.out HNK.out HNO.out
                    rw [f1, f2, FNode.c_eq]
                    refine bodyPost_ret (v := .tuple #[.agg #[.int .i64 55, .int .i64 x1, .string x2, .slice D3 x3.length d3], .bool true]) (by simp [results, Try.results36, go_sem, br_0, br_1, br_2, br_3, br_l, br_f]) rfl ⟨_, rfl, ?_, ?_⟩
                    · refine OwnI.wide (lo := X0.heap.size) (hi := w2.heap.size) ?_ (by omega) (by simp)
                      repeat (refine OwnI.set ?_ (.inl (by simp; try omega)) _)
                      exact OW.out
                    · repeat (refine Below.setCell ?_ (by simp) _)
                      exact hb
                  · have HP := Lib.hid (show isMeth s (.mk x0 x1 x2 x3) = false from by simpa using hp)
                    by_cases hxx : x0 = 55
                    · subst hxx
                      have hp2 : (x2.toList == s.toList) = false := by
                        have := HP.out
                        unfold isMeth at this
                        simpa [FNode.kind, FNode.text] using this
                      have HP2 := Lib.hid hp2
                      clear hp
                      go_wp2_with fail
                      go_roundw
                      case rel =>
                        refine ⟨p + 1, by omega, by go_num, fun j z hj hjz => ?_, br.alloc _, hb.alloc hbs3 _⟩
                        by_cases e : j = p
                        · subst e
                          have hj2 := Option.some.inj ((HX3.out).symm.trans hjz)
                          subst hj2
                          exact HP.out
                        · exact HNM.out j z (by omega) hjz
                      case measure => simp [intOf]; omega
                    · have hz9 : (x0 == 55) = false := by simpa using hxx
                      have HZ9 := Lib.hid hz9
                      clear hp hxx
                      go_wp2_with fail
                      go_roundw
                      case rel =>
                        refine ⟨p + 1, by omega, by go_num, fun j z hj hjz => ?_, br.alloc _, hb.alloc hbs3 _⟩
                        by_cases e : j = p
                        · subst e
                          have hj2 := Option.some.inj ((HX3.out).symm.trans hjz)
                          subst hj2
                          exact HP.out
                        · exact HNM.out j z (by omega) hjz
                      case measure => simp [intOf]; omega
                · obtain rfl : p = z3.length := by omega
                  clear hpt
                  go_wp2_with fail
                  go_roundw
                  case rel =>
                    refine ⟨m + 1, by omega, by go_num, fun j z hj hjz => ?_, br, hb⟩
                    by_cases e : j = m
                    · subst e
                      have hj2 := Option.some.inj ((HX2.out).symm.trans hjz)
                      subst hj2
                      exact host_miss fun j z hz => HNM.out j z (List.getElem?_eq_some_iff.1 hz).1 hz
                    · exact HNK.out j z (by omega) hjz
                  case measure => simp [intOf]; omega
          · have HH := Lib.hid (show isHost a (.mk z0 z1 z2 z3) = false from by simpa using hh)
            by_cases h50 : z0 = 50
            · subst h50
              have ht : (z2.toList == a.toList) = false := by
                have := HH.out
                unfold isHost at this
                simpa [FNode.kind, FNode.text] using this
              have HT := Lib.hid ht
              clear hh
              go_wp2_with fail
              go_roundw
              case rel =>
                refine ⟨m + 1, by omega, by go_num, fun j z hj hjz => ?_, br.alloc _, hb.alloc hbs2 _⟩
                by_cases e : j = m
                · subst e
                  have hj2 := Option.some.inj ((HX2.out).symm.trans hjz)
                  subst hj2
                  exact host_no HH.out
                · exact HNK.out j z (by omega) hjz
              case measure => simp [intOf]; omega
            · by_cases h51 : z0 = 51
              · subst h51
                have ht : (z2.toList == a.toList) = false := by
                  have := HH.out
                  unfold isHost at this
                  simpa [FNode.kind, FNode.text] using this
                have HT := Lib.hid ht
                clear hh h50
                go_wp2_with fail
                go_roundw
                case rel =>
                  refine ⟨m + 1, by omega, by go_num, fun j z hj hjz => ?_, br.alloc _, hb.alloc hbs2 _⟩
                  by_cases e : j = m
                  · subst e
                    have hj2 := Option.some.inj ((HX2.out).symm.trans hjz)
                    subst hj2
                    exact host_no HH.out
                  · exact HNK.out j z (by omega) hjz
                case measure => simp [intOf]; omega
              · have g50 : (z0 == 50) = false := by simpa using h50
                have g51 : (z0 == 51) = false := by simpa using h51
                have g50' : (z0 != 50) = true := by simpa using h50
                have g51' : (z0 != 51) = true := by simpa using h51
                clear hh h50 h51
                go_wp2_with fail
                go_roundw
                case rel =>
                  refine ⟨m + 1, by omega, by go_num, fun j z hj hjz => ?_, br.alloc _, hb.alloc hbs2 _⟩
                  by_cases e : j = m
                  · subst e
                    have hj2 := Option.some.inj ((HX2.out).symm.trans hjz)
                    subst hj2
                    exact host_no HH.out
                  · exact HNK.out j z (by omega) hjz
                case measure => simp [intOf]; omega
        · obtain rfl : m = y4.length := by omega
          clear hmt
          go_wp2_with fail
          go_roundw
          case rel =>
            refine ⟨k + 1, by omega, by go_num, fun j z hj hjz => ?_, br, hb⟩
            by_cases e : j = k
            · subst e
              have hj2 := Option.some.inj ((HX.out).symm.trans hjz)
              subst hj2
              exact findSome_miss _ _ fun j z hz => HNK.out j z (List.getElem?_eq_some_iff.1 hz).1 hz
            · exact HNO.out j z (by omega) hjz
          case measure => simp [intOf]; omega
    · obtain rfl : k = l.length := by omega
      clear hlt
      have br_0 : wr.cell? ⟨w.heap.size, 0, none⟩ = some (.int .i64 0) := br.cell 0
      have br_1 : wr.cell? ⟨w.heap.size, 1, none⟩ = some (.int .i64 0) := br.cell 1
      have br_2 : wr.cell? ⟨w.heap.size, 2, none⟩ = some (.string ⟨#[]⟩) := br.cell 2
      have br_3 : wr.cell? ⟨w.heap.size, 3, none⟩ = some (.slice none 0 0) := br.cell 3
      have br_l := br.lt
      have br_f := fun i => br.frozen i
      go_wp2_with fail
      obtain ⟨f1, f2⟩ := mt_miss (l := l) (a := a) (s := s) fun j z hz => HNO.out j z (List.getElem?_eq_some_iff.1 hz).1 hz
      rw [f1, f2]
      refine bodyPost_ret (v := .tuple #[.agg #[.int .i64 0, .int .i64 0, .string ⟨#[]⟩, .slice none 0 0], .bool false]) (by simp [results, Try.results36, go_sem, br_0, br_1, br_2, br_3, br_l, br_f]) rfl ⟨_, rfl, ?_, ?_⟩
      · unfold zeroN
        rw [FNode.c_eq]
        exact OwnI.consv (OwnI.consv (OwnI.consv (by simpa using OwnI.none _ _ _ 45 4) _) _) _
      · repeat (refine Below.setCell ?_ (by simp) _)
        exact hb

set_option maxHeartbeats 8000000 in
theorem l23Method_any (l : List FUnit) (a s : ByteArray) (u : Value) (w : World) (hl : l.length + FUnit.wts l ≤ 1000000000) {B : Nat} (hB0 : B ≤ w.heap.size) (hr0 : RdC w B (.s 65 5 l.length (FUnit.flat l)) u) :
    Calls Try.prog 55 #[u, .string a, .string s] w fun e w' => ∃ us, e = .returned (.tuple #[.agg us.toArray, .bool (mtB l a s)]) ∧ RdVs w' w.heap.size (mtQ l a s).c us ∧ Below w.heap.size w w' := by
  have hr := hr0.up hB0
  clear hr0
  obtain ⟨A, c, rfl⟩ := hr.form
  have HC := Lib.hid hr
  have hn : l.length ≤ 9223372036854775807 := by omega
  clear hr
  go_enter Try.func55, Try.ntmps55
  go_wp2_with fail
  go_loopw [8] (fun i wr => ∃ k : Nat, k ≤ l.length ∧ i = .int .i64 k ∧ (∀ (j : Nat) (z : FUnit), j < k → l[j]? = some z → z.kids.findSome? (hostF a s) = none) ∧ Blk wr w.heap.size 45 #[.int .i64 0, .int .i64 0, .string ⟨#[]⟩, .slice none 0 0] ∧ Below w.heap.size w wr) (fun i _ => l.length - (intOf i).toNat)
  case atStart => exact ⟨0, Nat.zero_le _, rfl, fun j z hj => absurd hj (by omega), Blk.new _ _ _, (Below.refl _ _).alloc (Nat.le_refl _) _⟩
  case round =>
    obtain ⟨k, hk, rfl, hno, br, hb⟩ := hrel
    have HNO := Lib.hid hno
    clear hno
    by_cases hlt : k < l.length
    · obtain ⟨x, hx⟩ : ∃ x, l[k]? = some x := ⟨_, List.getElem?_eq_getElem hlt⟩
      obtain ⟨bc, offc, rfl, hblc, hcc⟩ := RdC.at_ FUnit.len HC.out hx
      have HX := Lib.hid hx
      have hbs := hb.size
      clear hx
      obtain ⟨y0, ⟨y1, y2, y3, y4⟩⟩ := x
      rw [FUnit.c_eq] at hcc
      obtain ⟨u0, e0, q0⟩ := hcc 0 _ rfl
      obtain rfl := q0.val
      obtain ⟨u1, e1, q1⟩ := hcc 1 _ rfl
      obtain rfl := q1.val
      obtain ⟨u2, e2, q2⟩ := hcc 2 _ rfl
      obtain rfl := q2.val
      obtain ⟨u3, e3, q3⟩ := hcc 3 _ rfl
      obtain rfl := q3.val
      obtain ⟨u4, e4, q4⟩ := hcc 4 _ rfl
      obtain ⟨A4, c4, rfl⟩ := q4.form
      have HK := Lib.hid q4
      have hkl : y4.length ≤ 1000000000 := by have := kids_len HX.out; have e : FUnit.kids ⟨y0, ⟨y1, y2, y3, y4⟩⟩ = y4 := rfl; rw [e] at this; omega
      have hn4 : y4.length ≤ 9223372036854775807 := by omega
      have HE4 := Lib.hid e4
      clear hcc e0 e1 e2 e3 e4 q0 q1 q2 q3 q4
      go_wp2_with fail
      obtain ⟨wo, hwo⟩ : ∃ wo : World, wo = wr := ⟨_, rfl⟩
      rw [← hwo] at br hb ⊢
      clear hwo hbs
      have bro := br
      have hbo := hb
      clear br hb
      go_loopw [9] (fun i wi => ∃ m : Nat, m ≤ y4.length ∧ i = .int .i64 m ∧ (∀ (j : Nat) (z : FNode), j < m → y4[j]? = some z → hostF a s z = none) ∧ Blk wi w.heap.size 45 #[.int .i64 0, .int .i64 0, .string ⟨#[]⟩, .slice none 0 0] ∧ Below w.heap.size w wi) (fun i _ => y4.length - (intOf i).toNat)
      case atStart => exact ⟨0, Nat.zero_le _, rfl, fun j z hj => absurd hj (by omega), bro, hbo⟩
      case round =>
        obtain ⟨m, hm, rfl, hnk, br2, hb2⟩ := hrel
        have HNK := Lib.hid hnk
        have hbs2 := hb2.size
        clear hnk bro hbo
        obtain ⟨wi, hwi⟩ : ∃ wi : World, wi = wr := ⟨_, rfl⟩
        rw [← hwi] at br2 hb2 hbs2 ⊢
        clear hwi
        have HBR := Lib.hid br2
        clear br2
        have k4 : wi.cell? ⟨bc, offc + k * 5 + 1 + 3, none⟩ = some (.slice A4 y4.length c4) := (hb2.cell (p := ⟨bc, _, none⟩) hblc).trans (by simpa using HE4.out)
        by_cases hmt : m < y4.length
        · obtain ⟨x, hx⟩ : ∃ x, y4[m]? = some x := ⟨_, List.getElem?_eq_getElem hmt⟩
          obtain ⟨bd, offd, rfl, hbld, hcc⟩ := RdC.at_ FNode.len HK.out hx
          have HX2 := Lib.hid (show (FUnit.kids ⟨y0, ⟨y1, y2, y3, y4⟩⟩)[m]? = some x from hx)
          clear hx
          obtain ⟨z0, z1, z2, z3⟩ := x
          rw [FNode.c_eq] at hcc
          obtain ⟨u0, e0, q0⟩ := hcc 0 _ rfl
          obtain rfl := q0.val
          obtain ⟨u1, e1, q1⟩ := hcc 1 _ rfl
          obtain rfl := q1.val
          obtain ⟨u2, e2, q2⟩ := hcc 2 _ rfl
          obtain rfl := q2.val
          obtain ⟨u3, e3, q3⟩ := hcc 3 _ rfl
          obtain ⟨A3, c3, rfl⟩ := q3.form
          have Q3 := Lib.hid q3
          have k0 : wi.cell? ⟨bd, offd + m * 4, none⟩ = some (.int .i64 z0) := (hb2.cell (p := ⟨bd, _, none⟩) hbld).trans (by simpa using e0)
          have k1 : wi.cell? ⟨bd, offd + m * 4 + 1, none⟩ = some (.int .i64 z1) := (hb2.cell (p := ⟨bd, _, none⟩) hbld).trans (by simpa using e1)
          have k2 : wi.cell? ⟨bd, offd + m * 4 + 2, none⟩ = some (.string z2) := (hb2.cell (p := ⟨bd, _, none⟩) hbld).trans (by simpa using e2)
          have k3 : wi.cell? ⟨bd, offd + m * 4 + 3, none⟩ = some (.slice A3 z3.length c3) := (hb2.cell (p := ⟨bd, _, none⟩) hbld).trans (by simpa using e3)
          clear hcc e0 e1 e2 e3 q0 q1 q2 q3
          have hzl : z3.length ≤ 1000000000 := by have := (kids_wt HX.out HX2.out).2; have := node_kids_len (FNode.mk z0 z1 z2 z3); have e : (FNode.mk z0 z1 z2 z3).kids = z3 := rfl; rw [e] at this; omega
          have hzn : z3.length ≤ 9223372036854775807 := by omega
          by_cases hh : isHost a (.mk z0 z1 z2 z3) = true
          · have hh2 : (z2.toList == a.toList) = true := by unfold isHost at hh; simp only [Bool.and_eq_true] at hh; exact hh.2
            have hh1 : z0 = 50 ∨ z0 = 51 := by unfold isHost at hh; simp [FNode.kind] at hh; exact hh.1
            have HH := Lib.hid hh
            have HH2 := Lib.hid hh2
            clear hh
            rcases hh1 with rfl | rfl
            · skip
              go_wp2_with fail
              obtain ⟨wm, hwm⟩ : ∃ wm : World, wm = wi.alloc (.cells #[.int .i64 50, .int .i64 z1, .string z2, .slice A3 z3.length c3] 45) := ⟨_, rfl⟩
              have brm : Blk wm w.heap.size 45 #[.int .i64 0, .int .i64 0, .string ⟨#[]⟩, .slice none 0 0] := by rw [hwm]; exact HBR.out.alloc _
              have hbm : Below w.heap.size w wm := by rw [hwm]; exact hb2.alloc hbs2 _
              have bxm : Blk wm wi.heap.size 45 #[.int .i64 50, .int .i64 z1, .string z2, .slice A3 z3.length c3] := by rw [hwm]; exact Blk.new _ _ _
              rw [← hwm]
              clear hwm k0 k1 k2 k3 hb2
              go_loopw [11] (fun i wj => ∃ p : Nat, p ≤ z3.length ∧ i = .int .i64 p ∧ (∀ (j : Nat) (z : FNode), j < p → (FNode.mk 50 z1 z2 z3).kids[j]? = some z → isMeth s z = false) ∧ Blk wj w.heap.size 45 #[.int .i64 0, .int .i64 0, .string ⟨#[]⟩, .slice none 0 0] ∧ Blk wj wi.heap.size 45 #[.int .i64 50, .int .i64 z1, .string z2, .slice A3 z3.length c3] ∧ Below w.heap.size w wj) (fun i _ => z3.length - (intOf i).toNat)
              case atStart => exact ⟨0, Nat.zero_le _, rfl, fun j z hj => absurd hj (by omega), brm, bxm, hbm⟩
              case round =>
                obtain ⟨p, hpm, rfl, hnm, br3, bx, hb⟩ := hrel
                have HNM := Lib.hid hnm
                have hbs3 := hb.size
                have HBR3 := Lib.hid br3
                have HBX := Lib.hid bx
                have bx_0 : wr.cell? ⟨wi.heap.size, 0, none⟩ = some (.int .i64 50) := bx.cell 0
                have bx_2 : wr.cell? ⟨wi.heap.size, 2, none⟩ = some (.string z2) := bx.cell 2
                have bx_3 : wr.cell? ⟨wi.heap.size, 3, none⟩ = some (.slice A3 z3.length c3) := bx.cell 3
                have bx_l := bx.lt
                clear hnm brm hbm bxm bx br3
                by_cases hpt : p < z3.length
                · obtain ⟨x, hx⟩ : ∃ x, z3[p]? = some x := ⟨_, List.getElem?_eq_getElem hpt⟩
                  obtain ⟨be, offe, rfl, hble, hcc⟩ := RdC.at_ FNode.len Q3.out hx
                  have HX3 := Lib.hid (show (FNode.mk 50 z1 z2 z3).kids[p]? = some x from hx)
                  have hxw : x.wt ≤ 1000000000 := by have := (kids_wt HX.out HX2.out).2; have := node_kids_wt HX3.out; omega
                  clear hx hxw
                  obtain ⟨x0, x1, x2, x3⟩ := x
                  rw [FNode.c_eq] at hcc
                  obtain ⟨u0, e0, q0⟩ := hcc 0 _ rfl
                  obtain rfl := q0.val
                  obtain ⟨u1, e1, q1⟩ := hcc 1 _ rfl
                  obtain rfl := q1.val
                  obtain ⟨u2, e2, q2⟩ := hcc 2 _ rfl
                  obtain rfl := q2.val
                  obtain ⟨u3, e3, q3⟩ := hcc 3 _ rfl
                  obtain ⟨A5, c5, rfl⟩ := q3.form
                  have Q5 := Lib.hid q3
                  have j0 : wr.cell? ⟨be, offe + p * 4, none⟩ = some (.int .i64 x0) := (hb.cell (p := ⟨be, _, none⟩) hble).trans (by simpa using e0)
                  have j1 : wr.cell? ⟨be, offe + p * 4 + 1, none⟩ = some (.int .i64 x1) := (hb.cell (p := ⟨be, _, none⟩) hble).trans (by simpa using e1)
                  have j2 : wr.cell? ⟨be, offe + p * 4 + 2, none⟩ = some (.string x2) := (hb.cell (p := ⟨be, _, none⟩) hble).trans (by simpa using e2)
                  have j3 : wr.cell? ⟨be, offe + p * 4 + 3, none⟩ = some (.slice A5 x3.length c5) := (hb.cell (p := ⟨be, _, none⟩) hble).trans (by simpa using e3)
                  clear hcc e0 e1 e2 e3 q0 q1 q2 q3
                  by_cases hp : isMeth s (.mk x0 x1 x2 x3) = true
                  · have hp1 : (x0 == 55) = true := by unfold isMeth at hp; simp only [Bool.and_eq_true] at hp; exact hp.1
                    have hp2 : (x2.toList == s.toList) = true := by unfold isMeth at hp; simp only [Bool.and_eq_true] at hp; exact hp.2
                    have HP := Lib.hid hp
                    have hxx : x0 = 55 := by simpa using hp1
                    subst hxx
                    have HP2 := Lib.hid hp2
                    clear hp hp1
                    have br_0 : wr.cell? ⟨w.heap.size, 0, none⟩ = some (.int .i64 0) := HBR3.out.cell 0
                    have br_1 : wr.cell? ⟨w.heap.size, 1, none⟩ = some (.int .i64 0) := HBR3.out.cell 1
                    have br_2 : wr.cell? ⟨w.heap.size, 2, none⟩ = some (.string ⟨#[]⟩) := HBR3.out.cell 2
                    have br_3 : wr.cell? ⟨w.heap.size, 3, none⟩ = some (.slice none 0 0) := HBR3.out.cell 3
                    have br_l := HBR3.out.lt
                    have br_f := fun i => HBR3.out.frozen i
                    go_wp2_with fail
                    obtain ⟨f1, f2⟩ := mt_hit HX.out HX2.out HH.out HX3.out HP.out HNM.out HNK.out HNO.out
                    rw [f1, f2, FNode.c_eq]
                    refine bodyPost_ret (v := .tuple #[.agg #[.int .i64 55, .int .i64 x1, .string x2, .slice A5 x3.length c5], .bool true]) (by simp [results, Try.results55, go_sem, br_0, br_1, br_2, br_3, br_l, br_f]) rfl ⟨_, rfl, ?_, ?_⟩
                    · refine RdVs.cons (by unfold RdC; rfl) (RdVs.cons (by unfold RdC; rfl) (RdVs.cons (by unfold RdC; rfl) (RdVs.cons (Q5.out.below (w' := _) (C := w.heap.size) ?_ (Nat.le_refl _)) (RdVs.nil _ _))))
                      repeat (first | exact hb | (refine Below.setCell ?_ (by simp) _) | (refine Below.alloc ?_ (by simp; omega) _))
                    · repeat (first | exact hb | (refine Below.setCell ?_ (by simp) _) | (refine Below.alloc ?_ (by simp; omega) _))
                  · have HP := Lib.hid (show isMeth s (.mk x0 x1 x2 x3) = false from by simpa using hp)
                    by_cases hxx : x0 = 55
                    · subst hxx
                      have hp2 : (x2.toList == s.toList) = false := by
                        have := HP.out
                        unfold isMeth at this
                        simpa [FNode.kind, FNode.text] using this
                      have HP2 := Lib.hid hp2
                      clear hp
                      go_wp2_with fail
                      go_roundw
                      case rel =>
                        refine ⟨p + 1, by omega, by go_num, fun j z hj hjz => ?_, HBR3.out, HBX.out, hb⟩
                        by_cases e : j = p
                        · subst e
                          have hj2 := Option.some.inj ((HX3.out).symm.trans hjz)
                          subst hj2
                          exact HP.out
                        · exact HNM.out j z (by omega) hjz
                      case measure => simp [intOf]; omega
                    · have hz9 : (x0 == 55) = false := by simpa using hxx
                      have HZ9 := Lib.hid hz9
                      clear hp hxx
                      go_wp2_with fail
                      go_roundw
                      case rel =>
                        refine ⟨p + 1, by omega, by go_num, fun j z hj hjz => ?_, HBR3.out, HBX.out, hb⟩
                        by_cases e : j = p
                        · subst e
                          have hj2 := Option.some.inj ((HX3.out).symm.trans hjz)
                          subst hj2
                          exact HP.out
                        · exact HNM.out j z (by omega) hjz
                      case measure => simp [intOf]; omega
                · obtain rfl : p = z3.length := by omega
                  clear hpt
                  go_wp2_with fail
                  go_roundw
                  case rel =>
                    refine ⟨m + 1, by omega, by go_num, fun j z hj hjz => ?_, HBR3.out, hb⟩
                    by_cases e : j = m
                    · subst e
                      have hj2 := Option.some.inj ((HX2.out).symm.trans hjz)
                      subst hj2
                      exact host_miss fun j z hz => HNM.out j z (List.getElem?_eq_some_iff.1 hz).1 hz
                    · exact HNK.out j z (by omega) hjz
                  case measure => simp [intOf]; omega
            · skip
              go_wp2_with fail
              obtain ⟨wm, hwm⟩ : ∃ wm : World, wm = wi.alloc (.cells #[.int .i64 51, .int .i64 z1, .string z2, .slice A3 z3.length c3] 45) := ⟨_, rfl⟩
              have brm : Blk wm w.heap.size 45 #[.int .i64 0, .int .i64 0, .string ⟨#[]⟩, .slice none 0 0] := by rw [hwm]; exact HBR.out.alloc _
              have hbm : Below w.heap.size w wm := by rw [hwm]; exact hb2.alloc hbs2 _
              have bxm : Blk wm wi.heap.size 45 #[.int .i64 51, .int .i64 z1, .string z2, .slice A3 z3.length c3] := by rw [hwm]; exact Blk.new _ _ _
              rw [← hwm]
              clear hwm k0 k1 k2 k3 hb2
              go_loopw [11] (fun i wj => ∃ p : Nat, p ≤ z3.length ∧ i = .int .i64 p ∧ (∀ (j : Nat) (z : FNode), j < p → (FNode.mk 51 z1 z2 z3).kids[j]? = some z → isMeth s z = false) ∧ Blk wj w.heap.size 45 #[.int .i64 0, .int .i64 0, .string ⟨#[]⟩, .slice none 0 0] ∧ Blk wj wi.heap.size 45 #[.int .i64 51, .int .i64 z1, .string z2, .slice A3 z3.length c3] ∧ Below w.heap.size w wj) (fun i _ => z3.length - (intOf i).toNat)
              case atStart => exact ⟨0, Nat.zero_le _, rfl, fun j z hj => absurd hj (by omega), brm, bxm, hbm⟩
              case round =>
                obtain ⟨p, hpm, rfl, hnm, br3, bx, hb⟩ := hrel
                have HNM := Lib.hid hnm
                have hbs3 := hb.size
                have HBR3 := Lib.hid br3
                have HBX := Lib.hid bx
                have bx_0 : wr.cell? ⟨wi.heap.size, 0, none⟩ = some (.int .i64 51) := bx.cell 0
                have bx_2 : wr.cell? ⟨wi.heap.size, 2, none⟩ = some (.string z2) := bx.cell 2
                have bx_3 : wr.cell? ⟨wi.heap.size, 3, none⟩ = some (.slice A3 z3.length c3) := bx.cell 3
                have bx_l := bx.lt
                clear hnm brm hbm bxm bx br3
                by_cases hpt : p < z3.length
                · obtain ⟨x, hx⟩ : ∃ x, z3[p]? = some x := ⟨_, List.getElem?_eq_getElem hpt⟩
                  obtain ⟨be, offe, rfl, hble, hcc⟩ := RdC.at_ FNode.len Q3.out hx
                  have HX3 := Lib.hid (show (FNode.mk 51 z1 z2 z3).kids[p]? = some x from hx)
                  have hxw : x.wt ≤ 1000000000 := by have := (kids_wt HX.out HX2.out).2; have := node_kids_wt HX3.out; omega
                  clear hx hxw
                  obtain ⟨x0, x1, x2, x3⟩ := x
                  rw [FNode.c_eq] at hcc
                  obtain ⟨u0, e0, q0⟩ := hcc 0 _ rfl
                  obtain rfl := q0.val
                  obtain ⟨u1, e1, q1⟩ := hcc 1 _ rfl
                  obtain rfl := q1.val
                  obtain ⟨u2, e2, q2⟩ := hcc 2 _ rfl
                  obtain rfl := q2.val
                  obtain ⟨u3, e3, q3⟩ := hcc 3 _ rfl
                  obtain ⟨A5, c5, rfl⟩ := q3.form
                  have Q5 := Lib.hid q3
                  have j0 : wr.cell? ⟨be, offe + p * 4, none⟩ = some (.int .i64 x0) := (hb.cell (p := ⟨be, _, none⟩) hble).trans (by simpa using e0)
                  have j1 : wr.cell? ⟨be, offe + p * 4 + 1, none⟩ = some (.int .i64 x1) := (hb.cell (p := ⟨be, _, none⟩) hble).trans (by simpa using e1)
                  have j2 : wr.cell? ⟨be, offe + p * 4 + 2, none⟩ = some (.string x2) := (hb.cell (p := ⟨be, _, none⟩) hble).trans (by simpa using e2)
                  have j3 : wr.cell? ⟨be, offe + p * 4 + 3, none⟩ = some (.slice A5 x3.length c5) := (hb.cell (p := ⟨be, _, none⟩) hble).trans (by simpa using e3)
                  clear hcc e0 e1 e2 e3 q0 q1 q2 q3
                  by_cases hp : isMeth s (.mk x0 x1 x2 x3) = true
                  · have hp1 : (x0 == 55) = true := by unfold isMeth at hp; simp only [Bool.and_eq_true] at hp; exact hp.1
                    have hp2 : (x2.toList == s.toList) = true := by unfold isMeth at hp; simp only [Bool.and_eq_true] at hp; exact hp.2
                    have HP := Lib.hid hp
                    have hxx : x0 = 55 := by simpa using hp1
                    subst hxx
                    have HP2 := Lib.hid hp2
                    clear hp hp1
                    have br_0 : wr.cell? ⟨w.heap.size, 0, none⟩ = some (.int .i64 0) := HBR3.out.cell 0
                    have br_1 : wr.cell? ⟨w.heap.size, 1, none⟩ = some (.int .i64 0) := HBR3.out.cell 1
                    have br_2 : wr.cell? ⟨w.heap.size, 2, none⟩ = some (.string ⟨#[]⟩) := HBR3.out.cell 2
                    have br_3 : wr.cell? ⟨w.heap.size, 3, none⟩ = some (.slice none 0 0) := HBR3.out.cell 3
                    have br_l := HBR3.out.lt
                    have br_f := fun i => HBR3.out.frozen i
                    go_wp2_with fail
                    obtain ⟨f1, f2⟩ := mt_hit HX.out HX2.out HH.out HX3.out HP.out HNM.out HNK.out HNO.out
                    rw [f1, f2, FNode.c_eq]
                    refine bodyPost_ret (v := .tuple #[.agg #[.int .i64 55, .int .i64 x1, .string x2, .slice A5 x3.length c5], .bool true]) (by simp [results, Try.results55, go_sem, br_0, br_1, br_2, br_3, br_l, br_f]) rfl ⟨_, rfl, ?_, ?_⟩
                    · refine RdVs.cons (by unfold RdC; rfl) (RdVs.cons (by unfold RdC; rfl) (RdVs.cons (by unfold RdC; rfl) (RdVs.cons (Q5.out.below (w' := _) (C := w.heap.size) ?_ (Nat.le_refl _)) (RdVs.nil _ _))))
                      repeat (first | exact hb | (refine Below.setCell ?_ (by simp) _) | (refine Below.alloc ?_ (by simp; omega) _))
                    · repeat (first | exact hb | (refine Below.setCell ?_ (by simp) _) | (refine Below.alloc ?_ (by simp; omega) _))
                  · have HP := Lib.hid (show isMeth s (.mk x0 x1 x2 x3) = false from by simpa using hp)
                    by_cases hxx : x0 = 55
                    · subst hxx
                      have hp2 : (x2.toList == s.toList) = false := by
                        have := HP.out
                        unfold isMeth at this
                        simpa [FNode.kind, FNode.text] using this
                      have HP2 := Lib.hid hp2
                      clear hp
                      go_wp2_with fail
                      go_roundw
                      case rel =>
                        refine ⟨p + 1, by omega, by go_num, fun j z hj hjz => ?_, HBR3.out, HBX.out, hb⟩
                        by_cases e : j = p
                        · subst e
                          have hj2 := Option.some.inj ((HX3.out).symm.trans hjz)
                          subst hj2
                          exact HP.out
                        · exact HNM.out j z (by omega) hjz
                      case measure => simp [intOf]; omega
                    · have hz9 : (x0 == 55) = false := by simpa using hxx
                      have HZ9 := Lib.hid hz9
                      clear hp hxx
                      go_wp2_with fail
                      go_roundw
                      case rel =>
                        refine ⟨p + 1, by omega, by go_num, fun j z hj hjz => ?_, HBR3.out, HBX.out, hb⟩
                        by_cases e : j = p
                        · subst e
                          have hj2 := Option.some.inj ((HX3.out).symm.trans hjz)
                          subst hj2
                          exact HP.out
                        · exact HNM.out j z (by omega) hjz
                      case measure => simp [intOf]; omega
                · obtain rfl : p = z3.length := by omega
                  clear hpt
                  go_wp2_with fail
                  go_roundw
                  case rel =>
                    refine ⟨m + 1, by omega, by go_num, fun j z hj hjz => ?_, HBR3.out, hb⟩
                    by_cases e : j = m
                    · subst e
                      have hj2 := Option.some.inj ((HX2.out).symm.trans hjz)
                      subst hj2
                      exact host_miss fun j z hz => HNM.out j z (List.getElem?_eq_some_iff.1 hz).1 hz
                    · exact HNK.out j z (by omega) hjz
                  case measure => simp [intOf]; omega
          · have HH := Lib.hid (show isHost a (.mk z0 z1 z2 z3) = false from by simpa using hh)
            by_cases h50 : z0 = 50
            · subst h50
              have ht : (z2.toList == a.toList) = false := by
                have := HH.out
                unfold isHost at this
                simpa [FNode.kind, FNode.text] using this
              have HT := Lib.hid ht
              clear hh
              go_wp2_with fail
              obtain ⟨wm, hwm⟩ : ∃ wm : World, wm = wi.alloc (.cells #[.int .i64 50, .int .i64 z1, .string z2, .slice A3 z3.length c3] 45) := ⟨_, rfl⟩
              have brm : Blk wm w.heap.size 45 #[.int .i64 0, .int .i64 0, .string ⟨#[]⟩, .slice none 0 0] := by rw [hwm]; exact HBR.out.alloc _
              have hbm : Below w.heap.size w wm := by rw [hwm]; exact hb2.alloc hbs2 _
              have bxm : Blk wm wi.heap.size 45 #[.int .i64 50, .int .i64 z1, .string z2, .slice A3 z3.length c3] := by rw [hwm]; exact Blk.new _ _ _
              rw [← hwm]
              clear hwm k0 k1 k2 k3 hb2
              go_loopw [11] (fun i wj => i = .int .i64 0 ∧ wj = wm) (fun i _ => 0)
              case atStart => exact ⟨rfl, rfl⟩
              case round =>
                obtain ⟨rfl, rfl⟩ := hrel
                have HBR3 := Lib.hid brm
                have HBM := Lib.hid hbm
                have bx_0 : wr.cell? ⟨wi.heap.size, 0, none⟩ = some (.int .i64 50) := bxm.cell 0
                have bx_2 : wr.cell? ⟨wi.heap.size, 2, none⟩ = some (.string z2) := bxm.cell 2
                have bx_l := bxm.lt
                clear brm bxm
                go_wp2_with fail
                go_roundw
                case rel =>
                  refine ⟨m + 1, by omega, by go_num, fun j z hj hjz => ?_, HBR3.out, HBM.out⟩
                  by_cases e : j = m
                  · subst e
                    have hj2 := Option.some.inj ((HX2.out).symm.trans hjz)
                    subst hj2
                    exact host_no HH.out
                  · exact HNK.out j z (by omega) hjz
                case measure => simp [intOf]; omega
            · by_cases h51 : z0 = 51
              · subst h51
                have ht : (z2.toList == a.toList) = false := by
                  have := HH.out
                  unfold isHost at this
                  simpa [FNode.kind, FNode.text] using this
                have HT := Lib.hid ht
                clear hh h50
                go_wp2_with fail
                obtain ⟨wm, hwm⟩ : ∃ wm : World, wm = wi.alloc (.cells #[.int .i64 51, .int .i64 z1, .string z2, .slice A3 z3.length c3] 45) := ⟨_, rfl⟩
                have brm : Blk wm w.heap.size 45 #[.int .i64 0, .int .i64 0, .string ⟨#[]⟩, .slice none 0 0] := by rw [hwm]; exact HBR.out.alloc _
                have hbm : Below w.heap.size w wm := by rw [hwm]; exact hb2.alloc hbs2 _
                have bxm : Blk wm wi.heap.size 45 #[.int .i64 51, .int .i64 z1, .string z2, .slice A3 z3.length c3] := by rw [hwm]; exact Blk.new _ _ _
                rw [← hwm]
                clear hwm k0 k1 k2 k3 hb2
                go_loopw [11] (fun i wj => i = .int .i64 0 ∧ wj = wm) (fun i _ => 0)
                case atStart => exact ⟨rfl, rfl⟩
                case round =>
                  obtain ⟨rfl, rfl⟩ := hrel
                  have HBR3 := Lib.hid brm
                  have HBM := Lib.hid hbm
                  have bx_0 : wr.cell? ⟨wi.heap.size, 0, none⟩ = some (.int .i64 51) := bxm.cell 0
                  have bx_2 : wr.cell? ⟨wi.heap.size, 2, none⟩ = some (.string z2) := bxm.cell 2
                  have bx_l := bxm.lt
                  clear brm bxm
                  go_wp2_with fail
                  go_roundw
                  case rel =>
                    refine ⟨m + 1, by omega, by go_num, fun j z hj hjz => ?_, HBR3.out, HBM.out⟩
                    by_cases e : j = m
                    · subst e
                      have hj2 := Option.some.inj ((HX2.out).symm.trans hjz)
                      subst hj2
                      exact host_no HH.out
                    · exact HNK.out j z (by omega) hjz
                  case measure => simp [intOf]; omega
              · have g50 : (z0 == 50) = false := by simpa using h50
                have g51 : (z0 == 51) = false := by simpa using h51
                have g50' : (z0 != 50) = true := by simpa using h50
                have g51' : (z0 != 51) = true := by simpa using h51
                clear hh h50 h51
                go_wp2_with fail
                obtain ⟨wm, hwm⟩ : ∃ wm : World, wm = wi.alloc (.cells #[.int .i64 z0, .int .i64 z1, .string z2, .slice A3 z3.length c3] 45) := ⟨_, rfl⟩
                have brm : Blk wm w.heap.size 45 #[.int .i64 0, .int .i64 0, .string ⟨#[]⟩, .slice none 0 0] := by rw [hwm]; exact HBR.out.alloc _
                have hbm : Below w.heap.size w wm := by rw [hwm]; exact hb2.alloc hbs2 _
                have bxm : Blk wm wi.heap.size 45 #[.int .i64 z0, .int .i64 z1, .string z2, .slice A3 z3.length c3] := by rw [hwm]; exact Blk.new _ _ _
                rw [← hwm]
                clear hwm k0 k1 k2 k3 hb2
                go_loopw [11] (fun i wj => i = .int .i64 0 ∧ wj = wm) (fun i _ => 0)
                case atStart => exact ⟨rfl, rfl⟩
                case round =>
                  obtain ⟨rfl, rfl⟩ := hrel
                  have HBR3 := Lib.hid brm
                  have HBM := Lib.hid hbm
                  have bx_0 : wr.cell? ⟨wi.heap.size, 0, none⟩ = some (.int .i64 z0) := bxm.cell 0
                  have bx_2 : wr.cell? ⟨wi.heap.size, 2, none⟩ = some (.string z2) := bxm.cell 2
                  have bx_l := bxm.lt
                  clear brm bxm
                  go_wp2_with fail
                  go_roundw
                  case rel =>
                    refine ⟨m + 1, by omega, by go_num, fun j z hj hjz => ?_, HBR3.out, HBM.out⟩
                    by_cases e : j = m
                    · subst e
                      have hj2 := Option.some.inj ((HX2.out).symm.trans hjz)
                      subst hj2
                      exact host_no HH.out
                    · exact HNK.out j z (by omega) hjz
                  case measure => simp [intOf]; omega
        · obtain rfl : m = y4.length := by omega
          clear hmt
          go_wp2_with fail
          go_roundw
          case rel =>
            refine ⟨k + 1, by omega, by go_num, fun j z hj hjz => ?_, HBR.out, hb2⟩
            by_cases e : j = k
            · subst e
              have hj2 := Option.some.inj ((HX.out).symm.trans hjz)
              subst hj2
              exact findSome_miss _ _ fun j z hz => HNK.out j z (List.getElem?_eq_some_iff.1 hz).1 hz
            · exact HNO.out j z (by omega) hjz
          case measure => simp [intOf]; omega
    · obtain rfl : k = l.length := by omega
      clear hlt
      have br_0 : wr.cell? ⟨w.heap.size, 0, none⟩ = some (.int .i64 0) := br.cell 0
      have br_1 : wr.cell? ⟨w.heap.size, 1, none⟩ = some (.int .i64 0) := br.cell 1
      have br_2 : wr.cell? ⟨w.heap.size, 2, none⟩ = some (.string ⟨#[]⟩) := br.cell 2
      have br_3 : wr.cell? ⟨w.heap.size, 3, none⟩ = some (.slice none 0 0) := br.cell 3
      have br_l := br.lt
      have br_f := fun i => br.frozen i
      go_wp2_with fail
      obtain ⟨f1, f2⟩ := mt_miss (l := l) (a := a) (s := s) fun j z hz => HNO.out j z (List.getElem?_eq_some_iff.1 hz).1 hz
      rw [f1, f2]
      refine bodyPost_ret (v := .tuple #[.agg #[.int .i64 0, .int .i64 0, .string ⟨#[]⟩, .slice none 0 0], .bool false]) (by simp [results, Try.results55, go_sem, br_0, br_1, br_2, br_3, br_l, br_f]) rfl ⟨_, rfl, ?_, ?_⟩
      · unfold zeroN
        rw [FNode.c_eq]
        exact RdVs.cons (by unfold RdC; rfl) (RdVs.cons (by unfold RdC; rfl) (RdVs.cons (by unfold RdC; rfl) (RdVs.cons (by simpa using RdC.nil (Nat.zero_le _)) (RdVs.nil _ _))))
      · repeat (refine Below.setCell ?_ (by simp) _)
        exact hb
set_option maxHeartbeats 1000000 in
theorem MethodNode_spec (l : List FUnit) (a s : ByteArray) (u : Value) (w : World) (hl : l.length + FUnit.wts l ≤ 1000000000) {B : Nat} (hB0 : B ≤ w.heap.size) (hr : RdC w B (.s 65 5 l.length (FUnit.flat l)) u) :
    Calls Try.prog 35 #[u, .string a, .string s] w fun e w' => ∃ us, e = .returned (.tuple #[.agg us.toArray, .bool (mtB l a s)]) ∧ OwnI w' w.heap.size w'.heap.size (mtQ l a s).c us ∧ Below w.heap.size w w' := by
  obtain ⟨A, c, rfl⟩ := hr.form
  have HR := Lib.hid hr
  have hqw : (mtQ l a s).wt ≤ 1000000000 := by have := mtQ_wt l a s; omega
  have HL := Lib.hid (fun (X : World) (hX : B ≤ X.heap.size) (h : RdC X B (.s 65 5 l.length (FUnit.flat l)) (.slice A l.length c)) => l23Method_any l a s _ X hl hX h)
  generalize mtQ l a s = q at *
  generalize mtB l a s = qb at *
  clear hr
  go_enter Try.func35, Try.ntmps35
  go_wp2_with fail
  refine calls_worldD _ (fun X => Blk X w.heap.size 45 #[.int .i64 0, .int .i64 0, .string ⟨#[]⟩, .slice none 0 0] ∧ Below w.heap.size w X) ⟨Blk.new _ _ _, (Below.refl _ _).alloc (Nat.le_refl _) _⟩ ?_
  rintro X0 ⟨br, hb⟩
  have s0 := br.lt
  refine (HL.out _ (by omega) (HR.out.below hb hB0)).mono ?_
  rintro e w1 ⟨us, rfl, hv, hb1⟩
  have HCP := Lib.hid (cpSpec_any q hqw)
  obtain ⟨z0, z1, z2, z3⟩ := q
  rw [FNode.c_eq] at hv
  obtain ⟨us_0, rfl, hv_0⟩ := hv.unv
  obtain ⟨us_1, rfl, hv_1⟩ := hv_0.unv
  obtain ⟨us_2, rfl, hv_2⟩ := hv_1.unv
  obtain ⟨A3, c3, us_3, rfl, q3, hv_3⟩ := hv_2.uns
  obtain rfl := hv_3.un0
  have Q3 := Lib.hid q3
  clear hv hv_0 hv_1 hv_2 hv_3 q3 hqw
  replace br := br.below hb1 (Nat.le_refl _)
  replace hb := hb.trans (hb1.mono (by omega))
  have s1 : X0.heap.size ≤ w1.heap.size := hb1.size
  clear hb1
  have br_l := br.lt
  go_wp2_with fail
  refine calls_worldD _ (fun X => Blk X w.heap.size 45 #[.int .i64 0, .int .i64 0, .string ⟨#[]⟩, .slice none 0 0] ∧ Below w.heap.size w X ∧ RdC X X0.heap.size (.s 45 4 z3.length (FNode.flat z3)) (.slice A3 z3.length c3) ∧ w1.heap.size ≤ X.heap.size) ⟨br.alloc _, hb.alloc (by omega) _, Q3.out.below ((Below.refl _ _).alloc (Nat.le_refl _) _) s1, by simp⟩ ?_
  clear br hb Q3
  rintro X1 ⟨br, hb, q3, s2⟩
  refine (HCP.out [.int .i64 z0, .int .i64 z1, .string z2, .slice A3 z3.length c3] _ X0.heap.size (by omega) (by rw [FNode.c_eq]; exact RdVs.cons (by unfold RdC; rfl) (RdVs.cons (by unfold RdC; rfl) (RdVs.cons (by unfold RdC; rfl) (RdVs.cons q3 (RdVs.nil _ _)))))).mono ?_
  rw [FNode.c_eq]
  rintro e w2 ⟨us2, rfl, own2, hb2⟩
  have hv := own2.vs
  obtain ⟨us2_0, rfl, hv_0⟩ := hv.unv
  obtain ⟨us2_1, rfl, hv_1⟩ := hv_0.unv
  obtain ⟨us2_2, rfl, hv_2⟩ := hv_1.unv
  obtain ⟨D3, d3, us2_3, rfl, _, hv_3⟩ := hv_2.uns
  obtain rfl := hv_3.un0
  clear hv hv_0 hv_1 hv_2 hv_3
  replace br := br.below hb2 (Nat.le_refl _)
  replace hb := hb.trans (hb2.mono (by omega))
  have br_0 : w2.cell? ⟨w.heap.size, 0, none⟩ = some (.int .i64 0) := br.cell 0
  have br_1 : w2.cell? ⟨w.heap.size, 1, none⟩ = some (.int .i64 0) := br.cell 1
  have br_2 : w2.cell? ⟨w.heap.size, 2, none⟩ = some (.string ⟨#[]⟩) := br.cell 2
  have br_3 : w2.cell? ⟨w.heap.size, 3, none⟩ = some (.slice none 0 0) := br.cell 3
  have br_l := br.lt
  have br_f := fun i => br.frozen i
  have hs2 : X1.heap.size ≤ w2.heap.size := hb2.size
  have OW := Lib.hid own2
  clear own2 hb2
  go_wp2_with fail
  refine bodyPost_ret (v := .tuple #[.agg #[.int .i64 z0, .int .i64 z1, .string z2, .slice D3 z3.length d3], .bool qb]) (by simp [results, Try.results35, go_sem, br_0, br_1, br_2, br_3, br_l, br_f]) rfl ⟨_, rfl, ?_, ?_⟩
  · refine OwnI.wide (lo := X1.heap.size) (hi := w2.heap.size) ?_ (by omega) (by simp)
    repeat (refine OwnI.set ?_ (.inl (by simp; try omega)) _)
    rw [FNode.c_eq]
    exact OW.out
  · repeat (refine Below.setCell ?_ (by simp) _)
    exact hb
end Go.Proofs.Ytjfmckepelfojaa
