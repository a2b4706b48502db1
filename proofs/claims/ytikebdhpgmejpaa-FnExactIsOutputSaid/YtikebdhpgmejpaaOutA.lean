/-
  Headers and buffers: what the laws' conversions, sizes and comparisons return. Conditions: none.
-/
import Derived.Test.YtikebdhpgmejpaaMark
namespace Go.Proofs.Ytikebdhpgmejpaa
open Go.ChangeShapes Go.WideShapes Go.ChangeAt Go.RowKit Go.Deep Go.Joins
open Go.ChangeMaps (open_string shut_string)
set_option linter.unusedVariables false

/-! ### Header -/
structure FHeader where
  a0 : ByteArray
  a1 : ByteArray
instance : Inhabited FHeader := ⟨⟨ByteArray.empty, ByteArray.empty⟩⟩
def FHeader.cells (x : FHeader) : List Value := [.string x.a0, .string x.a1]
theorem FHeader.len (x : FHeader) : x.cells.length = 2 := rfl
abbrev FHeader.flat (l : List FHeader) : List Value := l.flatMap FHeader.cells
theorem infoHeader : (Try.prog.info? 52).map (fun i => (i.zero.map Value.cells, i.size, i.bytes)) = some (some #[.string ByteArray.empty, .string ByteArray.empty], 2, 32) := by kernel_rfl
theorem toHeader_any (x : FHeader) (w : World) : Calls Try.prog 75 #[.agg #[.string x.a0, .string x.a1]] w fun e w' => e = .returned (.agg #[.string x.a0, .string x.a1]) ∧ Below w.heap.size w w' := by
  go_enter Try.func75, Try.ntmps75
  go_wp2
  exact bodyPost_ret (v := .agg #[.string x.a0, .string x.a1]) (by simp [results, Try.results75, go_sem]) rfl ⟨rfl, by repeat (first | exact Below.refl _ _ | (refine Below.alloc ?_ (by simp; try omega) _) | (refine Below.setCell ?_ (by simp) _))⟩
set_option maxHeartbeats 1000000 in
set_option maxRecDepth 100000 in
theorem toHeaderS_any (l : List FHeader) (v : Value) (w : World) (hl : l.length ≤ 1048576) {B : Nat} (hB : B ≤ w.heap.size) (hr : Rd w B 2 v l.length (FHeader.flat l)) :
    Calls Try.prog 42 #[v] w fun e w' => e = .returned (.slice (some ⟨w.heap.size, 0, none⟩) l.length l.length) ∧ w'.ownsRow w.heap.size 52 2 (.slice (some ⟨w.heap.size, 0, none⟩) l.length l.length) l.length (FHeader.flat l) ∧ Below w.heap.size w w' := by
  obtain ⟨A, c, rfl, hc1, hc2, hxl, hcell⟩ := hr.more hB
  have HC := Lib.hid hcell
  have HX := Lib.hid hxl
  have hn : l.length ≤ 9223372036854775807 := by omega
  have hmk := fun W => make_law (P := Try.prog) 29 52 _ 2 32 Try.underlying29 infoHeader l.length (by omega) hn W
  have HL := Lib.hid hl
  clear hcell hxl hl hc2 hr
  go_enter Try.func42, Try.ntmps42
  go_wp2
  go_loopw [4] (fun i wr => ∃ k : Nat, k ≤ l.length ∧ i = .int .i64 k ∧ (∃ f, wr.rowIs w.heap.size 52 (l.length * 2) f ∧ ∀ j, j < k * 2 → (FHeader.flat l)[j]? = some (f j)) ∧ Below w.heap.size w wr) (fun i _ => l.length - (intOf i).toNat)
  case atStart => exact ⟨0, Nat.zero_le _, rfl, ⟨_, made_row w _ _ 2 _ rfl (by omega), fun j hj => absurd hj (by omega)⟩, (Below.refl _ _).alloc (Nat.le_refl _) _⟩
  case round =>
    obtain ⟨k, hk, rfl, ⟨f, hrow, hdone⟩, hb⟩ := hrel
    have HD := Lib.hid hdone
    have HR := Lib.hid hrow
    clear hdone hmk
    by_cases hlt : k < l.length
    · obtain ⟨x, hx⟩ : ∃ x, l[k]? = some x := ⟨_, List.getElem?_eq_getElem hlt⟩
      obtain ⟨bc, offc, rfl, hblc, hcc⟩ := Rd.at_ FHeader.len HC.out hx
      have c0 : wr.cell? ⟨bc, offc + k * 2, none⟩ = some (.string x.a0) := (hb.cell hblc).trans (hcc 0 _ rfl)
      have c1 : wr.cell? ⟨bc, offc + k * 2 + 1, none⟩ = some (.string x.a1) := (hb.cell hblc).trans (hcc 1 _ rfl)
      have HXX := Lib.hid hx
      clear hcc hx hrow
      go_wp2_with fail
      refine (toHeader_any x _).mono ?_
      rintro e w2 ⟨rfl, hb2⟩
      have row2 : w2.rowIs w.heap.size 52 (l.length * 2) f := HR.out.of_block (hb2.block _ HR.out.lt)
      have q0 := row2.cell (i := k * 2) (by omega)
      have z0 := row2.frozen (k * 2)
      have q1 := row2.cell (i := k * 2 + 1) (by omega)
      have z1 := row2.frozen (k * 2 + 1)
      have HR2 := Lib.hid row2
      have hB2 := hb.trans (hb2.mono hb.size)
      clear row2 c0 c1
      go_wp2_with fail
      go_roundw
      case rel =>
        refine ⟨k + 1, by omega, by go_num, ⟨_, ((HR2.out.set (k * 2) (.string x.a0)).set (k * 2 + 1) (.string x.a1)), fun j hj => ?_⟩, ((hB2.setCell (Nat.le_refl _) _).setCell (Nat.le_refl _) _)⟩
        by_cases e1 : j = k * 2 + 1
        · subst e1
          rw [flat_get FHeader.len l k x HXX.out 1 (by omega)]
          simp [FHeader.cells]
        · by_cases e0 : j = k * 2
          · subst e0
            have := flat_get FHeader.len l k x HXX.out 0 (by omega)
            rw [Nat.add_zero] at this
            rw [this]
            simp [FHeader.cells]
          · rw [HD.out j (by omega)]
            simp [e0, e1]
      case measure => simp [intOf]; omega
    · obtain rfl : k = l.length := by omega
      clear hlt
      go_wp2_with fail
      go_ret
      exact ⟨rfl, own_of_row HR.out (Nat.le_refl _) (by unfold maxLen; omega) HX.out HD.out, hb⟩
theorem eqHeader_same (x : FHeader) (w : World) : Calls Try.prog 77 #[.agg #[.string x.a0, .string x.a1], .agg #[.string x.a0, .string x.a1]] w fun e w' => e = .returned (.bool true) ∧ Below w.heap.size w w' := by
  go_enter Try.func77, Try.ntmps77
  go_wp2
  go_ret
  exact ⟨rfl, by repeat (first | exact Below.refl _ _ | (refine Below.alloc ?_ (by simp; try omega) _) | (refine Below.setCell ?_ (by simp) _))⟩
set_option maxHeartbeats 1000000 in
set_option maxRecDepth 100000 in
theorem eqHeaderS_same (l : List FHeader) (u v : Value) (w : World) (hl : l.length ≤ 1048576) (hu : Rd w w.heap.size 2 u l.length (FHeader.flat l)) (hv : Rd w w.heap.size 2 v l.length (FHeader.flat l)) :
    Calls Try.prog 44 #[u, v] w fun e w' => e = .returned (.bool true) ∧ Below w.heap.size w w' := by
  obtain ⟨A, c, rfl, hc1, hc2, _, hcell⟩ := hu
  obtain ⟨A', c', rfl, hc1', hc2', _, hcell'⟩ := hv
  have HC := Lib.hid hcell
  have HC' := Lib.hid hcell'
  have hn : l.length ≤ 9223372036854775807 := by omega
  clear hcell hcell' hc2 hc2'
  go_enter Try.func44, Try.ntmps44
  go_wp2
  go_loopw [5] (fun i wr => ∃ k : Nat, k ≤ l.length ∧ i = .int .i64 k ∧ Below w.heap.size w wr) (fun i _ => l.length - (intOf i).toNat)
  case atStart => exact ⟨0, Nat.zero_le _, rfl, Below.refl _ _⟩
  case round =>
    obtain ⟨k, hk, rfl, hb⟩ := hrel
    by_cases hlt : k < l.length
    · obtain ⟨x, hx⟩ : ∃ x, l[k]? = some x := ⟨_, List.getElem?_eq_getElem hlt⟩
      obtain ⟨bc, offc, rfl, hblc, hcc⟩ := Rd.at_ FHeader.len HC.out hx
      obtain ⟨bd, offd, rfl, hbld, hcd⟩ := Rd.at_ FHeader.len HC'.out hx
      have c0 : wr.cell? ⟨bc, offc + k * 2, none⟩ = some (.string x.a0) := (hb.cell hblc).trans (hcc 0 _ rfl)
      have c1 : wr.cell? ⟨bc, offc + k * 2 + 1, none⟩ = some (.string x.a1) := (hb.cell hblc).trans (hcc 1 _ rfl)
      have d0 : wr.cell? ⟨bd, offd + k * 2, none⟩ = some (.string x.a0) := (hb.cell hbld).trans (hcd 0 _ rfl)
      have d1 : wr.cell? ⟨bd, offd + k * 2 + 1, none⟩ = some (.string x.a1) := (hb.cell hbld).trans (hcd 1 _ rfl)
      clear hcc hcd hx
      go_wp2_with fail
      go_still_tail 8, (by kernel_rfl)
      have hbd : Below w.heap.size w wr.drew := hb.drew
      change wpList _ _ _ _ _ wr.drew
      generalize wr.drew = wd at *
      go_wp2_with (go_at_call 77; refine (eqHeader_same x _).mono ?_; rintro e w2 ⟨rfl, hb2⟩)
      go_roundw
      case rel => exact ⟨k + 1, by omega, by go_num, hbd.trans (hb2.mono hbd.size)⟩
      case measure => simp [intOf]; omega
    · obtain rfl : k = l.length := by omega
      clear hlt
      go_wp2_with fail
      go_ret
      exact ⟨rfl, hb⟩
theorem FHeader.one (l : List FHeader) : ∀ u ∈ FHeader.flat l, u.oneCell' = true := by  -- oneFlat
  intro u hu
  obtain ⟨x, _, hx⟩ := List.mem_flatMap.1 hu
  simp only [FHeader.cells, List.mem_cons, List.not_mem_nil, or_false] at hx
  rcases hx with rfl | rfl <;> rfl
set_option maxRecDepth 100000 in
theorem cloneHeader_any (l : List FHeader) (v : Value) (w : World) (hl : l.length ≤ 1048576) {B : Nat} (hB : B ≤ w.heap.size) (hr : Rd w B 2 v l.length (FHeader.flat l)) :
    Calls Try.prog 83 #[v] w fun e w' => ∃ A c, e = .returned (.slice A l.length c) ∧ w'.ownsRow w.heap.size 52 2 (.slice A l.length c) l.length (FHeader.flat l) ∧ Below w.heap.size w w' := by
  obtain ⟨A, c, rfl⟩ := hr.form
  have hnil := fun W => Lib.run_eql_slice_nil (P := Try.prog) W 29 52 A l.length c 0 0 Try.underlying29
  cases A with
  | none =>
    have h0 : l.length = 0 := by
      obtain ⟨A, c', hA, _, _, _, hc⟩ := hr
      rcases Nat.eq_zero_or_pos l.length with h | h
      · exact h
      · obtain ⟨b, off, hb, _⟩ := hc h
        simp only [Value.slice.injEq] at hA
        rw [← hA.1] at hb
        cases hb
    have he : l = [] := List.eq_nil_of_length_eq_zero h0
    clear hr h0
    subst he
    have hnil0 := fun W => Lib.run_eql_slice_nil (P := Try.prog) W 29 52 none 0 c 0 0 Try.underlying29
    clear hnil
    go_enter Try.func83, Try.ntmps83
    go_wp2_with fail
    go_ret
    exact ⟨none, 0, rfl, World.ownsRow_nil _ _ _ _, Below.refl _ _⟩
  | some ad =>
    have HR := Lib.hid hr
    have HL := Lib.hid hl
    clear hr hl
    go_enter Try.func83, Try.ntmps83
    go_wp2_with (at_builtin; refine wpList_append_rd _ rfl _ _ _ rfl w.heap.size _ _ _ 32 Try.underlying29 infoHeader rfl (by omega) (.slice (some ⟨w.heap.size, 0, none⟩) 0 0) 0 [] rfl (own_empty w _ _) B _ l.length _ _ rfl (HR.out.below ((Below.refl _ _).alloc (Nat.le_refl _) _) hB) (FHeader.one l) (by have := HL.out; unfold maxLen; omega) (by have := HL.out; omega) (by simp) ?_; intro v1 w1 hown1 hg1 hat1; obtain ⟨A1, k1, rfl⟩ := own_form hown1; rw [Nat.zero_add, List.nil_append] at hown1)
    go_ret
    exact ⟨A1, k1, by simp, hown1, (((Below.refl w.heap.size w).alloc (Nat.le_refl _) _).grown hg1 (by simp) (fun k hk => Nat.le_of_eq (by simpa [Value.ownBlock] using hk)))⟩
def FHeader.wt (x : FHeader) : Nat := x.a0.size + x.a1.size
def FHeader.wts (l : List FHeader) : Nat := (l.map FHeader.wt).sum
def FHeader.ok (x : FHeader) : Prop := x.a0.size ≤ 9223372036854775807 ∧ x.a1.size ≤ 9223372036854775807
theorem FHeader.wts_take (l : List FHeader) (k : Nat) (x : FHeader) (h : l[k]? = some x) : FHeader.wts (l.take (k + 1)) = FHeader.wts (l.take k) + x.wt := by
  unfold FHeader.wts
  rw [List.take_add_one, h]
  simp
theorem FHeader.wts_le (l : List FHeader) (k : Nat) : FHeader.wts (l.take k) ≤ FHeader.wts l := by
  have : FHeader.wts l = FHeader.wts (l.take k) + FHeader.wts (l.drop k) := by
    unfold FHeader.wts
    rw [← List.sum_append, ← List.map_append, List.take_append_drop]
  omega
theorem szHeader_any (x : FHeader) (left : Int) (w : World) (hx : x.ok) (h0 : 0 ≤ left) (h1 : left ≤ 1048576) :
    Calls Try.prog 73 #[.agg #[.string x.a0, .string x.a1], .int .i64 left] w fun e w' => e = .returned (.int .i64 (bud left x.wt)) ∧ Below w.heap.size w w' := by
  unfold FHeader.ok at hx
  obtain ⟨h_s0, h_s1⟩ := hx
  by_cases c0 : left - x.a0.size < 0
  · go_enter Try.func73, Try.ntmps73
    go_wp2
    go_ret
    exact ⟨ret_int (by rw [bud_neg (by unfold FHeader.wt; omega)]), (Below.refl _ _).alloc (Nat.le_refl _) _⟩
  · by_cases c1 : left - x.a0.size - x.a1.size < 0
    · go_enter Try.func73, Try.ntmps73
      go_wp2
      go_ret
      exact ⟨ret_int (by rw [bud_neg (by unfold FHeader.wt; omega)]), (Below.refl _ _).alloc (Nat.le_refl _) _⟩
    · go_enter Try.func73, Try.ntmps73
      go_wp2
      go_ret
      exact ⟨ret_int (by rw [bud_pos (by unfold FHeader.wt; omega)]; unfold FHeader.wt; omega), (Below.refl _ _).alloc (Nat.le_refl _) _⟩
set_option maxHeartbeats 1000000 in
set_option maxRecDepth 100000 in
theorem szHeaderS_any (l : List FHeader) (v : Value) (left : Int) (w : World) (hok : ∀ x ∈ l, x.ok) (h0 : 0 ≤ left) (h1 : left ≤ 1048576) {B : Nat} (hB : B ≤ w.heap.size) (hr : Rd w B 2 v l.length (FHeader.flat l)) :
    Calls Try.prog 40 #[v, .int .i64 left] w fun e w' => e = .returned (.int .i64 (bud left (l.length + FHeader.wts l))) ∧ Below w.heap.size w w' := by
  obtain ⟨A, c, rfl, hc1, hc2, _, hcell⟩ := hr.more hB
  have HC := Lib.hid hcell
  have hcm : l.length ≤ 9223372036854775807 := by unfold maxLen at hc2; omega
  have HOK := Lib.hid hok
  clear hcell hc2 hok hr
  by_cases hfit : left - l.length < 0
  · go_enter Try.func40, Try.ntmps40
    go_wp2_with fail
    go_ret
    exact ⟨ret_int (by rw [bud_neg (by omega)]), Below.refl _ _⟩
  go_enter Try.func40, Try.ntmps40
  go_wp2_with fail
  go_loopw [1, 5] (fun lv i wr => ∃ k : Nat, k ≤ l.length ∧ i = .int .i64 k ∧ lv = .int .i64 (left - l.length - (FHeader.wts (l.take k) : Nat)) ∧ ((FHeader.wts (l.take k) : Nat) : Int) ≤ left - l.length ∧ Below w.heap.size w wr) (fun _ i _ => l.length - (intOf i).toNat)
  case atStart => exact ⟨0, Nat.zero_le _, rfl, by simp [FHeader.wts], by simp [FHeader.wts]; omega, Below.refl _ _⟩
  case round =>
    obtain ⟨k, hk, rfl, rfl, hw, hb⟩ := hrel
    by_cases hlt : k < l.length
    · obtain ⟨x, hx⟩ : ∃ x, l[k]? = some x := ⟨_, List.getElem?_eq_getElem hlt⟩
      obtain ⟨bc, offc, rfl, hblc, hcc⟩ := Rd.at_ FHeader.len HC.out hx
      have c0 : wr.cell? ⟨bc, offc + k * 2, none⟩ = some (.string x.a0) := (hb.cell hblc).trans (hcc 0 _ rfl)
      have c1 : wr.cell? ⟨bc, offc + k * 2 + 1, none⟩ = some (.string x.a1) := (hb.cell hblc).trans (hcc 1 _ rfl)
      have hxo : x.ok := HOK.out x (List.mem_of_getElem? hx)
      have HT := Lib.hid (FHeader.wts_take l k x hx)
      have HL := Lib.hid (FHeader.wts_le l (k + 1))
      clear hcc hx
      have HXO := Lib.hid hxo
      clear hxo
      generalize hu : FHeader.wts (l.take k) = U at *
      have HU := Lib.hid hu
      clear hu
      by_cases hf : (x.wt : Int) ≤ left - l.length - U
      · have hbp : 0 ≤ bud (left - l.length - U) x.wt := by rw [bud_pos hf]; omega
        have HBP := Lib.hid (bud_pos hf)
        go_wp2_with (go_at_call 73; refine (szHeader_any x _ _ HXO.out (by omega) (by omega)).mono ?_; rintro e w2 ⟨rfl, hb2⟩)
        go_roundw
        case rel =>
          have e := HT.out
          rw [← HU.out] at *
          refine ⟨k + 1, by omega, by go_num, ?_, by rw [e, HU.out]; omega, hb.trans (hb2.mono hb.size)⟩
          rw [HBP.out, e, HU.out]
          congr 1
          omega
        case measure => simp [intOf]; omega
      · have hbp : bud (left - l.length - U) x.wt = -1 := bud_neg hf
        have hbn : bud (left - l.length - U) x.wt < 0 := by rw [hbp]; omega
        clear hbp
        go_wp2_with (go_at_call 73; refine (szHeader_any x _ _ HXO.out (by omega) (by omega)).mono ?_; rintro e w2 ⟨rfl, hb2⟩)
        go_ret
        refine ⟨ret_int ?_, hb.trans (hb2.mono hb.size)⟩
        have e := HT.out
        have e2 := HL.out
        have e3 := HU.out
        rw [bud_neg (by omega)]
    · obtain rfl : k = l.length := by omega
      clear hlt
      go_wp2_with fail
      go_ret
      refine ⟨ret_int ?_, hb⟩
      rw [List.take_length] at *
      rw [bud_pos (by omega)]
      omega
theorem read_Header {H : Type} {enc : TypeId × Value → H} {w : World} {base : Nat} {spare : Nat → Bool} {held : Bool} (n : Nat) (cs : List Value) (y : DataW H × List MemPlace)
    (h : DataW.trod enc Try.prog w base spare held n 85 cs = some y) : ∃ x : FHeader, cs = x.cells ∧ x.ok := by
  obtain ⟨hl, hf⟩ := struct_cells (k := 2) (by kernel_rfl) (by kernel_rfl) (by kernel_rfl) (by kernel_rfl) h
  obtain ⟨n0, u0, y0, e0, t0⟩ := hf 0 9 (by kernel_rfl)
  obtain ⟨n1, u1, y1, e1, t1⟩ := hf 1 9 (by kernel_rfl)
  obtain ⟨a0, q0, _, w0⟩ := DataW.trod_string Try.underlying9 t0
  obtain ⟨a1, q1, _, w1⟩ := DataW.trod_string Try.underlying9 t1
  match cs, hl with
  | [c0, c1], _ =>
    simp at e0 q0 e1 q1
    subst e0 q0 e1 q1
    exact ⟨⟨a0, a1⟩, rfl, ⟨by unfold maxLen at w0; exact w0, by unfold maxLen at w1; exact w1⟩⟩
theorem open_HeaderS {H : Type} {enc : TypeId × Value → H} {w : World} {base : Nat} {spare : Nat → Bool} {held : Bool} {fuel : Nat} {cs : List Value} {y : DataW H × List MemPlace}
    (h : DataW.trod enc Try.prog w base spare held fuel 22 cs = some y) : ∃ (v : Value) (l : List FHeader), cs = [v] ∧ Rd w w.heap.size 2 v l.length (FHeader.flat l) ∧ ∀ x ∈ l, x.ok :=
  open_flat FHeader.len (by omega) Try.underlying22 (by kernel_rfl) read_Header h
def FHeader.mark1 (k : Int) : FHeader := ⟨mt (k), mt (k + 1)⟩
def FHeader.marks (n : Nat) (k : Int) : List FHeader := (List.range n).map fun j => FHeader.mark1 (k + ((j * 2 : Nat) : Int))
theorem FHeader.marks_len (n : Nat) (k : Int) : (FHeader.marks n k).length = n := by simp [FHeader.marks]
theorem FHeader.marks_get (n : Nat) (k : Int) (j : Nat) (h : j < n) : (FHeader.marks n k)[j]? = some (FHeader.mark1 (k + ((j * 2 : Nat) : Int))) := by simp [FHeader.marks, h]
set_option maxHeartbeats 1000000 in
set_option maxRecDepth 100000 in
theorem markHeaderS_any (n : Nat) (xs : List Value) (v : Value) (base : Nat) (k0 : Int) (w : World) (h1 : 1 ≤ k0) (h2 : k0 + ((n * 2 : Nat) : Int) ≤ 1000000000) (hown : w.ownsRow base 52 2 v n xs) :
    Calls Try.prog 56 #[v, .int .i64 k0] w fun e w' => e = .returned (.int .i64 (k0 + ((n * 2 : Nat) : Int))) ∧ w'.ownsRow base 52 2 v n (FHeader.flat (FHeader.marks n k0)) ∧ w.grownBy w' v.ownBlock := by
  have HLN := Lib.hid (flat_len FHeader.len (FHeader.marks n k0))
  rcases own_row hown with ⟨rfl, rfl, rfl⟩ | ⟨g, cap, f0, rfl, hg, hnc, hcm, hrow, hx⟩
  · go_enter Try.func56, Try.ntmps56
    go_wp2_with fail
    go_loop [1, 5] (fun kv i => kv = .int .i64 k0 ∧ i = .int .i64 0) (fun _ i => 0)
    case atStart => exact ⟨rfl, rfl⟩
    case round =>
      obtain ⟨rfl, rfl⟩ := hrel
      go_wp2_with fail
      go_ret
      exact ⟨ret_int (by simp), ⟨by simp [FHeader.marks, FHeader.flat], .inl ⟨rfl, rfl⟩⟩, grown_refl _ _⟩
  · have HROW := Lib.hid hrow
    have hnm : n ≤ 1000000000 := by omega
    clear hown hrow hx
    unfold maxLen at hcm
    go_enter Try.func56, Try.ntmps56
    go_wp2_with fail
    go_loopw [1, 5] (fun kv i wr => ∃ k : Nat, k ≤ n ∧ i = .int .i64 k ∧ kv = .int .i64 (k0 + ((k * 2 : Nat) : Int)) ∧ (∃ f, wr.rowIs g 52 (cap * 2) f ∧ ∀ j, j < k * 2 → (FHeader.flat (FHeader.marks n k0))[j]? = some (f j)) ∧ w.grownBy wr (some g)) (fun _ i _ => n - (intOf i).toNat)
    case atStart => exact ⟨0, Nat.zero_le _, rfl, by simp, ⟨_, HROW.out, fun j hj => absurd hj (by omega)⟩, grown_refl _ _⟩
    case round =>
    obtain ⟨k, hk, rfl, rfl, ⟨f, hrow, hdone⟩, hg0⟩ := hrel
    have HD := Lib.hid hdone
    have HR := Lib.hid hrow
    have hg := hg0
    clear hdone hrow hg0
    by_cases hlt : k < n
    · have HM := Lib.hid (FHeader.marks_get n k0 k hlt)
      have hkc : k * 2 + 2 ≤ cap * 2 := by have := Nat.mul_le_mul_right 2 (show k + 1 ≤ cap by omega); rw [Nat.succ_mul] at this; exact this
      have q0 := (HR.out).cell (i := k * 2) (by omega)
      have z0 := (HR.out).frozen (k * 2)
      have q1 := (HR.out).cell (i := k * 2 + 1) (by omega)
      have z1 := (HR.out).frozen (k * 2 + 1)
      go_wp2_with fail
      refine (markText_any _ _ (by omega)).mono ?_
      rintro e w2 ⟨rfl, hb2⟩
      clear q0 z0 q1 z1
      have row1 := Lib.hid ((HR.out).of_block (hb2.block _ (HR.out).lt))
      have gr1 := Lib.hid (grown_trans (hg) (grown_below hb2))
      have q0 := (row1.out).cell (i := k * 2) (by omega)
      have z0 := (row1.out).frozen (k * 2)
      have q1 := (row1.out).cell (i := k * 2 + 1) (by omega)
      have z1 := (row1.out).frozen (k * 2 + 1)
      go_wp2_with fail
      refine (markText_any _ _ (by omega)).mono ?_
      rintro e w3 ⟨rfl, hb3⟩
      clear q0 z0 q1 z1
      have row2 := Lib.hid (((row1.out).set (k * 2) (.string (mt (k0 + ((k * 2 : Nat) : Int))))).of_block (hb3.block _ ((row1.out).set (k * 2) (.string (mt (k0 + ((k * 2 : Nat) : Int))))).lt))
      have gr2 := Lib.hid (grown_trans (grown_set (gr1.out) (k * 2) (.string (mt (k0 + ((k * 2 : Nat) : Int))))) (grown_below hb3))
      have q0 := (row2.out).cell (i := k * 2) (by omega)
      have z0 := (row2.out).frozen (k * 2)
      have q1 := (row2.out).cell (i := k * 2 + 1) (by omega)
      have z1 := (row2.out).frozen (k * 2 + 1)
      go_wp2_with fail
      go_roundw
      case rel =>
        refine ⟨k + 1, by omega, by go_num, ?_, ⟨_, (row2.out).set (k * 2 + 1) (.string (mt (k0 + ((k * 2 : Nat) : Int) + 1))), fun j hj => ?_⟩, grown_set (gr2.out) (k * 2 + 1) (.string (mt (k0 + ((k * 2 : Nat) : Int) + 1)))⟩
        · congr 1
          omega
        · have HM := HM
          skip
          by_cases e1 : j = k * 2 + 1
          · subst e1
            rw [flat_get FHeader.len _ k _ HM.out 1 (by omega)]
            simp [FHeader.cells, FHeader.mark1]
          · by_cases e0 : j = k * 2
            · subst e0
              have := flat_get FHeader.len _ k _ HM.out 0 (by omega)
              rw [Nat.add_zero] at this
              rw [this]
              simp [FHeader.cells, FHeader.mark1]
            · rw [HD.out j (by omega)]
              simp [e0, e1]
      case measure => simp [intOf]; omega
    · obtain rfl : k = n := by omega
      clear hlt
      go_wp2_with fail
      go_ret
      exact ⟨rfl, own_of_row_cap HR.out (by assumption) hnc (by unfold maxLen; exact hcm) (HLN.out.trans (by rw [FHeader.marks_len])) HD.out, hg⟩
set_option maxHeartbeats 1000000 in
set_option maxRecDepth 100000 in
theorem heldHeaderS_any (n : Nat) (v : Value) (k0 : Int) (w : World) (h1 : 1 ≤ k0) (h2 : k0 + ((n * 2 : Nat) : Int) ≤ 1000000000) (hr : Rd w w.heap.size 2 v n (FHeader.flat (FHeader.marks n k0))) :
    Calls Try.prog 58 #[v, .int .i64 k0] w fun e w' => e = .returned (.int .i64 (k0 + ((n * 2 : Nat) : Int))) ∧ Below w.heap.size w w' := by
  obtain ⟨A, c, rfl, hc1, hc2, hxl, hcell⟩ := hr
  have HC := Lib.hid (show 0 < (FHeader.marks n k0).length → _ from fun h => hcell (by rwa [FHeader.marks_len] at h))
  have hnm : n ≤ 1000000000 := by omega
  clear hcell hxl hc2
  go_enter Try.func58, Try.ntmps58
  go_wp2_with fail
  go_loopw [1, 5] (fun kv i wr => ∃ k : Nat, k ≤ n ∧ i = .int .i64 k ∧ kv = .int .i64 (k0 + ((k * 2 : Nat) : Int)) ∧ Below w.heap.size w wr) (fun _ i _ => n - (intOf i).toNat)
  case atStart => exact ⟨0, Nat.zero_le _, rfl, by simp, Below.refl _ _⟩
  case round =>
    obtain ⟨k, hk, rfl, rfl, hb⟩ := hrel
    by_cases hlt : k < n
    · obtain ⟨bc, offc, rfl, hblc, hcc⟩ := Rd.at_ FHeader.len HC.out (FHeader.marks_get n k0 k hlt)
      have c0 : wr.cell? ⟨bc, offc + k * 2, none⟩ = some (.string (mt (k0 + ((k * 2 : Nat) : Int)))) := (hb.cell hblc).trans (hcc 0 _ rfl)
      have c1 : wr.cell? ⟨bc, offc + k * 2 + 1, none⟩ = some (.string (mt (k0 + ((k * 2 : Nat) : Int) + 1))) := (hb.cell hblc).trans (hcc 1 _ rfl)
      have hzb := hb.size
      clear hcc
      go_wp2_with fail
      go_region_held3 (fun w_ => w_.cell? ⟨bc, offc + k * 2, none⟩ = some (.string (mt (k0 + ((k * 2 : Nat) : Int))))) (first | exact c0 | exact ((bcell hb2).1 _ _ (by simp; omega)).trans c0) ((first | (go_at_call 85; refine (markText_any _ _ (by omega)).mono ?_; rintro e w2 ⟨rfl, hb2⟩)))
      have d1_1 := ((bcell hb2).1 bc (offc + k * 2 + 1) (by simp; omega)).trans c1
      have hz2 := hb2.size
      simp at hz2
      have hB2 := hb.trans (((Below.refl _ _).drew : Below w.heap.size wr wr.drew).trans (hb2.mono (by simp; omega)))
      go_wp2_with fail
      go_region_held3 (fun w_ => w_.cell? ⟨bc, offc + k * 2 + 1, none⟩ = some (.string (mt (k0 + ((k * 2 : Nat) : Int) + 1)))) (first | exact d1_1 | exact ((bcell hb3).1 _ _ (by simp; omega)).trans d1_1) ((first | (go_at_call 85; refine (markText_any _ _ (by omega)).mono ?_; rintro e w3 ⟨rfl, hb3⟩)))
      have hz3 := hb3.size
      simp at hz3
      have hB3 := hB2.trans (((Below.refl _ _).drew : Below w.heap.size w2 w2.drew).trans (hb3.mono (by simp; omega)))
      go_wp2_with fail
      go_roundw
      case rel => exact ⟨k + 1, by omega, by go_num, by congr 1; omega, hB3⟩
      case measure => simp [intOf]; omega
    · obtain rfl : k = n := by omega
      clear hlt
      go_wp2_with fail
      go_ret
      exact ⟨rfl, hb⟩

/-! ### Buffer -/
structure FBuffer where
  a0 : Int
  a1 : ByteArray
instance : Inhabited FBuffer := ⟨⟨0, ByteArray.empty⟩⟩
def FBuffer.cells (x : FBuffer) : List Value := [.int .i64 x.a0, .string x.a1]
theorem FBuffer.len (x : FBuffer) : x.cells.length = 2 := rfl
abbrev FBuffer.flat (l : List FBuffer) : List Value := l.flatMap FBuffer.cells
theorem infoBuffer : (Try.prog.info? 62).map (fun i => (i.zero.map Value.cells, i.size, i.bytes)) = some (some #[.int .i64 0, .string ByteArray.empty], 2, 24) := by kernel_rfl
theorem toBuffer_any (x : FBuffer) (w : World) : Calls Try.prog 76 #[.agg #[.int .i64 x.a0, .string x.a1]] w fun e w' => e = .returned (.agg #[.int .i64 x.a0, .string x.a1]) ∧ Below w.heap.size w w' := by
  go_enter Try.func76, Try.ntmps76
  go_wp2
  exact bodyPost_ret (v := .agg #[.int .i64 x.a0, .string x.a1]) (by simp [results, Try.results76, go_sem]) rfl ⟨rfl, by repeat (first | exact Below.refl _ _ | (refine Below.alloc ?_ (by simp; try omega) _) | (refine Below.setCell ?_ (by simp) _))⟩
set_option maxHeartbeats 1000000 in
set_option maxRecDepth 100000 in
theorem toBufferS_any (l : List FBuffer) (v : Value) (w : World) (hl : l.length ≤ 1048576) {B : Nat} (hB : B ≤ w.heap.size) (hr : Rd w B 2 v l.length (FBuffer.flat l)) :
    Calls Try.prog 43 #[v] w fun e w' => e = .returned (.slice (some ⟨w.heap.size, 0, none⟩) l.length l.length) ∧ w'.ownsRow w.heap.size 62 2 (.slice (some ⟨w.heap.size, 0, none⟩) l.length l.length) l.length (FBuffer.flat l) ∧ Below w.heap.size w w' := by
  obtain ⟨A, c, rfl, hc1, hc2, hxl, hcell⟩ := hr.more hB
  have HC := Lib.hid hcell
  have HX := Lib.hid hxl
  have hn : l.length ≤ 9223372036854775807 := by omega
  have hmk := fun W => make_law (P := Try.prog) 30 62 _ 2 24 Try.underlying30 infoBuffer l.length (by omega) hn W
  have HL := Lib.hid hl
  clear hcell hxl hl hc2 hr
  go_enter Try.func43, Try.ntmps43
  go_wp2
  go_loopw [4] (fun i wr => ∃ k : Nat, k ≤ l.length ∧ i = .int .i64 k ∧ (∃ f, wr.rowIs w.heap.size 62 (l.length * 2) f ∧ ∀ j, j < k * 2 → (FBuffer.flat l)[j]? = some (f j)) ∧ Below w.heap.size w wr) (fun i _ => l.length - (intOf i).toNat)
  case atStart => exact ⟨0, Nat.zero_le _, rfl, ⟨_, made_row w _ _ 2 _ rfl (by omega), fun j hj => absurd hj (by omega)⟩, (Below.refl _ _).alloc (Nat.le_refl _) _⟩
  case round =>
    obtain ⟨k, hk, rfl, ⟨f, hrow, hdone⟩, hb⟩ := hrel
    have HD := Lib.hid hdone
    have HR := Lib.hid hrow
    clear hdone hmk
    by_cases hlt : k < l.length
    · obtain ⟨x, hx⟩ : ∃ x, l[k]? = some x := ⟨_, List.getElem?_eq_getElem hlt⟩
      obtain ⟨bc, offc, rfl, hblc, hcc⟩ := Rd.at_ FBuffer.len HC.out hx
      have c0 : wr.cell? ⟨bc, offc + k * 2, none⟩ = some (.int .i64 x.a0) := (hb.cell hblc).trans (hcc 0 _ rfl)
      have c1 : wr.cell? ⟨bc, offc + k * 2 + 1, none⟩ = some (.string x.a1) := (hb.cell hblc).trans (hcc 1 _ rfl)
      have HXX := Lib.hid hx
      clear hcc hx hrow
      go_wp2_with fail
      refine (toBuffer_any x _).mono ?_
      rintro e w2 ⟨rfl, hb2⟩
      have row2 : w2.rowIs w.heap.size 62 (l.length * 2) f := HR.out.of_block (hb2.block _ HR.out.lt)
      have q0 := row2.cell (i := k * 2) (by omega)
      have z0 := row2.frozen (k * 2)
      have q1 := row2.cell (i := k * 2 + 1) (by omega)
      have z1 := row2.frozen (k * 2 + 1)
      have HR2 := Lib.hid row2
      have hB2 := hb.trans (hb2.mono hb.size)
      clear row2 c0 c1
      go_wp2_with fail
      go_roundw
      case rel =>
        refine ⟨k + 1, by omega, by go_num, ⟨_, ((HR2.out.set (k * 2) (.int .i64 x.a0)).set (k * 2 + 1) (.string x.a1)), fun j hj => ?_⟩, ((hB2.setCell (Nat.le_refl _) _).setCell (Nat.le_refl _) _)⟩
        by_cases e1 : j = k * 2 + 1
        · subst e1
          rw [flat_get FBuffer.len l k x HXX.out 1 (by omega)]
          simp [FBuffer.cells]
        · by_cases e0 : j = k * 2
          · subst e0
            have := flat_get FBuffer.len l k x HXX.out 0 (by omega)
            rw [Nat.add_zero] at this
            rw [this]
            simp [FBuffer.cells]
          · rw [HD.out j (by omega)]
            simp [e0, e1]
      case measure => simp [intOf]; omega
    · obtain rfl : k = l.length := by omega
      clear hlt
      go_wp2_with fail
      go_ret
      exact ⟨rfl, own_of_row HR.out (Nat.le_refl _) (by unfold maxLen; omega) HX.out HD.out, hb⟩
theorem eqBuffer_same (x : FBuffer) (w : World) : Calls Try.prog 78 #[.agg #[.int .i64 x.a0, .string x.a1], .agg #[.int .i64 x.a0, .string x.a1]] w fun e w' => e = .returned (.bool true) ∧ Below w.heap.size w w' := by
  go_enter Try.func78, Try.ntmps78
  go_wp2
  go_ret
  exact ⟨rfl, by repeat (first | exact Below.refl _ _ | (refine Below.alloc ?_ (by simp; try omega) _) | (refine Below.setCell ?_ (by simp) _))⟩
set_option maxHeartbeats 1000000 in
set_option maxRecDepth 100000 in
theorem eqBufferS_same (l : List FBuffer) (u v : Value) (w : World) (hl : l.length ≤ 1048576) (hu : Rd w w.heap.size 2 u l.length (FBuffer.flat l)) (hv : Rd w w.heap.size 2 v l.length (FBuffer.flat l)) :
    Calls Try.prog 45 #[u, v] w fun e w' => e = .returned (.bool true) ∧ Below w.heap.size w w' := by
  obtain ⟨A, c, rfl, hc1, hc2, _, hcell⟩ := hu
  obtain ⟨A', c', rfl, hc1', hc2', _, hcell'⟩ := hv
  have HC := Lib.hid hcell
  have HC' := Lib.hid hcell'
  have hn : l.length ≤ 9223372036854775807 := by omega
  clear hcell hcell' hc2 hc2'
  go_enter Try.func45, Try.ntmps45
  go_wp2
  go_loopw [5] (fun i wr => ∃ k : Nat, k ≤ l.length ∧ i = .int .i64 k ∧ Below w.heap.size w wr) (fun i _ => l.length - (intOf i).toNat)
  case atStart => exact ⟨0, Nat.zero_le _, rfl, Below.refl _ _⟩
  case round =>
    obtain ⟨k, hk, rfl, hb⟩ := hrel
    by_cases hlt : k < l.length
    · obtain ⟨x, hx⟩ : ∃ x, l[k]? = some x := ⟨_, List.getElem?_eq_getElem hlt⟩
      obtain ⟨bc, offc, rfl, hblc, hcc⟩ := Rd.at_ FBuffer.len HC.out hx
      obtain ⟨bd, offd, rfl, hbld, hcd⟩ := Rd.at_ FBuffer.len HC'.out hx
      have c0 : wr.cell? ⟨bc, offc + k * 2, none⟩ = some (.int .i64 x.a0) := (hb.cell hblc).trans (hcc 0 _ rfl)
      have c1 : wr.cell? ⟨bc, offc + k * 2 + 1, none⟩ = some (.string x.a1) := (hb.cell hblc).trans (hcc 1 _ rfl)
      have d0 : wr.cell? ⟨bd, offd + k * 2, none⟩ = some (.int .i64 x.a0) := (hb.cell hbld).trans (hcd 0 _ rfl)
      have d1 : wr.cell? ⟨bd, offd + k * 2 + 1, none⟩ = some (.string x.a1) := (hb.cell hbld).trans (hcd 1 _ rfl)
      clear hcc hcd hx
      go_wp2_with fail
      go_still_tail 8, (by kernel_rfl)
      have hbd : Below w.heap.size w wr.drew := hb.drew
      change wpList _ _ _ _ _ wr.drew
      generalize wr.drew = wd at *
      go_wp2_with (go_at_call 78; refine (eqBuffer_same x _).mono ?_; rintro e w2 ⟨rfl, hb2⟩)
      go_roundw
      case rel => exact ⟨k + 1, by omega, by go_num, hbd.trans (hb2.mono hbd.size)⟩
      case measure => simp [intOf]; omega
    · obtain rfl : k = l.length := by omega
      clear hlt
      go_wp2_with fail
      go_ret
      exact ⟨rfl, hb⟩
theorem FBuffer.one (l : List FBuffer) : ∀ u ∈ FBuffer.flat l, u.oneCell' = true := by  -- oneFlat
  intro u hu
  obtain ⟨x, _, hx⟩ := List.mem_flatMap.1 hu
  simp only [FBuffer.cells, List.mem_cons, List.not_mem_nil, or_false] at hx
  rcases hx with rfl | rfl <;> rfl
set_option maxRecDepth 100000 in
theorem cloneBuffer_any (l : List FBuffer) (v : Value) (w : World) (hl : l.length ≤ 1048576) {B : Nat} (hB : B ≤ w.heap.size) (hr : Rd w B 2 v l.length (FBuffer.flat l)) :
    Calls Try.prog 84 #[v] w fun e w' => ∃ A c, e = .returned (.slice A l.length c) ∧ w'.ownsRow w.heap.size 62 2 (.slice A l.length c) l.length (FBuffer.flat l) ∧ Below w.heap.size w w' := by
  obtain ⟨A, c, rfl⟩ := hr.form
  have hnil := fun W => Lib.run_eql_slice_nil (P := Try.prog) W 30 62 A l.length c 0 0 Try.underlying30
  cases A with
  | none =>
    have h0 : l.length = 0 := by
      obtain ⟨A, c', hA, _, _, _, hc⟩ := hr
      rcases Nat.eq_zero_or_pos l.length with h | h
      · exact h
      · obtain ⟨b, off, hb, _⟩ := hc h
        simp only [Value.slice.injEq] at hA
        rw [← hA.1] at hb
        cases hb
    have he : l = [] := List.eq_nil_of_length_eq_zero h0
    clear hr h0
    subst he
    have hnil0 := fun W => Lib.run_eql_slice_nil (P := Try.prog) W 30 62 none 0 c 0 0 Try.underlying30
    clear hnil
    go_enter Try.func84, Try.ntmps84
    go_wp2_with fail
    go_ret
    exact ⟨none, 0, rfl, World.ownsRow_nil _ _ _ _, Below.refl _ _⟩
  | some ad =>
    have HR := Lib.hid hr
    have HL := Lib.hid hl
    clear hr hl
    go_enter Try.func84, Try.ntmps84
    go_wp2_with (at_builtin; refine wpList_append_rd _ rfl _ _ _ rfl w.heap.size _ _ _ 24 Try.underlying30 infoBuffer rfl (by omega) (.slice (some ⟨w.heap.size, 0, none⟩) 0 0) 0 [] rfl (own_empty w _ _) B _ l.length _ _ rfl (HR.out.below ((Below.refl _ _).alloc (Nat.le_refl _) _) hB) (FBuffer.one l) (by have := HL.out; unfold maxLen; omega) (by have := HL.out; omega) (by simp) ?_; intro v1 w1 hown1 hg1 hat1; obtain ⟨A1, k1, rfl⟩ := own_form hown1; rw [Nat.zero_add, List.nil_append] at hown1)
    go_ret
    exact ⟨A1, k1, by simp, hown1, (((Below.refl w.heap.size w).alloc (Nat.le_refl _) _).grown hg1 (by simp) (fun k hk => Nat.le_of_eq (by simpa [Value.ownBlock] using hk)))⟩
def FBuffer.wt (x : FBuffer) : Nat := x.a1.size
def FBuffer.wts (l : List FBuffer) : Nat := (l.map FBuffer.wt).sum
def FBuffer.ok (x : FBuffer) : Prop := x.a1.size ≤ 9223372036854775807
theorem FBuffer.wts_take (l : List FBuffer) (k : Nat) (x : FBuffer) (h : l[k]? = some x) : FBuffer.wts (l.take (k + 1)) = FBuffer.wts (l.take k) + x.wt := by
  unfold FBuffer.wts
  rw [List.take_add_one, h]
  simp
theorem FBuffer.wts_le (l : List FBuffer) (k : Nat) : FBuffer.wts (l.take k) ≤ FBuffer.wts l := by
  have : FBuffer.wts l = FBuffer.wts (l.take k) + FBuffer.wts (l.drop k) := by
    unfold FBuffer.wts
    rw [← List.sum_append, ← List.map_append, List.take_append_drop]
  omega
theorem szBuffer_any (x : FBuffer) (left : Int) (w : World) (hx : x.ok) (h0 : 0 ≤ left) (h1 : left ≤ 1048576) :
    Calls Try.prog 74 #[.agg #[.int .i64 x.a0, .string x.a1], .int .i64 left] w fun e w' => e = .returned (.int .i64 (bud left x.wt)) ∧ Below w.heap.size w w' := by
  unfold FBuffer.ok at hx
  obtain h_s1 := hx
  by_cases c1 : left - x.a1.size < 0
  · go_enter Try.func74, Try.ntmps74
    go_wp2
    go_ret
    exact ⟨ret_int (by rw [bud_neg (by unfold FBuffer.wt; omega)]), (Below.refl _ _).alloc (Nat.le_refl _) _⟩
  · go_enter Try.func74, Try.ntmps74
    go_wp2
    go_ret
    exact ⟨ret_int (by rw [bud_pos (by unfold FBuffer.wt; omega)]; unfold FBuffer.wt; omega), (Below.refl _ _).alloc (Nat.le_refl _) _⟩
set_option maxHeartbeats 1000000 in
set_option maxRecDepth 100000 in
theorem szBufferS_any (l : List FBuffer) (v : Value) (left : Int) (w : World) (hok : ∀ x ∈ l, x.ok) (h0 : 0 ≤ left) (h1 : left ≤ 1048576) {B : Nat} (hB : B ≤ w.heap.size) (hr : Rd w B 2 v l.length (FBuffer.flat l)) :
    Calls Try.prog 41 #[v, .int .i64 left] w fun e w' => e = .returned (.int .i64 (bud left (l.length + FBuffer.wts l))) ∧ Below w.heap.size w w' := by
  obtain ⟨A, c, rfl, hc1, hc2, _, hcell⟩ := hr.more hB
  have HC := Lib.hid hcell
  have hcm : l.length ≤ 9223372036854775807 := by unfold maxLen at hc2; omega
  have HOK := Lib.hid hok
  clear hcell hc2 hok hr
  by_cases hfit : left - l.length < 0
  · go_enter Try.func41, Try.ntmps41
    go_wp2_with fail
    go_ret
    exact ⟨ret_int (by rw [bud_neg (by omega)]), Below.refl _ _⟩
  go_enter Try.func41, Try.ntmps41
  go_wp2_with fail
  go_loopw [1, 5] (fun lv i wr => ∃ k : Nat, k ≤ l.length ∧ i = .int .i64 k ∧ lv = .int .i64 (left - l.length - (FBuffer.wts (l.take k) : Nat)) ∧ ((FBuffer.wts (l.take k) : Nat) : Int) ≤ left - l.length ∧ Below w.heap.size w wr) (fun _ i _ => l.length - (intOf i).toNat)
  case atStart => exact ⟨0, Nat.zero_le _, rfl, by simp [FBuffer.wts], by simp [FBuffer.wts]; omega, Below.refl _ _⟩
  case round =>
    obtain ⟨k, hk, rfl, rfl, hw, hb⟩ := hrel
    by_cases hlt : k < l.length
    · obtain ⟨x, hx⟩ : ∃ x, l[k]? = some x := ⟨_, List.getElem?_eq_getElem hlt⟩
      obtain ⟨bc, offc, rfl, hblc, hcc⟩ := Rd.at_ FBuffer.len HC.out hx
      have c0 : wr.cell? ⟨bc, offc + k * 2, none⟩ = some (.int .i64 x.a0) := (hb.cell hblc).trans (hcc 0 _ rfl)
      have c1 : wr.cell? ⟨bc, offc + k * 2 + 1, none⟩ = some (.string x.a1) := (hb.cell hblc).trans (hcc 1 _ rfl)
      have hxo : x.ok := HOK.out x (List.mem_of_getElem? hx)
      have HT := Lib.hid (FBuffer.wts_take l k x hx)
      have HL := Lib.hid (FBuffer.wts_le l (k + 1))
      clear hcc hx
      have HXO := Lib.hid hxo
      clear hxo
      generalize hu : FBuffer.wts (l.take k) = U at *
      have HU := Lib.hid hu
      clear hu
      by_cases hf : (x.wt : Int) ≤ left - l.length - U
      · have hbp : 0 ≤ bud (left - l.length - U) x.wt := by rw [bud_pos hf]; omega
        have HBP := Lib.hid (bud_pos hf)
        go_wp2_with (go_at_call 74; refine (szBuffer_any x _ _ HXO.out (by omega) (by omega)).mono ?_; rintro e w2 ⟨rfl, hb2⟩)
        go_roundw
        case rel =>
          have e := HT.out
          rw [← HU.out] at *
          refine ⟨k + 1, by omega, by go_num, ?_, by rw [e, HU.out]; omega, hb.trans (hb2.mono hb.size)⟩
          rw [HBP.out, e, HU.out]
          congr 1
          omega
        case measure => simp [intOf]; omega
      · have hbp : bud (left - l.length - U) x.wt = -1 := bud_neg hf
        have hbn : bud (left - l.length - U) x.wt < 0 := by rw [hbp]; omega
        clear hbp
        go_wp2_with (go_at_call 74; refine (szBuffer_any x _ _ HXO.out (by omega) (by omega)).mono ?_; rintro e w2 ⟨rfl, hb2⟩)
        go_ret
        refine ⟨ret_int ?_, hb.trans (hb2.mono hb.size)⟩
        have e := HT.out
        have e2 := HL.out
        have e3 := HU.out
        rw [bud_neg (by omega)]
    · obtain rfl : k = l.length := by omega
      clear hlt
      go_wp2_with fail
      go_ret
      refine ⟨ret_int ?_, hb⟩
      rw [List.take_length] at *
      rw [bud_pos (by omega)]
      omega
theorem read_Buffer {H : Type} {enc : TypeId × Value → H} {w : World} {base : Nat} {spare : Nat → Bool} {held : Bool} (n : Nat) (cs : List Value) (y : DataW H × List MemPlace)
    (h : DataW.trod enc Try.prog w base spare held n 87 cs = some y) : ∃ x : FBuffer, cs = x.cells ∧ x.ok := by
  obtain ⟨hl, hf⟩ := struct_cells (k := 2) (by kernel_rfl) (by kernel_rfl) (by kernel_rfl) (by kernel_rfl) h
  obtain ⟨n0, u0, y0, e0, t0⟩ := hf 0 3 (by kernel_rfl)
  obtain ⟨n1, u1, y1, e1, t1⟩ := hf 1 9 (by kernel_rfl)
  obtain ⟨a0, q0, _, w0⟩ := DataW.trod_int Try.underlying3 t0
  obtain ⟨a1, q1, _, w1⟩ := DataW.trod_string Try.underlying9 t1
  match cs, hl with
  | [c0, c1], _ =>
    simp at e0 q0 e1 q1
    subst e0 q0 e1 q1
    exact ⟨⟨a0, a1⟩, rfl, by unfold maxLen at w1; exact w1⟩
theorem open_BufferS {H : Type} {enc : TypeId × Value → H} {w : World} {base : Nat} {spare : Nat → Bool} {held : Bool} {fuel : Nat} {cs : List Value} {y : DataW H × List MemPlace}
    (h : DataW.trod enc Try.prog w base spare held fuel 23 cs = some y) : ∃ (v : Value) (l : List FBuffer), cs = [v] ∧ Rd w w.heap.size 2 v l.length (FBuffer.flat l) ∧ ∀ x ∈ l, x.ok :=
  open_flat FBuffer.len (by omega) Try.underlying23 (by kernel_rfl) read_Buffer h
def FBuffer.mark1 (k : Int) : FBuffer := ⟨k, mt (k + 1)⟩
def FBuffer.marks (n : Nat) (k : Int) : List FBuffer := (List.range n).map fun j => FBuffer.mark1 (k + ((j * 2 : Nat) : Int))
theorem FBuffer.marks_len (n : Nat) (k : Int) : (FBuffer.marks n k).length = n := by simp [FBuffer.marks]
theorem FBuffer.marks_get (n : Nat) (k : Int) (j : Nat) (h : j < n) : (FBuffer.marks n k)[j]? = some (FBuffer.mark1 (k + ((j * 2 : Nat) : Int))) := by simp [FBuffer.marks, h]
set_option maxHeartbeats 1000000 in
set_option maxRecDepth 100000 in
theorem markBufferS_any (n : Nat) (xs : List Value) (v : Value) (base : Nat) (k0 : Int) (w : World) (h1 : 1 ≤ k0) (h2 : k0 + ((n * 2 : Nat) : Int) ≤ 1000000000) (hown : w.ownsRow base 62 2 v n xs) :
    Calls Try.prog 57 #[v, .int .i64 k0] w fun e w' => e = .returned (.int .i64 (k0 + ((n * 2 : Nat) : Int))) ∧ w'.ownsRow base 62 2 v n (FBuffer.flat (FBuffer.marks n k0)) ∧ w.grownBy w' v.ownBlock := by
  have HLN := Lib.hid (flat_len FBuffer.len (FBuffer.marks n k0))
  rcases own_row hown with ⟨rfl, rfl, rfl⟩ | ⟨g, cap, f0, rfl, hg, hnc, hcm, hrow, hx⟩
  · go_enter Try.func57, Try.ntmps57
    go_wp2_with fail
    go_loop [1, 5] (fun kv i => kv = .int .i64 k0 ∧ i = .int .i64 0) (fun _ i => 0)
    case atStart => exact ⟨rfl, rfl⟩
    case round =>
      obtain ⟨rfl, rfl⟩ := hrel
      go_wp2_with fail
      go_ret
      exact ⟨ret_int (by simp), ⟨by simp [FBuffer.marks, FBuffer.flat], .inl ⟨rfl, rfl⟩⟩, grown_refl _ _⟩
  · have HROW := Lib.hid hrow
    have hnm : n ≤ 1000000000 := by omega
    clear hown hrow hx
    unfold maxLen at hcm
    go_enter Try.func57, Try.ntmps57
    go_wp2_with fail
    go_loopw [1, 5] (fun kv i wr => ∃ k : Nat, k ≤ n ∧ i = .int .i64 k ∧ kv = .int .i64 (k0 + ((k * 2 : Nat) : Int)) ∧ (∃ f, wr.rowIs g 62 (cap * 2) f ∧ ∀ j, j < k * 2 → (FBuffer.flat (FBuffer.marks n k0))[j]? = some (f j)) ∧ w.grownBy wr (some g)) (fun _ i _ => n - (intOf i).toNat)
    case atStart => exact ⟨0, Nat.zero_le _, rfl, by simp, ⟨_, HROW.out, fun j hj => absurd hj (by omega)⟩, grown_refl _ _⟩
    case round =>
    obtain ⟨k, hk, rfl, rfl, ⟨f, hrow, hdone⟩, hg0⟩ := hrel
    have HD := Lib.hid hdone
    have HR := Lib.hid hrow
    have hg := hg0
    clear hdone hrow hg0
    by_cases hlt : k < n
    · have HM := Lib.hid (FBuffer.marks_get n k0 k hlt)
      have hkc : k * 2 + 2 ≤ cap * 2 := by have := Nat.mul_le_mul_right 2 (show k + 1 ≤ cap by omega); rw [Nat.succ_mul] at this; exact this
      have q0 := (HR.out).cell (i := k * 2) (by omega)
      have z0 := (HR.out).frozen (k * 2)
      have q1 := (HR.out).cell (i := k * 2 + 1) (by omega)
      have z1 := (HR.out).frozen (k * 2 + 1)
      go_wp2_with fail
      refine (markText_any _ _ (by omega)).mono ?_
      rintro e w2 ⟨rfl, hb2⟩
      clear q0 z0 q1 z1
      have row1 := Lib.hid (((HR.out).set (k * 2) (.int .i64 (k0 + ((k * 2 : Nat) : Int)))).of_block (hb2.block _ ((HR.out).set (k * 2) (.int .i64 (k0 + ((k * 2 : Nat) : Int)))).lt))
      have gr1 := Lib.hid (grown_trans (grown_set (hg) (k * 2) (.int .i64 (k0 + ((k * 2 : Nat) : Int)))) (grown_below hb2))
      have q0 := (row1.out).cell (i := k * 2) (by omega)
      have z0 := (row1.out).frozen (k * 2)
      have q1 := (row1.out).cell (i := k * 2 + 1) (by omega)
      have z1 := (row1.out).frozen (k * 2 + 1)
      go_wp2_with fail
      go_roundw
      case rel =>
        refine ⟨k + 1, by omega, by go_num, ?_, ⟨_, (row1.out).set (k * 2 + 1) (.string (mt (k0 + ((k * 2 : Nat) : Int) + 1))), fun j hj => ?_⟩, grown_set (gr1.out) (k * 2 + 1) (.string (mt (k0 + ((k * 2 : Nat) : Int) + 1)))⟩
        · congr 1
          omega
        · have HM := HM
          skip
          by_cases e1 : j = k * 2 + 1
          · subst e1
            rw [flat_get FBuffer.len _ k _ HM.out 1 (by omega)]
            simp [FBuffer.cells, FBuffer.mark1]
          · by_cases e0 : j = k * 2
            · subst e0
              have := flat_get FBuffer.len _ k _ HM.out 0 (by omega)
              rw [Nat.add_zero] at this
              rw [this]
              simp [FBuffer.cells, FBuffer.mark1]
            · rw [HD.out j (by omega)]
              simp [e0, e1]
      case measure => simp [intOf]; omega
    · obtain rfl : k = n := by omega
      clear hlt
      go_wp2_with fail
      go_ret
      exact ⟨rfl, own_of_row_cap HR.out (by assumption) hnc (by unfold maxLen; exact hcm) (HLN.out.trans (by rw [FBuffer.marks_len])) HD.out, hg⟩
set_option maxHeartbeats 1000000 in
set_option maxRecDepth 100000 in
theorem heldBufferS_any (n : Nat) (v : Value) (k0 : Int) (w : World) (h1 : 1 ≤ k0) (h2 : k0 + ((n * 2 : Nat) : Int) ≤ 1000000000) (hr : Rd w w.heap.size 2 v n (FBuffer.flat (FBuffer.marks n k0))) :
    Calls Try.prog 59 #[v, .int .i64 k0] w fun e w' => e = .returned (.int .i64 (k0 + ((n * 2 : Nat) : Int))) ∧ Below w.heap.size w w' := by
  obtain ⟨A, c, rfl, hc1, hc2, hxl, hcell⟩ := hr
  have HC := Lib.hid (show 0 < (FBuffer.marks n k0).length → _ from fun h => hcell (by rwa [FBuffer.marks_len] at h))
  have hnm : n ≤ 1000000000 := by omega
  clear hcell hxl hc2
  go_enter Try.func59, Try.ntmps59
  go_wp2_with fail
  go_loopw [1, 5] (fun kv i wr => ∃ k : Nat, k ≤ n ∧ i = .int .i64 k ∧ kv = .int .i64 (k0 + ((k * 2 : Nat) : Int)) ∧ Below w.heap.size w wr) (fun _ i _ => n - (intOf i).toNat)
  case atStart => exact ⟨0, Nat.zero_le _, rfl, by simp, Below.refl _ _⟩
  case round =>
    obtain ⟨k, hk, rfl, rfl, hb⟩ := hrel
    by_cases hlt : k < n
    · obtain ⟨bc, offc, rfl, hblc, hcc⟩ := Rd.at_ FBuffer.len HC.out (FBuffer.marks_get n k0 k hlt)
      have c0 : wr.cell? ⟨bc, offc + k * 2, none⟩ = some (.int .i64 (k0 + ((k * 2 : Nat) : Int))) := (hb.cell hblc).trans (hcc 0 _ rfl)
      have c1 : wr.cell? ⟨bc, offc + k * 2 + 1, none⟩ = some (.string (mt (k0 + ((k * 2 : Nat) : Int) + 1))) := (hb.cell hblc).trans (hcc 1 _ rfl)
      have hzb := hb.size
      clear hcc
      go_wp2_with fail
      go_region_held3 (fun w_ => w_.cell? ⟨bc, offc + k * 2 + 1, none⟩ = some (.string (mt (k0 + ((k * 2 : Nat) : Int) + 1)))) (first | exact c1 | exact ((bcell hb2).1 _ _ (by simp; omega)).trans c1) ((first | (go_at_call 85; refine (markText_any _ _ (by omega)).mono ?_; rintro e w2 ⟨rfl, hb2⟩)))
      have hz2 := hb2.size
      simp at hz2
      have hB2 := hb.trans (((Below.refl _ _).drew : Below w.heap.size wr wr.drew).trans (hb2.mono (by simp; omega)))
      go_wp2_with fail
      go_roundw
      case rel => exact ⟨k + 1, by omega, by go_num, by congr 1; omega, hB2⟩
      case measure => simp [intOf]; omega
    · obtain rfl : k = n := by omega
      clear hlt
      go_wp2_with fail
      go_ret
      exact ⟨rfl, hb⟩
end Go.Proofs.Ytikebdhpgmejpaa
