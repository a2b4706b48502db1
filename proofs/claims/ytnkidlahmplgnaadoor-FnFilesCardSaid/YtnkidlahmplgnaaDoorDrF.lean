/-
  Paths and sites that are drawn: short paths, few files. Conditions: none.
-/
import Derived.Test.YtnkidlahmplgnaaDoorFiP
import Derived.Test.YtnkidlahmplgnaaDoorDrw
import Derived.Test.YtnkidlahmplgnaaDoorFmtS
namespace Go.Proofs.YtnkidlahmplgnaaDoor
open Go.ChangeShapes Go.WideShapes Go.ChangeAt Go.RowKit Go.Deep Go.Joins
open Go.ChangeMaps (open_string shut_string)
set_option linter.unusedVariables false
set_option linter.unusedSimpArgs false
set_option maxRecDepth 100000
theorem l22Path_any (g B : Nat) (w : World) (hc : Cur w g B) : Calls Tryd.prog 14 #[.pointer (some ⟨g, 0, none⟩)] w fun e w' => (∃ s : ByteArray, s.size ≤ 60 ∧ e = .returned (.string s)) ∧ Cur w' g B ∧ Only g (g + 1) w.heap.size w w' := by
  have HC := Lib.hid hc
  clear hc
  go_enter Tryd.func14, Tryd.ntmps14
  go_wp2_with (go_at_call 16; refine (l1StrL g B 16 60 _ _ w (by decide) (by decide) (by kernel_rfl) HC.out).mono ?_; rintro e w1 ⟨⟨s, hs, rfl⟩, hc1, ho1⟩)
  go_ret
  exact ⟨⟨s, hs, rfl⟩, hc1, ho1⟩
set_option maxHeartbeats 2000000 in
theorem DrawNormalPath_any (A : Option Addr) (n c : Nat) (w : World) (hy : Byts w w.heap.size A n) : Calls Tryd.prog 5 #[.slice A n c] w fun e w' => (∃ s : ByteArray, s.size ≤ 200 ∧ e = .returned (.string s)) ∧ Below w.heap.size w w' := by
  have HY := Lib.hid hy
  clear hy
  have hp : ∀ s : ByteArray, (ByteArray.mk #[97, 97, 97, 97, 97, 97, 97, 97, 97, 97, 97, 97, 97, 97, 97, 97, 97, 97, 97, 47, 98, 98, 98, 98, 98, 98, 98, 98, 98, 98, 98, 98, 98, 98, 98, 98, 98, 98, 98, 47, 99, 99, 99, 99, 99, 99, 99, 99, 99, 99, 99, 99, 99, 99, 99, 99, 99, 99, 99] ++ s).size = 59 + s.size := fun s => by rw [ByteArray.size_append]; rfl
  go_enter Tryd.func5, Tryd.ntmps5
  go_upto_region 2 with (go_at_call 13; refine (l1New_any A n c w.heap.size _ (Nat.le_refl _) HY.out).mono ?_; rintro e w1 ⟨rfl, hc1, hb1⟩)
  have hg : w.heap.size < w.heap.size + 1 := by omega
  have hg2 : w.heap.size ≤ w.heap.size := Nat.le_refl _
  generalize hgg : w.heap.size = g at hc1 ⊢
  have HG := Lib.hid hgg
  clear hgg
  go_upto_region 3 with (go_at_call 14; refine (l22Path_any g g w1 hc1).mono ?_; rintro e w2 ⟨⟨s, hs, rfl⟩, hc2, ho2⟩)
  go_upto_if 10 with (go_at_call 15; refine (l1Once_any g g 9 (by decide) (by decide) w2 hc2).mono ?_; rintro e w3 ⟨⟨bb, rfl⟩, hc3, ho3⟩)
  have HB3 := Lib.hid (show Below g w w3 from by
    have h := HG.out
    subst h
    exact (hb1.trans (ho2.below (Nat.le_refl _) hb1.size)).trans (ho3.below (Nat.le_refl _) (Nat.le_trans hb1.size ho2.size)))
  have hz := HB3.out.size
  have hgz : g ≤ w3.heap.size := by have := HG.out; omega
  clear hb1 ho2 ho3 hc1 hc2
  cases bb with
  | true =>
    go_wp2_with (go_at_call 16; refine (l1StrL g g 3 2 _ _ w3 (by decide) (by decide) (by kernel_rfl) hc3).mono ?_; rintro e w4 ⟨⟨t, ht, rfl⟩, hc4, ho4⟩)
    go_ret
    exact ⟨⟨_, by rw [hp]; omega, rfl⟩, by rw [HG.out]; exact HB3.out.trans (ho4.below (Nat.le_refl _) hgz)⟩
  | false =>
    go_wp2_with (go_at_call 16; refine (l1StrL g g 4 60 _ _ w3 (by decide) (by decide) (by kernel_rfl) hc3).mono ?_; rintro e w4 ⟨⟨t, ht, rfl⟩, hc4, ho4⟩)
    go_ret
    exact ⟨⟨_, by rw [ByteArray.size_append]; omega, rfl⟩, by rw [HG.out]; exact HB3.out.trans (ho4.below (Nat.le_refl _) hgz)⟩
/-! ### sites -/
structure FsT (m : Nat) (V : List FFile) : Prop where
  n : V.length ≤ m
  s : ∀ x ∈ V, x.a0.size ≤ 100 ∧ x.a1.size ≤ 100
theorem fst_nil (m : Nat) : FsT m [] := ⟨Nat.zero_le _, fun x hx => by cases hx⟩
theorem fwt_le : ∀ V : List FFile, (∀ x ∈ V, x.a0.size ≤ 100 ∧ x.a1.size ≤ 100) → FFile.wts V ≤ 300 * V.length
  | [], _ => by simp [FFile.wts]
  | x :: r, h => by
    have h1 := h x (by simp)
    have h2 := fwt_le r fun y hy => h y (by simp [hy])
    obtain ⟨a, b, c⟩ := x
    rw [FFile.wts, List.length_cons]
    have h3 : FFile.wt ⟨a, b, c⟩ ≤ 300 := by
      rw [FFile.wt_eq]
      simp only at h1
      omega
    omega
theorem FsT.w {m : Nat} {V : List FFile} (h : FsT m V) (hm : m ≤ 100) : V.length + FFile.wts V ≤ 1048576 := by
  have h1 := h.n
  have h2 := fwt_le V h.s
  omega
theorem fst_wr {m : Nat} {V : List FFile} (h : FsT m V) (hm : 8 ≤ m) (p s : ByteArray) (hs : s.size ≤ 100) : FsT m (wrO V p s).1 := by
  cases hg : (nmOk p && (siF V && decide (s.size ≤ 4000))) with
  | false => rw [wr_bad hg]; exact h
  | true =>
    rcases fif_cases V p with hf | ⟨k, x, hf, hk, hx⟩
    · by_cases h8 : 8 ≤ V.length
      · rw [wr_full hg (by omega) h8]; exact h
      · rw [wr_new hg (by omega) h8]
        refine ⟨by simp; omega, fun y hy => ?_⟩
        rcases List.mem_append.1 hy with hy | hy
        · exact h.s y hy
        · rw [List.mem_singleton.1 hy]
          have := nmS_len p
          exact ⟨by show (nmS p).size ≤ 100; omega, hs⟩
    · by_cases hm : x.a2 = 1000000000
      · rw [wr_max hg hf hx hm]; exact h
      · rw [wr_put hg hf hx hm]
        refine ⟨by rw [List.length_set]; exact h.n, fun y hy => ?_⟩
        rcases List.mem_or_eq_of_mem_set hy with hy | hy
        · exact h.s y hy
        · rw [hy]
          exact ⟨(h.s x (List.mem_of_getElem? hx)).1, hs⟩
theorem fvals_set2 {l : List FFile} {k : Nat} {p : FFile} (v : Int) (h : l[k]? = some p) : (fvals l).set (k * 3 + 2) (.int .i64 v) = fvals (l.set k ⟨p.a0, p.a1, v⟩) := by
  rw [← fvals_set l k p p.a1 v h]
  congr 1
  have h1 := (fvals_at l k p h).2.1
  obtain ⟨hk, hg⟩ := List.getElem?_eq_some_iff.1 h1
  rw [← hg, List.set_getElem_self]
/-- Files V lie in a row of the call's own, behind the cursor. -/
structure SiS (w : World) (g B m : Nat) (A : Option Addr) (c : Nat) (V : List FFile) (X : World) : Prop where
  cur : Cur X g B
  onl : Only g (g + 1) w.heap.size w X
  gl : g < w.heap.size
  own : RW X w.heap.size A c V
  t : FsT m V
section
variable {w X X' : World} {g B m m2 c c2 : Nat} {A A2 : Option Addr} {V V2 : List FFile}
theorem SiS.only (h : SiS w g B m A c V X) (hc : Cur X' g B) (ho : Only g (g + 1) X.heap.size X X')  : SiS w g B m A c V X' :=
  ⟨hc, h.onl.trans (ho.less h.onl.size), h.gl, own_keep h.own fun k hk => ho.block k (own_lt h.own k hk).2 (.inr (by have := (own_lt h.own k hk).1; have := h.gl; omega)), h.t⟩
theorem SiS.below (h : SiS w g B m A c V X) (hb : Below X.heap.size X X')  : SiS w g B m A c V X' := h.only (h.cur.below hb) (only_of_below hb)
theorem SiS.read (h : SiS w g B m A c V X) : RdC X X.heap.size (.s 39 3 V.length (FFile.flat V)) (.slice A V.length c) := (own_files h.own h.onl.size).read
theorem SiS.put (h : SiS w g B m A c V X) (hb : Below X.heap.size X X') (own : RW X' X.heap.size A2 c2 V2) (t : FsT m2 V2) : SiS w g B m2 A2 c2 V2 X' :=
  ⟨h.cur.below hb, h.onl.trans (only_of_below (hb.mono h.onl.size)), h.gl, ownsRow_le own h.onl.size, t⟩
/-- The row is written into, or grows. -/
theorem SiS.grown (h : SiS w g B m A c V X) (hg : X.grownBy X' (Value.slice A V.length c).ownBlock) (own : RW X' w.heap.size A2 c2 V2) (t : FsT m2 V2) : SiS w g B m2 A2 c2 V2 X' := by
  have hlt : ∀ k, some k = (Value.slice A V.length c).ownBlock → w.heap.size ≤ k := fun k hk => (own_lt h.own k hk.symm).1
  have hb : Below w.heap.size X X' := (Below.refl _ _).grown hg h.onl.size (fun k hk => hlt k hk.symm)
  refine ⟨?_, h.onl.trans (only_of_below hb), h.gl, own, t⟩
  obtain ⟨A0, n, c0, i, x, h1, h2, h3, h4, h5⟩ := h.cur
  have hgl := h.gl
  exact ⟨A0, n, c0, i, x, (hb.block g hgl).trans h1, h2, h3.keep fun b o hB => (hb.cell (p := ⟨b, o, none⟩) (by show b < _; omega)), h4, h5⟩
end
theorem Write_tiny (m : Nat) (V : List FFile) (p s : ByteArray) (u : Value) (w : World) (hm : 8 ≤ m) (hm2 : m ≤ 100) (hp : p.size ≤ 1048576) (hs : s.size ≤ 100) (ht : FsT m V) {B : Nat} (hB0 : B ≤ w.heap.size) (hr0 : RdC w B (.s 39 3 V.length (FFile.flat V)) u) :
    Calls Tryd.prog 22 #[u, .string p, .string s] w fun e w' => ∃ (V2 : List FFile) (A : Option Addr) (c : Nat) (b : Bool), FsT m V2 ∧ e = .returned (.tuple #[.slice A V2.length c, .bool b]) ∧ RW w' w.heap.size A c V2 ∧ Below w.heap.size w w' :=
  (WriteFile_spec V p s u w hp (by omega) (ht.w hm2) hB0 hr0).mono fun e w' ⟨A, c, he, own, hb⟩ => ⟨_, A, c, _, fst_wr ht hm p s hs, he, own, hb⟩
theorem l22_size (k : Nat) (hk : k ≤ 100) : ((⟨#[60, 63, 32, 101, 99, 104, 111, 32]⟩ : ByteArray) ++ itoF (k : Int) ++ ⟨#[59]⟩).size ≤ 100 ∧ ((⟨#[102]⟩ : ByteArray) ++ itoF (k : Int)).size ≤ 100 := by
  have h := itoF_size (k : Int) (by omega) (by omega)
  rw [ByteArray.size_append, ByteArray.size_append, ByteArray.size_append]
  have h1 : (⟨#[60, 63, 32, 101, 99, 104, 111, 32]⟩ : ByteArray).size = 8 := rfl
  have h2 : (⟨#[59]⟩ : ByteArray).size = 1 := rfl
  have h3 : (⟨#[102]⟩ : ByteArray).size = 1 := rfl
  omega
set_option maxHeartbeats 8000000 in
theorem l22Site_any (g B : Nat) (w : World) (hc : Cur w g B) : Calls Tryd.prog 21 #[.pointer (some ⟨g, 0, none⟩)] w fun e w' => (∃ (V : List FFile) (A : Option Addr) (c : Nat), e = .returned (.slice A V.length c) ∧ SiS w g B 9 A c V w') := by
  have HC := Lib.hid hc
  have hgl := hc.lt
  clear hc
  go_enter Tryd.func21, Tryd.ntmps21
  go_upto_region 2 with fail
  have S0 : SiS w g B 8 (some ⟨w.heap.size, 0, none⟩) 0 [] (w.alloc (.cells #[] 39)) := ⟨HC.out.alloc _, only_of_below ((Below.refl _ _).alloc (Nat.le_refl _) _), hgl, own_empty w 39 3, fst_nil 8⟩
  generalize w.alloc (.cells #[] 39) = w2 at *
  go_wp2_with (go_at_call 25; refine (l1Below_any g B 5 (by decide) (by decide) _ S0.cur).mono ?_; rintro e w3 ⟨⟨x, hx, rfl⟩, hc1, ho1⟩; have S1 := S0.only hc1 ho1; clear hc1 ho1 S0)
  go_loopw [3, 4] (fun fv kv wr => ∃ (k : Nat) (A : Option Addr) (c : Nat) (V : List FFile), k ≤ 5 ∧ kv = .int .i64 k ∧ fv = .slice A V.length c ∧ SiS w g B 8 A c V wr) (fun _ kv _ => (intOf kv).toNat)
  case atStart => exact ⟨x, _, _, [], by omega, rfl, rfl, S1⟩
  case round =>
    obtain ⟨k, A, c, V, hk, rfl, rfl, S⟩ := hrel
    clear S1
    by_cases h0 : 0 < k
    · have hk0 : (k : Int) > 0 := by omega
      obtain ⟨hsz, _⟩ := l22_size k (by omega)
      have hks := itoF_size (k : Int) (by omega) (by omega)
      go_wp2_with (first
        | (go_at_call 14; refine (l22Path_any g B _ S.cur).mono ?_; rintro e wa ⟨⟨ps, hps, rfl⟩, hc1, ho1⟩; have Sa := S.only hc1 ho1; clear hc1 ho1 S)
        | (go_at_call 23; refine (Fmt_spec (k : Int) (by omega) (by omega) _).mono ?_; rintro e wb ⟨rfl, hb⟩; have Sb := Sa.below hb; clear hb Sa)
        | (go_at_call 22; refine (Write_tiny 8 V _ _ _ _ (by decide) (by decide) (by omega) (by omega) Sb.t (Nat.le_refl _) Sb.read).mono ?_; rintro e wc ⟨V2, A2, c2, b, ht, rfl, own, hb⟩; have Sc := Sb.put hb own ht; clear own hb ht Sb))
      go_roundw
      case rel => exact ⟨k - 1, _, _, V2, by omega, by go_num, rfl, Sc⟩
      case measure => simp [intOf]; omega
    · have hk0 : ¬ (k : Int) > 0 := by omega
      have S9 : SiS w g B 9 A c V wr := ⟨S.cur, S.onl, S.gl, S.own, ⟨by have := S.t.n; omega, S.t.s⟩⟩
      go_upto_region 7 with (go_at_call 25; refine (l1Below_any g B 12 (by decide) (by decide) _ S9.cur).mono ?_; rintro e wd ⟨⟨y, hy, rfl⟩, hc1, ho1⟩; have Sd := S.only hc1 ho1; clear hc1 ho1 S S9)
      by_cases y0 : y = 0
      · subst y0
        have hv8 := Sd.t.n
        go_wp2_with (first
          | (go_at_call 14; refine (l22Path_any g B _ Sd.cur).mono ?_; rintro e wa ⟨⟨ps, hps, rfl⟩, hc1, ho1⟩; have Sa := Sd.only hc1 ho1; have HSA := Lib.hid Sa; have hle := Sa.onl.size; clear hc1 ho1 Sd Sa)
          | (at_builtin; go_must (refine wpList_append_rd _ rfl (.tmp 27) (.tmp 31) _ rfl w.heap.size _ _ _ 40 Tryd.underlying31 infoFile rfl (by omega) (.slice A V.length c) _ _ rfl (World.ownsRow.alloc HSA.out.own _) (wa.heap.size + 1) _ 1 _ [.string ps, .string ⟨#[]⟩, .int .i64 1] rfl (frd_one wa ps ⟨#[]⟩ 1 39) (by intro u hu; simp only [List.mem_cons, List.not_mem_nil, or_false] at hu; rcases hu with rfl | rfl | rfl <;> rfl) (by unfold maxLen; omega) (by omega) (by simp; omega) ?_); intro v2 w9 hown2 hg2 hat2; obtain ⟨A6, c6, rfl⟩ := own_form hown2; have HG2 := Lib.hid hg2; have HW2 := Lib.hid hown2; clear hg2 hat2 hown2))
        go_ret
        refine ⟨V ++ [⟨ps, ⟨#[]⟩, 1⟩], A6, c6, by rw [List.length_append]; rfl, ?_⟩
        have S2 := HSA.out.below ((Below.refl _ _).alloc (Nat.le_refl _) (.cells #[.string ps, .string ⟨#[]⟩, .int .i64 1] 39))
        refine S2.grown HG2.out ?_ ⟨by simp; omega, fun z hz => ?_⟩
        · have h := HW2.out
          show World.ownsRow _ _ _ _ _ _ _
          rw [List.length_append, fvals_app]
          exact h
        · rcases List.mem_append.1 hz with hz | hz
          · exact HSA.out.t.s z hz
          · rw [List.mem_singleton.1 hz]
            exact ⟨by show ps.size ≤ 100; omega, by show (⟨#[]⟩ : ByteArray).size ≤ 100; decide⟩
      have z0 : ¬ (y : Int) = 0 := by omega
      have z0' : ((y : Int) == 0) = false := by simpa using z0
      by_cases y1 : y = 1
      · subst y1
        by_cases hV : V.length = 0
        · have hVn : V = [] := List.length_eq_zero_iff.1 hV
          subst hVn
          clear hV
          go_wp2_with fail
          go_ret
          exact ⟨[], A, c, rfl, ⟨Sd.cur, Sd.onl, Sd.gl, Sd.own, ⟨by have := Sd.t.n; omega, Sd.t.s⟩⟩⟩
        · have hV0 : (V.length : Int) > 0 := by omega
          have hV1 : (0 : Int) < (V.length : Int) := by omega
          obtain ⟨gg, rfl⟩ := RW.some Sd.own (by omega)
          obtain ⟨⟨x0, x1, x2⟩, hx0⟩ : ∃ z, V[0]? = some z := ⟨_, List.getElem?_eq_getElem (by omega)⟩
          obtain ⟨_, _, fv2⟩ := fvals_at V 0 _ hx0
          have HX := Lib.hid hx0
          clear hx0
          go_wp2_with (go_at_call 32; refine (l1IntL g B 3 0 1000000001 _ _ _ (by decide) (by decide) (by kernel_rfl) Sd.cur).mono ?_; rintro e wa ⟨⟨z, hz0, hz1, rfl⟩, hc1, ho1⟩; have Sa := Sd.only hc1 ho1; have fc := (World.ownsRow.cellAt Sa.own 2 (by omega)).trans fv2; have ff := World.ownsRow.frozenAt Sa.own 2; have fl := (own_lt Sa.own gg rfl).2; have HSA := Lib.hid Sa; clear hc1 ho1 Sd Sa)
          go_ret
          obtain ⟨t1, t2⟩ := World.ownsRow.stored HSA.out.own 2 (.int .i64 z)
          refine ⟨V.set 0 ⟨x0, x1, z⟩, some ⟨gg, 0, none⟩, c, by rw [List.length_set]; rfl, HSA.out.grown t2 ?_ ⟨by rw [List.length_set]; have := HSA.out.t.n; omega, fun q hq => ?_⟩⟩
          · have h := fvals_set2 (k := 0) z HX.out
            show World.ownsRow _ _ _ _ _ _ _
            rw [List.length_set, ← h]
            exact t1
          · rcases List.mem_or_eq_of_mem_set hq with hq | hq
            · exact HSA.out.t.s q hq
            · rw [hq]; exact HSA.out.t.s ⟨x0, x1, x2⟩ (List.mem_of_getElem? HX.out)
      have z1 : ¬ (y : Int) = 1 := by omega
      have z1' : ((y : Int) == 1) = false := by simpa using z1
      go_wp2_with fail
      go_ret
      exact ⟨V, A, c, rfl, ⟨Sd.cur, Sd.onl, Sd.gl, Sd.own, ⟨by have := Sd.t.n; omega, Sd.t.s⟩⟩⟩
set_option maxHeartbeats 8000000 in
theorem DrawWriteFile_any (A : Option Addr) (n c : Nat) (w : World) (hy : Byts w w.heap.size A n) : Calls Tryd.prog 9 #[.slice A n c] w fun e w' => (∃ (V : List FFile) (A : Option Addr) (c : Nat) (p s : ByteArray), FsT 9 V ∧ p.size ≤ 60 ∧ s.size ≤ 100 ∧ e = .returned (.tuple #[.slice A V.length c, .string p, .string s]) ∧ RW w' w.heap.size A c V) ∧ Below w.heap.size w w' := by
  have HY := Lib.hid hy
  clear hy
  go_enter Tryd.func9, Tryd.ntmps9
  go_upto_region 2 with (go_at_call 13; refine (l1New_any A n c w.heap.size _ (Nat.le_refl _) HY.out).mono ?_; rintro e w1 ⟨rfl, hc1, hb1⟩)
  obtain ⟨g, hg⟩ : ∃ g, g = w.heap.size := ⟨_, rfl⟩
  have HG := Lib.hid hg
  rw [← hg]
  rw [← hg] at hc1
  have HB1 := Lib.hid hb1
  have hl1 := hc1.lt
  clear hg hb1 HY
  have K : ∀ (m : Nat) (A : Option Addr) (c : Nat) (V : List FFile) (X : World), SiS w1 g g m A c V X → Below w.heap.size w X := fun m A c V X h => HB1.out.trans (h.onl.below (by have := HG.out; omega) (by have := HG.out; omega))
  have HK := Lib.hid K
  clear K
  go_upto_if 13 with (first
    | (go_at_call 21; refine (l22Site_any g g w1 hc1).mono ?_; rintro e wa ⟨V, A1, c1, rfl, S⟩)
    | (go_at_call 15; refine (l1Once_any g g 9 (by decide) (by decide) wa S.cur).mono ?_; rintro e wb ⟨⟨bb, rfl⟩, hc2, ho2⟩; have S2 := S.only hc2 ho2; clear S hc2 ho2))
  cases bb with
  | false =>
    go_wp2_with (first
      | (go_at_call 14; refine (l22Path_any g g _ S2.cur).mono ?_; rintro e we ⟨⟨ps, hps, rfl⟩, hc1, ho1⟩; have S3 := S2.only hc1 ho1; clear hc1 ho1 S2)
      | (go_at_call 24; refine (l5Word_any g g _ S3.cur).mono ?_; rintro e wf ⟨⟨ss, hss, rfl⟩, hc1, ho1⟩; have S4 := S3.only hc1 ho1; clear hc1 ho1 S3))
    go_ret3
    exact ⟨⟨V, A1, c1, ps, ss, S4.t, hps, hss, rfl, ownsRow_le S4.own HB1.out.size⟩, HK.out _ _ _ _ _ S4⟩
  | true =>
    go_wp2_with fail
    go_loopw [6, 7] (fun fv kv wr => ∃ (k : Nat) (A : Option Addr) (c : Nat) (V : List FFile), k ≤ 8 ∧ kv = .int .i64 k ∧ fv = .slice A V.length c ∧ SiS w1 g g 9 A c V wr) (fun _ kv _ => 8 - (intOf kv).toNat)
    case atStart => exact ⟨0, _, _, V, by omega, rfl, rfl, S2⟩
    case round =>
      clear S2
      obtain ⟨k, A1, c1, V, hk, rfl, rfl, S⟩ := hrel
      by_cases h0 : k < 8
      · have hk0 : (k : Int) < 8 := by omega
        obtain ⟨_, hsz⟩ := l22_size k (by omega)
        have hks := itoF_size (k : Int) (by omega) (by omega)
        go_wp2_with (first
          | (go_at_call 23; refine (Fmt_spec (k : Int) (by omega) (by omega) _).mono ?_; rintro e wc ⟨rfl, hb⟩; have Sb := S.below hb; clear hb S)
          | (go_at_call 22; refine (Write_tiny 9 V _ _ _ _ (by decide) (by decide) (by omega) (by decide) Sb.t (Nat.le_refl _) Sb.read).mono ?_; rintro e wd ⟨V2, A2, c2, b, ht, rfl, own, hb⟩; have Sc := Sb.put hb own ht; clear own hb ht Sb))
        go_roundw
        case rel => exact ⟨k + 1, _, _, V2, by omega, by go_num, rfl, Sc⟩
        case measure => simp [intOf]; omega
      · have hk0 : ¬ (k : Int) < 8 := by omega
        have S2 := S
        clear S
        go_wp2_with (first
          | (go_at_call 14; refine (l22Path_any g g _ S2.cur).mono ?_; rintro e we ⟨⟨ps, hps, rfl⟩, hc1, ho1⟩; have S3 := S2.only hc1 ho1; clear hc1 ho1 S2)
          | (go_at_call 24; refine (l5Word_any g g _ S3.cur).mono ?_; rintro e wf ⟨⟨ss, hss, rfl⟩, hc1, ho1⟩; have S4 := S3.only hc1 ho1; clear hc1 ho1 S3))
        go_ret3
        exact ⟨⟨V, A1, c1, ps, ss, S4.t, hps, hss, rfl, ownsRow_le S4.own HB1.out.size⟩, HK.out _ _ _ _ _ S4⟩
end Go.Proofs.YtnkidlahmplgnaaDoor
