/- Drawn nodes that are stored into a result's block: DrawNodeAt, DrawSameNode: walks. -/
import Derived.Test.YtdmmnjnbjigdeaaDoorNodeDrew
import Derived.Test.YtdmmnjnbjigdeaaDoorTypedS
namespace Go.Proofs.YtdmmnjnbjigdeaaDoor
open Go.RowKit

def qNd (g : Nat) (R : List Nat) (W0 : World) (M : Nat) : Ty := fun w v => ∃ x k n t An ln cn Ai li ci, v = ndV k n t An ln cn Ai li ci ∧ InN w (fun j => W0.heap.size ≤ j ∧ j < w.heap.size) x (ndV k n t An ln cn Ai li ci) ∧ Nd.size x ≤ M ∧ g < W0.heap.size ∧ ∀ b ∈ R, b < W0.heap.size
theorem inN_kq {g : Nat} {R : List Nat} {W0 w w' : World} {x : Nd} {v : Value} (h : InN w (fun j => W0.heap.size ≤ j ∧ j < w.heap.size) x v) (hk : Chg w w' (g :: R)) (hg : g < W0.heap.size) (hR : ∀ b ∈ R, b < W0.heap.size) : InN w' (fun j => W0.heap.size ≤ j ∧ j < w'.heap.size) x v :=
  InN.keep (fun p hp => hk.cell hp.2 (fun e => by
    rcases List.mem_cons.1 e with e | e
    · have := hp.1; omega
    · have := hR _ e; have := hp.1; omega)) (fun j hj => ⟨hj.1, Nat.lt_of_lt_of_le hj.2 hk.size⟩) _ _ h
theorem staysQ_qNd {g M : Nat} {R : List Nat} {W0 : World} {Good : Nat → World → Prop} : StaysQ g R Good (qNd g R W0 M) := fun _ _ _ hk ⟨x, k, n, t, An, ln, cn, Ai, li, ci, e, h, h2, h3, h4⟩ => ⟨x, k, n, t, An, ln, cn, Ai, li, ci, e, inN_kq h hk.chg h3 h4, h2, h3, h4⟩
theorem inN_chg {W0 w w' : World} {x : Nd} {v : Value} {b : Nat} (h : InN w (fun j => W0.heap.size ≤ j ∧ j < w.heap.size) x v) (hc : Chg w w' [b]) (hb : b < W0.heap.size) : InN w' (fun j => W0.heap.size ≤ j ∧ j < w'.heap.size) x v :=
  InN.keep (fun p hp => hc.cell hp.2 (fun e => by simp at e; have := hp.1; omega)) (fun j hj => ⟨hj.1, Nat.lt_of_lt_of_le hj.2 hc.size⟩) _ _ h
/-- a result's block that holds a drawn node -/
def GoodN (g : Nat) (R : List Nat) (W0 : World) (M : Nat) (b : Nat) (w : World) : Prop := ∃ x k n t An ln cn Ai li ci, w.heap[b]? = some (.cells (ndCells k n t An ln cn Ai li ci) 26 (0, 0)) ∧ InN w (fun j => W0.heap.size ≤ j ∧ j < w.heap.size) x (ndV k n t An ln cn Ai li ci) ∧ Nd.size x ≤ M ∧ g < W0.heap.size ∧ ∀ b ∈ R, b < W0.heap.size
theorem solid_goodN {g M : Nat} {R : List Nat} {W0 : World} : Solid g R (GoodN g R W0 M) := fun _ _ _ hc _ ⟨x, k, n, t, An, ln, cn, Ai, li, ci, h0, h1, h2, h3, h4⟩ =>
  ⟨lt_of_block h0, fun e => ⟨x, k, n, t, An, ln, cn, Ai, li, ci, e.trans h0, inN_kq h1 hc h3 h4, h2, h3, h4⟩⟩

/-- the call drew a node of its own and a text -/
def DrewNT (w : World) (e : Ending) (w' : World) : Prop :=
  ∃ x k n t An ln cn Ai li ci nm, e = .returned (.tuple #[ndV k n t An ln cn Ai li ci, sv nm]) ∧ InN w' (Fresh w w') x (ndV k n t An ln cn Ai li ci) ∧ Nd.size x ≤ 50000 ∧ List.length nm ≤ 100 ∧ Below w.heap.size w w'
/-- the call drew two nodes of its own -/
def DrewNN (w : World) (e : Ending) (w' : World) : Prop :=
  ∃ x k n t An ln cn Ai li ci y k' n' t' An' ln' cn' Ai' li' ci', e = .returned (.tuple #[ndV k n t An ln cn Ai li ci, ndV k' n' t' An' ln' cn' Ai' li' ci']) ∧ InN w' (Fresh w w') x (ndV k n t An ln cn Ai li ci) ∧ InN w' (Fresh w w') y (ndV k' n' t' An' ln' cn' Ai' li' ci') ∧ Nd.size x ≤ 50000 ∧ Nd.size y ≤ 50000 ∧ Below w.heap.size w w'
set_option maxRecDepth 100000 in
set_option maxHeartbeats 4000000 in
theorem spec_DrawSameNode (bs : Tx) (A : Option Addr) (c : Nat) (w : World) (hr : Rd w w.heap.size A (bcells bs)) (hc : bs.length ≤ c) (hm : bs.length ≤ 1048576) :
    Calls Tryd.prog 8 #[.slice A bs.length c] w (DrewNN w) := by
  obtain ⟨hA, hZ0, hY0⟩ := two_boxes w #[.int .i64 0, .int .i64 0, .string ⟨#[]⟩, .slice none 0 0, .slice none 0 0] #[.int .i64 0, .int .i64 0, .string ⟨#[]⟩, .slice none 0 0, .slice none 0 0] 26 26
  have hwz : ((w.alloc (.cells #[.int .i64 0, .int .i64 0, .string ⟨#[]⟩, .slice none 0 0, .slice none 0 0] 26)).alloc (.cells #[.int .i64 0, .int .i64 0, .string ⟨#[]⟩, .slice none 0 0, .slice none 0 0] 26)).heap.size = w.heap.size + 2 := by simp
  have HA := Lib.hid hA
  have HR := Lib.hid (hr.below HA.out)
  have HZ0 := Lib.hid hZ0
  have HY0 := Lib.hid hY0
  have HWZ := Lib.hid hwz
  clear hr hA hZ0 hY0
  go_enter Tryd.func8, Tryd.ntmps8
  go_wp2_with fail
  generalize (w.alloc (.cells #[.int .i64 0, .int .i64 0, .string ⟨#[]⟩, .slice none 0 0, .slice none 0 0] 26)).alloc (.cells #[.int .i64 0, .int .i64 0, .string ⟨#[]⟩, .slice none 0 0, .slice none 0 0] 26) = w0 at *
  refine (spec_l20Open bs w.heap.size A c _ HR.out HA.out.size hc hm).mono ?_
  rintro e w1 ⟨rfl, hr1, hb1⟩
  rw [hwz] at hr1 ⊢
  have HR1 := Lib.hid hr1
  have HB1 := Lib.hid (HA.out.trans (hb1.mono HA.out.size))
  have HZ1 := Lib.hid (bx_keep HZ0.out hb1)
  have HY1 := Lib.hid (bx_keep HY0.out hb1)
  have hl1 : w.heap.size + 2 < w1.heap.size := hr1.lt
  have HCALL := Lib.hid (fun q wx (h : Rdr wx w.heap.size (w.heap.size + 2) q) (hq : q ≤ 10000000) => spec_l20BentNode w.heap.size (w.heap.size + 2) q 9 wx h hq (by omega) (by omega))
  have HSOLID := Lib.hid (solid_goodN (g := w.heap.size + 2) (R := [w.heap.size, w.heap.size + 1]) (W0 := w1) (M := 50000))
  have hgW : w.heap.size + 2 < w1.heap.size := hl1
  have hRW : ∀ b ∈ [w.heap.size, w.heap.size + 1], b < w1.heap.size := by simp; omega
  clear hr1 hb1
  go_wp2_with fail
  refine (HCALL.out 0 w1 HR1.out (by omega)).mono ?_
  rintro e w2 ⟨x9, k9, n9, t9, A9, l9, c9, B9, m9, d9, rfl, hin, hs, hr2, hg2⟩
  have HA2 := Lib.hid ((Below.refl w2.heap.size w2).alloc (Nat.le_refl _) (.cells (ndCells k9 n9 t9 A9 l9 c9 B9 m9 d9) 26))
  have HR2 := Lib.hid (hr2.keep HA2.out)
  have HIN2 := Lib.hid (InN.keep (S' := fun j => w1.heap.size ≤ j ∧ j < (w2.alloc (.cells (ndCells k9 n9 t9 A9 l9 c9 B9 m9 d9) 26)).heap.size) (fun p hp => HA2.out.cell hp.2) (fun j hj => ⟨hj.1, Nat.lt_of_lt_of_le hj.2 HA2.out.size⟩) _ _ hin)
  have HS9 := Lib.hid hs
  have HX2 := Lib.hid (heap_alloc_new w2 (.cells (ndCells k9 n9 t9 A9 l9 c9 B9 m9 d9) 26))
  have HZ2 := Lib.hid (bx_keep ((hg2.block w.heap.size (by omega) (by simp)).trans HZ1.out) HA2.out)
  have HY2 := Lib.hid (bx_keep ((hg2.block (w.heap.size + 1) (by omega) (by simp)).trans HY1.out) HA2.out)
  have hz2 : w1.heap.size ≤ w2.heap.size := hg2.size
  have HB2 := Lib.hid ((HB1.out.trans (grown_to_below hg2 HB1.out.size (fun g h => by injection h with h; omega))).alloc (Nat.le_trans HB1.out.size hz2) (.cells (ndCells k9 n9 t9 A9 l9 c9 B9 m9 d9) 26))
  have hsz2 : (w2.alloc (.cells (ndCells k9 n9 t9 A9 l9 c9 B9 m9 d9) 26)).heap.size = w2.heap.size + 1 := by simp
  clear hin hs hr2 hg2
  go_wp2_with fail
  generalize w2.alloc (.cells (ndCells k9 n9 t9 A9 l9 c9 B9 m9 d9) 26) = wa at *
  refine (spec_pick w.heap.size (w.heap.size + 2) _ 3 wa HR2.out (by omega) (by omega) (by omega)).mono ?_
  rintro e w3 ⟨kp, rfl, hkp, hr3, hg3⟩
  have HR3 := Lib.hid hr3
  have HZ3 := Lib.hid ((hg3.block w.heap.size (by omega) (by simp)).trans HZ2.out)
  have HY3 := Lib.hid ((hg3.block (w.heap.size + 1) (by omega) (by simp)).trans HY2.out)
  have hwa := hg3.size
  have HX3 : Hid (w3.heap[w2.heap.size]? = some (.cells (ndCells k9 n9 t9 A9 l9 c9 B9 m9 d9) 26 (0, 0)) ∧ w2.heap.size ≠ w.heap.size + 2 ∧ w2.heap.size ∉ [w.heap.size, w.heap.size + 1]) :=
    ⟨(hg3.block w2.heap.size (by omega) (by intro e; injection e; omega)).trans HX2.out, by omega, by simp; omega⟩
  have HIN3 : Hid (InN w3 (fun j => w1.heap.size ≤ j ∧ j < w3.heap.size) x9 (ndV k9 n9 t9 A9 l9 c9 B9 m9 d9)) := InN.keep (fun p hp => World.cell?_of_block (hg3.block _ hp.2 (by intro e; injection e; have := hp.1; omega))) (fun j hj => ⟨hj.1, Nat.lt_of_lt_of_le hj.2 hg3.size⟩) _ _ HIN2.out
  have HB3 := Lib.hid (HB2.out.trans (grown_to_below hg3 HB2.out.size (fun g h => by injection h with h; omega)))
  have hWB : w1.heap.size ≤ w3.heap.size := by omega
  clear hr3 hg3
  by_cases hk0 : kp = 0
  · subst hk0
    go_wp2_with fail
    refine wp_region_all 4 (by kernel_rfl) (by kernel_rfl) (by kernel_rfl) (DWQ w3 w.heap.size (w.heap.size + 2) [w.heap.size, w.heap.size + 1] 26 5 (0 + 800000 + 1) 800000) (Kq (w.heap.size + 2) [w.heap.size, w.heap.size + 1] (GoodN (w.heap.size + 2) [w.heap.size, w.heap.size + 1] w1 50000)) (fun i => ([qNd (w.heap.size + 2) [w.heap.size, w.heap.size + 1] w1 50000, qNd (w.heap.size + 2) [w.heap.size, w.heap.size + 1] w1 50000, qGood (GoodN (w.heap.size + 2) [w.heap.size, w.heap.size + 1] w1 50000) w.heap.size, qGood (GoodN (w.heap.size + 2) [w.heap.size, w.heap.size + 1] w1 50000) (w.heap.size + 1)] : List Ty).getD i tAny) ?hWsS2 ?hkeepS2 ?hstepS2 ?hfinsS2
    case hkeepS2 =>
      refine all_lt_succ (all_lt_succ (all_lt_succ (all_lt_succ all_lt_zero ?_) ?_) ?_) ?_
      · exact staysQ_qNd
      · exact staysQ_qNd
      · exact stays_qGood HSOLID.out (by simp)
      · exact stays_qGood HSOLID.out (by simp)
    case hstepS2 =>
      refine all_lt_succ (all_lt_succ (all_lt_succ (all_lt_succ all_lt_zero ?_) ?_) ?_) ?_
      · (intro o ho m a w1 hm hW hb hd K Q hK; obtain rfl := Option.some.inj ho; have e0 : a.tmps[5]?.getD undef = .pointer (some ⟨w2.heap.size, 0, none⟩) := (by rw [hb 5 (by decide +kernel)]; simp); have hbl := hW.old HX3.out; obtain ⟨⟨q0, q1, q2, q3, q4⟩, -⟩ := box_five hbl; go_simp; exact hK _ _ hW.same kq_refl ⟨_, _, _, _, _, _, _, _, _, _, rfl, inN_kq HIN3.out hW.chg hgW hRW, HS9.out, hgW, hRW⟩)
      · (intro o ho m a w1 hm hW hb hd K Q hK; obtain rfl := Option.some.inj ho; have e0 : a.tmps[5]?.getD undef = .pointer (some ⟨w2.heap.size, 0, none⟩) := (by rw [hb 5 (by decide +kernel)]; simp); have hbl := hW.old HX3.out; obtain ⟨⟨q0, q1, q2, q3, q4⟩, -⟩ := box_five hbl; go_simp; exact hK _ _ hW.same kq_refl ⟨_, _, _, _, _, _, _, _, _, _, rfl, inN_kq HIN3.out hW.chg hgW hRW, HS9.out, hgW, hRW⟩)
      · (intro o ho m a w1 hm hW hb hd K Q hK; obtain rfl := Option.some.inj ho; obtain ⟨x9, k9, n9, t9, A9, l9, c9, B9, m9, d9, e1, hin9, hs9, hg9, hl9⟩ := (hd 0 (by kernel_rfl) 13 rfl); have e1 := slotE e1; have e0 : a.tmps[2]?.getD undef = .pointer (some ⟨w.heap.size, 0, none⟩) := (by rw [hb 2 (by decide +kernel)]; simp); have hbR : w.heap.size ∈ [w.heap.size, w.heap.size + 1] := (by simp); obtain ⟨cs, hcs, hcn⟩ := hW.box _ hbR; obtain ⟨z0, z1, z2, z3, z4, rfl⟩ := size_five hcn; obtain ⟨⟨r0, r1, r2, r3, r4⟩, r5, r6, r7, r8, r9⟩ := box_five hcs; go_simp; have hst := chg_set5 (v0 := .int .i64 k9) (v1 := .int .i64 n9) (v2 := sv t9) (v3 := .slice A9 l9 c9) (v4 := .slice B9 m9 d9) hcs; exact hK undef _ (hW.stored hbR hst.1 hst.2 rfl) (kq_good hbR hst.1 ⟨x9, k9, n9, t9, A9, l9, c9, B9, m9, d9, hst.2, inN_chg hin9 hst.1 (hl9 _ hbR), hs9, hg9, hl9⟩) ⟨x9, k9, n9, t9, A9, l9, c9, B9, m9, d9, hst.2, inN_chg hin9 hst.1 (hl9 _ hbR), hs9, hg9, hl9⟩)
      · (intro o ho m a w1 hm hW hb hd K Q hK; obtain rfl := Option.some.inj ho; obtain ⟨x9, k9, n9, t9, A9, l9, c9, B9, m9, d9, e1, hin9, hs9, hg9, hl9⟩ := (hd 1 (by kernel_rfl) 14 rfl); have e1 := slotE e1; have e0 : a.tmps[3]?.getD undef = .pointer (some ⟨w.heap.size + 1, 0, none⟩) := (by rw [hb 3 (by decide +kernel)]; simp); have hbR : w.heap.size + 1 ∈ [w.heap.size, w.heap.size + 1] := (by simp); obtain ⟨cs, hcs, hcn⟩ := hW.box _ hbR; obtain ⟨z0, z1, z2, z3, z4, rfl⟩ := size_five hcn; obtain ⟨⟨r0, r1, r2, r3, r4⟩, r5, r6, r7, r8, r9⟩ := box_five hcs; go_simp; have hst := chg_set5 (v0 := .int .i64 k9) (v1 := .int .i64 n9) (v2 := sv t9) (v3 := .slice A9 l9 c9) (v4 := .slice B9 m9 d9) hcs; exact hK undef _ (hW.stored hbR hst.1 hst.2 rfl) (kq_good hbR hst.1 ⟨x9, k9, n9, t9, A9, l9, c9, B9, m9, d9, hst.2, inN_chg hin9 hst.1 (hl9 _ hbR), hs9, hg9, hl9⟩) ⟨x9, k9, n9, t9, A9, l9, c9, B9, m9, d9, hst.2, inN_chg hin9 hst.1 (hl9 _ hbR), hs9, hg9, hl9⟩)
    case hWsS2 => exact ⟨HR3.out.keep (Below.refl _ _).drew, (Chg.refl _ _).drew, by have := HR3.out.lt; omega, by simp <;> omega, by simp <;> omega, by simp, by simp; exact ⟨⟨_, HZ3.out, rfl⟩, ⟨_, HY3.out, rfl⟩⟩⟩
    case hfinsS2 =>
      intro vs w5 hW hF
      simp only [putAll, hdst, List.getElem?_cons_succ, List.getElem?_cons_zero, Option.bind, List.drop_succ_cons, List.drop_zero, Act.put]
      obtain ⟨x, k, n, t, An, ln, cn, Ai, li, ci, h0, h1, h2, -, -⟩ := hF 2 (by omega)
      obtain ⟨y, k', n', t', An', ln', cn', Ai', li', ci', h5, h6, h7, -, -⟩ := hF 3 (by omega)
      have HI := Lib.hid h1
      have HJ := Lib.hid h6
      have HBW := Lib.hid (HB3.out.trans (hW.chg.below (B := w.heap.size) HB3.out.size (by simp <;> omega)))
      obtain ⟨⟨f0, f1, f2, f3, f4⟩, -⟩ := box_five h0
      obtain ⟨⟨g0, g1, g2, g3, g4⟩, -⟩ := box_five h5
      have HS2 := Lib.hid h2
      have HS7 := Lib.hid h7
      clear h0 h1 h2 h5 h6 h7 hF hW
      go_simp
      go_wp2
      refine bodyPost_ret (v := .tuple #[ndV k n t An ln cn Ai li ci, ndV k' n' t' An' ln' cn' Ai' li' ci']) (by simp [results, Tryd.results8, go_sem, *]) rfl ?_
      exact ⟨x, k, n, t, An, ln, cn, Ai, li, ci, y, k', n', t', An', ln', cn', Ai', li', ci', rfl, InN.keep (fun _ _ => rfl) (fun j hj => ⟨by have := hj.1; omega, hj.2⟩) _ _ HI.out, InN.keep (fun _ _ => rfl) (fun j hj => ⟨by have := hj.1; omega, hj.2⟩) _ _ HJ.out, HS2.out, HS7.out, HBW.out⟩
  · have hk1 : (kp == 0) = false := by simpa using hk0
    go_wp2_with fail
    refine wp_region_all 5 (by kernel_rfl) (by kernel_rfl) (by kernel_rfl) (DWQ w3 w.heap.size (w.heap.size + 2) [w.heap.size, w.heap.size + 1] 26 5 (0 + 800000 + 1) 800000) (Kq (w.heap.size + 2) [w.heap.size, w.heap.size + 1] (GoodN (w.heap.size + 2) [w.heap.size, w.heap.size + 1] w1 50000)) (fun i => ([qNd (w.heap.size + 2) [w.heap.size, w.heap.size + 1] w1 50000, tIs (.pointer (some ⟨w.heap.size + 2, 0, none⟩)), qNd (w.heap.size + 2) [w.heap.size, w.heap.size + 1] w1 50000, qGood (GoodN (w.heap.size + 2) [w.heap.size, w.heap.size + 1] w1 50000) w.heap.size, qGood (GoodN (w.heap.size + 2) [w.heap.size, w.heap.size + 1] w1 50000) (w.heap.size + 1)] : List Ty).getD i tAny) ?hWsS3 ?hkeepS3 ?hstepS3 ?hfinsS3
    case hkeepS3 =>
      refine all_lt_succ (all_lt_succ (all_lt_succ (all_lt_succ (all_lt_succ all_lt_zero ?_) ?_) ?_) ?_) ?_
      · exact staysQ_qNd
      · exact staysQ_tIs
      · exact staysQ_qNd
      · exact stays_qGood HSOLID.out (by simp)
      · exact stays_qGood HSOLID.out (by simp)
    case hstepS3 =>
      refine all_lt_succ (all_lt_succ (all_lt_succ (all_lt_succ (all_lt_succ all_lt_zero ?_) ?_) ?_) ?_) ?_
      · (intro o ho m a w1 hm hW hb hd K Q hK; obtain rfl := Option.some.inj ho; have e0 : a.tmps[5]?.getD undef = .pointer (some ⟨w2.heap.size, 0, none⟩) := (by rw [hb 5 (by decide +kernel)]; simp); have hbl := hW.old HX3.out; obtain ⟨⟨q0, q1, q2, q3, q4⟩, -⟩ := box_five hbl; go_simp; exact hK _ _ hW.same kq_refl ⟨_, _, _, _, _, _, _, _, _, _, rfl, inN_kq HIN3.out hW.chg hgW hRW, HS9.out, hgW, hRW⟩)
      · (intro o ho m a w1 hm hW hb hd K Q hK; obtain rfl := Option.some.inj ho; have e0 : a.tmps[4]?.getD undef = (.pointer (some ⟨w.heap.size + 2, 0, none⟩)) := (by rw [hb 4 (by decide +kernel)]; simp); go_simp; exact hK _ _ hW.same kq_refl rfl)
      · (intro o ho m a w1 hm hW hb hd K Q hK; obtain rfl := Option.some.inj ho; have e1 := slotE (hd 1 (by kernel_rfl) 16 rfl); go_simp; have hm2 := Nat.mul_le_mul_right (800000) (Nat.le_of_lt hm); refine (HCALL.out _ w1 hW.rdr (by omega)).mono ?_; rintro e w2 ⟨x9, k9, n9, t9, A9, l9, c9, B9, m9, d9, rfl, hin9, hs9, hr2, hg2⟩; exact hK _ _ (hW.call (hr2.more (by rw [Nat.succ_mul m]; omega)) hg2) (kq_kp hg2 hW.ne) ⟨x9, k9, n9, t9, A9, l9, c9, B9, m9, d9, rfl, InN.keep (fun _ _ => rfl) (fun j h => ⟨Nat.le_trans hWB (Nat.le_trans hW.chg.size h.1), h.2⟩) _ _ hin9, hs9, hgW, hRW⟩)
      · (intro o ho m a w1 hm hW hb hd K Q hK; obtain rfl := Option.some.inj ho; obtain ⟨x9, k9, n9, t9, A9, l9, c9, B9, m9, d9, e1, hin9, hs9, hg9, hl9⟩ := (hd 0 (by kernel_rfl) 15 rfl); have e1 := slotE e1; have e0 : a.tmps[2]?.getD undef = .pointer (some ⟨w.heap.size, 0, none⟩) := (by rw [hb 2 (by decide +kernel)]; simp); have hbR : w.heap.size ∈ [w.heap.size, w.heap.size + 1] := (by simp); obtain ⟨cs, hcs, hcn⟩ := hW.box _ hbR; obtain ⟨z0, z1, z2, z3, z4, rfl⟩ := size_five hcn; obtain ⟨⟨r0, r1, r2, r3, r4⟩, r5, r6, r7, r8, r9⟩ := box_five hcs; go_simp; have hst := chg_set5 (v0 := .int .i64 k9) (v1 := .int .i64 n9) (v2 := sv t9) (v3 := .slice A9 l9 c9) (v4 := .slice B9 m9 d9) hcs; exact hK undef _ (hW.stored hbR hst.1 hst.2 rfl) (kq_good hbR hst.1 ⟨x9, k9, n9, t9, A9, l9, c9, B9, m9, d9, hst.2, inN_chg hin9 hst.1 (hl9 _ hbR), hs9, hg9, hl9⟩) ⟨x9, k9, n9, t9, A9, l9, c9, B9, m9, d9, hst.2, inN_chg hin9 hst.1 (hl9 _ hbR), hs9, hg9, hl9⟩)
      · (intro o ho m a w1 hm hW hb hd K Q hK; obtain rfl := Option.some.inj ho; obtain ⟨x9, k9, n9, t9, A9, l9, c9, B9, m9, d9, e1, hin9, hs9, hg9, hl9⟩ := (hd 2 (by kernel_rfl) 17 rfl); have e1 := slotE e1; have e0 : a.tmps[3]?.getD undef = .pointer (some ⟨w.heap.size + 1, 0, none⟩) := (by rw [hb 3 (by decide +kernel)]; simp); have hbR : w.heap.size + 1 ∈ [w.heap.size, w.heap.size + 1] := (by simp); obtain ⟨cs, hcs, hcn⟩ := hW.box _ hbR; obtain ⟨z0, z1, z2, z3, z4, rfl⟩ := size_five hcn; obtain ⟨⟨r0, r1, r2, r3, r4⟩, r5, r6, r7, r8, r9⟩ := box_five hcs; go_simp; have hst := chg_set5 (v0 := .int .i64 k9) (v1 := .int .i64 n9) (v2 := sv t9) (v3 := .slice A9 l9 c9) (v4 := .slice B9 m9 d9) hcs; exact hK undef _ (hW.stored hbR hst.1 hst.2 rfl) (kq_good hbR hst.1 ⟨x9, k9, n9, t9, A9, l9, c9, B9, m9, d9, hst.2, inN_chg hin9 hst.1 (hl9 _ hbR), hs9, hg9, hl9⟩) ⟨x9, k9, n9, t9, A9, l9, c9, B9, m9, d9, hst.2, inN_chg hin9 hst.1 (hl9 _ hbR), hs9, hg9, hl9⟩)
    case hWsS3 => exact ⟨HR3.out.keep (Below.refl _ _).drew, (Chg.refl _ _).drew, by have := HR3.out.lt; omega, by simp <;> omega, by simp <;> omega, by simp, by simp; exact ⟨⟨_, HZ3.out, rfl⟩, ⟨_, HY3.out, rfl⟩⟩⟩
    case hfinsS3 =>
      intro vs w5 hW hF
      simp only [putAll, hdst, List.getElem?_cons_succ, List.getElem?_cons_zero, Option.bind, List.drop_succ_cons, List.drop_zero, Act.put]
      obtain ⟨x, k, n, t, An, ln, cn, Ai, li, ci, h0, h1, h2, -, -⟩ := hF 3 (by omega)
      obtain ⟨y, k', n', t', An', ln', cn', Ai', li', ci', h5, h6, h7, -, -⟩ := hF 4 (by omega)
      have HI := Lib.hid h1
      have HJ := Lib.hid h6
      have HBW := Lib.hid (HB3.out.trans (hW.chg.below (B := w.heap.size) HB3.out.size (by simp <;> omega)))
      obtain ⟨⟨f0, f1, f2, f3, f4⟩, -⟩ := box_five h0
      obtain ⟨⟨g0, g1, g2, g3, g4⟩, -⟩ := box_five h5
      have HS2 := Lib.hid h2
      have HS7 := Lib.hid h7
      clear h0 h1 h2 h5 h6 h7 hF hW
      go_simp
      go_wp2
      refine bodyPost_ret (v := .tuple #[ndV k n t An ln cn Ai li ci, ndV k' n' t' An' ln' cn' Ai' li' ci']) (by simp [results, Tryd.results8, go_sem, *]) rfl ?_
      exact ⟨x, k, n, t, An, ln, cn, Ai, li, ci, y, k', n', t', An', ln', cn', Ai', li', ci', rfl, InN.keep (fun _ _ => rfl) (fun j hj => ⟨by have := hj.1; omega, hj.2⟩) _ _ HI.out, InN.keep (fun _ _ => rfl) (fun j hj => ⟨by have := hj.1; omega, hj.2⟩) _ _ HJ.out, HS2.out, HS7.out, HBW.out⟩
end Go.Proofs.YtdmmnjnbjigdeaaDoor
