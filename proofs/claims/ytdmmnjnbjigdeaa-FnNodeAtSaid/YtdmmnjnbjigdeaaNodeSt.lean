/- Drawn nodes that are stored into a result's block: DrawNodeAt, DrawSameNode: walks. -/
import Derived.Test.YtdmmnjnbjigdeaaNodeDrew
import Derived.Test.YtdmmnjnbjigdeaaTypedS
namespace Go.Proofs.Ytdmmnjnbjigdeaa
open Go.RowKit

def qNd (g : Nat) (R : List Nat) (W0 : World) (M : Nat) : Ty := fun w v => ∃ x k n t An ln cn Ai li ci, v = ndV k n t An ln cn Ai li ci ∧ InN w (fun j => W0.heap.size ≤ j ∧ j < w.heap.size) x (ndV k n t An ln cn Ai li ci) ∧ Nd.size x ≤ M ∧ g < W0.heap.size ∧ ∀ b ∈ R, b < W0.heap.size
theorem inN_kq {g : Nat} {R : List Nat} {W0 w w' : World} {x : Nd} {v : Value} (h : InN w (fun j => W0.heap.size ≤ j ∧ j < w.heap.size) x v) (hk : Chg w w' (g :: R)) (hg : g < W0.heap.size) (hR : ∀ b ∈ R, b < W0.heap.size) : InN w' (fun j => W0.heap.size ≤ j ∧ j < w'.heap.size) x v :=
  InN.keep (fun p hp => hk.cell hp.2 (fun e => by
    rcases List.mem_cons.1 e with e | e
    · have := hp.1; omega
    · have := hR _ e; have := hp.1; omega)) (fun j hj => ⟨hj.1, Nat.lt_of_lt_of_le hj.2 hk.size⟩) _ _ h
theorem staysQ_qNd {g M : Nat} {R : List Nat} {W0 : World} {Good : Nat → World → Prop} : StaysQ g R Good (qNd g R W0 M) := fun _ _ _ hk ⟨x, k, n, t, An, ln, cn, Ai, li, ci, e, h, h2, h3, h4⟩ => ⟨x, k, n, t, An, ln, cn, Ai, li, ci, e, inN_kq h hk.chg h3 h4, h2, h3, h4⟩
theorem inN_chg {W0 w w' : World} {x : Nd} {v : Value} {b : Nat} (h : InN w (fun j => W0.heap.size ≤ j ∧ j < w.heap.size) x v) (hc : Chg w w' [b]) (hb : b < W0.heap.size) : InN w' (fun j => W0.heap.size ≤ j ∧ j < w'.heap.size) x v :=
  InN.keep (fun p hp => hc.cell hp.2 (fun e => by simp at e; have := hp.1; omega)) (fun j hj => ⟨hj.1, Nat.lt_of_lt_of_le hj.2 hc.size⟩) _ _ h
/-- a result's block that holds a drawn node -/
def GoodN (g : Nat) (R : List Nat) (W0 : World) (M : Nat) (b : Nat) (w : World) : Prop := ∃ x k n t An ln cn Ai li ci, w.heap[b]? = some (.cells (ndCells k n t An ln cn Ai li ci) 30 (0, 0)) ∧ InN w (fun j => W0.heap.size ≤ j ∧ j < w.heap.size) x (ndV k n t An ln cn Ai li ci) ∧ Nd.size x ≤ M ∧ g < W0.heap.size ∧ ∀ b ∈ R, b < W0.heap.size
theorem solid_goodN {g M : Nat} {R : List Nat} {W0 : World} : Solid g R (GoodN g R W0 M) := fun _ _ _ hc _ ⟨x, k, n, t, An, ln, cn, Ai, li, ci, h0, h1, h2, h3, h4⟩ =>
  ⟨lt_of_block h0, fun e => ⟨x, k, n, t, An, ln, cn, Ai, li, ci, e.trans h0, inN_kq h1 hc h3 h4, h2, h3, h4⟩⟩

/-- the call drew a node of its own and a text -/
def DrewNT (w : World) (e : Ending) (w' : World) : Prop :=
  ∃ x k n t An ln cn Ai li ci nm, e = .returned (.tuple #[ndV k n t An ln cn Ai li ci, sv nm]) ∧ InN w' (Fresh w w') x (ndV k n t An ln cn Ai li ci) ∧ Nd.size x ≤ 50000 ∧ List.length nm ≤ 100 ∧ Below w.heap.size w w'
set_option maxRecDepth 100000 in
set_option maxHeartbeats 4000000 in
theorem spec_DrawNodeAt (bs : Tx) (A : Option Addr) (c : Nat) (w : World) (hr : Rd w w.heap.size A (bcells bs)) (hc : bs.length ≤ c) (hm : bs.length ≤ 1048576) :
    Calls Try.prog 17 #[.slice A bs.length c] w (DrewNT w) := by
  have HA := Lib.hid ((Below.refl w.heap.size w).alloc (Nat.le_refl _) (.cells #[.int .i64 0, .int .i64 0, .string ⟨#[]⟩, .slice none 0 0, .slice none 0 0] 30))
  have HR := Lib.hid (hr.below HA.out)
  have HZ0 := Lib.hid (heap_alloc_new w (.cells #[.int .i64 0, .int .i64 0, .string ⟨#[]⟩, .slice none 0 0, .slice none 0 0] 30))
  clear hr
  go_enter Try.func17, Try.ntmps17
  go_wp2_with fail
  refine (spec_l20Open bs w.heap.size A c _ HR.out HA.out.size hc hm).mono ?_
  rintro e w1 ⟨rfl, hr1, hb1⟩
  have HR1 : Hid (Rdr w1 w.heap.size (w.heap.size + 1) 0) := by show Rdr _ _ _ _; simpa using hr1
  have HB1 := Lib.hid (HA.out.trans (hb1.mono HA.out.size))
  have HZ1 := Lib.hid ((hb1.block w.heap.size (by simp)).trans HZ0.out)
  have hl1 : w.heap.size + 1 < w1.heap.size := HR1.out.lt
  have hwz : (w.alloc (.cells #[.int .i64 0, .int .i64 0, .string ⟨#[]⟩, .slice none 0 0, .slice none 0 0] 30)).heap.size = w.heap.size + 1 := by simp
  have HCALL := Lib.hid (fun q wx (h : Rdr wx w.heap.size (w.heap.size + 1) q) (hq : q ≤ 10000000) => spec_l20BentNode w.heap.size (w.heap.size + 1) q 9 wx h hq (by omega) (by omega))
  have HSOLID := Lib.hid (solid_goodN (g := w.heap.size + 1) (R := [w.heap.size]) (W0 := w1) (M := 50000))
  clear hr1 hb1
  go_wp2_with fail
  refine wp_region_all 9 (by kernel_rfl) (by kernel_rfl) (by kernel_rfl) (DWQ w1 w.heap.size (w.heap.size + 1) [w.heap.size] 30 5 0 800000) (Kq (w.heap.size + 1) [w.heap.size] (GoodN (w.heap.size + 1) [w.heap.size] w1 50000)) (fun i => ([tIs (.pointer (some ⟨w.heap.size + 1, 0, none⟩)), qNd (w.heap.size + 1) [w.heap.size] w1 50000, qRow (w.heap.size + 1) [w.heap.size] 4 (cTxt 100 4), tIs (.pointer (some ⟨w.heap.size + 1, 0, none⟩)), tNum 4, qAdrS (w.heap.size + 1) [w.heap.size] 100, tTxt 100, qGood (GoodN (w.heap.size + 1) [w.heap.size] w1 50000) w.heap.size, tTxt 100] : List Ty).getD i tAny) ?hWsS1 ?hkeepS1 ?hstepS1 ?hfinsS1
  case hkeepS1 =>
    refine all_lt_succ (all_lt_succ (all_lt_succ (all_lt_succ (all_lt_succ (all_lt_succ (all_lt_succ (all_lt_succ (all_lt_succ all_lt_zero ?_) ?_) ?_) ?_) ?_) ?_) ?_) ?_) ?_
    · exact staysQ_tIs
    · exact staysQ_qNd
    · exact staysQ_qRow
    · exact staysQ_tIs
    · exact staysQ_tNum
    · exact staysQ_qAdrS
    · exact staysQ_tTxt
    · exact stays_qGood HSOLID.out (by simp)
    · exact staysQ_tTxt
  case hstepS1 =>
    refine all_lt_succ (all_lt_succ (all_lt_succ (all_lt_succ (all_lt_succ (all_lt_succ (all_lt_succ (all_lt_succ (all_lt_succ all_lt_zero ?_) ?_) ?_) ?_) ?_) ?_) ?_) ?_) ?_
    · (intro o ho m a w1 hm hW hb hd K Q hK; obtain rfl := Option.some.inj ho; have e0 : a.tmps[4]?.getD undef = (.pointer (some ⟨w.heap.size + 1, 0, none⟩)) := (by rw [hb 4 (by decide +kernel)]; simp); go_simp; exact hK _ _ hW.same kq_refl rfl)
    · (intro o ho m a w1 hm hW hb hd K Q hK; obtain rfl := Option.some.inj ho; have e1 := slotE (hd 0 (by kernel_rfl) 7 rfl); go_simp; have hm2 := Nat.mul_le_mul_right (800000) (Nat.le_of_lt hm); refine (HCALL.out _ w1 hW.rdr (by omega)).mono ?_; rintro e w2 ⟨x9, k9, n9, t9, A9, l9, c9, B9, m9, d9, rfl, hin9, hs9, hr2, hg2⟩; exact hK _ _ (hW.call (hr2.more (by rw [Nat.succ_mul m]; omega)) hg2) (kq_kp hg2 hW.ne) ⟨x9, k9, n9, t9, A9, l9, c9, B9, m9, d9, rfl, InN.keep (fun _ _ => rfl) (fun j h => ⟨Nat.le_trans hW.chg.size h.1, h.2⟩) _ _ hin9, hs9, hW.gt, hW.lt⟩)
    · (intro o ho m a w1 hm hW hb hd K Q hK; obtain rfl := Option.some.inj ho; go_simp; exact hK _ _ (hW.next ((Below.refl _ _).alloc (Nat.le_refl _) _)) (kq_below ((Below.refl _ _).alloc (Nat.le_refl _) _)) ⟨_, _, _, _, rfl, hW.new, hW.new2, heap_alloc_new w1 _, by decide +kernel⟩)
    · (intro o ho m a w1 hm hW hb hd K Q hK; obtain rfl := Option.some.inj ho; have e0 : a.tmps[4]?.getD undef = (.pointer (some ⟨w.heap.size + 1, 0, none⟩)) := (by rw [hb 4 (by decide +kernel)]; simp); go_simp; exact hK _ _ hW.same kq_refl rfl)
    · (intro o ho m a w1 hm hW hb hd K Q hK; obtain rfl := Option.some.inj ho; have e1 := slotE (hd 3 (by kernel_rfl) 10 rfl); go_simp; have hm2 := Nat.mul_le_mul_right (800000) (Nat.le_of_lt hm); refine (spec_pick _ _ _ _ w1 hW.rdr (by omega) (by omega) (by omega)).mono ?_; rintro e w2 ⟨k, rfl, hk, hr2, hg2⟩; exact hK _ _ (hW.call (hr2.more (by rw [Nat.succ_mul m]; omega)) hg2) (kq_kp hg2 hW.ne) ⟨k, rfl, hk⟩)
    · (intro o ho m a w1 hm hW hb hd K Q hK; obtain rfl := Option.some.inj ho; obtain ⟨b, cs, t, fr, e1, hbg, hbq, hh, hC⟩ := (hd 2 (by kernel_rfl) 9 rfl); obtain ⟨k, e2, hk⟩ := (hd 4 (by kernel_rfl) 11 rfl); have e1 := slotE e1; have e2 := slotE e2; have hk2 := num_lt hk (by omega); go_simp; exact hK _ _ hW.same kq_refl (rowQ_txt hbg hbq hh hC (by omega)))
    · (intro o ho m a w1 hm hW hb hd K Q hK; obtain rfl := Option.some.inj ho; obtain ⟨b, o, x, e1, hbg, hbq, hc, hx⟩ := (hd 5 (by kernel_rfl) 12 rfl); have e1 := slotE e1; go_simp; exact hK _ _ hW.same kq_refl ⟨x, rfl, hx⟩)
    · (intro o ho m a w1 hm hW hb hd K Q hK; obtain rfl := Option.some.inj ho; obtain ⟨x9, k9, n9, t9, A9, l9, c9, B9, m9, d9, e1, hin9, hs9, hg9, hl9⟩ := (hd 1 (by kernel_rfl) 8 rfl); have e1 := slotE e1; have e0 : a.tmps[2]?.getD undef = .pointer (some ⟨w.heap.size, 0, none⟩) := (by rw [hb 2 (by decide +kernel)]; simp); have hbR : w.heap.size ∈ [w.heap.size] := (by simp); obtain ⟨cs, hcs, hcn⟩ := hW.box _ hbR; obtain ⟨z0, z1, z2, z3, z4, rfl⟩ := size_five hcn; obtain ⟨⟨r0, r1, r2, r3, r4⟩, r5, r6, r7, r8, r9⟩ := box_five hcs; go_simp; have hst := chg_set5 (v0 := .int .i64 k9) (v1 := .int .i64 n9) (v2 := sv t9) (v3 := .slice A9 l9 c9) (v4 := .slice B9 m9 d9) hcs; exact hK undef _ (hW.stored hbR hst.1 hst.2 rfl) (kq_good hbR hst.1 ⟨x9, k9, n9, t9, A9, l9, c9, B9, m9, d9, hst.2, inN_chg hin9 hst.1 (hl9 _ hbR), hs9, hg9, hl9⟩) ⟨x9, k9, n9, t9, A9, l9, c9, B9, m9, d9, hst.2, inN_chg hin9 hst.1 (hl9 _ hbR), hs9, hg9, hl9⟩)
    · (intro o ho m a w1 hm hW hb hd K Q hK; obtain rfl := Option.some.inj ho; obtain ⟨x, e1, hx⟩ := (hd 6 (by kernel_rfl) 13 rfl); have e1 := slotE e1; go_simp; exact hK _ _ hW.same kq_refl ⟨x, rfl, hx⟩)
  case hWsS1 => exact ⟨HR1.out.keep (Below.refl _ _).drew, (Chg.refl _ _).drew, hl1, by simp; omega, by simp, by simp, by simp; exact ⟨_, HZ1.out, rfl⟩⟩
  case hfinsS1 =>
    intro vs w3 hW hF
    simp only [putAll, hdst, List.getElem?_cons_succ, List.getElem?_cons_zero, Option.bind, List.drop_succ_cons, List.drop_zero, Act.put]
    obtain ⟨x, k, n, t, An, ln, cn, Ai, li, ci, h0, h1, h2, h3, h4⟩ := hF 7 (by omega)
    obtain ⟨nm, h8, hnm⟩ := hF 8 (by omega)
    rw [h8]
    have HI := Lib.hid h1
    have HBW := Lib.hid (HB1.out.trans (hW.chg.below (B := w.heap.size) HB1.out.size (by simp)))
    obtain ⟨⟨f0, f1, f2, f3, f4⟩, -⟩ := box_five h0
    have HS2 := Lib.hid h2
    clear h0 h1 h2 h3 h4 hF h8 hW
    go_simp
    go_wp2
    refine bodyPost_ret (v := .tuple #[ndV k n t An ln cn Ai li ci, sv nm]) (by simp [results, Try.results17, go_sem, *]) rfl ?_
    exact ⟨x, k, n, t, An, ln, cn, Ai, li, ci, nm, rfl, InN.keep (fun _ _ => rfl) (fun j hj => ⟨by have := hj.1; omega, hj.2⟩) _ _ HI.out, HS2.out, hnm, HBW.out⟩
end Go.Proofs.Ytdmmnjnbjigdeaa
