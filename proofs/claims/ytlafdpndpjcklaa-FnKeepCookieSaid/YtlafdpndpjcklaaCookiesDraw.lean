/- Drawn cookies: walks. -/
import Derived.Test.YtlafdpndpjcklaaDrawC
namespace Go.Proofs.Ytlafdpndpjcklaa
open Go.RowKit

set_option maxRecDepth 100000 in
set_option maxHeartbeats 800000 in
theorem spec_l20Cookies (B g q : Nat) (n : Int) (w : World) (h : Rdr w B g q) (hq : q ≤ 100000000) (hn : n ≤ 1000000000) (hn0 : -1000000000 ≤ n) :
    Calls Try.prog 11 #[.pointer (some ⟨g, 0, none⟩), .int .i64 n] w (DrawnCs w B g q 200) := by
  have hlt := h.lt
  have H := Lib.hid h
  clear h
  go_enter Try.func11, Try.ntmps11
  go_wp2_with fail
  refine (spec_pick B g q 5 _ (H.out.keep ((Below.refl _ _).alloc (Nat.le_refl _) _)) (by omega) (by omega) (by omega)).mono ?_
  rintro e w1 ⟨k0, rfl, hk0, hr1, hg1⟩
  have hz1 : w.heap.size < w1.heap.size := by have := hg1.size; simp at this; omega
  have hown1 : OwnC w1 w.heap.size (some ⟨w.heap.size, 0, none⟩) 0 [] := (ownC_empty w w.heap.size (Nat.le_refl _)).kept hg1 (.inr (by simp [Value.ownBlock]; omega))
  have HR1 := Lib.hid hr1
  have HG1 := Lib.hid (grown_trans (World.grownBy_alloc w _ _) hg1)
  have HO1 := Lib.hid hown1
  have hk5 : k0 ≤ 5 := by omega
  clear hr1 hg1 hown1 hk0
  go_wp2
  go_loopw [5, 6] (fun v i wr => ∃ (k : Nat) (A : Option Addr) (c : Nat) (ps : List Ck), i = .int .i64 (k : Int) ∧ v = .slice A ps.length c ∧ k + ps.length ≤ 5 ∧ OwnC wr w.heap.size A c ps ∧ SmallC ps ∧ Rdr wr B g (q + 1 + 20 * ps.length) ∧ w.grownBy wr (some g)) (fun _ i _ => (intOf i).toNat)
  case atStart => exact ⟨k0, _, 0, [], rfl, rfl, by simpa using hk5, HO1.out, ⟨by simp, fun p hp => by cases hp⟩, HR1.out, HG1.out⟩
  case round =>
    obtain ⟨k, A, c, ps, rfl, rfl, hkn, ho, hsm, hrd, hgr⟩ := hrel
    have HO := Lib.hid ho
    have HSM := Lib.hid hsm
    have HRD := Lib.hid hrd
    have HGR := Lib.hid hgr
    clear ho hsm hrd hgr
    by_cases hk : 0 < k
    · go_wp2_with fail
      refine wp_region_typed 16 (by kernel_rfl) (by kernel_rfl) (DW wr B g (q + 1 + 20 * ps.length)) (Kp g) (fun i => ([tIs (.slice A ps.length c), tIs (.slice A ps.length c), tIs (.int .i64 ps.length), tIs (.int .i64 (IntKind.i64.wrap (97 + ps.length))), tByte, tOneB g, tTxt 100, tRow g 5 (cTxt 100 5), tIs (.pointer (some ⟨g, 0, none⟩)), tNum 5, tAdrS g 100, tTxt 100, tIs (.pointer (some ⟨g, 0, none⟩)), tNum 40, tCk 100, tOneC g 100 25] : List Ty).getD i tAny) ?hW ?hkeep ?hstep ?hfin
      case hkeep =>
        refine all_lt_succ (all_lt_succ (all_lt_succ (all_lt_succ (all_lt_succ (all_lt_succ (all_lt_succ (all_lt_succ (all_lt_succ (all_lt_succ (all_lt_succ (all_lt_succ (all_lt_succ (all_lt_succ (all_lt_succ (all_lt_succ all_lt_zero ?_) ?_) ?_) ?_) ?_) ?_) ?_) ?_) ?_) ?_) ?_) ?_) ?_) ?_) ?_) ?_
        · exact stays_is _
        · exact stays_is _
        · exact stays_is _
        · exact stays_is _
        · exact stays_tByte
        · exact stays_tOneB
        · exact stays_txt _
        · exact stays_row _ _
        · exact stays_is _
        · exact stays_num _
        · exact stays_adrS _
        · exact stays_txt _
        · exact stays_is _
        · exact stays_num _
        · exact stays_tCk
        · exact stays_tOneC
      case hstep =>
        refine all_lt_succ (all_lt_succ (all_lt_succ (all_lt_succ (all_lt_succ (all_lt_succ (all_lt_succ (all_lt_succ (all_lt_succ (all_lt_succ (all_lt_succ (all_lt_succ (all_lt_succ (all_lt_succ (all_lt_succ (all_lt_succ all_lt_zero ?_) ?_) ?_) ?_) ?_) ?_) ?_) ?_) ?_) ?_) ?_) ?_) ?_) ?_) ?_) ?_
        · (intro o ho m a w1 hm hW hb hd K Q hK; obtain rfl := Option.some.inj ho; have e0 : a.tmps[5]?.getD undef = (.slice A ps.length c) := (by rw [hb 5 (by decide +kernel)]; simp); go_simp; exact hK _ _ hW.same (kp_refl _) rfl)
        · (intro o ho m a w1 hm hW hb hd K Q hK; obtain rfl := Option.some.inj ho; have e0 : a.tmps[5]?.getD undef = (.slice A ps.length c) := (by rw [hb 5 (by decide +kernel)]; simp); go_simp; exact hK _ _ hW.same (kp_refl _) rfl)
        · (intro o ho m a w1 hm hW hb hd K Q hK; obtain rfl := Option.some.inj ho; have e1 := slotE (hd 1 (by kernel_rfl) 15 rfl); go_simp; exact hK _ _ hW.same (kp_refl _) rfl)
        · (intro o ho m a w1 hm hW hb hd K Q hK; obtain rfl := Option.some.inj ho; have e1 := slotE (hd 2 (by kernel_rfl) 16 rfl); go_simp; exact hK _ _ hW.same (kp_refl _) rfl)
        · (intro o ho m a w1 hm hW hb hd K Q hK; obtain rfl := Option.some.inj ho; have e1 := slotE (hd 3 (by kernel_rfl) 17 rfl); go_simp; exact hK _ _ hW.same (kp_refl _) (by show tByte w1 _; exact byte_wrap _))
        · (intro o ho m a w1 hm hW hb hd K Q hK; obtain rfl := Option.some.inj ho; obtain ⟨c0, e1⟩ := (hd 4 (by kernel_rfl) 18 rfl); have e1 := slotE e1; go_simp; exact hK _ _ (hW.next ((Below.refl _ _).alloc (Nat.le_refl _) _)) (kp_below ((Below.refl _ _).alloc (Nat.le_refl _) _)) ⟨_, c0, _, rfl, hW.new, heap_alloc_new w1 _⟩)
        · (intro o ho m a w1 hm hW hb hd K Q hK; obtain rfl := Option.some.inj ho; obtain ⟨b, c0, t, e1, hbg, hh⟩ := (hd 5 (by kernel_rfl) 19 rfl); have e1 := slotE e1; have hcv := bytes_str w1 hh; go_simp; exact hK _ _ hW.same (kp_refl _) ⟨[c0], rfl, by simp⟩)
        · (intro o ho m a w1 hm hW hb hd K Q hK; obtain rfl := Option.some.inj ho; go_simp; exact hK _ _ (hW.next ((Below.refl _ _).alloc (Nat.le_refl _) _)) (kp_below ((Below.refl _ _).alloc (Nat.le_refl _) _)) ⟨_, _, _, _, rfl, hW.new, heap_alloc_new w1 _, by decide +kernel⟩)
        · (intro o ho m a w1 hm hW hb hd K Q hK; obtain rfl := Option.some.inj ho; have e0 : a.tmps[0]?.getD undef = (.pointer (some ⟨g, 0, none⟩)) := (by rw [hb 0 (by decide +kernel)]; simp); go_simp; exact hK _ _ hW.same (kp_refl _) rfl)
        · (intro o ho m a w1 hm hW hb hd K Q hK; obtain rfl := Option.some.inj ho; have e1 := slotE (hd 8 (by kernel_rfl) 22 rfl); go_simp; refine (spec_pick _ _ _ _ w1 hW.1 (by omega) (by omega) (by omega)).mono ?_; rintro e w2 ⟨k, rfl, hk, hr2, hg2⟩; exact hK _ _ ⟨hr2.more (by omega), grown_trans hW.2 hg2⟩ hg2 ⟨k, rfl, hk⟩)
        · (intro o ho m a w1 hm hW hb hd K Q hK; obtain rfl := Option.some.inj ho; obtain ⟨b, cs, t, fr, e1, hbg, hh, hC⟩ := (hd 7 (by kernel_rfl) 21 rfl); obtain ⟨k, e2, hk⟩ := (hd 9 (by kernel_rfl) 23 rfl); have e1 := slotE e1; have e2 := slotE e2; have hk2 := num_lt hk (by omega); go_simp; exact hK _ _ hW.same (kp_refl _) (row_txt hbg hh hC (by omega)))
        · (intro o ho m a w1 hm hW hb hd K Q hK; obtain rfl := Option.some.inj ho; obtain ⟨b, o, x, e1, hbg, hc, hx⟩ := (hd 10 (by kernel_rfl) 24 rfl); have e1 := slotE e1; go_simp; exact hK _ _ hW.same (kp_refl _) ⟨x, rfl, hx⟩)
        · (intro o ho m a w1 hm hW hb hd K Q hK; obtain rfl := Option.some.inj ho; have e0 : a.tmps[0]?.getD undef = (.pointer (some ⟨g, 0, none⟩)) := (by rw [hb 0 (by decide +kernel)]; simp); go_simp; exact hK _ _ hW.same (kp_refl _) rfl)
        · (intro o ho m a w1 hm hW hb hd K Q hK; obtain rfl := Option.some.inj ho; have e1 := slotE (hd 12 (by kernel_rfl) 26 rfl); go_simp; refine (spec_pick _ _ _ _ w1 hW.1 (by omega) (by omega) (by omega)).mono ?_; rintro e w2 ⟨k, rfl, hk, hr2, hg2⟩; exact hK _ _ ⟨hr2.more (by omega), grown_trans hW.2 hg2⟩ hg2 ⟨k, rfl, hk⟩)
        · (intro o ho m a w1 hm hW hb hd K Q hK; obtain rfl := Option.some.inj ho; obtain ⟨x, e1, hx⟩ := (hd 6 (by kernel_rfl) 20 rfl); obtain ⟨y, e2, hy⟩ := (hd 11 (by kernel_rfl) 25 rfl); obtain ⟨k, e3, hk⟩ := (hd 13 (by kernel_rfl) 27 rfl); have e1 := slotE e1; have e2 := slotE e2; have e3 := slotE e3; go_simp; exact hK _ _ hW.same (kp_refl _) ⟨x, y, _, rfl, hx, hy, by omega, by omega⟩)
        · (intro o ho m a w1 hm hW hb hd K Q hK; obtain rfl := Option.some.inj ho; obtain ⟨x, y, z, e1, hx, hy, hz0, hz1⟩ := (hd 14 (by kernel_rfl) 28 rfl); have e1 := slotE e1; go_simp; exact hK _ _ (hW.next ((Below.refl _ _).alloc (Nat.le_refl _) _)) (kp_below ((Below.refl _ _).alloc (Nat.le_refl _) _)) ⟨_, x, y, z, rfl, hW.new, heap_alloc_new w1 _, hx, hy, hz0, hz1⟩)
      case hW => exact ⟨(HRD.out.keep (Below.refl _ _).drew).more (by omega), grown_drew (grown_refl _ _)⟩
      case hfin =>
        intro vs w3 hW hF
        simp only [putAll, hdst, List.getElem?_cons_succ, List.getElem?_cons_zero, Option.bind, List.drop_succ_cons, List.drop_zero, Act.put]
        have h0 : vs 0 = .slice A ps.length c := hF 0 (by omega)
        obtain ⟨b, x, y, z, h12, hbg, hh, hx, hy, hz0, hz1⟩ := hF 15 (by omega)
        rw [h0, h12]
        obtain ⟨hr3, hg3⟩ := hW
        have HR3 := Lib.hid hr3
        have HO3 := Lib.hid (own_g HO.out hg3 hlt)
        have HG3 := Lib.hid (grown_trans HGR.out hg3)
        have hsz3 := HG3.out.size
        clear hF h0 h12 hr3 hg3
        go_simp
        go_wp2_with (at_builtin; refine app_cookie_at rfl _ _ rfl w.heap.size A c ps x y z (by rfl) HO3.out b (by rfl) hh ?_ ?_ ?_; (focus omega); (focus omega); intro A4 c4 w4 ho4 hg4)
        go_roundw
        case rel =>
          refine ⟨k - 1, A4, c4, ps ++ [(x, y, z)], by go_num, by simp, by simp; omega, ho4, smallC_snoc HSM.out (by omega) hx hy hz0 hz1, ?_, ?_⟩
          · exact (HR3.out.frame hg4 (own_lt HO3.out hlt)).more (by simp; omega)
          · exact grown_own HG3.out hg4 (Nat.le_refl _) (ownC_row HO3.out)
        case measure => simp [intOf]; omega
    · have hk0 : k = 0 := by omega
      subst hk0
      go_wp2_with fail
      refine (spec_odd B g _ n _ HRD.out (by omega) hn hn0).mono ?_
      rintro e w1 ⟨b1, rfl, hr1, hg1⟩
      have HR1 := Lib.hid hr1
      have HG1 := Lib.hid (grown_trans HGR.out hg1)
      have HO1 := Lib.hid (own_g HO.out hg1 hlt)
      have hsz1 := HG1.out.size
      clear hr1 hg1
      cases b1
      · go_wp2
        go_ret
        exact ⟨A, c, ps, rfl, HO1.out, HSM.out, by omega, HR1.out.more (by omega), HG1.out⟩
      · go_wp2_with fail
        refine wp_region_typed 16 (by kernel_rfl) (by kernel_rfl) (DW w1 B g (q + 1 + 20 * ps.length + 1)) (Kp g) (fun i => ([tIs (.slice A ps.length c), tIs (.agg #[.string ⟨#[]⟩, .string ⟨#[]⟩, .int .i64 0]), tIs (.agg #[.string ⟨#[65]⟩, .string ⟨#[]⟩, .int .i64 0]), tIs (.agg #[.string ⟨#[122]⟩, .string ⟨#[10]⟩, .int .i64 0]), tRow g 2 (cInt (-10000) 10000 2), tIs (.pointer (some ⟨g, 0, none⟩)), tNum 2, tAdrI g (-10000) 10000, tInt (-10000) 10000, tCz, tRow g 4 (cCk 100 4), tIs (.pointer (some ⟨g, 0, none⟩)), tNum 4, tAdrC g 100, tCk 100, tOneC g 100 25] : List Ty).getD i tAny) ?hW2 ?hkeep2 ?hstep2 ?hfin2
        case hkeep2 =>
          refine all_lt_succ (all_lt_succ (all_lt_succ (all_lt_succ (all_lt_succ (all_lt_succ (all_lt_succ (all_lt_succ (all_lt_succ (all_lt_succ (all_lt_succ (all_lt_succ (all_lt_succ (all_lt_succ (all_lt_succ (all_lt_succ all_lt_zero ?_) ?_) ?_) ?_) ?_) ?_) ?_) ?_) ?_) ?_) ?_) ?_) ?_) ?_) ?_) ?_
          · exact stays_is _
          · exact stays_is _
          · exact stays_is _
          · exact stays_is _
          · exact stays_row _ _
          · exact stays_is _
          · exact stays_num _
          · exact stays_adrI _ _
          · exact stays_int _ _
          · exact stays_tCz
          · exact stays_row _ _
          · exact stays_is _
          · exact stays_num _
          · exact stays_tAdrC
          · exact stays_tCk
          · exact stays_tOneC
        case hstep2 =>
          refine all_lt_succ (all_lt_succ (all_lt_succ (all_lt_succ (all_lt_succ (all_lt_succ (all_lt_succ (all_lt_succ (all_lt_succ (all_lt_succ (all_lt_succ (all_lt_succ (all_lt_succ (all_lt_succ (all_lt_succ (all_lt_succ all_lt_zero ?_) ?_) ?_) ?_) ?_) ?_) ?_) ?_) ?_) ?_) ?_) ?_) ?_) ?_) ?_) ?_
          · (intro o ho m a w1 hm hW hb hd K Q hK; obtain rfl := Option.some.inj ho; have e0 : a.tmps[5]?.getD undef = (.slice A ps.length c) := (by rw [hb 5 (by decide +kernel)]; simp); go_simp; exact hK _ _ hW.same (kp_refl _) rfl)
          · (intro o ho m a w1 hm hW hb hd K Q hK; obtain rfl := Option.some.inj ho; go_simp; exact hK _ _ hW.same (kp_refl _) rfl)
          · (intro o ho m a w1 hm hW hb hd K Q hK; obtain rfl := Option.some.inj ho; go_simp; exact hK _ _ hW.same (kp_refl _) rfl)
          · (intro o ho m a w1 hm hW hb hd K Q hK; obtain rfl := Option.some.inj ho; go_simp; exact hK _ _ hW.same (kp_refl _) rfl)
          · (intro o ho m a w1 hm hW hb hd K Q hK; obtain rfl := Option.some.inj ho; go_simp; exact hK _ _ (hW.next ((Below.refl _ _).alloc (Nat.le_refl _) _)) (kp_below ((Below.refl _ _).alloc (Nat.le_refl _) _)) ⟨_, _, _, _, rfl, hW.new, heap_alloc_new w1 _, by decide +kernel⟩)
          · (intro o ho m a w1 hm hW hb hd K Q hK; obtain rfl := Option.some.inj ho; have e0 : a.tmps[0]?.getD undef = (.pointer (some ⟨g, 0, none⟩)) := (by rw [hb 0 (by decide +kernel)]; simp); go_simp; exact hK _ _ hW.same (kp_refl _) rfl)
          · (intro o ho m a w1 hm hW hb hd K Q hK; obtain rfl := Option.some.inj ho; have e1 := slotE (hd 5 (by kernel_rfl) 39 rfl); go_simp; refine (spec_pick _ _ _ _ w1 hW.1 (by omega) (by omega) (by omega)).mono ?_; rintro e w2 ⟨k, rfl, hk, hr2, hg2⟩; exact hK _ _ ⟨hr2.more (by omega), grown_trans hW.2 hg2⟩ hg2 ⟨k, rfl, hk⟩)
          · (intro o ho m a w1 hm hW hb hd K Q hK; obtain rfl := Option.some.inj ho; obtain ⟨b, cs, t, fr, e1, hbg, hh, hC⟩ := (hd 4 (by kernel_rfl) 38 rfl); obtain ⟨k, e2, hk⟩ := (hd 6 (by kernel_rfl) 40 rfl); have e1 := slotE e1; have e2 := slotE e2; have hk2 := num_lt hk (by omega); go_simp; exact hK _ _ hW.same (kp_refl _) (row_int hbg hh hC (by omega)))
          · (intro o ho m a w1 hm hW hb hd K Q hK; obtain rfl := Option.some.inj ho; obtain ⟨b, o, x, e1, hbg, hc, hx⟩ := (hd 7 (by kernel_rfl) 41 rfl); have e1 := slotE e1; go_simp; exact hK _ _ hW.same (kp_refl _) ⟨x, rfl, hx⟩)
          · (intro o ho m a w1 hm hW hb hd K Q hK; obtain rfl := Option.some.inj ho; obtain ⟨z, e1, hz0, hz1⟩ := (hd 8 (by kernel_rfl) 42 rfl); have e1 := slotE e1; go_simp; exact hK _ _ hW.same (kp_refl _) ⟨z, rfl, hz0, hz1⟩)
          · (intro o ho m a w1 hm hW hb hd K Q hK; obtain rfl := Option.some.inj ho; have e1 := slotE (hd 1 (by kernel_rfl) 35 rfl); have e2 := slotE (hd 2 (by kernel_rfl) 36 rfl); have e3 := slotE (hd 3 (by kernel_rfl) 37 rfl); obtain ⟨z, e4, hz0, hz1⟩ := (hd 9 (by kernel_rfl) 43 rfl); have e4 := slotE e4; go_simp; exact hK _ _ (hW.next ((Below.refl _ _).alloc (Nat.le_refl _) _)) (kp_below ((Below.refl _ _).alloc (Nat.le_refl _) _)) ⟨_, _, _, _, rfl, hW.new, heap_alloc_new w1 _, by show okC 100 4 _ = true; simp only [okC, Bool.and_eq_true, decide_eq_true_eq]; (repeat' apply And.intro) <;> first | assumption | trivial | decide⟩)
          · (intro o ho m a w1 hm hW hb hd K Q hK; obtain rfl := Option.some.inj ho; have e0 : a.tmps[0]?.getD undef = (.pointer (some ⟨g, 0, none⟩)) := (by rw [hb 0 (by decide +kernel)]; simp); go_simp; exact hK _ _ hW.same (kp_refl _) rfl)
          · (intro o ho m a w1 hm hW hb hd K Q hK; obtain rfl := Option.some.inj ho; have e1 := slotE (hd 11 (by kernel_rfl) 45 rfl); go_simp; refine (spec_pick _ _ _ _ w1 hW.1 (by omega) (by omega) (by omega)).mono ?_; rintro e w2 ⟨k, rfl, hk, hr2, hg2⟩; exact hK _ _ ⟨hr2.more (by omega), grown_trans hW.2 hg2⟩ hg2 ⟨k, rfl, hk⟩)
          · (intro o ho m a w1 hm hW hb hd K Q hK; obtain rfl := Option.some.inj ho; obtain ⟨b, cs, t, fr, e1, hbg, hh, hC⟩ := (hd 10 (by kernel_rfl) 44 rfl); obtain ⟨k, e2, hk⟩ := (hd 12 (by kernel_rfl) 46 rfl); have e1 := slotE e1; have e2 := slotE e2; have hk2 := num_lt hk (by omega); go_simp; exact hK _ _ hW.same (kp_refl _) (row_ck hbg hh hC (by omega)))
          · (intro o ho m a w1 hm hW hb hd K Q hK; obtain rfl := Option.some.inj ho; obtain ⟨b, o, x, y, z, e1, hbg, hc, hc2, hc3, hx⟩ := (hd 13 (by kernel_rfl) 47 rfl); have e1 := slotE e1; go_simp; exact hK _ _ hW.same (kp_refl _) ⟨x, y, z, rfl, hx⟩)
          · (intro o ho m a w1 hm hW hb hd K Q hK; obtain rfl := Option.some.inj ho; obtain ⟨x, y, z, e1, hx, hy, hz0, hz1⟩ := (hd 14 (by kernel_rfl) 48 rfl); have e1 := slotE e1; go_simp; exact hK _ _ (hW.next ((Below.refl _ _).alloc (Nat.le_refl _) _)) (kp_below ((Below.refl _ _).alloc (Nat.le_refl _) _)) ⟨_, x, y, z, rfl, hW.new, heap_alloc_new w1 _, hx, hy, hz0, hz1⟩)
        case hW2 => exact ⟨(HR1.out.keep (Below.refl _ _).drew).more (by omega), grown_drew (grown_refl _ _)⟩
        case hfin2 =>
          intro vs w3 hW hF
          simp only [putAll, hdst, List.getElem?_cons_succ, List.getElem?_cons_zero, Option.bind, List.drop_succ_cons, List.drop_zero, Act.put]
          have h0 : vs 0 = .slice A ps.length c := hF 0 (by omega)
          obtain ⟨b, x, y, z, h12, hbg, hh, hx, hy, hz0, hz1⟩ := hF 15 (by omega)
          rw [h0, h12]
          obtain ⟨hr3, hg3⟩ := hW
          have HR3 := Lib.hid hr3
          have HO3 := Lib.hid (own_g HO1.out hg3 hlt)
          have HG3 := Lib.hid (grown_trans HG1.out hg3)
          have hsz3 := HG3.out.size
          clear hF h0 h12 hr3 hg3
          go_simp
          go_wp2_with (at_builtin; refine app_cookie_at rfl _ _ rfl w.heap.size A c ps x y z (by rfl) HO3.out b (by rfl) hh ?_ ?_ ?_; (focus omega); (focus omega); intro A4 c4 w4 ho4 hg4)
          go_ret
          refine ⟨A4, c4, ps ++ [(x, y, z)], by simp, ho4, smallC_snoc HSM.out (by omega) hx hy hz0 hz1, by simp; omega, ?_, ?_⟩
          · exact (HR3.out.frame hg4 (own_lt HO3.out hlt)).more (by omega)
          · exact grown_own HG3.out hg4 (Nat.le_refl _) (ownC_row HO3.out)


end Go.Proofs.Ytlafdpndpjcklaa
