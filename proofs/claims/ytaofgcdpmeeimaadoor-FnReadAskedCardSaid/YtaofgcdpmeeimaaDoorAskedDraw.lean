/- Drawn pairs of queries: walks. -/
import Derived.Test.YtaofgcdpmeeimaaDoorDrawT
import Derived.Deep.RegionWith
namespace Go.Proofs.YtaofgcdpmeeimaaDoor
open Go.RowKit

set_option maxRecDepth 100000 in
set_option maxHeartbeats 800000 in
theorem spec_l20Asked (B g q : Nat) (n : Int) (w : World) (h : Rdr w B g q) (hq : q ≤ 100000000) (hn : n ≤ 1000000000) (hn0 : -1000000000 ≤ n) :
    Calls Tryd.prog 64 #[.pointer (some ⟨g, 0, none⟩), .int .i64 n] w (DrawnPs w B g q 200) := by
  have hlt := h.lt
  have H := Lib.hid h
  clear h
  go_enter Tryd.func64, Tryd.ntmps64
  go_wp2_with fail
  refine (spec_pick B g q 5 _ (H.out.keep ((Below.refl _ _).alloc (Nat.le_refl _) _)) (by omega) (by omega) (by omega)).mono ?_
  rintro e w1 ⟨k0, rfl, hk0, hr1, hg1⟩
  have hz1 : w.heap.size < w1.heap.size := by have := hg1.size; simp at this; omega
  have hown1 : OwnP w1 w.heap.size (some ⟨w.heap.size, 0, none⟩) 0 [] := (ownP_empty w w.heap.size (Nat.le_refl _)).kept hg1 (.inr (by simp [Value.ownBlock]; omega))
  have HR1 := Lib.hid hr1
  have HG1 := Lib.hid (grown_trans (World.grownBy_alloc w _ _) hg1)
  have HO1 := Lib.hid hown1
  have hk5 : k0 ≤ 5 := by omega
  clear hr1 hg1 hown1 hk0
  go_wp2
  go_loopw [5, 6] (fun v i wr => ∃ (k : Nat) (A : Option Addr) (c : Nat) (ps : List Pr), i = .int .i64 (k : Int) ∧ v = .slice A ps.length c ∧ k + ps.length ≤ 5 ∧ OwnP wr w.heap.size A c ps ∧ Small ps ∧ Rdr wr B g (q + 1 + 20 * ps.length) ∧ w.grownBy wr (some g)) (fun _ i _ => (intOf i).toNat)
  case atStart => exact ⟨k0, _, 0, [], rfl, rfl, by simpa using hk5, HO1.out, ⟨by simp, fun p hp => by cases hp⟩, HR1.out, HG1.out⟩
  case round =>
    obtain ⟨k, A, c, ps, rfl, rfl, hkn, ho, hsm, hrd, hgr⟩ := hrel
    have HO := Lib.hid ho
    have HSM := Lib.hid hsm
    have HRD := Lib.hid hrd
    have HGR := Lib.hid hgr
    clear ho hsm hrd hgr
    by_cases hk : 0 < k
    · go_wp2_with fail
      refine wp_region_typed 13 (by kernel_rfl) (by kernel_rfl) (DW wr B g (q + 1 + 20 * ps.length)) (Kp g) (fun i => ([tIs (.slice A ps.length c), tRow g 3 (cTxt 100 3), tIs (.pointer (some ⟨g, 0, none⟩)), tNum 3, tAdrS g 100, tTxt 100, tRow g 6 (cTxt 100 6), tIs (.pointer (some ⟨g, 0, none⟩)), tNum 6, tAdrS g 100, tTxt 100, tPr 100, tOneP g 100 35] : List Ty).getD i tAny) ?hW ?hkeep ?hstep ?hfin
      case hkeep =>
        refine all_lt_succ (all_lt_succ (all_lt_succ (all_lt_succ (all_lt_succ (all_lt_succ (all_lt_succ (all_lt_succ (all_lt_succ (all_lt_succ (all_lt_succ (all_lt_succ (all_lt_succ all_lt_zero ?_) ?_) ?_) ?_) ?_) ?_) ?_) ?_) ?_) ?_) ?_) ?_) ?_
        · exact stays_is _
        · exact stays_row _ _
        · exact stays_is _
        · exact stays_num _
        · exact stays_adrS _
        · exact stays_txt _
        · exact stays_row _ _
        · exact stays_is _
        · exact stays_num _
        · exact stays_adrS _
        · exact stays_txt _
        · exact stays_pr _
        · exact stays_oneP _ _
      case hstep =>
        refine all_lt_succ (all_lt_succ (all_lt_succ (all_lt_succ (all_lt_succ (all_lt_succ (all_lt_succ (all_lt_succ (all_lt_succ (all_lt_succ (all_lt_succ (all_lt_succ (all_lt_succ all_lt_zero ?_) ?_) ?_) ?_) ?_) ?_) ?_) ?_) ?_) ?_) ?_) ?_) ?_
        · (intro o ho m a w1 hm hW hb hd K Q hK; obtain rfl := Option.some.inj ho; have e0 : a.tmps[5]?.getD undef = (.slice A ps.length c) := (by rw [hb 5 (by decide +kernel)]; simp); go_simp; exact hK _ _ hW.same (kp_refl _) rfl)
        · (intro o ho m a w1 hm hW hb hd K Q hK; obtain rfl := Option.some.inj ho; go_simp; exact hK _ _ (hW.next ((Below.refl _ _).alloc (Nat.le_refl _) _)) (kp_below ((Below.refl _ _).alloc (Nat.le_refl _) _)) ⟨_, _, _, _, rfl, hW.new, heap_alloc_new w1 _, by decide +kernel⟩)
        · (intro o ho m a w1 hm hW hb hd K Q hK; obtain rfl := Option.some.inj ho; have e0 : a.tmps[0]?.getD undef = (.pointer (some ⟨g, 0, none⟩)) := (by rw [hb 0 (by decide +kernel)]; simp); go_simp; exact hK _ _ hW.same (kp_refl _) rfl)
        · (intro o ho m a w1 hm hW hb hd K Q hK; obtain rfl := Option.some.inj ho; have e1 := slotE (hd 2 (by kernel_rfl) 16 rfl); go_simp; refine (spec_pick _ _ _ _ w1 hW.1 (by omega) (by omega) (by omega)).mono ?_; rintro e w2 ⟨k, rfl, hk, hr2, hg2⟩; exact hK _ _ ⟨hr2.more (by omega), grown_trans hW.2 hg2⟩ hg2 ⟨k, rfl, hk⟩)
        · (intro o ho m a w1 hm hW hb hd K Q hK; obtain rfl := Option.some.inj ho; obtain ⟨b, cs, t, fr, e1, hbg, hh, hC⟩ := (hd 1 (by kernel_rfl) 15 rfl); obtain ⟨k, e2, hk⟩ := (hd 3 (by kernel_rfl) 17 rfl); have e1 := slotE e1; have e2 := slotE e2; have hk2 := num_lt hk (by omega); go_simp; exact hK _ _ hW.same (kp_refl _) (row_txt hbg hh hC (by omega)))
        · (intro o ho m a w1 hm hW hb hd K Q hK; obtain rfl := Option.some.inj ho; obtain ⟨b, o, x, e1, hbg, hc, hx⟩ := (hd 4 (by kernel_rfl) 18 rfl); have e1 := slotE e1; go_simp; exact hK _ _ hW.same (kp_refl _) ⟨x, rfl, hx⟩)
        · (intro o ho m a w1 hm hW hb hd K Q hK; obtain rfl := Option.some.inj ho; go_simp; exact hK _ _ (hW.next ((Below.refl _ _).alloc (Nat.le_refl _) _)) (kp_below ((Below.refl _ _).alloc (Nat.le_refl _) _)) ⟨_, _, _, _, rfl, hW.new, heap_alloc_new w1 _, by decide +kernel⟩)
        · (intro o ho m a w1 hm hW hb hd K Q hK; obtain rfl := Option.some.inj ho; have e0 : a.tmps[0]?.getD undef = (.pointer (some ⟨g, 0, none⟩)) := (by rw [hb 0 (by decide +kernel)]; simp); go_simp; exact hK _ _ hW.same (kp_refl _) rfl)
        · (intro o ho m a w1 hm hW hb hd K Q hK; obtain rfl := Option.some.inj ho; have e1 := slotE (hd 7 (by kernel_rfl) 21 rfl); go_simp; refine (spec_pick _ _ _ _ w1 hW.1 (by omega) (by omega) (by omega)).mono ?_; rintro e w2 ⟨k, rfl, hk, hr2, hg2⟩; exact hK _ _ ⟨hr2.more (by omega), grown_trans hW.2 hg2⟩ hg2 ⟨k, rfl, hk⟩)
        · (intro o ho m a w1 hm hW hb hd K Q hK; obtain rfl := Option.some.inj ho; obtain ⟨b, cs, t, fr, e1, hbg, hh, hC⟩ := (hd 6 (by kernel_rfl) 20 rfl); obtain ⟨k, e2, hk⟩ := (hd 8 (by kernel_rfl) 22 rfl); have e1 := slotE e1; have e2 := slotE e2; have hk2 := num_lt hk (by omega); go_simp; exact hK _ _ hW.same (kp_refl _) (row_txt hbg hh hC (by omega)))
        · (intro o ho m a w1 hm hW hb hd K Q hK; obtain rfl := Option.some.inj ho; obtain ⟨b, o, x, e1, hbg, hc, hx⟩ := (hd 9 (by kernel_rfl) 23 rfl); have e1 := slotE e1; go_simp; exact hK _ _ hW.same (kp_refl _) ⟨x, rfl, hx⟩)
        · (intro o ho m a w1 hm hW hb hd K Q hK; obtain rfl := Option.some.inj ho; obtain ⟨x, e1, hx⟩ := (hd 5 (by kernel_rfl) 19 rfl); obtain ⟨y, e2, hy⟩ := (hd 10 (by kernel_rfl) 24 rfl); have e1 := slotE e1; have e2 := slotE e2; go_simp; exact hK _ _ hW.same (kp_refl _) ⟨x, y, rfl, hx, hy⟩)
        · (intro o ho m a w1 hm hW hb hd K Q hK; obtain rfl := Option.some.inj ho; obtain ⟨x, y, e1, hx, hy⟩ := (hd 11 (by kernel_rfl) 25 rfl); have e1 := slotE e1; go_simp; exact hK _ _ (hW.next ((Below.refl _ _).alloc (Nat.le_refl _) _)) (kp_below ((Below.refl _ _).alloc (Nat.le_refl _) _)) ⟨_, x, y, rfl, hW.new, heap_alloc_new w1 _, hx, hy⟩)
      case hW => exact ⟨(HRD.out.keep (Below.refl _ _).drew).more (by omega), grown_drew (grown_refl _ _)⟩
      case hfin =>
        intro vs w3 hW hF
        simp only [putAll, hdst, List.getElem?_cons_succ, List.getElem?_cons_zero, Option.bind, List.drop_succ_cons, List.drop_zero, Act.put]
        have h0 : vs 0 = .slice A ps.length c := hF 0 (by omega)
        obtain ⟨b, x, y, h12, hbg, hh, hx, hy⟩ := hF 12 (by omega)
        rw [h0, h12]
        obtain ⟨hr3, hg3⟩ := hW
        have HR3 := Lib.hid hr3
        have HO3 := Lib.hid (own_g HO.out hg3 hlt)
        have HG3 := Lib.hid (grown_trans HGR.out hg3)
        have hsz3 := HG3.out.size
        clear hF h0 h12 hr3 hg3
        go_simp
        go_wp2_with (at_builtin; refine app_pair_at rfl _ _ rfl w.heap.size A c ps x y (by rfl) HO3.out b (by rfl) hh ?_ ?_ ?_; (focus omega); (focus omega); intro A4 c4 w4 ho4 hg4)
        go_roundw
        case rel =>
          refine ⟨k - 1, A4, c4, ps ++ [(x, y)], by go_num, by simp, by simp; omega, ho4, ⟨by simp; omega, ?_⟩, ?_, ?_⟩
          · intro p hp
            rcases List.mem_append.1 hp with hp | hp
            · exact HSM.out.2 p hp
            · simp at hp; subst hp; exact ⟨hx, hy⟩
          · exact (HR3.out.frame hg4 (own_lt HO3.out hlt)).more (by simp; omega)
          · exact grown_own HG3.out hg4 (Nat.le_refl _) (ownP_row HO3.out)
        case measure => simp [intOf]; omega
    · have hk0 : k = 0 := by omega
      subst hk0
      go_wp2_with fail
      refine (spec_odd B g _ n _ HRD.out (by omega) hn hn0).mono ?_
      rintro e w1 ⟨b1, rfl, hr1, hg1⟩
      have HR1 := Lib.hid hr1
      have HG1 := Lib.hid (grown_trans HGR.out hg1)
      have HO1 := Lib.hid (own_g HO.out hg1 hlt)
      have hsz1 := HG1.out.size
      clear hr1 hg1
      cases b1
      · go_wp2
        go_ret
        exact ⟨A, c, ps, rfl, HO1.out, HSM.out, by omega, HR1.out.more (by omega), HG1.out⟩
      · go_wp2_with fail
        refine (spec_pick B g _ _ _ (HR1.out.keep ((Below.refl _ _).alloc (Nat.le_refl _) _)) (by omega) (by omega) (by omega)).mono ?_
        rintro e w2 ⟨k2, rfl, hk2, hr2, hg2⟩
        have hlt2 := HR1.out.lt
        have hlit : w2.heap[w1.heap.size]? = _ := (hg2.block w1.heap.size (by simp) (by simp; omega)).trans (heap_alloc_new w1 _)
        have HR2 := Lib.hid hr2
        have HG2 := Lib.hid (grown_trans (grown_alloc HG1.out _) hg2)
        have HO2 := Lib.hid (own_g (own_below HO1.out ((Below.refl _ _).alloc (Nat.le_refl _) _)) hg2 hlt)
        have hsz2 := HG2.out.size
        obtain ⟨x, y, hx, hy, hxl, hyl⟩ := lit_pair (k := k2) (B := 100) (n := 4) hlit (by decide +kernel) (by rcases hk2 with hk2 | hk2 <;> omega)
        clear hlit hr2 hg2
        go_wp2_with (at_builtin; refine app_pair rfl _ _ rfl w.heap.size A c _ ps (x, y) (by rfl) rfl HO2.out _ (by rfl) rfl ?_ ?_ ?_; (focus omega); (focus omega); intro A4 c4 w4 ho4 hg4)
        go_ret
        refine ⟨A4, c4, ps ++ [(x, y)], by simp, ho4, ⟨by simp; omega, ?_⟩, by simp; omega, ?_, ?_⟩
        · intro p hp
          rcases List.mem_append.1 hp with hp | hp
          · exact HSM.out.2 p hp
          · simp at hp; subst hp; exact ⟨hxl, hyl⟩
        · exact (HR2.out.frame hg4 (own_lt HO2.out hlt)).more (by omega)
        · exact grown_own HG2.out hg4 (Nat.le_refl _) (ownP_row HO2.out)


set_option maxRecDepth 100000 in
set_option maxHeartbeats 800000 in
theorem spec_DrawAskedText (bs : Tx) (A : Option Addr) (c : Nat) (w : World) (hr : Rd w w.heap.size A (bcells bs)) (hc : bs.length ≤ c) (hm : bs.length ≤ 1048576) :
    Calls Tryd.prog 27 #[.slice A bs.length c] w (DrewPs w) := by
  have HR := Lib.hid hr
  clear hr
  go_enter Tryd.func27, Tryd.ntmps27
  go_wp2_with fail
  refine (spec_l20Open bs w.heap.size A c _ HR.out (Nat.le_refl _) hc hm).mono ?_
  rintro e w1 ⟨rfl, hr1, hb1⟩
  have HR1 := Lib.hid hr1
  have HB1 := Lib.hid hb1
  clear hr1 hb1
  go_wp2_with fail
  refine (spec_l20Asked w.heap.size w.heap.size 0 _ _ HR1.out (by omega) (by omega) (by omega)).mono ?_
  rintro e w2 ⟨A2, c2, ps, rfl, ho2, hs2, hn2, hr2, hg2⟩
  have H2 := Lib.hid (drewPs_of HB1.out ho2 hs2 hn2 hr2 hg2)
  clear ho2 hs2 hr2 hg2
  go_wp2
  go_ret
  exact H2.out

end Go.Proofs.YtaofgcdpmeeimaaDoor
