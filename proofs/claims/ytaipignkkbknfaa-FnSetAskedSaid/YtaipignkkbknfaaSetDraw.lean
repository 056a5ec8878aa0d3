/- Drawn pairs of queries with a name and a text: a walk. -/
import Derived.Test.YtaipignkkbknfaaAskedDraw
namespace Go.Proofs.Ytaipignkkbknfaa
open Go.RowKit

/-- the call drew pairs and two short texts -/
def DrewPsTT (w : World) (e : Ending) (w' : World) : Prop :=
  ∃ A c ps, ∃ l t : Tx, e = .returned (.tuple #[.slice A (List.length ps) c, .string ⟨l.toArray⟩, .string ⟨t.toArray⟩]) ∧ OwnP w' w.heap.size A c ps ∧ Small ps ∧ ps.length ≤ 10 ∧ l.length ≤ 100 ∧ t.length ≤ 100 ∧ Below w.heap.size w w'
set_option maxHeartbeats 800000 in
theorem spec_DrawSetAsked (bs : Tx) (A : Option Addr) (c : Nat) (w : World) (hr : Rd w w.heap.size A (bcells bs)) (hc : bs.length ≤ c) (hm : bs.length ≤ 1048576) :
    Calls Try.prog 18 #[.slice A bs.length c] w (DrewPsTT w) := by
  have HR := Lib.hid hr
  clear hr
  go_enter Try.func18, Try.ntmps18
  go_wp2_with fail
  refine (spec_l20Open bs w.heap.size A c _ HR.out (Nat.le_refl _) hc hm).mono ?_
  rintro e w1 ⟨rfl, hr1, hb1⟩
  have HR1 := Lib.hid hr1
  have HB1 := Lib.hid hb1
  clear hr1 hb1
  go_wp2_with fail
  refine (spec_l20Asked w.heap.size w.heap.size 0 _ _ HR1.out (by omega) (by omega) (by omega)).mono ?_
  rintro e w2 ⟨A2, c2, ps, rfl, ho2, hs2, hn2, hr2, hg2⟩
  have HS2 := Lib.hid hs2
  have HO2 := Lib.hid ho2
  have hz1 : w.heap.size < w1.heap.size := HR1.out.lt
  have HR2 := Lib.hid hr2
  have HB2 := Lib.hid (HB1.out.trans (grown_to_below hg2 HB1.out.size (fun g h => by injection h; omega)))
  clear ho2 hs2 hr2 hg2
  go_wp2_with fail
  refine wp_region_typed 16 (by kernel_rfl) (by kernel_rfl) (DW w2 w.heap.size w.heap.size (0 + 200)) (Kp w.heap.size) (fun i => ([tIs (.slice A2 ps.length c2), tRow w.heap.size 4 (cTxt 100 4), tIs (.pointer (some ⟨w.heap.size, 0, none⟩)), tNum 4, tAdrS w.heap.size 100, tTxt 100, tRow w.heap.size 4 (cTxt 100 4), tRow w.heap.size 5 (cInt 0 3 5), tIs (.pointer (some ⟨w.heap.size, 0, none⟩)), tNum 5, tAdrI w.heap.size 0 3, tInt 0 3, tAdrS w.heap.size 100, tTxt 100, tIs (.slice A2 ps.length c2), tTxt 100] : List Ty).getD i tAny) ?hW ?hkeep ?hstep ?hfin
  case hkeep =>
    refine all_lt_succ (all_lt_succ (all_lt_succ (all_lt_succ (all_lt_succ (all_lt_succ (all_lt_succ (all_lt_succ (all_lt_succ (all_lt_succ (all_lt_succ (all_lt_succ (all_lt_succ (all_lt_succ (all_lt_succ (all_lt_succ all_lt_zero ?_) ?_) ?_) ?_) ?_) ?_) ?_) ?_) ?_) ?_) ?_) ?_) ?_) ?_) ?_) ?_
    · exact stays_is _
    · exact stays_row _ _
    · exact stays_is _
    · exact stays_num _
    · exact stays_adrS _
    · exact stays_txt _
    · exact stays_row _ _
    · exact stays_row _ _
    · exact stays_is _
    · exact stays_num _
    · exact stays_adrI _ _
    · exact stays_int _ _
    · exact stays_adrS _
    · exact stays_txt _
    · exact stays_is _
    · exact stays_txt _
  case hstep =>
    refine all_lt_succ (all_lt_succ (all_lt_succ (all_lt_succ (all_lt_succ (all_lt_succ (all_lt_succ (all_lt_succ (all_lt_succ (all_lt_succ (all_lt_succ (all_lt_succ (all_lt_succ (all_lt_succ (all_lt_succ (all_lt_succ all_lt_zero ?_) ?_) ?_) ?_) ?_) ?_) ?_) ?_) ?_) ?_) ?_) ?_) ?_) ?_) ?_) ?_
    · (intro o ho m a w1 hm hW hb hd K Q hK; obtain rfl := Option.some.inj ho; have e0 : a.tmps[6]?.getD undef = (.slice A2 ps.length c2) := (by rw [hb 6 (by decide +kernel)]; simp); go_simp; exact hK _ _ hW.same (kp_refl _) rfl)
    · (intro o ho m a w1 hm hW hb hd K Q hK; obtain rfl := Option.some.inj ho; go_simp; exact hK _ _ (hW.next ((Below.refl _ _).alloc (Nat.le_refl _) _)) (kp_below ((Below.refl _ _).alloc (Nat.le_refl _) _)) ⟨_, _, _, _, rfl, hW.new, heap_alloc_new w1 _, by decide +kernel⟩)
    · (intro o ho m a w1 hm hW hb hd K Q hK; obtain rfl := Option.some.inj ho; have e0 : a.tmps[5]?.getD undef = (.pointer (some ⟨w.heap.size, 0, none⟩)) := (by rw [hb 5 (by decide +kernel)]; simp); go_simp; exact hK _ _ hW.same (kp_refl _) rfl)
    · (intro o ho m a w1 hm hW hb hd K Q hK; obtain rfl := Option.some.inj ho; have e1 := slotE (hd 2 (by kernel_rfl) 13 rfl); go_simp; refine (spec_pick _ _ _ _ w1 hW.1 (by omega) (by omega) (by omega)).mono ?_; rintro e w2 ⟨k, rfl, hk, hr2, hg2⟩; exact hK _ _ ⟨hr2.more (by omega), grown_trans hW.2 hg2⟩ hg2 ⟨k, rfl, hk⟩)
    · (intro o ho m a w1 hm hW hb hd K Q hK; obtain rfl := Option.some.inj ho; obtain ⟨b, cs, t, fr, e1, hbg, hh, hC⟩ := (hd 1 (by kernel_rfl) 12 rfl); obtain ⟨k, e2, hk⟩ := (hd 3 (by kernel_rfl) 14 rfl); have e1 := slotE e1; have e2 := slotE e2; have hk2 := num_lt hk (by omega); go_simp; exact hK _ _ hW.same (kp_refl _) (row_txt hbg hh hC (by omega)))
    · (intro o ho m a w1 hm hW hb hd K Q hK; obtain rfl := Option.some.inj ho; obtain ⟨b, o, x, e1, hbg, hc, hx⟩ := (hd 4 (by kernel_rfl) 15 rfl); have e1 := slotE e1; go_simp; exact hK _ _ hW.same (kp_refl _) ⟨x, rfl, hx⟩)
    · (intro o ho m a w1 hm hW hb hd K Q hK; obtain rfl := Option.some.inj ho; go_simp; exact hK _ _ (hW.next ((Below.refl _ _).alloc (Nat.le_refl _) _)) (kp_below ((Below.refl _ _).alloc (Nat.le_refl _) _)) ⟨_, _, _, _, rfl, hW.new, heap_alloc_new w1 _, by decide +kernel⟩)
    · (intro o ho m a w1 hm hW hb hd K Q hK; obtain rfl := Option.some.inj ho; go_simp; exact hK _ _ (hW.next ((Below.refl _ _).alloc (Nat.le_refl _) _)) (kp_below ((Below.refl _ _).alloc (Nat.le_refl _) _)) ⟨_, _, _, _, rfl, hW.new, heap_alloc_new w1 _, by decide +kernel⟩)
    · (intro o ho m a w1 hm hW hb hd K Q hK; obtain rfl := Option.some.inj ho; have e0 : a.tmps[5]?.getD undef = (.pointer (some ⟨w.heap.size, 0, none⟩)) := (by rw [hb 5 (by decide +kernel)]; simp); go_simp; exact hK _ _ hW.same (kp_refl _) rfl)
    · (intro o ho m a w1 hm hW hb hd K Q hK; obtain rfl := Option.some.inj ho; have e1 := slotE (hd 8 (by kernel_rfl) 19 rfl); go_simp; refine (spec_pick _ _ _ _ w1 hW.1 (by omega) (by omega) (by omega)).mono ?_; rintro e w2 ⟨k, rfl, hk, hr2, hg2⟩; exact hK _ _ ⟨hr2.more (by omega), grown_trans hW.2 hg2⟩ hg2 ⟨k, rfl, hk⟩)
    · (intro o ho m a w1 hm hW hb hd K Q hK; obtain rfl := Option.some.inj ho; obtain ⟨b, cs, t, fr, e1, hbg, hh, hC⟩ := (hd 7 (by kernel_rfl) 18 rfl); obtain ⟨k, e2, hk⟩ := (hd 9 (by kernel_rfl) 20 rfl); have e1 := slotE e1; have e2 := slotE e2; have hk2 := num_lt hk (by omega); go_simp; exact hK _ _ hW.same (kp_refl _) (row_int hbg hh hC (by omega)))
    · (intro o ho m a w1 hm hW hb hd K Q hK; obtain rfl := Option.some.inj ho; obtain ⟨b, o, x, e1, hbg, hc, hx⟩ := (hd 10 (by kernel_rfl) 21 rfl); have e1 := slotE e1; go_simp; exact hK _ _ hW.same (kp_refl _) ⟨x, rfl, hx⟩)
    · (intro o ho m a w1 hm hW hb hd K Q hK; obtain rfl := Option.some.inj ho; obtain ⟨b, cs, t, fr, e1, hbg, hh, hC⟩ := (hd 6 (by kernel_rfl) 17 rfl); obtain ⟨z, e2, hz0, hz1⟩ := (hd 11 (by kernel_rfl) 22 rfl); obtain ⟨k, rfl⟩ := Int.eq_ofNat_of_zero_le hz0; have e1 := slotE e1; have e2 := slotE e2; have hk2 : (k : Int) < 4 := (by omega); go_simp; exact hK _ _ hW.same (kp_refl _) (row_txt hbg hh hC (by omega)))
    · (intro o ho m a w1 hm hW hb hd K Q hK; obtain rfl := Option.some.inj ho; obtain ⟨b, o, x, e1, hbg, hc, hx⟩ := (hd 12 (by kernel_rfl) 23 rfl); have e1 := slotE e1; go_simp; exact hK _ _ hW.same (kp_refl _) ⟨x, rfl, hx⟩)
    · (intro o ho m a w1 hm hW hb hd K Q hK; obtain rfl := Option.some.inj ho; have e1 := slotE (hd 0 (by kernel_rfl) 11 rfl); go_simp; exact hK _ _ hW.same (kp_refl _) rfl)
    · (intro o ho m a w1 hm hW hb hd K Q hK; obtain rfl := Option.some.inj ho; obtain ⟨x, e1, hx⟩ := (hd 5 (by kernel_rfl) 16 rfl); have e1 := slotE e1; go_simp; exact hK _ _ hW.same (kp_refl _) ⟨x, rfl, hx⟩)
  case hW => exact ⟨(HR2.out.keep (Below.refl _ _).drew).more (by omega), grown_drew (grown_refl _ _)⟩
  case hfin =>
    intro vs w3 hW hF
    simp only [putAll, hdst, List.getElem?_cons_succ, List.getElem?_cons_zero, Option.bind, List.drop_succ_cons, List.drop_zero, Act.put]
    obtain ⟨l, h15, hl⟩ := hF 15 (by omega)
    obtain ⟨t, h13, ht⟩ := hF 13 (by omega)
    have h14 : vs 14 = .slice A2 ps.length c2 := hF 14 (by omega)
    rw [h15, h13, h14]
    obtain ⟨hr3, hg3⟩ := hW
    have H3 : Hid (DrewPsTT w (.returned (.tuple #[.slice A2 (List.length ps) c2, .string ⟨l.toArray⟩, .string ⟨t.toArray⟩])) w3) :=
      ⟨A2, c2, ps, l, t, rfl, own_base (own_g HO2.out hg3 hz1) (by omega), HS2.out, hn2, hl, ht, HB2.out.trans (grown_to_below hg3 HB2.out.size (fun g h => by injection h; omega))⟩
    clear hF h13 h14 h15 hr3 hg3
    go_simp
    go_wp2
    go_ret3
    exact H3.out
end Go.Proofs.Ytaipignkkbknfaa
