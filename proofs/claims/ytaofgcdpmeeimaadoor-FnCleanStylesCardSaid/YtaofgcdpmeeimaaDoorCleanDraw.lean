/- Drawn styles and texts of styles: walks. -/
import Derived.Test.YtaofgcdpmeeimaaDoorStyleDraw
import Derived.Test.YtaofgcdpmeeimaaDoorDrawS
import Derived.Test.YtaofgcdpmeeimaaDoorStylesText
import Derived.Deep.RegionWith
namespace Go.Proofs.YtaofgcdpmeeimaaDoor
open Go.RowKit

set_option maxRecDepth 100000 in
set_option maxHeartbeats 1600000 in
theorem spec_DrawStylesText (bs : Tx) (A : Option Addr) (c : Nat) (w : World) (hr : Rd w w.heap.size A (bcells bs)) (hc : bs.length ≤ c) (hm : bs.length ≤ 1048576) :
    Calls Tryd.prog 15 #[.slice A bs.length c] w (DrewPs w) := by
  have HR := Lib.hid hr
  clear hr
  go_enter Tryd.func15, Tryd.ntmps15
  go_wp2_with fail
  refine (spec_l20Open bs w.heap.size A c _ HR.out (Nat.le_refl _) hc hm).mono ?_
  rintro e w1 ⟨rfl, hr1, hb1⟩
  have HR1 := Lib.hid hr1
  have HB1 := Lib.hid hb1
  have hz1 : w.heap.size < w1.heap.size := hr1.lt
  clear hr1 hb1
  go_wp2_with fail
  refine (spec_pick w.heap.size w.heap.size 0 8 _ (HR1.out.keep ((Below.refl _ _).alloc (Nat.le_refl _) _)) (by omega) (by omega) (by omega)).mono ?_
  rintro e w2 ⟨k0, rfl, hk0, hr2, hg2⟩
  have hown2 : OwnP w2 w1.heap.size (some ⟨w1.heap.size, 0, none⟩) 0 [] := (ownP_empty w1 w1.heap.size (Nat.le_refl _)).kept hg2 (.inr (by simp [Value.ownBlock]; omega))
  have HR2 := Lib.hid hr2
  have HG2 := Lib.hid (grown_trans (World.grownBy_alloc w1 _ _) hg2)
  have HO2 := Lib.hid hown2
  have hk5 : k0 ≤ 8 := by omega
  clear hr2 hg2 hown2 hk0
  go_wp2
  go_loopw [4, 5] (fun v i wr => ∃ (k : Nat) (A : Option Addr) (c : Nat) (ps : List Pr), i = .int .i64 (k : Int) ∧ v = .slice A ps.length c ∧ k + ps.length ≤ 8 ∧ OwnP wr w1.heap.size A c ps ∧ Small ps ∧ Rdr wr w.heap.size w.heap.size (0 + 1 + 2 * ps.length) ∧ w1.grownBy wr (some w.heap.size)) (fun _ i _ => (intOf i).toNat)
  case atStart => exact ⟨k0, _, 0, [], rfl, rfl, by simpa using hk5, HO2.out, ⟨by simp, fun p hp => by cases hp⟩, HR2.out, HG2.out⟩
  case round =>
    obtain ⟨k, A, c, ps, rfl, rfl, hkn, ho, hsm, hrd, hgr⟩ := hrel
    have HO := Lib.hid ho
    have HSM := Lib.hid hsm
    have HRD := Lib.hid hrd
    have HGR := Lib.hid hgr
    clear ho hsm hrd hgr
    by_cases hk : 0 < k
    · go_wp2_with fail
      refine (spec_l20Style w.heap.size w.heap.size _ 30 _ HRD.out (by omega) (by omega) (by omega)).mono ?_
      rintro e w3 ⟨x, y, rfl, hx, hy, hr3, hg3⟩
      have HR3 := Lib.hid hr3
      have HG3 := Lib.hid (grown_trans HGR.out hg3)
      have HO3 := Lib.hid (own_g HO.out hg3 hz1)
      have hsz3 := HG3.out.size
      clear hr3 hg3
      go_wp2_with (at_builtin; refine app_pair rfl _ _ rfl w1.heap.size A c _ ps (x, y) (by rfl) rfl HO3.out _ (by rfl) rfl ?_ ?_ ?_; (focus omega); (focus omega); intro A4 c4 w4 ho4 hg4)
      go_roundw
      case rel =>
        refine ⟨k - 1, A4, c4, ps ++ [(x, y)], by go_num, by simp, by simp; omega, ho4, ⟨by simp; omega, ?_⟩, ?_, ?_⟩
        · intro p hp
          rcases List.mem_append.1 hp with hp | hp
          · exact HSM.out.2 p hp
          · simp at hp; subst hp; exact ⟨hx, hy⟩
        · exact (HR3.out.frame hg4 (own_lt HO3.out hz1)).more (by simp; omega)
        · exact grown_own HG3.out hg4 (Nat.le_refl _) (ownP_row HO3.out)
      case measure => simp [intOf]; omega
    · have hk0 : k = 0 := by omega
      subst hk0
      go_wp2
      go_ret
      exact ⟨A, c, ps, rfl, own_base HO.out (by omega), HSM.out, by omega, below_reader HB1.out HGR.out⟩

set_option maxRecDepth 100000 in
set_option maxHeartbeats 1600000 in
theorem spec_DrawCleanStyles (bs : Tx) (A : Option Addr) (c : Nat) (w : World) (hr : Rd w w.heap.size A (bcells bs)) (hc : bs.length ≤ c) (hm : bs.length ≤ 1048576) :
    Calls Tryd.prog 25 #[.slice A bs.length c] w (DrewT w 10000) := by
  have HR := Lib.hid hr
  clear hr
  go_enter Tryd.func25, Tryd.ntmps25
  go_wp2_with fail
  refine (spec_l20Open bs w.heap.size A c _ HR.out (Nat.le_refl _) hc hm).mono ?_
  rintro e w1 ⟨rfl, hr1, hb1⟩
  have HR1 := Lib.hid hr1
  have HB1 := Lib.hid hb1
  have hz1 : w.heap.size < w1.heap.size := hr1.lt
  clear hr1 hb1
  go_wp2_with fail
  refine (spec_pick w.heap.size w.heap.size 0 9 _ HR1.out (by omega) (by omega) (by omega)).mono ?_
  rintro e w2 ⟨k0, rfl, hk0, hr2, hg2⟩
  have HR2 := Lib.hid hr2
  have HG2 := Lib.hid hg2
  have hk5 : k0 ≤ 9 := by omega
  clear hr2 hg2 hk0
  go_wp2
  go_loopw [4, 5] (fun v i wr => ∃ (k : Nat) (l : Tx), i = .int .i64 (k : Int) ∧ v = .string ⟨l.toArray⟩ ∧ k ≤ 9 ∧ l.length + 500 * k ≤ 4500 ∧ Rdr wr w.heap.size w.heap.size (400 - 40 * k) ∧ w1.grownBy wr (some w.heap.size)) (fun _ i _ => (intOf i).toNat)
  case atStart => exact ⟨k0, [], rfl, rfl, hk5, by simp; omega, HR2.out.more (by omega), HG2.out⟩
  case round =>
    obtain ⟨k, l, rfl, rfl, hk9, hl, hrd, hgr⟩ := hrel
    have HRD := Lib.hid hrd
    have HGR := Lib.hid hgr
    clear hrd hgr
    by_cases hk : 0 < k
    · go_wp2_with fail
      refine (spec_l20Style w.heap.size w.heap.size _ 3 _ HRD.out (by omega) (by omega) (by omega)).mono ?_
      rintro e w3 ⟨x, y, rfl, hx, hy, hr3, hg3⟩
      have HR3 := Lib.hid hr3
      have HG3 := Lib.hid (grown_trans HGR.out hg3)
      have hsz3 := HG3.out.size
      have hne : w3.heap.size ≠ w.heap.size := by omega
      have HX : Hid ((w3.alloc (.cells #[sv x, sv y] 35)).cell? ⟨w3.heap.size, 0, none⟩ = some (sv x)) := by show _ = _; rw [World.cell?_alloc_at _ _ _ _ rfl]; rfl
      have HY : Hid ((w3.alloc (.cells #[sv x, sv y] 35)).cell? ⟨w3.heap.size, 1, none⟩ = some (sv y)) := by show _ = _; rw [World.cell?_alloc_at _ _ _ _ rfl]; rfl
      clear hr3 hg3
      go_wp2_with fail
      refine wp_region_typed 28 (by kernel_rfl) (by kernel_rfl) (DW (w3.alloc (.cells #[sv x, sv y] 35)) w.heap.size w.heap.size (400 - 40 * k + 2)) (Kp w.heap.size) (fun i => ([tTxt l.length, tRow w.heap.size 3 (cTxt 100 3), tIs (.pointer (some ⟨w.heap.size, 0, none⟩)), tNum 3, tAdrS w.heap.size 100, tTxt 100, tTxt (l.length + 100), tIs (.pointer (some ⟨w3.heap.size, 0, none⟩)), tTxt 100, tTxt (l.length + 200), tRow w.heap.size 3 (cTxt 100 3), tRow w.heap.size 4 (cInt 0 2 4), tIs (.pointer (some ⟨w.heap.size, 0, none⟩)), tNum 4, tAdrI w.heap.size 0 2, tInt 0 2, tAdrS w.heap.size 100, tTxt 100, tTxt (l.length + 300), tIs (.pointer (some ⟨w3.heap.size, 1, none⟩)), tTxt 100, tTxt (l.length + 400), tRow w.heap.size 3 (cTxt 100 3), tIs (.pointer (some ⟨w.heap.size, 0, none⟩)), tNum 3, tAdrS w.heap.size 100, tTxt 100, tTxt (l.length + 500)] : List Ty).getD i tAny) ?hW ?hkeep ?hstep ?hfin
      case hkeep =>
        refine all_lt_succ (all_lt_succ (all_lt_succ (all_lt_succ (all_lt_succ (all_lt_succ (all_lt_succ (all_lt_succ (all_lt_succ (all_lt_succ (all_lt_succ (all_lt_succ (all_lt_succ (all_lt_succ (all_lt_succ (all_lt_succ (all_lt_succ (all_lt_succ (all_lt_succ (all_lt_succ (all_lt_succ (all_lt_succ (all_lt_succ (all_lt_succ (all_lt_succ (all_lt_succ (all_lt_succ (all_lt_succ all_lt_zero ?_) ?_) ?_) ?_) ?_) ?_) ?_) ?_) ?_) ?_) ?_) ?_) ?_) ?_) ?_) ?_) ?_) ?_) ?_) ?_) ?_) ?_) ?_) ?_) ?_) ?_) ?_) ?_
        · exact stays_txt _
        · exact stays_row _ _
        · exact stays_is _
        · exact stays_num _
        · exact stays_adrS _
        · exact stays_txt _
        · exact stays_txt _
        · exact stays_is _
        · exact stays_txt _
        · exact stays_txt _
        · exact stays_row _ _
        · exact stays_row _ _
        · exact stays_is _
        · exact stays_num _
        · exact stays_adrI _ _
        · exact stays_int _ _
        · exact stays_adrS _
        · exact stays_txt _
        · exact stays_txt _
        · exact stays_is _
        · exact stays_txt _
        · exact stays_txt _
        · exact stays_row _ _
        · exact stays_is _
        · exact stays_num _
        · exact stays_adrS _
        · exact stays_txt _
        · exact stays_txt _
      case hstep =>
        refine all_lt_succ (all_lt_succ (all_lt_succ (all_lt_succ (all_lt_succ (all_lt_succ (all_lt_succ (all_lt_succ (all_lt_succ (all_lt_succ (all_lt_succ (all_lt_succ (all_lt_succ (all_lt_succ (all_lt_succ (all_lt_succ (all_lt_succ (all_lt_succ (all_lt_succ (all_lt_succ (all_lt_succ (all_lt_succ (all_lt_succ (all_lt_succ (all_lt_succ (all_lt_succ (all_lt_succ (all_lt_succ all_lt_zero ?_) ?_) ?_) ?_) ?_) ?_) ?_) ?_) ?_) ?_) ?_) ?_) ?_) ?_) ?_) ?_) ?_) ?_) ?_) ?_) ?_) ?_) ?_) ?_) ?_) ?_) ?_) ?_
        · (intro o ho m a w1 hm hW hb hd K Q hK; obtain rfl := Option.some.inj ho; have e0 : a.tmps[4]?.getD undef = sv l := (by rw [hb 4 (by decide +kernel)]; simp); go_simp; exact hK _ _ hW.same (kp_refl _) ⟨_, rfl, by omega⟩)
        · (intro o ho m a w1 hm hW hb hd K Q hK; obtain rfl := Option.some.inj ho; go_simp; exact hK _ _ (hW.next ((Below.refl _ _).alloc (Nat.le_refl _) _)) (kp_below ((Below.refl _ _).alloc (Nat.le_refl _) _)) ⟨_, _, _, _, rfl, hW.new, heap_alloc_new w1 _, by decide +kernel⟩)
        · (intro o ho m a w1 hm hW hb hd K Q hK; obtain rfl := Option.some.inj ho; have e0 : a.tmps[3]?.getD undef = (.pointer (some ⟨w.heap.size, 0, none⟩)) := (by rw [hb 3 (by decide +kernel)]; simp); go_simp; exact hK _ _ hW.same (kp_refl _) rfl)
        · (intro o ho m a w1 hm hW hb hd K Q hK; obtain rfl := Option.some.inj ho; have e1 := slotE (hd 2 (by kernel_rfl) 19 rfl); go_simp; refine (spec_pick _ _ _ _ w1 hW.1 (by omega) (by omega) (by omega)).mono ?_; rintro e w2 ⟨k, rfl, hk, hr2, hg2⟩; exact hK _ _ ⟨hr2.more (by omega), grown_trans hW.2 hg2⟩ hg2 ⟨k, rfl, hk⟩)
        · (intro o ho m a w1 hm hW hb hd K Q hK; obtain rfl := Option.some.inj ho; obtain ⟨b, cs, t, fr, e1, hbg, hh, hC⟩ := (hd 1 (by kernel_rfl) 18 rfl); obtain ⟨k, e2, hk⟩ := (hd 3 (by kernel_rfl) 20 rfl); have e1 := slotE e1; have e2 := slotE e2; have hk2 := num_lt hk (by omega); go_simp; exact hK _ _ hW.same (kp_refl _) (row_txt hbg hh hC (by omega)))
        · (intro o ho m a w1 hm hW hb hd K Q hK; obtain rfl := Option.some.inj ho; obtain ⟨b, o, x, e1, hbg, hc, hx⟩ := (hd 4 (by kernel_rfl) 21 rfl); have e1 := slotE e1; go_simp; exact hK _ _ hW.same (kp_refl _) ⟨x, rfl, hx⟩)
        · (intro o ho m a w1 hm hW hb hd K Q hK; obtain rfl := Option.some.inj ho; obtain ⟨x, e1, hx⟩ := (hd 0 (by kernel_rfl) 17 rfl); obtain ⟨y, e2, hy⟩ := (hd 5 (by kernel_rfl) 22 rfl); have e1 := slotE e1; have e2 := slotE e2; have hsum : (9223372036854775807 < x.length + y.length) = False := (by rw [eq_iff_iff, iff_false]; omega); go_simp; exact hK _ _ hW.same (kp_refl _) ⟨x ++ y, rfl, by simp; omega⟩)
        · (intro o ho m a w1 hm hW hb hd K Q hK; obtain rfl := Option.some.inj ho; have e0 : a.tmps[6]?.getD undef = .pointer (some ⟨w3.heap.size, 0, none⟩) := (by rw [hb 6 (by decide +kernel)]; simp); go_simp; exact hK _ _ hW.same (kp_refl _) rfl)
        · (intro o ho m a w1 hm hW hb hd K Q hK; obtain rfl := Option.some.inj ho; have e1 := slotE (hd 7 (by kernel_rfl) 24 rfl); have hcw := kp_cell hW.2 hne HX.out; go_simp; exact hK _ _ hW.same (kp_refl _) ⟨_, rfl, by omega⟩)
        · (intro o ho m a w1 hm hW hb hd K Q hK; obtain rfl := Option.some.inj ho; obtain ⟨x, e1, hx⟩ := (hd 6 (by kernel_rfl) 23 rfl); obtain ⟨y, e2, hy⟩ := (hd 8 (by kernel_rfl) 25 rfl); have e1 := slotE e1; have e2 := slotE e2; have hsum : (9223372036854775807 < x.length + y.length) = False := (by rw [eq_iff_iff, iff_false]; omega); go_simp; exact hK _ _ hW.same (kp_refl _) ⟨x ++ y, rfl, by simp; omega⟩)
        · (intro o ho m a w1 hm hW hb hd K Q hK; obtain rfl := Option.some.inj ho; go_simp; exact hK _ _ (hW.next ((Below.refl _ _).alloc (Nat.le_refl _) _)) (kp_below ((Below.refl _ _).alloc (Nat.le_refl _) _)) ⟨_, _, _, _, rfl, hW.new, heap_alloc_new w1 _, by decide +kernel⟩)
        · (intro o ho m a w1 hm hW hb hd K Q hK; obtain rfl := Option.some.inj ho; go_simp; exact hK _ _ (hW.next ((Below.refl _ _).alloc (Nat.le_refl _) _)) (kp_below ((Below.refl _ _).alloc (Nat.le_refl _) _)) ⟨_, _, _, _, rfl, hW.new, heap_alloc_new w1 _, by decide +kernel⟩)
        · (intro o ho m a w1 hm hW hb hd K Q hK; obtain rfl := Option.some.inj ho; have e0 : a.tmps[3]?.getD undef = (.pointer (some ⟨w.heap.size, 0, none⟩)) := (by rw [hb 3 (by decide +kernel)]; simp); go_simp; exact hK _ _ hW.same (kp_refl _) rfl)
        · (intro o ho m a w1 hm hW hb hd K Q hK; obtain rfl := Option.some.inj ho; have e1 := slotE (hd 12 (by kernel_rfl) 29 rfl); go_simp; refine (spec_pick _ _ _ _ w1 hW.1 (by omega) (by omega) (by omega)).mono ?_; rintro e w2 ⟨k, rfl, hk, hr2, hg2⟩; exact hK _ _ ⟨hr2.more (by omega), grown_trans hW.2 hg2⟩ hg2 ⟨k, rfl, hk⟩)
        · (intro o ho m a w1 hm hW hb hd K Q hK; obtain rfl := Option.some.inj ho; obtain ⟨b, cs, t, fr, e1, hbg, hh, hC⟩ := (hd 11 (by kernel_rfl) 28 rfl); obtain ⟨k, e2, hk⟩ := (hd 13 (by kernel_rfl) 30 rfl); have e1 := slotE e1; have e2 := slotE e2; have hk2 := num_lt hk (by omega); go_simp; exact hK _ _ hW.same (kp_refl _) (row_int hbg hh hC (by omega)))
        · (intro o ho m a w1 hm hW hb hd K Q hK; obtain rfl := Option.some.inj ho; obtain ⟨b, o, x, e1, hbg, hc, hx⟩ := (hd 14 (by kernel_rfl) 31 rfl); have e1 := slotE e1; go_simp; exact hK _ _ hW.same (kp_refl _) ⟨x, rfl, hx⟩)
        · (intro o ho m a w1 hm hW hb hd K Q hK; obtain rfl := Option.some.inj ho; obtain ⟨b, cs, t, fr, e1, hbg, hh, hC⟩ := (hd 10 (by kernel_rfl) 27 rfl); obtain ⟨z, e2, hz0, hz1⟩ := (hd 15 (by kernel_rfl) 32 rfl); obtain ⟨k, rfl⟩ := Int.eq_ofNat_of_zero_le hz0; have e1 := slotE e1; have e2 := slotE e2; have hk2 : (k : Int) < 3 := (by omega); go_simp; exact hK _ _ hW.same (kp_refl _) (row_txt hbg hh hC (by omega)))
        · (intro o ho m a w1 hm hW hb hd K Q hK; obtain rfl := Option.some.inj ho; obtain ⟨b, o, x, e1, hbg, hc, hx⟩ := (hd 16 (by kernel_rfl) 33 rfl); have e1 := slotE e1; go_simp; exact hK _ _ hW.same (kp_refl _) ⟨x, rfl, hx⟩)
        · (intro o ho m a w1 hm hW hb hd K Q hK; obtain rfl := Option.some.inj ho; obtain ⟨x, e1, hx⟩ := (hd 9 (by kernel_rfl) 26 rfl); obtain ⟨y, e2, hy⟩ := (hd 17 (by kernel_rfl) 34 rfl); have e1 := slotE e1; have e2 := slotE e2; have hsum : (9223372036854775807 < x.length + y.length) = False := (by rw [eq_iff_iff, iff_false]; omega); go_simp; exact hK _ _ hW.same (kp_refl _) ⟨x ++ y, rfl, by simp; omega⟩)
        · (intro o ho m a w1 hm hW hb hd K Q hK; obtain rfl := Option.some.inj ho; have e0 : a.tmps[6]?.getD undef = .pointer (some ⟨w3.heap.size, 0, none⟩) := (by rw [hb 6 (by decide +kernel)]; simp); go_simp; exact hK _ _ hW.same (kp_refl _) rfl)
        · (intro o ho m a w1 hm hW hb hd K Q hK; obtain rfl := Option.some.inj ho; have e1 := slotE (hd 19 (by kernel_rfl) 36 rfl); have hcw := kp_cell hW.2 hne HY.out; go_simp; exact hK _ _ hW.same (kp_refl _) ⟨_, rfl, by omega⟩)
        · (intro o ho m a w1 hm hW hb hd K Q hK; obtain rfl := Option.some.inj ho; obtain ⟨x, e1, hx⟩ := (hd 18 (by kernel_rfl) 35 rfl); obtain ⟨y, e2, hy⟩ := (hd 20 (by kernel_rfl) 37 rfl); have e1 := slotE e1; have e2 := slotE e2; have hsum : (9223372036854775807 < x.length + y.length) = False := (by rw [eq_iff_iff, iff_false]; omega); go_simp; exact hK _ _ hW.same (kp_refl _) ⟨x ++ y, rfl, by simp; omega⟩)
        · (intro o ho m a w1 hm hW hb hd K Q hK; obtain rfl := Option.some.inj ho; go_simp; exact hK _ _ (hW.next ((Below.refl _ _).alloc (Nat.le_refl _) _)) (kp_below ((Below.refl _ _).alloc (Nat.le_refl _) _)) ⟨_, _, _, _, rfl, hW.new, heap_alloc_new w1 _, by decide +kernel⟩)
        · (intro o ho m a w1 hm hW hb hd K Q hK; obtain rfl := Option.some.inj ho; have e0 : a.tmps[3]?.getD undef = (.pointer (some ⟨w.heap.size, 0, none⟩)) := (by rw [hb 3 (by decide +kernel)]; simp); go_simp; exact hK _ _ hW.same (kp_refl _) rfl)
        · (intro o ho m a w1 hm hW hb hd K Q hK; obtain rfl := Option.some.inj ho; have e1 := slotE (hd 23 (by kernel_rfl) 40 rfl); go_simp; refine (spec_pick _ _ _ _ w1 hW.1 (by omega) (by omega) (by omega)).mono ?_; rintro e w2 ⟨k, rfl, hk, hr2, hg2⟩; exact hK _ _ ⟨hr2.more (by omega), grown_trans hW.2 hg2⟩ hg2 ⟨k, rfl, hk⟩)
        · (intro o ho m a w1 hm hW hb hd K Q hK; obtain rfl := Option.some.inj ho; obtain ⟨b, cs, t, fr, e1, hbg, hh, hC⟩ := (hd 22 (by kernel_rfl) 39 rfl); obtain ⟨k, e2, hk⟩ := (hd 24 (by kernel_rfl) 41 rfl); have e1 := slotE e1; have e2 := slotE e2; have hk2 := num_lt hk (by omega); go_simp; exact hK _ _ hW.same (kp_refl _) (row_txt hbg hh hC (by omega)))
        · (intro o ho m a w1 hm hW hb hd K Q hK; obtain rfl := Option.some.inj ho; obtain ⟨b, o, x, e1, hbg, hc, hx⟩ := (hd 25 (by kernel_rfl) 42 rfl); have e1 := slotE e1; go_simp; exact hK _ _ hW.same (kp_refl _) ⟨x, rfl, hx⟩)
        · (intro o ho m a w1 hm hW hb hd K Q hK; obtain rfl := Option.some.inj ho; obtain ⟨x, e1, hx⟩ := (hd 21 (by kernel_rfl) 38 rfl); obtain ⟨y, e2, hy⟩ := (hd 26 (by kernel_rfl) 43 rfl); have e1 := slotE e1; have e2 := slotE e2; have hsum : (9223372036854775807 < x.length + y.length) = False := (by rw [eq_iff_iff, iff_false]; omega); go_simp; exact hK _ _ hW.same (kp_refl _) ⟨x ++ y, rfl, by simp; omega⟩)
      case hW => exact ⟨(HR3.out.keep ((Below.refl _ _).alloc (Nat.le_refl _) _).drew).more (by omega), grown_drew (grown_refl _ _)⟩
      case hfin =>
        intro vs w4 hW hF
        simp only [putAll, hdst, List.getElem?_cons_succ, List.getElem?_cons_zero, Option.bind, List.drop_succ_cons, List.drop_zero, Act.put]
        obtain ⟨t, h27, ht⟩ := hF 27 (by omega)
        rw [h27]
        obtain ⟨hr4, hg4⟩ := hW
        have HR4 := Lib.hid hr4
        have HG4 := Lib.hid (grown_trans (grown_alloc HG3.out (.cells #[sv x, sv y] 35)) hg4)
        clear hF h27 hr4 hg4 hne HX HY
        go_simp
        go_wp2
        go_roundw
        case rel => exact ⟨k - 1, t, by go_num, rfl, by omega, by omega, HR4.out.more (by omega), HG4.out⟩
        case measure => simp [intOf]; omega
    · have hk0 : k = 0 := by omega
      subst hk0
      go_wp2
      go_ret
      exact ⟨l, rfl, by omega, below_reader HB1.out HGR.out⟩
end Go.Proofs.YtaofgcdpmeeimaaDoor
