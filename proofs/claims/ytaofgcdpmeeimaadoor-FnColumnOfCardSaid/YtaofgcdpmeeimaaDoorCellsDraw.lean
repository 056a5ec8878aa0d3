/- Drawn rows of cells: walks. -/
import Derived.Test.YtaofgcdpmeeimaaDoorDrawS
import Derived.Test.YtaofgcdpmeeimaaDoorRow
import Derived.Deep.RegionWith
namespace Go.Proofs.YtaofgcdpmeeimaaDoor
open Go.RowKit

theorem cells_lit {w : World} (k : Nat) (hk : k ≤ 7) : OwnS (w.alloc (.cells (madeCells #[Value.string ⟨#[]⟩] k) 9)) w.heap.size (some ⟨w.heap.size, 0, none⟩) k (List.replicate k []) := by
  have h := World.ownsRow_lit (e := 9) w (madeCells #[Value.string ⟨#[]⟩] k) (size := 1) k (Nat.le_refl _) (by unfold maxLen; omega) ((size_madeCells _ _).trans (by omega))
  unfold OwnS
  rw [List.length_replicate]
  have e : (madeCells #[Value.string ⟨#[]⟩] k).toList = (List.replicate k ([] : Tx)).map sv := by
    obtain rfl | rfl | rfl | rfl | rfl | rfl | rfl | rfl : k = 0 ∨ k = 1 ∨ k = 2 ∨ k = 3 ∨ k = 4 ∨ k = 5 ∨ k = 6 ∨ k = 7 := by omega
    all_goals kernel_rfl
  rw [← e]
  exact h
set_option maxRecDepth 100000 in
set_option maxHeartbeats 800000 in
theorem spec_l20Cells (B g q : Nat) (n : Int) (w : World) (h : Rdr w B g q) (hq : q ≤ 100000000) (hn : n ≤ 1000000000) (hn0 : -1000000000 ≤ n) :
    Calls Tryd.prog 78 #[.pointer (some ⟨g, 0, none⟩), .int .i64 n] w (DrawnSs w B g q 200 10 100) := by
  have hlt := h.lt
  have H := Lib.hid h
  clear h
  obtain ⟨i0, hi, hz0, hz1, hz2⟩ := info_parts Tryd.info_string
  have HMK := Lib.hid (fun (k : Nat) (hk : k ≤ 7) w => make_row (P := Tryd.prog) Tryd.underlying39 hi hz0 hz1 hz2 k (by omega) (by omega) w)
  clear hi hz0 hz1 hz2
  go_enter Tryd.func78, Tryd.ntmps78
  go_wp2_with fail
  refine (spec_pick B g q 5 _ (H.out.keep ((Below.refl _ _).alloc (Nat.le_refl _) _)) (by omega) (by omega) (by omega)).mono ?_
  rintro e w1 ⟨k0, rfl, hk0, hr1, hg1⟩
  have hz1 : w.heap.size < w1.heap.size := by have := hg1.size; simp at this; omega
  have hown1 : OwnS w1 w.heap.size (some ⟨w.heap.size, 0, none⟩) 0 [] := (ownS_empty w w.heap.size (Nat.le_refl _)).kept hg1 (.inr (by simp [Value.ownBlock]; omega))
  have HR1 := Lib.hid hr1
  have HG1 := Lib.hid (grown_trans (World.grownBy_alloc w _ _) hg1)
  have HO1 := Lib.hid hown1
  have hk5 : k0 ≤ 5 := by omega
  clear hr1 hg1 hown1 hk0
  go_wp2
  go_loopw [5, 6] (fun v i wr => ∃ (k : Nat) (A : Option Addr) (c : Nat) (xs : List Tx), i = .int .i64 (k : Int) ∧ v = .slice A xs.length c ∧ k + xs.length ≤ 6 ∧ 1 ≤ k + xs.length ∧ OwnS wr w.heap.size A c xs ∧ ShortS 100 xs ∧ Rdr wr B g (q + 1 + 20 * xs.length) ∧ w.grownBy wr (some g)) (fun _ i _ => (intOf i).toNat)
  case atStart => exact ⟨k0 + 1, _, 0, [], by go_num, rfl, by simpa using hk5, by simp, HO1.out, (fun p hp => by cases hp), HR1.out, HG1.out⟩
  case round =>
    obtain ⟨k, A, c, xs, rfl, rfl, hkn, hk1, ho, hsm, hrd, hgr⟩ := hrel
    have HO := Lib.hid ho
    have HSM := Lib.hid hsm
    have HRD := Lib.hid hrd
    have HGR := Lib.hid hgr
    clear ho hsm hrd hgr
    by_cases hk : 0 < k
    · have hltr := HRD.out.lt
      go_wp2_with fail
      refine (spec_pick B g _ 8 _ (HRD.out.keep ((Below.refl _ _).alloc (Nat.le_refl _) _)) (by omega) (by omega) (by omega)).mono ?_
      rintro e w3 ⟨k3, rfl, hk3, hr3, hg3⟩
      have hlit : w3.heap[wr.heap.size]? = _ := (hg3.block wr.heap.size (by simp) (by simp; omega)).trans (heap_alloc_new wr _)
      obtain ⟨x, hxc, hx⟩ := lit_str (k := k3) (B := 100) (n := 8) hlit (by decide +kernel) (by rcases hk3 with hk3 | hk3 <;> omega)
      have HR3 := Lib.hid hr3
      have HG3 := Lib.hid (grown_trans (grown_alloc HGR.out _) hg3)
      have HO3 := Lib.hid (own_g (own_below HO.out ((Below.refl _ _).alloc (Nat.le_refl _) _)) hg3 hlt)
      have hsz3 := HG3.out.size
      clear hlit hr3 hg3
      go_wp2_with (at_builtin; refine app_str rfl _ _ rfl w.heap.size A c _ xs x (by rfl) rfl HO3.out _ (by rfl) rfl ?_ ?_ ?_; (focus omega); (focus omega); intro A4 c4 w4 ho4 hg4)
      go_roundw
      case rel =>
        refine ⟨k - 1, A4, c4, xs ++ [x], by go_num, by simp, by simp; omega, by simp; omega, ho4, shortS_snoc HSM.out hx, ?_, ?_⟩
        · exact (HR3.out.frame hg4 (own_lt HO3.out hlt)).more (by simp; omega)
        · exact grown_own HG3.out hg4 (Nat.le_refl _) (ownS_row HO3.out)
      case measure => simp [intOf]; omega
    · have hk0 : k = 0 := by omega
      subst hk0
      go_wp2_with fail
      refine (spec_odd B g _ n _ HRD.out (by omega) hn hn0).mono ?_
      rintro e w1 ⟨b1, rfl, hr1, hg1⟩
      have HR1 := Lib.hid hr1
      have HG1 := Lib.hid (grown_trans HGR.out hg1)
      have HO1 := Lib.hid (own_g HO.out hg1 hlt)
      have hsz1 := HG1.out.size
      clear hr1 hg1
      cases b1
      · go_wp2
        go_ret
        exact ⟨A, c, xs, rfl, HO1.out, by omega, HSM.out, HR1.out.more (by omega), HG1.out⟩
      · go_wp2_with fail
        refine (spec_pick B g _ 3 _ HR1.out (by omega) (by omega) (by omega)).mono ?_
        rintro e w2 ⟨k2, rfl, hk2, hr2, hg2⟩
        have HR2 := Lib.hid hr2
        have HG2 := Lib.hid (grown_trans HG1.out hg2)
        have HO2 := Lib.hid (own_g HO1.out hg2 hlt)
        have hsz2 := HG2.out.size
        obtain ⟨gb, rfl, hbg, hgw⟩ := own_some HO2.out (by omega)
        obtain ⟨hcell, hfree⟩ := ownS_at (k := 0) HO2.out (by omega)
        clear hr2 hg2
        obtain rfl | rfl | ⟨h20, h21⟩ : k2 = 0 ∨ k2 = 1 ∨ (((k2 : Int) == 0) = false ∧ ((k2 : Int) == 1) = false) := by
          by_cases h0 : k2 = 0
          · exact .inl h0
          · by_cases h1 : k2 = 1
            · exact .inr (.inl h1)
            · exact .inr (.inr ⟨by simp; omega, by simp; omega⟩)
        · go_wp2
          go_ret
          exact ⟨_, c, xs.set 0 [10], by simp, ownS_set HO2.out [10], by simp; omega, shortS_set HSM.out (by simp), (HR2.out.frame (row := some gb) (grown_set (grown_refl _ _) _ _) (fun k hk => by injection hk; omega)).more (by omega), grown_own HG2.out (grown_set (grown_refl _ _) _ _) (Nat.le_refl _) (fun k hk => by injection hk; omega)⟩
        · go_wp2
          go_ret
          exact ⟨_, c, xs.set 0 [49, 50, 51, 52, 53, 54, 55, 56, 57, 48, 49, 50, 51, 52, 53, 54, 55, 56, 57, 48, 49, 50, 51, 52, 53, 54, 55, 56, 57, 48, 49], by simp, ownS_set HO2.out _, by simp; omega, shortS_set HSM.out (by simp), (HR2.out.frame (row := some gb) (grown_set (grown_refl _ _) _ _) (fun k hk => by injection hk; omega)).more (by omega), grown_own HG2.out (grown_set (grown_refl _ _) _ _) (Nat.le_refl _) (fun k hk => by injection hk; omega)⟩
        · clear hk2 hcell hfree
          have hlt2 := HR2.out.lt
          go_wp2_with fail
          refine (spec_pick B g _ 2 _ (HR2.out.keep ((Below.refl _ _).alloc (Nat.le_refl _) _)) (by omega) (by omega) (by omega)).mono ?_
          rintro e w3 ⟨k3, rfl, hk3, hr3, hg3⟩
          have hlit : w3.heap[w2.heap.size]? = _ := (hg3.block w2.heap.size (by simp) (by simp; omega)).trans (heap_alloc_new w2 _)
          obtain ⟨z, hzc, hz0, hz7⟩ := lit_int (k := k3) (lo := 0) (hi := 7) (n := 2) hlit (by decide +kernel) (by rcases hk3 with hk3 | hk3 <;> omega)
          obtain ⟨m, rfl⟩ := Int.eq_ofNat_of_zero_le hz0
          have hm7 : m ≤ 7 := by omega
          have HR3 := Lib.hid hr3
          have HG3 := Lib.hid (grown_trans (grown_alloc HG2.out _) hg3)
          have hsz3 := HG3.out.size
          have hmk := HMK.out m hm7
          clear hlit hr3 hg3 hz0 hz7
          go_wp2
          go_ret
          exact ⟨some ⟨w3.heap.size, 0, none⟩, m, List.replicate m [], by simp, own_base (cells_lit m hm7) (by omega), by simp; omega, (fun x hx => by rw [List.eq_of_mem_replicate hx]; simp), (HR3.out.keep ((Below.refl _ _).alloc (Nat.le_refl _) _)).more (by omega), grown_alloc HG3.out _⟩


theorem rowText_len (ps : List Tx) : (rowText ps).length ≤ 400 := by
  unfold rowText
  split
  · rename_i h
    simp only [Bool.and_eq_true, decide_eq_true_eq, List.all_eq_true] at h
    obtain ⟨h6, hc⟩ := h
    refine join_len _ _ (64 * ps.length) 400 ?_ (by omega)
    unfold rowParts
    rw [List.take_length]
    clear h6
    induction ps with
    | nil => simp
    | cons c t ih =>
      have h1 := cellText_len c (cellOk_len (hc c (by simp)))
      have h2 := ih fun x hx => hc x (by simp [hx])
      simp only [List.map_cons, List.sum_cons, List.length_cons, comma, List.length_nil] at h2 ⊢
      omega
  · simp

set_option maxHeartbeats 800000 in
theorem spec_DrawRowText (bs : Tx) (A : Option Addr) (c : Nat) (w : World) (hr : Rd w w.heap.size A (bcells bs)) (hc : bs.length ≤ c) (hm : bs.length ≤ 1048576) :
    Calls Tryd.prog 39 #[.slice A bs.length c] w (DrewSn w 10 100) := by
  have HR := Lib.hid hr
  clear hr
  go_enter Tryd.func39, Tryd.ntmps39
  go_wp2_with fail
  refine (spec_l20Open bs w.heap.size A c _ HR.out (Nat.le_refl _) hc hm).mono ?_
  rintro e w1 ⟨rfl, hr1, hb1⟩
  have HR1 := Lib.hid hr1
  have HB1 := Lib.hid hb1
  clear hr1 hb1
  go_wp2_with fail
  refine (spec_l20Cells w.heap.size w.heap.size 0 _ _ HR1.out (by omega) (by omega) (by omega)).mono ?_
  rintro e w2 ⟨A2, c2, xs, rfl, ho2, hn2, hs2, hr2, hg2⟩
  have H2 : Hid (DrewSn w 10 100 (.returned (.slice A2 xs.length c2)) w2) := ⟨A2, c2, xs, rfl, own_base ho2 HB1.out.size, hn2, hs2, below_reader HB1.out hg2⟩
  clear ho2 hs2 hr2 hg2
  go_wp2
  go_ret
  exact H2.out

set_option maxHeartbeats 800000 in
theorem spec_l20Row (B g q : Nat) (n : Int) (w : World) (h : Rdr w B g q) (hq : q ≤ 10000000) (hn : n ≤ 1000000000) (hn0 : -1000000000 ≤ n) :
    Calls Tryd.prog 80 #[.pointer (some ⟨g, 0, none⟩), .int .i64 n] w (DrawnT w B g q 210 500) := by
  have hlt := h.lt
  have H := Lib.hid h
  clear h
  go_enter Tryd.func80, Tryd.ntmps80
  go_wp2_with fail
  refine (spec_l20Cells B g q _ _ H.out (by omega) (by omega) (by omega)).mono ?_
  rintro e w1 ⟨A1, c1, xs, rfl, ho1, hn1, hs1, hr1, hg1⟩
  have HR1 := Lib.hid hr1
  have HG1 := Lib.hid hg1
  have HO1 := Lib.hid ho1
  have HS1 := Lib.hid hs1
  clear hr1 hg1 ho1 hs1
  go_wp2_with fail
  refine (spec_RowText xs A1 c1 _ (ownS_rd HO1.out) (fun x hx => Nat.le_trans (HS1.out x hx) (by decide)) (by omega)).mono ?_
  have hsl := rowText_len xs
  generalize rowText xs = s at *
  rintro e w2 ⟨rfl, hb2⟩
  have HR2 := Lib.hid (HR1.out.keep hb2)
  have HG2 := Lib.hid (grown_below HG1.out hb2)
  have hz2 := HG2.out.size
  clear hb2
  go_wp2_with fail
  refine (spec_odd B g _ n _ HR2.out (by omega) hn hn0).mono ?_
  rintro e w3 ⟨b3, rfl, hr3, hg3⟩
  have HR3 := Lib.hid hr3
  have HG3 := Lib.hid (grown_trans HG2.out hg3)
  have hz3 := HG3.out.size
  clear hr3 hg3
  cases b3
  · go_wp2
    go_ret
    exact ⟨s, rfl, by omega, HR3.out.more (by omega), HG3.out⟩
  · have hlt3 := HR3.out.lt
    go_wp2_with fail
    refine (spec_pick B g _ 9 _ (HR3.out.keep ((Below.refl _ _).alloc (Nat.le_refl _) _)) (by omega) (by omega) (by omega)).mono ?_
    rintro e w4 ⟨k4, rfl, hk4, hr4, hg4⟩
    have hlit : w4.heap[w3.heap.size]? = _ := (hg4.block w3.heap.size (by simp) (by simp; omega)).trans (heap_alloc_new w3 _)
    obtain ⟨x, hxc, hx⟩ := lit_str (k := k4) (B := 500) (n := 9) hlit (by show okS _ _ _ = true; simp only [okS, Bool.and_eq_true, decide_eq_true_eq]; (repeat' apply And.intro) <;> first | assumption | trivial | decide | (simp [ByteArray.size]; omega)) (by rcases hk4 with hk4 | hk4 <;> omega)
    have HR4 := Lib.hid hr4
    have HG4 := Lib.hid (grown_trans (grown_alloc HG3.out _) hg4)
    clear hlit hr4 hg4
    go_wp2
    go_ret
    exact ⟨x, rfl, hx, HR4.out.more (by omega), HG4.out⟩

set_option maxHeartbeats 800000 in
theorem spec_DrawReadRow (bs : Tx) (A : Option Addr) (c : Nat) (w : World) (hr : Rd w w.heap.size A (bcells bs)) (hc : bs.length ≤ c) (hm : bs.length ≤ 1048576) :
    Calls Tryd.prog 45 #[.slice A bs.length c] w (DrewT w 500) := by
  have HR := Lib.hid hr
  clear hr
  go_enter Tryd.func45, Tryd.ntmps45
  go_wp2_with fail
  refine (spec_l20Open bs w.heap.size A c _ HR.out (Nat.le_refl _) hc hm).mono ?_
  rintro e w1 ⟨rfl, hr1, hb1⟩
  have HR1 := Lib.hid hr1
  have HB1 := Lib.hid hb1
  clear hr1 hb1
  go_wp2_with fail
  refine (spec_l20Row w.heap.size w.heap.size 0 _ _ HR1.out (by omega) (by omega) (by omega)).mono ?_
  rintro e w2 ⟨l, rfl, hl, hr2, hg2⟩
  have H2 : Hid (DrewT w 500 (.returned (.string ⟨l.toArray⟩)) w2) := ⟨l, rfl, hl, below_reader HB1.out hg2⟩
  clear hr2 hg2
  go_wp2
  go_ret
  exact H2.out

def DrewSI (w : World) (n L : Nat) (lo hi : Int) (e : Ending) (w' : World) : Prop :=
  ∃ A c xs, ∃ z : Int, e = .returned (.tuple #[.slice A (List.length xs) c, .int .i64 z]) ∧ lo ≤ z ∧ z ≤ hi ∧ OwnS w' w.heap.size A c xs ∧ xs.length ≤ n ∧ ShortS L xs ∧ Below w.heap.size w w'
set_option maxHeartbeats 1600000 in
theorem spec_DrawColumnOf (bs : Tx) (A : Option Addr) (c : Nat) (w : World) (hr : Rd w w.heap.size A (bcells bs)) (hc : bs.length ≤ c) (hm : bs.length ≤ 1048576) :
    Calls Tryd.prog 48 #[.slice A bs.length c] w (DrewSI w 4 500 (-1) 2) := by
  have HR := Lib.hid hr
  clear hr
  go_enter Tryd.func48, Tryd.ntmps48
  go_wp2_with fail
  refine (spec_l20Open bs w.heap.size A c _ HR.out (Nat.le_refl _) hc hm).mono ?_
  rintro e w1 ⟨rfl, hr1, hb1⟩
  have HR1 := Lib.hid hr1
  have HB1 := Lib.hid hb1
  have hz1 : w.heap.size < w1.heap.size := hr1.lt
  clear hr1 hb1
  go_wp2_with fail
  refine (spec_pick w.heap.size w.heap.size 0 4 _ (HR1.out.keep ((Below.refl _ _).alloc (Nat.le_refl _) _)) (by omega) (by omega) (by omega)).mono ?_
  rintro e w2 ⟨k0, rfl, hk0, hr2, hg2⟩
  have hown2 : OwnS w2 w1.heap.size (some ⟨w1.heap.size, 0, none⟩) 0 [] := (ownS_empty w1 w1.heap.size (Nat.le_refl _)).kept hg2 (.inr (by simp [Value.ownBlock]; omega))
  have HR2 := Lib.hid hr2
  have HG2 := Lib.hid (grown_trans (World.grownBy_alloc w1 _ _) hg2)
  have HO2 := Lib.hid hown2
  have hk5 : k0 ≤ 4 := by omega
  clear hr2 hg2 hown2 hk0
  go_wp2
  go_loopw [5, 6] (fun v i wr => ∃ (k : Nat) (A : Option Addr) (c : Nat) (xs : List Tx), i = .int .i64 (k : Int) ∧ v = .slice A xs.length c ∧ k + xs.length ≤ 4 ∧ OwnS wr w1.heap.size A c xs ∧ ShortS 500 xs ∧ Rdr wr w.heap.size w.heap.size (0 + 1 + 210 * xs.length) ∧ w1.grownBy wr (some w.heap.size)) (fun _ i _ => (intOf i).toNat)
  case atStart => exact ⟨k0, _, 0, [], rfl, rfl, by simpa using hk5, HO2.out, (fun p hp => by cases hp), HR2.out, HG2.out⟩
  case round =>
    obtain ⟨k, A, c, xs, rfl, rfl, hkn, ho, hsm, hrd, hgr⟩ := hrel
    have HO := Lib.hid ho
    have HSM := Lib.hid hsm
    have HRD := Lib.hid hrd
    have HGR := Lib.hid hgr
    clear ho hsm hrd hgr
    by_cases hk : 0 < k
    · go_wp2_with fail
      refine (spec_l20Row w.heap.size w.heap.size _ 20 _ HRD.out (by omega) (by omega) (by omega)).mono ?_
      rintro e w3 ⟨x, rfl, hx, hr3, hg3⟩
      have HR3 := Lib.hid hr3
      have HG3 := Lib.hid (grown_trans HGR.out hg3)
      have HO3 := Lib.hid (own_g HO.out hg3 hz1)
      have hsz3 := HG3.out.size
      clear hr3 hg3
      go_wp2_with (at_builtin; refine app_str rfl _ _ rfl w1.heap.size A c _ xs x (by rfl) rfl HO3.out _ (by rfl) rfl ?_ ?_ ?_; (focus omega); (focus omega); intro A4 c4 w4 ho4 hg4)
      go_roundw
      case rel =>
        refine ⟨k - 1, A4, c4, xs ++ [x], by go_num, by simp, by simp; omega, ho4, shortS_snoc HSM.out hx, ?_, ?_⟩
        · exact (HR3.out.frame hg4 (own_lt HO3.out hz1)).more (by simp; omega)
        · exact grown_own HG3.out hg4 (Nat.le_refl _) (ownS_row HO3.out)
      case measure => simp [intOf]; omega
    · have hk0 : k = 0 := by omega
      subst hk0
      go_wp2_with fail
      refine (spec_pick w.heap.size w.heap.size _ 3 _ HRD.out (by omega) (by omega) (by omega)).mono ?_
      rintro e w3 ⟨k3, rfl, hk3, hr3, hg3⟩
      have HR3 := Lib.hid hr3
      have HG3 := Lib.hid (grown_trans HGR.out hg3)
      have HO3 := Lib.hid (own_g HO.out hg3 hz1)
      have hk3' : k3 < 3 := by omega
      clear hr3 hg3 hk3
      go_wp2_with fail
      refine (spec_pick w.heap.size w.heap.size _ 14 _ HR3.out (by omega) (by omega) (by omega)).mono ?_
      rintro e w4 ⟨k4, rfl, hk4, hr4, hg4⟩
      have HR4 := Lib.hid hr4
      have HG4 := Lib.hid (grown_trans HG3.out hg4)
      have HO4 := Lib.hid (own_g HO3.out hg4 hz1)
      have hk4' : k4 < 14 := by omega
      clear hr4 hg4 hk4
      go_wp2
      go_ret2
      exact ⟨A, c, xs, _, rfl, by omega, by omega, own_base HO4.out (by omega), by omega, HSM.out, below_reader HB1.out HG4.out⟩
end Go.Proofs.YtaofgcdpmeeimaaDoor
