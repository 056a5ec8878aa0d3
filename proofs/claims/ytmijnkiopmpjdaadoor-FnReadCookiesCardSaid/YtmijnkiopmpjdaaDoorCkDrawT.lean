/- Drawn cookies with a time; drawn texts of cookies: walks. -/
import Derived.Test.YtmijnkiopmpjdaaDoorCookiesDraw
import Derived.Test.YtmijnkiopmpjdaaDoorDrawS
import Derived.Test.YtmijnkiopmpjdaaDoorCkText
namespace Go.Proofs.YtmijnkiopmpjdaaDoor
open Go.RowKit

theorem cookiesText_len (ps : List Ck) (now : Int) : (cookiesText ps now).length ≤ 800 := by
  unfold cookiesText
  split
  · rename_i h
    exact ck_len h now _
  · simp
def DrewCsI (w : World) (e : Ending) (w' : World) : Prop :=
  ∃ A c ps, ∃ k : Nat, e = .returned (.tuple #[.slice A (List.length ps) c, .int .i64 (k : Int)]) ∧ k ≤ 40 ∧ OwnC w' w.heap.size A c ps ∧ SmallC ps ∧ ps.length ≤ 10 ∧ Below w.heap.size w w'
set_option maxRecDepth 100000 in
set_option maxHeartbeats 800000 in
theorem spec_DrawCookiesText (bs : Tx) (A : Option Addr) (c : Nat) (w : World) (hr : Rd w w.heap.size A (bcells bs)) (hc : bs.length ≤ c) (hm : bs.length ≤ 1048576) :
    Calls Tryd.prog 18 #[.slice A bs.length c] w (DrewCsI w) := by
  have HR := Lib.hid hr
  clear hr
  go_enter Tryd.func18, Tryd.ntmps18
  go_wp2_with fail
  refine (spec_l20Open bs w.heap.size A c _ HR.out (Nat.le_refl _) hc hm).mono ?_
  rintro e w1 ⟨rfl, hr1, hb1⟩
  have HR1 := Lib.hid hr1
  have HB1 := Lib.hid hb1
  have hz1 : w.heap.size < w1.heap.size := hr1.lt
  clear hr1 hb1
  go_wp2_with fail
  refine (spec_l20Cookies w.heap.size w.heap.size 0 _ _ HR1.out (by omega) (by omega) (by omega)).mono ?_
  rintro e w2 ⟨A2, c2, ps, rfl, ho2, hs2, hn2, hr2, hg2⟩
  have HR2 := Lib.hid hr2
  have HO2 := Lib.hid ho2
  have HS2 := Lib.hid hs2
  have HG2 := Lib.hid hg2
  clear ho2 hs2 hr2 hg2
  go_wp2_with fail
  refine (spec_pick w.heap.size w.heap.size _ 40 _ HR2.out (by omega) (by omega) (by omega)).mono ?_
  rintro e w3 ⟨k3, rfl, hk3, hr3, hg3⟩
  have H3 : Hid (DrewCsI w (.returned (.tuple #[.slice A2 ps.length c2, .int .i64 (k3 : Int)])) w3) := ⟨A2, c2, ps, k3, rfl, by omega, own_base (own_g HO2.out hg3 hz1) (by omega), HS2.out, hn2, below_reader HB1.out (grown_trans HG2.out hg3)⟩
  clear hr3 hg3
  go_wp2
  go_ret2
  exact H3.out

set_option maxRecDepth 100000 in
set_option maxHeartbeats 800000 in
theorem spec_DrawReadCookies (bs : Tx) (A : Option Addr) (c : Nat) (w : World) (hr : Rd w w.heap.size A (bcells bs)) (hc : bs.length ≤ c) (hm : bs.length ≤ 1048576) :
    Calls Tryd.prog 24 #[.slice A bs.length c] w (DrewT w 1000) := by
  have HR := Lib.hid hr
  clear hr
  go_enter Tryd.func24, Tryd.ntmps24
  go_wp2_with fail
  refine (spec_l20Open bs w.heap.size A c _ HR.out (Nat.le_refl _) hc hm).mono ?_
  rintro e w1 ⟨rfl, hr1, hb1⟩
  have HR1 := Lib.hid hr1
  have HB1 := Lib.hid hb1
  have hz1 : w.heap.size < w1.heap.size := hr1.lt
  clear hr1 hb1
  go_wp2_with fail
  refine (spec_l20Cookies w.heap.size w.heap.size 0 _ _ HR1.out (by omega) (by omega) (by omega)).mono ?_
  rintro e w2 ⟨A2, c2, ps, rfl, ho2, hs2, hn2, hr2, hg2⟩
  have HO2 := Lib.hid ho2
  have HF := Lib.hid (smallC_fit hs2)
  have HR2 := Lib.hid hr2
  have HB2 := Lib.hid (below_reader HB1.out hg2)
  clear ho2 hs2 hr2 hg2
  go_wp2_with fail
  refine (spec_CookiesText ps (-1) A2 c2 _ (ownC_rd HO2.out) HF.out (by unfold maxLen; omega)).mono ?_
  have hsl := cookiesText_len ps (-1)
  generalize cookiesText ps (-1) = s at *
  rintro e w3 ⟨rfl, hb3⟩
  have HR3 := Lib.hid (HR2.out.keep hb3)
  have HB3 := Lib.hid (HB2.out.trans (hb3.mono HB2.out.size))
  have hz3 := HB3.out.size
  clear hb3
  go_wp2_with fail
  refine (spec_odd w.heap.size w.heap.size _ 3 _ HR3.out (by omega) (by omega) (by omega)).mono ?_
  rintro e w4 ⟨b4, rfl, hr4, hg4⟩
  have HR4 := Lib.hid hr4
  have HB4 := Lib.hid (HB3.out.trans (grown_to_below hg4 hz3 (fun g h => by injection h; omega)))
  have hz4 := HB4.out.size
  clear hr4 hg4
  cases b4
  · go_wp2
    go_ret
    exact ⟨s, rfl, by omega, HB4.out⟩
  · have hlt4 := HR4.out.lt
    go_wp2_with fail
    refine (spec_pick w.heap.size w.heap.size _ 9 _ (HR4.out.keep ((Below.refl _ _).alloc (Nat.le_refl _) _)) (by omega) (by omega) (by omega)).mono ?_
    rintro e w5 ⟨k5, rfl, hk5, hr5, hg5⟩
    have hlit : w5.heap[w4.heap.size]? = _ := (hg5.block w4.heap.size (by simp) (by simp; omega)).trans (heap_alloc_new w4 _)
    obtain ⟨x, hxc, hx⟩ := lit_str (k := k5) (B := 1000) (n := 9) hlit (by show okS _ _ _ = true; simp only [okS, Bool.and_eq_true, decide_eq_true_eq]; (repeat' apply And.intro) <;> first | assumption | trivial | decide | (simp [ByteArray.size]; omega)) (by rcases hk5 with hk5 | hk5 <;> omega)
    have HB5 := Lib.hid ((HB4.out.alloc hz4 _).trans (grown_to_below hg5 (by simp; omega) (fun g h => by injection h; omega)))
    clear hlit hr5 hg5
    go_wp2
    go_ret
    exact ⟨x, rfl, hx, HB5.out⟩
end Go.Proofs.YtmijnkiopmpjdaaDoor
