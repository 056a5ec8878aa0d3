/- FnReadAsked: a walk. -/
import Derived.Test.YtaofgcdpmeeimaaDoorReadAskedDraw
import Derived.Test.YtaofgcdpmeeimaaDoorReadAsked
import Derived.Test.YtaofgcdpmeeimaaDoorSame
import Derived.Test.YtaofgcdpmeeimaaDoorLower
namespace Go.Proofs.YtaofgcdpmeeimaaDoor
open Go.RowKit

theorem asked_fit {ps : List Pr} (h : askedOk ps = true) : Fit ps := fun p hp => by
  have := asked_each h p hp
  unfold maxLen
  omega
set_option maxRecDepth 100000 in
set_option maxHeartbeats 2000000 in
theorem readAsked_walk (bs : Tx) (A : Option Addr) (c : Nat) (w : World) (hr : Rd w w.heap.size A (bcells bs)) (hc : bs.length ≤ c) (hm : bs.length ≤ maxLen) (hmx : Hm w) :
    Calls Tryd.prog 8 #[.slice A bs.length c] w fun e w' => e = .returned (.bool true) ∧ Below w.heap.size w w' := by
  unfold maxLen at hm
  by_cases h : 1048576 < bs.length
  · go_enter Tryd.func8, Tryd.ntmps8
    go_wp2
    go_ret
    exact ⟨rfl, Below.refl _ _⟩
  · have HD := Lib.hid (spec_DrawReadAsked bs A c w hr hc (by omega))
    have HM := Lib.hid hmx
    clear hr hmx
    go_enter Tryd.func8, Tryd.ntmps8
    go_wp2_with fail
    refine HD.out.mono ?_
    rintro e w1 ⟨s, rfl, hs1, hb1⟩
    have HSL : Hid (s.length ≤ maxLen) := by show _ ≤ _; unfold maxLen; omega
    have HSL' : Hid ((s ++ [38]).length ≤ maxLen) := by show _ ≤ _; rw [List.length_append]; unfold maxLen; simp; omega
    have HB1 := Lib.hid hb1
    clear hb1
    have HI := Lib.hid (fun w hA => impl_ReadAsked s HSL.out (by omega) w hA)
    have HS := Lib.hid (fun w => spec_ReadAsked s HSL.out (by omega) w)
    have HQ := Lib.hid (fun w hA => impl_ReadAsked (s ++ [38]) HSL'.out (by simp; omega) w hA)
    have hsum : (9223372036854775807 < s.length + 1) = False := by rw [eq_iff_iff, iff_false]; omega
    have HLN := readAsked_len s (by omega)
    obtain ⟨r, hr⟩ : ∃ r, readAsked s = r := ⟨_, rfl⟩
    have HC : Hid (r = ([], false) ∨ ∃ ps, r = (ps, true) ∧ askedOk ps = true ∧ askedText ps = s) := by rw [← hr]; exact readAsked_cases s
    rw [hr] at HLN
    simp only [hr] at HI HS
    clear hr
    obtain ⟨x, ok⟩ := r
    dsimp only at HLN
    have HXL : Hid (x.length ≤ maxLen) := by show _ ≤ _; unfold maxLen; omega
    go_wp2_with fail
    refine (HI.out _ (HM.out.below HB1.out)).mono ?_
    rintro e w2 ⟨A2, c2, rfl, ho, hb⟩
    have HB2 := Lib.hid (HB1.out.trans (hb.mono HB1.out.size))
    have hz2 := HB2.out.size
    have HO2 := Lib.hid ho
    clear hb ho
    dsimp only
    go_wp2_with fail
    refine (HS.out _).mono ?_
    rintro e w3 ⟨A3, c3, rfl, ho, hb⟩
    have HB3 := Lib.hid (HB2.out.trans (hb.mono HB2.out.size))
    have hz3 := HB3.out.size
    have HO2 := Lib.hid (ownP_keep HO2.out hb)
    have HO3 := Lib.hid ho
    clear hb ho
    dsimp only
    go_wp2_with fail
    refine (laws_samePairs x x A2 A3 c2 c3 _ (ownP_rd HO2.out) (ownP_rd HO3.out) HXL.out).mono ?_
    rw [beq_self_eq_true]
    rintro e w4 ⟨rfl, hb⟩
    have HB4 := Lib.hid (HB3.out.trans (hb.mono HB3.out.size))
    have hz4 := HB4.out.size
    have HO2 := Lib.hid (ownP_keep HO2.out hb)
    have HO3 := Lib.hid (ownP_keep HO3.out hb)
    clear hb
    cases ok
    · have hx0 : x = [] := by
        rcases HC.out with h1 | ⟨_, h2, _⟩
        · injection h1
        · injection h2 with _ h2; cases h2
      subst hx0
      go_wp2_with fail
      refine (laws_alive _).mono ?_
      rintro e w5 ⟨rfl, hb⟩
      have HB5 := Lib.hid (HB4.out.trans (hb.mono HB4.out.size))
      have hz5 := HB5.out.size
      have HO2 := Lib.hid (ownP_keep HO2.out hb)
      have HO3 := Lib.hid (ownP_keep HO3.out hb)
      clear hb
      go_wp2
      go_ret
      exact ⟨rfl, HB5.out⟩
    · obtain ⟨hk, ht⟩ : askedOk x = true ∧ askedText x = s := by
        rcases HC.out with h1 | ⟨ps, h2, h3, h4⟩
        · injection h1 with _ h1; cases h1
        · injection h2 with h2 _; subst h2; exact ⟨h3, h4⟩
      have HF := Lib.hid (asked_fit hk)
      have HT := Lib.hid (fun w hr => impl_AskedText x A2 c2 w hr HF.out HXL.out)
      rw [readAsked_amp hk ht] at HQ
      rw [ht] at HT
      clear HC hk ht
      go_wp2_with fail
      refine (HQ.out _ (HM.out.below HB4.out)).mono ?_
      rintro e w5 ⟨A5, c5, rfl, ho, hb⟩
      have HB5 := Lib.hid (HB4.out.trans (hb.mono HB4.out.size))
      have hz5 := HB5.out.size
      have HO2 := Lib.hid (ownP_keep HO2.out hb)
      have HO3 := Lib.hid (ownP_keep HO3.out hb)
      have HO5 := Lib.hid ho
      clear hb ho
      dsimp only
      go_wp2_with fail
      refine (HT.out _ (ownP_rd HO2.out)).mono ?_
      rintro e w6 ⟨rfl, hb⟩
      have HB6 := Lib.hid (HB5.out.trans (hb.mono HB5.out.size))
      have hz6 := HB6.out.size
      have HO2 := Lib.hid (ownP_keep HO2.out hb)
      have HO3 := Lib.hid (ownP_keep HO3.out hb)
      have HO5 := Lib.hid (ownP_keep HO5.out hb)
      clear hb
      go_wp2
      go_ret
      exact ⟨rfl, HB6.out⟩
end Go.Proofs.YtaofgcdpmeeimaaDoor
