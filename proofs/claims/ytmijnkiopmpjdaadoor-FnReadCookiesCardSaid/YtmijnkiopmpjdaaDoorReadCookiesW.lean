/- FnReadCookies: a walk. -/
import Derived.Test.YtmijnkiopmpjdaaDoorCkDrawT
import Derived.Test.YtmijnkiopmpjdaaDoorCkKept
import Derived.Test.YtmijnkiopmpjdaaDoorReadCookies
import Derived.Test.YtmijnkiopmpjdaaDoorSame
import Derived.Test.YtmijnkiopmpjdaaDoorLower
import Derived.Deep.QuietTactic
import Derived.BigQuiet
namespace Go.Proofs.YtmijnkiopmpjdaaDoor
open Go.RowKit

set_option maxRecDepth 100000 in
set_option maxHeartbeats 2000000 in
theorem readCookies_walk (bs : Tx) (A : Option Addr) (c : Nat) (w : World) (hr : Rd w w.heap.size A (bcells bs)) (hc : bs.length ≤ c) (hm : bs.length ≤ maxLen) (hmx : Hm w) :
    Calls Tryd.prog 5 #[.slice A bs.length c] w fun e w' => e = .returned (.bool true) ∧ Below w.heap.size w w' := by
  unfold maxLen at hm
  by_cases h : 1048576 < bs.length
  · go_enter Tryd.func5, Tryd.ntmps5
    go_wp2
    go_ret
    exact ⟨rfl, Below.refl _ _⟩
  · have HD := Lib.hid (spec_DrawReadCookies bs A c w hr hc (by omega))
    have HM := Lib.hid hmx
    clear hr hmx
    go_enter Tryd.func5, Tryd.ntmps5
    go_wp2_with fail
    refine HD.out.mono ?_
    rintro e w1 ⟨s, rfl, hs1, hb1⟩
    have HSL : Hid (s.length ≤ maxLen) := by show _ ≤ _; unfold maxLen; omega
    have HSL' : Hid ((s ++ [59]).length ≤ maxLen) := by show _ ≤ _; rw [List.length_append]; unfold maxLen; simp; omega
    have HB1 := Lib.hid hb1
    clear hb1
    have HI := Lib.hid (fun w hA => impl_ReadCookies s HSL.out (by omega) w hA)
    have HS := Lib.hid (fun w => spec_ReadCookies s HSL.out (by omega) w)
    have HQ := Lib.hid (fun w hA => impl_ReadCookies (s ++ [59]) HSL'.out (by simp; omega) w hA)
    have hsum : (9223372036854775807 < s.length + 1) = False := by rw [eq_iff_iff, iff_false]; omega
    have HLN := readCookies_len s (by omega)
    obtain ⟨r, hr⟩ : ∃ r, readCookies s = r := ⟨_, rfl⟩
    have HC : Hid (r = ([], false) ∨ ∃ ps, r = (ps, true) ∧ ckPrOk ps = true ∧ Lib.join (ps.map pText) [59, 32] = s) := by rw [← hr]; exact readCookies_cases s
    rw [hr] at HLN
    simp only [hr] at HI HS
    clear hr
    obtain ⟨x, ok⟩ := r
    dsimp only at HLN
    have HXL : Hid (x.length ≤ maxLen) := by show _ ≤ _; unfold maxLen; omega
    go_wp2_with fail
    refine (HI.out _ (HM.out.below HB1.out)).mono ?_
    rintro e w2 ⟨A2, c2, rfl, ho, hb⟩
    have HB2 := Lib.hid (HB1.out.trans (hb.mono HB1.out.size))
    have hz2 := HB2.out.size
    have HO2 := Lib.hid ho
    clear hb ho
    dsimp only
    go_wp2_with fail
    refine (HS.out _).mono ?_
    rintro e w3 ⟨A3, c3, rfl, ho, hb⟩
    have HB3 := Lib.hid (HB2.out.trans (hb.mono HB2.out.size))
    have hz3 := HB3.out.size
    have HO2 := Lib.hid (ownP_keep HO2.out hb)
    have HO3 := Lib.hid ho
    clear hb ho
    dsimp only
    go_wp2_with fail
    refine (laws_samePairs x x A2 A3 c2 c3 _ (ownP_rd HO2.out) (ownP_rd HO3.out) HXL.out).mono ?_
    rw [beq_self_eq_true]
    rintro e w4 ⟨rfl, hb⟩
    have HB4 := Lib.hid (HB3.out.trans (hb.mono HB3.out.size))
    have hz4 := HB4.out.size
    have HO2 := Lib.hid (ownP_keep HO2.out hb)
    have HO3 := Lib.hid (ownP_keep HO3.out hb)
    clear hb
    cases ok
    · have hx0 : x = [] := by
        rcases HC.out with h1 | ⟨_, h2, _⟩
        · injection h1
        · injection h2 with _ h2; cases h2
      subst hx0
      go_wp2_with fail
      refine (laws_alive _).mono ?_
      rintro e w5 ⟨rfl, hb⟩
      have HB5 := Lib.hid (HB4.out.trans (hb.mono HB4.out.size))
      have hz5 := HB5.out.size
      have HO2 := Lib.hid (ownP_keep HO2.out hb)
      have HO3 := Lib.hid (ownP_keep HO3.out hb)
      clear hb
      go_wp2
      go_ret
      exact ⟨rfl, HB5.out⟩
    · obtain ⟨hk, ht⟩ : ckPrOk x = true ∧ Lib.join (x.map pText) [59, 32] = s := by
        rcases HC.out with h1 | ⟨ps, h2, h3, h4⟩
        · injection h1 with _ h1; cases h1
        · injection h2 with h2 _; subst h2; exact ⟨h3, h4⟩
      have h6 : x.length ≤ 6 := (ckPr_names hk).1
      have HPW := Lib.hid (List.pairwise_iff_getElem.1 ((ckPr_iff x).1 hk).2.2)
      rw [readCookies_semi hk ht] at HQ
      clear HC hk ht
      go_wp2
      go_loopw [8] (fun i wr => ∃ (k : Nat), k ≤ x.length ∧ i = .int .i64 k ∧ Below w4.heap.size w4 wr) (fun i _ => x.length - (intOf i).toNat)
      case atStart => exact ⟨0, Nat.zero_le _, rfl, Below.refl _ _⟩
      case round =>
        obtain ⟨k, hk, rfl, hb⟩ := hrel
        have HBB := Lib.hid hb
        clear hb
        obtain ⟨wo, rfl⟩ : ∃ wo : World, wo = wr := ⟨_, rfl⟩
        by_cases hlt : k < x.length
        · go_wp2
          go_loopw [9] (fun i wr => ∃ (j : Nat), j ≤ k ∧ i = .int .i64 j ∧ Below w4.heap.size w4 wr) (fun i _ => k - (intOf i).toNat)
          case atStart => exact ⟨0, Nat.zero_le _, rfl, HBB.out⟩
          case round =>
            obtain ⟨j, hj, rfl, hb⟩ := hrel
            have HBI := Lib.hid hb
            have HO2 := Lib.hid (ownP_keep HO2.out hb)
            clear hb
            by_cases hlj : j < k
            · have hjn : j < x.length := by omega
              obtain ⟨b, o, rfl, hab, hc0, hc1⟩ := (ownP_rd HO2.out).pair hlt
              obtain ⟨b', o', he', hab', hd0, hd1⟩ := (ownP_rd HO2.out).pair hjn
              simp only [Option.some.injEq, Addr.mk.injEq, and_true] at he'
              obtain ⟨rfl, rfl⟩ := he'
              have hne : x[j].1 ≠ x[k].1 := HPW.out j k hjn hlt hlj
              have hne2 : (x[j].1 == x[k].1) = false := by simpa using hne
              have hw1 : (0 : Int) ≤ (j : Int) := by omega
              have hw2 : (j : Int) < (x.length : Int) := by omega
              have hw3 : (0 : Int) ≤ (k : Int) := by omega
              have hw4 : (k : Int) < (x.length : Int) := by omega
              clear hc1 hd1
              go_wp2
              go_quiet (fail)
              go_wp2
              go_roundw
              case rel => exact ⟨j + 1, by omega, by go_num, below_drewN HBI.out _⟩
              case measure => simp [intOf]; omega
            · go_wp2
              go_roundw
              case rel => exact ⟨k + 1, by omega, by go_num, HBI.out⟩
              case measure => simp [intOf]; omega
        · have hkn : k = x.length := by omega
          subst hkn
          have HBW := Lib.hid (HB4.out.trans (HBB.out.mono HB4.out.size))
          have h6i : (x.length : Int) ≤ 6 := by omega
          go_wp2_with fail
          refine (HQ.out _ (HM.out.below HBW.out)).mono ?_
          rintro e w5 ⟨A5, c5, rfl, ho, hb⟩
          have HB5 := Lib.hid (HBW.out.trans (hb.mono HBW.out.size))
          clear ho hb
          dsimp only
          go_wp2
          go_ret
          exact ⟨rfl, HB5.out⟩
end Go.Proofs.YtmijnkiopmpjdaaDoor
