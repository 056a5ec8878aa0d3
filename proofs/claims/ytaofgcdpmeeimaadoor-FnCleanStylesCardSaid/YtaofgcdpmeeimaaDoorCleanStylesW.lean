/- FnCleanStyles: a walk. -/
import Derived.Test.YtaofgcdpmeeimaaDoorStylesTextW
namespace Go.Proofs.YtaofgcdpmeeimaaDoor
open Go.RowKit

theorem clean_small (s : Tx) (hs : s.length ≤ 10000) : (cleanStyles s).length ≤ 6 ∧ ∀ p ∈ cleanStyles s, p.1.length ≤ 10000 ∧ p.2.length ≤ 10000 := by
  refine ⟨clean_len s, ?_⟩
  unfold cleanStyles
  have hm := split_mem s (sep := [59]) (by simp)
  generalize Lib.split s [59] = xs at *
  have : ∀ (xs : List Tx) (out : List Pr), (∀ x ∈ xs, x.length ≤ s.length) → (∀ p ∈ out, p.1.length ≤ 10000 ∧ p.2.length ≤ 10000) → ∀ p ∈ xs.foldl stStep out, p.1.length ≤ 10000 ∧ p.2.length ≤ 10000 := by
    intro xs
    induction xs with
    | nil => intro out _ h; exact h
    | cons x t ih =>
      intro out hx h
      refine ih _ (fun y hy => hx y (List.mem_cons_of_mem _ hy)) ?_
      unfold stStep
      split
      · intro p hp
        rcases List.mem_append.1 hp with hp | hp
        · exact h p hp
        · simp at hp
          subst hp
          have h1 := stPr_len x
          have h2 := hx x (by simp)
          omega
      · exact h
  exact this xs [] hm (by simp)
set_option maxRecDepth 100000 in
set_option maxHeartbeats 2000000 in
theorem cleanStyles_walk (bs : Tx) (A : Option Addr) (c : Nat) (w : World) (hr : Rd w w.heap.size A (bcells bs)) (hc : bs.length ≤ c) (hm : bs.length ≤ maxLen) (hmx : Hm w) :
    Calls Tryd.prog 5 #[.slice A bs.length c] w fun e w' => e = .returned (.bool true) ∧ Below w.heap.size w w' := by
  unfold maxLen at hm
  by_cases h : 1048576 < bs.length
  · go_enter Tryd.func5, Tryd.ntmps5
    go_wp2
    go_ret
    exact ⟨rfl, Below.refl _ _⟩
  · have HD := Lib.hid (spec_DrawCleanStyles bs A c w hr hc (by omega))
    have HM := Lib.hid hmx
    clear hr hmx
    go_enter Tryd.func5, Tryd.ntmps5
    go_wp2_with fail
    refine HD.out.mono ?_
    rintro e w1 ⟨s, rfl, hs1, hb1⟩
    have HSL : Hid (s.length ≤ maxLen) := by show _ ≤ _; unfold maxLen; omega
    have HB1 := Lib.hid hb1
    clear hb1
    have HI := Lib.hid (fun w hA => impl_CleanStyles s HSL.out (by omega) w hA)
    have HS := Lib.hid (fun w => spec_CleanStyles s HSL.out (by omega) w)
    obtain ⟨hx6, hxs⟩ := clean_small s hs1
    have HSAFE := Lib.hid (clean_safe s)
    obtain ⟨x, hx⟩ : ∃ x, cleanStyles s = x := ⟨_, rfl⟩
    rw [hx] at hx6 hxs HSAFE
    simp only [hx] at HI HS
    clear hx
    have HXL : Hid (x.length ≤ maxLen) := by show _ ≤ _; unfold maxLen; omega
    have HXF : Hid (Fit x) := fun p hp => by have := hxs p hp; unfold maxLen; omega
    have HALL : Hid (∀ p ∈ x, safe p = true) := by have := HSAFE.out; rw [List.all_eq_true] at this; exact this
    have hpz : psize x ≤ 20000 * x.length := by
      have : ∀ qs : List Pr, (∀ p ∈ qs, p.1.length ≤ 10000 ∧ p.2.length ≤ 10000) → psize qs ≤ 20000 * qs.length := by
        intro qs
        induction qs with
        | nil => intro _; simp [psize]
        | cons p t ih =>
          intro hq
          have h1 := ih fun q hq' => hq q (by simp [hq'])
          have h2 := hq p (by simp)
          simp only [psize, List.length_cons]
          omega
      exact this x hxs
    have HT := Lib.hid (fun A c w hr => impl_StylesText x A c w hr HXF.out (by omega))
    have htl : (stylesText x).length ≤ 1048576 := by
      unfold stylesText
      split
      · exact st_len x _ (by omega)
      · simp
    have HBK := Lib.hid (clean_text hx6 HSAFE.out)
    have HTL : Hid ((stylesText x).length ≤ maxLen) := by show _ ≤ _; unfold maxLen; omega
    have HR2 := Lib.hid (fun w hA => impl_CleanStyles (stylesText x) HTL.out htl w hA)
    rw [HBK.out] at HR2
    generalize stylesText x = t at *
    clear HBK hxs
    go_wp2_with fail
    refine (HI.out _ (HM.out.below HB1.out)).mono ?_
    rintro e w2 ⟨A2, c2, rfl, ho, hb⟩
    have HB2 := Lib.hid (HB1.out.trans (hb.mono HB1.out.size))
    have hz2 := HB2.out.size
    have HO2 := Lib.hid ho
    clear hb ho
    go_wp2_with fail
    refine (HS.out _).mono ?_
    rintro e w3 ⟨A3, c3, rfl, ho, hb⟩
    have HB3 := Lib.hid (HB2.out.trans (hb.mono HB2.out.size))
    have hz3 := HB3.out.size
    have HO2 := Lib.hid (ownP_keep HO2.out hb)
    have HO3 := Lib.hid ho
    clear hb ho
    go_wp2_with fail
    refine (laws_samePairs x x A2 A3 c2 c3 _ (ownP_rd HO2.out) (ownP_rd HO3.out) HXL.out).mono ?_
    rw [beq_self_eq_true]
    rintro e w4 ⟨rfl, hb⟩
    have HB4 := Lib.hid (HB3.out.trans (hb.mono HB3.out.size))
    have hz4 := HB4.out.size
    have HO2 := Lib.hid (ownP_keep HO2.out hb)
    have HO3 := Lib.hid (ownP_keep HO3.out hb)
    clear hb
    go_wp2
    go_loopw [5] (fun i wr => ∃ (k : Nat), k ≤ x.length ∧ i = .int .i64 k ∧ Below w4.heap.size w4 wr) (fun i _ => x.length - (intOf i).toNat)
    case atStart => exact ⟨0, Nat.zero_le _, rfl, Below.refl _ _⟩
    case round =>
      obtain ⟨k, hk, rfl, hb⟩ := hrel
      have HB := Lib.hid (HB4.out.trans (hb.mono HB4.out.size))
      have HO2 := Lib.hid (ownP_keep HO2.out hb)
      have HBB := Lib.hid hb
      clear hb
      by_cases hlt : k < x.length
      · obtain ⟨b, o, rfl, hab, hc0, hc1⟩ := (ownP_rd HO2.out).pair hlt
        have hsf : safe x[k] = true := HALL.out _ (List.getElem_mem hlt)
        have hvl : x[k].2.length ≤ maxLen := (HXF.out _ (List.getElem_mem hlt)).2
        have HSS := Lib.hid (fun w => impl_StyleSafe x[k].1 x[k].2 hvl w)
        have hst : styleOk x[k].1 x[k].2 = true := hsf
        rw [hst] at HSS
        clear hsf hst hvl
        go_wp2_with fail
        refine (HSS.out _).mono ?_
        rintro e w5 ⟨rfl, hb⟩
        have HB5 := Lib.hid (HBB.out.trans (hb.mono HBB.out.size))
        clear hb
        go_wp2
        go_roundw
        case rel => exact ⟨k + 1, by omega, by go_num, HB5.out⟩
        case measure => simp [intOf]; omega
      · have hkn : k = x.length := by omega
        subst hkn
        have h6 : (x.length : Int) ≤ 6 := by omega
        go_wp2_with fail
        refine (HT.out A2 c2 _ (ownP_rd HO2.out)).mono ?_
        rintro e w5 ⟨rfl, hb⟩
        have HB5 := Lib.hid (HB.out.trans (hb.mono HB.out.size))
        have HO2 := Lib.hid (ownP_keep HO2.out hb)
        clear hb
        go_wp2_with fail
        refine (HR2.out _ (HM.out.below HB5.out)).mono ?_
        rintro e w6 ⟨A6, c6, rfl, ho, hb⟩
        have HB6 := Lib.hid (HB5.out.trans (hb.mono HB5.out.size))
        have hz6 := HB6.out.size
        have HO2 := Lib.hid (ownP_keep HO2.out hb)
        have HO6 := Lib.hid ho
        clear hb ho
        go_wp2_with fail
        refine (laws_samePairs x x A6 A2 c6 c2 _ (ownP_rd HO6.out) (ownP_rd HO2.out) HXL.out).mono ?_
        rw [beq_self_eq_true]
        rintro e w7 ⟨rfl, hb⟩
        have HB7 := Lib.hid (HB6.out.trans (hb.mono HB6.out.size))
        have hz7 := HB7.out.size
        have HO2 := Lib.hid (ownP_keep HO2.out hb)
        have HO6 := Lib.hid (ownP_keep HO6.out hb)
        clear hb
        go_wp2_with fail
        refine (laws_alive _).mono ?_
        rintro e w8 ⟨rfl, hb⟩
        have HB8 := Lib.hid (HB7.out.trans (hb.mono HB7.out.size))
        have hz8 := HB8.out.size
        have HO2 := Lib.hid (ownP_keep HO2.out hb)
        have HO6 := Lib.hid (ownP_keep HO6.out hb)
        clear hb
        go_wp2
        go_ret
        exact ⟨rfl, HB8.out⟩
end Go.Proofs.YtaofgcdpmeeimaaDoor
