/- FnStylesText: a walk. -/
import Derived.Test.YtaofgcdpmeeimaaDoorCleanDraw
import Derived.Test.YtaofgcdpmeeimaaDoorCleanStyles
import Derived.Test.YtaofgcdpmeeimaaDoorSame
namespace Go.Proofs.YtaofgcdpmeeimaaDoor
open Go.RowKit

theorem stylesText_len {ps : List Pr} (h : Small ps) (hn : ps.length ≤ 10) : (stylesText ps).length ≤ 3000 := by
  unfold stylesText
  split
  · refine st_len ps _ ?_
    have : ∀ qs : List Pr, (∀ p ∈ qs, p.1.length ≤ 100 ∧ p.2.length ≤ 100) → psize qs ≤ 200 * qs.length := by
      intro qs
      induction qs with
      | nil => intro _; simp [psize]
      | cons p t ih =>
        intro hq
        have h1 := ih fun q hq' => hq q (by simp [hq'])
        have h2 := hq p (by simp)
        simp only [psize, List.length_cons]
        omega
    have := this ps h.2
    omega
  · simp
theorem small_psize {ps : List Pr} (h : Small ps) (hn : ps.length ≤ 10) : ps.length + psize ps ≤ 1048576 := by
  have : ∀ qs : List Pr, (∀ p ∈ qs, p.1.length ≤ 100 ∧ p.2.length ≤ 100) → psize qs ≤ 200 * qs.length := by
    intro qs
    induction qs with
    | nil => intro _; simp [psize]
    | cons p t ih =>
      intro hq
      have h1 := ih fun q hq' => hq q (by simp [hq'])
      have h2 := hq p (by simp)
      simp only [psize, List.length_cons]
      omega
  have := this ps h.2
  omega
theorem styles_back {s : Tx} {ps : List Pr} (h0 : s ≠ []) (h : stylesText ps = s) : cleanStyles s = ps := by
  subst h
  unfold stylesText at h0
  split at h0
  · rename_i hc
    simp only [Bool.and_eq_true, decide_eq_true_eq] at hc
    exact clean_text hc.1 hc.2
  · exact absurd rfl h0
set_option maxRecDepth 100000 in
set_option maxHeartbeats 2000000 in
theorem stylesText_walk (bs : Tx) (A : Option Addr) (c : Nat) (w : World) (hr : Rd w w.heap.size A (bcells bs)) (hc : bs.length ≤ c) (hm : bs.length ≤ maxLen) (hmx : Hm w) :
    Calls Tryd.prog 3 #[.slice A bs.length c] w fun e w' => e = .returned (.bool true) ∧ Below w.heap.size w w' := by
  unfold maxLen at hm
  by_cases h : 1048576 < bs.length
  · go_enter Tryd.func3, Tryd.ntmps3
    go_wp2
    go_ret
    exact ⟨rfl, Below.refl _ _⟩
  · have HD := Lib.hid (spec_DrawStylesText bs A c w hr hc (by omega))
    have HM := Lib.hid hmx
    clear hr hmx
    go_enter Tryd.func3, Tryd.ntmps3
    go_wp2_with fail
    refine HD.out.mono ?_
    rintro e w1 ⟨A1, c1, ps, rfl, ho1, hs1, hn1, hb1⟩
    have HF := Lib.hid (small_fit hs1)
    have HL : Hid (ps.length ≤ maxLen) := by show _ ≤ _; unfold maxLen; omega
    have hpz := small_psize hs1 hn1
    have hsl := stylesText_len hs1 hn1
    have HO1 := Lib.hid ho1
    have HB1 := Lib.hid hb1
    clear ho1 hs1 hb1
    have HI := Lib.hid (fun w hr => impl_StylesText ps A1 c1 w hr HF.out (by omega))
    have HS := Lib.hid (fun w hr => spec_StylesText ps A1 c1 w hr HF.out (by omega))
    obtain ⟨s, hs⟩ : ∃ s, stylesText ps = s := ⟨_, rfl⟩
    rw [hs] at hsl
    have HX := Lib.hid (fun h0 => styles_back h0 hs)
    simp only [hs] at HI HS
    clear hs
    have HSL : Hid (s.length ≤ maxLen) := by show _ ≤ _; unfold maxLen; omega
    have HRD := Lib.hid (fun w hA => impl_CleanStyles s HSL.out (by omega) w hA)
    go_wp2_with fail
    refine (HI.out _ (ownP_rd HO1.out)).mono ?_
    rintro e w2 ⟨rfl, hb⟩
    have HB2 := Lib.hid (HB1.out.trans (hb.mono HB1.out.size))
    have hz2 := HB2.out.size
    have HO1 := Lib.hid (ownP_keep HO1.out hb)
    clear hb
    go_wp2_with fail
    refine (HS.out _ (ownP_rd HO1.out)).mono ?_
    rintro e w3 ⟨rfl, hb⟩
    have HB3 := Lib.hid (HB2.out.trans (hb.mono HB2.out.size))
    have hz3 := HB3.out.size
    have HO1 := Lib.hid (ownP_keep HO1.out hb)
    clear hb
    by_cases h0 : s = []
    · subst h0
      go_wp2_with fail
      refine (laws_alive _).mono ?_
      rintro e w4 ⟨rfl, hb⟩
      have HB4 := Lib.hid (HB3.out.trans (hb.mono HB3.out.size))
      have hz4 := HB4.out.size
      have HO1 := Lib.hid (ownP_keep HO1.out hb)
      clear hb
      go_wp2
      go_ret
      exact ⟨rfl, HB4.out⟩
    · have hx := HX.out h0
      have h1 : (s == ([] : Tx)) = false := by simpa using h0
      rw [hx] at HRD
      clear hx h0 HX
      go_wp2_with fail
      refine (HRD.out _ (HM.out.below HB3.out)).mono ?_
      rintro e w4 ⟨A4, c4, rfl, ho, hb⟩
      have HB4 := Lib.hid (HB3.out.trans (hb.mono HB3.out.size))
      have hz4 := HB4.out.size
      have HO1 := Lib.hid (ownP_keep HO1.out hb)
      have HO4 := Lib.hid ho
      clear hb ho
      go_wp2_with fail
      refine (laws_samePairs ps ps A4 A1 c4 c1 _ (ownP_rd HO4.out) (ownP_rd HO1.out) HL.out).mono ?_
      rw [beq_self_eq_true]
      rintro e w5 ⟨rfl, hb⟩
      have HB5 := Lib.hid (HB4.out.trans (hb.mono HB4.out.size))
      have hz5 := HB5.out.size
      have HO1 := Lib.hid (ownP_keep HO1.out hb)
      have HO4 := Lib.hid (ownP_keep HO4.out hb)
      clear hb
      go_wp2
      go_ret
      exact ⟨rfl, HB5.out⟩
end Go.Proofs.YtaofgcdpmeeimaaDoor
