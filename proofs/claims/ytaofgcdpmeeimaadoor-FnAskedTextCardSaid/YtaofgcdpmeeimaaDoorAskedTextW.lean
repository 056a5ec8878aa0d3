/- FnAskedText: a walk. -/
import Derived.Test.YtaofgcdpmeeimaaDoorAskedDraw
import Derived.Test.YtaofgcdpmeeimaaDoorReadAsked
import Derived.Test.YtaofgcdpmeeimaaDoorSame
import Derived.Test.YtaofgcdpmeeimaaDoorLower
namespace Go.Proofs.YtaofgcdpmeeimaaDoor
open Go.RowKit

theorem askedT_len (ps : List Pr) : (askedText ps).length ≤ 800 := by
  unfold askedText
  split
  · rename_i h
    exact ask_len h _
  · simp
set_option maxRecDepth 100000 in
set_option maxHeartbeats 2000000 in
theorem askedText_walk (bs : Tx) (A : Option Addr) (c : Nat) (w : World) (hr : Rd w w.heap.size A (bcells bs)) (hc : bs.length ≤ c) (hm : bs.length ≤ maxLen) (hmx : Hm w) :
    Calls Tryd.prog 6 #[.slice A bs.length c] w fun e w' => e = .returned (.bool true) ∧ Below w.heap.size w w' := by
  unfold maxLen at hm
  by_cases h : 1048576 < bs.length
  · go_enter Tryd.func6, Tryd.ntmps6
    go_wp2
    go_ret
    exact ⟨rfl, Below.refl _ _⟩
  · have HD := Lib.hid (spec_DrawAskedText bs A c w hr hc (by omega))
    have HM := Lib.hid hmx
    clear hr hmx
    go_enter Tryd.func6, Tryd.ntmps6
    go_wp2_with fail
    refine HD.out.mono ?_
    rintro e w1 ⟨A1, c1, ps, rfl, ho1, hs1, hn1, hb1⟩
    have HF := Lib.hid (small_fit hs1)
    have HL : Hid (ps.length ≤ maxLen) := by show _ ≤ _; unfold maxLen; omega
    have HO1 := Lib.hid ho1
    have HB1 := Lib.hid hb1
    clear ho1 hs1 hb1
    have HI := Lib.hid (fun w hr => impl_AskedText ps A1 c1 w hr HF.out HL.out)
    have HS := Lib.hid (fun w hr => spec_AskedText ps A1 c1 w hr HF.out HL.out)
    have HV := Lib.hid (fun w hr => spec_AskedValid ps A1 c1 w hr HF.out HL.out)
    have hsl := askedT_len ps
    obtain ⟨s, hs⟩ : ∃ s, askedText ps = s := ⟨_, rfl⟩
    rw [hs] at hsl
    have HX := Lib.hid (fun h0 => readAsked_text h0 hs)
    have HSE := Lib.hid hs
    simp only [hs] at HI HS
    clear hs
    have HSL : Hid (s.length ≤ maxLen) := by show _ ≤ _; unfold maxLen; omega
    have HRD := Lib.hid (fun w hA => impl_ReadAsked s HSL.out (by omega) w hA)
    go_wp2_with fail
    refine (HI.out _ (ownP_rd HO1.out)).mono ?_
    rintro e w2 ⟨rfl, hb⟩
    have HB2 := Lib.hid (HB1.out.trans (hb.mono HB1.out.size))
    have hz2 := HB2.out.size
    have HO1 := Lib.hid (ownP_keep HO1.out hb)
    clear hb
    go_wp2_with fail
    refine (HS.out _ (ownP_rd HO1.out)).mono ?_
    rintro e w3 ⟨rfl, hb⟩
    have HB3 := Lib.hid (HB2.out.trans (hb.mono HB2.out.size))
    have hz3 := HB3.out.size
    have HO1 := Lib.hid (ownP_keep HO1.out hb)
    clear hb
    cases hok : askedOk ps
    · have h0 : s = [] := by rw [← HSE.out, askedText, hok]; rfl
      subst h0
      rw [hok] at HV
      clear hok
      go_wp2_with fail
      refine (HV.out _ (ownP_rd HO1.out)).mono ?_
      rintro e w4 ⟨rfl, hb⟩
      have HB4 := Lib.hid (HB3.out.trans (hb.mono HB3.out.size))
      have hz4 := HB4.out.size
      have HO1 := Lib.hid (ownP_keep HO1.out hb)
      clear hb
      go_wp2_with fail
      refine (laws_alive _).mono ?_
      rintro e w5 ⟨rfl, hb⟩
      have HB5 := Lib.hid (HB4.out.trans (hb.mono HB4.out.size))
      have hz5 := HB5.out.size
      have HO1 := Lib.hid (ownP_keep HO1.out hb)
      clear hb
      go_wp2
      go_ret
      exact ⟨rfl, HB5.out⟩
    · have hx := HX.out hok
      rw [hok] at HV
      rw [hx] at HRD
      clear hok hx
      go_wp2_with fail
      refine (HV.out _ (ownP_rd HO1.out)).mono ?_
      rintro e w4 ⟨rfl, hb⟩
      have HB4 := Lib.hid (HB3.out.trans (hb.mono HB3.out.size))
      have hz4 := HB4.out.size
      have HO1 := Lib.hid (ownP_keep HO1.out hb)
      clear hb
      go_wp2_with fail
      refine (HRD.out _ (HM.out.below HB4.out)).mono ?_
      rintro e w5 ⟨A5, c5, rfl, ho, hb⟩
      have HB5 := Lib.hid (HB4.out.trans (hb.mono HB4.out.size))
      have hz5 := HB5.out.size
      have HO1 := Lib.hid (ownP_keep HO1.out hb)
      have HO5 := Lib.hid ho
      clear hb ho
      dsimp only
      go_wp2_with fail
      refine (laws_samePairs ps ps A5 A1 c5 c1 _ (ownP_rd HO5.out) (ownP_rd HO1.out) HL.out).mono ?_
      rw [beq_self_eq_true]
      rintro e w6 ⟨rfl, hb⟩
      have HB6 := Lib.hid (HB5.out.trans (hb.mono HB5.out.size))
      have hz6 := HB6.out.size
      have HO1 := Lib.hid (ownP_keep HO1.out hb)
      have HO5 := Lib.hid (ownP_keep HO5.out hb)
      clear hb
      go_wp2
      go_ret
      exact ⟨rfl, HB6.out⟩
end Go.Proofs.YtaofgcdpmeeimaaDoor
