/- FnLocationValid: a walk. -/
import Derived.Test.YtmijnkiopmpjdaaDoorLocDrew
namespace Go.Proofs.YtmijnkiopmpjdaaDoor
open Go.RowKit

theorem locOk_nohost (s : Tx) (p : List Tx) : locOk ⟨s, [], p, []⟩ = false := by simp [locOk, hostOk]
theorem readAsked_nil : (readAsked []).2 = true := by decide +kernel
theorem locOk_bare {l : Lc} (h : locOk l = true) : locOk ⟨l.sch, l.host, [], []⟩ = true := by
  have H := locOk_parts h
  simp [locOk, H.sch, H.host, readAsked_nil]

set_option maxRecDepth 100000 in
set_option maxHeartbeats 2000000 in
theorem locationValid_walk (bs : Tx) (A : Option Addr) (c : Nat) (w : World) (hr : Rd w w.heap.size A (bcells bs)) (hc : bs.length ≤ c) (hm : bs.length ≤ maxLen) (hmx : Hm w) :
    Calls Tryd.prog 6 #[.slice A bs.length c] w fun e w' => e = .returned (.bool true) ∧ Below w.heap.size w w' := by
  unfold maxLen at hm
  by_cases h : 1048576 < bs.length
  · go_enter Tryd.func6, Tryd.ntmps6
    go_wp2
    go_ret
    exact ⟨rfl, Below.refl _ _⟩
  · have HD := Lib.hid (spec_DrawLocationValid bs A c w hr hc (by omega))
    have HM := Lib.hid hmx
    clear hr hmx
    go_enter Tryd.func6, Tryd.ntmps6
    go_wp2_with fail
    refine HD.out.mono ?_
    rintro e w1 ⟨A1, c1, l, rfl, ho1, hs1, hn1, hb1⟩
    have HF := Lib.hid (smL_fit hs1 hn1)
    have hz1 := hb1.size
    have HB2 := Lib.hid (hb1.trans (((Below.refl w1.heap.size w1).alloc (Nat.le_refl _) (.cells (lcCells l A1 c1) 43)).mono hz1))
    have HO1 := Lib.hid (ownS_keep ho1 ((Below.refl w1.heap.size w1).alloc (Nat.le_refl _) (.cells (lcCells l A1 c1) 43)))
    have HBX := Lib.hid (loc_box w1 l A1 c1 43)
    clear ho1 hs1 hb1
    go_wp2_with fail
    refine (impl_LocationValid l A1 c1 _ (ownS_rd HO1.out) HF.out (HM.out.below HB2.out)).mono ?_
    rintro e w3 ⟨rfl, hb⟩
    have HB3 := Lib.hid (HB2.out.trans (hb.mono HB2.out.size))
    have hz3 := HB3.out.size
    have HO1 := Lib.hid (ownS_keep HO1.out hb)
    have HBX := Lib.hid (bx_keep HBX.out hb)
    clear hb
    obtain ⟨⟨f0, f1, f2, f3⟩, -⟩ := box_four HBX.out
    go_wp2_with fail
    refine (spec_LocationValid l A1 c1 _ (ownS_rd HO1.out) HF.out).mono ?_
    rintro e w4 ⟨rfl, hb⟩
    have HB4 := Lib.hid (HB3.out.trans (hb.mono HB3.out.size))
    have hz4 := HB4.out.size
    have HO1 := Lib.hid (ownS_keep HO1.out hb)
    have HBX := Lib.hid (bx_keep HBX.out hb)
    clear hb
    obtain ⟨⟨g0, g1, g2, g3⟩, -⟩ := box_four HBX.out
    have HN := Lib.hid (fun w hr hm => impl_LocationValid ⟨l.sch, [], l.path, []⟩ A1 c1 w hr ⟨HF.out.1, by simp, by simp, HF.out.2.2.2⟩ hm)
    rw [locOk_nohost] at HN
    go_wp2_with fail
    refine (HN.out _ (ownS_rd HO1.out) (HM.out.below HB4.out)).mono ?_
    rintro e w5 ⟨rfl, hb⟩
    have HB5 := Lib.hid (HB4.out.trans (hb.mono HB4.out.size))
    have hz5 := HB5.out.size
    have HO1 := Lib.hid (ownS_keep HO1.out hb)
    have HBX := Lib.hid (bx_keep HBX.out hb)
    clear hb
    obtain ⟨⟨h0, h1, h2, h3⟩, -⟩ := box_four HBX.out
    cases hok : locOk l
    · clear hok
      go_wp2_with fail
      refine (laws_alive _).mono ?_
      rintro e w6 ⟨rfl, hb⟩
      have HB6 := Lib.hid (HB5.out.trans (hb.mono HB5.out.size))
      have hz6 := HB6.out.size
      have HO1 := Lib.hid (ownS_keep HO1.out hb)
      have HBX := Lib.hid (bx_keep HBX.out hb)
      clear hb
      go_wp2
      go_ret
      exact ⟨rfl, HB6.out⟩
    · have HV := Lib.hid (fun w hr hm => impl_LocationValid ⟨l.sch, l.host, [], []⟩ none 0 w hr ⟨HF.out.1, HF.out.2.1, by simp, by simp, by simp⟩ hm)
      rw [locOk_bare hok] at HV
      clear hok
      go_wp2_with fail
      refine (HV.out _ Rd.nil_ (HM.out.below HB5.out)).mono ?_
      rintro e w6 ⟨rfl, hb⟩
      have HB6 := Lib.hid (HB5.out.trans (hb.mono HB5.out.size))
      have hz6 := HB6.out.size
      have HO1 := Lib.hid (ownS_keep HO1.out hb)
      have HBX := Lib.hid (bx_keep HBX.out hb)
      clear hb
      go_wp2_with fail
      refine (laws_alive _).mono ?_
      rintro e w7 ⟨rfl, hb⟩
      have HB7 := Lib.hid (HB6.out.trans (hb.mono HB6.out.size))
      have hz7 := HB7.out.size
      have HO1 := Lib.hid (ownS_keep HO1.out hb)
      have HBX := Lib.hid (bx_keep HBX.out hb)
      clear hb
      go_wp2
      go_ret
      exact ⟨rfl, HB7.out⟩
end Go.Proofs.YtmijnkiopmpjdaaDoor
