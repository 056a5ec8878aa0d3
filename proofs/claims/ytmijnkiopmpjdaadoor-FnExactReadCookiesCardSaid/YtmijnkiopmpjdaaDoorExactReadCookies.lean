/- For all texts: ReadCookies of the program returns what the reference's returns, and its result shares no memory with another's: the card FnExactReadCookiesCardSaid holds. No conditions. -/
import Derived.Test.YtmijnkiopmpjdaaDoorReadCookies
import Derived.Test.YtmijnkiopmpjdaaDoorMarkP
import Derived.Test.YtmijnkiopmpjdaaDoorCardKit
namespace Go.Proofs.YtmijnkiopmpjdaaDoor
open Go.RowKit Go.ChangeShapes Go.WideShapes Go.ChangeAt Go.Joins
open Go.ChangeMaps (open_string shut_string)

set_option maxRecDepth 100000 in
set_option maxHeartbeats 4000000 in
theorem exactReadCookies_walk (s : Tx) (w : World) (hl : s.length ≤ maxLen) (hm : Hm w) :
    Calls Tryd.prog 3 #[.string ⟨s.toArray⟩] w fun e w' => e = .returned (.bool true) ∧ Below w.heap.size w w' := by
  have HL := Lib.hid hl
  have HM := Lib.hid hm
  clear hm
  unfold maxLen at hl
  by_cases h : 1048576 < s.length
  · go_enter Tryd.func3, Tryd.ntmps3
    go_wp2
    go_ret
    exact ⟨rfl, Below.refl _ _⟩
  · have hsz : s.length ≤ 1048576 := by omega
    obtain ⟨r, hres⟩ : ∃ r, readCookies s = r := ⟨_, rfl⟩
    have hrl : r.1.length ≤ 1048577 := by rw [← hres]; exact readCookies_len s hsz
    have HI := Lib.hid (fun w hm => impl_ReadCookies s HL.out hsz w hm)
    have HS := Lib.hid (fun w => spec_ReadCookies s HL.out hsz w)
    simp only [hres] at HI HS
    clear hres
    obtain ⟨out, ok⟩ := r
    dsimp only at hrl HI HS
    have HRM : Hid (out.length ≤ maxLen) := by show _ ≤ _; unfold maxLen; omega
    go_enter Tryd.func3, Tryd.ntmps3
    have HB0 := Lib.hid (Below.refl w.heap.size w)
    go_wp2_with fail
    refine (HS.out _).mono ?_
    rintro e w1 ⟨A1, c1, rfl, ho1, hb1⟩
    have HB1 := Lib.hid (HB0.out.trans (hb1.mono HB0.out.size))
    have HO1 := Lib.hid ho1
    have HH1 := Lib.hid (fun g h => (ho1.lt g h).2)
    have HS1 := Lib.hid hb1.size
    clear hb1 ho1
    dsimp only
    go_wp2_with fail
    refine (HI.out _ (HM.out.below HB1.out)).mono ?_
    rintro e w2 ⟨A2, c2, rfl, ho2, hb2⟩
    have HB2 := Lib.hid (HB1.out.trans (hb2.mono HB1.out.size))
    have HO2 := Lib.hid ho2
    have HH2 := Lib.hid (fun g h => (ho2.lt g h).2)
    have HS2 := Lib.hid hb2.size
    have HO1 := Lib.hid (ownP_keep HO1.out hb2)
    clear hb2 ho2
    dsimp only
    go_wp2_with fail
    refine (laws_eqPairS out out A2 A1 c2 c1 _ (ownP_rd HO2.out) (ownP_rd HO1.out) HRM.out).mono ?_
    rw [beq_self_eq_true]
    rintro e w3 ⟨rfl, hb3⟩
    have HB3 := Lib.hid (HB2.out.trans (hb3.mono HB2.out.size))
    have HS3 := Lib.hid hb3.size
    have HO1 := Lib.hid (ownP_keep HO1.out hb3)
    have HO2 := Lib.hid (ownP_keep HO2.out hb3)
    clear hb3
    go_wp2_with fail
    refine (laws_markPairS_one out _ A2 c2 _ HO2.out (by omega)).mono ?_
    rintro e w4 ⟨rfl, ho4, hg4⟩
    have HB4 := Lib.hid (HB3.out.trans (grown_to_below hg4 HB3.out.size (fun g h => Nat.le_trans HB1.out.size (ownP_row HO2.out g h))))
    have HO1 : Hid (OwnP w4 _ A1 c1 out) := own_frame HO1.out HH1.out hg4 (fun g h => .inr (ownP_row HO2.out g h))
    have HO2 := Lib.hid ho4
    have HML : Hid ((marksP 1 out.length).length = out.length) := marksP_length _ _
    clear hg4 ho4
    go_wp2_with fail
    refine (laws_heldPairS_one out.length A2 c2 _ (by have h := ownP_rd HO2.out; exact h) (by omega)).mono ?_
    rintro e w5 ⟨rfl, hb5⟩
    have HB5 := Lib.hid (HB4.out.trans (hb5.mono HB4.out.size))
    have HO1 := Lib.hid (ownP_keep HO1.out hb5)
    have HO2 := Lib.hid (ownP_keep HO2.out hb5)
    clear hb5
    go_wp2_with fail
    refine (HI.out _ (HM.out.below HB5.out)).mono ?_
    rintro e w6 ⟨A6, c6, rfl, ho6, hb6⟩
    have HB6 := Lib.hid (HB5.out.trans (hb6.mono HB5.out.size))
    have HO6 := Lib.hid ho6
    have HH6 := Lib.hid (fun g h => (ho6.lt g h).2)
    have HS6 := Lib.hid hb6.size
    have HO1 := Lib.hid (ownP_keep HO1.out hb6)
    have HO2 := Lib.hid (ownP_keep HO2.out hb6)
    clear hb6 ho6
    dsimp only
    go_wp2_with fail
    refine (laws_eqPairS out out A6 A1 c6 c1 _ (ownP_rd HO6.out) (ownP_rd HO1.out) HRM.out).mono ?_
    rw [beq_self_eq_true]
    rintro e w7 ⟨rfl, hb7⟩
    have HB7 := Lib.hid (HB6.out.trans (hb7.mono HB6.out.size))
    have HS7 := Lib.hid hb7.size
    have HO1 := Lib.hid (ownP_keep HO1.out hb7)
    have HO2 := Lib.hid (ownP_keep HO2.out hb7)
    have HO6 := Lib.hid (ownP_keep HO6.out hb7)
    clear hb7
    go_wp2_with fail
    refine (laws_heldPairS_one out.length A2 c2 _ (by have h := ownP_rd HO2.out; exact h) (by omega)).mono ?_
    rintro e w8 ⟨rfl, hb8⟩
    have HB8 := Lib.hid (HB7.out.trans (hb8.mono HB7.out.size))
    have HO2 := Lib.hid (ownP_keep HO2.out hb8)
    clear hb8
    go_wp2
    go_ret
    exact ⟨rfl, HB8.out⟩

set_option maxRecDepth 100000 in
theorem fnExactReadCookies_lifted (os : Os) (started : os.Started) (H : Type) (enc : TypeId × Value → H) :
    ReturnsInHanded {} Tryd.checked os 3 .any (fun w args => (Rows.fnExactReadCookiesSpec.pre enc Tryd.prog Tryd.f3 Rows.fnExactReadCookiesRow.domain false w args ∧ laidMetH Tryd.prog Rows.fnExactReadCookiesRow.laid w) ∧ sizedMet enc Tryd.prog Tryd.f3 (OpenSpec.ofChange Rows.fnExactReadCookiesSpec) false w args)
      (Rows.fnExactReadCookiesSpec.post enc Tryd.prog Tryd.f3 false true false false) := by
  refine returnsInHanded_of_change_and_shaped (C := Tryd.checked) (X := fun w _ => laidMetH Tryd.prog Rows.fnExactReadCookiesRow.laid w) (fun _ _ _ hh h => h.of_heap hh) Tryd.own started (by kernel_rfl) Tryd.func3
    (ChangeSpec.witness_shaped (enc := enc) (C := Tryd.checked) (os := os) (X := fun w _ => laidMetH Tryd.prog Rows.fnExactReadCookiesRow.laid w) false (World.laidAll Tryd.prog os Rows.fnExactReadCookiesRow.laid) #[.string ⟨#[]⟩] 8 (World.laidAll_os _ _ _)
      (World.shaped_of_ZipB (by kernel_rfl) (by kernel_rfl)) (by kernel_rfl) (by kernel_rfl) (by kernel_rfl)
      (by rw [MakeChecks.laidMetH_plain _ _ _ (by kernel_rfl)]; exact laidMet_laidAll _ (by kernel_rfl) (by kernel_rfl))) ?_
  intro W base args ds gs before hval0 hW _ _ _ hsh _
  have hval : ∀ (j : Nat) t v, Tryd.f3.params[j]? = some t → args[j]? = some v → Value.okWide Tryd.prog W .any base t v := hval0
  have hW' := hW
  obtain ⟨p, q, hA0, hV, rfl, _, _⟩ := hW
  have hA : DataW.TrodAll enc Tryd.prog W 0 (fun _ => true) true Tryd.f3.params.toList args.toList ds p := hA0
  rw [Tryd.params3] at hA hval
  obtain ⟨v0, d0, rfl, rfl, h0⟩ := trodAll_one hA
  obtain ⟨rfl, rfl⟩ := trodVars_none hV
  obtain ⟨a, rfl, rfl, rfl, wa⟩ := open_string Tryd.underlying9 (hval 0 _ v0 rfl rfl) h0
  obtain ⟨s, rfl⟩ := tx_of a
  refine (exactReadCookies_walk s W wa (hm_shaped hsh)).mono fun e W' ⟨he, hw⟩ => ?_
  subst he
  exact ⟨_, rfl, law_post hW' rfl rfl (by kernel_rfl) Tryd.underlying4 Tryd.laidOut (of_decide_eq_true (by kernel_rfl)) hw⟩

theorem fnExactReadCookies_holds : Rows.FnExactReadCookiesSaid :=
  OpenClaim.holds_of_wide 3 Tryd.f3 rfl rfl rfl rfl rfl rfl rfl ⟨rfl, rfl, rfl, rfl, rfl⟩ rfl rfl rfl rfl rfl (by kernel_rfl) Tryd.func3 (by kernel_rfl)
    (of_decide_eq_true (by kernel_rfl)) (by unfold Func.isWrapper; first | (rw [if_pos (by decide +kernel)]; kernel_rfl) | (rw [if_neg (by decide +kernel)]; exact ⟨rfl, rfl⟩))
    (fun os started H enc _ => fnExactReadCookies_lifted os started H enc)

theorem fnExactReadCookies_cardHolds : Rows.FnExactReadCookiesCardSaid :=
  Claim7.holds_tied_plain_at .later [] _ true _ false fnExactReadCookies_holds (fun _ h => by cases h) (by kernel_rfl) (fun _ h => by cases h) fnExactReadCookies_row_tie rfl ⟨rfl, rfl⟩ (by kernel_rfl) rfl
    (fun f fn hf hfn => by
      obtain rfl : f = 3 := Option.some.inj ((show Tryd.prog.funcNamed "loop.example/templateescaper/laws.FnExactReadCookies" = some 3 by kernel_rfl).symm.trans hf) |>.symm
      obtain rfl : fn = Tryd.f3 := (Option.some.inj (Tryd.func3.symm.trans hfn)).symm
      exact ⟨by kernel_rfl, fun j t ht => by
        rw [Tryd.params3] at ht
        have hm : t ∈ [9] := by simpa using Array.mem_of_getElem? ht
        have hall : ([9].all fun u => !Tryd.prog.wantsStandIn u) = true := by kernel_rfl
        exact (show Tryd.prog.wantsStandIn t = false by simpa using List.all_eq_true.1 hall t hm)⟩)
    (by kernel_rfl)

#print axioms fnExactReadCookies_cardHolds
end Go.Proofs.YtmijnkiopmpjdaaDoor
