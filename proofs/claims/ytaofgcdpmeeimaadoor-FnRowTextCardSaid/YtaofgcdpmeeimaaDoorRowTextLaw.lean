/- For every code: RowText of the program and of the reference agree on the drawn cells, and ReadRow of a line that is not empty returns the cells: the card FnRowTextCardSaid holds. No conditions. -/
import Derived.Test.YtaofgcdpmeeimaaDoorCellsDraw
import Derived.Test.YtaofgcdpmeeimaaDoorReadRow
import Derived.Test.YtaofgcdpmeeimaaDoorSameS
import Derived.Test.YtaofgcdpmeeimaaDoorCardKit
namespace Go.Proofs.YtaofgcdpmeeimaaDoor
open Go.RowKit Go.ChangeShapes Go.WideShapes Go.ChangeAt Go.Joins

theorem readRow_text {s : Tx} {ps : List Tx} (h0 : s ≠ []) (h : rowText ps = s) : readRow s = (ps, true) := by
  obtain ⟨h6, hx, hj⟩ := row_good h0 h
  have hp : parseS s false [] [] = ps := by rw [← hj]; exact parseS_row ps [] hx
  unfold readRow
  rw [hp, if_pos ⟨h0, h⟩]

set_option maxRecDepth 100000 in
set_option maxHeartbeats 2000000 in
theorem rowText_walk (bs : Tx) (A : Option Addr) (c : Nat) (w : World) (hr : Rd w w.heap.size A (bcells bs)) (hc : bs.length ≤ c) (hm : bs.length ≤ maxLen) (hmx : Hm w) :
    Calls Tryd.prog 10 #[.slice A bs.length c] w fun e w' => e = .returned (.bool true) ∧ Below w.heap.size w w' := by
  unfold maxLen at hm
  by_cases h : 1048576 < bs.length
  · go_enter Tryd.func10, Tryd.ntmps10
    go_wp2
    go_ret
    exact ⟨rfl, Below.refl _ _⟩
  · have HD := Lib.hid (spec_DrawRowText bs A c w hr hc (by omega))
    have HM := Lib.hid hmx
    clear hr hmx
    go_enter Tryd.func10, Tryd.ntmps10
    go_wp2_with fail
    refine HD.out.mono ?_
    rintro e w1 ⟨A1, c1, ps, rfl, ho1, hn1, hs1, hb1⟩
    have HF : Hid (FitS ps) := fun x hx => Nat.le_trans (hs1 x hx) (by decide)
    have HL : Hid (ps.length ≤ maxLen) := by show _ ≤ _; unfold maxLen; omega
    have HO1 := Lib.hid ho1
    have HB1 := Lib.hid hb1
    clear ho1 hs1 hb1
    have HI := Lib.hid (fun w hr hA => impl_RowText ps A1 c1 w hr HF.out HL.out hA)
    have HS := Lib.hid (fun w hr => spec_RowText ps A1 c1 w hr HF.out (by omega))
    have hsl := rowText_len ps
    obtain ⟨s, hs⟩ : ∃ s, rowText ps = s := ⟨_, rfl⟩
    rw [hs] at hsl
    have HX := Lib.hid (fun h0 => readRow_text h0 hs)
    simp only [hs] at HI HS
    clear hs
    have HSL : Hid (s.length ≤ maxLen) := by show _ ≤ _; unfold maxLen; omega
    have HR := Lib.hid (fun w hA => impl_ReadRow s HSL.out (by omega) w hA)
    go_wp2_with fail
    refine (HI.out _ (ownS_rd HO1.out) (HM.out.below HB1.out)).mono ?_
    rintro e w2 ⟨rfl, hb⟩
    have HB2 := Lib.hid (HB1.out.trans (hb.mono HB1.out.size))
    have hz2 := HB2.out.size
    have HO1 := Lib.hid (ownS_keep HO1.out hb)
    clear hb
    go_wp2_with fail
    refine (HS.out _ (ownS_rd HO1.out)).mono ?_
    rintro e w3 ⟨rfl, hb⟩
    have HB3 := Lib.hid (HB2.out.trans (hb.mono HB2.out.size))
    have hz3 := HB3.out.size
    have HO1 := Lib.hid (ownS_keep HO1.out hb)
    clear hb
    by_cases h0 : s = []
    · subst h0
      go_wp2_with fail
      refine (laws_alive _).mono ?_
      rintro e w4 ⟨rfl, hb⟩
      have HB4 := Lib.hid (HB3.out.trans (hb.mono HB3.out.size))
      have hz4 := HB4.out.size
      have HO1 := Lib.hid (ownS_keep HO1.out hb)
      clear hb
      go_wp2
      go_ret
      exact ⟨rfl, HB4.out⟩
    · have hx := HX.out h0
      have h1 : (s == []) = false := by simpa using h0
      clear HX
      rw [hx] at HR
      clear hx h0
      go_wp2_with fail
      refine (HR.out _ (HM.out.below HB3.out)).mono ?_
      rintro e w4 ⟨A4, c4, rfl, ho, hb⟩
      have HB4 := Lib.hid (HB3.out.trans (hb.mono HB3.out.size))
      have hz4 := HB4.out.size
      have HO1 := Lib.hid (ownS_keep HO1.out hb)
      have HO4 := Lib.hid ho
      clear hb ho
      dsimp only
      go_wp2_with fail
      refine (laws_sameTexts ps ps A4 A1 c4 c1 _ (ownS_rd HO4.out) (ownS_rd HO1.out) HL.out).mono ?_
      rw [beq_self_eq_true]
      rintro e w5 ⟨rfl, hb⟩
      have HB5 := Lib.hid (HB4.out.trans (hb.mono HB4.out.size))
      have hz5 := HB5.out.size
      have HO1 := Lib.hid (ownS_keep HO1.out hb)
      have HO4 := Lib.hid (ownS_keep HO4.out hb)
      clear hb
      go_wp2
      go_ret
      exact ⟨rfl, HB5.out⟩

set_option maxRecDepth 100000 in
theorem fnRowText_lifted (os : Os) (started : os.Started) (H : Type) (enc : TypeId × Value → H) :
    ReturnsInHanded {} Tryd.checked os 10 .any (fun w args => (Rows.fnRowTextSpec.pre enc Tryd.prog Tryd.f10 Rows.fnRowTextRow.domain false w args ∧ laidMetH Tryd.prog Rows.fnRowTextRow.laid w) ∧ sizedMet enc Tryd.prog Tryd.f10 (OpenSpec.ofChange Rows.fnRowTextSpec) false w args)
      (Rows.fnRowTextSpec.post enc Tryd.prog Tryd.f10 false true false false) := by
  refine returnsInHanded_of_change_and_shaped (C := Tryd.checked) (X := fun w _ => laidMetH Tryd.prog Rows.fnRowTextRow.laid w) (fun _ _ _ hh h => h.of_heap hh) Tryd.own started (by kernel_rfl) Tryd.func10
    (ChangeSpec.witness_shaped (enc := enc) (C := Tryd.checked) (os := os) (X := fun w _ => laidMetH Tryd.prog Rows.fnRowTextRow.laid w) false (World.laidAll Tryd.prog os Rows.fnRowTextRow.laid) #[.slice none 0 0] 8 (World.laidAll_os _ _ _)
      (World.shaped_of_ZipB (by kernel_rfl) (by kernel_rfl)) (by kernel_rfl) (by kernel_rfl) (by kernel_rfl)
      (by rw [MakeChecks.laidMetH_plain _ _ _ (by kernel_rfl)]; exact laidMet_laidAll _ (by kernel_rfl) (by kernel_rfl))) ?_
  intro W base args ds gs before hval0 hW _ _ _ hsh _
  have hval : ∀ (j : Nat) t v, Tryd.f10.params[j]? = some t → args[j]? = some v → Value.okWide Tryd.prog W .any base t v := hval0
  have hW' := hW
  obtain ⟨p, q, hA0, hV, rfl, _, _⟩ := hW
  have hA : DataW.TrodAll enc Tryd.prog W 0 (fun _ => true) true Tryd.f10.params.toList args.toList ds p := hA0
  rw [Tryd.params10] at hA hval
  obtain ⟨v0, d0, rfl, rfl, h0⟩ := trodAll_one hA
  obtain ⟨rfl, rfl⟩ := trodVars_none hV
  obtain ⟨A, c, bs, rfl, hr, hlc, hcm⟩ := open_bytes Tryd.underlying22 Tryd.underlying5 (by kernel_rfl) (hval 0 _ v0 rfl rfl) h0
  refine (rowText_walk bs A c W hr hlc (Nat.le_trans hlc hcm) (hm_shaped hsh)).mono fun e W' ⟨he, hw⟩ => ?_
  subst he
  exact ⟨_, rfl, law_post hW' rfl rfl (by kernel_rfl) Tryd.underlying4 Tryd.laidOut (of_decide_eq_true (by kernel_rfl)) hw⟩

theorem fnRowText_holds : Rows.FnRowTextSaid :=
  OpenClaim.holds_of_wide 10 Tryd.f10 rfl rfl rfl rfl rfl rfl rfl ⟨rfl, rfl, rfl, rfl, rfl⟩ rfl rfl rfl rfl rfl (by kernel_rfl) Tryd.func10 (by kernel_rfl)
    (of_decide_eq_true (by kernel_rfl)) (by unfold Func.isWrapper; first | (rw [if_pos (by decide +kernel)]; kernel_rfl) | (rw [if_neg (by decide +kernel)]; exact ⟨rfl, rfl⟩))
    (fun os started H enc _ => fnRowText_lifted os started H enc)

theorem fnRowText_cardHolds : Rows.FnRowTextCardSaid :=
  Claim7.holds_tied_plain_at .later [] _ true _ false fnRowText_holds (fun _ h => by cases h) (by kernel_rfl) (fun _ h => by cases h) fnRowText_row_tie rfl ⟨rfl, rfl⟩ (by kernel_rfl) rfl
    (fun f fn hf hfn => by
      obtain rfl : f = 10 := Option.some.inj ((show Tryd.prog.funcNamed "loop.example/templateescaper/laws.FnRowText" = some 10 by kernel_rfl).symm.trans hf) |>.symm
      obtain rfl : fn = Tryd.f10 := (Option.some.inj (Tryd.func10.symm.trans hfn)).symm
      exact ⟨by kernel_rfl, fun j t ht => by
        rw [Tryd.params10] at ht
        have hm : t ∈ [22] := by simpa using Array.mem_of_getElem? ht
        have hall : ([22].all fun u => !Tryd.prog.wantsStandIn u) = true := by kernel_rfl
        exact (show Tryd.prog.wantsStandIn t = false by simpa using List.all_eq_true.1 hall t hm)⟩)
    (by kernel_rfl)

#print axioms fnRowText_cardHolds
end Go.Proofs.YtaofgcdpmeeimaaDoor
