/- For all lists of texts and all numbers: ColumnOf of the program returns what the reference's returns, leaves the list alone, and its result shares no memory with it: the card FnExactColumnOfCardSaid holds. No conditions. -/
import Derived.Test.YtaofgcdpmeeimaaDoorColumnOf
import Derived.Test.YtaofgcdpmeeimaaDoorStrS
import Derived.Test.YtaofgcdpmeeimaaDoorOpenS
import Derived.Test.YtaofgcdpmeeimaaDoorCardKit
namespace Go.Proofs.YtaofgcdpmeeimaaDoor
open Go.RowKit Go.ChangeShapes Go.WideShapes Go.ChangeAt Go.Joins
open Go.ChangeMaps (open_string shut_string)

set_option maxRecDepth 100000 in
set_option maxHeartbeats 4000000 in
theorem exactColumnOf_walk (ps : List Tx) (col : Int) (A : Option Addr) (c : Nat) (w : World) (hr : Rd w w.heap.size A (scells ps)) (hf : FitS ps) (hn : ps.length ≤ maxLen) (hm : Hm w) :
    Calls Tryd.prog 13 #[.slice A ps.length c, .int .i64 col] w fun e w' => e = .returned (.bool true) ∧ Below w.heap.size w w' := by
  by_cases h : (1048576 : Int) < ps.length + ssize ps
  · have HC := Lib.hid (laws_szStringS_over ps A c 1048576 w hr hf (by omega) (by omega) hn h)
    clear h
    go_enter Tryd.func13, Tryd.ntmps13
    go_wp2_with fail
    refine HC.out.mono ?_
    rintro e w' ⟨rfl, rfl⟩
    go_wp2
    go_ret
    exact ⟨rfl, Below.refl _ _⟩
  · have HC := Lib.hid (laws_szStringS_fits ps A c 1048576 w hr (by omega) (by omega) hn (by omega))
    have hle : ps.length ≤ 1048576 := by omega
    have hsz : ps.length + ssize ps ≤ 1048576 := by omega
    have h1 : 0 ≤ (1048576 : Int) - ps.length - ssize ps := by omega
    clear h
    generalize (1048576 : Int) - ps.length - ssize ps = q at *
    obtain ⟨r, hres⟩ : ∃ r, columnOf ps col = r := ⟨_, rfl⟩
    have hrl : r.1.length ≤ 1048577 := by rw [← hres]; exact columnOf_len ps col hle
    have HI := Lib.hid (fun A c w hr hA hm => impl_ColumnOf ps col A c w hr hA hf hn hsz hm)
    have HS := Lib.hid (fun A c w hr hA => spec_ColumnOf ps col A c w hr hA hf hn hsz)
    simp only [hres] at HI HS
    clear hres
    have HM := Lib.hid hm
    clear hm
    obtain ⟨out, ok⟩ := r
    dsimp only at hrl HI HS
    have HRM : Hid (out.length ≤ maxLen) := by show _ ≤ _; unfold maxLen; omega
    go_enter Tryd.func13, Tryd.ntmps13
    go_wp2_with fail
    refine HC.out.mono ?_
    rintro e w1 ⟨rfl, rfl⟩
    have HB1 := Lib.hid (Below.refl w.heap.size w)
    go_wp2_with fail
    refine (laws_toStringS ps A c _ ((hr.below HB1.out).more HB1.out.size) hle).mono ?_
    rintro e w2 ⟨A2, c2, rfl, ho2, hb2⟩
    have HB2 := Lib.hid (HB1.out.trans (hb2.mono HB1.out.size))
    have HO2 := Lib.hid ho2
    have HH2 := Lib.hid (fun g h => (ho2.lt g h).2)
    have HS2 := Lib.hid hb2.size
    clear hb2 ho2
    go_wp2_with fail
    refine (HS.out A2 c2 _ (ownS_rd HO2.out) (own_none HO2.out)).mono ?_
    rintro e w3 ⟨A3, c3, rfl, ho3, hb3⟩
    have HB3 := Lib.hid (HB2.out.trans (hb3.mono HB2.out.size))
    have HO3 := Lib.hid ho3
    have HH3 := Lib.hid (fun g h => (ho3.lt g h).2)
    have HS3 := Lib.hid hb3.size
    clear hb3 ho3
    dsimp only
    go_wp2_with fail
    refine (laws_toStringS ps A c _ ((hr.below HB3.out).more HB3.out.size) hle).mono ?_
    rintro e w4 ⟨A4, c4, rfl, ho4, hb4⟩
    have HB4 := Lib.hid (HB3.out.trans (hb4.mono HB3.out.size))
    have HO4 := Lib.hid ho4
    have HH4 := Lib.hid (fun g h => (ho4.lt g h).2)
    have HS4 := Lib.hid hb4.size
    have HO3 := Lib.hid (ownS_keep HO3.out hb4)
    clear hb4 ho4
    go_wp2_with fail
    refine (HI.out A4 c4 _ (ownS_rd HO4.out) (own_none HO4.out) (HM.out.below HB4.out)).mono ?_
    rintro e w5 ⟨A5, c5, rfl, ho5, hb5⟩
    have HB5 := Lib.hid (HB4.out.trans (hb5.mono HB4.out.size))
    have HO5 := Lib.hid ho5
    have HH5 := Lib.hid (fun g h => (ho5.lt g h).2)
    have HS5 := Lib.hid hb5.size
    have HO3 := Lib.hid (ownS_keep HO3.out hb5)
    have HO4 := Lib.hid (ownS_keep HO4.out hb5)
    clear hb5 ho5
    dsimp only
    go_wp2_with fail
    refine (laws_eqStringS out out A5 A3 c5 c3 _ (ownS_rd HO5.out) (ownS_rd HO3.out) HRM.out).mono ?_
    rw [beq_self_eq_true]
    rintro e w6 ⟨rfl, hb6⟩
    have HB6 := Lib.hid (HB5.out.trans (hb6.mono HB5.out.size))
    have HS6 := Lib.hid hb6.size
    have HO3 := Lib.hid (ownS_keep HO3.out hb6)
    have HO4 := Lib.hid (ownS_keep HO4.out hb6)
    have HO5 := Lib.hid (ownS_keep HO5.out hb6)
    clear hb6
    go_wp2_with fail
    refine (laws_toStringS ps A c _ ((hr.below HB6.out).more HB6.out.size) hle).mono ?_
    rintro e w7 ⟨A7, c7, rfl, ho7, hb7⟩
    have HB7 := Lib.hid (HB6.out.trans (hb7.mono HB6.out.size))
    have HO7 := Lib.hid ho7
    have HH7 := Lib.hid (fun g h => (ho7.lt g h).2)
    have HS7 := Lib.hid hb7.size
    have HO3 := Lib.hid (ownS_keep HO3.out hb7)
    have HO4 := Lib.hid (ownS_keep HO4.out hb7)
    have HO5 := Lib.hid (ownS_keep HO5.out hb7)
    clear hb7 ho7
    go_wp2_with fail
    refine (laws_eqStringS ps ps A4 A7 c4 c7 _ (ownS_rd HO4.out) (ownS_rd HO7.out) hn).mono ?_
    rw [beq_self_eq_true]
    rintro e w8 ⟨rfl, hb8⟩
    have HB8 := Lib.hid (HB7.out.trans (hb8.mono HB7.out.size))
    have HS8 := Lib.hid hb8.size
    have HO3 := Lib.hid (ownS_keep HO3.out hb8)
    have HO4 := Lib.hid (ownS_keep HO4.out hb8)
    have HO5 := Lib.hid (ownS_keep HO5.out hb8)
    have HO7 := Lib.hid (ownS_keep HO7.out hb8)
    clear hb8
    go_wp2_with fail
    refine (laws_markStringS_one ps _ A4 c4 _ HO4.out (by omega)).mono ?_
    rintro e w9 ⟨rfl, _, hg9⟩
    have HB9 := Lib.hid (HB8.out.trans (grown_to_below hg9 HB8.out.size (fun g h => Nat.le_trans HB3.out.size (ownS_row HO4.out g h))))
    have HO3 : Hid (OwnS w9 _ A3 c3 out) := own_frame HO3.out HH3.out hg9 (fun g h => .inr (ownS_row HO4.out g h))
    have HO5 : Hid (OwnS w9 _ A5 c5 out) := own_frame HO5.out HH5.out hg9 (fun g h => .inl (HH4.out g h))
    clear hg9
    go_wp2_with fail
    refine (laws_eqStringS out out A5 A3 c5 c3 _ (ownS_rd HO5.out) (ownS_rd HO3.out) HRM.out).mono ?_
    rw [beq_self_eq_true]
    rintro e w10 ⟨rfl, hb10⟩
    have HB10 := Lib.hid (HB9.out.trans (hb10.mono HB9.out.size))
    have HS10 := Lib.hid hb10.size
    have HO3 := Lib.hid (ownS_keep HO3.out hb10)
    have HO5 := Lib.hid (ownS_keep HO5.out hb10)
    clear hb10
    go_wp2_with fail
    refine (laws_markStringS_one out _ A5 c5 _ HO5.out (by omega)).mono ?_
    rintro e w11 ⟨rfl, ho11, hg11⟩
    have HB11 := Lib.hid (HB10.out.trans (grown_to_below hg11 HB10.out.size (fun g h => Nat.le_trans HB4.out.size (ownS_row HO5.out g h))))
    have HO3 : Hid (OwnS w11 _ A3 c3 out) := own_frame HO3.out HH3.out hg11 (fun g h => .inr (Nat.le_trans HS4.out (ownS_row HO5.out g h)))
    have HO5 := Lib.hid ho11
    have HML : Hid ((marksS 1 out.length).length = out.length) := marksS_length _ _
    clear hg11 ho11
    go_wp2_with fail
    refine (laws_heldStringS_one out.length A5 c5 _ (by have h := ownS_rd HO5.out; exact h) (by omega)).mono ?_
    rintro e w12 ⟨rfl, hb12⟩
    have HB12 := Lib.hid (HB11.out.trans (hb12.mono HB11.out.size))
    have HO3 := Lib.hid (ownS_keep HO3.out hb12)
    have HO5 := Lib.hid (ownS_keep HO5.out hb12)
    clear hb12
    go_wp2_with fail
    refine (laws_toStringS ps A c _ ((hr.below HB12.out).more HB12.out.size) hle).mono ?_
    rintro e w13 ⟨A13, c13, rfl, ho13, hb13⟩
    have HB13 := Lib.hid (HB12.out.trans (hb13.mono HB12.out.size))
    have HO13 := Lib.hid ho13
    have HH13 := Lib.hid (fun g h => (ho13.lt g h).2)
    have HS13 := Lib.hid hb13.size
    have HO3 := Lib.hid (ownS_keep HO3.out hb13)
    have HO5 := Lib.hid (ownS_keep HO5.out hb13)
    clear hb13 ho13
    go_wp2_with fail
    refine (HI.out A13 c13 _ (ownS_rd HO13.out) (own_none HO13.out) (HM.out.below HB13.out)).mono ?_
    rintro e w14 ⟨A14, c14, rfl, ho14, hb14⟩
    have HB14 := Lib.hid (HB13.out.trans (hb14.mono HB13.out.size))
    have HO14 := Lib.hid ho14
    have HH14 := Lib.hid (fun g h => (ho14.lt g h).2)
    have HS14 := Lib.hid hb14.size
    have HO3 := Lib.hid (ownS_keep HO3.out hb14)
    have HO5 := Lib.hid (ownS_keep HO5.out hb14)
    clear hb14 ho14
    dsimp only
    go_wp2_with fail
    refine (laws_eqStringS out out A14 A3 c14 c3 _ (ownS_rd HO14.out) (ownS_rd HO3.out) HRM.out).mono ?_
    rw [beq_self_eq_true]
    rintro e w15 ⟨rfl, hb15⟩
    have HB15 := Lib.hid (HB14.out.trans (hb15.mono HB14.out.size))
    have HS15 := Lib.hid hb15.size
    have HO3 := Lib.hid (ownS_keep HO3.out hb15)
    have HO5 := Lib.hid (ownS_keep HO5.out hb15)
    have HO14 := Lib.hid (ownS_keep HO14.out hb15)
    clear hb15
    go_wp2_with fail
    refine (laws_heldStringS_one out.length A5 c5 _ (by have h := ownS_rd HO5.out; exact h) (by omega)).mono ?_
    rintro e w16 ⟨rfl, hb16⟩
    have HB16 := Lib.hid (HB15.out.trans (hb16.mono HB15.out.size))
    have HO5 := Lib.hid (ownS_keep HO5.out hb16)
    clear hb16
    go_wp2
    go_ret
    exact ⟨rfl, HB16.out⟩

theorem Tryd.cells_string : Tryd.prog.cellsOf 9 = 1 := by kernel_rfl
set_option maxRecDepth 100000 in
theorem fnExactColumnOf_lifted (os : Os) (started : os.Started) (H : Type) (enc : TypeId × Value → H) :
    ReturnsInHanded {} Tryd.checked os 13 .any (fun w args => (Rows.fnExactColumnOfSpec.pre enc Tryd.prog Tryd.f13 Rows.fnExactColumnOfRow.domain false w args ∧ laidMetH Tryd.prog Rows.fnExactColumnOfRow.laid w) ∧ sizedMet enc Tryd.prog Tryd.f13 (OpenSpec.ofChange Rows.fnExactColumnOfSpec) false w args)
      (Rows.fnExactColumnOfSpec.post enc Tryd.prog Tryd.f13 false true false false) := by
  refine returnsInHanded_of_change_and_shaped (C := Tryd.checked) (X := fun w _ => laidMetH Tryd.prog Rows.fnExactColumnOfRow.laid w) (fun _ _ _ hh h => h.of_heap hh) Tryd.own started (by kernel_rfl) Tryd.func13
    (ChangeSpec.witness_shaped (enc := enc) (C := Tryd.checked) (os := os) (X := fun w _ => laidMetH Tryd.prog Rows.fnExactColumnOfRow.laid w) false (World.laidAll Tryd.prog os Rows.fnExactColumnOfRow.laid) #[.slice none 0 0, .int .i64 0] 8 (World.laidAll_os _ _ _)
      (World.shaped_of_ZipB (by kernel_rfl) (by kernel_rfl)) (by kernel_rfl) (by kernel_rfl) (by kernel_rfl)
      (by rw [MakeChecks.laidMetH_plain _ _ _ (by kernel_rfl)]; exact laidMet_laidAll _ (by kernel_rfl) (by kernel_rfl))) ?_
  intro W base args ds gs before hval0 hW _ _ _ hsh _
  have hval : ∀ (j : Nat) t v, Tryd.f13.params[j]? = some t → args[j]? = some v → Value.okWide Tryd.prog W .any base t v := hval0
  have hW' := hW
  obtain ⟨p, q, hA0, hV, rfl, _, _⟩ := hW
  have hA : DataW.TrodAll enc Tryd.prog W 0 (fun _ => true) true Tryd.f13.params.toList args.toList ds p := hA0
  rw [Tryd.params13] at hA hval
  obtain ⟨v0, v1, d0, d1, p0, p1, rfl, rfl, rfl, h0, h1⟩ := trodAll_two hA
  obtain ⟨rfl, rfl⟩ := trodVars_none hV
  obtain ⟨A, c, ps, rfl, hr, hf, hlc, hcm⟩ := open_texts Tryd.underlying39 Tryd.underlying9 Tryd.cells_string (hval 0 _ v0 rfl rfl) h0
  obtain ⟨z, rfl, rfl, rfl, _⟩ := open_int Tryd.underlying3 (hval 1 _ v1 rfl rfl) h1
  refine (exactColumnOf_walk ps z A c W hr hf (Nat.le_trans hlc hcm) (hm_shaped hsh)).mono fun e W' ⟨he, hw⟩ => ?_
  subst he
  exact ⟨_, rfl, law_post hW' rfl rfl (by kernel_rfl) Tryd.underlying4 Tryd.laidOut (of_decide_eq_true (by kernel_rfl)) hw⟩

theorem fnExactColumnOf_holds : Rows.FnExactColumnOfSaid :=
  OpenClaim.holds_of_wide 13 Tryd.f13 rfl rfl rfl rfl rfl rfl rfl ⟨rfl, rfl, rfl, rfl, rfl⟩ rfl rfl rfl rfl rfl (by kernel_rfl) Tryd.func13 (by kernel_rfl)
    (of_decide_eq_true (by kernel_rfl)) (by unfold Func.isWrapper; first | (rw [if_pos (by decide +kernel)]; kernel_rfl) | (rw [if_neg (by decide +kernel)]; exact ⟨rfl, rfl⟩))
    (fun os started H enc _ => fnExactColumnOf_lifted os started H enc)

theorem fnExactColumnOf_cardHolds : Rows.FnExactColumnOfCardSaid :=
  Claim7.holds_tied_plain_at .later [] _ true _ false fnExactColumnOf_holds (fun _ h => by cases h) (by kernel_rfl) (fun _ h => by cases h) fnExactColumnOf_row_tie rfl ⟨rfl, rfl⟩ (by kernel_rfl) rfl
    (fun f fn hf hfn => by
      obtain rfl : f = 13 := Option.some.inj ((show Tryd.prog.funcNamed "loop.example/templateescaper/laws.FnExactColumnOf" = some 13 by kernel_rfl).symm.trans hf) |>.symm
      obtain rfl : fn = Tryd.f13 := (Option.some.inj (Tryd.func13.symm.trans hfn)).symm
      exact ⟨by kernel_rfl, fun j t ht => by
        rw [Tryd.params13] at ht
        have hm : t ∈ [39, 3] := by simpa using Array.mem_of_getElem? ht
        have hall : ([39, 3].all fun u => !Tryd.prog.wantsStandIn u) = true := by kernel_rfl
        exact (show Tryd.prog.wantsStandIn t = false by simpa using List.all_eq_true.1 hall t hm)⟩)
    (by kernel_rfl)

#print axioms fnExactColumnOf_cardHolds
end Go.Proofs.YtaofgcdpmeeimaaDoor
