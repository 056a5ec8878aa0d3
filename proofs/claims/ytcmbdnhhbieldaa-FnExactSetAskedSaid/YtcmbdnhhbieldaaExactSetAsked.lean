/- For all lists of pairs, names and texts: SetAsked of the program returns what the reference's returns, leaves its argument alone, and its result shares no memory with it: the law FnExactSetAsked holds. No conditions. -/
import Derived.Test.YtcmbdnhhbieldaaSetAsked
namespace Go.Proofs.Ytcmbdnhhbieldaa
open Go.RowKit Go.ChangeShapes Go.WideShapes Go.ChangeAt Go.Joins
open Go.ChangeMaps (open_string shut_string)

set_option maxHeartbeats 4000000 in
theorem exactSetAsked_walk (ps : List Pr) (n t : Tx) (A : Option Addr) (c : Nat) (w : World) (hr : Rd w w.heap.size A (pcells ps)) (hf : Fit ps) (hn : ps.length ≤ maxLen) (hnl : n.length ≤ maxLen) (htl : t.length ≤ maxLen) :
    Calls Try.prog 8 #[.slice A ps.length c, .string ⟨n.toArray⟩, .string ⟨t.toArray⟩] w fun e w' => e = .returned (.bool true) ∧ Below w.heap.size w w' := by
  have HNL := Lib.hid hnl
  have HTL := Lib.hid htl
  unfold maxLen at hnl htl
  by_cases hn1 : 1048576 < n.length
  · go_enter Try.func8, Try.ntmps8
    go_wp2
    go_ret
    exact ⟨rfl, Below.refl _ _⟩
  by_cases ht1 : 1048576 < t.length
  · go_enter Try.func8, Try.ntmps8
    go_wp2
    go_ret
    exact ⟨rfl, Below.refl _ _⟩
  by_cases h : (1048576 : Int) < ps.length + psize ps
  · have HC := Lib.hid (laws_szPairS_over ps A c 1048576 w hr hf (by omega) (by omega) hn h)
    clear h
    go_enter Try.func8, Try.ntmps8
    go_wp2_with fail
    refine HC.out.mono ?_
    rintro e w1 ⟨rfl, hb1⟩; have hc1 := below_cells hb1; have hf1 := below_frozen hb1; have hz1 := hb1.size; (try simp at hz1); have HB1 := Lib.hid hb1; clear hb1
    go_wp2
    go_ret
    exact ⟨rfl, HB1.out⟩
  · have HC := Lib.hid (laws_szPairS_fits ps A c 1048576 w hr hf (by omega) (by omega) hn (by omega))
    have hle : ps.length ≤ 1048576 := by omega
    have h1 : 0 ≤ (1048576 : Int) - ps.length - psize ps := by omega
    clear h
    generalize (1048576 : Int) - ps.length - psize ps = q at *
    obtain ⟨r, hres⟩ : ∃ r, setAsked ps n t = r := ⟨_, rfl⟩
    have hrl : r.1.length ≤ 1048577 := by rw [← hres]; exact setAsked_len ps n t hle
    have HRES := Lib.hid hres
    clear hres
    obtain ⟨out, ok⟩ := r
    dsimp only at hrl
    have hrm : out.length ≤ maxLen := by unfold maxLen; omega
    have HRM := Lib.hid hrm
    clear hrm
    go_enter Try.func8, Try.ntmps8
    go_wp2_with fail
    refine HC.out.mono ?_
    rintro e w1 ⟨rfl, hb1⟩
    have HB1 := Lib.hid hb1
    go_wp2_with fail
    refine (laws_toPairS ps A c _ ((hr.below hb1).more hb1.size) hle).mono ?_
    rintro e w2 ⟨A2, c2, rfl, ho2, hb2⟩
    have HB2 := Lib.hid (HB1.out.trans (hb2.mono HB1.out.size))
    clear hb1 hb2
    go_wp2_with fail
    refine (spec_SetAsked ps n t A2 c2 _ (ownP_rd ho2) (own_none ho2) hf hn HNL.out HTL.out).mono ?_
    rw [HRES.out]
    rintro e w3 ⟨A3, c3, rfl, ho3, hb3⟩
    have HO3 := Lib.hid ho3
    have HH3 := Lib.hid (fun g h => (ho3.lt g h).2)
    have HB3 := Lib.hid (HB2.out.trans (hb3.mono HB2.out.size))
    have HS3 := Lib.hid hb3.size
    clear hb3 ho2 ho3
    go_wp2_with fail
    refine (laws_toPairS ps A c _ ((hr.below HB3.out).more HB3.out.size) hle).mono ?_
    rintro e w4 ⟨A4, c4, rfl, ho4, hb4⟩
    have HO4 := Lib.hid ho4
    have HH4 := Lib.hid (fun g h => (ho4.lt g h).2)
    have HB4 := Lib.hid (HB3.out.trans (hb4.mono HB3.out.size))
    have HS4 := Lib.hid hb4.size
    have HO3 := Lib.hid (ownP_keep HO3.out hb4)
    clear hb4 ho4
    go_wp2_with fail
    refine (impl_SetAsked ps n t A4 c4 _ (ownP_rd HO4.out) (own_none HO4.out) hf hn HNL.out HTL.out).mono ?_
    rw [HRES.out]
    rintro e w5 ⟨A5, c5, rfl, ho5, hb5⟩
    have HO5 := Lib.hid ho5
    have HH5 := Lib.hid (fun g h => (ho5.lt g h).2)
    have HB5 := Lib.hid (HB4.out.trans (hb5.mono HB4.out.size))
    have HS5 := Lib.hid hb5.size
    have HO3 := Lib.hid (ownP_keep HO3.out hb5)
    have HO4 := Lib.hid (ownP_keep HO4.out hb5)
    clear hb5 ho5
    dsimp only
    go_wp2_with fail
    refine (laws_eqPairS out out A5 A3 c5 c3 _ (ownP_rd HO5.out) (ownP_rd HO3.out) HRM.out).mono ?_
    rw [beq_self_eq_true]
    rintro e w6 ⟨rfl, hb6⟩
    have HB6 := Lib.hid (HB5.out.trans (hb6.mono HB5.out.size))
    have HO3 := Lib.hid (ownP_keep HO3.out hb6)
    have HO4 := Lib.hid (ownP_keep HO4.out hb6)
    have HO5 := Lib.hid (ownP_keep HO5.out hb6)
    clear hb6
    go_wp2_with fail
    refine (laws_toPairS ps A c _ ((hr.below HB6.out).more HB6.out.size) hle).mono ?_
    rintro e w7 ⟨A7, c7, rfl, ho7, hb7⟩
    have HO7 := Lib.hid ho7
    have HB7 := Lib.hid (HB6.out.trans (hb7.mono HB6.out.size))
    have HO3 := Lib.hid (ownP_keep HO3.out hb7)
    have HO4 := Lib.hid (ownP_keep HO4.out hb7)
    have HO5 := Lib.hid (ownP_keep HO5.out hb7)
    clear hb7 ho7
    go_wp2_with fail
    refine (laws_eqPairS ps ps A4 A7 c4 c7 _ (ownP_rd HO4.out) (ownP_rd HO7.out) hn).mono ?_
    rw [beq_self_eq_true]
    rintro e w8 ⟨rfl, hb8⟩
    have HB8 := Lib.hid (HB7.out.trans (hb8.mono HB7.out.size))
    have HO3 := Lib.hid (ownP_keep HO3.out hb8)
    have HO4 := Lib.hid (ownP_keep HO4.out hb8)
    have HO5 := Lib.hid (ownP_keep HO5.out hb8)
    have HS8 := Lib.hid hb8.size
    clear hb8
    go_wp2_with fail
    refine (laws_markPairS_one ps _ A4 c4 _ HO4.out (by omega)).mono ?_
    rintro e w9 ⟨rfl, _, hg9⟩
    have HB9 := Lib.hid (HB8.out.trans (grown_to_below hg9 HB8.out.size (fun g h => Nat.le_trans HB3.out.size (ownP_row HO4.out g h))))
    have HO3 : Hid (OwnP w9 _ A3 c3 out) := own_frame HO3.out HH3.out hg9 (fun g h => .inr (ownP_row HO4.out g h))
    have HO5 : Hid (OwnP w9 _ A5 c5 out) := own_frame HO5.out HH5.out hg9 (fun g h => .inl (HH4.out g h))
    clear hg9
    go_wp2_with fail
    refine (laws_eqPairS out out A5 A3 c5 c3 _ (ownP_rd HO5.out) (ownP_rd HO3.out) HRM.out).mono ?_
    rw [beq_self_eq_true]
    rintro e w10 ⟨rfl, hb10⟩
    have HB10 := Lib.hid (HB9.out.trans (hb10.mono HB9.out.size))
    have HO3 := Lib.hid (ownP_keep HO3.out hb10)
    have HO5 := Lib.hid (ownP_keep HO5.out hb10)
    clear hb10
    go_wp2_with fail
    refine (laws_markPairS_one out _ A5 c5 _ HO5.out (by omega)).mono ?_
    rintro e w11 ⟨rfl, ho11, hg11⟩
    have HB11 := Lib.hid (HB10.out.trans (grown_to_below hg11 HB10.out.size (fun g h => Nat.le_trans HB4.out.size (ownP_row HO5.out g h))))
    have HO3 : Hid (OwnP w11 _ A3 c3 out) := own_frame HO3.out HH3.out hg11 (fun g h => .inr (Nat.le_trans HS4.out (ownP_row HO5.out g h)))
    have HO5 := Lib.hid ho11
    have HML : Hid ((marksP 1 out.length).length = out.length) := marksP_length _ _
    clear hg11 ho11
    go_wp2_with fail
    refine (laws_heldPairS_one out.length A5 c5 _ (by have h := ownP_rd HO5.out; exact h) (by omega)).mono ?_
    rintro e w12 ⟨rfl, hb12⟩
    have HB12 := Lib.hid (HB11.out.trans (hb12.mono HB11.out.size))
    have HO3 := Lib.hid (ownP_keep HO3.out hb12)
    have HO5 := Lib.hid (ownP_keep HO5.out hb12)
    clear hb12
    go_wp2_with fail
    refine (laws_toPairS ps A c _ ((hr.below HB12.out).more HB12.out.size) hle).mono ?_
    rintro e w13 ⟨A13, c13, rfl, ho13, hb13⟩
    have HO13 := Lib.hid ho13
    have HB13 := Lib.hid (HB12.out.trans (hb13.mono HB12.out.size))
    have HO3 := Lib.hid (ownP_keep HO3.out hb13)
    have HO5 := Lib.hid (ownP_keep HO5.out hb13)
    clear hb13 ho13
    go_wp2_with fail
    refine (impl_SetAsked ps n t A13 c13 _ (ownP_rd HO13.out) (own_none HO13.out) hf hn HNL.out HTL.out).mono ?_
    rw [HRES.out]
    rintro e w14 ⟨A14, c14, rfl, ho14, hb14⟩
    have HO14 := Lib.hid ho14
    have HB14 := Lib.hid (HB13.out.trans (hb14.mono HB13.out.size))
    have HO3 := Lib.hid (ownP_keep HO3.out hb14)
    have HO5 := Lib.hid (ownP_keep HO5.out hb14)
    clear hb14 ho14
    dsimp only
    go_wp2_with fail
    refine (laws_eqPairS out out A14 A3 c14 c3 _ (ownP_rd HO14.out) (ownP_rd HO3.out) HRM.out).mono ?_
    rw [beq_self_eq_true]
    rintro e w15 ⟨rfl, hb15⟩
    have HB15 := Lib.hid (HB14.out.trans (hb15.mono HB14.out.size))
    have HO5 := Lib.hid (ownP_keep HO5.out hb15)
    clear hb15
    go_wp2_with fail
    refine (laws_heldPairS_one out.length A5 c5 _ (by have h := ownP_rd HO5.out; exact h) (by omega)).mono ?_
    rintro e w16 ⟨rfl, hb16⟩
    have HB16 := Lib.hid (HB15.out.trans (hb16.mono HB15.out.size))
    clear hb16
    go_wp2
    go_ret
    exact ⟨rfl, HB16.out⟩

theorem Try.cells_Pair : Try.prog.cellsOf 23 = 2 := by kernel_rfl
theorem Try.cells_string : Try.prog.cellsOf 9 = 1 := by kernel_rfl

set_option maxRecDepth 100000 in
theorem fnExactSetAsked_lifted (os : Os) (started : os.Started) (H : Type) (enc : TypeId × Value → H) :
    ReturnsInHanded {} Try.checked os 8 .any (Rows.fnExactSetAskedSpec.pre6 enc Try.prog Try.f8 Rows.fnExactSetAskedRow.domain false)
      (Rows.fnExactSetAskedSpec.post enc Try.prog Try.f8 false true false false) := by
  refine returnsInHanded_of_change (C := Try.checked) Try.own started (by kernel_rfl) Try.func8
    (ChangeSpec.witness6 (enc := enc) (C := Try.checked) false ⟨#[], #[.slice none 0 0, .string ⟨#[]⟩, .string ⟨#[]⟩], []⟩ 8 (by kernel_rfl) (by kernel_rfl) (by kernel_rfl) (by kernel_rfl)) ?_
  intro W base args ds gs before hval0 hW _ _
  have hval : ∀ (j : Nat) t v, Try.f8.params[j]? = some t → args[j]? = some v → Value.okWide Try.prog W .any base t v := hval0
  have hW' := hW
  obtain ⟨p, q, hA0, hV, rfl, _, _⟩ := hW
  have hA : DataW.TrodAll enc Try.prog W 0 (fun _ => true) true Try.f8.params.toList args.toList ds p := hA0
  rw [Try.params8] at hA hval
  obtain ⟨v0, v1, v2, d0, d1, d2, p0, p1, p2, rfl, rfl, rfl, h0, h1, h2⟩ := trodAll_three hA
  obtain ⟨rfl, rfl⟩ := trodVars_none hV
  obtain ⟨A, c, ps, rfl, hr, hf, hlc, hcm⟩ := open_pairs Try.underlying35 Try.underlying23 Try.cells_Pair rfl rfl Try.cells_string Try.cells_string Try.underlying9 Try.underlying9 (hval 0 _ v0 rfl rfl) h0
  obtain ⟨a, rfl, rfl, rfl, wa⟩ := open_string Try.underlying9 (hval 1 _ v1 rfl rfl) h1
  obtain ⟨b, rfl, rfl, rfl, wb⟩ := open_string Try.underlying9 (hval 2 _ v2 rfl rfl) h2
  obtain ⟨n, rfl⟩ := tx_of a
  obtain ⟨t, rfl⟩ := tx_of b
  refine (exactSetAsked_walk ps n t A c W hr hf (Nat.le_trans hlc hcm) wa wb).mono fun e W' ⟨he, hw⟩ => ?_
  subst he
  exact ⟨_, rfl, law_post hW' rfl rfl (by kernel_rfl) Try.underlying4 Try.laidOut (of_decide_eq_true (by kernel_rfl)) hw⟩

theorem fnExactSetAsked_holds : Rows.FnExactSetAskedSaid :=
  OpenClaim.holds_of_wide 8 Try.f8 rfl rfl rfl rfl rfl rfl rfl ⟨rfl, rfl, rfl, rfl, rfl⟩ rfl rfl rfl rfl rfl (by kernel_rfl) Try.func8 (by kernel_rfl)
    (of_decide_eq_true (by kernel_rfl)) (by unfold Func.isWrapper; first | (rw [if_pos (by decide +kernel)]; kernel_rfl) | (rw [if_neg (by decide +kernel)]; exact ⟨rfl, rfl⟩))
    (fun os started H enc _ => fnExactSetAsked_lifted os started H enc)

#print axioms fnExactSetAsked_holds
end Go.Proofs.Ytcmbdnhhbieldaa
