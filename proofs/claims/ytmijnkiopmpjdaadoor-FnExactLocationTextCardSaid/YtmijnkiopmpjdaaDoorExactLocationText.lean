/- For all locations: LocationText of the program returns what the reference's returns: the card FnExactLocationTextCardSaid holds. No conditions. -/
import Derived.Test.YtmijnkiopmpjdaaDoorLocEq
import Derived.Test.YtmijnkiopmpjdaaDoorOpenL
import Derived.Test.YtmijnkiopmpjdaaDoorLocText
import Derived.Test.YtmijnkiopmpjdaaDoorCardKit
namespace Go.Proofs.YtmijnkiopmpjdaaDoor
open Go.RowKit Go.ChangeShapes Go.WideShapes Go.ChangeAt Go.Joins
open Go.ChangeMaps (open_string shut_string)

def bLoc (B : Nat) (l : Lc) : TyB := fun w v => ∃ A c, v = lcV l A c ∧ OwnS w B A c l.path
theorem keeps_bLoc {B : Nat} {l : Lc} : ∀ w w' x, KB w w' → bLoc B l w x → bLoc B l w' x := fun _ _ _ hk ⟨A, c, h1, h2⟩ => ⟨A, c, h1, ownS_keep h2 hk⟩

set_option maxRecDepth 100000 in
set_option maxHeartbeats 4000000 in
theorem exactLocationText_walk (l : Lc) (A : Option Addr) (c : Nat) (w : World) (hr : Rd w w.heap.size A (scells l.path)) (hf : FitS l.path) (hc : l.path.length ≤ c) (hn : c ≤ maxLen) (hs : l.sch.length ≤ maxLen) (hh : l.host.length ≤ maxLen) (hq : l.qu.length ≤ maxLen) (hm : Hm w) :
    Calls Tryd.prog 8 #[lcV l A c] w fun e w' => e = .returned (.bool true) ∧ Below w.heap.size w w' := by
  have HB0 := Lib.hid (Below.alloc (o := .cells (lcCells l A c) 46) (Below.refl w.heap.size w) (Nat.le_refl _))
  have HR := Lib.hid (hr.below HB0.out |>.more HB0.out.size)
  have HBX0 := Lib.hid (loc_box w l A c 46)
  have HM := Lib.hid (hm.below HB0.out)
  by_cases h : lsize l ≤ 1048576
  · have HZ := Lib.hid (laws_szLocation_fits l A c 1048576 _ HR.out (by omega) (by omega) (by omega))
    have HFL := Lib.hid (fitL_of h)
    have hnl : l.path.length ≤ 1048576 := HFL.out.2.2.2.1
    have HRW := Lib.hid hr
    have HMW := Lib.hid hm
    have HTO := Lib.hid (fun w2 (hb : Below w.heap.size w w2) => laws_toLocation l A c w2 (HRW.out.below hb |>.more hb.size) hnl)
    have g0 : decide ((1048576 : Int) - (lsize l : Int) < 0) = false := by simp; omega
    have HNM : Hid (l.path.length ≤ maxLen) := by show _ ≤ _; unfold maxLen; omega
    have HSP := Lib.hid (fun A c w hr => spec_LocationText l A c w hr HFL.out)
    have HIM := Lib.hid (fun A c w hr (hc : l.path.length ≤ c) hm => impl_LocationText l A c w hr hc HFL.out hm)
    have hz0 : w.heap.size < (w.alloc (.cells (lcCells l A c) 46)).heap.size := by simp
    have hbb : (locText l != locText l) = false := by simp
    clear hr hm hf hc hn hs hh hq
    go_enter Tryd.func8, Tryd.ntmps8
    go_wp2_with fail
    refine HZ.out.mono ?_
    rintro e w1 ⟨rfl, hb⟩
    have HBX1 := Lib.hid ((hb.block _ hz0).trans HBX0.out)
    have q1_0 := cell_of_row w1 _ 0 _ _ _ HBX1.out
    have q1_1 := cell_of_row w1 _ 1 _ _ _ HBX1.out
    have q1_2 := cell_of_row w1 _ 2 _ _ _ HBX1.out
    have q1_3 := cell_of_row w1 _ 3 _ _ _ HBX1.out
    have HB1 := Lib.hid (HB0.out.trans (hb.mono HB0.out.size))
    have hz1 : w.heap.size < w1.heap.size := Nat.lt_of_lt_of_le hz0 hb.size
    clear hb
    go_wp2_with fail
    refine (HTO.out _ HB1.out).mono ?_
    rintro e w2 ⟨A2, c2, rfl, ho, hb⟩
    have HO2 := Lib.hid ho
    have HBX2 := Lib.hid ((hb.block _ hz1).trans HBX1.out)
    have HB2 := Lib.hid (HB1.out.trans (hb.mono HB1.out.size))
    have hz2 : w.heap.size < w2.heap.size := Nat.lt_of_lt_of_le hz1 hb.size
    clear hb ho
    go_wp2_with fail
    refine (HSP.out _ _ _ (ownS_rd HO2.out)).mono ?_
    rintro e w3 ⟨rfl, hb⟩
    have HBX3 := Lib.hid ((hb.block _ hz2).trans HBX2.out)
    have q3_0 := cell_of_row w3 _ 0 _ _ _ HBX3.out
    have q3_1 := cell_of_row w3 _ 1 _ _ _ HBX3.out
    have q3_2 := cell_of_row w3 _ 2 _ _ _ HBX3.out
    have q3_3 := cell_of_row w3 _ 3 _ _ _ HBX3.out
    have HB3 := Lib.hid (HB2.out.trans (hb.mono HB2.out.size))
    have hz3 : w.heap.size < w3.heap.size := Nat.lt_of_lt_of_le hz2 hb.size
    clear hb
    go_wp2_with fail
    refine (HTO.out _ HB3.out).mono ?_
    rintro e w4 ⟨A4, c4, rfl, ho, hb⟩
    have HBX4 := Lib.hid ((hb.block _ hz3).trans HBX3.out)
    have HB4 := Lib.hid (HB3.out.trans (hb.mono HB3.out.size))
    have hz4 : w.heap.size < w4.heap.size := Nat.lt_of_lt_of_le hz3 hb.size
    have HO4 := Lib.hid (ownS_keep ho ((Below.refl _ _).alloc (Nat.le_refl _) (.cells (lcCells l A4 c4) 43)))
    have HX4 := Lib.hid (loc_box w4 l A4 c4 43)
    have HB4a := Lib.hid (HB4.out.alloc HB4.out.size (.cells (lcCells l A4 c4) 43))
    clear hb ho
    go_wp2_with fail
    refine (HIM.out _ _ _ (ownS_rd HO4.out) (ownS_cap HO4.out) (HMW.out.below HB4a.out)).mono ?_
    rintro e w5 ⟨rfl, hb⟩
    have HBX5 := Lib.hid ((hb.block w.heap.size (by simp; omega)).trans ((heap_alloc_old w4 _ hz4).trans HBX4.out))
    have HX5 := Lib.hid ((hb.block w4.heap.size (by simp)).trans HX4.out)
    have HB5 := Lib.hid (HB4a.out.trans (hb.mono HB4a.out.size))
    have hz5 : w.heap.size < w5.heap.size := by have := hb.size; simp at this; omega
    have hy5 : w4.heap.size < w5.heap.size := by have := hb.size; simp at this; omega
    have HO5 := Lib.hid (ownS_keep HO4.out hb)
    clear hb
    have HTY := Lib.hid (fun w2 (hb : Below w5.heap.size w5 w2) => HTO.out w2 (HB5.out.trans (hb.mono HB5.out.size)))
    have HEQ := Lib.hid (fun w2 A' c' (hb : Below w5.heap.size w5 w2) (ho : OwnS w2 w5.heap.size A' c' l.path) => laws_eqLocation l l A4 A' c4 c' w2 (ownS_rd (ownS_keep HO5.out hb)) (ownS_rd ho) HNM.out)
    rw [(lcEq_iff l l).2 rfl] at HEQ
    go_simp
    go_wp2_with fail
    refine wp_region_typed 4 (by kernel_rfl) (by kernel_rfl) (fun _ w => Below (World.heap w5).size w5 w) KB (fun i => ([bIs (lcV l A4 c4), bIs (lcV l A c), bLoc (World.heap w5).size l, bIs (.bool true)] : List TyB).getD i bAny) ?hWbB1 ?hkeepB1 ?hstepB1 ?hfinbB1
    case hkeepB1 =>
      refine all_lt_succ (all_lt_succ (all_lt_succ (all_lt_succ all_lt_zero ?_) ?_) ?_) ?_
      · exact keeps_bIs
      · exact keeps_bIs
      · exact keeps_bLoc
      · exact keeps_bIs
    case hstepB1 =>
      refine all_lt_succ (all_lt_succ (all_lt_succ (all_lt_succ all_lt_zero ?_) ?_) ?_) ?_
      · (intro o ho m' a w1 hm' hW hb hd K Q hK; obtain rfl := Option.some.inj ho; have e0 : a.tmps[5]?.getD undef = .pointer (some ⟨w4.heap.size, 0, none⟩) := (by rw [hb 5 (by decide +kernel)]; simp); have hbl := (hW.block _ hy5).trans HX5.out; have q0 := cell_of_row w1 _ 0 _ _ _ hbl; have q1 := cell_of_row w1 _ 1 _ _ _ hbl; have q2 := cell_of_row w1 _ 2 _ _ _ hbl; have q3 := cell_of_row w1 _ 3 _ _ _ hbl; go_simp; exact hK _ _ hW (kb_refl _) rfl)
      · (intro o ho m' a w1 hm' hW hb hd K Q hK; obtain rfl := Option.some.inj ho; have e0 : a.tmps[1]?.getD undef = .pointer (some ⟨w.heap.size, 0, none⟩) := (by rw [hb 1 (by decide +kernel)]; simp); have hbl := (hW.block _ hz5).trans HBX5.out; have q0 := cell_of_row w1 _ 0 _ _ _ hbl; have q1 := cell_of_row w1 _ 1 _ _ _ hbl; have q2 := cell_of_row w1 _ 2 _ _ _ hbl; have q3 := cell_of_row w1 _ 3 _ _ _ hbl; go_simp; exact hK _ _ hW (kb_refl _) rfl)
      · (intro o ho m' a w1 hm' hW hb hd K Q hK; obtain rfl := Option.some.inj ho; have e0 := slotB (hd 1 (by kernel_rfl) 23 rfl); go_simp; refine (HTY.out _ hW).mono ?_; rintro e w2 ⟨A, c, rfl, ho, hb2⟩; exact hK _ _ (hW.trans (hb2.mono hW.size)) hb2 ⟨A, c, rfl, own_base ho hW.size⟩)
      · (intro o ho m' a w1 hm' hW hb hd K Q hK; obtain rfl := Option.some.inj ho; have e0 := slotB (hd 0 (by kernel_rfl) 22 rfl); obtain ⟨A, c, e1, ho⟩ := (hd 2 (by kernel_rfl) 24 rfl); have e1 := slotB e1; go_simp; refine (HEQ.out _ _ _ hW ho).mono ?_; rintro e w2 ⟨rfl, hb2⟩; exact hK _ _ (hW.trans (hb2.mono hW.size)) hb2 rfl)
    case hWbB1 => exact (Below.refl _ _).drew
    case hfinbB1 =>
      intro vs w6 hW hF
      simp only [putAll, hdst, List.getElem?_cons_succ, List.getElem?_cons_zero, Option.bind, List.drop_succ_cons, List.drop_zero, Act.put]
      have h3 : vs 3 = .bool true := hF 3 (by omega)
      rw [h3]
      have HB6 := Lib.hid (HB5.out.trans (hW.mono HB5.out.size))
      clear hW hF h3
      go_simp
      go_wp2
      go_ret
      exact ⟨rfl, HB6.out⟩
  · have HZ := Lib.hid (laws_szLocation_over l A c 1048576 _ HR.out hf (by unfold maxLen at *; omega) hs hh hq (by omega) (by omega) (by omega))
    go_enter Tryd.func8, Tryd.ntmps8
    go_wp2_with fail
    refine HZ.out.mono ?_
    rintro e w1 ⟨rfl, hb⟩
    go_wp2
    go_ret
    exact ⟨rfl, HB0.out.trans (hb.mono HB0.out.size)⟩

set_option maxRecDepth 100000 in
theorem fnExactLocationText_lifted (os : Os) (started : os.Started) (H : Type) (enc : TypeId × Value → H) :
    ReturnsInHanded {} Tryd.checked os 8 .any (fun w args => (Rows.fnExactLocationTextSpec.pre enc Tryd.prog Tryd.f8 Rows.fnExactLocationTextRow.domain false w args ∧ laidMetH Tryd.prog Rows.fnExactLocationTextRow.laid w) ∧ sizedMet enc Tryd.prog Tryd.f8 (OpenSpec.ofChange Rows.fnExactLocationTextSpec) false w args)
      (Rows.fnExactLocationTextSpec.post enc Tryd.prog Tryd.f8 false true false false) := by
  refine returnsInHanded_of_change_and_shaped (C := Tryd.checked) (X := fun w _ => laidMetH Tryd.prog Rows.fnExactLocationTextRow.laid w) (fun _ _ _ hh h => h.of_heap hh) Tryd.own started (by kernel_rfl) Tryd.func8
    (ChangeSpec.witness_shaped (enc := enc) (C := Tryd.checked) (os := os) (X := fun w _ => laidMetH Tryd.prog Rows.fnExactLocationTextRow.laid w) false (World.laidAll Tryd.prog os Rows.fnExactLocationTextRow.laid) #[.agg #[.string ⟨#[]⟩, .string ⟨#[]⟩, .slice none 0 0, .string ⟨#[]⟩]] 8 (World.laidAll_os _ _ _)
      (World.shaped_of_ZipB (by kernel_rfl) (by kernel_rfl)) (by kernel_rfl) (by kernel_rfl) (by kernel_rfl)
      (by rw [MakeChecks.laidMetH_plain _ _ _ (by kernel_rfl)]; exact laidMet_laidAll _ (by kernel_rfl) (by kernel_rfl))) ?_
  intro W base args ds gs before hval0 hW _ _ _ hsh _
  have hval : ∀ (j : Nat) t v, Tryd.f8.params[j]? = some t → args[j]? = some v → Value.okWide Tryd.prog W .any base t v := hval0
  have hW' := hW
  obtain ⟨p, q, hA0, hV, rfl, _, _⟩ := hW
  have hA : DataW.TrodAll enc Tryd.prog W 0 (fun _ => true) true Tryd.f8.params.toList args.toList ds p := hA0
  rw [Tryd.params8] at hA hval
  obtain ⟨v0, d0, rfl, rfl, h0⟩ := trodAll_one hA
  obtain ⟨rfl, rfl⟩ := trodVars_none hV
  obtain ⟨l, A, c, rfl, hr, hf, hc, hn, hs, hh, hq⟩ := open_loc Tryd.underlying46 (by kernel_rfl) (by kernel_rfl) Tryd.underlying9 Tryd.underlying9 Tryd.underlying41 Tryd.underlying9 (by kernel_rfl) Tryd.underlying9 (hval 0 _ v0 rfl rfl) h0
  refine (exactLocationText_walk l A c W hr hf hc hn hs hh hq (hm_shaped hsh)).mono fun e W' ⟨he, hw⟩ => ?_
  subst he
  exact ⟨_, rfl, law_post hW' rfl rfl (by kernel_rfl) Tryd.underlying4 Tryd.laidOut (of_decide_eq_true (by kernel_rfl)) hw⟩

theorem fnExactLocationText_holds : Rows.FnExactLocationTextSaid :=
  OpenClaim.holds_of_wide 8 Tryd.f8 rfl rfl rfl rfl rfl rfl rfl ⟨rfl, rfl, rfl, rfl, rfl⟩ rfl rfl rfl rfl rfl (by kernel_rfl) Tryd.func8 (by kernel_rfl)
    (of_decide_eq_true (by kernel_rfl)) (by unfold Func.isWrapper; first | (rw [if_pos (by decide +kernel)]; kernel_rfl) | (rw [if_neg (by decide +kernel)]; exact ⟨rfl, rfl⟩))
    (fun os started H enc _ => fnExactLocationText_lifted os started H enc)

theorem fnExactLocationText_cardHolds : Rows.FnExactLocationTextCardSaid :=
  Claim7.holds_tied_plain_at .later [] _ true _ false fnExactLocationText_holds (fun _ h => by cases h) (by kernel_rfl) (fun _ h => by cases h) fnExactLocationText_row_tie rfl ⟨rfl, rfl⟩ (by kernel_rfl) rfl
    (fun f fn hf hfn => by
      obtain rfl : f = 8 := Option.some.inj ((show Tryd.prog.funcNamed "loop.example/templateescaper/laws.FnExactLocationText" = some 8 by kernel_rfl).symm.trans hf) |>.symm
      obtain rfl : fn = Tryd.f8 := (Option.some.inj (Tryd.func8.symm.trans hfn)).symm
      exact ⟨by kernel_rfl, fun j t ht => by
        rw [Tryd.params8] at ht
        have hm : t ∈ [46] := by simpa using Array.mem_of_getElem? ht
        have hall : ([46].all fun u => !Tryd.prog.wantsStandIn u) = true := by kernel_rfl
        exact (show Tryd.prog.wantsStandIn t = false by simpa using List.all_eq_true.1 hall t hm)⟩)
    (by kernel_rfl)

#print axioms fnExactLocationText_cardHolds
end Go.Proofs.YtmijnkiopmpjdaaDoor
