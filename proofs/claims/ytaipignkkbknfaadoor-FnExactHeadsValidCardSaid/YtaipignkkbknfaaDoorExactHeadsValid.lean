/- For all lists of pairs: HeadsValid of the program returns what the reference's returns, and leaves the list alone: the law FnExactHeadsValid holds. No conditions. -/
import Derived.Test.YtaipignkkbknfaaDoorHeads
import Derived.Test.YtaipignkkbknfaaDoorPairEq
import Derived.Test.YtaipignkkbknfaaDoorCardKit
namespace Go.Proofs.YtaipignkkbknfaaDoor
open Go.RowKit Go.ChangeShapes Go.WideShapes Go.ChangeAt Go.Joins

set_option maxHeartbeats 2000000 in
theorem exactHeadsValid_walk (ps : List Pr) (A : Option Addr) (c : Nat) (w : World) (hr : Rd w w.heap.size A (pcells ps)) (hf : Fit ps) (hn : ps.length ≤ maxLen) :
    Calls Tryd.prog 4 #[.slice A ps.length c] w fun e w' => e = .returned (.bool true) ∧ Below w.heap.size w w' := by
  by_cases h : (1048576 : Int) < ps.length + psize ps
  · have HC := Lib.hid (laws_szPairS_over ps A c 1048576 w hr hf (by omega) (by omega) hn h)
    clear h
    go_enter Tryd.func4, Tryd.ntmps4
    go_wp2_with fail
    refine HC.out.mono ?_
    rintro e w1 ⟨rfl, hb1⟩; have hc1 := below_cells hb1; have hf1 := below_frozen hb1; have hz1 := hb1.size; (try simp at hz1); have HB1 := Lib.hid hb1; clear hb1
    go_wp2
    go_ret
    exact ⟨rfl, HB1.out⟩
  · have HC := Lib.hid (laws_szPairS_fits ps A c 1048576 w hr hf (by omega) (by omega) hn (by omega))
    have hle : ps.length ≤ 1048576 := by omega
    have h1 : 0 ≤ (1048576 : Int) - ps.length - psize ps := by omega
    clear h
    generalize (1048576 : Int) - ps.length - psize ps = q at *
    have hr0 := hr
    go_enter Tryd.func4, Tryd.ntmps4
    go_wp2_with fail
    refine HC.out.mono ?_
    rintro e w1 ⟨rfl, hb1⟩
    have HB1 := Lib.hid hb1
    go_wp2_with fail
    refine (laws_toPairS ps A c _ ((hr.below hb1).more hb1.size) hle).mono ?_
    rintro e w2 ⟨A2, c2, rfl, ho2, hb2⟩
    have HB2 := Lib.hid hb2
    go_wp2_with fail
    refine (spec_HeadsValid ps A2 c2 _ (Rd.of_own ho2) hf hn).mono ?_
    rintro e w3 ⟨rfl, hb3⟩
    have HB3 := Lib.hid (HB1.out.trans ((hb2.trans (hb3.mono hb2.size)).mono hb1.size))
    clear hb1 hb2 hb3 ho2
    go_wp2_with fail
    refine (laws_toPairS ps A c _ ((hr.below HB3.out).more HB3.out.size) hle).mono ?_
    rintro e w4 ⟨A4, c4, rfl, ho4, hb4⟩
    have HO4 := Lib.hid ho4
    have HB4 := Lib.hid (HB3.out.trans (hb4.mono HB3.out.size))
    clear hb4 ho4
    go_wp2_with fail
    refine (impl_HeadsValid ps A4 c4 _ (Rd.of_own HO4.out) hf hn).mono ?_
    rintro e w5 ⟨rfl, hb5⟩
    have HO5 := Lib.hid (own_below HO4.out hb5)
    have HB5 := Lib.hid (HB4.out.trans (hb5.mono HB4.out.size))
    clear hb5
    go_wp2_with fail
    refine (laws_toPairS ps A c _ ((hr.below HB5.out).more HB5.out.size) hle).mono ?_
    rintro e w6 ⟨A6, c6, rfl, ho6, hb6⟩
    have HO6 := Lib.hid ho6
    have HP6 := Lib.hid (own_below HO5.out hb6)
    have HB6 := Lib.hid (HB5.out.trans (hb6.mono HB5.out.size))
    clear hb6 ho6
    go_wp2_with fail
    refine (laws_eqPairS ps ps A4 A6 c4 c6 _ (Rd.of_own HP6.out) (Rd.of_own HO6.out) hn).mono ?_
    rintro e w7 ⟨rfl, hb7⟩
    have HB7 := Lib.hid (HB6.out.trans (hb7.mono HB6.out.size))
    clear hb7
    rw [beq_self_eq_true]
    go_wp2
    go_ret
    exact ⟨rfl, HB7.out⟩

theorem Tryd.cells_Pair : Tryd.prog.cellsOf 52 = 2 := by kernel_rfl
theorem Tryd.cells_string : Tryd.prog.cellsOf 9 = 1 := by kernel_rfl

set_option maxRecDepth 100000 in
theorem fnExactHeadsValid_lifted (os : Os) (started : os.Started) (H : Type) (enc : TypeId × Value → H) :
    ReturnsInHanded {} Tryd.checked os 4 .any (fun w args => (Rows.fnExactHeadsValidSpec.pre enc Tryd.prog Tryd.f4 Rows.fnExactHeadsValidRow.domain false w args ∧ laidMetH Tryd.prog Rows.fnExactHeadsValidRow.laid w) ∧ sizedMet enc Tryd.prog Tryd.f4 (OpenSpec.ofChange Rows.fnExactHeadsValidSpec) false w args)
      (Rows.fnExactHeadsValidSpec.post enc Tryd.prog Tryd.f4 false true false false) := by
  refine returnsInHanded_of_change_and (C := Tryd.checked) (X := fun w _ => laidMetH Tryd.prog Rows.fnExactHeadsValidRow.laid w) (fun _ _ _ hh h => h.of_heap hh) Tryd.own started (by kernel_rfl) Tryd.func4
    (ChangeSpec.witness_shaped (enc := enc) (C := Tryd.checked) (os := os) (X := fun w _ => laidMetH Tryd.prog Rows.fnExactHeadsValidRow.laid w) false (World.laidAll Tryd.prog os Rows.fnExactHeadsValidRow.laid) #[.slice none 0 0] 8 (World.laidAll_os _ _ _)
      (World.shaped_of_ZipB (by kernel_rfl) (by kernel_rfl)) (by kernel_rfl) (by kernel_rfl) (by kernel_rfl)
      (by rw [MakeChecks.laidMetH_plain _ _ _ (by kernel_rfl)]; exact laidMet_laidAll _ (by kernel_rfl) (by kernel_rfl))) ?_
  intro W base args ds gs before hval0 hW _ _ _ _
  have hval : ∀ (j : Nat) t v, Tryd.f4.params[j]? = some t → args[j]? = some v → Value.okWide Tryd.prog W .any base t v := hval0
  have hW' := hW
  obtain ⟨p, q, hA0, hV, rfl, _, _⟩ := hW
  have hA : DataW.TrodAll enc Tryd.prog W 0 (fun _ => true) true Tryd.f4.params.toList args.toList ds p := hA0
  rw [Tryd.params4] at hA hval
  obtain ⟨v0, d0, rfl, rfl, h0⟩ := trodAll_one hA
  obtain ⟨rfl, rfl⟩ := trodVars_none hV
  obtain ⟨A, c, ps, rfl, hr, hf, hlc, hcm⟩ := open_pairs Tryd.underlying30 Tryd.underlying52 Tryd.cells_Pair rfl rfl Tryd.cells_string Tryd.cells_string Tryd.underlying9 Tryd.underlying9 (hval 0 _ v0 rfl rfl) h0
  refine (exactHeadsValid_walk ps A c W hr hf (Nat.le_trans hlc hcm)).mono fun e W' ⟨he, hw⟩ => ?_
  subst he
  exact ⟨_, rfl, law_post hW' rfl rfl (by kernel_rfl) Tryd.underlying4 Tryd.laidOut (of_decide_eq_true (by kernel_rfl)) hw⟩

theorem fnExactHeadsValid_holds : Rows.FnExactHeadsValidSaid :=
  OpenClaim.holds_of_wide 4 Tryd.f4 rfl rfl rfl rfl rfl rfl rfl ⟨rfl, rfl, rfl, rfl, rfl⟩ rfl rfl rfl rfl rfl (by kernel_rfl) Tryd.func4 (by kernel_rfl)
    (of_decide_eq_true (by kernel_rfl)) (by unfold Func.isWrapper; first | (rw [if_pos (by decide +kernel)]; kernel_rfl) | (rw [if_neg (by decide +kernel)]; exact ⟨rfl, rfl⟩))
    (fun os started H enc _ => fnExactHeadsValid_lifted os started H enc)

theorem fnExactHeadsValid_cardHolds : Rows.FnExactHeadsValidCardSaid :=
  Claim7.holds_tied_plain_at .later [] _ true _ false fnExactHeadsValid_holds (fun _ h => by cases h) (by kernel_rfl) (fun _ h => by cases h) fnExactHeadsValid_row_tie rfl ⟨rfl, rfl⟩ (by kernel_rfl) rfl
    (fun f fn hf hfn => by
      obtain rfl : f = 4 := Option.some.inj ((show Tryd.prog.funcNamed "loop.example/templateescaper/laws.FnExactHeadsValid" = some 4 by kernel_rfl).symm.trans hf) |>.symm
      obtain rfl : fn = Tryd.f4 := (Option.some.inj (Tryd.func4.symm.trans hfn)).symm
      exact ⟨by kernel_rfl, fun j t ht => by
        rw [Tryd.params4] at ht
        have hm : t ∈ [30] := by simpa using Array.mem_of_getElem? ht
        have hall : ([30].all fun u => !Tryd.prog.wantsStandIn u) = true := by kernel_rfl
        exact (show Tryd.prog.wantsStandIn t = false by simpa using List.all_eq_true.1 hall t hm)⟩)
    (by kernel_rfl)

#print axioms fnExactHeadsValid_cardHolds
end Go.Proofs.YtaipignkkbknfaaDoor
