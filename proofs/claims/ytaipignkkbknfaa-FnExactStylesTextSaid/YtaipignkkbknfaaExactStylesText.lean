/- For all lists of pairs: StylesText of the program returns what the reference's returns, and leaves the list alone: the law FnExactStylesText holds. No conditions. -/
import Derived.Test.YtaipignkkbknfaaStylesText
import Derived.Test.YtaipignkkbknfaaPairEq
namespace Go.Proofs.Ytaipignkkbknfaa
open Go.RowKit Go.ChangeShapes Go.WideShapes Go.ChangeAt Go.Joins

set_option maxHeartbeats 2000000 in
theorem exactStylesText_walk (ps : List Pr) (A : Option Addr) (c : Nat) (w : World) (hr : Rd w w.heap.size A (pcells ps)) (hf : Fit ps) (hn : ps.length ≤ maxLen) :
    Calls Try.prog 3 #[.slice A ps.length c] w fun e w' => e = .returned (.bool true) ∧ Below w.heap.size w w' := by
  by_cases h : (1048576 : Int) < ps.length + psize ps
  · have HC := Lib.hid (laws_szPairS_over ps A c 1048576 w hr hf (by omega) (by omega) hn h)
    clear h
    go_enter Try.func3, Try.ntmps3
    go_wp2_with fail
    refine HC.out.mono ?_
    rintro e w1 ⟨rfl, hb1⟩; have hc1 := below_cells hb1; have hf1 := below_frozen hb1; have hz1 := hb1.size; (try simp at hz1); have HB1 := Lib.hid hb1; clear hb1
    go_wp2
    go_ret
    exact ⟨rfl, HB1.out⟩
  · have HC := Lib.hid (laws_szPairS_fits ps A c 1048576 w hr hf (by omega) (by omega) hn (by omega))
    have hle : ps.length ≤ 1048576 := by omega
    have h1 : 0 ≤ (1048576 : Int) - ps.length - psize ps := by omega
    have hsz : psize ps + 4 * ps.length ≤ 8388608 := by omega
    clear h
    generalize (1048576 : Int) - ps.length - psize ps = q at *
    have hr0 := hr
    go_enter Try.func3, Try.ntmps3
    go_wp2_with fail
    refine HC.out.mono ?_
    rintro e w1 ⟨rfl, hb1⟩
    have HB1 := Lib.hid hb1
    go_wp2_with fail
    refine (laws_toPairS ps A c _ ((hr.below hb1).more hb1.size) hle).mono ?_
    rintro e w2 ⟨A2, c2, rfl, ho2, hb2⟩
    have HB2 := Lib.hid hb2
    go_wp2_with fail
    refine (spec_StylesText ps A2 c2 _ (Rd.of_own ho2) hf hsz).mono ?_
    rintro e w3 ⟨rfl, hb3⟩
    have HB3 := Lib.hid (HB1.out.trans ((hb2.trans (hb3.mono hb2.size)).mono hb1.size))
    clear hb1 hb2 hb3 ho2
    go_wp2_with fail
    refine (laws_toPairS ps A c _ ((hr.below HB3.out).more HB3.out.size) hle).mono ?_
    rintro e w4 ⟨A4, c4, rfl, ho4, hb4⟩
    have HO4 := Lib.hid ho4
    have HB4 := Lib.hid (HB3.out.trans (hb4.mono HB3.out.size))
    clear hb4 ho4
    go_wp2_with fail
    refine (impl_StylesText ps A4 c4 _ (Rd.of_own HO4.out) hf hsz).mono ?_
    rintro e w5 ⟨rfl, hb5⟩
    have HO5 := Lib.hid (own_below HO4.out hb5)
    have HB5 := Lib.hid (HB4.out.trans (hb5.mono HB4.out.size))
    clear hb5
    go_wp2_with fail
    refine (laws_toPairS ps A c _ ((hr.below HB5.out).more HB5.out.size) hle).mono ?_
    rintro e w6 ⟨A6, c6, rfl, ho6, hb6⟩
    have HO6 := Lib.hid ho6
    have HP6 := Lib.hid (own_below HO5.out hb6)
    have HB6 := Lib.hid (HB5.out.trans (hb6.mono HB5.out.size))
    clear hb6 ho6
    go_wp2_with fail
    refine (laws_eqPairS ps ps A4 A6 c4 c6 _ (Rd.of_own HP6.out) (Rd.of_own HO6.out) hn).mono ?_
    rintro e w7 ⟨rfl, hb7⟩
    have HB7 := Lib.hid (HB6.out.trans (hb7.mono HB6.out.size))
    clear hb7
    rw [beq_self_eq_true]
    go_wp2
    go_ret
    exact ⟨rfl, HB7.out⟩

theorem Try.cells_Pair : Try.prog.cellsOf 55 = 2 := by kernel_rfl
theorem Try.cells_string : Try.prog.cellsOf 9 = 1 := by kernel_rfl

set_option maxRecDepth 100000 in
theorem fnExactStylesText_lifted (os : Os) (started : os.Started) (H : Type) (enc : TypeId × Value → H) :
    ReturnsInHanded {} Try.checked os 3 .any (Rows.fnExactStylesTextSpec.pre6 enc Try.prog Try.f3 Rows.fnExactStylesTextRow.domain false)
      (Rows.fnExactStylesTextSpec.post enc Try.prog Try.f3 false true false false) := by
  refine returnsInHanded_of_change (C := Try.checked) Try.own started (by kernel_rfl) Try.func3
    (ChangeSpec.witness6 (enc := enc) (C := Try.checked) false ⟨#[], #[.slice none 0 0], []⟩ 8 (by kernel_rfl) (by kernel_rfl) (by kernel_rfl) (by kernel_rfl)) ?_
  intro W base args ds gs before hval0 hW _ _
  have hval : ∀ (j : Nat) t v, Try.f3.params[j]? = some t → args[j]? = some v → Value.okWide Try.prog W .any base t v := hval0
  have hW' := hW
  obtain ⟨p, q, hA0, hV, rfl, _, _⟩ := hW
  have hA : DataW.TrodAll enc Try.prog W 0 (fun _ => true) true Try.f3.params.toList args.toList ds p := hA0
  rw [Try.params3] at hA hval
  obtain ⟨v0, d0, rfl, rfl, h0⟩ := trodAll_one hA
  obtain ⟨rfl, rfl⟩ := trodVars_none hV
  obtain ⟨A, c, ps, rfl, hr, hf, hlc, hcm⟩ := open_pairs Try.underlying22 Try.underlying55 Try.cells_Pair rfl rfl Try.cells_string Try.cells_string Try.underlying9 Try.underlying9 (hval 0 _ v0 rfl rfl) h0
  refine (exactStylesText_walk ps A c W hr hf (Nat.le_trans hlc hcm)).mono fun e W' ⟨he, hw⟩ => ?_
  subst he
  exact ⟨_, rfl, law_post hW' rfl rfl (by kernel_rfl) Try.underlying4 Try.laidOut (of_decide_eq_true (by kernel_rfl)) hw⟩

theorem fnExactStylesText_holds : Rows.FnExactStylesTextSaid :=
  OpenClaim.holds_of_wide 3 Try.f3 rfl rfl rfl rfl rfl rfl rfl ⟨rfl, rfl, rfl, rfl, rfl⟩ rfl rfl rfl rfl rfl (by kernel_rfl) Try.func3 (by kernel_rfl)
    (of_decide_eq_true (by kernel_rfl)) (by unfold Func.isWrapper; first | (rw [if_pos (by decide +kernel)]; kernel_rfl) | (rw [if_neg (by decide +kernel)]; exact ⟨rfl, rfl⟩))
    (fun os started H enc _ => fnExactStylesText_lifted os started H enc)

#print axioms fnExactStylesText_holds
end Go.Proofs.Ytaipignkkbknfaa
