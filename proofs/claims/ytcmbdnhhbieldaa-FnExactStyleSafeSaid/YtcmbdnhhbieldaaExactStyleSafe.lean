/- For all pairs: StyleSafe of the program returns what the reference's returns: the law FnExactStyleSafe holds. No conditions. -/
import Derived.Test.YtcmbdnhhbieldaaStyle
namespace Go.Proofs.Ytcmbdnhhbieldaa
open Go.RowKit Go.ChangeShapes Go.WideShapes Go.ChangeAt Go.Joins

set_option maxHeartbeats 2000000 in
theorem exactStyleSafe_walk (n v : Tx) (hn : n.length ≤ maxLen) (hv : v.length ≤ maxLen) (w : World) :
    Calls Try.prog 3 #[.agg #[.string ⟨n.toArray⟩, .string ⟨v.toArray⟩]] w fun e w' => e = .returned (.bool true) ∧ Below w.heap.size w w' := by
  by_cases h : (1048576 : Int) < n.length + v.length
  · have HC := Lib.hid (fun w => laws_szPair_over n v 1048576 hn hv (by omega) (by omega) h w)
    clear h
    unfold maxLen at hn hv
    go_enter Try.func3, Try.ntmps3
    go_wp2_with fail
    refine (HC.out _).mono ?_
    rintro e w1 ⟨rfl, hb1⟩
    have HB1 := Lib.hid hb1
    clear hb1
    go_wp2
    go_ret
    refine ⟨rfl, ?_⟩
    refine Below.trans ?_ (HB1.out.mono ?_)
    · go_grown
    · simp
  · have HC := Lib.hid (fun w => laws_szPair_fits n v 1048576 hn hv (by omega) (by omega) (by omega) w)
    have HT := Lib.hid (fun w => laws_toPair n v w)
    have HI := Lib.hid (fun w => impl_StyleSafe n v hv w)
    have HS := Lib.hid (fun w => spec_StyleSafe n v hv w)
    unfold maxLen at hn hv
    have h1 : 0 ≤ (1048576 : Int) - n.length - v.length := by omega
    clear h
    generalize (1048576 : Int) - n.length - v.length = q at *
    generalize styleOk n v = b at *
    go_enter Try.func3, Try.ntmps3
    go_wp2_with fail
    refine (HC.out _).mono ?_
    rintro e w1 ⟨rfl, hb1⟩; have hc1 := below_cells hb1; have hf1 := below_frozen hb1; have hz1 := hb1.size; (try simp at hz1); have hl1 : w.heap.size < w1.heap.size := (by omega); have HB1 := Lib.hid hb1; clear hb1
    go_wp2_with fail
    refine (HT.out _).mono ?_
    rintro e w2 ⟨rfl, hb2⟩; have hc2 := below_cells hb2; have hf2 := below_frozen hb2; have hz2 := hb2.size; (try simp at hz2); have hl2 : w.heap.size < w2.heap.size := (by omega); have HB2 := Lib.hid hb2; clear hb2
    go_wp2_with fail
    refine (HS.out _).mono ?_
    rintro e w3 ⟨rfl, hb3⟩; have hc3 := below_cells hb3; have hf3 := below_frozen hb3; have hz3 := hb3.size; (try simp at hz3); have hl3 : w.heap.size < w3.heap.size := (by omega); have HB3 := Lib.hid hb3; clear hb3

    go_wp2_with fail
    refine (HT.out _).mono ?_
    rintro e w4 ⟨rfl, hb4⟩; have hc4 := below_cells hb4; have hf4 := below_frozen hb4; have hz4 := hb4.size; (try simp at hz4); have hl4 : w.heap.size < w4.heap.size := (by omega); have HB4 := Lib.hid hb4; clear hb4
    go_wp2_with fail
    refine (HI.out _).mono ?_
    rintro e w5 ⟨rfl, hb5⟩; have hc5 := below_cells hb5; have hf5 := below_frozen hb5; have hz5 := hb5.size; (try simp at hz5); have hl5 : w.heap.size < w5.heap.size := (by omega); have HB5 := Lib.hid hb5; clear hb5
    go_wp2
    go_ret
    refine ⟨rfl, ?_⟩
    refine Below.trans ?_ (HB5.out.mono (by omega))
    refine Below.trans ?_ (HB4.out.mono (by omega))
    refine Below.trans ?_ (HB3.out.mono (by omega))
    refine Below.trans ?_ (HB2.out.mono (by omega))
    refine Below.trans ?_ (HB1.out.mono (by simp))
    go_grown

theorem Try.cells_Pair : Try.prog.cellsOf 23 = 2 := by kernel_rfl

set_option maxRecDepth 100000 in
theorem exactStyleSafe_lifted (os : Os) (started : os.Started) (H : Type) (enc : TypeId × Value → H) :
    ReturnsInHanded {} Try.checked os 3 .any (Rows.fnExactStyleSafeSpec.pre6 enc Try.prog Try.f3 Rows.fnExactStyleSafeRow.domain false)
      (Rows.fnExactStyleSafeSpec.post enc Try.prog Try.f3 false true false false) := by
  refine returnsInHanded_of_change (C := Try.checked) Try.own started (by kernel_rfl) Try.func3
    (ChangeSpec.witness6 (enc := enc) (C := Try.checked) false ⟨#[], #[.agg #[.string ⟨#[]⟩, .string ⟨#[]⟩]], []⟩ 8 (by kernel_rfl) (by kernel_rfl) (by kernel_rfl) (by kernel_rfl)) ?_
  intro W base args ds gs before hval0 hW _ _
  have hval : ∀ (j : Nat) t v, Try.f3.params[j]? = some t → args[j]? = some v → Value.okWide Try.prog W .any base t v := hval0
  have hW' := hW
  obtain ⟨p, q, hA0, hV, rfl, _, _⟩ := hW
  have hA : DataW.TrodAll enc Try.prog W 0 (fun _ => true) true Try.f3.params.toList args.toList ds p := hA0
  rw [Try.params3] at hA hval
  obtain ⟨v0, d0, rfl, rfl, h0⟩ := trodAll_one hA
  obtain ⟨rfl, rfl⟩ := trodVars_none hV
  obtain ⟨c0, c1, y0, y1, m, rfl, rfl, rfl, hy0, hy1⟩ := open_agg2 Try.underlying23 (by kernel_rfl) Try.cells_Pair (hval 0 _ v0 rfl rfl) h0
  obtain ⟨a, e0, rfl, wa⟩ := DataW.trod_string Try.underlying9 hy0
  obtain ⟨b, e1, rfl, wb⟩ := DataW.trod_string Try.underlying9 hy1
  simp at e0 e1
  subst e0 e1
  obtain ⟨n, rfl⟩ := tx_of a
  obtain ⟨v, rfl⟩ := tx_of b
  refine (exactStyleSafe_walk n v wa wb W).mono fun e W' ⟨he, hw⟩ => ?_
  subst he
  exact ⟨_, rfl, law_post hW' rfl rfl (by kernel_rfl) Try.underlying4 Try.laidOut (of_decide_eq_true (by kernel_rfl)) hw⟩

theorem exactStyleSafe_holds : Rows.FnExactStyleSafeSaid :=
  OpenClaim.holds_of_wide 3 Try.f3 rfl rfl rfl rfl rfl rfl rfl ⟨rfl, rfl, rfl, rfl, rfl⟩ rfl rfl rfl rfl rfl (by kernel_rfl) Try.func3 (by kernel_rfl)
    (of_decide_eq_true (by kernel_rfl)) (by unfold Func.isWrapper; first | (rw [if_pos (by decide +kernel)]; kernel_rfl) | (rw [if_neg (by decide +kernel)]; exact ⟨rfl, rfl⟩))
    (fun os started H enc _ => exactStyleSafe_lifted os started H enc)

#print axioms exactStyleSafe_holds
end Go.Proofs.Ytcmbdnhhbieldaa
