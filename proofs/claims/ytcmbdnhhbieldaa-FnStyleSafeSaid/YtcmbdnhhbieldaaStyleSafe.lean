/- For every code: the drawn style is judged by the program as by the reference, and with another name, or a semicolon behind its value, no style is let through: the law FnStyleSafe holds. No conditions. -/
import Derived.Test.YtcmbdnhhbieldaaStyle
import Derived.Test.YtcmbdnhhbieldaaStyleDraw
import Derived.Test.YtcmbdnhhbieldaaLower
import Derived.Test.YtcmbdnhhbieldaaOpen
namespace Go.Proofs.Ytcmbdnhhbieldaa
open Go.RowKit Go.ChangeShapes Go.WideShapes Go.ChangeAt Go.Joins

theorem styleOk_other (v : Tx) : styleOk [98, 101, 104, 97, 118, 105, 111, 114] v = false := by
  simp [styleOk]
theorem last_ne {v l : Tx} (h : l.getLast? ≠ some 59) : v ++ [59] ≠ l := by
  intro e
  apply h
  rw [← e]
  simp
theorem styleOk_semi (n v : Tx) : styleOk n (v ++ [59]) = false := by
  have hc : colorOk (v ++ [59]) = false := by
    have h1 : hashOk (v ++ [59]) = false := by
      cases v with
      | nil => decide
      | cons c t =>
        have : ((c :: t ++ [59]).drop 1).all hexc = false := by
          simp only [List.cons_append, List.drop_succ_cons, List.drop_zero, List.all_append]
          have : ([59] : Tx).all hexc = false := by decide
          rw [this, Bool.and_false]
        simp only [hashOk, this, Bool.and_false]
    rw [colorOk_not (beq_eq_false_iff_ne.2 (last_ne (by decide))) (beq_eq_false_iff_ne.2 (last_ne (by decide))) (beq_eq_false_iff_ne.2 (last_ne (by decide))) (beq_eq_false_iff_ne.2 (last_ne (by decide))) (beq_eq_false_iff_ne.2 (last_ne (by decide))), h1]
  have hp : pxOk (v ++ [59]) = false := by
    apply pxOk_no
    simp only [endsWith, Bool.and_eq_false_imp, decide_eq_true_eq, beq_eq_false_iff_ne]
    intro hl e
    have e2 := congrArg List.getLast? e
    rw [List.getLast?_drop] at e2
    simp at e2 hl
    try omega
  have ha : alignOk (v ++ [59]) = false := by
    simp only [alignOk, beq_eq_false_iff_ne.2 (last_ne (v := v) (l := [108, 101, 102, 116]) (by decide)), beq_eq_false_iff_ne.2 (last_ne (v := v) (l := [114, 105, 103, 104, 116]) (by decide)), beq_eq_false_iff_ne.2 (last_ne (v := v) (l := [99, 101, 110, 116, 101, 114]) (by decide)), Bool.or_false]
  unfold styleOk
  split
  · exact hc
  · split
    · exact hp
    · split
      · exact ha
      · rfl

set_option maxHeartbeats 2000000 in
theorem styleSafe_walk (bs : Tx) (A : Option Addr) (c : Nat) (w : World) (hr : Rd w w.heap.size A (bcells bs)) (hc : bs.length ≤ c) (hm : bs.length ≤ maxLen) :
    Calls Try.prog 6 #[.slice A bs.length c] w fun e w' => e = .returned (.bool true) ∧ Below w.heap.size w w' := by
  unfold maxLen at hm
  by_cases h : 1048576 < bs.length
  · go_enter Try.func6, Try.ntmps6
    go_wp2
    go_ret
    exact ⟨rfl, Below.refl _ _⟩
  · have HD := Lib.hid (spec_DrawStyleSafe bs A c w hr hc (by omega))
    clear hr
    go_enter Try.func6, Try.ntmps6
    go_wp2_with fail
    refine HD.out.mono ?_
    rintro e w1 ⟨a, b, rfl, ha, hb, hb1⟩
    have HA : Hid (a.length ≤ maxLen) := by show _ ≤ _; unfold maxLen; omega
    have HBL : Hid (b.length ≤ maxLen) := by show _ ≤ _; unfold maxLen; omega
    have HBS : Hid ((b ++ [59]).length ≤ maxLen) := by show _ ≤ _; unfold maxLen; simp; omega
    have HS := Lib.hid (styleOk_semi a b)
    have HO := Lib.hid (styleOk_other b)
    have HB1 := Lib.hid hb1
    clear hb1
    go_wp2_with fail
    refine (impl_StyleSafe a b HBL.out _).mono ?_
    rintro e w2 ⟨rfl, hb2⟩; have hc2 := below_cells hb2; have hf2 := below_frozen hb2; have hz2 := hb2.size; (try simp at hz2); have HB2 := Lib.hid hb2; clear hb2
    have q2 : w1.heap.size < w2.heap.size := by omega
    go_wp2_with fail
    refine (spec_StyleSafe a b HBL.out _).mono ?_
    rintro e w3 ⟨rfl, hb3⟩; have hc3 := below_cells hb3; have hf3 := below_frozen hb3; have hz3 := hb3.size; (try simp at hz3); have HB3 := Lib.hid hb3; clear hb3
    have q3 : w1.heap.size < w3.heap.size := by omega
    go_wp2_with fail
    refine (impl_StyleSafe _ b HBL.out _).mono ?_
    rw [HO.out]
    rintro e w4 ⟨rfl, hb4⟩; have hc4 := below_cells hb4; have hf4 := below_frozen hb4; have hz4 := hb4.size; (try simp at hz4); have HB4 := Lib.hid hb4; clear hb4
    have q4 : w1.heap.size < w4.heap.size := by omega
    go_wp2_with fail
    refine (impl_StyleSafe a (b ++ [59]) HBS.out _).mono ?_
    rw [HS.out]
    rintro e w5 ⟨rfl, hb5⟩; have hc5 := below_cells hb5; have hf5 := below_frozen hb5; have hz5 := hb5.size; (try simp at hz5); have HB5 := Lib.hid hb5; clear hb5
    have q5 : w1.heap.size < w5.heap.size := by omega
    go_wp2_with fail
    refine (laws_alive _).mono ?_
    rintro e w6 ⟨rfl, hb6⟩; have hc6 := below_cells hb6; have hf6 := below_frozen hb6; have hz6 := hb6.size; (try simp at hz6); have HB6 := Lib.hid hb6; clear hb6
    go_wp2
    go_ret
    refine ⟨rfl, ?_⟩
    have := HB1.out.size
    refine Below.trans ?_ (HB6.out.mono (by omega))
    refine Below.trans ?_ (HB5.out.mono (by omega))
    refine Below.trans ?_ (HB4.out.mono (by omega))
    refine Below.trans ?_ (HB3.out.mono (by omega))
    refine Below.trans ?_ (HB2.out.mono (by simp; omega))
    exact HB1.out.alloc HB1.out.size _

set_option maxRecDepth 100000 in
theorem fnStyleSafe_lifted (os : Os) (started : os.Started) (H : Type) (enc : TypeId × Value → H) :
    ReturnsInHanded {} Try.checked os 6 .any (Rows.fnStyleSafeSpec.pre6 enc Try.prog Try.f6 Rows.fnStyleSafeRow.domain false)
      (Rows.fnStyleSafeSpec.post enc Try.prog Try.f6 false true false false) := by
  refine returnsInHanded_of_change (C := Try.checked) Try.own started (by kernel_rfl) Try.func6
    (ChangeSpec.witness6 (enc := enc) (C := Try.checked) false ⟨#[], #[.slice none 0 0], []⟩ 8 (by kernel_rfl) (by kernel_rfl) (by kernel_rfl) (by kernel_rfl)) ?_
  intro W base args ds gs before hval0 hW _ _
  have hval : ∀ (j : Nat) t v, Try.f6.params[j]? = some t → args[j]? = some v → Value.okWide Try.prog W .any base t v := hval0
  have hW' := hW
  obtain ⟨p, q, hA0, hV, rfl, _, _⟩ := hW
  have hA : DataW.TrodAll enc Try.prog W 0 (fun _ => true) true Try.f6.params.toList args.toList ds p := hA0
  rw [Try.params6] at hA hval
  obtain ⟨v0, d0, rfl, rfl, h0⟩ := trodAll_one hA
  obtain ⟨rfl, rfl⟩ := trodVars_none hV
  obtain ⟨A, c, bs, rfl, hr, hlc, hcm⟩ := open_bytes Try.underlying29 Try.underlying5 (by kernel_rfl) (hval 0 _ v0 rfl rfl) h0
  refine (styleSafe_walk bs A c W hr hlc (Nat.le_trans hlc hcm)).mono fun e W' ⟨he, hw⟩ => ?_
  subst he
  exact ⟨_, rfl, law_post hW' rfl rfl (by kernel_rfl) Try.underlying4 Try.laidOut (of_decide_eq_true (by kernel_rfl)) hw⟩

theorem fnStyleSafe_holds : Rows.FnStyleSafeSaid :=
  OpenClaim.holds_of_wide 6 Try.f6 rfl rfl rfl rfl rfl rfl rfl ⟨rfl, rfl, rfl, rfl, rfl⟩ rfl rfl rfl rfl rfl (by kernel_rfl) Try.func6 (by kernel_rfl)
    (of_decide_eq_true (by kernel_rfl)) (by unfold Func.isWrapper; first | (rw [if_pos (by decide +kernel)]; kernel_rfl) | (rw [if_neg (by decide +kernel)]; exact ⟨rfl, rfl⟩))
    (fun os started H enc _ => fnStyleSafe_lifted os started H enc)

#print axioms fnStyleSafe_holds
end Go.Proofs.Ytcmbdnhhbieldaa
