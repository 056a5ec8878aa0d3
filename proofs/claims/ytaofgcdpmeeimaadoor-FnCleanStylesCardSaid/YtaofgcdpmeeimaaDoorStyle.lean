/- Styles: StyleSafe of impl and of spec computes one and the same plain function. -/
import Derived.Test.YtaofgcdpmeeimaaDoorStyleSpecA
import Derived.Test.YtaofgcdpmeeimaaDoorStyleImplA
import Derived.Test.YtaofgcdpmeeimaaDoorStyleImplB
namespace Go.Proofs.YtaofgcdpmeeimaaDoor
open Go.RowKit

set_option maxHeartbeats 2000000 in
theorem impl_StyleSafe_align (v : Tx) (w : World) :
    Calls Tryd.prog 26 #[.agg #[.string ⟨[97, 108, 105, 103, 110].toArray⟩, .string ⟨v.toArray⟩]] w fun e w' => e = .returned (.bool (alignOk v)) ∧ Below w.heap.size w w' := by
  by_cases h1 : v = [108, 101, 102, 116]
  · subst h1
    go_enter Tryd.func26, Tryd.ntmps26
    go_wp2
    go_ret
    exact ⟨rfl, by go_grown⟩
  by_cases h2 : v = [114, 105, 103, 104, 116]
  · subst h2
    go_enter Tryd.func26, Tryd.ntmps26
    go_wp2
    go_ret
    exact ⟨rfl, by go_grown⟩
  have b1 := beq_eq_false_iff_ne.2 h1
  have b2 := beq_eq_false_iff_ne.2 h2
  have T6 : Hid (alignOk v = (v == [99, 101, 110, 116, 101, 114])) := by show alignOk v = _; simp only [alignOk, b1, b2, Bool.false_or]
  clear h1 h2
  generalize hb : (v == [99, 101, 110, 116, 101, 114]) = b at T6
  cases b
  all_goals
    go_enter Tryd.func26, Tryd.ntmps26
    go_wp2
    go_ret
    exact ⟨ret_bool T6.out.symm, by go_grown⟩

set_option maxHeartbeats 2000000 in
theorem impl_StyleSafe_other (n v : Tx) (b1 : (n == [99, 111, 108, 111, 114]) = false) (b2 : (n == [98, 97, 99, 107, 103, 114, 111, 117, 110, 100]) = false) (b3 : (n == [119, 105, 100, 116, 104]) = false) (b4 : (n == [104, 101, 105, 103, 104, 116]) = false) (b5 : (n == [109, 97, 114, 103, 105, 110]) = false) (b6 : (n == [112, 97, 100, 100, 105, 110, 103]) = false) (b7 : (n == [97, 108, 105, 103, 110]) = false) (w : World) :
    Calls Tryd.prog 26 #[.agg #[.string ⟨n.toArray⟩, .string ⟨v.toArray⟩]] w fun e w' => e = .returned (.bool false) ∧ Below w.heap.size w w' := by
  go_enter Tryd.func26, Tryd.ntmps26
  go_wp2
  go_ret
  exact ⟨rfl, by go_grown⟩

theorem impl_StyleSafe (n v : Tx) (hl : v.length ≤ maxLen) (w : World) :
    Calls Tryd.prog 26 #[.agg #[.string ⟨n.toArray⟩, .string ⟨v.toArray⟩]] w fun e w' => e = .returned (.bool (styleOk n v)) ∧ Below w.heap.size w w' := by
  unfold styleOk
  split
  · rename_i hn
    by_cases h : v = [98, 108, 97, 99, 107] ∨ v = [119, 104, 105, 116, 101] ∨ v = [114, 101, 100] ∨ v = [103, 114, 101, 101, 110] ∨ v = [98, 108, 117, 101]
    · have e : colorOk v = true := by rcases h with rfl | rfl | rfl | rfl | rfl <;> rfl
      rw [e]
      exact impl_StyleSafe_name n v hn h w
    · simp only [not_or] at h
      obtain ⟨h1, h2, h3, h4, h5⟩ := h
      have b1 := beq_eq_false_iff_ne.2 h1
      have b2 := beq_eq_false_iff_ne.2 h2
      have b3 := beq_eq_false_iff_ne.2 h3
      have b4 := beq_eq_false_iff_ne.2 h4
      have b5 := beq_eq_false_iff_ne.2 h5
      rw [colorOk_not b1 b2 b3 b4 b5]
      exact impl_StyleSafe_hash n v hn hl b1 b2 b3 b4 b5 w
  · rename_i hn
    split
    · rename_i hm
      exact impl_StyleSafe_px n v hm hl w
    · rename_i hm
      split
      · rename_i hk
        subst hk
        exact impl_StyleSafe_align v w
      · rename_i hk
        simp only [not_or] at hn hm
        exact impl_StyleSafe_other n v (beq_eq_false_iff_ne.2 hn.1) (beq_eq_false_iff_ne.2 hn.2) (beq_eq_false_iff_ne.2 hm.1) (beq_eq_false_iff_ne.2 hm.2.1) (beq_eq_false_iff_ne.2 hm.2.2.1) (beq_eq_false_iff_ne.2 hm.2.2.2) (beq_eq_false_iff_ne.2 hk) w

set_option maxHeartbeats 2000000 in
theorem spec_StyleSafe_color (n v : Tx) (hn : n = [99, 111, 108, 111, 114] ∨ n = [98, 97, 99, 107, 103, 114, 111, 117, 110, 100]) (hl : v.length ≤ maxLen) (w : World) :
    Calls Tryd.prog 53 #[.agg #[.string ⟨n.toArray⟩, .string ⟨v.toArray⟩]] w fun e w' => e = .returned (.bool (colorOk v)) ∧ Below w.heap.size w w' := by
  have HC := Lib.hid (fun w => spec_l29Color v hl w)
  unfold maxLen at hl
  rcases hn with rfl | rfl
  all_goals
    go_enter Tryd.func53, Tryd.ntmps53
    go_wp2_with fail
    refine (HC.out _).mono ?_
    rintro e w' ⟨rfl, hb⟩
    have HB := Lib.hid hb
    clear hb
    go_wp2
    go_ret
    refine ⟨rfl, ?_⟩
    refine Below.trans ?_ (HB.out.mono ?_)
    · go_grown
    · simp

set_option maxHeartbeats 2000000 in
theorem spec_StyleSafe_px (n v : Tx) (hn : n = [119, 105, 100, 116, 104] ∨ n = [104, 101, 105, 103, 104, 116] ∨ n = [109, 97, 114, 103, 105, 110] ∨ n = [112, 97, 100, 100, 105, 110, 103]) (hl : v.length ≤ maxLen) (w : World) :
    Calls Tryd.prog 53 #[.agg #[.string ⟨n.toArray⟩, .string ⟨v.toArray⟩]] w fun e w' => e = .returned (.bool (pxOk v)) ∧ Below w.heap.size w w' := by
  have hl' := hl
  unfold maxLen at hl
  by_cases h2 : 2 < v.length
  · by_cases hd : v.drop (v.length - 2) = [112, 120]
    · have hE : endsWith v [112, 120] = true := by simp [endsWith, hd]; omega
      have T6 := Lib.hid (pxOk_yes hE rfl)
      have HN := Lib.hid (fun w => spec_l29Number (v.take (v.length - 2)) (by rw [List.length_take]; unfold maxLen; omega) w)
      have bd : (v.drop (v.length - 2) == [112, 120]) = true := by simp [hd]
      clear hd hE
      rcases hn with rfl | rfl | rfl | rfl
      all_goals
        go_enter Tryd.func53, Tryd.ntmps53
        go_wp2_with (go_at_call 86; refine (HN.out _).mono ?_; rintro e w' ⟨rfl, rfl⟩)
        go_ret
        exact ⟨ret_bool T6.out.symm, by go_grown⟩
    · have hE : endsWith v [112, 120] = false := by simp [endsWith, hd]
      have T6 := Lib.hid (pxOk_no hE)
      have bd : (v.drop (v.length - 2) == [112, 120]) = false := by simp [hd]
      clear hd hE
      rcases hn with rfl | rfl | rfl | rfl
      all_goals
        go_enter Tryd.func53, Tryd.ntmps53
        go_wp2
        go_ret
        exact ⟨ret_bool T6.out.symm, by go_grown⟩
  · have T6 : Hid (pxOk v = false) := by
      show pxOk v = _
      have e : v.length - 2 = 0 := by omega
      simp [pxOk, e, numOk]
    rcases hn with rfl | rfl | rfl | rfl
    all_goals
      go_enter Tryd.func53, Tryd.ntmps53
      go_wp2
      go_ret
      exact ⟨ret_bool T6.out.symm, by go_grown⟩

set_option maxHeartbeats 2000000 in
theorem spec_StyleSafe_align (v : Tx) (w : World) :
    Calls Tryd.prog 53 #[.agg #[.string ⟨[97, 108, 105, 103, 110].toArray⟩, .string ⟨v.toArray⟩]] w fun e w' => e = .returned (.bool (alignOk v)) ∧ Below w.heap.size w w' := by
  by_cases h1 : v = [108, 101, 102, 116]
  · subst h1
    go_enter Tryd.func53, Tryd.ntmps53
    go_wp2
    go_ret
    exact ⟨rfl, by go_grown⟩
  by_cases h2 : v = [114, 105, 103, 104, 116]
  · subst h2
    go_enter Tryd.func53, Tryd.ntmps53
    go_wp2
    go_ret
    exact ⟨rfl, by go_grown⟩
  have b1 := beq_eq_false_iff_ne.2 h1
  have b2 := beq_eq_false_iff_ne.2 h2
  have T6 : Hid (alignOk v = (v == [99, 101, 110, 116, 101, 114])) := by show alignOk v = _; simp only [alignOk, b1, b2, Bool.false_or]
  clear h1 h2
  generalize hb : (v == [99, 101, 110, 116, 101, 114]) = b at T6
  cases b
  all_goals
    go_enter Tryd.func53, Tryd.ntmps53
    go_wp2
    go_ret
    exact ⟨ret_bool T6.out.symm, by go_grown⟩

set_option maxHeartbeats 2000000 in
theorem spec_StyleSafe_other (n v : Tx) (b1 : (n == [99, 111, 108, 111, 114]) = false) (b2 : (n == [98, 97, 99, 107, 103, 114, 111, 117, 110, 100]) = false) (b3 : (n == [119, 105, 100, 116, 104]) = false) (b4 : (n == [104, 101, 105, 103, 104, 116]) = false) (b5 : (n == [109, 97, 114, 103, 105, 110]) = false) (b6 : (n == [112, 97, 100, 100, 105, 110, 103]) = false) (b7 : (n == [97, 108, 105, 103, 110]) = false) (w : World) :
    Calls Tryd.prog 53 #[.agg #[.string ⟨n.toArray⟩, .string ⟨v.toArray⟩]] w fun e w' => e = .returned (.bool false) ∧ Below w.heap.size w w' := by
  go_enter Tryd.func53, Tryd.ntmps53
  go_wp2
  go_ret
  exact ⟨rfl, by go_grown⟩

theorem spec_StyleSafe (n v : Tx) (hl : v.length ≤ maxLen) (w : World) :
    Calls Tryd.prog 53 #[.agg #[.string ⟨n.toArray⟩, .string ⟨v.toArray⟩]] w fun e w' => e = .returned (.bool (styleOk n v)) ∧ Below w.heap.size w w' := by
  unfold styleOk
  split
  · rename_i hn
    exact spec_StyleSafe_color n v hn hl w
  · rename_i hn
    split
    · rename_i hm
      exact spec_StyleSafe_px n v hm hl w
    · rename_i hm
      split
      · rename_i hk
        subst hk
        exact spec_StyleSafe_align v w
      · rename_i hk
        simp only [not_or] at hn hm
        exact spec_StyleSafe_other n v (beq_eq_false_iff_ne.2 hn.1) (beq_eq_false_iff_ne.2 hn.2) (beq_eq_false_iff_ne.2 hm.1) (beq_eq_false_iff_ne.2 hm.2.1) (beq_eq_false_iff_ne.2 hm.2.2.1) (beq_eq_false_iff_ne.2 hm.2.2.2) (beq_eq_false_iff_ne.2 hk) w

end Go.Proofs.YtaofgcdpmeeimaaDoor
