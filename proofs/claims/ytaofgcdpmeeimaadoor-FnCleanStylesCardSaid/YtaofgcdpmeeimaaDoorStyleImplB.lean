/- Styles: the walk of StyleSafe of impl at the names of lengths. -/
import Derived.Test.YtaofgcdpmeeimaaDoorStylePlain
namespace Go.Proofs.YtaofgcdpmeeimaaDoor
open Go.RowKit

set_option maxHeartbeats 2000000 in
theorem impl_StyleSafe_px (n v : Tx) (hn : n = [119, 105, 100, 116, 104] ∨ n = [104, 101, 105, 103, 104, 116] ∨ n = [109, 97, 114, 103, 105, 110] ∨ n = [112, 97, 100, 100, 105, 110, 103]) (hl : v.length ≤ maxLen) (w : World) :
    Calls Tryd.prog 26 #[.agg #[.string ⟨n.toArray⟩, .string ⟨v.toArray⟩]] w fun e w' => e = .returned (.bool (pxOk v)) ∧ Below w.heap.size w w' := by
  have HC := fun w => strings_CutSuffix v [112, 120] hl (by simp [maxLen]) w
  cases hE : endsWith v [112, 120]
  · have T6 := Lib.hid (pxOk_no hE)
    rw [hE] at HC
    simp only [Bool.false_eq_true, if_false] at HC
    have HC' := Lib.hid HC
    clear HC hE
    unfold maxLen at hl
    rcases hn with rfl | rfl | rfl | rfl
    all_goals
      go_enter Tryd.func26, Tryd.ntmps26
      go_wp2_with (go_at_call 63; refine (HC'.out _).mono ?_; rintro e w' ⟨rfl, rfl⟩)
      go_ret
      exact ⟨ret_bool T6.out.symm, by go_grown⟩
  · obtain ⟨m, hm⟩ : ∃ m, m = v.take (v.length - 2) := ⟨_, rfl⟩
    have T6 := Lib.hid (pxOk_yes hE hm)
    rw [hE] at HC
    simp only [if_true, List.length_cons, List.length_nil, Nat.zero_add, Nat.reduceAdd] at HC
    rw [← hm] at HC
    have HC' := Lib.hid HC
    clear HC hE
    unfold maxLen at hl
    have hml : m.length ≤ 9223372036854775807 := by rw [hm, List.length_take]; omega
    clear hm
    by_cases hbad : m.length < 1 ∨ 4 < m.length ∨ (1 < m.length ∧ hdi m = 48)
    · have T7 : Hid (numOk m = false) := by
        show numOk m = _
        rcases hbad with h | h | ⟨h1, h2⟩
        · simp [numOk]; omega
        · simp [numOk]; omega
        · simp only [numOk, h2]; simp; omega
      by_cases c1 : m.length < 1
      · clear hbad
        rcases hn with rfl | rfl | rfl | rfl
        all_goals
          go_enter Tryd.func26, Tryd.ntmps26
          go_wp2_with (go_at_call 63; refine (HC'.out _).mono ?_; rintro e w' ⟨rfl, rfl⟩)
          go_ret
          exact ⟨ret_bool (by rw [T6.out, T7.out]), by go_grown⟩
      · by_cases c2 : 4 < m.length
        · clear hbad
          rcases hn with rfl | rfl | rfl | rfl
          all_goals
            go_enter Tryd.func26, Tryd.ntmps26
            go_wp2_with (go_at_call 63; refine (HC'.out _).mono ?_; rintro e w' ⟨rfl, rfl⟩)
            go_ret
            exact ⟨ret_bool (by rw [T6.out, T7.out]), by go_grown⟩
        · obtain ⟨d1, d2⟩ : 1 < m.length ∧ hdi m = 48 := by omega
          have h0 : 0 < m.length := by omega
          rw [hdi_get h0] at d2
          have e1 : ((m[0].toNat : Int) == 48) = true := by simp [d2]
          clear hbad d2
          rcases hn with rfl | rfl | rfl | rfl
          all_goals
            go_enter Tryd.func26, Tryd.ntmps26
            go_wp2_with (go_at_call 63; refine (HC'.out _).mono ?_; rintro e w' ⟨rfl, rfl⟩)
            go_ret
            exact ⟨ret_bool (by rw [T6.out, T7.out]), by go_grown⟩
    · have h0 : 0 < m.length := by omega
      have h4 : m.length ≤ 4 := by omega
      have T7 : Hid (numOk m = m.all isDig) := by
        show numOk m = _
        simp only [numOk]
        have q1 : decide (1 ≤ m.length) = true := decide_eq_true h0
        have q2 : decide (m.length ≤ 4) = true := decide_eq_true h4
        have q3 : (m.length == 1 || hdi m != 48) = true := by simp; omega
        rw [q1, q2, q3]; simp
      have e1 : m.length ≤ 1 ∨ (1 < m.length ∧ ((m[0].toNat : Int) == 48) = false) := by
        rw [hdi_get h0] at hbad
        by_cases q : m.length ≤ 1
        · exact .inl q
        · right; simp; omega
      clear hbad
      rcases hn with rfl | rfl | rfl | rfl <;> rcases e1 with e1 | ⟨e0, e1⟩
      all_goals
        go_enter Tryd.func26, Tryd.ntmps26
        go_wp2_with (go_at_call 63; refine (HC'.out _).mono ?_; rintro e w' ⟨rfl, rfl⟩)
        go_loop [7] (fun i => ∃ k : Nat, k ≤ m.length ∧ i = .int .i64 k ∧ (m.drop k).all isDig = m.all isDig) (fun i => m.length - (intOf i).toNat)
        case atStart => exact ⟨0, Nat.zero_le _, rfl, rfl⟩
        case round =>
          obtain ⟨k, hk, rfl, hall⟩ := hrel
          have H := Lib.hid hall
          clear hall
          by_cases hlt : k < m.length
          · go_wp2_with (go_at_call 62; refine (impl_isDigit _ _).mono ?_; rintro e w' ⟨rfl, rfl⟩)
            all_goals first
              | (go_round; (case rel => refine ⟨k + 1, by omega, by go_num, all_yes H.out hlt ?_⟩; go_light; simp_all); (case measure => simp [intOf]; omega))
              | (go_ret; refine ⟨ret_bool ?_, by go_grown⟩; rw [T6.out, T7.out]; refine all_no H.out hlt ?_; go_light; simp_all)
          · go_wp2
            go_ret
            exact ⟨ret_bool (by rw [T6.out, T7.out]; exact all_end H.out hlt), by go_grown⟩

end Go.Proofs.YtaofgcdpmeeimaaDoor
