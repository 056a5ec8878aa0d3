/- Styles: the walks of l29Number and l29Color. -/
import Derived.Test.YtaofgcdpmeeimaaDoorStylePlain
namespace Go.Proofs.YtaofgcdpmeeimaaDoor
open Go.RowKit

set_option maxHeartbeats 1000000 in
theorem spec_l29Number (l : Tx) (hl : l.length ≤ maxLen) (w : World) :
    Calls Tryd.prog 86 #[.string ⟨l.toArray⟩] w fun e w' => e = .returned (.bool (numOk l)) ∧ w = w' := by
  unfold maxLen at hl
  go_enter Tryd.func86, Tryd.ntmps86
  go_wp2
  go_loop [3] (fun i => ∃ k : Nat, k ≤ l.length ∧ i = .int .i64 k ∧ (l.drop k).all isDig = l.all isDig) (fun i => l.length - (intOf i).toNat)
  case atStart => exact ⟨0, Nat.zero_le _, rfl, rfl⟩
  case round =>
    obtain ⟨k, hk, rfl, hall⟩ := hrel
    have H := Lib.hid hall
    clear hall
    by_cases hlt : k < l.length
    · go_wp2_with (go_at_call 102; refine (spec_l1Digit _ _).mono ?_; rintro e w' ⟨rfl, rfl⟩)
      all_goals first
        | (go_round; (case rel => refine ⟨k + 1, by omega, by go_num, all_yes H.out hlt ?_⟩; go_light; simp_all); (case measure => simp [intOf]; omega))
        | (go_ret; refine ⟨ret_bool ?_, rfl⟩; unfold numOk; rw [← all_no H.out hlt ?_, Bool.and_false]; go_light; simp_all)
    · go_wp2_with (go_at_call 81; refine (spec_l1In _ _ _ _).mono ?_; rintro e w' ⟨rfl, rfl⟩)
      all_goals
        go_ret
        refine ⟨ret_bool ?_, rfl⟩
        unfold numOk
        rw [← all_end H.out hlt, Bool.and_true]
        go_light
        rw [Bool.eq_iff_iff]
        first
          | (have h0 : 0 < l.length := by assumption
             rw [hdi_get h0]
             simp
             omega)
          | (simp; omega)

set_option maxHeartbeats 2000000 in
theorem spec_l29Color_name (v : Tx) (hv : v = [98, 108, 97, 99, 107] ∨ v = [119, 104, 105, 116, 101] ∨ v = [114, 101, 100] ∨ v = [103, 114, 101, 101, 110] ∨ v = [98, 108, 117, 101]) (w : World) :
    Calls Tryd.prog 85 #[.string ⟨v.toArray⟩] w fun e w' => e = .returned (.bool true) ∧ Below w.heap.size w w' := by
  rcases hv with rfl | rfl | rfl | rfl | rfl
  all_goals
    go_enter Tryd.func85, Tryd.ntmps85
    go_wp2
    go_rounds 6
    go_ret
    exact ⟨rfl, by go_grown⟩

set_option maxHeartbeats 2000000 in
theorem spec_l29Color_not (v : Tx) (hl : v.length ≤ maxLen) (b1 : (v == [98, 108, 97, 99, 107]) = false) (b2 : (v == [119, 104, 105, 116, 101]) = false) (b3 : (v == [114, 101, 100]) = false) (b4 : (v == [103, 114, 101, 101, 110]) = false) (b5 : (v == [98, 108, 117, 101]) = false) (w : World) :
    Calls Tryd.prog 85 #[.string ⟨v.toArray⟩] w fun e w' => e = .returned (.bool (hashOk v)) ∧ Below w.heap.size w w' := by
  unfold maxLen at hl
  go_enter Tryd.func85, Tryd.ntmps85
  go_wp2
  refine wp_loop_rounds 6 ?_
  iterate 6 (rw [rounds_succ]; go_wp2)
  go_loop [5] (fun i => ∃ k : Nat, 1 ≤ k ∧ (k ≤ v.length ∨ k = 1) ∧ i = .int .i64 k ∧ (v.drop k).all hexc = (v.drop 1).all hexc) (fun i => v.length - (intOf i).toNat)
  case atStart => exact ⟨1, Nat.le_refl _, .inr rfl, rfl, rfl⟩
  case round =>
    obtain ⟨k, hk1, hk, rfl, hall⟩ := hrel
    have H := Lib.hid hall
    have HK := Lib.hid hk
    clear hall hk
    by_cases hlt : k < v.length
    · go_wp2_with (go_at_call 102; refine (spec_l1Digit _ _).mono ?_; rintro e w' ⟨rfl, rfl⟩)
      all_goals first
        | (go_round; (case rel => refine ⟨k + 1, by omega, by omega, by go_num, all_yes H.out hlt ?_⟩; go_light; simp_all [hexc]; try omega); (case measure => simp [intOf]; omega))
        | (go_ret; refine ⟨ret_bool ?_, by go_grown⟩; unfold hashOk; rw [← all_no H.out hlt ?_, Bool.and_false]; go_light; simp_all [hexc]; try omega)
    · go_wp2
      all_goals
        go_ret
        refine ⟨ret_bool ?_, by go_grown⟩
        unfold hashOk
        rw [← all_end H.out hlt, Bool.and_true]
        go_light
        rw [Bool.eq_iff_iff]
        first
          | (have h0 : 0 < v.length := by omega
             rw [hdi_get h0]
             simp
             omega)
          | (simp; omega)

theorem spec_l29Color (v : Tx) (hl : v.length ≤ maxLen) (w : World) :
    Calls Tryd.prog 85 #[.string ⟨v.toArray⟩] w fun e w' => e = .returned (.bool (colorOk v)) ∧ Below w.heap.size w w' := by
  by_cases h : v = [98, 108, 97, 99, 107] ∨ v = [119, 104, 105, 116, 101] ∨ v = [114, 101, 100] ∨ v = [103, 114, 101, 101, 110] ∨ v = [98, 108, 117, 101]
  · have e : colorOk v = true := by rcases h with rfl | rfl | rfl | rfl | rfl <;> rfl
    rw [e]
    exact spec_l29Color_name v h w
  · simp only [not_or] at h
    obtain ⟨h1, h2, h3, h4, h5⟩ := h
    have b1 := beq_eq_false_iff_ne.2 h1
    have b2 := beq_eq_false_iff_ne.2 h2
    have b3 := beq_eq_false_iff_ne.2 h3
    have b4 := beq_eq_false_iff_ne.2 h4
    have b5 := beq_eq_false_iff_ne.2 h5
    rw [colorOk_not b1 b2 b3 b4 b5]
    exact spec_l29Color_not v hl b1 b2 b3 b4 b5 w

end Go.Proofs.YtaofgcdpmeeimaaDoor
