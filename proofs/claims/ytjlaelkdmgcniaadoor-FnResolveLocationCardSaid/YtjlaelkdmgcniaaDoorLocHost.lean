/- Hosts and steps: walks. -/
import Derived.Test.YtjlaelkdmgcniaaDoorLocP
import Derived.Test.YtjlaelkdmgcniaaDoorEscI
import Derived.Test.YtjlaelkdmgcniaaDoorEscS
namespace Go.Proofs.YtjlaelkdmgcniaaDoor
open Go.RowKit

set_option maxRecDepth 100000 in
set_option maxHeartbeats 1000000 in
theorem impl_hostOk (l : Tx) (hl : l.length ≤ maxLen) (w : World) :
    Calls Tryd.prog 24 #[.string ⟨l.toArray⟩] w fun e w' => e = .returned (.bool (hostOk l)) ∧ w = w' := by
  unfold maxLen at hl
  by_cases h1 : 1 ≤ l.length
  · by_cases h40 : l.length ≤ 40
    · have g0 : decide ((l.length : Int) < 1) = false := by simp; omega
      have g1 : decide (40 < (l.length : Int)) = false := by simp; omega
      have T6 : Hid (hostOk l = l.all hostByte) := by show _ = _; simp [hostOk, h1, h40]
      go_enter Tryd.func24, Tryd.ntmps24
      go_wp2
      go_loop [3] (fun i => ∃ k : Nat, k ≤ l.length ∧ i = .int .i64 k ∧ (l.drop k).all hostByte = l.all hostByte) (fun i => l.length - (intOf i).toNat)
      case atStart => exact ⟨0, Nat.zero_le _, rfl, rfl⟩
      case round =>
        obtain ⟨k, hk, rfl, hall⟩ := hrel
        have H := Lib.hid hall
        clear hall
        by_cases hlt : k < l.length
        · go_wp2_with (go_at_call 26; refine (impl_isDigit _ _).mono ?_; rintro e w' ⟨rfl, rfl⟩)
          all_goals first
            | (go_round; (case rel => refine ⟨k + 1, by omega, by go_num, all_yes H.out hlt ?_⟩; go_light; simp_all [hostByte, isLow]; try omega); (case measure => simp [intOf]; omega))
            | (go_ret; refine ⟨ret_bool ?_, rfl⟩; rw [T6.out]; refine all_no H.out hlt ?_; go_light; simp_all [hostByte, isLow]; try omega)
        · go_wp2
          go_ret
          exact ⟨ret_bool (by rw [T6.out]; exact all_end H.out hlt), rfl⟩
    · have T6 : Hid (hostOk l = false) := by show _ = _; simp [hostOk, h40]
      have g0 : decide ((l.length : Int) < 1) = false := by simp; omega
      have g1 : decide (40 < (l.length : Int)) = true := by simp; omega
      go_enter Tryd.func24, Tryd.ntmps24
      go_wp2
      go_ret
      exact ⟨ret_bool T6.out.symm, rfl⟩
  · have T6 : Hid (hostOk l = false) := by show _ = _; simp [hostOk, h1]
    have g0 : decide ((l.length : Int) < 1) = true := by simp; omega
    go_enter Tryd.func24, Tryd.ntmps24
    go_wp2
    go_ret
    exact ⟨ret_bool T6.out.symm, rfl⟩

set_option maxRecDepth 100000 in
set_option maxHeartbeats 1000000 in
theorem spec_l32Host (l : Tx) (hl : l.length ≤ maxLen) (w : World) :
    Calls Tryd.prog 38 #[.string ⟨l.toArray⟩] w fun e w' => e = .returned (.bool (hostOk l)) ∧ w = w' := by
  unfold maxLen at hl
  have T6 : Hid (hostOk l = (decide (1 ≤ l.length) && decide (l.length ≤ 40) && l.all hostByte)) := rfl
  go_enter Tryd.func38, Tryd.ntmps38
  go_wp2
  go_loop [3] (fun i => ∃ k : Nat, k ≤ l.length ∧ i = .int .i64 k ∧ (l.drop k).all hostByte = l.all hostByte) (fun i => l.length - (intOf i).toNat)
  case atStart => exact ⟨0, Nat.zero_le _, rfl, rfl⟩
  case round =>
    obtain ⟨k, hk, rfl, hall⟩ := hrel
    have H := Lib.hid hall
    clear hall
    by_cases hlt : k < l.length
    · go_wp2_with (go_at_call 53; refine (spec_l1Digit _ _).mono ?_; rintro e w' ⟨rfl, rfl⟩)
      all_goals first
        | (go_round; (case rel => refine ⟨k + 1, by omega, by go_num, all_yes H.out hlt ?_⟩; go_light; simp_all [hostByte, isLow]; try omega); (case measure => simp [intOf]; omega))
        | (go_ret; refine ⟨ret_bool ?_, rfl⟩; rw [T6.out, ← all_no H.out hlt (by go_light; simp_all [hostByte, isLow]; try omega)]; simp)
    · go_wp2_with (go_at_call 49; refine (spec_l1In _ _ _ _).mono ?_; rintro e w' ⟨rfl, rfl⟩)
      go_ret
      refine ⟨ret_bool ?_, rfl⟩
      have e1 : decide ((1 : Int) ≤ (l.length : Int)) = decide (1 ≤ l.length) := by rw [decide_eq_decide]; omega
      have e2 : decide ((l.length : Int) ≤ 40) = decide (l.length ≤ 40) := by rw [decide_eq_decide]; omega
      rw [T6.out, ← all_end H.out hlt, e1, e2, Bool.and_true]

set_option maxRecDepth 100000 in
set_option maxHeartbeats 1000000 in
theorem spec_l32Step (l : Tx) (hl : l.length ≤ maxLen) (w : World) :
    Calls Tryd.prog 36 #[.string ⟨l.toArray⟩] w fun e w' => e = .returned (.bool (stepOk l)) ∧ w = w' := by
  unfold maxLen at hl
  have T6 : Hid (stepOk l = (decide (1 ≤ l.length) && decide (l.length ≤ 40) && !(l == [46]) && !(l == [46, 46]) && l.all plainByte)) := rfl
  go_enter Tryd.func36, Tryd.ntmps36
  go_wp2
  go_loop [3] (fun i => ∃ k : Nat, k ≤ l.length ∧ i = .int .i64 k ∧ (l.drop k).all plainByte = l.all plainByte) (fun i => l.length - (intOf i).toNat)
  case atStart => exact ⟨0, Nat.zero_le _, rfl, rfl⟩
  case round =>
    obtain ⟨k, hk, rfl, hall⟩ := hrel
    have H := Lib.hid hall
    clear hall
    by_cases hlt : k < l.length
    · have HP := Lib.hid (fun w => spec_l3Plain l[k] w)
      cases hp : plainByte l[k]
      · rw [hp] at HP
        have HN := Lib.hid (all_no H.out hlt hp)
        clear hp
        go_wp2_with (go_at_call 48; refine (HP.out _).mono ?_; rintro e w' ⟨rfl, rfl⟩)
        go_ret
        exact ⟨ret_bool (by rw [T6.out, ← HN.out]; simp), rfl⟩
      · rw [hp] at HP
        have HY := Lib.hid (all_yes H.out hlt hp)
        clear hp
        go_wp2_with (go_at_call 48; refine (HP.out _).mono ?_; rintro e w' ⟨rfl, rfl⟩)
        go_round
        case rel => exact ⟨k + 1, by omega, by go_num, HY.out⟩
        case measure => simp [intOf]; omega
    · have HE := Lib.hid (all_end H.out hlt)
      have HI := Lib.hid (fun w => spec_l1In (l.length : Int) 1 40 w)
      cases hi : (decide ((1 : Int) ≤ (l.length : Int)) && decide ((l.length : Int) ≤ 40))
      · rw [hi] at HI
        have T7 : Hid (stepOk l = false) := by show _ = _; rw [T6.out]; simp at hi ⊢; omega
        clear hi
        go_wp2_with (go_at_call 49; refine (HI.out _).mono ?_; rintro e w' ⟨rfl, rfl⟩)
        go_ret
        exact ⟨ret_bool T7.out.symm, rfl⟩
      · rw [hi] at HI
        have T7 : Hid (stepOk l = (!(l == [46]) && !(l == [46, 46]))) := by
          show _ = _
          simp only [Bool.and_eq_true, decide_eq_true_eq] at hi
          rw [T6.out, ← HE.out, decide_eq_true (by omega : 1 ≤ l.length), decide_eq_true (by omega : l.length ≤ 40)]
          simp
        clear hi
        cases e1 : (l == [46])
        · have n1 : (l != [46]) = true := by rw [bne, e1]; rfl
          cases e2 : (l == [46, 46])
          · have n2 : (l != [46, 46]) = true := by rw [bne, e2]; rfl
            rw [e1, e2] at T7
            go_wp2_with (go_at_call 49; refine (HI.out _).mono ?_; rintro e w' ⟨rfl, rfl⟩)
            go_ret
            exact ⟨ret_bool T7.out.symm, rfl⟩
          · have n2 : (l != [46, 46]) = false := by rw [bne, e2]; rfl
            rw [e1, e2] at T7
            go_wp2_with (go_at_call 49; refine (HI.out _).mono ?_; rintro e w' ⟨rfl, rfl⟩)
            go_ret
            exact ⟨ret_bool T7.out.symm, rfl⟩
        · have n1 : (l != [46]) = false := by rw [bne, e1]; rfl
          rw [e1] at T7
          go_wp2_with (go_at_call 49; refine (HI.out _).mono ?_; rintro e w' ⟨rfl, rfl⟩)
          go_ret
          exact ⟨ret_bool T7.out.symm, rfl⟩
end Go.Proofs.YtjlaelkdmgcniaaDoor
