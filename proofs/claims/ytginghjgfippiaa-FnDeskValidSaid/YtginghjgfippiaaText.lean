/- The walks of the functions on bytes, texts and names: impl and spec. -/
import Derived.Test.YtginghjgfippiaaPlain
import Derived.Outline
namespace Go.Proofs.Ytginghjgfippiaa
open Go.RowKit

set_option maxRecDepth 100000 in
set_option maxHeartbeats 400000 in
theorem impl_isDigit (c : UInt8) (w : World) :
    Calls Try.prog 53 #[.int .u8 (c.toNat : Int)] w fun e w' => e = .returned (.bool (isDig c)) ∧ w = w' := by
  go_enter Try.func53, Try.ntmps53
  go_wp2
  all_goals (go_ret; refine ⟨ret_bool ?_, rfl⟩; simp [isDig, *]; try omega)

set_option maxRecDepth 100000 in
set_option maxHeartbeats 400000 in
theorem spec_l1Digit (c : UInt8) (w : World) :
    Calls Try.prog 62 #[.int .u8 (c.toNat : Int)] w fun e w' => e = .returned (.bool (isDig c)) ∧ w = w' := by
  go_enter Try.func62, Try.ntmps62
  go_wp2
  all_goals (go_ret; refine ⟨ret_bool ?_, rfl⟩; simp [isDig, *]; try omega)

set_option maxRecDepth 100000 in
set_option maxHeartbeats 400000 in
theorem spec_l1In (n lo hi : Int) (w : World) :
    Calls Try.prog 63 #[.int .i64 n, .int .i64 lo, .int .i64 hi] w fun e w' => e = .returned (.bool (decide (lo ≤ n) && decide (n ≤ hi))) ∧ w = w' := by
  go_enter Try.func63, Try.ntmps63
  go_wp2
  all_goals (go_ret; refine ⟨ret_bool ?_, rfl⟩; simp [*]; try omega)

set_option maxRecDepth 100000 in
set_option maxHeartbeats 400000 in
theorem impl_TextValid (l : Tx) (hl : l.length ≤ maxLen) (w : World) :
    Calls Try.prog 50 #[.string ⟨l.toArray⟩] w fun e w' => e = .returned (.bool (textOk l)) ∧ w = w' := by
  unfold maxLen at hl
  go_enter Try.func50, Try.ntmps50
  by_cases h6 : l.length ≤ 600
  · have d6 : decide (600 < (l.length : Int)) = false := by simp; omega
    have T6 : Hid (textOk l = l.all isPrn) := by show textOk l = _; simp [textOk, h6]
    go_wp2
    go_loop [3] (fun i => ∃ k : Nat, k ≤ l.length ∧ i = .int .i64 k ∧ (l.drop k).all isPrn = l.all isPrn) (fun i => l.length - (intOf i).toNat)
    case atStart => exact ⟨0, Nat.zero_le _, rfl, rfl⟩
    case round =>
      obtain ⟨k, hk, rfl, hall⟩ := hrel
      have H := Lib.hid hall
      clear hall
      by_cases hlt : k < l.length
      · go_wp2
        all_goals first
          | (go_round; (case rel => exact ⟨k + 1, by omega, by go_num, all_yes H.out hlt (by simp [isPrn]; omega)⟩); (case measure => simp [intOf]; omega))
          | (go_ret; exact ⟨ret_bool (by rw [T6.out]; exact all_no H.out hlt (by simp [isPrn]; omega)), rfl⟩)
      · go_wp2
        go_ret
        exact ⟨ret_bool (by rw [T6.out]; exact all_end H.out hlt), rfl⟩
  · go_wp2
    go_ret
    exact ⟨ret_bool (by simp [textOk, h6]), rfl⟩

set_option maxRecDepth 100000 in
set_option maxHeartbeats 400000 in
theorem spec_TextValid (l : Tx) (hl : l.length ≤ maxLen) (w : World) :
    Calls Try.prog 44 #[.string ⟨l.toArray⟩] w fun e w' => e = .returned (.bool (textOk l)) ∧ w = w' := by
  unfold maxLen at hl
  go_enter Try.func44, Try.ntmps44
  go_wp2
  go_loop [3] (fun i => ∃ k : Nat, k ≤ l.length ∧ i = .int .i64 k ∧ (l.drop k).all isPrn = l.all isPrn) (fun i => l.length - (intOf i).toNat)
  case atStart => exact ⟨0, Nat.zero_le _, rfl, rfl⟩
  case round =>
    obtain ⟨k, hk, rfl, hall⟩ := hrel
    have H := Lib.hid hall
    clear hall
    by_cases hlt : k < l.length
    · go_wp2
      all_goals first
        | (go_round; (case rel => exact ⟨k + 1, by omega, by go_num, all_yes H.out hlt (by simp [isPrn]; omega)⟩); (case measure => simp [intOf]; omega))
        | (go_ret; exact ⟨ret_bool (by rw [textOk, ← all_no H.out hlt (by simp [isPrn]; omega), Bool.and_false]), rfl⟩)
    · go_wp2
      go_ret
      exact ⟨ret_bool (by rw [textOk, ← all_end H.out hlt]; simp; try omega), rfl⟩

set_option maxRecDepth 100000 in
set_option maxHeartbeats 400000 in
theorem impl_valueOk (l : Tx) (hl : l.length ≤ maxLen) (w : World) :
    Calls Try.prog 33 #[.string ⟨l.toArray⟩] w fun e w' => e = .returned (.bool (valOk l)) ∧ w = w' := by
  have hl' := hl
  unfold maxLen at hl
  go_enter Try.func33, Try.ntmps33
  by_cases h4 : (l.length : Int) ≤ 40
  · have HL := Lib.hid hl'
    clear hl'
    go_wp2_with (go_at_call 50; refine (impl_TextValid _ HL.out _).mono ?_; rintro e w' ⟨rfl, rfl⟩)
    go_ret
    exact ⟨ret_bool (by simp [valOk]; omega), rfl⟩
  · go_wp2
    go_ret
    exact ⟨ret_bool (by simp [valOk]; omega), rfl⟩

set_option maxRecDepth 100000 in
set_option maxHeartbeats 1000000 in
theorem impl_NameValid (l : Tx) (hl : l.length ≤ maxLen) (w : World) :
    Calls Try.prog 32 #[.string ⟨l.toArray⟩] w fun e w' => e = .returned (.bool (nameOk l)) ∧ w = w' := by
  unfold maxLen at hl
  rcases Nat.eq_zero_or_pos l.length with h0 | h0
  · obtain rfl := List.eq_nil_of_length_eq_zero h0
    clear h0
    go_enter Try.func32, Try.ntmps32
    go_wp2
    go_ret
    exact ⟨ret_bool (by simp [nameOk]), rfl⟩
  by_cases h10 : l.length ≤ 10
  · have g0 : decide ((l.length : Int) < 1) = false := by simp; omega
    have g1 : decide (10 < (l.length : Int)) = false := by simp; omega
    by_cases hc : isLow l[0] = true
    · have T6 : Hid (nameOk l = l.all nameByte) := nameOk_mid h0 h10 hc
      have hc1 : 97 ≤ (l[0].toNat : Int) := by simp [isLow] at hc; omega
      have hc2 : (l[0].toNat : Int) ≤ 122 := by simp [isLow] at hc; omega
      clear hc
      go_enter Try.func32, Try.ntmps32
      go_wp2
      go_loop [3] (fun i => ∃ k : Nat, k ≤ l.length ∧ i = .int .i64 k ∧ (l.drop k).all nameByte = l.all nameByte) (fun i => l.length - (intOf i).toNat)
      case atStart => exact ⟨0, Nat.zero_le _, rfl, rfl⟩
      case round =>
        obtain ⟨k, hk, rfl, hall⟩ := hrel
        have H := Lib.hid hall
        clear hall
        by_cases hlt : k < l.length
        · go_wp2_with (go_at_call 53; refine (impl_isDigit _ _).mono ?_; rintro e w' ⟨rfl, rfl⟩)
          all_goals first
            | (go_round; (case rel => refine ⟨k + 1, by omega, by go_num, all_yes H.out hlt ?_⟩; go_light; simp_all [nameByte, isLow]; try omega); (case measure => simp [intOf]; omega))
            | (go_ret; refine ⟨ret_bool ?_, rfl⟩; rw [T6.out]; refine all_no H.out hlt ?_; go_light; simp_all [nameByte, isLow]; try omega)
        · go_wp2
          go_ret
          exact ⟨ret_bool (by rw [T6.out]; exact all_end H.out hlt), rfl⟩
    · have hc' : isLow l[0] = false := by simpa using hc
      have T6 : Hid (nameOk l = false) := nameOk_low h0 hc'
      have hc1 : (l[0].toNat : Int) < 97 ∨ 122 < (l[0].toNat : Int) := by simp [isLow] at hc'; omega
      clear hc hc'
      go_enter Try.func32, Try.ntmps32
      go_wp2
      all_goals (go_ret; exact ⟨ret_bool T6.out.symm, rfl⟩)
  · go_enter Try.func32, Try.ntmps32
    go_wp2
    go_ret
    exact ⟨ret_bool (by simp [nameOk]; omega), rfl⟩

set_option maxRecDepth 100000 in
set_option maxHeartbeats 1000000 in
theorem spec_NameValid (l : Tx) (hl : l.length ≤ maxLen) (w : World) :
    Calls Try.prog 46 #[.string ⟨l.toArray⟩] w fun e w' => e = .returned (.bool (nameOk l)) ∧ w = w' := by
  unfold maxLen at hl
  rcases Nat.eq_zero_or_pos l.length with h0 | h0
  · obtain rfl := List.eq_nil_of_length_eq_zero h0
    clear h0
    go_enter Try.func46, Try.ntmps46
    go_wp2
    refine wp_loop_rounds 1 ?_
    rw [rounds_succ]
    go_wp2_with (go_at_call 63; refine (spec_l1In _ _ _ _).mono ?_; rintro e w' ⟨rfl, rfl⟩)
    go_ret
    exact ⟨ret_bool (by simp [nameOk]), rfl⟩
  · have hd := fun (h : isLow l[0] = true) => nameOk_head h0 h
    have hn := fun (h : isLow l[0] = false) => nameOk_low h0 h
    have HD := Lib.hid hd
    have HN := Lib.hid hn
    clear hd hn
    go_enter Try.func46, Try.ntmps46
    go_wp2
    go_loop [3] (fun i => ∃ k : Nat, k ≤ l.length ∧ i = .int .i64 k ∧ (k = 0 ∨ isLow l[0] = true) ∧ (l.drop k).all nameByte = l.all nameByte) (fun i => l.length - (intOf i).toNat)
    case atStart => exact ⟨0, Nat.zero_le _, rfl, .inl rfl, rfl⟩
    case round =>
      obtain ⟨k, hk, rfl, hz, hall⟩ := hrel
      have H := Lib.hid hall
      have HZ := Lib.hid hz
      clear hall hz
      by_cases hlt : k < l.length
      · by_cases hk0 : k = 0
        · subst hk0
          go_wp2
          all_goals first
            | (go_round; (case rel => refine ⟨1, by omega, rfl, .inr ?_, all_yes H.out hlt ?_⟩ <;> go_light <;> simp_all [nameByte, isLow] <;> try omega); (case measure => simp [intOf]; omega))
            | (go_ret; refine ⟨ret_bool ?_, rfl⟩; refine (HN.out ?_).symm; go_light; simp_all [isLow]; try omega)
        · have hk1 : ((k : Int) == 0) = false := by simp; omega
          have HL := Lib.hid (HZ.out.resolve_left hk0)
          go_wp2_with (go_at_call 62; refine (spec_l1Digit _ _).mono ?_; rintro e w' ⟨rfl, rfl⟩)
          all_goals first
            | (go_round; (case rel => refine ⟨k + 1, by omega, by go_num, .inr HL.out, all_yes H.out hlt ?_⟩; go_light; simp_all [nameByte, isLow]; try omega); (case measure => simp [intOf]; omega))
            | (go_ret; refine ⟨ret_bool ?_, rfl⟩; rw [HD.out HL.out]; rw [← all_no H.out hlt ?_]; · simp
               go_light; simp_all [nameByte, isLow]; try omega)
      · go_wp2_with (go_at_call 63; refine (spec_l1In _ _ _ _).mono ?_; rintro e w' ⟨rfl, rfl⟩)
        go_ret
        refine ⟨ret_bool ?_, rfl⟩
        rw [HD.out (HZ.out.resolve_left (by omega)), ← all_end H.out hlt]
        go_light
        have h1 : (1 : Int) ≤ (l.length : Int) := by omega
        simp [h1]
        try omega

end Go.Proofs.Ytginghjgfippiaa
