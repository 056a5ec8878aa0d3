/- What the valid parts call: walks. -/
import Derived.Test.YtginghjgfippiaaPartV
import Derived.Test.YtginghjgfippiaaHm
import Derived.Test.YtginghjgfippiaaShelf
namespace Go.Proofs.Ytginghjgfippiaa
open Go.RowKit

theorem txt_two {t : Tx} (h : t ≠ []) : t.headD 0 = t[0]'(List.length_pos_iff.2 h) ∧ t.getLastD 0 = t[t.length - 1]'(by have := List.length_pos_iff.2 h; omega) := by
  constructor
  · cases t with
    | nil => exact absurd rfl h
    | cons x s => rfl
  · rw [List.getLastD_eq_getLast?, List.getLast?_eq_getElem?, List.getElem?_eq_getElem (by have := List.length_pos_iff.2 h; omega)]; rfl
theorem pvAt_of {xs : List Pt} {j : Nat} (h : j < xs.length) {kd : Int} {t n : Tx} {us vs : List Pt} (e : xs[j] = .mk kd t n us vs) : Pt.pvAt xs (j + 1) = (kd == 1) := by
  rw [Pt.pvAt_succ h, e]
  rw [Bool.eq_iff_iff, decide_eq_true_iff, beq_iff_eq]; rfl
set_option maxRecDepth 100000 in
set_option maxHeartbeats 400000 in
theorem impl_hasByte (s : Tx) (c : UInt8) (hl : s.length ≤ maxLen) (w : World) :
    Calls Try.prog 52 #[.string ⟨s.toArray⟩, .int .u8 (c.toNat : Int)] w fun e w' => e = .returned (.bool (s.any (· == c))) ∧ w = w' := by
  unfold maxLen at hl
  go_enter Try.func52, Try.ntmps52
  go_wp2
  go_loop [5] (fun i => ∃ k : Nat, k ≤ s.length ∧ i = .int .i64 k ∧ (s.drop k).any (· == c) = s.any (· == c)) (fun i => s.length - (intOf i).toNat)
  case atStart => exact ⟨0, Nat.zero_le _, rfl, rfl⟩
  case round =>
    obtain ⟨k, hk, rfl, hall⟩ := hrel
    have H := Lib.hid hall
    clear hall
    by_cases hlt : k < s.length
    · have H2 := H.out
      rw [drop_cons s k hlt, List.any_cons] at H2
      have H3 := Lib.hid H2
      clear H2
      cases hq : (s[k] == c)
      · rw [hq, Bool.false_or] at H3
        have hq' : ((s[k].toNat : Int) == (c.toNat : Int)) = false := by
          rw [beq_eq_false_iff_ne] at *
          intro e
          exact hq (UInt8.toNat_inj.1 (by omega))
        clear hq
        go_wp2
        go_round
        case rel => exact ⟨k + 1, by omega, by go_num, H3.out⟩
        case measure => simp [intOf]; omega
      · rw [hq, Bool.true_or] at H3
        have hq' : ((s[k].toNat : Int) == (c.toNat : Int)) = true := by rw [eq_of_beq hq]; simp
        clear hq
        go_wp2
        go_ret
        exact ⟨ret_bool H3.out, rfl⟩
    · have H2 := H.out
      rw [drop_nil s k (by omega), List.any_nil] at H2
      have H3 := Lib.hid H2
      clear H2
      go_wp2
      go_ret
      exact ⟨ret_bool H3.out, rfl⟩
theorem impl_brace (c : UInt8) (w : World) :
    Calls Try.prog 52 #[.string ⟨#[123, 125]⟩, .int .u8 (c.toNat : Int)] w fun e w' => e = .returned (.bool (brace c)) ∧ w = w' := by
  have h := impl_hasByte [123, 125] c (by simp [maxLen]) w
  have e : ([123, 125] : Tx).any (· == c) = brace c := by
    simp only [List.any_cons, List.any_nil, Bool.or_false, brace]
    rw [Bool.eq_iff_iff]
    simp only [Bool.or_eq_true, beq_iff_eq]
    exact ⟨fun h => h.imp Eq.symm Eq.symm, fun h => h.imp Eq.symm Eq.symm⟩
  rw [e] at h
  exact h
theorem contains2 (s : Tx) (c : UInt8) (hs : s.length ≤ 1048576) (w : World) (hm : Hm w) :
    Calls Try.prog 51 #[.string ⟨s.toArray⟩, .string ⟨#[c, c]⟩] w fun e w' => e = .returned (.bool (has2 c s)) ∧ w = w' := by
  obtain ⟨m, hm⟩ := hm
  refine (Try.strings_Contains ⟨s.toArray⟩ ⟨#[c, c]⟩ m w (by show s.toArray.size < _; simp; omega) hm).mono fun e w' ⟨he, hw⟩ => ⟨?_, hw.symm⟩
  rw [he]
  exact ret_bool (contains_two c s)
set_option maxRecDepth 100000 in
set_option maxHeartbeats 400000 in
theorem spec_l9Word (n : Tx) (w : World) :
    Calls Try.prog 47 #[.string ⟨n.toArray⟩] w fun e w' => e = .returned (.bool (isWord n)) ∧ w = w' := by
  have HW : Hid (isWord n = (n == [105, 102] || (n == [101, 97, 99, 104] || (n == [101, 108, 115, 101] || n == [101, 110, 100])))) := rfl
  cases e1 : (n == [105, 102]) <;> cases e2 : (n == [101, 97, 99, 104]) <;> cases e3 : (n == [101, 108, 115, 101]) <;> cases e4 : (n == [101, 110, 100])
  all_goals
    rw [e1, e2, e3, e4] at HW
    go_enter Try.func47, Try.ntmps47
    go_wp2
    go_ret
    exact ⟨ret_bool HW.out.symm, rfl⟩
theorem two_step {t : Tx} {k : Nat} (h : k + 1 < t.length) : two (t.drop k) = (((t.take (k + 2)).drop k == [123, 123]) || (((t.take (k + 2)).drop k == [125, 125]) || two (t.drop (k + 1)))) := by
  have e : (t.take (k + 2)).drop k = [t[k], t[k + 1]] := by
    rw [List.drop_take, drop_cons t k (by omega), drop_cons t (k + 1) h, show k + 2 - k = 2 by omega]; rfl
  have e2 : ∀ a b c d : UInt8, ([a, b] == [c, d]) = (a == c && b == d) := by
    intro a b c d
    rw [Bool.eq_iff_iff]
    simp
  rw [e, drop_cons t k (by omega), drop_cons t (k + 1) h, two, e2, e2]
theorem two_end {t : Tx} {k : Nat} (h : ¬ k + 1 < t.length) : two (t.drop k) = false := by
  have hl : (t.drop k).length ≤ 1 := by rw [List.length_drop]; omega
  generalize t.drop k = s at *
  match s, hl with
  | [], _ => rfl
  | [x], _ => rfl
set_option maxRecDepth 100000 in
set_option maxHeartbeats 400000 in
theorem spec_l9Has (t : Tx) (hl : t.length ≤ 1048576) (w : World) :
    Calls Try.prog 45 #[.string ⟨t.toArray⟩] w fun e w' => e = .returned (.bool (two t)) ∧ w = w' := by
  go_enter Try.func45, Try.ntmps45
  go_wp2
  go_loop [3] (fun i => ∃ k : Nat, k ≤ t.length ∧ i = .int .i64 k ∧ two (t.drop k) = two t) (fun i => t.length - (intOf i).toNat)
  case atStart => exact ⟨0, Nat.zero_le _, rfl, rfl⟩
  case round =>
    obtain ⟨k, hk, rfl, hall⟩ := hrel
    have H := Lib.hid hall
    clear hall
    by_cases hlt : k + 1 < t.length
    · have H2 := H.out
      rw [two_step hlt] at H2
      have H3 := Lib.hid H2
      clear H2
      cases c1 : ((t.take (k + 2)).drop k == [123, 123])
      · rw [c1, Bool.false_or] at H3
        cases c2 : ((t.take (k + 2)).drop k == [125, 125])
        · rw [c2, Bool.false_or] at H3
          go_wp2
          go_round
          case rel => exact ⟨k + 1, by omega, by go_num, H3.out⟩
          case measure => simp [intOf]; omega
        · rw [c2, Bool.true_or] at H3
          go_wp2
          go_ret
          exact ⟨ret_bool H3.out, rfl⟩
      · rw [c1, Bool.true_or] at H3
        go_wp2
        go_ret
        exact ⟨ret_bool H3.out, rfl⟩
    · have H2 := H.out
      rw [two_end hlt] at H2
      have H3 := Lib.hid H2
      clear H2
      go_wp2
      go_ret
      exact ⟨ret_bool H3.out, rfl⟩
end Go.Proofs.Ytginghjgfippiaa
