/- Spaces at the ends of a text: strings.Trim at one space, and the reference's own trimming: walks. -/
import Derived.Test.YtaofgcdpmeeimaaDoorTrimP
import Derived.Outline
import Derived.Deep.QuietTactic
import Derived.BigQuiet
namespace Go.Proofs.YtaofgcdpmeeimaaDoor
open Go.RowKit

theorem b32_yes {c : UInt8} (h : (c.toNat : Int) = 32) : (c == 32) = true := by
  have : c = 32 := UInt8.toNat_inj.1 (by have : (32 : UInt8).toNat = 32 := rfl; omega)
  simp [this]
theorem b32_no {c : UInt8} (h : ¬ (c.toNat : Int) = 32) : (c == 32) = false := by
  rw [beq_eq_false_iff_ne]
  intro e
  subst e
  exact h rfl

set_option maxHeartbeats 800000 in
theorem strings_trimLeftByte (l : Tx) (w : World) :
    Calls Tryd.prog 89 #[.string ⟨l.toArray⟩, .int .u8 32] w fun e w' => e = .returned (.string ⟨(ltrim l).toArray⟩) ∧ w = w' := by
  go_enter Tryd.func89, Tryd.ntmps89
  go_wp2
  go_loop [0] (fun s => ∃ m : Tx, s = .string ⟨m.toArray⟩ ∧ m.length ≤ l.length ∧ ltrim m = ltrim l) (fun s => match s with | .string b => b.size | _ => 0)
  case atStart => exact ⟨l, rfl, Nat.le_refl _, rfl⟩
  case round =>
    obtain ⟨m, rfl, hml, htr⟩ := hrel
    have H := Lib.hid htr
    clear htr
    by_cases h0 : 0 < m.length
    · by_cases h1 : (m[0].toNat : Int) = 32
      · have HT : Hid (ltrim (m.drop 1) = ltrim m) := ltrim_drop h0 (b32_yes h1)
        have b1 : ((m[0].toNat : Int) == 32) = true := by simp [h1]
        clear h1
        go_wp2
        go_round
        case rel => exact ⟨m.drop 1, by simp, by rw [List.length_drop]; omega, HT.out.trans H.out⟩
        case measure => simp [ByteArray.size]; omega
      · have HT : Hid (m = ltrim l) := by show _ = _; rw [← H.out]; exact (ltrim_end h0 (b32_no h1)).symm
        have b1 : ((m[0].toNat : Int) == 32) = false := by simp [h1]
        clear h1
        go_wp2
        go_ret
        rw [← HT.out]
        exact ⟨rfl, rfl⟩
    · have hm0 : m = [] := List.eq_nil_of_length_eq_zero (by omega)
      subst hm0
      have HT : Hid (([] : Tx) = ltrim l) := H.out
      clear h0
      go_wp2
      go_ret
      rw [← HT.out]
      exact ⟨rfl, rfl⟩

set_option maxHeartbeats 800000 in
theorem strings_trimRightByte (l : Tx) (hl : l.length ≤ maxLen) (w : World) :
    Calls Tryd.prog 90 #[.string ⟨l.toArray⟩, .int .u8 32] w fun e w' => e = .returned (.string ⟨(rtrim l).toArray⟩) ∧ w = w' := by
  unfold maxLen at hl
  go_enter Tryd.func90, Tryd.ntmps90
  go_wp2
  go_loop [0] (fun s => ∃ m : Tx, s = .string ⟨m.toArray⟩ ∧ m.length ≤ l.length ∧ rtrim m = rtrim l) (fun s => match s with | .string b => b.size | _ => 0)
  case atStart => exact ⟨l, rfl, Nat.le_refl _, rfl⟩
  case round =>
    obtain ⟨m, rfl, hml, htr⟩ := hrel
    have H := Lib.hid htr
    clear htr
    by_cases h0 : 0 < m.length
    · by_cases h1 : (m[m.length - 1].toNat : Int) = 32
      · have HT : Hid (rtrim (m.take (m.length - 1)) = rtrim m) := rtrim_take h0 (b32_yes h1)
        have b1 : ((m[m.length - 1].toNat : Int) == 32) = true := by simp [h1]
        clear h1
        go_wp2
        go_round
        case rel => exact ⟨m.take (m.length - 1), rfl, by rw [List.length_take]; omega, HT.out.trans H.out⟩
        case measure => simp [ByteArray.size]; omega
      · have HT : Hid (m = rtrim l) := by show _ = _; rw [← H.out]; exact (rtrim_end h0 (b32_no h1)).symm
        have b1 : ((m[m.length - 1].toNat : Int) == 32) = false := by simp [h1]
        clear h1
        go_wp2
        go_ret
        rw [← HT.out]
        exact ⟨rfl, rfl⟩
    · have hm0 : m = [] := List.eq_nil_of_length_eq_zero (by omega)
      subst hm0
      have HT : Hid (([] : Tx) = rtrim l) := H.out
      clear h0
      go_wp2
      go_ret
      rw [← HT.out]
      exact ⟨rfl, rfl⟩

set_option maxHeartbeats 800000 in
theorem strings_Trim (l : Tx) (hl : l.length ≤ maxLen) (w : World) :
    Calls Tryd.prog 57 #[.string ⟨l.toArray⟩, .string ⟨#[32]⟩] w fun e w' => e = .returned (.string ⟨(trimSp l).toArray⟩) ∧ ∃ n, w' = w.drewN n := by
  cases l with
  | nil =>
    go_enter Tryd.func57, Tryd.ntmps57
    go_wp2
    go_ret
    exact ⟨rfl, 0, rfl⟩
  | cons c t =>
    have HR := Lib.hid (fun w => strings_trimRightByte (c :: t) hl w)
    have HL := Lib.hid (fun w => strings_trimLeftByte (rtrim (c :: t)) w)
    have hne : ((c :: t : Tx) == []) = false := rfl
    have HT : Hid (trimSp (c :: t) = ltrim (rtrim (c :: t))) := rfl
    unfold maxLen at hl
    generalize (c :: t) = l at *
    go_enter Tryd.func57, Tryd.ntmps57
    go_wp2_with fail
    go_quiet ((first | (go_at_call 90; exact Calls.quiet_of_same ((HR.out _).mono fun _ _ ⟨h1, h2⟩ => ⟨h1, h2.symm⟩)) | (go_at_call 89; exact Calls.quiet_of_same ((HL.out _).mono fun _ _ ⟨h1, h2⟩ => ⟨h1, h2.symm⟩))))
    go_wp2
    go_ret
    rw [HT.out]
    exact ⟨rfl, _, rfl⟩

set_option maxHeartbeats 800000 in
theorem spec_l29Trim (l : Tx) (hl : l.length ≤ maxLen) (w : World) :
    Calls Tryd.prog 59 #[.string ⟨l.toArray⟩] w fun e w' => e = .returned (.string ⟨(trimSp l).toArray⟩) ∧ w = w' := by
  have HC : Hid (rtrim (ltrim l) = trimSp l) := trim_comm l
  unfold maxLen at hl
  go_enter Tryd.func59, Tryd.ntmps59
  go_wp2
  go_loop [0] (fun s => ∃ m : Tx, s = .string ⟨m.toArray⟩ ∧ m.length ≤ l.length ∧ ltrim m = ltrim l) (fun s => match s with | .string b => b.size | _ => 0)
  case atStart => exact ⟨l, rfl, Nat.le_refl _, rfl⟩
  case round =>
    obtain ⟨m, rfl, hml, htr⟩ := hrel
    have H := Lib.hid htr
    clear htr
    by_cases h0 : 0 < m.length
    · by_cases h1 : (m[0].toNat : Int) = 32
      · have HT : Hid (ltrim (m.drop 1) = ltrim m) := ltrim_drop h0 (b32_yes h1)
        have b1 : ((m[0].toNat : Int) == 32) = true := by simp [h1]
        clear h1
        go_wp2
        go_round
        case rel => exact ⟨m.drop 1, by simp, by rw [List.length_drop]; omega, HT.out.trans H.out⟩
        case measure => simp [ByteArray.size]; omega
      · have HT : Hid (ltrim l = m) := by show _ = _; rw [← H.out]; exact ltrim_end h0 (b32_no h1)
        have b1 : ((m[0].toNat : Int) == 32) = false := by simp [h1]
        clear h1
        go_wp2
        go_loop [0] (fun s => ∃ n : Tx, s = .string ⟨n.toArray⟩ ∧ n.length ≤ l.length ∧ rtrim n = rtrim m) (fun s => match s with | .string b => b.size | _ => 0)
        case atStart => exact ⟨m, rfl, hml, rfl⟩
        case round =>
          obtain ⟨n, rfl, hnl, htr⟩ := hrel
          have H2 := Lib.hid htr
          clear htr
          by_cases h2 : 0 < n.length
          · by_cases h3 : (n[n.length - 1].toNat : Int) = 32
            · have HT2 : Hid (rtrim (n.take (n.length - 1)) = rtrim n) := rtrim_take h2 (b32_yes h3)
              have b2 : ((n[n.length - 1].toNat : Int) == 32) = true := by simp [h3]
              clear h3
              go_wp2
              go_round
              case rel => exact ⟨n.take (n.length - 1), rfl, by rw [List.length_take]; omega, HT2.out.trans H2.out⟩
              case measure => simp [ByteArray.size]; omega
            · have HT2 : Hid (trimSp l = n) := by show _ = _; rw [← HC.out, HT.out, ← H2.out]; exact rtrim_end h2 (b32_no h3)
              have b2 : ((n[n.length - 1].toNat : Int) == 32) = false := by simp [h3]
              clear h3
              go_wp2
              go_ret
              rw [HT2.out]
              exact ⟨rfl, rfl⟩
          · have hn0 : n = [] := List.eq_nil_of_length_eq_zero (by omega)
            subst hn0
            have HT2 : Hid (trimSp l = []) := by show _ = _; rw [← HC.out, HT.out, ← H2.out]; rfl
            clear h2
            go_wp2
            go_ret
            rw [HT2.out]
            exact ⟨rfl, rfl⟩
    · have hm0 : m = [] := List.eq_nil_of_length_eq_zero (by omega)
      subst hm0
      have HT : Hid (trimSp l = []) := by show _ = _; rw [← HC.out, ← H.out]; rfl
      clear h0
      go_wp2
      refine wp_loop_rounds 1 ?_
      rw [rounds_succ]
      go_wp2
      go_ret
      rw [HT.out]
      exact ⟨rfl, rfl⟩
end Go.Proofs.YtaofgcdpmeeimaaDoor
