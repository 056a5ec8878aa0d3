/- Texts of nodes, of spec: walks. -/
import Derived.Test.YtdmmnjnbjigdeaaDoorNodeWLP
import Derived.Test.YtdmmnjnbjigdeaaDoorNodeValid
import Derived.Test.YtdmmnjnbjigdeaaDoorNodeWalkP
import Derived.Test.YtdmmnjnbjigdeaaDoorDrawS
import Derived.Test.YtdmmnjnbjigdeaaDoorNodeWI
namespace Go.Proofs.YtdmmnjnbjigdeaaDoor
open Go.RowKit

theorem byte_ne {b c : UInt8} (h : (b == c) = false) : ((b.toNat : Int) == (c.toNat : Int)) = false := by
  rw [beq_eq_false_iff_ne] at *
  intro e
  exact h (UInt8.toNat_inj.1 (by omega))
theorem byte_eq {b c : UInt8} (h : (b == c) = true) : ((b.toNat : Int) == (c.toNat : Int)) = true := by
  have := eq_of_beq h
  subst this
  simp
theorem dgt_dec (u : Nat) : Lib.decDigits u = (if u < 10 then [] else Lib.decDigits (u / 10)) ++ [dgt u] := by
  rw [Lib.decDigits]
  split
  · next h => 
    have : dgt u = UInt8.ofNat (48 + u) := by unfold dgt; rw [Nat.mod_eq_of_lt h]
    rw [this]; rfl
  · rfl
set_option maxRecDepth 100000 in
set_option maxHeartbeats 2000000 in
theorem spec_l26Number (n : Int) (hn0 : -999999 ≤ n) (hn1 : n ≤ 999999) (w : World) :
    Calls Tryd.prog 56 #[.int .i64 n] w fun e w' => e = .returned (sv (Lib.itoa n)) ∧ Below w.heap.size w w' := by
  have key : ∀ (u : Nat) (sg : Tx) (hu : u ≤ 999999) (hit : Lib.itoa n = sg ++ Lib.decDigits u) (hsg : sg.length ≤ 1), True := fun _ _ _ _ _ => trivial
  clear key
  by_cases h0 : n < 0
  · obtain ⟨u, rfl⟩ : ∃ u : Nat, n = -(u : Int) := ⟨n.natAbs, by omega⟩
    have hu : u ≤ 999999 := by omega
    have HIT : Hid (Lib.itoa (-(u : Int)) = [45] ++ Lib.decDigits u) := by
      show _ = _
      unfold Lib.itoa
      rw [if_pos h0]
      simp
    have hcv := fun W => one_byte (P := Tryd.prog) Tryd.underlying22 Tryd.underlying5 Tryd.underlying9 (dgt u) (48 + (u : Int) % 10) (dgt_toNat u).symm W
    go_enter Tryd.func56, Tryd.ntmps56
    go_wp2
    go_loopw [0, 4] (fun v s wr => ∃ (m : Nat) (out : Tx), m ≤ u ∧ v = .int .i64 m ∧ s = sv out ∧ Lib.decDigits u = (if m < 10 then [] else Lib.decDigits (m / 10)) ++ out ∧ out.length + m ≤ u + 1 ∧ Below w.heap.size w wr) (fun v _ _ => (intOf v).toNat)
    case atStart => exact ⟨u, [dgt u], Nat.le_refl _, rfl, rfl, dgt_dec u, by simp; omega, (Below.refl _ _).alloc (Nat.le_refl _) _⟩
    case round =>
      obtain ⟨m, out, hm, rfl, rfl, hd, hlen, hb⟩ := hrel
      have HB := Lib.hid hb
      have HD := Lib.hid hd
      clear hb hd hcv
      by_cases hlt : 9 < m
      · have hcv := fun W => one_byte (P := Tryd.prog) Tryd.underlying22 Tryd.underlying5 Tryd.underlying9 (dgt (m / 10)) (48 + ((m / 10 : Nat) : Int) % 10) (dgt_toNat (m / 10)).symm W
        have hdiv : (m : Int) / 10 = ((m / 10 : Nat) : Int) := by omega
        have hq : m / 10 ≤ 999999 := by omega
        have HDV : Hid (Lib.decDigits u = (if m / 10 < 10 then [] else Lib.decDigits (m / 10 / 10)) ++ dgt (m / 10) :: out) := by
          show _ = _
          rw [HD.out, if_neg (by omega), dgt_dec (m / 10)]
          simp
        have hmq : m / 10 + 1 ≤ m := by omega
        generalize m / 10 = q at *
        go_wp2
        go_roundw
        case rel => exact ⟨q, dgt q :: out, by omega, by go_num, rfl, HDV.out, by simp; omega, HB.out.alloc HB.out.size _⟩
        case measure => simp [intOf]; omega
      · have HDV : Hid (Lib.decDigits u = out) := by
          show _ = _
          rw [HD.out, if_pos (by omega)]; rfl
        go_wp2
        go_ret
        exact ⟨by rw [HIT.out, HDV.out]; rfl, HB.out⟩
  · obtain ⟨u, rfl⟩ : ∃ u : Nat, n = (u : Int) := ⟨n.toNat, by omega⟩
    have hu : u ≤ 999999 := by omega
    have HIT : Hid (Lib.itoa (u : Int) = [] ++ Lib.decDigits u) := by
      show _ = _
      unfold Lib.itoa
      rw [if_neg h0]
      simp
    have hcv := fun W => one_byte (P := Tryd.prog) Tryd.underlying22 Tryd.underlying5 Tryd.underlying9 (dgt u) (48 + (u : Int) % 10) (dgt_toNat u).symm W
    go_enter Tryd.func56, Tryd.ntmps56
    go_wp2
    go_loopw [0, 4] (fun v s wr => ∃ (m : Nat) (out : Tx), m ≤ u ∧ v = .int .i64 m ∧ s = sv out ∧ Lib.decDigits u = (if m < 10 then [] else Lib.decDigits (m / 10)) ++ out ∧ out.length + m ≤ u + 1 ∧ Below w.heap.size w wr) (fun v _ _ => (intOf v).toNat)
    case atStart => exact ⟨u, [dgt u], Nat.le_refl _, rfl, rfl, dgt_dec u, by simp; omega, (Below.refl _ _).alloc (Nat.le_refl _) _⟩
    case round =>
      obtain ⟨m, out, hm, rfl, rfl, hd, hlen, hb⟩ := hrel
      have HB := Lib.hid hb
      have HD := Lib.hid hd
      clear hb hd hcv
      by_cases hlt : 9 < m
      · have hcv := fun W => one_byte (P := Tryd.prog) Tryd.underlying22 Tryd.underlying5 Tryd.underlying9 (dgt (m / 10)) (48 + ((m / 10 : Nat) : Int) % 10) (dgt_toNat (m / 10)).symm W
        have hdiv : (m : Int) / 10 = ((m / 10 : Nat) : Int) := by omega
        have hq : m / 10 ≤ 999999 := by omega
        have HDV : Hid (Lib.decDigits u = (if m / 10 < 10 then [] else Lib.decDigits (m / 10 / 10)) ++ dgt (m / 10) :: out) := by
          show _ = _
          rw [HD.out, if_neg (by omega), dgt_dec (m / 10)]
          simp
        have hmq : m / 10 + 1 ≤ m := by omega
        generalize m / 10 = q at *
        go_wp2
        go_roundw
        case rel => exact ⟨q, dgt q :: out, by omega, by go_num, rfl, HDV.out, by simp; omega, HB.out.alloc HB.out.size _⟩
        case measure => simp [intOf]; omega
      · have HDV : Hid (Lib.decDigits u = out) := by
          show _ = _
          rw [HD.out, if_pos (by omega)]; rfl
        go_wp2
        go_ret
        exact ⟨by rw [HIT.out, HDV.out]; rfl, HB.out⟩
set_option maxRecDepth 100000 in
set_option maxHeartbeats 2000000 in
theorem spec_l26Quote (t : Tx) (ht : t.length ≤ 1048577) (w : World) :
    Calls Tryd.prog 57 #[.string ⟨t.toArray⟩] w fun e w' => e = .returned (sv (quote t)) ∧ w = w' := by
  have HQ : Hid (quote t = 34 :: (escq t ++ [34])) := rfl
  go_enter Tryd.func57, Tryd.ntmps57
  go_wp2
  go_loop [3, 4] (fun s i => ∃ (k : Nat), k ≤ t.length ∧ i = .int .i64 k ∧ s = sv (34 :: escq (t.take k))) (fun _ i => t.length - (intOf i).toNat)
  case atStart => exact ⟨0, Nat.zero_le _, rfl, rfl⟩
  case round =>
    obtain ⟨k, hk, rfl, rfl⟩ := hrel
    by_cases hlt : k < t.length
    · have hl := escq_len (t.take k)
      rw [List.length_take] at hl
      have hl2 : (escq (t.take k)).length ≤ 2 * 1048577 := by omega
      have HS := Lib.hid (escq_succ t k hlt)
      have HSB : Hid ((t.take (k + 1)).drop k = [t[k]]) := by show _ = _; rw [List.drop_take, drop_cons t k hlt, show k + 1 - k = 1 by omega]; rfl
      clear hl
      generalize hkk : t[k] = b at *
      have hgk : ∀ h, t[k]'h = b := fun _ => hkk
      generalize escq (t.take k) = q at *
      cases h1 : (b == 34)
      · cases h2 : (b == 92)
        · have HS2 : Hid (escq (t.take (k + 1)) = q ++ [b]) := by show _ = _; rw [HS.out, h1, h2]; rfl
          have m1 : ((b.toNat : Int) == 34) = false := byte_ne h1
          have m2 : ((b.toNat : Int) == 92) = false := byte_ne h2
          clear HS hkk h1 h2
          go_wp2
          go_round
          case rel => exact ⟨k + 1, by omega, by go_num, by rw [HS2.out]; first | rfl | simp [HSB.out]⟩
          case measure => simp [intOf]; omega
        · have HS2 : Hid (escq (t.take (k + 1)) = q ++ [92, b]) := by show _ = _; rw [HS.out, h1, h2]; rfl
          have m1 : ((b.toNat : Int) == 34) = false := byte_ne h1
          have m2 : ((b.toNat : Int) == 92) = true := byte_eq h2
          clear HS hkk h1 h2
          go_wp2
          go_round
          case rel => exact ⟨k + 1, by omega, by go_num, by rw [HS2.out]; first | rfl | simp [HSB.out]⟩
          case measure => simp [intOf]; omega
      · have HS2 : Hid (escq (t.take (k + 1)) = q ++ [92, b]) := by show _ = _; rw [HS.out, h1]; rfl
        have m1 : ((b.toNat : Int) == 34) = true := byte_eq h1
        clear HS hkk h1
        go_wp2
        go_round
        case rel => exact ⟨k + 1, by omega, by go_num, by rw [HS2.out]; first | rfl | simp [HSB.out]⟩
        case measure => simp [intOf]; omega
    · have hkt : t.take k = t := List.take_of_length_le (by omega)
      have hl := escq_len t
      rw [hkt]
      generalize escq t = q at *
      clear hkt
      go_wp2
      go_ret
      exact ⟨by rw [HQ.out]; exact ret_str (by simp), rfl⟩
end Go.Proofs.YtdmmnjnbjigdeaaDoor
