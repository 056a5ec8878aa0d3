/- sameTexts of the laws: a walk. -/
import Derived.Test.YtginghjgfippiaaStrS
namespace Go.Proofs.Ytginghjgfippiaa
open Go.RowKit

set_option maxRecDepth 100000 in
set_option maxHeartbeats 1000000 in
theorem laws_sameTexts (ps qs : List Tx) (A A' : Option Addr) (c c' : Nat) (w : World) (hp : Rd w w.heap.size A (scells ps)) (hq : Rd w w.heap.size A' (scells qs)) (hn : ps.length ≤ maxLen) :
    Calls Try.prog 8 #[.slice A ps.length c, .slice A' qs.length c'] w fun e w' => e = .returned (.bool (ps == qs)) ∧ Below w.heap.size w w' := by
  unfold maxLen at hn
  by_cases hl : ps.length = qs.length
  · have hb0 : ((ps.length : Int) != (qs.length : Int)) = false := by simp [hl]
    have HL := Lib.hid hl
    clear hl
    go_enter Try.func8, Try.ntmps8
    go_wp2
    go_loopw [5] (fun i wr => ∃ (k : Nat), k ≤ ps.length ∧ i = .int .i64 k ∧ (ps.drop k == qs.drop k) = (ps == qs) ∧ Below w.heap.size w wr) (fun i _ => ps.length - (intOf i).toNat)
    case atStart => exact ⟨0, Nat.zero_le _, rfl, rfl, Below.refl _ _⟩
    case round =>
      obtain ⟨k, hk, rfl, heq, hb⟩ := hrel
      have HB := Lib.hid hb
      by_cases hlt : k < ps.length
      · have hlq : k < qs.length := by have := HL.out; omega
        obtain ⟨b, o, rfl, hab, hc0⟩ := (hp.below hb).str hlt
        obtain ⟨b', o', rfl, hab', hc0'⟩ := (hq.below hb).str hlq
        have HQ : Hid ((ps[k] == qs[k] && (ps.drop (k + 1) == qs.drop (k + 1))) = (ps == qs)) := by
          show _ = _
          rw [← heq, drop_cons ps k hlt, drop_cons qs k hlq, List.cons_beq_cons]
        clear hb heq
        generalize ps[k] = a0 at *
        generalize qs[k] = b0 at *
        cases h1 : (a0 == b0)
        all_goals
          have h1n : (a0 != b0) = !(a0 == b0) := rfl
          rw [h1] at h1n
          have H1 := Lib.hid h1
          go_wp2_with fail
          go_quiet (fail)
          go_wp2
        all_goals first
          | (go_ret; refine ⟨ret_bool ?_, below_drewN HB.out _⟩; rw [← HQ.out, H1.out]; rfl)
          | (go_roundw; (case rel => exact ⟨k + 1, by omega, by go_num, by rw [← HQ.out, H1.out]; rfl, below_drewN HB.out _⟩); (case measure => simp [intOf]; omega))
      · go_wp2
        go_ret
        refine ⟨ret_bool ?_, hb⟩
        rw [← heq, drop_nil ps k (by omega), drop_nil qs k (by have := HL.out; omega)]
        rfl
  · have hb0 : ((ps.length : Int) != (qs.length : Int)) = true := by simp; omega
    have HL : Hid ((ps == qs) = false) := by show _ = _; simp; intro h; exact hl (by rw [h])
    clear hl
    go_enter Try.func8, Try.ntmps8
    go_wp2
    go_ret
    exact ⟨ret_bool HL.out.symm, Below.refl _ _⟩
end Go.Proofs.Ytginghjgfippiaa
