/- sameCookies of the laws: a walk. -/
import Derived.Test.YtlafdpndpjcklaaCookieS
import Derived.Deep.QuietTactic
import Derived.BigQuiet
namespace Go.Proofs.Ytlafdpndpjcklaa
open Go.RowKit

set_option maxRecDepth 100000 in
set_option maxHeartbeats 1000000 in
theorem laws_sameCookies (ps qs : List Ck) (A A' : Option Addr) (c c' : Nat) (w : World) (hp : Rd w w.heap.size A (ccells ps)) (hq : Rd w w.heap.size A' (ccells qs)) (hn : ps.length ≤ maxLen) :
    Calls Try.prog 7 #[.slice A ps.length c, .slice A' qs.length c'] w fun e w' => e = .returned (.bool (ps == qs)) ∧ Below w.heap.size w w' := by
  unfold maxLen at hn
  by_cases hl : ps.length = qs.length
  · have hb0 : ((ps.length : Int) != (qs.length : Int)) = false := by simp [hl]
    have HL := Lib.hid hl
    clear hl
    go_enter Try.func7, Try.ntmps7
    go_wp2
    go_loopw [5] (fun i wr => ∃ (k : Nat), k ≤ ps.length ∧ i = .int .i64 k ∧ (ps.drop k == qs.drop k) = (ps == qs) ∧ Below w.heap.size w wr) (fun i _ => ps.length - (intOf i).toNat)
    case atStart => exact ⟨0, Nat.zero_le _, rfl, rfl, Below.refl _ _⟩
    case round =>
      obtain ⟨k, hk, rfl, heq, hb⟩ := hrel
      have HB := Lib.hid hb
      by_cases hlt : k < ps.length
      · have hlq : k < qs.length := by have := HL.out; omega
        obtain ⟨b, o, rfl, hab, hc0, hc1, hc2⟩ := (hp.below hb).cookie hlt
        obtain ⟨b', o', rfl, hab', hc0', hc1', hc2'⟩ := (hq.below hb).cookie hlq
        have HQ : Hid ((ps[k].1 == qs[k].1 && (ps[k].2.1 == qs[k].2.1 && ps[k].2.2 == qs[k].2.2) && (ps.drop (k + 1) == qs.drop (k + 1))) = (ps == qs)) := by
          show _ = _
          rw [← heq, drop_cons ps k hlt, drop_cons qs k hlq, List.cons_beq_cons]; rfl
        clear hb heq
        generalize ps[k].1 = a0 at *
        generalize ps[k].2.1 = a1 at *
        generalize ps[k].2.2 = a2 at *
        generalize qs[k].1 = b0 at *
        generalize qs[k].2.1 = b1 at *
        generalize qs[k].2.2 = b2 at *
        cases h1 : (a0 == b0) <;> cases h2 : (a1 == b1) <;> cases h3 : (a2 == b2)
        all_goals
          have H1 := Lib.hid h1
          have H2 := Lib.hid h2
          have H3 := Lib.hid h3
          go_wp2_with fail
          go_quiet (fail)
          go_wp2
        all_goals first
          | (go_ret; refine ⟨ret_bool ?_, below_drewN HB.out _⟩; rw [← HQ.out, H1.out, H2.out, H3.out]; rfl)
          | (go_roundw; (case rel => exact ⟨k + 1, by omega, by go_num, by rw [← HQ.out, H1.out, H2.out, H3.out]; rfl, below_drewN HB.out _⟩); (case measure => simp [intOf]; omega))
      · go_wp2
        go_ret
        refine ⟨ret_bool ?_, hb⟩
        rw [← heq, drop_nil ps k (by omega), drop_nil qs k (by have := HL.out; omega)]
        rfl
  · have hb0 : ((ps.length : Int) != (qs.length : Int)) = true := by simp; omega
    have HL : Hid ((ps == qs) = false) := by show _ = _; simp; intro h; exact hl (by rw [h])
    clear hl
    go_enter Try.func7, Try.ntmps7
    go_wp2
    go_ret
    exact ⟨ret_bool HL.out.symm, Below.refl _ _⟩
end Go.Proofs.Ytlafdpndpjcklaa
