/- Equality of pairs and of slices of pairs; marks: walks. -/
import Derived.Test.YtmijnkiopmpjdaaDoorPairS
import Derived.StillTailTactics
namespace Go.Proofs.YtmijnkiopmpjdaaDoor
open Go.RowKit

set_option maxRecDepth 100000 in
set_option maxHeartbeats 400000 in
theorem laws_eqPair (a b c d : Tx) (w : World) :
    Calls Tryd.prog 48 #[.agg #[.string ⟨a.toArray⟩, .string ⟨b.toArray⟩], .agg #[.string ⟨c.toArray⟩, .string ⟨d.toArray⟩]] w fun e w' => e = .returned (.bool (a == c && b == d)) ∧ Below w.heap.size w w' := by
  cases h1 : (a == c)
  · go_enter Tryd.func48, Tryd.ntmps48
    go_wp2
    go_ret
    exact ⟨ret_bool (by simp), by go_grown⟩
  · cases h2 : (b == d)
    · go_enter Tryd.func48, Tryd.ntmps48
      go_wp2
      go_ret
      exact ⟨ret_bool (by simp), by go_grown⟩
    · go_enter Tryd.func48, Tryd.ntmps48
      go_wp2
      go_ret
      exact ⟨ret_bool (by simp), by go_grown⟩

set_option maxRecDepth 100000 in
set_option maxHeartbeats 1000000 in
theorem laws_eqPairS (ps qs : List Pr) (A A' : Option Addr) (c c' : Nat) (w : World) (hp : Rd w w.heap.size A (pcells ps)) (hq : Rd w w.heap.size A' (pcells qs)) (hn : ps.length ≤ maxLen) :
    Calls Tryd.prog 15 #[.slice A ps.length c, .slice A' qs.length c'] w fun e w' => e = .returned (.bool (ps == qs)) ∧ Below w.heap.size w w' := by
  unfold maxLen at hn
  by_cases hl : ps.length = qs.length
  · have hb0 : ((ps.length : Int) != (qs.length : Int)) = false := by simp [hl]
    have HL := Lib.hid hl
    clear hl
    go_enter Tryd.func15, Tryd.ntmps15
    go_wp2
    go_loopw [5] (fun i wr => ∃ (k : Nat), k ≤ ps.length ∧ i = .int .i64 k ∧ (ps.drop k == qs.drop k) = (ps == qs) ∧ Below w.heap.size w wr) (fun i _ => ps.length - (intOf i).toNat)
    case atStart => exact ⟨0, Nat.zero_le _, rfl, rfl, Below.refl _ _⟩
    case round =>
      obtain ⟨k, hk, rfl, heq, hb⟩ := hrel
      have HB := Lib.hid hb
      by_cases hlt : k < ps.length
      · have hlq : k < qs.length := by have := HL.out; omega
        obtain ⟨b, o, rfl, hab, hc0, hc1⟩ := (hp.below hb).pair hlt
        obtain ⟨b', o', rfl, hab', hc0', hc1'⟩ := (hq.below hb).pair hlq
        have HQ : Hid ((ps[k].1 == qs[k].1 && ps[k].2 == qs[k].2 && (ps.drop (k + 1) == qs.drop (k + 1))) = (ps == qs)) := by
          show _ = _
          rw [← heq, drop_cons ps k hlt, drop_cons qs k hlq, List.cons_beq_cons]; rfl
        clear hb heq
        go_wp2
        go_still_tail 8, (by kernel_rfl)
        change wpList _ _ _ _ _ wr.drew
        go_wp2_with fail
        refine (laws_eqPair ps[k].1 ps[k].2 qs[k].1 qs[k].2 _).mono ?_
        rintro e w1 ⟨rfl, hb1⟩
        have HB1 := Lib.hid hb1
        clear hb1 hc0 hc1 hc0' hc1'
        cases hE : (ps[k].1 == qs[k].1 && ps[k].2 == qs[k].2)
        · have HE := Lib.hid hE
          clear hE
          go_wp2
          go_ret
          refine ⟨ret_bool ?_, HB.out.drew.trans (HB1.out.mono HB.out.drew.size)⟩
          rw [← HQ.out, HE.out, Bool.false_and]
        · have HE := Lib.hid hE
          clear hE
          go_wp2
          go_roundw
          case rel =>
            refine ⟨k + 1, by omega, by go_num, ?_, HB.out.drew.trans (HB1.out.mono HB.out.drew.size)⟩
            rw [← HQ.out, HE.out, Bool.true_and]
          case measure => simp [intOf]; omega
      · go_wp2
        go_ret
        refine ⟨ret_bool ?_, hb⟩
        rw [← heq, drop_nil ps k (by omega), drop_nil qs k (by have := HL.out; omega)]
        rfl
  · have hb0 : ((ps.length : Int) != (qs.length : Int)) = true := by simp; omega
    have HL : Hid ((ps == qs) = false) := by show _ = _; simp; intro h; exact hl (by rw [h])
    clear hl
    go_enter Tryd.func15, Tryd.ntmps15
    go_wp2
    go_ret
    exact ⟨ret_bool HL.out.symm, Below.refl _ _⟩
end Go.Proofs.YtmijnkiopmpjdaaDoor
