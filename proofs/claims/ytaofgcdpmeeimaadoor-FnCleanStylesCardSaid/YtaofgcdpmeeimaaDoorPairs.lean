/- Pairs of texts: their conversion, their size, and strings.CutSuffix: walks. -/
import Derived.Test.YtaofgcdpmeeimaaDoorText
namespace Go.Proofs.YtaofgcdpmeeimaaDoor
open Go.RowKit

def endsWith (l t : Tx) : Bool := decide (t.length ≤ l.length) && (l.drop (l.length - t.length) == t)



set_option maxHeartbeats 400000 in
theorem sl_HasSuffix (l t : Tx) (hl : l.length ≤ maxLen) (ht : t.length ≤ maxLen) (w : World) :
    Calls Tryd.prog 117 #[.string ⟨l.toArray⟩, .string ⟨t.toArray⟩] w fun e w' =>
      e = .returned (.bool (endsWith l t)) ∧ w = w' := by
  unfold maxLen at hl ht
  go_enter Tryd.func117, Tryd.ntmps117
  go_wp2
  all_goals (go_ret; refine ⟨ret_bool ?_, rfl⟩; simp_all [endsWith]; try (intros; omega))

set_option maxHeartbeats 400000 in
theorem sl_CutSuffix (l t : Tx) (hl : l.length ≤ maxLen) (ht : t.length ≤ maxLen) (w : World) :
    Calls Tryd.prog 96 #[.string ⟨l.toArray⟩, .string ⟨t.toArray⟩] w fun e w' =>
      e = .returned (.tuple #[.string ⟨(if endsWith l t then l.take (l.length - t.length) else l).toArray⟩, .bool (endsWith l t)]) ∧ w = w' := by
  have HS := Lib.hid (fun w => sl_HasSuffix l t hl ht w)
  have hle : endsWith l t = true → t.length ≤ l.length := by intro h; simp [endsWith] at h; exact h.1
  unfold maxLen at hl ht
  cases hE : endsWith l t
  · have HE := Lib.hid hE
    clear hle
    simp only [Bool.false_eq_true, if_false]
    go_enter Tryd.func96, Tryd.ntmps96
    go_wp2_with (go_at_call 117; refine (HS.out _).mono ?_; rintro e w' ⟨rfl, rfl⟩; rw [HE.out])
    go_ret2
    exact ⟨rfl, rfl⟩
  · have HE := Lib.hid hE
    have hle' := hle hE
    clear hle hE
    simp only [if_true]
    go_enter Tryd.func96, Tryd.ntmps96
    go_wp2_with (go_at_call 117; refine (HS.out _).mono ?_; rintro e w' ⟨rfl, rfl⟩; rw [HE.out])
    go_ret2
    exact ⟨rfl, rfl⟩

set_option maxHeartbeats 400000 in
theorem strings_CutSuffix (l t : Tx) (hl : l.length ≤ maxLen) (ht : t.length ≤ maxLen) (w : World) :
    Calls Tryd.prog 63 #[.string ⟨l.toArray⟩, .string ⟨t.toArray⟩] w fun e w' =>
      e = .returned (.tuple #[.string ⟨(if endsWith l t then l.take (l.length - t.length) else l).toArray⟩, .bool (endsWith l t)]) ∧ w = w' := by
  have HS := Lib.hid (fun w => sl_CutSuffix l t hl ht w)
  generalize (if endsWith l t then l.take (l.length - t.length) else l) = r at *
  clear hl ht
  go_enter Tryd.func63, Tryd.ntmps63
  go_wp2_with (go_at_call 96; refine (HS.out _).mono ?_; rintro e w' ⟨rfl, rfl⟩)
  go_ret2
  exact ⟨rfl, rfl⟩

end Go.Proofs.YtaofgcdpmeeimaaDoor
