/- Pairs of texts: their conversion, their size, and strings.CutSuffix: walks. -/
import Derived.Test.YtaipignkkbknfaaText
namespace Go.Proofs.Ytaipignkkbknfaa
open Go.RowKit

def endsWith (l t : Tx) : Bool := decide (t.length ≤ l.length) && (l.drop (l.length - t.length) == t)

set_option maxHeartbeats 400000 in
theorem laws_szPair (a b : Tx) (left : Int) (ha : a.length ≤ maxLen) (hb : b.length ≤ maxLen) (h0 : 0 ≤ left) (h1 : left ≤ 1048576) (w : World) :
    Calls Try.prog 32 #[.agg #[.string ⟨a.toArray⟩, .string ⟨b.toArray⟩], .int .i64 left] w fun e w' =>
      e = .returned (.int .i64 (if left < a.length + b.length then -1 else left - a.length - b.length)) ∧ Below w.heap.size w w' := by
  unfold maxLen at ha hb
  go_enter Try.func32, Try.ntmps32
  go_wp2
  all_goals (go_ret; exact ⟨rfl, by go_grown⟩)
theorem laws_szPair_over (a b : Tx) (left : Int) (ha : a.length ≤ maxLen) (hb : b.length ≤ maxLen) (h0 : 0 ≤ left) (h1 : left ≤ 1048576) (h2 : left < a.length + b.length) (w : World) :
    Calls Try.prog 32 #[.agg #[.string ⟨a.toArray⟩, .string ⟨b.toArray⟩], .int .i64 left] w fun e w' => e = .returned (.int .i64 (-1)) ∧ Below w.heap.size w w' := by
  have h := laws_szPair a b left ha hb h0 h1 w
  rwa [if_pos h2] at h
theorem laws_szPair_fits (a b : Tx) (left : Int) (ha : a.length ≤ maxLen) (hb : b.length ≤ maxLen) (h0 : 0 ≤ left) (h1 : left ≤ 1048576) (h2 : a.length + b.length ≤ left) (w : World) :
    Calls Try.prog 32 #[.agg #[.string ⟨a.toArray⟩, .string ⟨b.toArray⟩], .int .i64 left] w fun e w' => e = .returned (.int .i64 (left - a.length - b.length)) ∧ Below w.heap.size w w' := by
  have h := laws_szPair a b left ha hb h0 h1 w
  rwa [if_neg (by omega)] at h

set_option maxHeartbeats 400000 in
theorem laws_toPair (a b : Tx) (w : World) :
    Calls Try.prog 34 #[.agg #[.string ⟨a.toArray⟩, .string ⟨b.toArray⟩]] w fun e w' =>
      e = .returned (.agg #[.string ⟨a.toArray⟩, .string ⟨b.toArray⟩]) ∧ Below w.heap.size w w' := by
  go_enter Try.func34, Try.ntmps34
  go_wp2
  go_returns
  exact ⟨rfl, by go_grown⟩

set_option maxHeartbeats 400000 in
theorem sl_HasSuffix (l t : Tx) (hl : l.length ≤ maxLen) (ht : t.length ≤ maxLen) (w : World) :
    Calls Try.prog 63 #[.string ⟨l.toArray⟩, .string ⟨t.toArray⟩] w fun e w' =>
      e = .returned (.bool (endsWith l t)) ∧ w = w' := by
  unfold maxLen at hl ht
  go_enter Try.func63, Try.ntmps63
  go_wp2
  all_goals (go_ret; refine ⟨ret_bool ?_, rfl⟩; simp_all [endsWith]; try (intros; omega))

set_option maxHeartbeats 400000 in
theorem sl_CutSuffix (l t : Tx) (hl : l.length ≤ maxLen) (ht : t.length ≤ maxLen) (w : World) :
    Calls Try.prog 60 #[.string ⟨l.toArray⟩, .string ⟨t.toArray⟩] w fun e w' =>
      e = .returned (.tuple #[.string ⟨(if endsWith l t then l.take (l.length - t.length) else l).toArray⟩, .bool (endsWith l t)]) ∧ w = w' := by
  have HS := Lib.hid (fun w => sl_HasSuffix l t hl ht w)
  have hle : endsWith l t = true → t.length ≤ l.length := by intro h; simp [endsWith] at h; exact h.1
  unfold maxLen at hl ht
  cases hE : endsWith l t
  · have HE := Lib.hid hE
    clear hle
    simp only [Bool.false_eq_true, if_false]
    go_enter Try.func60, Try.ntmps60
    go_wp2_with (go_at_call 63; refine (HS.out _).mono ?_; rintro e w' ⟨rfl, rfl⟩; rw [HE.out])
    go_ret2
    exact ⟨rfl, rfl⟩
  · have HE := Lib.hid hE
    have hle' := hle hE
    clear hle hE
    simp only [if_true]
    go_enter Try.func60, Try.ntmps60
    go_wp2_with (go_at_call 63; refine (HS.out _).mono ?_; rintro e w' ⟨rfl, rfl⟩; rw [HE.out])
    go_ret2
    exact ⟨rfl, rfl⟩

set_option maxHeartbeats 400000 in
theorem strings_CutSuffix (l t : Tx) (hl : l.length ≤ maxLen) (ht : t.length ≤ maxLen) (w : World) :
    Calls Try.prog 53 #[.string ⟨l.toArray⟩, .string ⟨t.toArray⟩] w fun e w' =>
      e = .returned (.tuple #[.string ⟨(if endsWith l t then l.take (l.length - t.length) else l).toArray⟩, .bool (endsWith l t)]) ∧ w = w' := by
  have HS := Lib.hid (fun w => sl_CutSuffix l t hl ht w)
  generalize (if endsWith l t then l.take (l.length - t.length) else l) = r at *
  clear hl ht
  go_enter Try.func53, Try.ntmps53
  go_wp2_with (go_at_call 60; refine (HS.out _).mono ?_; rintro e w' ⟨rfl, rfl⟩)
  go_ret2
  exact ⟨rfl, rfl⟩

end Go.Proofs.Ytaipignkkbknfaa
