/- Pairs of texts: their conversion, their size, and strings.CutSuffix: walks. -/
import Derived.Test.YtaipignkkbknfaaDoorText
namespace Go.Proofs.YtaipignkkbknfaaDoor
open Go.RowKit

def endsWith (l t : Tx) : Bool := decide (t.length ≤ l.length) && (l.drop (l.length - t.length) == t)

set_option maxHeartbeats 400000 in
theorem laws_szPair (a b : Tx) (left : Int) (ha : a.length ≤ maxLen) (hb : b.length ≤ maxLen) (h0 : 0 ≤ left) (h1 : left ≤ 1048576) (w : World) :
    Calls Tryd.prog 41 #[.agg #[.string ⟨a.toArray⟩, .string ⟨b.toArray⟩], .int .i64 left] w fun e w' =>
      e = .returned (.int .i64 (if left < a.length + b.length then -1 else left - a.length - b.length)) ∧ Below w.heap.size w w' := by
  unfold maxLen at ha hb
  go_enter Tryd.func41, Tryd.ntmps41
  go_wp2
  all_goals (go_ret; exact ⟨rfl, by go_grown⟩)
theorem laws_szPair_over (a b : Tx) (left : Int) (ha : a.length ≤ maxLen) (hb : b.length ≤ maxLen) (h0 : 0 ≤ left) (h1 : left ≤ 1048576) (h2 : left < a.length + b.length) (w : World) :
    Calls Tryd.prog 41 #[.agg #[.string ⟨a.toArray⟩, .string ⟨b.toArray⟩], .int .i64 left] w fun e w' => e = .returned (.int .i64 (-1)) ∧ Below w.heap.size w w' := by
  have h := laws_szPair a b left ha hb h0 h1 w
  rwa [if_pos h2] at h
theorem laws_szPair_fits (a b : Tx) (left : Int) (ha : a.length ≤ maxLen) (hb : b.length ≤ maxLen) (h0 : 0 ≤ left) (h1 : left ≤ 1048576) (h2 : a.length + b.length ≤ left) (w : World) :
    Calls Tryd.prog 41 #[.agg #[.string ⟨a.toArray⟩, .string ⟨b.toArray⟩], .int .i64 left] w fun e w' => e = .returned (.int .i64 (left - a.length - b.length)) ∧ Below w.heap.size w w' := by
  have h := laws_szPair a b left ha hb h0 h1 w
  rwa [if_neg (by omega)] at h

set_option maxHeartbeats 400000 in
theorem laws_toPair (a b : Tx) (w : World) :
    Calls Tryd.prog 42 #[.agg #[.string ⟨a.toArray⟩, .string ⟨b.toArray⟩]] w fun e w' =>
      e = .returned (.agg #[.string ⟨a.toArray⟩, .string ⟨b.toArray⟩]) ∧ Below w.heap.size w w' := by
  go_enter Tryd.func42, Tryd.ntmps42
  go_wp2
  go_returns
  exact ⟨rfl, by go_grown⟩




end Go.Proofs.YtaipignkkbknfaaDoor
