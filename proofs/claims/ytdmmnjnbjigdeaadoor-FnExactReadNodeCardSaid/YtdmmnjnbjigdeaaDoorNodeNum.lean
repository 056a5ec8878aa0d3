/- Where a number ends, step by step. No function of the program is walked here. -/
import Derived.Test.YtdmmnjnbjigdeaaDoorNodeRP
import Derived.Test.YtdmmnjnbjigdeaaDoorText
import Derived.Test.YtdmmnjnbjigdeaaDoorPlain
namespace Go.Proofs.YtdmmnjnbjigdeaaDoor
open Go.RowKit
/-- the end, when the first k bytes have been taken -/
def ne (s : Tx) (k : Nat) : Nat := if k = 0 then numEnd s else k + dgs (8 - k) (s.drop k)
theorem ne_zero (s : Tx) : ne s 0 = numEnd s := rfl
theorem ne_hit {s : Tx} {k : Nat} (hk : k < s.length) (h8 : k < 8) (h : (isD s[k] || (decide (k = 0) && s[k] == 45)) = true) : ne s k = ne s (k + 1) := by
  have hd := drop_cons s k hk
  unfold ne
  rw [if_neg (Nat.succ_ne_zero k)]
  by_cases h0 : k = 0
  · subst h0
    rw [if_pos rfl]
    rw [List.drop_zero] at hd
    have e : numEnd s = dgs 7 (s.drop 1) + 1 := by
      conv => lhs; rw [hd]
      rw [numEnd]
      have h2 : (isD s[0] || s[0] == 45) = true := by simpa using h
      rw [if_pos h2]
    rw [e]; show _ = 0 + 1 + dgs 7 (s.drop 1); omega
  · have h2 : isD s[k] = true := by simpa [h0] using h
    rw [if_neg h0, hd, show 8 - k = (8 - (k + 1)) + 1 by omega]
    simp only [dgs, h2, if_true]
    omega
theorem ne_miss {s : Tx} {k : Nat} (hk : k < s.length) (h8 : k < 8) (h : (isD s[k] || (decide (k = 0) && s[k] == 45)) = false) : ne s k = k := by
  have hd := drop_cons s k hk
  unfold ne
  by_cases h0 : k = 0
  · subst h0
    rw [if_pos rfl]
    rw [List.drop_zero] at hd
    conv => lhs; rw [hd]
    rw [numEnd]
    have h2 : (isD s[0] || s[0] == 45) = false := by simpa using h
    rw [if_neg (by rw [h2]; decide)]
  · have h2 : isD s[k] = false := by simpa [h0] using h
    rw [if_neg h0, hd, show 8 - k = (8 - (k + 1)) + 1 by omega]
    simp [dgs, h2]
theorem ne_end {s : Tx} {k : Nat} (hne : s ≠ []) (h : s.length ≤ k ∨ 8 ≤ k) : ne s k = k := by
  unfold ne
  have hpos : 0 < s.length := List.length_pos_iff.2 hne
  rw [if_neg (by omega)]
  rcases h with h | h
  · rw [List.drop_eq_nil_of_le h]
    cases 8 - k <;> simp [dgs]
  · rw [show 8 - k = 0 by omega]
    simp [dgs]
theorem isD_dig (c : UInt8) : isD c = isDig c := by
  unfold isD isDig
  congr 1 <;> (rw [decide_eq_decide]; omega)
end Go.Proofs.YtdmmnjnbjigdeaaDoor
