/- Plain functions on texts that the walks' contracts name, and small laws of theirs. No program is in sight here. -/
import Derived.Test.YtginghjgfippiaaBase
namespace Go.Proofs.Ytginghjgfippiaa

/-! ### bytes -/
def isDig (c : UInt8) : Bool := decide (48 ≤ (c.toNat : Int)) && decide ((c.toNat : Int) ≤ 57)
def isLow (c : UInt8) : Bool := decide (97 ≤ (c.toNat : Int)) && decide ((c.toNat : Int) ≤ 122)
def isUp (c : UInt8) : Bool := decide (65 ≤ (c.toNat : Int)) && decide ((c.toNat : Int) ≤ 90)
def isPrn (c : UInt8) : Bool := decide (32 ≤ (c.toNat : Int)) && decide ((c.toNat : Int) ≤ 126)

/-! ### texts and names -/
def textOk (l : Tx) : Bool := decide (l.length ≤ 600) && l.all isPrn
def valOk (l : Tx) : Bool := decide (l.length ≤ 40) && textOk l
def nameByte (c : UInt8) : Bool := isLow c || isDig c || decide ((c.toNat : Int) = 45)
def nameOk (l : Tx) : Bool := decide (1 ≤ l.length) && decide (l.length ≤ 10) && (l.take 1).all isLow && l.all nameByte

theorem all_step {p : UInt8 → Bool} {l : Tx} {k : Nat} {r : Bool} (h : (l.drop k).all p = r) (hk : k < l.length) :
    (p l[k] && (l.drop (k + 1)).all p) = r := by rw [← h, drop_cons l k hk, List.all_cons]
theorem all_yes {p : UInt8 → Bool} {l : Tx} {k : Nat} {r : Bool} (h : (l.drop k).all p = r) (hk : k < l.length) (hp : p l[k] = true) :
    (l.drop (k + 1)).all p = r := by have := all_step h hk; rwa [hp, Bool.true_and] at this
theorem all_no {p : UInt8 → Bool} {l : Tx} {k : Nat} {r : Bool} (h : (l.drop k).all p = r) (hk : k < l.length) (hp : p l[k] = false) :
    false = r := by have := all_step h hk; rwa [hp, Bool.false_and] at this
theorem all_end {p : UInt8 → Bool} {l : Tx} {k : Nat} {r : Bool} (h : (l.drop k).all p = r) (hk : ¬ k < l.length) : true = r := by
  rw [drop_nil l k (by omega)] at h; exact h

theorem head_all {p : UInt8 → Bool} {l : Tx} (h : 0 < l.length) : (l.take 1).all p = p l[0] := by
  cases l with
  | nil => simp at h
  | cons c t => simp

theorem nameOk_mid {l : Tx} (h0 : 0 < l.length) (h1 : l.length ≤ 10) (hc : isLow l[0] = true) : nameOk l = l.all nameByte := by
  simp [nameOk, head_all h0, hc, h1]; omega
theorem nameOk_head {l : Tx} (h0 : 0 < l.length) (hc : isLow l[0] = true) : nameOk l = (decide (l.length ≤ 10) && l.all nameByte) := by
  have h1 : decide (1 ≤ l.length) = true := decide_eq_true h0
  rw [nameOk, head_all h0, hc, h1]; simp
theorem nameOk_low {l : Tx} (h0 : 0 < l.length) (hc : isLow l[0] = false) : nameOk l = false := by
  simp [nameOk, head_all h0, hc]

end Go.Proofs.Ytginghjgfippiaa
