/- Spaces at the ends of a text: the plain functions. -/
import Derived.Test.YtaofgcdpmeeimaaDoorPlain
namespace Go.Proofs.YtaofgcdpmeeimaaDoor

def ltrim (l : Tx) : Tx := l.dropWhile (· == 32)
def rtrim (l : Tx) : Tx := (l.reverse.dropWhile (· == 32)).reverse
/-- without the spaces at its ends -/
def trimSp (l : Tx) : Tx := ltrim (rtrim l)

theorem ltrim_space (t : Tx) : ltrim (32 :: t) = ltrim t := by simp [ltrim]
theorem ltrim_other {c : UInt8} {t : Tx} (h : (c == 32) = false) : ltrim (c :: t) = c :: t := by simp [ltrim, h]
theorem rtrim_cons (c : UInt8) (t : Tx) : rtrim (c :: t) = if rtrim t = [] then (if c == 32 then [] else [c]) else c :: rtrim t := by
  unfold rtrim
  rw [List.reverse_cons, List.dropWhile_append]
  cases h : t.reverse.dropWhile (· == 32) with
  | nil =>
    simp only [List.isEmpty_nil, if_true, List.reverse_nil]
    cases hc : (c == 32) <;> simp [hc]
  | cons x r => simp
theorem rtrim_snoc (l : Tx) : rtrim (l ++ [32]) = rtrim l := by simp [rtrim]
theorem rtrim_keep {l : Tx} {c : UInt8} (h : (c == 32) = false) : rtrim (l ++ [c]) = l ++ [c] := by
  simp [rtrim, h]
theorem trim_comm : ∀ l : Tx, rtrim (ltrim l) = ltrim (rtrim l)
  | [] => rfl
  | c :: t => by
    have ih := trim_comm t
    rw [rtrim_cons]
    cases hc : (c == 32)
    · rw [ltrim_other hc, rtrim_cons]
      split
      · simp only [hc, Bool.false_eq_true, if_false]; rw [ltrim_other hc]
      · rw [ltrim_other hc]
    · have hc' : c = 32 := by simpa using hc
      subst hc'
      rw [ltrim_space, ih]
      split
      · rename_i h; rw [h]; simp
      · rw [ltrim_space]
theorem rtrim_take {l : Tx} (h : 0 < l.length) (hc : (l[l.length - 1] == 32) = true) : rtrim (l.take (l.length - 1)) = rtrim l := by
  have e : l = l.take (l.length - 1) ++ [l[l.length - 1]] := by
    rw [← take_snoc l (l.length - 1) (by omega), Nat.sub_add_cancel h, List.take_length]
  have hc' : l[l.length - 1] = 32 := by simpa using hc
  rw [hc'] at e
  conv => rhs; rw [e]
  rw [rtrim_snoc]
theorem rtrim_end {l : Tx} (h : 0 < l.length) (hc : (l[l.length - 1] == 32) = false) : rtrim l = l := by
  have e : l = l.take (l.length - 1) ++ [l[l.length - 1]] := by
    rw [← take_snoc l (l.length - 1) (by omega), Nat.sub_add_cancel h, List.take_length]
  have := rtrim_keep (l := l.take (l.length - 1)) hc
  rw [← e] at this
  exact this
theorem rtrim_nil : rtrim [] = [] := rfl
theorem ltrim_nil : ltrim [] = [] := rfl
theorem ltrim_drop {l : Tx} (h : 0 < l.length) (hc : (l[0] == 32) = true) : ltrim (l.drop 1) = ltrim l := by
  cases l with
  | nil => simp at h
  | cons c t =>
    have hc' : c = 32 := by simpa using hc
    subst hc'
    rw [ltrim_space]; rfl
theorem ltrim_end {l : Tx} (h : 0 < l.length) (hc : (l[0] == 32) = false) : ltrim l = l := by
  cases l with
  | nil => simp at h
  | cons c t => exact ltrim_other (by simpa using hc)
theorem ltrim_len (l : Tx) : (ltrim l).length ≤ l.length := by
  unfold ltrim; exact (List.dropWhile_sublist _).length_le
theorem rtrim_len (l : Tx) : (rtrim l).length ≤ l.length := by
  unfold rtrim
  rw [List.length_reverse]
  refine Nat.le_trans (List.dropWhile_sublist _).length_le ?_
  simp
theorem trimSp_len (l : Tx) : (trimSp l).length ≤ l.length := Nat.le_trans (ltrim_len _) (rtrim_len _)
end Go.Proofs.YtaofgcdpmeeimaaDoor
