import Derived.Test.YtmboieajfdkllaaGreatU32
import Derived.Test.YtmboieajfdkllaaGreatU01
import Derived.Test.YtmboieajfdkllaaGreatU02
import Derived.Test.YtmboieajfdkllaaGreatU03
namespace Go.Proofs.YtmboieajfdkllaaGreat
open Go.RowKit
namespace Dk
theorem ifOk_valid {d y : Dk} (h : valid d = true) : valid (ifOk d y).1 = true := by
 unfold ifOk
 split
 ·assumption
 exact h
theorem say_valid {d : Dk} (h : valid d = true) (s : Tx) : valid (say d s).1 = true := by
 unfold say
 split
 ·exact h
 split
 ·exact h
 split
 ·exact h
 split
 ·exact h
 split
 ·split
  ·exact h
  next L hL =>
  have h1 := (Pt.readT_iff.1 hL).1
  unfold valid at h ⊢
  rw [Bool.and_eq_true] at h
  show (Pt.valid L && Fd.valid d.data) = true
  rw [h1, h.2]
  rfl
 split
 ·exact ifOk_valid h
 split
 ·exact ifOk_valid h
 split
 ·exact ifOk_valid h
 exact h
theorem zero_size : size zero = 0 := by simp [zero, size, Pt.sizes, Fd.sizes]
theorem zero_valid : valid zero = true := by decide
theorem line_valid (d : Dk) (s : Tx) : valid (line d s).1 = true := by
 unfold line
 split
 ·next h => exact say_valid h s
 exact zero_valid
theorem line_size (d : Dk) (s : Tx) : size (line d s).1 <= 26000 := valid_size (line_valid d s)
theorem fits_of : ∀ {xs : List Pt}, Pt.sizes xs <= 1048576 -> Pt.Fits xs
 | [], _ => by simp [Pt.Fits]
 | x :: t, h => by
  simp only [Pt.sizes] at h
  simp only [Pt.Fits]
  exact ⟨Pt.fit_size x (by omega), fits_of (by omega)⟩
theorem fit_of {d : Dk} (h : size d <= 1048576) : Fit d := by
 unfold size at h
 exact ⟨fits_of (by omega), by unfold maxLen; omega, fun x hx => Fd.fit_size (by have := Fd.size_mem hx; omega), by unfold maxLen; omega⟩
theorem orE_ne (t : Tx) : orE t ≠ [] := by
 unfold orE
 split
 ·simp
 assumption
theorem fname_ne (n : Int) : jv n ≠ [] := by
 unfold jv
 split
 ·simp
 split
 ·simp
 split
 ·simp
 split
 ·simp
 split <;> simp
theorem ifOk_ans (d y : Dk) : (ifOk d y).2 = okW \/ (ifOk d y) = (d, noW) := by
 unfold ifOk
 split
 ·exact .inl rfl
 exact .inr rfl
theorem say_ne (d : Dk) (s : Tx) : (say d s).2 ≠ [] := by
 have hk : ∀ y, (ifOk d y).2 ≠ [] := fun y => by
  rcases ifOk_ans d y with e | e
  ·rw [e]; simp [okW]
  rw [e]; simp [noW]
 unfold say
 split
 ·show (if _ then _ else _) ≠ []
  split
  ·exact orE_ne _
  simp [noW]
 split
 ·exact orE_ne _
 split
 ·exact fname_ne _
 split
 ·simp [whatW]
 split
 ·split
  ·simp [noW]
  simp [okW]
 split
 ·exact hk _
 split
 ·exact hk _
 split
 ·exact hk _
 simp [whatW]
theorem say_same (d : Dk) (s : Tx) (h : s = fillW \/ s = plainW \/ s = checkW \/ (say d s).2 = noW \/ (say d s).2 = whatW) : (say d s).1 = d := by
 have hk : ∀ y, ((ifOk d y).2 = noW \/ (ifOk d y).2 = whatW) -> (ifOk d y).1 = d := fun y hh => by
  rcases ifOk_ans d y with e | e
  ·rw [e] at hh
   rcases hh with hh | hh <;> exact absurd hh (by decide)
  rw [e]
 by_cases h1 : s = fillW
 ·unfold say; rw [if_pos h1]
 by_cases h2 : s = plainW
 ·unfold say; rw [if_neg h1, if_pos h2]
 by_cases h3 : s = checkW
 ·unfold say; rw [if_neg h1, if_neg h2, if_pos h3]
 replace h : (say d s).2 = noW \/ (say d s).2 = whatW := by
  rcases h with h | h | h | h
  ·exact absurd h h1
  ·exact absurd h h2
  ·exact absurd h h3
  exact h
 revert h
 unfold say
 rw [if_neg h1, if_neg h2, if_neg h3]
 split
 ·exact fun _ => rfl
 split
 ·split
  ·exact fun _ => rfl
  intro h
  rcases h with h | h
  ·exact absurd (show okW = noW from h) (by decide)
  exact absurd (show okW = whatW from h) (by decide)
 split
 ·exact hk _
 split
 ·exact hk _
 split
 ·exact hk _
 exact fun _ => rfl
def nothing : Tx := [110, 111, 116, 104, 105, 110, 103]
theorem say_nothing (d : Dk) : say d nothing = (d, whatW) := by
 unfold say
 rw [if_neg (by decide), if_neg (by decide), if_neg (by decide), if_pos (by decide)]
def run (d : Dk) : List Tx -> Dk × List Tx
 | [] => (d, [])
 | s :: r => ((run (line d s).1 r).1, (line d s).2 :: (run (line d s).1 r).2)
theorem run_append (d : Dk) : ∀ (a b : List Tx), run d (a ++ b) = ((run (run d a).1 b).1, (run d a).2 ++ (run (run d a).1 b).2) := by
 intro a
 induction a generalizing d with
 | nil => intro b; simp [run]
 | cons s r ih => intro b; simp only [List.cons_append, run, ih]
theorem run_len (d : Dk) : ∀ a : List Tx, (run d a).2.length = a.length := by
 intro a
 induction a generalizing d with
 | nil => rfl
 | cons s r ih => simp [run, ih]
theorem run_valid {d : Dk} (h : valid d = true) : ∀ a : List Tx, valid (run d a).1 = true := by
 intro a
 induction a generalizing d with
 | nil => exact h
 | cons s r ih => exact ih (line_valid d s)
theorem run_snoc (d : Dk) (a : List Tx) (s : Tx) : run d (a ++ [s]) = ((line (run d a).1 s).1, (run d a).2 ++ [(line (run d a).1 s).2]) := by rw [run_append]; rfl
end Dk
end Go.Proofs.YtmboieajfdkllaaGreat
