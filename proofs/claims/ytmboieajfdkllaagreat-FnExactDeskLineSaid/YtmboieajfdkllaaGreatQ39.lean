import Derived.Test.YtmboieajfdkllaaGreatQ32
import Derived.Test.YtmboieajfdkllaaGreatQ36
namespace Go.Proofs.YtmboieajfdkllaaGreat
open Go.RowKit
namespace Dk
theorem ifOk_valid {d y : Dk} (h : valid d = true) : valid (ifOk d y).1 = true := by
 unfold ifOk
 split
 ·assumption
 ·exact h
theorem say_valid {d : Dk} (h : valid d = true) (s : Tx) : valid (say d s).1 = true := by
 unfold say
 split
 ·exact h
 split
 ·exact h
 split
 ·exact h
 split
 ·exact h
 split
 ·split
  ·exact h
  ·next L hL =>
   have h1 := (Pt.readT_iff.1 hL).1
   unfold valid at h ⊢
   rw [Bool.and_eq_true] at h
   show (Pt.valid L && Fd.valid d.data) = true
   rw [h1, h.2]
   rfl
 split
 ·exact ifOk_valid h
 split
 ·exact ifOk_valid h
 split
 ·exact ifOk_valid h
 ·exact h
theorem zero_valid : valid zero = true := by decide
theorem line_valid (d : Dk) (s : Tx) : valid (line d s).1 = true := by
 unfold line
 split
 ·next h => exact say_valid h s
 ·exact zero_valid
theorem line_size (d : Dk) (s : Tx) : size (line d s).1 <= 26000 := valid_size (line_valid d s)
theorem fits_of : ∀ {xs : List Pt}, Pt.sizes xs <= 1048576 -> Pt.Fits xs
 | [], _ => by simp [Pt.Fits]
 | x :: t, h => by
  simp only [Pt.sizes] at h
  simp only [Pt.Fits]
  exact ⟨Pt.fit_size x (by omega), fits_of (by omega)⟩
theorem fit_of {d : Dk} (h : size d <= 1048576) : Fit d := by
 unfold size at h
 exact ⟨fits_of (by omega), by unfold maxLen; omega, fun x hx => Fd.fit_size (by have := Fd.size_mem hx; omega), by unfold maxLen; omega⟩
theorem line_fit (d : Dk) (s : Tx) : Fit (line d s).1 := fit_of (by have := line_size d s; omega)
def run (d : Dk) : List Tx -> Dk × List Tx
 | [] => (d, [])
 | s :: r => ((run (line d s).1 r).1, (line d s).2 :: (run (line d s).1 r).2)
end Dk
end Go.Proofs.YtmboieajfdkllaaGreat
