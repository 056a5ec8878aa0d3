/- The marks that the exact laws write: walks. -/
import Derived.Test.YtdmmnjnbjigdeaaDoorBase
import Derived.Outline
namespace Go.Proofs.YtdmmnjnbjigdeaaDoor
open Go.RowKit

/-- the byte of the last digit -/
def dgt (k : Nat) : UInt8 := UInt8.ofNat (48 + k % 10)
theorem dgt_toNat (k : Nat) : ((dgt k).toNat : Int) = 48 + (k : Int) % 10 := by
  unfold dgt
  rw [UInt8.toNat_ofNat']
  omega
def digs : Nat → Nat → Tx → Tx
  | 0, _, acc => acc
  | f + 1, k, acc => if k = 0 then acc else digs f (k / 10) (dgt k :: acc)
/-- the mark that k leaves -/
def markOf (k : Nat) : Tx := 109 :: digs (k + 1) k []
theorem digs_fuel : ∀ (f g k : Nat) (acc : Tx), k < f → k < g → digs f k acc = digs g k acc
  | 0, _, _, _, h, _ => absurd h (by omega)
  | _, 0, _, _, _, h => absurd h (by omega)
  | f + 1, g + 1, k, acc, h1, h2 => by
    unfold digs
    by_cases hk : k = 0
    · simp [hk]
    · simp only [hk, if_false]
      exact digs_fuel f g (k / 10) _ (by omega) (by omega)
theorem digs_step (k : Nat) (acc : Tx) (h : 0 < k) : digs (k + 1) k acc = digs (k / 10 + 1) (k / 10) (dgt k :: acc) := by
  rw [digs, if_neg (by omega)]
  exact digs_fuel _ _ _ _ (by omega) (by omega)

set_option maxRecDepth 100000 in
set_option maxHeartbeats 1000000 in
theorem laws_markText (k : Nat) (h0 : 0 < k) (h1 : k ≤ 4611686018427387904) (w : World) :
    Calls Tryd.prog 69 #[.int .i64 k] w fun e w' => e = .returned (.string ⟨(markOf k).toArray⟩) ∧ Below w.heap.size w w' := by
  have hk0 : ¬ k = 0 := by omega
  go_enter Tryd.func69, Tryd.ntmps69
  go_wp2
  go_loopw [0, 3] (fun n s wr => ∃ (j : Nat) (acc : Tx), n = .int .i64 j ∧ s = .string ⟨acc.toArray⟩ ∧ j + acc.length ≤ k ∧ digs (j + 1) j acc = digs (k + 1) k [] ∧ Below w.heap.size w wr) (fun n _ _ => (intOf n).toNat)
  case atStart => exact ⟨k, [], rfl, rfl, by simp, rfl, Below.refl _ _⟩
  case round =>
    obtain ⟨j, acc, rfl, rfl, hj, hd, hb⟩ := hrel
    have HB := Lib.hid hb
    have HD := Lib.hid hd
    clear hb hd
    by_cases hlt : 0 < j
    · have hcv := fun W => one_byte (P := Tryd.prog) Tryd.underlying22 Tryd.underlying5 Tryd.underlying9 (dgt j) (48 + (j : Int) % 10) (dgt_toNat j).symm W
      go_wp2
      go_roundw
      case rel =>
        refine ⟨j / 10, dgt j :: acc, by go_num, rfl, by simp; omega, ?_, HB.out.alloc HB.out.size _⟩
        rw [← HD.out, digs_step j acc hlt]
      case measure => simp [intOf]; omega
    · go_wp2
      go_ret
      have hj0 : j = 0 := by omega
      subst hj0
      refine ⟨ret_str ?_, HB.out⟩
      have e : acc = digs (k + 1) k [] := HD.out
      rw [e]
      rfl
theorem laws_markText_at (k : Nat) (z : Int) (hz : z = (k : Int)) (h0 : 0 < k) (h1 : k ≤ 4611686018427387904) (w : World) :
    Calls Tryd.prog 69 #[.int .i64 z] w fun e w' => e = .returned (.string ⟨(markOf k).toArray⟩) ∧ Below w.heap.size w w' := by
  subst hz; exact laws_markText k h0 h1 w

end Go.Proofs.YtdmmnjnbjigdeaaDoor
