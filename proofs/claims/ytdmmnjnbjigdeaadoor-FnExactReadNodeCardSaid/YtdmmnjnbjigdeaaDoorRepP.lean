/- strings.ReplaceAll of one byte: by the shelf's contract. -/
import Derived.Test.YtdmmnjnbjigdeaaDoorStrs
import Derived.Test.YtdmmnjnbjigdeaaDoorShelf
import Derived.Lib.Replace
import Derived.Lib.IndexBytes
import Derived.Test.YtdmmnjnbjigdeaaDoorHm
namespace Go.Proofs.YtdmmnjnbjigdeaaDoor
open Go.RowKit

def repB (b : UInt8) (nw : Tx) : Tx → Tx
  | [] => []
  | c :: t => if c == b then nw ++ repB b nw t else c :: repB b nw t
theorem replaceK_one (b : UInt8) (nw : Tx) : ∀ l : Tx, Lib.replaceK [b] nw (l.count b) l = repB b nw l
  | [] => by simp [repB, Lib.replaceK]
  | c :: t => by
    have ih := replaceK_one b nw t
    by_cases hb : (c == b) = true
    · have e : c = b := by simpa using hb
      subst e
      have hc : (c :: t : Tx).count c = t.count c + 1 := by simp
      have hi : Lib.index (c :: t) [c] = ((0 : Nat) : Int) := by
        rw [Lib.index_one]
        show (if (c == c) = true then (0 : Int) else _) = _
        rw [if_pos hb]; rfl
      rw [hc, Lib.replaceK_hit _ _ _ _ 0 hi]
      simp [repB, ih]
    · have hb' : (c == b) = false := by simpa using hb
      have hc : (c :: t : Tx).count b = t.count b := by rw [List.count_cons]; simp [hb']
      have hd : repB b nw (c :: t) = c :: repB b nw t := by rw [repB, hb']; rfl
      rw [hc, hd, ← ih]
      have hx : Lib.indexByte (c :: t) b = if (Lib.indexByte t b == -1) = true then -1 else Lib.indexByte t b + 1 := by
        show (if (c == b) = true then (0 : Int) else if (Lib.indexByte t b == -1) = true then -1 else Lib.indexByte t b + 1) = _
        rw [hb']; rfl
      generalize t.count b = k
      cases k with
      | zero => rfl
      | succ k =>
        unfold Lib.replaceK
        rw [Lib.index_one, Lib.index_one, hx]
        have hge := Lib.indexByte_ge t b
        by_cases h : Lib.indexByte t b = -1
        · simp [h]
        · have h1 : (Lib.indexByte t b == -1) = false := by simpa using h
          have h2 : (Lib.indexByte t b + 1 == -1) = false := by simp; omega
          have h3 : (Lib.indexByte t b + 1).toNat = (Lib.indexByte t b).toNat + 1 := by omega
          have h4 : (Lib.indexByte t b + 1).toNat + [b].length = ((Lib.indexByte t b).toNat + [b].length) + 1 := by rw [h3]; simp
          rw [h1]
          simp only [Bool.false_eq_true, if_false]
          rw [h2]
          simp only [Bool.false_eq_true, if_false]
          rw [h4, h3, List.take_succ_cons, List.drop_succ_cons]
          simp
theorem replaceAll_one (b : UInt8) (nw l : Tx) (hne : ([b] == nw) = false) : Lib.replaceAll l [b] nw = repB b nw l := by
  rw [← replaceK_one b nw l]
  unfold Lib.replaceAll Lib.replace Lib.replaceNum
  rw [Lib.count_one, hne]
  rfl
theorem repB_len (b : UInt8) (nw : Tx) (hn : nw.length ≤ 2) : ∀ l : Tx, (repB b nw l).length ≤ 2 * l.length
  | [] => by simp [repB]
  | c :: t => by
    have := repB_len b nw hn t
    unfold repB
    split <;> simp <;> omega
theorem repl_one (b : UInt8) (nw l : Tx) (hl : l.length ≤ 4000000) (hn : nw.length ≤ 2) (hne : ([b] == nw) = false) (w : World) (hm : Hm w) :
    Calls Tryd.prog 72 #[.string ⟨l.toArray⟩, .string ⟨[b].toArray⟩, .string ⟨nw.toArray⟩] w fun e w' => e = .returned (.string ⟨(repB b nw l).toArray⟩) ∧ Below w.heap.size w w' := by
  obtain ⟨m, hm⟩ := hm
  have h1 : (ByteArray.mk [b].toArray).size = 1 := rfl
  have hc : Lib.countB ⟨l.toArray⟩ ⟨[b].toArray⟩ ≤ (ByteArray.mk l.toArray).size := Lib.countB_le ⟨[b].toArray⟩ (by omega) _ _ (Nat.le_refl _)
  have hs : (ByteArray.mk l.toArray).size = l.length := by show l.toArray.size = _; simp
  have hn2 : (ByteArray.mk nw.toArray).size = nw.length := by show nw.toArray.size = _; simp
  have hmul : Lib.countB ⟨l.toArray⟩ ⟨[b].toArray⟩ * nw.length ≤ 4000000 * 2 := Nat.mul_le_mul (by omega) hn
  refine (Tryd.strings_ReplaceAll ⟨l.toArray⟩ ⟨[b].toArray⟩ ⟨nw.toArray⟩ m w (by omega) hm (by omega) (by rw [hn2]; omega)).mono ?_
  rintro e w' ⟨rfl, hb⟩
  refine ⟨?_, hb⟩
  have : Lib.replaceAll l [b] nw = repB b nw l := replaceAll_one b nw l hne
  rw [← this]
end Go.Proofs.YtdmmnjnbjigdeaaDoor
