/- Rows of cells: what RowText computes, in plain Lean; the library's calls as texts. -/
import Derived.Test.YtaofgcdpmeeimaaDoorStrs
import Derived.Test.YtaofgcdpmeeimaaDoorText
import Derived.Test.YtaofgcdpmeeimaaDoorShelf
import Derived.Lib.Replace
import Derived.Lib.IndexBytes
import Derived.Lib.SplitLaws
namespace Go.Proofs.YtaofgcdpmeeimaaDoor
open Go.RowKit

def comma : Tx := [44]
def cellOk (c : Tx) : Bool := textOk c && decide ((c.length : Int) ≤ 30)
def isQ (b : UInt8) : Bool := b == 44 || b == 34
def quoted (c : Tx) : Bool := c.any isQ || c == []
def dq : Tx → Tx
  | [] => []
  | b :: t => if b == 34 then 34 :: 34 :: dq t else b :: dq t
def cellText (c : Tx) : Tx := if quoted c then 34 :: (dq c ++ [34]) else c
def rowParts (ps : List Tx) (k : Nat) : List Tx := (ps.take k).map cellText
def rowText (ps : List Tx) : Tx := if decide (ps.length ≤ 6) && ps.all cellOk then Lib.join (rowParts ps ps.length) comma else []

theorem dq_append : ∀ a b : Tx, dq (a ++ b) = dq a ++ dq b
  | [], _ => rfl
  | x :: t, b => by
    rw [List.cons_append, dq, dq, dq_append t b]
    split <;> simp
theorem dq_len : ∀ l : Tx, (dq l).length ≤ 2 * l.length
  | [] => by simp [dq]
  | b :: t => by
    have := dq_len t
    unfold dq
    split <;> simp <;> omega
theorem dq_succ (l : Tx) (k : Nat) (h : k < l.length) : dq (l.take (k + 1)) = dq (l.take k) ++ (if l[k] == 34 then [34, 34] else [l[k]]) := by
  rw [take_snoc l k h, dq_append]
  congr 1
theorem cellText_len (c : Tx) (h : c.length ≤ 30) : (cellText c).length ≤ 62 := by
  have := dq_len c
  unfold cellText
  split
  · simp; omega
  · omega
theorem cellOk_len {c : Tx} (h : cellOk c = true) : c.length ≤ 30 := by simp [cellOk] at h; omega
theorem rowParts_succ (ps : List Tx) (k : Nat) (h : k < ps.length) : rowParts ps (k + 1) = rowParts ps k ++ [cellText ps[k]] := by
  unfold rowParts
  rw [take_snoc ps k h, List.map_append]
  rfl
theorem rowParts_eq (ps : List Tx) (k : Nat) (h : k ≤ ps.length) : (rowParts ps k).length = k := by
  unfold rowParts
  rw [List.length_map, List.length_take]
  omega

theorem replaceK_dq : ∀ l : Tx, Lib.replaceK [34] [34, 34] (l.count 34) l = dq l
  | [] => rfl
  | b :: t => by
    have ih := replaceK_dq t
    by_cases hb : (b == 34) = true
    · have e : b = 34 := by simpa using hb
      subst e
      have hc : (34 :: t : Tx).count 34 = t.count 34 + 1 := by simp
      have hi : Lib.index (34 :: t) [34] = ((0 : Nat) : Int) := by rw [Lib.index_one]; rfl
      rw [hc, Lib.replaceK_hit _ _ _ _ 0 hi]
      simp [dq, ih]
    · have hb' : (b == 34) = false := by simpa using hb
      have hne : b ≠ 34 := by simpa using hb
      have hc : (b :: t : Tx).count 34 = t.count 34 := by rw [List.count_cons]; simp [hb']
      have hd : dq (b :: t) = b :: dq t := by rw [dq, hb']; rfl
      rw [hc, hd, ← ih]
      have hx : Lib.indexByte (b :: t) 34 = if (Lib.indexByte t 34 == -1) = true then -1 else Lib.indexByte t 34 + 1 := by
        show (if (b == 34) = true then (0 : Int) else if (Lib.indexByte t 34 == -1) = true then -1 else Lib.indexByte t 34 + 1) = _
        rw [hb']; rfl
      generalize t.count 34 = k
      cases k with
      | zero => rfl
      | succ k =>
        unfold Lib.replaceK
        rw [Lib.index_one, Lib.index_one, hx]
        have hge := Lib.indexByte_ge t 34
        by_cases h : Lib.indexByte t 34 = -1
        · simp [h]
        · have h1 : (Lib.indexByte t 34 == -1) = false := by simpa using h
          have h2 : (Lib.indexByte t 34 + 1 == -1) = false := by simp; omega
          have h3 : (Lib.indexByte t 34 + 1).toNat = (Lib.indexByte t 34).toNat + 1 := by omega
          have h4 : (Lib.indexByte t 34 + 1).toNat + [(34 : UInt8)].length = ((Lib.indexByte t 34).toNat + [(34 : UInt8)].length) + 1 := by rw [h3]; rfl
          rw [h1]
          simp only [Bool.false_eq_true, if_false]
          rw [h2]
          simp only [Bool.false_eq_true, if_false]
          rw [h4, h3, List.take_succ_cons, List.drop_succ_cons]
          simp
theorem replaceAll_dq (l : Tx) : Lib.replaceAll l [34] [34, 34] = dq l := by
  rw [← replaceK_dq l]
  unfold Lib.replaceAll Lib.replace Lib.replaceNum
  rw [Lib.count_one]
  rfl
theorem indexAny_any : ∀ l : Tx, decide (0 ≤ Lib.indexAny l [44, 34]) = l.any isQ
  | [] => rfl
  | b :: t => by
    have ih := indexAny_any t
    have hge := Lib.indexAny_ge [44, 34] t
    have hc : ([44, 34] : Tx).contains b = isQ b := by
      show (b == 44 || (b == 34 || false)) = (b == 44 || b == 34)
      rw [Bool.or_false]
    unfold Lib.indexAny
    rw [hc, List.any_cons, ← ih]
    cases isQ b
    · simp only [Bool.false_eq_true, if_false, Bool.false_or]
      by_cases h : Lib.indexAny t [44, 34] = -1
      · simp [h]
      · have h1 : (Lib.indexAny t [44, 34] == -1) = false := by simpa using h
        rw [h1]
        simp only [Bool.false_eq_true, if_false]
        rw [decide_eq_decide]
        omega
    · simp
theorem textOk_ascii {l : Tx} (h : textOk l = true) : ∀ (j : Nat) b, l[j]? = some b → b.toNat < 128 := by
  intro j b hj
  have h1 : l.all isPrn = true := by simp [textOk] at h; simpa using h.2
  have h2 := List.all_eq_true.1 h1 b (List.mem_of_getElem? hj)
  simp [isPrn] at h2
  omega

/-- the cell of the library's own variable that Split and ReplaceAll read -/
def Hm (w : World) : Prop := ∃ m : Int, w.cell? ⟨0, 0, none⟩ = some (.int .i64 m)
theorem Hm.pos {w : World} (h : Hm w) : 0 < w.heap.size := by
  obtain ⟨m, h⟩ := h
  rcases Nat.eq_zero_or_pos w.heap.size with h0 | h0
  · have : w.heap[0]? = none := by simp [h0]
    simp [World.cell?, this] at h
  · exact h0
theorem Hm.below {w w' : World} (h : Hm w) (hb : Below w.heap.size w w') : Hm w' := by
  have hp := h.pos
  obtain ⟨m, h⟩ := h
  exact ⟨m, (hb.cell (p := ⟨0, 0, none⟩) hp).trans h⟩
theorem hm_shaped {w : World} (h : w.ShapedOpen Tryd.prog) : Hm w := Tryd.laysM155.s1_3 w h

theorem any_tx (l : Tx) (h : textOk l = true) (w : World) :
    Calls Tryd.prog 76 #[.string ⟨l.toArray⟩, .string ⟨#[44, 34]⟩] w fun e w' => e = .returned (.bool (l.any isQ)) ∧ Below w.heap.size w w' := by
  have hl : l.length ≤ 600 := by simp [textOk] at h; exact h.1
  refine (Tryd.strings_ContainsAny_laid ⟨l.toArray⟩ ⟨#[44, 34]⟩ w (by show l.toArray.size < _; simp; omega) (by decide) ?_ ?_).mono ?_
  · intro j b hj
    exact textOk_ascii h j b (by simpa using hj)
  · intro j b hj
    have hj' : ([44, 34] : Tx)[j]? = some b := hj
    have := List.mem_of_getElem? hj'
    simp at this
    rcases this with rfl | rfl <;> decide
  · rintro e w' ⟨rfl, hb⟩
    refine ⟨?_, hb⟩
    have : Lib.containsAny l [44, 34] = l.any isQ := indexAny_any l
    rw [← this]
theorem repl_tx (l : Tx) (hl : l.length ≤ 30) (w : World) (hm : Hm w) :
    Calls Tryd.prog 77 #[.string ⟨l.toArray⟩, .string ⟨#[34]⟩, .string ⟨#[34, 34]⟩] w fun e w' => e = .returned (.string ⟨(dq l).toArray⟩) ∧ Below w.heap.size w w' := by
  obtain ⟨m, hm⟩ := hm
  have hc : Lib.countB ⟨l.toArray⟩ ⟨#[34]⟩ ≤ (ByteArray.mk l.toArray).size := Lib.countB_le ⟨#[34]⟩ (by decide) _ _ (Nat.le_refl _)
  have hs : (ByteArray.mk l.toArray).size = l.length := by show l.toArray.size = _; simp
  have hn : (ByteArray.mk #[34, 34]).size = 2 := rfl
  refine (Tryd.strings_ReplaceAll ⟨l.toArray⟩ ⟨#[34]⟩ ⟨#[34, 34]⟩ m w (by omega) hm (by decide) (by rw [hn]; omega)).mono ?_
  rintro e w' ⟨rfl, hb⟩
  refine ⟨?_, hb⟩
  have : Lib.replaceAll l [34] [34, 34] = dq l := replaceAll_dq l
  rw [← this]
end Go.Proofs.YtaofgcdpmeeimaaDoor
