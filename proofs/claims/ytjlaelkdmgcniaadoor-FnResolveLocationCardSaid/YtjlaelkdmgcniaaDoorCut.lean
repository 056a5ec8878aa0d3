/- strings.Cut at one byte: a walk over the shelf's contract of Index. -/
import Derived.Test.YtjlaelkdmgcniaaDoorBase
import Derived.Test.YtjlaelkdmgcniaaDoorShelf
import Derived.Deep.QuietTactic
import Derived.BigQuiet
import Derived.IntWalk
import Derived.Outline
namespace Go.Proofs.YtjlaelkdmgcniaaDoor
open Go.RowKit

/-- where a byte first stands; the length, if it stands nowhere -/
def at_ (c : UInt8) (l : Tx) : Nat := l.findIdx (· == c)
def has (c : UInt8) (l : Tx) : Bool := decide (at_ c l < l.length)
theorem at_le (c : UInt8) (l : Tx) : at_ c l ≤ l.length := List.findIdx_le_length
theorem index_at (c : UInt8) : ∀ l : Tx, Lib.indexByte l c = if at_ c l < l.length then (at_ c l : Int) else -1
  | [] => by simp [Lib.indexByte, at_]
  | b :: t => by
    have ih := index_at c t
    unfold Lib.indexByte
    by_cases hb : (b == c) = true
    · simp [at_, List.findIdx_cons, hb]
    · have hb' : (b == c) = false := by simpa using hb
      have e : at_ c (b :: t) = at_ c t + 1 := by simp [at_, List.findIdx_cons, hb']
      have hle := at_le c t
      show (if (b == c) = true then (0 : Int) else if (Lib.indexByte t c == -1) = true then -1 else Lib.indexByte t c + 1) = _
      rw [hb']
      by_cases h : at_ c t < t.length
      · have e2 : Lib.indexByte t c = (at_ c t : Int) := by rw [ih, if_pos h]
        have e3 : ((at_ c t : Int) == -1) = false := by simp
        rw [e2, e3]
        simp [e, h]
      · have e2 : Lib.indexByte t c = -1 := by rw [ih, if_neg h]
        rw [e2]
        simp [e, h]
theorem at_step {c : UInt8} {l : Tx} {j : Nat} (h : j ≤ at_ c l) (hj : j < l.length) (hc : (l[j] == c) = false) : j + 1 ≤ at_ c l := by
  rcases Nat.lt_or_ge j (at_ c l) with h1 | h1
  · exact h1
  · have e : at_ c l = j := by omega
    have h2 : l.findIdx (· == c) < l.length := by show at_ c l < _; omega
    have h3 : (l[l.findIdx (· == c)]'h2 == c) = true := List.findIdx_getElem (w := h2)
    have h4 : l[l.findIdx (· == c)]'h2 = l[j] := by
      congr 1
    rw [h4, hc] at h3
    cases h3
theorem at_found {c : UInt8} {l : Tx} {j : Nat} (h : j ≤ at_ c l) (hj : j < l.length) (hc : (l[j] == c) = true) : at_ c l = j := by
  rcases Nat.lt_or_ge j (at_ c l) with h1 | h1
  · have := List.not_of_lt_findIdx (p := (· == c)) (xs := l) h1
    rw [hc] at this
    simp at this
  · omega

set_option maxRecDepth 100000 in
set_option maxHeartbeats 800000 in
theorem sl_Cut (l : Tx) (c : UInt8) (hl : l.length ≤ 4294967296) (w : World) :
    Calls Tryd.prog 33 #[.string ⟨l.toArray⟩, .string ⟨#[c]⟩] w fun e w' =>
      e = .returned (.tuple #[.string ⟨(if has c l then l.take (at_ c l) else l).toArray⟩, .string ⟨(if has c l then l.drop (at_ c l + 1) else []).toArray⟩, .bool (has c l)]) ∧ ∃ n, w' = w.drewN n := by
  have HI := Lib.hid (fun w => Tryd.stringslite_Index_one ⟨l.toArray⟩ c w)
  have hx : Lib.indexByte l c = if at_ c l < l.length then (at_ c l : Int) else -1 := index_at c l
  by_cases h : at_ c l < l.length
  · have hh : has c l = true := decide_eq_true h
    rw [if_pos h] at hx
    simp only [hh, if_true]
    have HX : Hid (∀ w, Calls Tryd.prog 43 #[.string ⟨l.toArray⟩, .string ⟨#[c]⟩] w fun e w' => e = .returned (.int .i64 (at_ c l : Int)) ∧ w = w') := fun w => (HI.out w).mono fun _ _ ⟨a, b⟩ => ⟨by rw [a]; exact ret_int hx, b.symm⟩
    clear hx hh
    generalize at_ c l = i at *
    have hw : IntKind.i64.wrap ((i : Int) + 1) = (i : Int) + 1 := IntWalk.i64_in _ (by omega)
    have h0 : (0 : Int) ≤ (i : Int) := by omega
    have h1 : (i : Int) ≤ (l.length : Int) := by omega
    have h2 : (i : Int) + 1 ≤ (l.length : Int) := by omega
    have h3 : ((i : Int) + 1).toNat = i + 1 := by omega
    have h4 : (0 : Int) ≤ (i : Int) + 1 := by omega
    go_enter Tryd.func33, Tryd.ntmps33
    go_wp2_with (go_at_call 43; refine (HX.out _).mono ?_; rintro e w' ⟨rfl, rfl⟩)
    go_quiet (fail)
    go_wp2
    go_ret3
    exact ⟨rfl, _, rfl⟩
  · have hh : has c l = false := decide_eq_false h
    rw [if_neg h] at hx
    simp only [hh, Bool.false_eq_true, if_false]
    have HX : Hid (∀ w, Calls Tryd.prog 43 #[.string ⟨l.toArray⟩, .string ⟨#[c]⟩] w fun e w' => e = .returned (.int .i64 (-1)) ∧ w = w') := fun w => (HI.out w).mono fun _ _ ⟨a, b⟩ => ⟨by rw [a]; exact ret_int hx, b.symm⟩
    clear hx hh h
    go_enter Tryd.func33, Tryd.ntmps33
    go_wp2_with (go_at_call 43; refine (HX.out _).mono ?_; rintro e w' ⟨rfl, rfl⟩)
    go_ret3
    exact ⟨rfl, 0, rfl⟩

set_option maxRecDepth 100000 in
set_option maxHeartbeats 800000 in
theorem strings_Cut (l : Tx) (c : UInt8) (hl : l.length ≤ 4294967296) (w : World) :
    Calls Tryd.prog 16 #[.string ⟨l.toArray⟩, .string ⟨#[c]⟩] w fun e w' =>
      e = .returned (.tuple #[.string ⟨(if has c l then l.take (at_ c l) else l).toArray⟩, .string ⟨(if has c l then l.drop (at_ c l + 1) else []).toArray⟩, .bool (has c l)]) ∧ ∃ n, w' = w.drewN n := by
  have HS := Lib.hid (fun w => sl_Cut l c hl w)
  generalize (if has c l then l.take (at_ c l) else l) = r1 at *
  generalize (if has c l then l.drop (at_ c l + 1) else []) = r2 at *
  generalize has c l = r3 at *
  clear hl
  go_enter Tryd.func16, Tryd.ntmps16
  go_wp2_with (go_at_call 33; refine (HS.out _).mono ?_; rintro e w' ⟨rfl, n, rfl⟩)
  go_ret3
  exact ⟨rfl, n, rfl⟩
end Go.Proofs.YtjlaelkdmgcniaaDoor
