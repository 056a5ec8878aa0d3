/- Arguments of the laws, opened: slices of texts. -/
import Derived.Test.YtmijnkiopmpjdaaDoorStrS
import Derived.Test.YtmijnkiopmpjdaaDoorOpen
namespace Go.Proofs.YtmijnkiopmpjdaaDoor
open Go.RowKit Go.ChangeShapes Go.WideShapes Go.Deep

section
variable {H : Type} {enc : TypeId × Value → H} {P : Program} {w : World} {spare : Nat → Bool} {held : Bool}
/-- an argument that is a slice of texts -/
theorem open_texts {t e : TypeId} {v : Value} {d : DataW H} {p : List MemPlace} (ht : P.underlying t = some (.slice e)) (he : P.underlying e = some .string) (ce : P.cellsOf e = 1)
    (hv : Value.okWide P w .any 0 t v) (h : DataW.Trod enc P w 0 spare held t v d p) :
    ∃ (A : Option Addr) (c : Nat) (xs : List Tx), v = .slice A xs.length c ∧ Rd w w.heap.size A (scells xs) ∧ FitS xs ∧ xs.length ≤ c ∧ c ≤ maxLen := by
  obtain ⟨a0, len0, cap0, rfl⟩ := okWide_slice ht hv
  obtain ⟨fuel, hf⟩ := h
  rcases open_slice1 ht ce hf with ⟨hcs, _⟩ | ⟨a, len, cap, m, n, V, D, Pl, hcs, _, hl, hm, hmm, _, hx⟩
  · simp [Value.cells] at hcs
    obtain ⟨rfl, rfl, rfl⟩ := hcs
    exact ⟨none, 0, [], rfl, Rd.nil_, (fun x hx => by cases hx), by simp, by simp [maxLen]⟩
  · simp [Value.cells] at hcs
    obtain ⟨rfl, rfl, rfl⟩ := hcs
    have hlm : len0 ≤ m := by rw [hmm]; split <;> omega
    have each : ∀ i, i < len0 → ∃ q : Tx, w.cell? (a.add i) = some (sv q) ∧ q.length ≤ maxLen := by
      intro i hi
      obtain ⟨h1, h2⟩ := hx i (by omega)
      obtain ⟨s0, e0, _, l0⟩ := DataW.trod_string he h2
      simp at e0
      obtain ⟨x, rfl⟩ := tx_of s0
      exact ⟨x, by rw [h1, e0], l0⟩
    obtain ⟨q, hq⟩ := choose_lt each
    have hlen : ((List.range len0).map q).length = len0 := by simp
    refine ⟨some a, cap0, (List.range len0).map q, by rw [hlen], ?_, ?_, by rw [hlen]; exact hl, hm⟩
    · intro hne
      have h0 : 0 < len0 := by
        rcases Nat.eq_zero_or_pos len0 with h | h
        · subst h; exact absurd rfl hne
        · exact h
      obtain ⟨b, o, rfl, hb⟩ := cell_plain (by simpa [Addr.add] using (hq 0 h0).1)
      refine ⟨b, o, rfl, hb, fun j u hu => ?_⟩
      have hj : j < len0 := by
        have := (List.getElem?_eq_some_iff.1 hu).1
        simpa using this
      have := (hq j hj).1
      rw [add_plain] at this
      rw [this]
      simp [scells, hj] at hu
      rw [← hu]
    · intro x hx
      obtain ⟨i, hi, rfl⟩ := List.mem_map.1 hx
      exact (hq i (List.mem_range.1 hi)).2
end
end Go.Proofs.YtmijnkiopmpjdaaDoor
