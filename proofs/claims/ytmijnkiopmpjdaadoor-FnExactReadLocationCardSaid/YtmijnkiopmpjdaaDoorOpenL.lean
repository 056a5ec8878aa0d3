/- Arguments of the laws, opened: locations. -/
import Derived.Test.YtmijnkiopmpjdaaDoorOpenS
import Derived.Test.YtmijnkiopmpjdaaDoorLocP
import Derived.Lib.SmallJoins
namespace Go.Proofs.YtmijnkiopmpjdaaDoor
open Go.RowKit Go.ChangeShapes Go.WideShapes Go.Deep

section
variable {H : Type} {enc : TypeId × Value → H} {P : Program} {w : World} {spare : Nat → Bool} {held : Bool}
/-- a field that is a slice of texts -/
theorem open_texts_cs {t e : TypeId} {v : Value} {n0 : Nat} {y : DataW H × List MemPlace} (ht : P.underlying t = some (.slice e)) (he : P.underlying e = some .string) (ce : P.cellsOf e = 1)
    (hf : DataW.trod enc P w 0 spare held n0 t [v] = some y) :
    ∃ (A : Option Addr) (c : Nat) (xs : List Tx), v = .slice A xs.length c ∧ Rd w w.heap.size A (scells xs) ∧ FitS xs ∧ xs.length ≤ c ∧ c ≤ maxLen := by
  rcases open_slice1 ht ce hf with ⟨hcs, _⟩ | ⟨a, len, cap, m, n, V, D, Pl, hcs, _, hl, hm, hmm, _, hx⟩
  · simp at hcs
    subst hcs
    exact ⟨none, 0, [], rfl, Rd.nil_, (fun x hx => by cases hx), by simp, by simp [maxLen]⟩
  · simp at hcs
    subst hcs
    have hlm : len ≤ m := by rw [hmm]; split <;> omega
    have each : ∀ i, i < len → ∃ q : Tx, w.cell? (a.add i) = some (sv q) ∧ q.length ≤ maxLen := by
      intro i hi
      obtain ⟨h1, h2⟩ := hx i (by omega)
      obtain ⟨s0, e0, _, l0⟩ := DataW.trod_string he h2
      simp at e0
      obtain ⟨x, rfl⟩ := tx_of s0
      exact ⟨x, by rw [h1, e0], l0⟩
    obtain ⟨q, hq⟩ := choose_lt each
    have hlen : ((List.range len).map q).length = len := by simp
    refine ⟨some a, cap, (List.range len).map q, by rw [hlen], ?_, ?_, by rw [hlen]; exact hl, hm⟩
    · intro hne
      have h0 : 0 < len := by
        rcases Nat.eq_zero_or_pos len with h | h
        · subst h; exact absurd rfl hne
        · exact h
      obtain ⟨b, o, rfl, hb⟩ := cell_plain (by simpa [Addr.add] using (hq 0 h0).1)
      refine ⟨b, o, rfl, hb, fun j u hu => ?_⟩
      have hj : j < len := by
        have := (List.getElem?_eq_some_iff.1 hu).1
        simpa using this
      have := (hq j hj).1
      rw [add_plain] at this
      rw [this]
      simp [scells, hj] at hu
      rw [← hu]
    · intro x hx
      obtain ⟨i, hi, rfl⟩ := List.mem_map.1 hx
      exact (hq i (List.mem_range.1 hi)).2
/-- an argument that is a location -/
theorem open_loc {t e : TypeId} {f0 f1 f2 f3 : Field} {v : Value} {d : DataW H} {p : List MemPlace} (hs : P.underlying t = some (.struct #[f0, f1, f2, f3])) (hone : oneCellFields P #[f0, f1, f2, f3] = true) (hC : P.cellsOf t = 4)
    (u0 : P.underlying f0.type = some .string) (u1 : P.underlying f1.type = some .string) (u2 : P.underlying f2.type = some (.slice e)) (ue : P.underlying e = some .string) (ce : P.cellsOf e = 1) (u3 : P.underlying f3.type = some .string)
    (hv : Value.okWide P w .any 0 t v) (h : DataW.Trod enc P w 0 spare held t v d p) :
    ∃ (l : Lc) (A : Option Addr) (c : Nat), v = lcV l A c ∧ Rd w w.heap.size A (scells l.path) ∧ FitS l.path ∧ l.path.length ≤ c ∧ c ≤ maxLen ∧ l.sch.length ≤ maxLen ∧ l.host.length ≤ maxLen ∧ l.qu.length ≤ maxLen := by
  obtain ⟨v0, v1, v2, v3, y0, y1, y2, y3, n, rfl, _, _, g0, g1, g2, g3⟩ := Go.Joins.open_agg4 hs hone hC hv h
  obtain ⟨s0, q0, _, l0⟩ := DataW.trod_string u0 g0
  obtain ⟨s1, q1, _, l1⟩ := DataW.trod_string u1 g1
  obtain ⟨s3, q3, _, l3⟩ := DataW.trod_string u3 g3
  obtain ⟨A, c, xs, rfl, hr, hf, hc, hm⟩ := open_texts_cs u2 ue ce g2
  simp at q0 q1 q3
  obtain ⟨x, rfl⟩ := tx_of s0
  obtain ⟨y, rfl⟩ := tx_of s1
  obtain ⟨z, rfl⟩ := tx_of s3
  exact ⟨⟨x, y, xs, z⟩, A, c, by rw [q0, q1, q3], hr, hf, hc, hm, l0, l1, l3⟩
end
end Go.Proofs.YtmijnkiopmpjdaaDoor
