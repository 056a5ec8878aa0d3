/- Arguments of the laws, opened: slices of pairs. -/
import Derived.Test.YtginghjgfippiaaPairS
import Derived.Deep.SlicePairs
namespace Go.Proofs.Ytginghjgfippiaa
open Go.RowKit Go.ChangeShapes Go.WideShapes Go.Deep

/-- texts of a length that the model can bear -/
def Fit (ps : List Pr) : Prop := ∀ p ∈ ps, p.1.length ≤ maxLen ∧ p.2.length ≤ maxLen

section
variable {H : Type} {enc : TypeId × Value → H} {P : Program} {w : World} {spare : Nat → Bool} {held : Bool}

theorem cell_plain {w : World} {a : Addr} {v : Value} (h : w.cell? a = some v) : ∃ b o, a = ⟨b, o, none⟩ ∧ b < w.heap.size := by
  obtain ⟨b, o, spot⟩ := a
  have hs : spot = none := World.cell?_spot h
  subst hs
  refine ⟨b, o, rfl, ?_⟩
  rcases Nat.lt_or_ge b w.heap.size with hlt | hge
  · exact hlt
  · simp [World.cell?, Array.getElem?_eq_none hge] at h

theorem pcells_get : ∀ (ps : List Pr) (j : Nat) (u : Value), (pcells ps)[j]? = some u → ∃ (k : Nat) (h : k < ps.length), (j = k * 2 ∧ u = sv ps[k].1) ∨ (j = k * 2 + 1 ∧ u = sv ps[k].2)
  | [], j, u, h => by simp [pcells] at h
  | p :: t, 0, u, h => by simp [pcells] at h; exact ⟨0, by simp, .inl ⟨by simp, by simp [h]⟩⟩
  | p :: t, 1, u, h => by simp [pcells] at h; exact ⟨0, by simp, .inr ⟨by simp, by simp [h]⟩⟩
  | p :: t, j + 2, u, h => by
    have h' : (pcells t)[j]? = some u := by simpa [pcells] using h
    obtain ⟨k, hk, hh⟩ := pcells_get t j u h'
    refine ⟨k + 1, by simpa using hk, ?_⟩
    rcases hh with ⟨rfl, rfl⟩ | ⟨rfl, rfl⟩
    · exact .inl ⟨by omega, rfl⟩
    · exact .inr ⟨by omega, rfl⟩

theorem open_pairs {t e : TypeId} {f0 f1 : Field} {v : Value} {d : DataW H} {p : List MemPlace} (ht : P.underlying t = some (.slice e)) (he : P.underlying e = some (.struct #[f0, f1]))
    (ce : P.cellsOf e = 2) (o0 : f0.offset = 0) (o1 : f1.offset = 1) (c0 : P.cellsOf f0.type = 1) (c1 : P.cellsOf f1.type = 1) (u0 : P.underlying f0.type = some .string) (u1 : P.underlying f1.type = some .string)
    (hv : Value.okWide P w .any 0 t v) (h : DataW.Trod enc P w 0 spare held t v d p) :
    ∃ A c ps, v = .slice A (List.length ps) c ∧ Rd w w.heap.size A (pcells ps) ∧ Fit ps ∧ ps.length ≤ c ∧ c ≤ maxLen := by
  obtain ⟨a0, len0, cap0, rfl⟩ := okWide_slice ht hv
  obtain ⟨fuel, hf⟩ := h
  rcases open_slice_pairs ht he ce o0 o1 c0 c1 hf with ⟨hcs, _⟩ | ⟨a, len, cap, m, n, V0, V1, D0, D1, P0, P1, hcs, _, hl, hm, hmm, _, hx⟩
  · simp [Value.cells] at hcs
    obtain ⟨rfl, rfl, rfl⟩ := hcs
    exact ⟨none, 0, [], rfl, Rd.nil_, (fun p hp => by cases hp), by simp, by simp [maxLen]⟩
  · simp [Value.cells] at hcs
    obtain ⟨rfl, rfl, rfl⟩ := hcs
    have hlm : len0 ≤ m := by rw [hmm]; split <;> omega
    have each : ∀ i, i < len0 → ∃ q : Pr, w.cell? (a.add (i * 2)) = some (sv q.1) ∧ w.cell? (a.add (i * 2 + 1)) = some (sv q.2) ∧ q.1.length ≤ maxLen ∧ q.2.length ≤ maxLen := by
      intro i hi
      obtain ⟨h1, h2, h3, h4⟩ := hx i (by omega)
      obtain ⟨s0, e0, _, l0⟩ := DataW.trod_string u0 h3
      obtain ⟨s1, e1, _, l1⟩ := DataW.trod_string u1 h4
      simp at e0 e1
      obtain ⟨x, rfl⟩ := tx_of s0
      obtain ⟨y, rfl⟩ := tx_of s1
      exact ⟨(x, y), by rw [h1, e0], by rw [h2, e1], l0, l1⟩
    obtain ⟨q, hq⟩ := choose_lt each
    have hlen : ((List.range len0).map q).length = len0 := by simp
    refine ⟨some a, cap0, (List.range len0).map q, by rw [hlen], ?_, ?_, by rw [hlen]; exact hl, hm⟩
    · intro hne
      have h0 : 0 < len0 := by
        rcases Nat.eq_zero_or_pos len0 with h | h
        · subst h; exact absurd rfl hne
        · exact h
      obtain ⟨b, o, rfl, hb⟩ := cell_plain (by simpa [Addr.add] using (hq 0 h0).1)
      refine ⟨b, o, rfl, hb, fun j u hu => ?_⟩
      obtain ⟨k, hk, hh⟩ := pcells_get _ j u hu
      have hk' : k < len0 := by simpa using hk
      obtain ⟨g1, g2, _, _⟩ := hq k hk'
      rw [add_plain] at g1 g2
      have eg : ((List.range len0).map q)[k] = q k := by simp
      rw [eg] at hh
      rcases hh with ⟨rfl, rfl⟩ | ⟨rfl, rfl⟩
      · exact g1
      · exact g2
    · intro p hp
      obtain ⟨i, hi, rfl⟩ := List.mem_map.1 hp
      exact ⟨(hq i (List.mem_range.1 hi)).2.2.1, (hq i (List.mem_range.1 hi)).2.2.2⟩

/-- an argument that is a slice of bytes -/
theorem open_bytes {t e : TypeId} {v : Value} {d : DataW H} {p : List MemPlace} (ht : P.underlying t = some (.slice e)) (he : P.underlying e = some (.int .u8)) (ce : P.cellsOf e = 1)
    (hv : Value.okWide P w .any 0 t v) (h : DataW.Trod enc P w 0 spare held t v d p) :
    ∃ (A : Option Addr) (c : Nat) (bs : Tx), v = .slice A bs.length c ∧ Rd w w.heap.size A (bs.map fun b => .int .u8 (b.toNat : Int)) ∧ bs.length ≤ c ∧ c ≤ maxLen := by
  obtain ⟨a0, len0, cap0, rfl⟩ := okWide_slice ht hv
  obtain ⟨fuel, hf⟩ := h
  rcases open_slice1 ht ce hf with ⟨hcs, _⟩ | ⟨a, len, cap, m, n, V, D, Pl, hcs, _, hl, hm, hmm, _, hx⟩
  · simp [Value.cells] at hcs
    obtain ⟨rfl, rfl, rfl⟩ := hcs
    exact ⟨none, 0, [], rfl, Rd.nil_, by simp, by simp [maxLen]⟩
  · simp [Value.cells] at hcs
    obtain ⟨rfl, rfl, rfl⟩ := hcs
    have hlm : len0 ≤ m := by rw [hmm]; split <;> omega
    have each : ∀ i, i < len0 → ∃ q : UInt8, w.cell? (a.add i) = some (.int .u8 (q.toNat : Int)) := by
      intro i hi
      obtain ⟨h1, h2⟩ := hx i (by omega)
      obtain ⟨z, e0, _, wz⟩ := DataW.trod_int he h2
      simp at e0
      have hz : 0 ≤ z ∧ z ≤ 255 := by
        simp only [Lit.wf, IntKind.min, IntKind.max, IntKind.signed, IntKind.bits, Bool.and_eq_true] at wz
        simp at wz
        omega
      refine ⟨UInt8.ofNat z.toNat, ?_⟩
      rw [h1, e0]
      have : ((UInt8.ofNat z.toNat).toNat : Int) = z := by rw [UInt8.toNat_ofNat']; omega
      rw [this]
    obtain ⟨q, hq⟩ := choose_lt each
    have hlen : ((List.range len0).map q).length = len0 := by simp
    refine ⟨some a, cap0, (List.range len0).map q, by rw [hlen], ?_, by rw [hlen]; exact hl, hm⟩
    intro hne
    have h0 : 0 < len0 := by
      rcases Nat.eq_zero_or_pos len0 with h | h
      · subst h; exact absurd rfl hne
      · exact h
    obtain ⟨b, o, rfl, hb⟩ := cell_plain (by simpa [Addr.add] using hq 0 h0)
    refine ⟨b, o, rfl, hb, fun j u hu => ?_⟩
    have hj : j < len0 := by
      have := (List.getElem?_eq_some_iff.1 hu).1
      simpa using this
    have := hq j hj
    rw [add_plain] at this
    rw [this]
    simp [hj] at hu
    rw [← hu]
end

theorem fit_of_size : ∀ {ps : List Pr} {n : Nat}, psize ps ≤ n → n ≤ maxLen → Fit ps
  | [], _, _, _ => fun p hp => by cases hp
  | q :: t, n, h, hn => fun p hp => by
    simp only [psize] at h
    rcases List.mem_cons.1 hp with rfl | hp
    · exact ⟨by omega, by omega⟩
    · exact fit_of_size (n := n) (by omega) hn p hp

end Go.Proofs.Ytginghjgfippiaa
