/- Arguments of the laws, opened: nodes. -/
import Derived.Test.YtdmmnjnbjigdeaaDoorNodeTo
import Derived.Deep.SlicePairs
import Derived.Deep.Fields
namespace Go.Proofs.YtdmmnjnbjigdeaaDoor
open Go.RowKit Go.ChangeShapes Go.WideShapes Go.Deep

theorem cell_plainN {w : World} {a : Addr} {v : Value} (h : w.cell? a = some v) : ∃ b o, a = ⟨b, o, none⟩ ∧ b < w.heap.size := by
  obtain ⟨b, o, spot⟩ := a
  have hs : spot = none := World.cell?_spot h
  subst hs
  refine ⟨b, o, rfl, ?_⟩
  rcases Nat.lt_or_ge b w.heap.size with hlt | hge
  · exact hlt
  · simp [World.cell?, Array.getElem?_eq_none hge] at h

section
variable {H : Type} {enc : TypeId × Value → H} {P : Program} {w : World} {spare : Nat → Bool} {held : Bool}
instance : Inhabited Nd := ⟨.mk 0 0 [] [] []⟩
theorem open_texts_n {t e : TypeId} {v : Value} {n0 : Nat} {y : DataW H × List MemPlace} (ht : P.underlying t = some (.slice e)) (he : P.underlying e = some .string) (ce : P.cellsOf e = 1)
    (hf : DataW.trod enc P w 0 spare held n0 t [v] = some y) :
    ∃ (A : Option Addr) (c : Nat) (xs : List Tx), v = .slice A xs.length c ∧ Rd w w.heap.size A (scells xs) ∧ FitS xs ∧ xs.length ≤ c ∧ c ≤ maxLen := by
  rcases open_slice1 ht ce hf with ⟨hcs, _⟩ | ⟨a, len, cap, m, n, V, D, Pl, hcs, _, hl, hm, hmm, _, hx⟩
  · simp at hcs
    subst hcs
    exact ⟨none, 0, [], rfl, Rd.nil_, (fun x hx => by cases hx), by simp, by simp [maxLen]⟩
  · simp at hcs
    subst hcs
    have hlm : len ≤ m := by rw [hmm]; split <;> omega
    have each : ∀ i, i < len → ∃ q : Tx, w.cell? (a.add i) = some (sv q) ∧ q.length ≤ maxLen := by
      intro i hi
      obtain ⟨h1, h2⟩ := hx i (by omega)
      obtain ⟨s0, e0, _, l0⟩ := DataW.trod_string he h2
      simp at e0
      obtain ⟨x, rfl⟩ := tx_of s0
      exact ⟨x, by rw [h1, e0], l0⟩
    obtain ⟨q, hq⟩ := choose_lt each
    have hlen : ((List.range len).map q).length = len := by simp
    refine ⟨some a, cap, (List.range len).map q, by rw [hlen], ?_, ?_, by rw [hlen]; exact hl, hm⟩
    · intro hne
      have h0 : 0 < len := by
        rcases Nat.eq_zero_or_pos len with h | h
        · subst h; exact absurd rfl hne
        · exact h
      obtain ⟨b, o, rfl, hb⟩ := cell_plainN (by simpa [Addr.add] using (hq 0 h0).1)
      refine ⟨b, o, rfl, hb, fun j u hu => ?_⟩
      have hj : j < len := by
        have := (List.getElem?_eq_some_iff.1 hu).1
        simpa using this
      have := (hq j hj).1
      rw [add_plain] at this
      rw [this]
      simp [scells, hj] at hu
      rw [← hu]
    · intro x hx
      obtain ⟨i, hi, rfl⟩ := List.mem_map.1 hx
      exact (hq i (List.mem_range.1 hi)).2
/-- the five cells of a node that is read -/
theorem open_node_cs {t ts tn e : TypeId} {f0 f1 f2 f3 f4 : Field} (hs : P.underlying t = some (.struct #[f0, f1, f2, f3, f4])) (hone : oneCellFields P #[f0, f1, f2, f3, f4] = true) (hC : P.cellsOf t = 5)
    (u0 : P.underlying f0.type = some (.int .i64)) (u1 : P.underlying f1.type = some (.int .i64)) (u2 : P.underlying f2.type = some .string) (u3 : P.underlying f3.type = some (.slice e)) (ue : P.underlying e = some .string) (ce : P.cellsOf e = 1)
    (u4 : P.underlying f4.type = some (.slice t)) (_ : ts = tn) :
    ∀ (fuel : Nat) (cs : List Value) (x : DataW H × List MemPlace), DataW.trod enc P w 0 spare held fuel t cs = some x →
      ∃ (nd : Nd) (c0 c1 c2 c3 c4 : Value), cs = [c0, c1, c2, c3, c4] ∧ InN w (All w) nd (.agg #[c0, c1, c2, c3, c4]) ∧ Nd.Fit nd := by
  intro fuel
  induction fuel using Nat.strongRecOn with
  | _ fuel ih =>
  intro cs x h
  obtain ⟨xs, n, hfu, _, hl, hlen, hf⟩ := DataW.trod_struct hs h
  rw [hC] at hl
  match cs, hl with
  | [v0, v1, v2, v3, v4], _ =>
  obtain ⟨o0, k0⟩ := hone_of hone 0 f0 rfl
  obtain ⟨o1, k1⟩ := hone_of hone 1 f1 rfl
  obtain ⟨o2, k2⟩ := hone_of hone 2 f2 rfl
  obtain ⟨o3, k3⟩ := hone_of hone 3 f3 rfl
  obtain ⟨o4, k4⟩ := hone_of hone 4 f4 rfl
  match xs, hlen with
  | [y0, y1, y2, y3, y4], _ =>
  have g0 : DataW.trod enc P w 0 spare held n f0.type [v0] = some y0 := by simpa [o0, k0] using hf 0 f0 rfl
  have g1 : DataW.trod enc P w 0 spare held n f1.type [v1] = some y1 := by simpa [o1, k1] using hf 1 f1 rfl
  have g2 : DataW.trod enc P w 0 spare held n f2.type [v2] = some y2 := by simpa [o2, k2] using hf 2 f2 rfl
  have g3 : DataW.trod enc P w 0 spare held n f3.type [v3] = some y3 := by simpa [o3, k3] using hf 3 f3 rfl
  have g4 : DataW.trod enc P w 0 spare held n f4.type [v4] = some y4 := by simpa [o4, k4] using hf 4 f4 rfl
  obtain ⟨z0, q0, _, _⟩ := DataW.trod_int u0 g0
  obtain ⟨z1, q1, _, _⟩ := DataW.trod_int u1 g1
  obtain ⟨s2, q2, _, l2⟩ := DataW.trod_string u2 g2
  obtain ⟨An, cn, ns, rfl, hr, hfs, hc, hm⟩ := open_texts_n u3 ue ce g3
  simp at q0 q1 q2
  subst q0
  subst q1
  subst q2
  obtain ⟨tx, rfl⟩ := tx_of s2
  have hsz : tx.length ≤ maxLen := by
    have : (⟨tx.toArray⟩ : ByteArray).size = tx.length := by show tx.toArray.size = _; simp
    omega
  rcases DataW.trod_slice u4 g4 with ⟨hcs, _⟩ | ⟨a, len, cap, elems, rest, n', hfu2, hcs, _, _, hle, hcm, hel, helem, _, _⟩
  · simp at hcs
    subst hcs
    refine ⟨.mk z0 z1 tx ns [], _, _, _, _, _, rfl, ?_, ?_⟩
    · exact InN.mk (RdIn.of hr (fun _ h => h)) hc (Nat.le_refl 0) (fun h => absurd rfl h)
    · simp only [Nd.Fit, Nd.Fits]
      exact ⟨hsz, hfs, Nat.le_trans hc hm, by simp [maxLen], trivial⟩
  · simp at hcs
    subst hcs
    have each : ∀ i, i < len → ∃ q : Nd, ∃ v, (∃ d0 d1 d2 d3 d4, v = Value.agg #[d0, d1, d2, d3, d4] ∧ w.cell? (a.add (i * 5)) = some d0 ∧ w.cell? (a.add (i * 5 + 1)) = some d1 ∧ w.cell? (a.add (i * 5 + 2)) = some d2 ∧ w.cell? (a.add (i * 5 + 3)) = some d3 ∧ w.cell? (a.add (i * 5 + 4)) = some d4) ∧ InN w (All w) q v ∧ Nd.Fit q := by
      intro i hi
      have h1 := helem i hi
      rw [List.getElem?_eq_getElem (by omega), Option.bind_eq_some_iff] at h1
      obtain ⟨cs', h2, h3⟩ := h1
      rw [hC] at h2
      obtain ⟨_, hlen5, hcell⟩ := World.cells?_some h2
      obtain ⟨nd, c0, c1, c2, c3, c4, rfl, hin, hfit⟩ := ih n' (by omega) cs' _ h3
      have e0 := hcell 0 (by omega)
      have e1 := hcell 1 (by omega)
      have e2 := hcell 2 (by omega)
      have e3 := hcell 3 (by omega)
      have e4 := hcell 4 (by omega)
      rw [add_add] at e0 e1 e2 e3 e4
      simp at e0 e1 e2 e3 e4
      exact ⟨nd, _, ⟨c0, c1, c2, c3, c4, rfl, e0, e1, e2, e3, e4⟩, hin, hfit⟩
    obtain ⟨q, hq⟩ := choose_lt each
    have hlen : ((List.range len).map q).length = len := by simp
    refine ⟨.mk z0 z1 tx ns ((List.range len).map q), _, _, _, _, _, rfl, ?_, ?_⟩
    · have hI : RdN w (All w) (some a) ((List.range len).map q) := by
        intro hne
        have h0 : 0 < len := by
          rcases Nat.eq_zero_or_pos len with h | h
          · subst h; exact absurd rfl hne
          · exact h
        obtain ⟨v, ⟨d0, d1, d2, d3, d4, _, p0, _⟩, _⟩ := hq 0 h0
        obtain ⟨b, o, rfl, hb⟩ := cell_plainN (by simpa [Addr.add] using p0)
        refine ⟨b, o, rfl, hb, InNs.of_get fun i hi => ?_⟩
        rw [hlen] at hi
        obtain ⟨v, ⟨d0, d1, d2, d3, d4, e, p0, p1, p2, p3, p4⟩, hin, _⟩ := hq i hi
        rw [add_plain] at p0 p1 p2 p3 p4
        refine ⟨v, ⟨d0, d1, d2, d3, d4, e, p0, by rw [Nat.add_assoc]; exact p1, by rw [Nat.add_assoc]; exact p2, by rw [Nat.add_assoc]; exact p3, by rw [Nat.add_assoc]; exact p4⟩, ?_⟩
        simpa using hin
      have := InN.mk (k := z0) (n := z1) (t := tx) (ci := cap) (RdIn.of (S := All w) hr (fun _ h => h)) hc (by rw [hlen]; exact hle) hI
      rw [hlen] at this
      exact this
    · simp only [Nd.Fit]
      refine ⟨hsz, hfs, Nat.le_trans hc hm, by rw [hlen]; exact Nat.le_trans hle hcm, Nd.fits_all fun x hx => ?_⟩
      obtain ⟨i, hi, rfl⟩ := List.mem_map.1 hx
      obtain ⟨_, _, _, h⟩ := hq i (List.mem_range.1 hi)
      exact h
/-- an argument that is a node -/
theorem open_node {t e : TypeId} {f0 f1 f2 f3 f4 : Field} {v : Value} {d : DataW H} {p : List MemPlace} (hs : P.underlying t = some (.struct #[f0, f1, f2, f3, f4])) (hone : oneCellFields P #[f0, f1, f2, f3, f4] = true) (hC : P.cellsOf t = 5)
    (u0 : P.underlying f0.type = some (.int .i64)) (u1 : P.underlying f1.type = some (.int .i64)) (u2 : P.underlying f2.type = some .string) (u3 : P.underlying f3.type = some (.slice e)) (ue : P.underlying e = some .string) (ce : P.cellsOf e = 1)
    (u4 : P.underlying f4.type = some (.slice t))
    (hv : Value.okWide P w .any 0 t v) (h : DataW.Trod enc P w 0 spare held t v d p) : ∃ nd : Nd, InN w (All w) nd v ∧ Nd.Fit nd := by
  obtain ⟨cs, rfl, hsz⟩ := okWide_struct hs hv
  obtain ⟨fuel, hf⟩ := h
  obtain ⟨nd, c0, c1, c2, c3, c4, hcs, hin, hfit⟩ := open_node_cs (ts := t) hs hone hC u0 u1 u2 u3 ue ce u4 rfl fuel _ _ hf
  refine ⟨nd, ?_, hfit⟩
  have : cs = #[c0, c1, c2, c3, c4] := by
    apply Array.ext'
    simpa [Value.cells] using hcs
  rw [this]
  exact hin
end
end Go.Proofs.YtdmmnjnbjigdeaaDoor
