/- Arguments of the laws, opened: desks. -/
import Derived.Test.YtginghjgfippiaaDeskE
import Derived.Deep.SlicePairs
import Derived.Deep.Fields
namespace Go.Proofs.Ytginghjgfippiaa
open Go.RowKit Go.ChangeShapes Go.WideShapes Go.Deep

theorem cell_plainN {w : World} {a : Addr} {v : Value} (h : w.cell? a = some v) : ∃ b o, a = ⟨b, o, none⟩ ∧ b < w.heap.size := by
  obtain ⟨b, o, spot⟩ := a
  have hs : spot = none := World.cell?_spot h
  subst hs
  refine ⟨b, o, rfl, ?_⟩
  rcases Nat.lt_or_ge b w.heap.size with hlt | hge
  · exact hlt
  · simp [World.cell?, Array.getElem?_eq_none hge] at h

section
variable {H : Type} {enc : TypeId × Value → H} {P : Program} {w : World} {spare : Nat → Bool} {held : Bool}
instance : Inhabited Pt := ⟨.mk 0 [] [] [] []⟩
instance : Inhabited Fd := ⟨⟨[], [], false, []⟩⟩
theorem open_texts_n {t e : TypeId} {v : Value} {n0 : Nat} {y : DataW H × List MemPlace} (ht : P.underlying t = some (.slice e)) (he : P.underlying e = some .string) (ce : P.cellsOf e = 1)
    (hf : DataW.trod enc P w 0 spare held n0 t [v] = some y) :
    ∃ (A : Option Addr) (c : Nat) (xs : List Tx), v = .slice A xs.length c ∧ Rd w w.heap.size A (scells xs) ∧ FitS xs ∧ xs.length ≤ c ∧ c ≤ maxLen := by
  rcases open_slice1 ht ce hf with ⟨hcs, _⟩ | ⟨a, len, cap, m, n, V, D, Pl, hcs, _, hl, hm, hmm, _, hx⟩
  · simp at hcs
    subst hcs
    exact ⟨none, 0, [], rfl, Rd.nil_, (fun x hx => by cases hx), by simp, by simp [maxLen]⟩
  · simp at hcs
    subst hcs
    have hlm : len ≤ m := by rw [hmm]; split <;> omega
    have each : ∀ i, i < len → ∃ q : Tx, w.cell? (a.add i) = some (sv q) ∧ q.length ≤ maxLen := by
      intro i hi
      obtain ⟨h1, h2⟩ := hx i (by omega)
      obtain ⟨s0, e0, _, l0⟩ := DataW.trod_string he h2
      simp at e0
      obtain ⟨x, rfl⟩ := tx_of s0
      exact ⟨x, by rw [h1, e0], l0⟩
    obtain ⟨q, hq⟩ := choose_lt each
    have hlen : ((List.range len).map q).length = len := by simp
    refine ⟨some a, cap, (List.range len).map q, by rw [hlen], ?_, ?_, by rw [hlen]; exact hl, hm⟩
    · intro hne
      have h0 : 0 < len := by
        rcases Nat.eq_zero_or_pos len with h | h
        · subst h; exact absurd rfl hne
        · exact h
      obtain ⟨b, o, rfl, hb⟩ := cell_plainN (by simpa [Addr.add] using (hq 0 h0).1)
      refine ⟨b, o, rfl, hb, fun j u hu => ?_⟩
      have hj : j < len := by
        have := (List.getElem?_eq_some_iff.1 hu).1
        simpa using this
      have := (hq j hj).1
      rw [add_plain] at this
      rw [this]
      simp [scells, hj] at hu
      rw [← hu]
    · intro x hx
      obtain ⟨i, hi, rfl⟩ := List.mem_map.1 hx
      exact (hq i (List.mem_range.1 hi)).2
/-- parts in a slice that is read; ih: how one part is -/
theorem open_parts_of {t sl : TypeId} {fuel : Nat} {v : Value} {y : DataW H × List MemPlace} (u4 : P.underlying sl = some (.slice t)) (hC : P.cellsOf t = 5)
    (ih : ∀ n', n' < fuel → ∀ (cs : List Value) (x : DataW H × List MemPlace), DataW.trod enc P w 0 spare held n' t cs = some x →
      ∃ (nd : Pt) (c0 c1 c2 c3 c4 : Value), cs = [c0, c1, c2, c3, c4] ∧ InP w (All w) nd (.agg #[c0, c1, c2, c3, c4]) ∧ Pt.Fit nd)
    (g4 : DataW.trod enc P w 0 spare held fuel sl [v] = some y) :
    ∃ (A : Option Addr) (c : Nat) (xs : List Pt), v = .slice A xs.length c ∧ RdP w (All w) A xs ∧ xs.length ≤ c ∧ c ≤ maxLen ∧ Pt.Fits xs := by
  rcases DataW.trod_slice u4 g4 with ⟨hcs, _⟩ | ⟨a, len, cap, elems, rest, n', hfu2, hcs, _, _, hle, hcm, hel, helem, _, _⟩
  · simp at hcs
    subst hcs
    exact ⟨none, 0, [], rfl, fun h => absurd rfl h, Nat.le_refl 0, by simp [maxLen], trivial⟩
  · simp at hcs
    subst hcs
    have each : ∀ i, i < len → ∃ q : Pt, ∃ v, (∃ d0 d1 d2 d3 d4, v = Value.agg #[d0, d1, d2, d3, d4] ∧ w.cell? (a.add (i * 5)) = some d0 ∧ w.cell? (a.add (i * 5 + 1)) = some d1 ∧ w.cell? (a.add (i * 5 + 2)) = some d2 ∧ w.cell? (a.add (i * 5 + 3)) = some d3 ∧ w.cell? (a.add (i * 5 + 4)) = some d4) ∧ InP w (All w) q v ∧ Pt.Fit q := by
      intro i hi
      have h1 := helem i hi
      rw [List.getElem?_eq_getElem (by omega), Option.bind_eq_some_iff] at h1
      obtain ⟨cs', h2, h3⟩ := h1
      rw [hC] at h2
      obtain ⟨_, hlen5, hcell⟩ := World.cells?_some h2
      obtain ⟨nd, c0, c1, c2, c3, c4, rfl, hin, hfit⟩ := ih n' (by omega) cs' _ h3
      have e0 := hcell 0 (by omega)
      have e1 := hcell 1 (by omega)
      have e2 := hcell 2 (by omega)
      have e3 := hcell 3 (by omega)
      have e4 := hcell 4 (by omega)
      rw [add_add] at e0 e1 e2 e3 e4
      simp at e0 e1 e2 e3 e4
      exact ⟨nd, _, ⟨c0, c1, c2, c3, c4, rfl, e0, e1, e2, e3, e4⟩, hin, hfit⟩
    obtain ⟨q, hq⟩ := choose_lt each
    have hlen : ((List.range len).map q).length = len := by simp
    refine ⟨some a, cap, (List.range len).map q, by rw [hlen], ?_, by rw [hlen]; exact hle, hcm, Pt.fits_all fun x hx => ?_⟩
    · intro hne
      have h0 : 0 < len := by
        rcases Nat.eq_zero_or_pos len with h | h
        · subst h; exact absurd rfl hne
        · exact h
      obtain ⟨v, ⟨d0, d1, d2, d3, d4, _, p0, _⟩, _⟩ := hq 0 h0
      obtain ⟨b, o, rfl, hb⟩ := cell_plainN (by simpa [Addr.add] using p0)
      refine ⟨b, o, rfl, hb, InPs.of_get fun i hi => ?_⟩
      rw [hlen] at hi
      obtain ⟨v, ⟨d0, d1, d2, d3, d4, e, p0, p1, p2, p3, p4⟩, hin, _⟩ := hq i hi
      rw [add_plain] at p0 p1 p2 p3 p4
      refine ⟨v, ⟨d0, d1, d2, d3, d4, e, p0, by rw [Nat.add_assoc]; exact p1, by rw [Nat.add_assoc]; exact p2, by rw [Nat.add_assoc]; exact p3, by rw [Nat.add_assoc]; exact p4⟩, ?_⟩
      simpa using hin
    · obtain ⟨i, hi, rfl⟩ := List.mem_map.1 hx
      obtain ⟨_, _, _, h⟩ := hq i (List.mem_range.1 hi)
      exact h
/-- the five cells of a part that is read -/
theorem open_part_cs {t : TypeId} {f0 f1 f2 f3 f4 : Field} (hs : P.underlying t = some (.struct #[f0, f1, f2, f3, f4])) (hone : oneCellFields P #[f0, f1, f2, f3, f4] = true) (hC : P.cellsOf t = 5)
    (u0 : P.underlying f0.type = some (.int .i64)) (u1 : P.underlying f1.type = some .string) (u2 : P.underlying f2.type = some .string) (u3 : P.underlying f3.type = some (.slice t)) (u4 : P.underlying f4.type = some (.slice t)) :
    ∀ (fuel : Nat) (cs : List Value) (x : DataW H × List MemPlace), DataW.trod enc P w 0 spare held fuel t cs = some x →
      ∃ (nd : Pt) (c0 c1 c2 c3 c4 : Value), cs = [c0, c1, c2, c3, c4] ∧ InP w (All w) nd (.agg #[c0, c1, c2, c3, c4]) ∧ Pt.Fit nd := by
  intro fuel
  induction fuel using Nat.strongRecOn with
  | _ fuel ih =>
  intro cs x h
  obtain ⟨xs, n, hfu, _, hl, hlen, hf⟩ := DataW.trod_struct hs h
  rw [hC] at hl
  match cs, hl with
  | [v0, v1, v2, v3, v4], _ =>
  obtain ⟨o0, k0⟩ := hone_of hone 0 f0 rfl
  obtain ⟨o1, k1⟩ := hone_of hone 1 f1 rfl
  obtain ⟨o2, k2⟩ := hone_of hone 2 f2 rfl
  obtain ⟨o3, k3⟩ := hone_of hone 3 f3 rfl
  obtain ⟨o4, k4⟩ := hone_of hone 4 f4 rfl
  match xs, hlen with
  | [y0, y1, y2, y3, y4], _ =>
  have g0 : DataW.trod enc P w 0 spare held n f0.type [v0] = some y0 := by simpa [o0, k0] using hf 0 f0 rfl
  have g1 : DataW.trod enc P w 0 spare held n f1.type [v1] = some y1 := by simpa [o1, k1] using hf 1 f1 rfl
  have g2 : DataW.trod enc P w 0 spare held n f2.type [v2] = some y2 := by simpa [o2, k2] using hf 2 f2 rfl
  have g3 : DataW.trod enc P w 0 spare held n f3.type [v3] = some y3 := by simpa [o3, k3] using hf 3 f3 rfl
  have g4 : DataW.trod enc P w 0 spare held n f4.type [v4] = some y4 := by simpa [o4, k4] using hf 4 f4 rfl
  obtain ⟨z0, q0, _, _⟩ := DataW.trod_int u0 g0
  obtain ⟨s1, q1, _, l1⟩ := DataW.trod_string u1 g1
  obtain ⟨s2, q2, _, l2⟩ := DataW.trod_string u2 g2
  obtain ⟨Ap, cp, ps, rfl, hrp, hcp, hmp, hfp⟩ := open_parts_of u3 hC (fun n' hn' => ih n' (by omega)) g3
  obtain ⟨Ao, co, os, rfl, hro, hco, hmo, hfo⟩ := open_parts_of u4 hC (fun n' hn' => ih n' (by omega)) g4
  simp at q0 q1 q2
  subst q0
  subst q1
  subst q2
  obtain ⟨t1, rfl⟩ := tx_of s1
  obtain ⟨t2, rfl⟩ := tx_of s2
  have hz : ∀ t : Tx, (⟨t.toArray⟩ : ByteArray).size = t.length := fun t => by show t.toArray.size = _; simp
  have hz1 := hz t1
  have hz2 := hz t2
  refine ⟨.mk z0 t1 t2 ps os, _, _, _, _, _, rfl, InP.mk hcp hco hrp hro, ?_⟩
  simp only [Pt.Fit]
  exact ⟨by omega, by omega, Nat.le_trans hcp hmp, Nat.le_trans hco hmo, hfp, hfo⟩
/-- the four cells of a field that is read -/
theorem open_field_cs {t e : TypeId} {f0 f1 f2 f3 : Field} (hs : P.underlying t = some (.struct #[f0, f1, f2, f3])) (hone : oneCellFields P #[f0, f1, f2, f3] = true) (hC : P.cellsOf t = 4)
    (u0 : P.underlying f0.type = some .string) (u1 : P.underlying f1.type = some .string) (u2 : P.underlying f2.type = some .bool) (u3 : P.underlying f3.type = some (.slice e)) (ue : P.underlying e = some .string) (ce : P.cellsOf e = 1)
    (fuel : Nat) (cs : List Value) (x : DataW H × List MemPlace) (h : DataW.trod enc P w 0 spare held fuel t cs = some x) :
      ∃ (nd : Fd) (c0 c1 c2 c3 : Value), cs = [c0, c1, c2, c3] ∧ InF w (All w) nd (.agg #[c0, c1, c2, c3]) ∧ Fd.Fit nd := by
  obtain ⟨xs, n, hfu, _, hl, hlen, hf⟩ := DataW.trod_struct hs h
  rw [hC] at hl
  match cs, hl with
  | [v0, v1, v2, v3], _ =>
  obtain ⟨o0, k0⟩ := hone_of hone 0 f0 rfl
  obtain ⟨o1, k1⟩ := hone_of hone 1 f1 rfl
  obtain ⟨o2, k2⟩ := hone_of hone 2 f2 rfl
  obtain ⟨o3, k3⟩ := hone_of hone 3 f3 rfl
  match xs, hlen with
  | [y0, y1, y2, y3], _ =>
  have g0 : DataW.trod enc P w 0 spare held n f0.type [v0] = some y0 := by simpa [o0, k0] using hf 0 f0 rfl
  have g1 : DataW.trod enc P w 0 spare held n f1.type [v1] = some y1 := by simpa [o1, k1] using hf 1 f1 rfl
  have g2 : DataW.trod enc P w 0 spare held n f2.type [v2] = some y2 := by simpa [o2, k2] using hf 2 f2 rfl
  have g3 : DataW.trod enc P w 0 spare held n f3.type [v3] = some y3 := by simpa [o3, k3] using hf 3 f3 rfl
  obtain ⟨s0, q0, _, l0⟩ := DataW.trod_string u0 g0
  obtain ⟨s1, q1, _, l1⟩ := DataW.trod_string u1 g1
  obtain ⟨z2, q2, _⟩ := DataW.trod_bool u2 g2
  obtain ⟨An, cn, ns, rfl, hr, hfs, hc, hm⟩ := open_texts_n u3 ue ce g3
  simp at q0 q1 q2
  subst q0
  subst q1
  subst q2
  obtain ⟨t0, rfl⟩ := tx_of s0
  obtain ⟨t1, rfl⟩ := tx_of s1
  have hz : ∀ t : Tx, (⟨t.toArray⟩ : ByteArray).size = t.length := fun t => by show t.toArray.size = _; simp
  have hz0 := hz t0
  have hz1 := hz t1
  exact ⟨⟨t0, t1, z2, ns⟩, _, _, _, _, rfl, ⟨An, cn, rfl, RdIn.of hr (fun _ h => h), hc⟩, by show t0.length ≤ _; omega, by show t1.length ≤ _; omega, hfs, Nat.le_trans hc hm⟩
/-- fields in a slice that is read -/
theorem open_fields {t sl e : TypeId} {f0 f1 f2 f3 : Field} {fuel : Nat} {v : Value} {y : DataW H × List MemPlace} (u : P.underlying sl = some (.slice t)) (hs : P.underlying t = some (.struct #[f0, f1, f2, f3])) (hone : oneCellFields P #[f0, f1, f2, f3] = true) (hC : P.cellsOf t = 4)
    (u0 : P.underlying f0.type = some .string) (u1 : P.underlying f1.type = some .string) (u2 : P.underlying f2.type = some .bool) (u3 : P.underlying f3.type = some (.slice e)) (ue : P.underlying e = some .string) (ce : P.cellsOf e = 1)
    (g4 : DataW.trod enc P w 0 spare held fuel sl [v] = some y) :
    ∃ (A : Option Addr) (c : Nat) (xs : List Fd), v = .slice A xs.length c ∧ RdF w (All w) A xs ∧ xs.length ≤ c ∧ c ≤ maxLen ∧ ∀ x ∈ xs, Fd.Fit x := by
  rcases DataW.trod_slice u g4 with ⟨hcs, _⟩ | ⟨a, len, cap, elems, rest, n', hfu2, hcs, _, _, hle, hcm, hel, helem, _, _⟩
  · simp at hcs
    subst hcs
    exact ⟨none, 0, [], rfl, fun h => absurd rfl h, Nat.le_refl 0, by simp [maxLen], (fun x hx => by cases hx)⟩
  · simp at hcs
    subst hcs
    have each : ∀ i, i < len → ∃ q : Fd, ∃ v, (∃ d0 d1 d2 d3, v = Value.agg #[d0, d1, d2, d3] ∧ w.cell? (a.add (i * 4)) = some d0 ∧ w.cell? (a.add (i * 4 + 1)) = some d1 ∧ w.cell? (a.add (i * 4 + 2)) = some d2 ∧ w.cell? (a.add (i * 4 + 3)) = some d3) ∧ InF w (All w) q v ∧ Fd.Fit q := by
      intro i hi
      have h1 := helem i hi
      rw [List.getElem?_eq_getElem (by omega), Option.bind_eq_some_iff] at h1
      obtain ⟨cs', h2, h3⟩ := h1
      rw [hC] at h2
      obtain ⟨_, hlen5, hcell⟩ := World.cells?_some h2
      obtain ⟨nd, c0, c1, c2, c3, rfl, hin, hfit⟩ := open_field_cs hs hone hC u0 u1 u2 u3 ue ce n' cs' _ h3
      have e0 := hcell 0 (by omega)
      have e1 := hcell 1 (by omega)
      have e2 := hcell 2 (by omega)
      have e3 := hcell 3 (by omega)
      rw [add_add] at e0 e1 e2 e3
      simp at e0 e1 e2 e3
      exact ⟨nd, _, ⟨c0, c1, c2, c3, rfl, e0, e1, e2, e3⟩, hin, hfit⟩
    obtain ⟨q, hq⟩ := choose_lt each
    have hlen : ((List.range len).map q).length = len := by simp
    refine ⟨some a, cap, (List.range len).map q, by rw [hlen], ?_, by rw [hlen]; exact hle, hcm, fun x hx => ?_⟩
    · intro hne
      have h0 : 0 < len := by
        rcases Nat.eq_zero_or_pos len with h | h
        · subst h; exact absurd rfl hne
        · exact h
      obtain ⟨v, ⟨d0, d1, d2, d3, _, p0, _⟩, _⟩ := hq 0 h0
      obtain ⟨b, o, rfl, hb⟩ := cell_plainN (by simpa [Addr.add] using p0)
      refine ⟨b, o, rfl, hb, fun i hi => ?_⟩
      rw [hlen] at hi
      obtain ⟨v, ⟨d0, d1, d2, d3, e, p0, p1, p2, p3⟩, hin, _⟩ := hq i hi
      rw [add_plain] at p0 p1 p2 p3
      refine ⟨v, ⟨d0, d1, d2, d3, e, p0, by rw [Nat.add_assoc]; exact p1, by rw [Nat.add_assoc]; exact p2, by rw [Nat.add_assoc]; exact p3⟩, ?_⟩
      simpa using hin
    · obtain ⟨i, hi, rfl⟩ := List.mem_map.1 hx
      obtain ⟨_, _, _, h⟩ := hq i (List.mem_range.1 hi)
      exact h
/-- an argument that is a desk -/
theorem open_desk {t tp tf e : TypeId} {g0 g1 p0 p1 p2 p3 p4 d0 d1 d2 d3 : Field} {v : Value} {d : DataW H} {p : List MemPlace} (hs : P.underlying t = some (.struct #[g0, g1])) (hone : oneCellFields P #[g0, g1] = true) (hC : P.cellsOf t = 2)
    (ug0 : P.underlying g0.type = some (.slice tp)) (ug1 : P.underlying g1.type = some (.slice tf))
    (hsp : P.underlying tp = some (.struct #[p0, p1, p2, p3, p4])) (honep : oneCellFields P #[p0, p1, p2, p3, p4] = true) (hCp : P.cellsOf tp = 5)
    (v0 : P.underlying p0.type = some (.int .i64)) (v1 : P.underlying p1.type = some .string) (v2 : P.underlying p2.type = some .string) (v3 : P.underlying p3.type = some (.slice tp)) (v4 : P.underlying p4.type = some (.slice tp))
    (hsf : P.underlying tf = some (.struct #[d0, d1, d2, d3])) (honef : oneCellFields P #[d0, d1, d2, d3] = true) (hCf : P.cellsOf tf = 4)
    (u0 : P.underlying d0.type = some .string) (u1 : P.underlying d1.type = some .string) (u2 : P.underlying d2.type = some .bool) (u3 : P.underlying d3.type = some (.slice e)) (ue : P.underlying e = some .string) (ce : P.cellsOf e = 1)
    (hv : Value.okWide P w .any 0 t v) (h : DataW.Trod enc P w 0 spare held t v d p) : ∃ x : Dk, InD w (All w) x v ∧ Dk.Fit x := by
  obtain ⟨cs, rfl, hsz⟩ := okWide_struct hs hv
  obtain ⟨fuel, hf⟩ := h
  obtain ⟨xs, n, hfu, _, hl, hlen, hff⟩ := DataW.trod_struct hs hf
  rw [hC] at hl
  obtain ⟨o0, k0⟩ := hone_of hone 0 g0 rfl
  obtain ⟨o1, k1⟩ := hone_of hone 1 g1 rfl
  obtain ⟨l⟩ := cs
  change l.length = 2 at hl
  match l, hl with
  | [a0, a1], _ =>
  match xs, hlen with
  | [y0, y1], _ =>
  have h0 : DataW.trod enc P w 0 spare held n g0.type [a0] = some y0 := by simpa [o0, k0, Value.cells] using hff 0 g0 rfl
  have h1 : DataW.trod enc P w 0 spare held n g1.type [a1] = some y1 := by simpa [o1, k1, Value.cells] using hff 1 g1 rfl
  obtain ⟨Ap, cp, ps, rfl, hrp, hcp, hmp, hfp⟩ := open_parts_of ug0 hCp (fun n' _ cs x hx => open_part_cs hsp honep hCp v0 v1 v2 v3 v4 n' cs x hx) h0
  obtain ⟨Ad, cd, fs, rfl, hrf, hcd, hmd, hfd⟩ := open_fields ug1 hsf honef hCf u0 u1 u2 u3 ue ce h1
  exact ⟨⟨ps, fs⟩, ⟨Ap, cp, Ad, cd, rfl, hrp, hcp, hrf, hcd⟩, hfp, Nat.le_trans hcp hmp, hfd, Nat.le_trans hcd hmd⟩
end
end Go.Proofs.Ytginghjgfippiaa
