/- Arguments of the laws, opened: slices of cookies. -/
import Derived.Test.YtlafdpndpjcklaaCookieS
import Derived.Deep.SlicePairs
import Derived.Lib.SmallJoins
namespace Go.Proofs.Ytlafdpndpjcklaa
open Go.RowKit Go.ChangeShapes Go.WideShapes Go.Deep

section
variable {H : Type} {enc : TypeId × Value → H} {P : Program} {w : World} {spare : Nat → Bool} {held : Bool}

theorem cell_plainC {w : World} {a : Addr} {v : Value} (h : w.cell? a = some v) : ∃ b o, a = ⟨b, o, none⟩ ∧ b < w.heap.size := by
  obtain ⟨b, o, spot⟩ := a
  have hs : spot = none := World.cell?_spot h
  subst hs
  refine ⟨b, o, rfl, ?_⟩
  rcases Nat.lt_or_ge b w.heap.size with hlt | hge
  · exact hlt
  · simp [World.cell?, Array.getElem?_eq_none hge] at h

theorem ownC_cap {w : World} {base c : Nat} {A : Option Addr} {ps : List Ck} (h : OwnC w base A c ps) : ps.length ≤ c := by
  obtain ⟨A', c', e, hc, _⟩ := own_shape h
  injection e with _ _ e3
  omega

theorem ccells_get : ∀ (ps : List Ck) (j : Nat) (u : Value), (ccells ps)[j]? = some u → ∃ (k : Nat) (h : k < ps.length), (j = k * 3 ∧ u = sv ps[k].1) ∨ (j = k * 3 + 1 ∧ u = sv ps[k].2.1) ∨ (j = k * 3 + 2 ∧ u = .int .i64 ps[k].2.2)
  | [], j, u, h => by simp [ccells] at h
  | p :: t, 0, u, h => by simp [ccells] at h; exact ⟨0, by simp, .inl ⟨by simp, by simp [h]⟩⟩
  | p :: t, 1, u, h => by simp [ccells] at h; exact ⟨0, by simp, .inr (.inl ⟨by simp, by simp [h]⟩)⟩
  | p :: t, 2, u, h => by simp [ccells] at h; exact ⟨0, by simp, .inr (.inr ⟨by simp, by simp [h]⟩)⟩
  | p :: t, j + 3, u, h => by
    have h' : (ccells t)[j]? = some u := by simpa [ccells] using h
    obtain ⟨k, hk, hh⟩ := ccells_get t j u h'
    refine ⟨k + 1, by simpa using hk, ?_⟩
    rcases hh with ⟨rfl, rfl⟩ | ⟨rfl, rfl⟩ | ⟨rfl, rfl⟩
    · exact .inl ⟨by omega, rfl⟩
    · exact .inr (.inl ⟨by omega, rfl⟩)
    · exact .inr (.inr ⟨by omega, rfl⟩)

theorem open_cookies {t e : TypeId} {f0 f1 f2 : Field} {v : Value} {d : DataW H} {p : List MemPlace} (ht : P.underlying t = some (.slice e)) (he : P.underlying e = some (.struct #[f0, f1, f2]))
    (ce : P.cellsOf e = 3) (o0 : f0.offset = 0) (o1 : f1.offset = 1) (o2 : f2.offset = 2) (c0 : P.cellsOf f0.type = 1) (c1 : P.cellsOf f1.type = 1) (c2 : P.cellsOf f2.type = 1)
    (u0 : P.underlying f0.type = some .string) (u1 : P.underlying f1.type = some .string) (u2 : P.underlying f2.type = some (.int .i64))
    (hv : Value.okWide P w .any 0 t v) (h : DataW.Trod enc P w 0 spare held t v d p) :
    ∃ A c ps, v = .slice A (List.length ps) c ∧ Rd w w.heap.size A (ccells ps) ∧ FitC ps ∧ ps.length ≤ c ∧ c ≤ maxLen := by
  obtain ⟨a0, len0, cap0, rfl⟩ := okWide_slice ht hv
  obtain ⟨fuel, hf⟩ := h
  rcases open_slice ht hf with ⟨hcs, _⟩ | ⟨a, len, cap, m, n, D, Pl, hcs, _, hl, hm, hmm, _, hx⟩
  · simp [Value.cells] at hcs
    obtain ⟨rfl, rfl, rfl⟩ := hcs
    exact ⟨none, 0, [], rfl, Rd.nil_, (fun p hp => by cases hp), by simp, by simp [maxLen]⟩
  · simp [Value.cells] at hcs
    obtain ⟨rfl, rfl, rfl⟩ := hcs
    have hlm : len0 ≤ m := by rw [hmm]; split <;> omega
    have each : ∀ i, i < len0 → ∃ q : Ck, w.cell? (a.add (i * 3)) = some (sv q.1) ∧ w.cell? (a.add (i * 3 + 1)) = some (sv q.2.1) ∧ w.cell? (a.add (i * 3 + 2)) = some (.int .i64 q.2.2) ∧ q.1.length ≤ maxLen ∧ q.2.1.length ≤ maxLen := by
      intro i hi
      obtain ⟨cs', h1, h2⟩ := hx i (by omega)
      rw [ce] at h1
      obtain ⟨_, hlen, hcell⟩ := World.cells?_some h1
      obtain ⟨y0, y1, y2, n', _, _, g0, g1, g2⟩ := trod_struct3 he h2
      match cs', hlen with
      | [v0, v1, v2], _ =>
        simp [o0, o1, o2, c0, c1, c2] at g0 g1 g2
        have e0 := hcell 0 (by omega)
        have e1 := hcell 1 (by omega)
        have e2 := hcell 2 (by omega)
        rw [add_add] at e0 e1 e2
        obtain ⟨s0, q0, _, l0⟩ := DataW.trod_string u0 g0
        obtain ⟨s1, q1, _, l1⟩ := DataW.trod_string u1 g1
        obtain ⟨z, q2, _, _⟩ := DataW.trod_int u2 g2
        simp at q0 q1 q2 e0 e1 e2
        obtain ⟨x, rfl⟩ := tx_of s0
        obtain ⟨y, rfl⟩ := tx_of s1
        exact ⟨(x, y, z), by rw [e0, q0], by rw [e1, q1], by rw [e2, q2], l0, l1⟩
    obtain ⟨q, hq⟩ := choose_lt each
    have hlen : ((List.range len0).map q).length = len0 := by simp
    refine ⟨some a, cap0, (List.range len0).map q, by rw [hlen], ?_, ?_, by rw [hlen]; exact hl, hm⟩
    · intro hne
      have h0 : 0 < len0 := by
        rcases Nat.eq_zero_or_pos len0 with h | h
        · subst h; exact absurd rfl hne
        · exact h
      obtain ⟨b, o, rfl, hb⟩ := cell_plainC (by simpa [Addr.add] using (hq 0 h0).1)
      refine ⟨b, o, rfl, hb, fun j u hu => ?_⟩
      obtain ⟨k, hk, hh⟩ := ccells_get _ j u hu
      have hk' : k < len0 := by simpa using hk
      obtain ⟨g1, g2, g3, _, _⟩ := hq k hk'
      rw [add_plain] at g1 g2 g3
      have eg : ((List.range len0).map q)[k] = q k := by simp
      rw [eg] at hh
      rcases hh with ⟨rfl, rfl⟩ | ⟨rfl, rfl⟩ | ⟨rfl, rfl⟩
      · exact g1
      · exact g2
      · exact g3
    · intro p hp
      obtain ⟨i, hi, rfl⟩ := List.mem_map.1 hp
      exact ⟨(hq i (List.mem_range.1 hi)).2.2.2.1, (hq i (List.mem_range.1 hi)).2.2.2.2⟩
theorem open_cookie {t : TypeId} {f0 f1 f2 : Field} {v : Value} {d : DataW H} {p : List MemPlace} (hs : P.underlying t = some (.struct #[f0, f1, f2])) (hone : oneCellFields P #[f0, f1, f2] = true) (hC : P.cellsOf t = 3)
    (u0 : P.underlying f0.type = some .string) (u1 : P.underlying f1.type = some .string) (u2 : P.underlying f2.type = some (.int .i64))
    (hv : Value.okWide P w .any 0 t v) (h : DataW.Trod enc P w 0 spare held t v d p) :
    ∃ (a b : Tx) (u : Int), v = .agg #[.string ⟨a.toArray⟩, .string ⟨b.toArray⟩, .int .i64 u] ∧ a.length ≤ maxLen ∧ b.length ≤ maxLen := by
  obtain ⟨v0, v1, v2, y0, y1, y2, n, rfl, _, _, g0, g1, g2⟩ := Go.Joins.open_agg3 hs hone hC hv h
  obtain ⟨s0, q0, _, l0⟩ := DataW.trod_string u0 g0
  obtain ⟨s1, q1, _, l1⟩ := DataW.trod_string u1 g1
  obtain ⟨z, q2, _, _⟩ := DataW.trod_int u2 g2
  simp at q0 q1 q2
  obtain ⟨x, rfl⟩ := tx_of s0
  obtain ⟨y, rfl⟩ := tx_of s1
  exact ⟨x, y, z, by rw [q0, q1, q2], l0, l1⟩
end

theorem fitC_of_size : ∀ {ps : List Ck} {n : Nat}, csize ps ≤ n → n ≤ maxLen → FitC ps
  | [], _, _, _ => fun p hp => by cases hp
  | q :: t, n, h, hn => fun p hp => by
    simp only [csize] at h
    rcases List.mem_cons.1 hp with rfl | hp
    · exact ⟨by omega, by omega⟩
    · exact fitC_of_size (n := n) (by omega) hn p hp

end Go.Proofs.Ytlafdpndpjcklaa
