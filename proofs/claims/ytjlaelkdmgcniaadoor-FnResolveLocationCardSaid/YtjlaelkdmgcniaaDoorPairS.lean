/- Slices of pairs: conversion, size, equality: walks. -/
import Derived.Test.YtjlaelkdmgcniaaDoorPairs
namespace Go.Proofs.YtjlaelkdmgcniaaDoor
open Go.RowKit

abbrev Pr := Tx × Tx
/-- the cells of pairs that lie one behind the other -/
def pcells : List Pr → List Value
  | [] => []
  | p :: t => sv p.1 :: sv p.2 :: pcells t
theorem pcells_length : ∀ ps : List Pr, (pcells ps).length = ps.length * 2
  | [] => rfl
  | p :: t => by simp [pcells, pcells_length t]; omega
theorem pcells_append : ∀ ps qs : List Pr, pcells (ps ++ qs) = pcells ps ++ pcells qs
  | [], _ => rfl
  | p :: t, qs => by simp [pcells, pcells_append t qs]
theorem pcells_fst : ∀ (ps : List Pr) (k : Nat) (h : k < ps.length), (pcells ps)[k * 2]? = some (sv ps[k].1)
  | p :: t, 0, _ => rfl
  | p :: t, k + 1, h => by
    have := pcells_fst t k (by simpa using h)
    rw [show (k + 1) * 2 = k * 2 + 1 + 1 by omega]
    simpa [pcells] using this
theorem pcells_snd : ∀ (ps : List Pr) (k : Nat) (h : k < ps.length), (pcells ps)[k * 2 + 1]? = some (sv ps[k].2)
  | p :: t, 0, _ => rfl
  | p :: t, k + 1, h => by
    have := pcells_snd t k (by simpa using h)
    rw [show (k + 1) * 2 + 1 = k * 2 + 1 + 1 + 1 by omega]
    simpa [pcells] using this
theorem pcells_ne {ps : List Pr} {k : Nat} (h : k < ps.length) : pcells ps ≠ [] := by
  cases ps with
  | nil => simp at h
  | cons p t => simp [pcells]
theorem Rd.pair {w : World} {B : Nat} {A : Option Addr} {ps : List Pr} (h : Rd w B A (pcells ps)) {k : Nat} (hk : k < ps.length) :
    ∃ b o, A = some ⟨b, o, none⟩ ∧ b < B ∧ w.cell? ⟨b, o + k * 2, none⟩ = some (sv ps[k].1) ∧ w.cell? ⟨b, o + k * 2 + 1, none⟩ = some (sv ps[k].2) := by
  obtain ⟨b, o, e, hb, hc⟩ := h (pcells_ne hk)
  exact ⟨b, o, e, hb, hc _ _ (pcells_fst ps k hk), hc _ _ (pcells_snd ps k hk)⟩

/-- the bytes of pairs, together -/
def psize : List Pr → Nat
  | [] => 0
  | p :: t => p.1.length + p.2.length + psize t




theorem Tryd.info_Pair : (Tryd.prog.info? 73).map (fun i => (i.zero, i.size, i.bytes)) = some (some (.agg #[.string ⟨#[]⟩, .string ⟨#[]⟩]), 2, 32) := by kernel_rfl

/-- pairs in a row of the call's own -/
def OwnP (w : World) (base : Nat) (A : Option Addr) (c : Nat) (ps : List Pr) : Prop := w.ownsRow base 73 2 (.slice A ps.length c) ps.length (pcells ps)

/-- the call returned new pairs -/
def NewP (w : World) (ps : List Pr) (e : Ending) (w' : World) : Prop := ∃ A c, e = .returned (.slice A ps.length c) ∧ OwnP w' w.heap.size A c ps ∧ Below w.heap.size w w'

/-- the call returned new pairs and a bool -/
def NewPB (w : World) (r : List Pr × Bool) (e : Ending) (w' : World) : Prop := ∃ A c, e = .returned (.tuple #[.slice A r.1.length c, .bool r.2]) ∧ OwnP w' w.heap.size A c r.1 ∧ Below w.heap.size w w'

theorem ownP_nil (w : World) (base : Nat) : OwnP w base none 0 [] := World.ownsRow_nil w base _ 2
theorem ownP_empty (w : World) (base : Nat) (h : base ≤ w.heap.size) : OwnP (w.alloc (.cells #[] 73)) base (some ⟨w.heap.size, 0, none⟩) 0 [] := World.ownsRow_lit w #[] 0 h (by simp [maxLen]) rfl
theorem ownP_keep {w w' : World} {base c : Nat} {A : Option Addr} {ps : List Pr} (h : OwnP w base A c ps) (hb : Below w.heap.size w w') : OwnP w' base A c ps := own_below h hb
theorem ownP_rd {w : World} {base c : Nat} {A : Option Addr} {ps : List Pr} (h : OwnP w base A c ps) : Rd w w.heap.size A (pcells ps) := Rd.of_own h
theorem ownP_row {w : World} {base c : Nat} {A : Option Addr} {ps : List Pr} (h : OwnP w base A c ps) : ∀ g, Value.ownBlock (.slice A ps.length c) = some g → base ≤ g := fun g hg => (h.lt g hg).1

/-- one pair appended to pairs of the call's own -/
theorem app_pair {ops : Array Oper} {rest : List Oper} {o : Oper} {a : Act} {Q : Exit → Act → World → Prop} {W : World} (hgd : o.guard = none) (s x : Operand)
    (ho : o.op = .call { callee := .builtin .append, args := #[s, x], argTypes := #[54, 54] }) (base : Nat) (A : Option Addr) (c n : Nat) (ps : List Pr) (p : Pr)
    (hs : a.eval s = .slice A n c) (hn : n = ps.length) (hown : OwnP W base A c ps) (g : Nat) (hx : a.eval x = .slice (some ⟨g, 0, none⟩) 1 1) (hg : g = W.heap.size) (hlen : ps.length ≤ 4294967296) (hbase : base ≤ W.heap.size)
    (h : ∀ A' c' w', OwnP w' base A' c' (ps ++ [p]) → W.grownBy w' (Value.ownBlock (.slice A ps.length c)) → wpList Tryd.prog ops Q rest (a.put o.dst (.slice A' (ps.length + 1) c')) w') :
    wpList Tryd.prog ops Q (o :: rest) a (W.alloc (.cells #[sv p.1, sv p.2] 73)) := by
  subst hn
  subst hg
  obtain ⟨i0, hi, hz0, hz1, hz2⟩ := info_parts Tryd.info_Pair
  refine wpList_append_own _ hgd s x _ ho base _ i0 _ 2 32 Tryd.underlying54 hi hz0 hz1 hz2 rfl (by decide) _ _ _ hs (World.ownsRow.alloc hown _) ⟨W.heap.size, 0, none⟩ 1 1 [sv p.1, sv p.2] hx rfl ?_ ?_ (by unfold maxLen; omega) (by omega) (by simp; omega) ?_
  · intro j u hj
    have h1 : (W.alloc (.cells #[sv p.1, sv p.2] 73)).cell? ⟨W.heap.size, j, none⟩ = #[sv p.1, sv p.2][j]? := World.cell?_alloc_at _ _ _ _ rfl
    rw [Addr.add_lit, Nat.zero_add, h1]
    simpa using hj
  · intro u hu
    simp at hu
    rcases hu with rfl | rfl <;> rfl
  · intro v' w' ho' hg' _
    obtain ⟨A', c', rfl, _, _⟩ := own_shape ho'
    refine h A' c' w' ?_ (grown_trans (World.grownBy_alloc W _ _) hg')
    unfold OwnP
    rw [List.length_append, pcells_append]
    exact ho'

theorem pcells_one : ∀ (ps : List Pr), ∀ u ∈ pcells ps, u.oneCell' = true
  | [], u, h => by cases h
  | p :: t, u, h => by
    simp only [pcells, List.mem_cons] at h
    rcases h with rfl | rfl | h
    · rfl
    · rfl
    · exact pcells_one t u h

/-- pairs that lie elsewhere appended to pairs of the call's own -/
theorem app_pairs {ops : Array Oper} {rest : List Oper} {o : Oper} {a : Act} {Q : Exit → Act → World → Prop} {W : World} (hgd : o.guard = none) (s x : Operand)
    (ho : o.op = .call { callee := .builtin .append, args := #[s, x], argTypes := #[54, 54] }) (base : Nat) (A : Option Addr) (c n : Nat) (ps qs : List Pr) (A' : Option Addr) (m c' B : Nat)
    (hs : a.eval s = .slice A n c) (hn : n = ps.length) (hown : OwnP W base A c ps) (hx : a.eval x = .slice A' m c') (hm : m = qs.length) (hA' : A' = none → c' = 0) (hrd : Rd W B A' (pcells qs)) (hlen : ps.length + qs.length ≤ 4294967296) (hbase : base ≤ W.heap.size)
    (h : ∀ A2 c2 w', OwnP w' base A2 c2 (ps ++ qs) → W.grownBy w' (Value.ownBlock (.slice A ps.length c)) → wpList Tryd.prog ops Q rest (a.put o.dst (.slice A2 (ps.length + qs.length) c2)) w') :
    wpList Tryd.prog ops Q (o :: rest) a W := by
  subst hn
  subst hm
  obtain ⟨i0, hi, hz0, hz1, hz2⟩ := info_parts Tryd.info_Pair
  refine app_rows hgd s x ho Tryd.underlying54 hi hz0 hz1 hz2 rfl (by decide) _ hs hown A' qs.length c' (pcells qs) hx hA' (pcells_length _) hrd (pcells_one _) (by unfold maxLen; omega) (by omega) hbase ?_
  intro v' w' ho' hg'
  obtain ⟨A2, c2, rfl, _, _⟩ := own_shape ho'
  refine h A2 c2 w' ?_ hg'
  unfold OwnP
  rw [List.length_append, pcells_append]
  exact ho'

theorem pcells_split {ps : List Pr} {k : Nat} (h : k < ps.length) : pcells (ps.take (k + 1)) = pcells (ps.take k) ++ [sv ps[k].1, sv ps[k].2] := by
  rw [take_snoc ps k h, pcells_append]; rfl


end Go.Proofs.YtjlaelkdmgcniaaDoor
