/- Slices of pairs: conversion, size, equality: walks. -/
import Derived.Test.YtginghjgfippiaaPairs
namespace Go.Proofs.Ytginghjgfippiaa
open Go.RowKit

abbrev Pr := Tx × Tx
/-- the cells of pairs that lie one behind the other -/
def pcells : List Pr → List Value
  | [] => []
  | p :: t => sv p.1 :: sv p.2 :: pcells t
theorem pcells_length : ∀ ps : List Pr, (pcells ps).length = ps.length * 2
  | [] => rfl
  | p :: t => by simp [pcells, pcells_length t]; omega
theorem pcells_append : ∀ ps qs : List Pr, pcells (ps ++ qs) = pcells ps ++ pcells qs
  | [], _ => rfl
  | p :: t, qs => by simp [pcells, pcells_append t qs]
theorem pcells_fst : ∀ (ps : List Pr) (k : Nat) (h : k < ps.length), (pcells ps)[k * 2]? = some (sv ps[k].1)
  | p :: t, 0, _ => rfl
  | p :: t, k + 1, h => by
    have := pcells_fst t k (by simpa using h)
    rw [show (k + 1) * 2 = k * 2 + 1 + 1 by omega]
    simpa [pcells] using this
theorem pcells_snd : ∀ (ps : List Pr) (k : Nat) (h : k < ps.length), (pcells ps)[k * 2 + 1]? = some (sv ps[k].2)
  | p :: t, 0, _ => rfl
  | p :: t, k + 1, h => by
    have := pcells_snd t k (by simpa using h)
    rw [show (k + 1) * 2 + 1 = k * 2 + 1 + 1 + 1 by omega]
    simpa [pcells] using this
theorem pcells_ne {ps : List Pr} {k : Nat} (h : k < ps.length) : pcells ps ≠ [] := by
  cases ps with
  | nil => simp at h
  | cons p t => simp [pcells]
theorem Rd.pair {w : World} {B : Nat} {A : Option Addr} {ps : List Pr} (h : Rd w B A (pcells ps)) {k : Nat} (hk : k < ps.length) :
    ∃ b o, A = some ⟨b, o, none⟩ ∧ b < B ∧ w.cell? ⟨b, o + k * 2, none⟩ = some (sv ps[k].1) ∧ w.cell? ⟨b, o + k * 2 + 1, none⟩ = some (sv ps[k].2) := by
  obtain ⟨b, o, e, hb, hc⟩ := h (pcells_ne hk)
  exact ⟨b, o, e, hb, hc _ _ (pcells_fst ps k hk), hc _ _ (pcells_snd ps k hk)⟩

/-- the bytes of pairs, together -/
def psize : List Pr → Nat
  | [] => 0
  | p :: t => p.1.length + p.2.length + psize t










theorem pcells_one : ∀ (ps : List Pr), ∀ u ∈ pcells ps, u.oneCell' = true
  | [], u, h => by cases h
  | p :: t, u, h => by
    simp only [pcells, List.mem_cons] at h
    rcases h with rfl | rfl | h
    · rfl
    · rfl
    · exact pcells_one t u h


theorem pcells_split {ps : List Pr} {k : Nat} (h : k < ps.length) : pcells (ps.take (k + 1)) = pcells (ps.take k) ++ [sv ps[k].1, sv ps[k].2] := by
  rw [take_snoc ps k h, pcells_append]; rfl


end Go.Proofs.Ytginghjgfippiaa
