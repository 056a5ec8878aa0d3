/- Slices of texts in the laws: conversion, size, equality, marks: walks. -/
import Derived.Test.YtjlaelkdmgcniaaDoorStrs
import Derived.Test.YtjlaelkdmgcniaaDoorMark
import Derived.Deep.RegionHeld3
import Derived.Deep.QuietTactic
import Derived.BigQuiet
namespace Go.Proofs.YtjlaelkdmgcniaaDoor
open Go.RowKit

abbrev scells (xs : List Tx) : List Value := xs.map sv
theorem scells_one (xs : List Tx) : ∀ u ∈ scells xs, u.oneCell' = true := by
  intro u hu
  simp only [scells, List.mem_map] at hu
  obtain ⟨x, _, rfl⟩ := hu
  rfl
theorem Rd.str {w : World} {B : Nat} {A : Option Addr} {xs : List Tx} (h : Rd w B A (scells xs)) {k : Nat} (hk : k < xs.length) : ∃ b o, A = some ⟨b, o, none⟩ ∧ b < B ∧ w.cell? ⟨b, o + k, none⟩ = some (sv xs[k]) := by
  have hne : scells xs ≠ [] := by
    intro e
    have := congrArg List.length e
    simp at this
    subst this
    simp at hk
  obtain ⟨b, o, e, hb, hc⟩ := h hne
  exact ⟨b, o, e, hb, hc _ _ (by simp [hk])⟩
/-- texts of a length that the model can bear -/
def FitS (xs : List Tx) : Prop := ∀ x ∈ xs, x.length ≤ maxLen
/-- the bytes of texts, together -/
def ssize : List Tx → Nat
  | [] => 0
  | x :: t => x.length + ssize t
theorem ssize_drop : ∀ (xs : List Tx) (k : Nat) (h : k < xs.length), ssize (xs.drop k) = xs[k].length + ssize (xs.drop (k + 1))
  | x :: t, 0, _ => by simp [ssize]
  | x :: t, k + 1, h => by simpa using ssize_drop t k (by simpa using h)
theorem ssize_drop_le : ∀ (xs : List Tx) (k : Nat), ssize (xs.drop k) ≤ ssize xs
  | [], k => by simp
  | x :: t, 0 => by simp
  | x :: t, k + 1 => by have := ssize_drop_le t k; simp [ssize]; omega








end Go.Proofs.YtjlaelkdmgcniaaDoor
