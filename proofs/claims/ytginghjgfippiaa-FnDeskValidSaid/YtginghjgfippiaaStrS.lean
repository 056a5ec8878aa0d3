/- Slices of texts in the laws: conversion, size, equality, marks: walks. -/
import Derived.Test.YtginghjgfippiaaStrs
import Derived.Test.YtginghjgfippiaaMark
import Derived.Deep.RegionHeld3
import Derived.Deep.QuietTactic
import Derived.BigQuiet
namespace Go.Proofs.Ytginghjgfippiaa
open Go.RowKit

abbrev scells (xs : List Tx) : List Value := xs.map sv
theorem scells_one (xs : List Tx) : ∀ u ∈ scells xs, u.oneCell' = true := by
  intro u hu
  simp only [scells, List.mem_map] at hu
  obtain ⟨x, _, rfl⟩ := hu
  rfl
theorem Rd.str {w : World} {B : Nat} {A : Option Addr} {xs : List Tx} (h : Rd w B A (scells xs)) {k : Nat} (hk : k < xs.length) : ∃ b o, A = some ⟨b, o, none⟩ ∧ b < B ∧ w.cell? ⟨b, o + k, none⟩ = some (sv xs[k]) := by
  have hne : scells xs ≠ [] := by
    intro e
    have := congrArg List.length e
    simp at this
    subst this
    simp at hk
  obtain ⟨b, o, e, hb, hc⟩ := h hne
  exact ⟨b, o, e, hb, hc _ _ (by simp [hk])⟩
/-- texts of a length that the model can bear -/
def FitS (xs : List Tx) : Prop := ∀ x ∈ xs, x.length ≤ maxLen
/-- the bytes of texts, together -/
def ssize : List Tx → Nat
  | [] => 0
  | x :: t => x.length + ssize t
theorem ssize_drop : ∀ (xs : List Tx) (k : Nat) (h : k < xs.length), ssize (xs.drop k) = xs[k].length + ssize (xs.drop (k + 1))
  | x :: t, 0, _ => by simp [ssize]
  | x :: t, k + 1, h => by simpa using ssize_drop t k (by simpa using h)
theorem ssize_drop_le : ∀ (xs : List Tx) (k : Nat), ssize (xs.drop k) ≤ ssize xs
  | [], k => by simp
  | x :: t, 0 => by simp
  | x :: t, k + 1 => by have := ssize_drop_le t k; simp [ssize]; omega

set_option maxRecDepth 100000 in
set_option maxHeartbeats 1000000 in
theorem laws_szStringS_fits (xs : List Tx) (A : Option Addr) (c : Nat) (left : Int) (w : World) (hr : Rd w w.heap.size A (scells xs))
    (h0 : 0 ≤ left) (h1 : left ≤ 1048576) (hn : xs.length ≤ maxLen) (hfit : (xs.length : Int) + ssize xs ≤ left) :
    Calls Try.prog 66 #[.slice A xs.length c, .int .i64 left] w fun e w' => e = .returned (.int .i64 (left - xs.length - ssize xs)) ∧ w = w' := by
  unfold maxLen at hn
  go_enter Try.func66, Try.ntmps66
  go_wp2
  go_loop [1, 5] (fun l i => ∃ (k : Nat) (lf : Int), k ≤ xs.length ∧ i = .int .i64 k ∧ l = .int .i64 lf ∧ 0 ≤ lf ∧ lf ≤ 1048576 ∧ lf - ssize (xs.drop k) = left - xs.length - ssize xs) (fun _ i => xs.length - (intOf i).toNat)
  case atStart => exact ⟨0, _, Nat.zero_le _, rfl, rfl, by omega, by omega, by simp⟩
  case round =>
    obtain ⟨k, lf, hk, rfl, rfl, hlf0, hlf1, hrest⟩ := hrel
    have H := Lib.hid hrest
    by_cases hlt : k < xs.length
    · obtain ⟨b, o, rfl, hab, hc0⟩ := hr.str hlt
      clear hrest
      have hps := ssize_drop xs k hlt
      have hle := ssize_drop_le xs (k + 1)
      have hnn : 0 ≤ lf - (xs[k].length : Int) := by have := H.out; omega
      have HP := Lib.hid hps
      clear hps
      go_wp2
      go_round
      case rel => 
        have := HP.out; have := H.out
        exact ⟨k + 1, _, by omega, by go_num, rfl, by omega, by omega, by omega⟩
      case measure => simp [intOf]; omega
    · go_wp2
      go_ret
      refine ⟨ret_int ?_, rfl⟩
      have e : xs.drop k = [] := drop_nil xs k (by omega)
      rw [e] at hrest
      simp [ssize] at hrest
      omega

set_option maxRecDepth 100000 in
set_option maxHeartbeats 1000000 in
theorem laws_szStringS_over (xs : List Tx) (A : Option Addr) (c : Nat) (left : Int) (w : World) (hr : Rd w w.heap.size A (scells xs)) (hl : FitS xs)
    (h0 : 0 ≤ left) (h1 : left ≤ 1048576) (hn : xs.length ≤ maxLen) (hfit : left < (xs.length : Int) + ssize xs) :
    Calls Try.prog 66 #[.slice A xs.length c, .int .i64 left] w fun e w' => e = .returned (.int .i64 (-1)) ∧ w = w' := by
  unfold maxLen at hn
  by_cases hz : left < xs.length
  · go_enter Try.func66, Try.ntmps66
    go_wp2
    go_ret
    exact ⟨rfl, rfl⟩
  go_enter Try.func66, Try.ntmps66
  go_wp2
  go_loop [1, 5] (fun l i => ∃ (k : Nat) (lf : Int), k ≤ xs.length ∧ i = .int .i64 k ∧ l = .int .i64 lf ∧ 0 ≤ lf ∧ lf ≤ 1048576 ∧ lf < ssize (xs.drop k)) (fun _ i => xs.length - (intOf i).toNat)
  case atStart => exact ⟨0, _, Nat.zero_le _, rfl, rfl, by omega, by omega, by simp; omega⟩
  case round =>
    obtain ⟨k, lf, hk, rfl, rfl, hlf0, hlf1, hrest⟩ := hrel
    by_cases hlt : k < xs.length
    · obtain ⟨b, o, rfl, hab, hc0⟩ := hr.str hlt
      have HP := Lib.hid (ssize_drop xs k hlt)
      have hla := hl _ (List.getElem_mem hlt)
      unfold maxLen at hla
      by_cases ho : lf < (xs[k].length : Int)
      · go_wp2
        go_ret
        exact ⟨rfl, rfl⟩
      · have hnn : 0 ≤ lf - (xs[k].length : Int) := by omega
        go_wp2
        go_round
        case rel =>
          have := HP.out
          exact ⟨k + 1, _, by omega, by go_num, rfl, by omega, by omega, by omega⟩
        case measure => simp [intOf]; omega
    · exfalso
      have e : xs.drop k = [] := drop_nil xs k (by omega)
      rw [e] at hrest
      simp [ssize] at hrest
      omega

theorem one_set {α : Type} {P R : List α} {r0 u0 : α} {k : Nat} (hP : P.length = k) : (P ++ r0 :: R).set k u0 = P ++ u0 :: R := by
  rw [List.set_append_right _ _ (by omega)]
  have a1 : k - P.length = 0 := by omega
  rw [a1]
  rfl
theorem own_one_set {w : World} {base n g k c : Nat} {e : TypeId} {P R : List Value} {r0 u0 : Value} (h : w.ownsRow base e 1 (.slice (some ⟨g, 0, none⟩) n c) n (P ++ r0 :: R)) (hP : P.length = k) :
    (w.setCell ⟨g, k, none⟩ u0).ownsRow base e 1 (.slice (some ⟨g, 0, none⟩) n c) n (P ++ u0 :: R) := by
  have h1 := (h.stored k u0).1
  rwa [one_set hP] at h1
theorem own_one_cell {w : World} {base n g k c : Nat} {e : TypeId} {P R : List Value} {r0 : Value} (h : w.ownsRow base e 1 (.slice (some ⟨g, 0, none⟩) n c) n (P ++ r0 :: R)) (hP : P.length = k) :
    w.cell? ⟨g, k, none⟩ = some r0 ∧ w.frozen? ⟨g, k, none⟩ = false := by
  have hl := h.1
  rw [List.length_append, hP] at hl
  simp only [List.length_cons] at hl
  refine ⟨?_, h.frozenAt _⟩
  rw [h.cellAt k (by omega), List.getElem?_append_right (by omega), hP]; simp
theorem one_more {n k : Nat} {P R : List Value} (hl : (P ++ R).length = n) (hP : P.length = k) (hk : k < n) : ∃ r0 R', R = r0 :: R' := by
  rw [List.length_append] at hl
  match R, hl with
  | [], hl => simp at hl; omega
  | r0 :: R', _ => exact ⟨r0, R', rfl⟩

set_option maxRecDepth 100000 in
set_option maxHeartbeats 1000000 in
theorem laws_toStringS (xs : List Tx) (A : Option Addr) (c : Nat) (w : World) (hr : Rd w w.heap.size A (scells xs)) (hn : xs.length ≤ 1048576) :
    Calls Try.prog 67 #[.slice A xs.length c] w (NewS w xs) := by
  obtain ⟨i0, hi, hz0, hz1, hz2⟩ := info_parts Try.info_string
  have hmk := fun w => make_row (P := Try.prog) Try.underlying25 hi hz0 hz1 hz2 xs.length (by omega) (by omega) w
  have hsz : (madeCells (Value.string ⟨#[]⟩).cells (xs.length * 1)).size = xs.length * 1 := size_madeCells _ _
  generalize hM : madeCells (Value.string ⟨#[]⟩).cells (xs.length * 1) = M at *
  clear hM hi hz0 hz1 hz2
  have HSZ := Lib.hid hsz
  clear hsz
  go_enter Try.func67, Try.ntmps67
  go_wp2
  go_loopw [4] (fun i wr => ∃ (k : Nat) (R : List Value), k ≤ xs.length ∧ i = .int .i64 k ∧ wr.ownsRow w.heap.size 9 1 (.slice (some ⟨w.heap.size, 0, none⟩) xs.length xs.length) xs.length (scells (xs.take k) ++ R) ∧ Below w.heap.size w wr) (fun i _ => xs.length - (intOf i).toNat)
  case atStart => exact ⟨0, M.toList, Nat.zero_le _, rfl, World.ownsRow_lit w M xs.length (Nat.le_refl _) (by unfold maxLen; omega) HSZ.out, (Below.refl _ _).alloc (Nat.le_refl _) _⟩
  case round =>
    obtain ⟨k, R, hk, rfl, hown, hb⟩ := hrel
    have HB := Lib.hid hb
    have HO := Lib.hid hown
    by_cases hlt : k < xs.length
    · obtain ⟨b, o, rfl, hab, hc0⟩ := (hr.below hb).str hlt
      have hP : (scells (xs.take k)).length = k := by rw [List.length_map, List.length_take]; omega
      obtain ⟨r0, R', rfl⟩ := one_more hown.1 hP (by omega)
      obtain ⟨hs0, hg0⟩ := own_one_cell hown hP
      have HP := Lib.hid hP
      clear hb hown hP
      go_wp2
      go_roundw
      case rel =>
        refine ⟨k + 1, R', by omega, by go_num, ?_, HB.out.setCell (Nat.le_refl _) _⟩
        have := own_one_set (u0 := sv xs[k]) HO.out HP.out
        rw [take_snoc xs k hlt, scells, List.map_append, List.append_assoc]
        exact this
      case measure => simp [intOf]; omega
    · go_wp2
      go_ret
      have hkn : k = xs.length := by omega
      subst hkn
      have hR : R = [] := by
        have h1 := hown.1
        rw [List.take_length, List.length_append, List.length_map] at h1
        exact List.eq_nil_of_length_eq_zero (by omega)
      subst hR
      rw [List.take_length, List.append_nil] at hown
      exact ⟨_, _, rfl, hown, hb⟩

set_option maxRecDepth 100000 in
set_option maxHeartbeats 1000000 in
theorem laws_eqStringS (ps qs : List Tx) (A A' : Option Addr) (c c' : Nat) (w : World) (hp : Rd w w.heap.size A (scells ps)) (hq : Rd w w.heap.size A' (scells qs)) (hn : ps.length ≤ maxLen) :
    Calls Try.prog 68 #[.slice A ps.length c, .slice A' qs.length c'] w fun e w' => e = .returned (.bool (ps == qs)) ∧ Below w.heap.size w w' := by
  unfold maxLen at hn
  by_cases hl : ps.length = qs.length
  · have hb0 : ((ps.length : Int) != (qs.length : Int)) = false := by simp [hl]
    have HL := Lib.hid hl
    clear hl
    go_enter Try.func68, Try.ntmps68
    go_wp2
    go_loopw [5] (fun i wr => ∃ (k : Nat), k ≤ ps.length ∧ i = .int .i64 k ∧ (ps.drop k == qs.drop k) = (ps == qs) ∧ Below w.heap.size w wr) (fun i _ => ps.length - (intOf i).toNat)
    case atStart => exact ⟨0, Nat.zero_le _, rfl, rfl, Below.refl _ _⟩
    case round =>
      obtain ⟨k, hk, rfl, heq, hb⟩ := hrel
      have HB := Lib.hid hb
      by_cases hlt : k < ps.length
      · have hlq : k < qs.length := by have := HL.out; omega
        obtain ⟨b, o, rfl, hab, hc0⟩ := (hp.below hb).str hlt
        obtain ⟨b', o', rfl, hab', hc0'⟩ := (hq.below hb).str hlq
        have HQ : Hid ((ps[k] == qs[k] && (ps.drop (k + 1) == qs.drop (k + 1))) = (ps == qs)) := by
          show _ = _
          rw [← heq, drop_cons ps k hlt, drop_cons qs k hlq, List.cons_beq_cons]
        clear hb heq
        generalize ps[k] = a0 at *
        generalize qs[k] = b0 at *
        cases h1 : (a0 == b0)
        all_goals
          have h1n : (a0 != b0) = !(a0 == b0) := rfl
          rw [h1] at h1n
          have H1 := Lib.hid h1
          go_wp2_with fail
          go_quiet (fail)
          go_wp2
        all_goals first
          | (go_ret; refine ⟨ret_bool ?_, below_drewN HB.out _⟩; rw [← HQ.out, H1.out]; rfl)
          | (go_roundw; (case rel => exact ⟨k + 1, by omega, by go_num, by rw [← HQ.out, H1.out]; rfl, below_drewN HB.out _⟩); (case measure => simp [intOf]; omega))
      · go_wp2
        go_ret
        refine ⟨ret_bool ?_, hb⟩
        rw [← heq, drop_nil ps k (by omega), drop_nil qs k (by have := HL.out; omega)]
        rfl
  · have hb0 : ((ps.length : Int) != (qs.length : Int)) = true := by simp; omega
    have HL : Hid ((ps == qs) = false) := by show _ = _; simp; intro h; exact hl (by rw [h])
    clear hl
    go_enter Try.func68, Try.ntmps68
    go_wp2
    go_ret
    exact ⟨ret_bool HL.out.symm, Below.refl _ _⟩



end Go.Proofs.Ytginghjgfippiaa
