/- Slices of texts in the laws: conversion, size, equality, marks: walks. -/
import Derived.Test.YtdmmnjnbjigdeaaDoorStrs
import Derived.Test.YtdmmnjnbjigdeaaDoorMark
import Derived.Deep.RegionHeld3
import Derived.Deep.QuietTactic
import Derived.BigQuiet
namespace Go.Proofs.YtdmmnjnbjigdeaaDoor
open Go.RowKit

abbrev scells (xs : List Tx) : List Value := xs.map sv
theorem scells_one (xs : List Tx) : ∀ u ∈ scells xs, u.oneCell' = true := by
  intro u hu
  simp only [scells, List.mem_map] at hu
  obtain ⟨x, _, rfl⟩ := hu
  rfl
theorem Rd.str {w : World} {B : Nat} {A : Option Addr} {xs : List Tx} (h : Rd w B A (scells xs)) {k : Nat} (hk : k < xs.length) : ∃ b o, A = some ⟨b, o, none⟩ ∧ b < B ∧ w.cell? ⟨b, o + k, none⟩ = some (sv xs[k]) := by
  have hne : scells xs ≠ [] := by
    intro e
    have := congrArg List.length e
    simp at this
    subst this
    simp at hk
  obtain ⟨b, o, e, hb, hc⟩ := h hne
  exact ⟨b, o, e, hb, hc _ _ (by simp [hk])⟩
/-- texts of a length that the model can bear -/
def FitS (xs : List Tx) : Prop := ∀ x ∈ xs, x.length ≤ maxLen
/-- the bytes of texts, together -/
def ssize : List Tx → Nat
  | [] => 0
  | x :: t => x.length + ssize t
theorem ssize_drop : ∀ (xs : List Tx) (k : Nat) (h : k < xs.length), ssize (xs.drop k) = xs[k].length + ssize (xs.drop (k + 1))
  | x :: t, 0, _ => by simp [ssize]
  | x :: t, k + 1, h => by simpa using ssize_drop t k (by simpa using h)
theorem ssize_drop_le : ∀ (xs : List Tx) (k : Nat), ssize (xs.drop k) ≤ ssize xs
  | [], k => by simp
  | x :: t, 0 => by simp
  | x :: t, k + 1 => by have := ssize_drop_le t k; simp [ssize]; omega

set_option maxRecDepth 100000 in
set_option maxHeartbeats 1000000 in
theorem laws_szStringS_fits (xs : List Tx) (A : Option Addr) (c : Nat) (left : Int) (w : World) (hr : Rd w w.heap.size A (scells xs))
    (h0 : 0 ≤ left) (h1 : left ≤ 1048576) (hn : xs.length ≤ maxLen) (hfit : (xs.length : Int) + ssize xs ≤ left) :
    Calls Tryd.prog 33 #[.slice A xs.length c, .int .i64 left] w fun e w' => e = .returned (.int .i64 (left - xs.length - ssize xs)) ∧ w = w' := by
  unfold maxLen at hn
  go_enter Tryd.func33, Tryd.ntmps33
  go_wp2
  go_loop [1, 5] (fun l i => ∃ (k : Nat) (lf : Int), k ≤ xs.length ∧ i = .int .i64 k ∧ l = .int .i64 lf ∧ 0 ≤ lf ∧ lf ≤ 1048576 ∧ lf - ssize (xs.drop k) = left - xs.length - ssize xs) (fun _ i => xs.length - (intOf i).toNat)
  case atStart => exact ⟨0, _, Nat.zero_le _, rfl, rfl, by omega, by omega, by simp⟩
  case round =>
    obtain ⟨k, lf, hk, rfl, rfl, hlf0, hlf1, hrest⟩ := hrel
    have H := Lib.hid hrest
    by_cases hlt : k < xs.length
    · obtain ⟨b, o, rfl, hab, hc0⟩ := hr.str hlt
      clear hrest
      have hps := ssize_drop xs k hlt
      have hle := ssize_drop_le xs (k + 1)
      have hnn : 0 ≤ lf - (xs[k].length : Int) := by have := H.out; omega
      have HP := Lib.hid hps
      clear hps
      go_wp2
      go_round
      case rel => 
        have := HP.out; have := H.out
        exact ⟨k + 1, _, by omega, by go_num, rfl, by omega, by omega, by omega⟩
      case measure => simp [intOf]; omega
    · go_wp2
      go_ret
      refine ⟨ret_int ?_, rfl⟩
      have e : xs.drop k = [] := drop_nil xs k (by omega)
      rw [e] at hrest
      simp [ssize] at hrest
      omega

set_option maxRecDepth 100000 in
set_option maxHeartbeats 1000000 in
theorem laws_szStringS_over (xs : List Tx) (A : Option Addr) (c : Nat) (left : Int) (w : World) (hr : Rd w w.heap.size A (scells xs)) (hl : FitS xs)
    (h0 : 0 ≤ left) (h1 : left ≤ 1048576) (hn : xs.length ≤ maxLen) (hfit : left < (xs.length : Int) + ssize xs) :
    Calls Tryd.prog 33 #[.slice A xs.length c, .int .i64 left] w fun e w' => e = .returned (.int .i64 (-1)) ∧ w = w' := by
  unfold maxLen at hn
  by_cases hz : left < xs.length
  · go_enter Tryd.func33, Tryd.ntmps33
    go_wp2
    go_ret
    exact ⟨rfl, rfl⟩
  go_enter Tryd.func33, Tryd.ntmps33
  go_wp2
  go_loop [1, 5] (fun l i => ∃ (k : Nat) (lf : Int), k ≤ xs.length ∧ i = .int .i64 k ∧ l = .int .i64 lf ∧ 0 ≤ lf ∧ lf ≤ 1048576 ∧ lf < ssize (xs.drop k)) (fun _ i => xs.length - (intOf i).toNat)
  case atStart => exact ⟨0, _, Nat.zero_le _, rfl, rfl, by omega, by omega, by simp; omega⟩
  case round =>
    obtain ⟨k, lf, hk, rfl, rfl, hlf0, hlf1, hrest⟩ := hrel
    by_cases hlt : k < xs.length
    · obtain ⟨b, o, rfl, hab, hc0⟩ := hr.str hlt
      have HP := Lib.hid (ssize_drop xs k hlt)
      have hla := hl _ (List.getElem_mem hlt)
      unfold maxLen at hla
      by_cases ho : lf < (xs[k].length : Int)
      · go_wp2
        go_ret
        exact ⟨rfl, rfl⟩
      · have hnn : 0 ≤ lf - (xs[k].length : Int) := by omega
        go_wp2
        go_round
        case rel =>
          have := HP.out
          exact ⟨k + 1, _, by omega, by go_num, rfl, by omega, by omega, by omega⟩
        case measure => simp [intOf]; omega
    · exfalso
      have e : xs.drop k = [] := drop_nil xs k (by omega)
      rw [e] at hrest
      simp [ssize] at hrest
      omega

theorem one_set {α : Type} {P R : List α} {r0 u0 : α} {k : Nat} (hP : P.length = k) : (P ++ r0 :: R).set k u0 = P ++ u0 :: R := by
  rw [List.set_append_right _ _ (by omega)]
  have a1 : k - P.length = 0 := by omega
  rw [a1]
  rfl
theorem own_one_set {w : World} {base n g k c : Nat} {e : TypeId} {P R : List Value} {r0 u0 : Value} (h : w.ownsRow base e 1 (.slice (some ⟨g, 0, none⟩) n c) n (P ++ r0 :: R)) (hP : P.length = k) :
    (w.setCell ⟨g, k, none⟩ u0).ownsRow base e 1 (.slice (some ⟨g, 0, none⟩) n c) n (P ++ u0 :: R) := by
  have h1 := (h.stored k u0).1
  rwa [one_set hP] at h1
theorem own_one_cell {w : World} {base n g k c : Nat} {e : TypeId} {P R : List Value} {r0 : Value} (h : w.ownsRow base e 1 (.slice (some ⟨g, 0, none⟩) n c) n (P ++ r0 :: R)) (hP : P.length = k) :
    w.cell? ⟨g, k, none⟩ = some r0 ∧ w.frozen? ⟨g, k, none⟩ = false := by
  have hl := h.1
  rw [List.length_append, hP] at hl
  simp only [List.length_cons] at hl
  refine ⟨?_, h.frozenAt _⟩
  rw [h.cellAt k (by omega), List.getElem?_append_right (by omega), hP]; simp
theorem one_more {n k : Nat} {P R : List Value} (hl : (P ++ R).length = n) (hP : P.length = k) (hk : k < n) : ∃ r0 R', R = r0 :: R' := by
  rw [List.length_append] at hl
  match R, hl with
  | [], hl => simp at hl; omega
  | r0 :: R', _ => exact ⟨r0, R', rfl⟩

set_option maxRecDepth 100000 in
set_option maxHeartbeats 1000000 in
theorem laws_toStringS (xs : List Tx) (A : Option Addr) (c : Nat) (w : World) (hr : Rd w w.heap.size A (scells xs)) (hn : xs.length ≤ 1048576) :
    Calls Tryd.prog 36 #[.slice A xs.length c] w (NewS w xs) := by
  obtain ⟨i0, hi, hz0, hz1, hz2⟩ := info_parts Tryd.info_string
  have hmk := fun w => make_row (P := Tryd.prog) Tryd.underlying23 hi hz0 hz1 hz2 xs.length (by omega) (by omega) w
  have hsz : (madeCells (Value.string ⟨#[]⟩).cells (xs.length * 1)).size = xs.length * 1 := size_madeCells _ _
  generalize hM : madeCells (Value.string ⟨#[]⟩).cells (xs.length * 1) = M at *
  clear hM hi hz0 hz1 hz2
  have HSZ := Lib.hid hsz
  clear hsz
  go_enter Tryd.func36, Tryd.ntmps36
  go_wp2
  go_loopw [4] (fun i wr => ∃ (k : Nat) (R : List Value), k ≤ xs.length ∧ i = .int .i64 k ∧ wr.ownsRow w.heap.size 9 1 (.slice (some ⟨w.heap.size, 0, none⟩) xs.length xs.length) xs.length (scells (xs.take k) ++ R) ∧ Below w.heap.size w wr) (fun i _ => xs.length - (intOf i).toNat)
  case atStart => exact ⟨0, M.toList, Nat.zero_le _, rfl, World.ownsRow_lit w M xs.length (Nat.le_refl _) (by unfold maxLen; omega) HSZ.out, (Below.refl _ _).alloc (Nat.le_refl _) _⟩
  case round =>
    obtain ⟨k, R, hk, rfl, hown, hb⟩ := hrel
    have HB := Lib.hid hb
    have HO := Lib.hid hown
    by_cases hlt : k < xs.length
    · obtain ⟨b, o, rfl, hab, hc0⟩ := (hr.below hb).str hlt
      have hP : (scells (xs.take k)).length = k := by rw [List.length_map, List.length_take]; omega
      obtain ⟨r0, R', rfl⟩ := one_more hown.1 hP (by omega)
      obtain ⟨hs0, hg0⟩ := own_one_cell hown hP
      have HP := Lib.hid hP
      clear hb hown hP
      go_wp2
      go_roundw
      case rel =>
        refine ⟨k + 1, R', by omega, by go_num, ?_, HB.out.setCell (Nat.le_refl _) _⟩
        have := own_one_set (u0 := sv xs[k]) HO.out HP.out
        rw [take_snoc xs k hlt, scells, List.map_append, List.append_assoc]
        exact this
      case measure => simp [intOf]; omega
    · go_wp2
      go_ret
      have hkn : k = xs.length := by omega
      subst hkn
      have hR : R = [] := by
        have h1 := hown.1
        rw [List.take_length, List.length_append, List.length_map] at h1
        exact List.eq_nil_of_length_eq_zero (by omega)
      subst hR
      rw [List.take_length, List.append_nil] at hown
      exact ⟨_, _, rfl, hown, hb⟩

set_option maxRecDepth 100000 in
set_option maxHeartbeats 1000000 in
theorem laws_eqStringS (ps qs : List Tx) (A A' : Option Addr) (c c' : Nat) (w : World) (hp : Rd w w.heap.size A (scells ps)) (hq : Rd w w.heap.size A' (scells qs)) (hn : ps.length ≤ maxLen) :
    Calls Tryd.prog 38 #[.slice A ps.length c, .slice A' qs.length c'] w fun e w' => e = .returned (.bool (ps == qs)) ∧ Below w.heap.size w w' := by
  unfold maxLen at hn
  by_cases hl : ps.length = qs.length
  · have hb0 : ((ps.length : Int) != (qs.length : Int)) = false := by simp [hl]
    have HL := Lib.hid hl
    clear hl
    go_enter Tryd.func38, Tryd.ntmps38
    go_wp2
    go_loopw [5] (fun i wr => ∃ (k : Nat), k ≤ ps.length ∧ i = .int .i64 k ∧ (ps.drop k == qs.drop k) = (ps == qs) ∧ Below w.heap.size w wr) (fun i _ => ps.length - (intOf i).toNat)
    case atStart => exact ⟨0, Nat.zero_le _, rfl, rfl, Below.refl _ _⟩
    case round =>
      obtain ⟨k, hk, rfl, heq, hb⟩ := hrel
      have HB := Lib.hid hb
      by_cases hlt : k < ps.length
      · have hlq : k < qs.length := by have := HL.out; omega
        obtain ⟨b, o, rfl, hab, hc0⟩ := (hp.below hb).str hlt
        obtain ⟨b', o', rfl, hab', hc0'⟩ := (hq.below hb).str hlq
        have HQ : Hid ((ps[k] == qs[k] && (ps.drop (k + 1) == qs.drop (k + 1))) = (ps == qs)) := by
          show _ = _
          rw [← heq, drop_cons ps k hlt, drop_cons qs k hlq, List.cons_beq_cons]
        clear hb heq
        generalize ps[k] = a0 at *
        generalize qs[k] = b0 at *
        cases h1 : (a0 == b0)
        all_goals
          have h1n : (a0 != b0) = !(a0 == b0) := rfl
          rw [h1] at h1n
          have H1 := Lib.hid h1
          go_wp2_with fail
          go_quiet (fail)
          go_wp2
        all_goals first
          | (go_ret; refine ⟨ret_bool ?_, below_drewN HB.out _⟩; rw [← HQ.out, H1.out]; rfl)
          | (go_roundw; (case rel => exact ⟨k + 1, by omega, by go_num, by rw [← HQ.out, H1.out]; rfl, below_drewN HB.out _⟩); (case measure => simp [intOf]; omega))
      · go_wp2
        go_ret
        refine ⟨ret_bool ?_, hb⟩
        rw [← heq, drop_nil ps k (by omega), drop_nil qs k (by have := HL.out; omega)]
        rfl
  · have hb0 : ((ps.length : Int) != (qs.length : Int)) = true := by simp; omega
    have HL : Hid ((ps == qs) = false) := by show _ = _; simp; intro h; exact hl (by rw [h])
    clear hl
    go_enter Tryd.func38, Tryd.ntmps38
    go_wp2
    go_ret
    exact ⟨ret_bool HL.out.symm, Below.refl _ _⟩

/-- the marks from k on, in n texts -/
def marksS : Nat → Nat → List Tx
  | _, 0 => []
  | k, n + 1 => marksS k n ++ [markOf (k + n)]
theorem marksS_length : ∀ k n, (marksS k n).length = n
  | _, 0 => rfl
  | k, n + 1 => by simp [marksS, marksS_length k n]
theorem marksS_get : ∀ (k n i : Nat) (h : i < (marksS k n).length), (marksS k n)[i] = markOf (k + i)
  | k, 0, i, h => by simp [marksS] at h
  | k, n + 1, i, h => by
    by_cases hi : i < n
    · have hl : i < (marksS k n).length := by rw [marksS_length]; exact hi
      simp only [marksS]
      rw [List.getElem_append_left hl]
      exact marksS_get k n i hl
    · have hin : i = n := by rw [marksS_length] at h; omega
      subst hin
      simp only [marksS]
      rw [List.getElem_append_right (by rw [marksS_length]; exact Nat.le_refl _)]
      simp [marksS_length]
def MarkedS (w : World) (base : Nat) (A : Option Addr) (c k n : Nat) (e : Ending) (w' : World) : Prop :=
  e = .returned (.int .i64 ((k + n : Nat) : Int)) ∧ OwnS w' base A c (marksS k n) ∧ w.grownBy w' (Value.ownBlock (.slice A n c))

set_option maxRecDepth 100000 in
set_option maxHeartbeats 1000000 in
theorem laws_markStringS (ps : List Tx) (base : Nat) (A : Option Addr) (c k : Nat) (w : World) (hown : OwnS w base A c ps) (hk0 : 0 < k) (hkn : k + ps.length ≤ 4611686018427387904) :
    Calls Tryd.prog 46 #[.slice A ps.length c, .int .i64 k] w (MarkedS w base A c k ps.length) := by
  have HOWN := Lib.hid hown
  clear hown
  go_enter Tryd.func46, Tryd.ntmps46
  go_wp2
  go_loopw [1, 5] (fun m i wr => ∃ (j : Nat), j ≤ ps.length ∧ i = .int .i64 j ∧ m = .int .i64 ((k + j : Nat) : Int) ∧ wr.ownsRow base 9 1 (.slice A ps.length c) ps.length (scells (marksS k j) ++ scells (ps.drop j)) ∧ w.grownBy wr (Value.ownBlock (.slice A ps.length c))) (fun _ i _ => ps.length - (intOf i).toNat)
  case atStart => exact ⟨0, Nat.zero_le _, rfl, rfl, HOWN.out, grown_refl _ _⟩
  case round =>
    obtain ⟨j, hj, rfl, rfl, ho, hg⟩ := hrel
    by_cases hlt : j < ps.length
    · obtain ⟨g, rfl, hbg, hgs⟩ := own_some ho (by omega)
      have HG := Lib.hid hg
      have hP : (scells (marksS k j)).length = j := by rw [List.length_map, marksS_length]
      rw [drop_cons ps j hlt] at ho
      have HO := Lib.hid ho
      have HP := Lib.hid hP
      clear hg ho hP
      go_wp2_with fail
      refine (laws_markText_at (k + j) _ (by omega) (by omega) (by omega) _).mono ?_
      rintro e w1 ⟨rfl, hb1⟩
      have ho1 := own_below HO.out hb1
      obtain ⟨x0, hs0, hg0⟩ := own_any ho1 j (by omega)
      have HB1 := Lib.hid hb1
      have HO1 := Lib.hid (ho1.stored j (sv (markOf (k + j)))).1
      clear hb1 ho1
      go_wp2
      go_roundw
      case rel =>
        refine ⟨j + 1, by omega, by go_num, by go_num, ?_, ?_⟩
        · have h := HO1.out
          rw [show scells (ps[j] :: ps.drop (j + 1)) = sv ps[j] :: scells (ps.drop (j + 1)) from rfl, one_set HP.out] at h
          rw [marksS, scells, List.map_append, List.append_assoc]
          exact h
        · exact grown_set (grown_below HG.out HB1.out) _ _
      case measure => simp [intOf]; omega
    · go_wp2
      go_ret
      have hjn : j = ps.length := by omega
      subst hjn
      rw [List.drop_length] at ho
      simp only [scells, List.map_nil, List.append_nil] at ho
      refine ⟨ret_int (by omega), ?_, hg⟩
      unfold OwnS
      rw [marksS_length]
      exact ho
theorem laws_markStringS_one (ps : List Tx) (base : Nat) (A : Option Addr) (c : Nat) (w : World) (hown : OwnS w base A c ps) (hkn : ps.length ≤ 4294967296) :
    Calls Tryd.prog 46 #[.slice A ps.length c, .int .i64 1] w fun e w' => e = .returned (.int .i64 (1 + (ps.length : Int))) ∧ OwnS w' base A c (marksS 1 ps.length) ∧ w.grownBy w' (Value.ownBlock (.slice A ps.length c)) :=
  (laws_markStringS ps base A c 1 w hown (by omega) (by omega)).mono fun _ _ ⟨h1, h2, h3⟩ => ⟨by rw [h1]; exact ret_int (by omega), h2, h3⟩

set_option maxRecDepth 100000 in
set_option maxHeartbeats 1000000 in
theorem laws_heldStringS (n : Nat) (A : Option Addr) (c k : Nat) (w : World) (hr : Rd w w.heap.size A (scells (marksS k n))) (hk0 : 0 < k) (hkn : k + n ≤ 4611686018427387904) :
    Calls Tryd.prog 48 #[.slice A n c, .int .i64 k] w fun e w' => e = .returned (.int .i64 ((k + n : Nat) : Int)) ∧ Below w.heap.size w w' := by
  go_enter Tryd.func48, Tryd.ntmps48
  go_wp2
  go_loopw [1, 5] (fun m i wr => ∃ (j : Nat), j ≤ n ∧ i = .int .i64 j ∧ m = .int .i64 ((k + j : Nat) : Int) ∧ Below w.heap.size w wr) (fun _ i _ => n - (intOf i).toNat)
  case atStart => exact ⟨0, Nat.zero_le _, rfl, rfl, Below.refl _ _⟩
  case round =>
    obtain ⟨j, hj, rfl, rfl, hb⟩ := hrel
    by_cases hlt : j < n
    · have hl : j < (marksS k n).length := by rw [marksS_length]; exact hlt
      obtain ⟨b, o, rfl, hab, hc0⟩ := (hr.below hb).str hl
      rw [marksS_get] at hc0
      have HB := Lib.hid hb
      clear hb
      have hbw : b < wr.heap.size := by have := HB.out.size; omega
      have HC0 := Lib.hid hc0
      go_wp2_with fail
      go_region_held3 (fun w' => w'.cell? ⟨b, o + j, none⟩ = some (sv (markOf (k + j)))) (first | go_keep | exact (hb1.cell (p := ⟨b, o + j, none⟩) hbw).trans HC0.out)
        (first | (go_at_call 69; refine (laws_markText_at (k + j) _ (by omega) (by omega) (by omega) _).mono ?_; rintro e w1 ⟨rfl, hb1⟩))
      have HB1 := Lib.hid (HB.out.drew.trans (hb1.mono HB.out.drew.size))
      clear hb1 hc0
      go_wp2
      go_roundw
      case rel => exact ⟨j + 1, by omega, by go_num, by go_num, HB1.out⟩
      case measure => simp [intOf]; omega
    · go_wp2
      go_ret
      exact ⟨ret_int (by omega), hb⟩
theorem laws_heldStringS_one (n : Nat) (A : Option Addr) (c : Nat) (w : World) (hr : Rd w w.heap.size A (scells (marksS 1 n))) (hkn : n ≤ 4294967296) :
    Calls Tryd.prog 48 #[.slice A n c, .int .i64 1] w fun e w' => e = .returned (.int .i64 (1 + (n : Int))) ∧ Below w.heap.size w w' :=
  (laws_heldStringS n A c 1 w hr (by omega) (by omega)).mono fun _ _ ⟨h1, h2⟩ => ⟨by rw [h1]; exact ret_int (by omega), h2⟩
end Go.Proofs.YtdmmnjnbjigdeaaDoor
