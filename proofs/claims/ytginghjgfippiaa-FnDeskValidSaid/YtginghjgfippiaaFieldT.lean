/- Fields in the laws: conversion: walks. -/
import Derived.Test.YtginghjgfippiaaPartT
namespace Go.Proofs.Ytginghjgfippiaa
open Go.RowKit

def zeroFd : Array Value := #[.string ⟨#[]⟩, .string ⟨#[]⟩, .bool false, .slice none 0 0]
theorem Try.info_Field : (Try.prog.info? 54).map (fun i => (i.zero, i.size, i.bytes)) = some (some (.agg zeroFd), 4, 64) := by kernel_rfl
/-- a field that the call has made -/
def NewF (w : World) (x : Fd) (e : Ending) (w' : World) : Prop :=
  ∃ n t h Ai li ci, e = .returned (fdV n t h Ai li ci) ∧ InF w' (Fresh w w') x (fdV n t h Ai li ci) ∧ Below w.heap.size w w'
def ToF (x : Fd) : Prop := ∀ (u : Value) (w : World), InF w (All w) x u → Fd.size x ≤ 1048576 → Calls Try.prog 57 #[u] w (NewF w x)
/-- four cells of an array that make one value -/
def AtD (cs : Array Value) (o : Nat) (v : Value) : Prop := ∃ c0 c1 c2 c3, v = .agg #[c0, c1, c2, c3] ∧ cs[o]? = some c0 ∧ cs[o + 1]? = some c1 ∧ cs[o + 2]? = some c2 ∧ cs[o + 3]? = some c3
theorem AtD.at4 {w : World} {b o : Nat} {cs : Array Value} {t : TypeId} {v : Value} (h : AtD cs o v) (hb : w.heap[b]? = some (.cells cs t (0, 0))) : At4 w b o v := by
  obtain ⟨c0, c1, c2, c3, e, h0, h1, h2, h3⟩ := h
  exact ⟨c0, c1, c2, c3, e, by rw [cell_of_row w b _ cs t (0, 0) hb]; exact h0, by rw [cell_of_row w b _ cs t (0, 0) hb]; exact h1, by rw [cell_of_row w b _ cs t (0, 0) hb]; exact h2, by rw [cell_of_row w b _ cs t (0, 0) hb]; exact h3⟩
abbrev set4 (cs : Array Value) (o : Nat) (c0 c1 c2 c3 : Value) : Array Value := (((cs.setIfInBounds o c0).setIfInBounds (o + 1) c1).setIfInBounds (o + 2) c2).setIfInBounds (o + 3) c3
theorem set4_at {cs : Array Value} {o : Nat} {c0 c1 c2 c3 : Value} (h : o + 4 ≤ cs.size) : AtD (set4 cs o c0 c1 c2 c3) o (.agg #[c0, c1, c2, c3]) := by
  refine ⟨c0, c1, c2, c3, rfl, ?_, ?_, ?_, ?_⟩ <;> simp [Array.getElem?_setIfInBounds] <;> omega
theorem set4_other {cs : Array Value} {o q : Nat} {c0 c1 c2 c3 v : Value} (h : AtD cs q v) (hq : q + 4 ≤ o ∨ o + 4 ≤ q) : AtD (set4 cs o c0 c1 c2 c3) q v := by
  obtain ⟨d0, d1, d2, d3, e, h0, h1, h2, h3⟩ := h
  have key : ∀ i, (i < o ∨ o + 4 ≤ i) → (set4 cs o c0 c1 c2 c3)[i]? = cs[i]? := by
    intro i hi
    unfold set4
    rw [Array.getElem?_setIfInBounds_ne (by omega), Array.getElem?_setIfInBounds_ne (by omega), Array.getElem?_setIfInBounds_ne (by omega), Array.getElem?_setIfInBounds_ne (by omega)]
  exact ⟨d0, d1, d2, d3, e, (key q (by omega)).trans h0, (key _ (by omega)).trans h1, (key _ (by omega)).trans h2, (key _ (by omega)).trans h3⟩
theorem set4_size {cs : Array Value} {o : Nat} {c0 c1 c2 c3 : Value} : (set4 cs o c0 c1 c2 c3).size = cs.size := by simp
set_option maxRecDepth 100000 in
set_option maxHeartbeats 4000000 in
theorem laws_toFieldS (xs : List Fd) (hE : ∀ x ∈ xs, ToF x) (A : Option Addr) (c : Nat) (w : World) (hx : RdF w (All w) A xs) (hn : xs.length + Fd.sizes xs ≤ 1048576) :
    Calls Try.prog 37 #[.slice A xs.length c] w fun e w' => ∃ A', e = .returned (.slice A' xs.length xs.length) ∧ RdF w' (Fresh w w') A' xs ∧ Below w.heap.size w w' := by
  have HE0 := Lib.hid hE
  have HX := Lib.hid hx
  have HSZ := Lib.hid hn
  have hxl : xs.length ≤ 1048576 := by omega
  obtain ⟨i0, hi, hz0, hz1, hz2⟩ := info_parts Try.info_Field
  have hmk := fun w => make_row (P := Try.prog) Try.underlying32 hi hz0 hz1 hz2 xs.length (by omega) (by omega) w
  have hsz : (madeCells (Value.agg zeroFd).cells (xs.length * 4)).size = xs.length * 4 := size_madeCells _ _
  generalize hM : madeCells (Value.agg zeroFd).cells (xs.length * 4) = M at *
  clear hM hi hz0 hz1 hz2 hE hx hn
  have HMS := Lib.hid hsz
  clear hsz
  go_enter Try.func37, Try.ntmps37
  go_wp2
  go_loopw [4] (fun i wr => ∃ (j : Nat) (cs : Array Value), j ≤ xs.length ∧ i = .int .i64 j ∧ wr.heap[w.heap.size]? = some (.cells cs 54 (0, 0)) ∧ cs.size = xs.length * 4 ∧ (∀ q (hq : q < xs.length), q < j → ∃ v, AtD cs (q * 4) v ∧ InF wr (fun b => w.heap.size < b ∧ b < wr.heap.size) xs[q] v) ∧ Below w.heap.size w wr) (fun i _ => xs.length - (intOf i).toNat)
  case atStart => exact ⟨0, M, Nat.zero_le _, rfl, heap_alloc_new w _, HMS.out, fun q _ hq => absurd hq (by omega), (Below.refl _ _).alloc (Nat.le_refl _) _⟩
  case round =>
    obtain ⟨j, cs, hj, rfl, hg, hcs, hdone, hb⟩ := hrel
    have HB := Lib.hid hb
    have HG := Lib.hid hg
    have HD := Lib.hid hdone
    have HCS := Lib.hid hcs
    have hgs : w.heap.size < wr.heap.size := lt_of_block hg
    clear hb hg hdone hcs
    by_cases hlt : j < xs.length
    · obtain ⟨b1, o1, hA1, hb1, nn, tt, hh, Ai1, li1, ci1, hin, c0, c1, c2, c3⟩ := (HX.out.now HB.out).at hlt
      have hsj : Fd.size xs[j] ≤ 1048576 := by have := Fd.size_mem (List.getElem_mem hlt); have := HSZ.out; omega
      have HCALL := Lib.hid (HE0.out xs[j] (List.getElem_mem hlt) _ wr hin hsj)
      clear hin hsj
      subst hA1
      go_wp2_with fail
      refine HCALL.out.mono ?_
      rintro e w2 ⟨n2, t2, h2, Ai2, li2, ci2, rfl, hin2, hb⟩
      have HB2 := Lib.hid (HB.out.trans (hb.mono HB.out.size))
      have hg2 := bx_keep HG.out hb
      have HG2 := Lib.hid hg2
      have hs := HCS.out
      obtain ⟨r0, p0, q0⟩ := cell_some (o := j * 4) hg2 (by omega)
      obtain ⟨r1, p1, q1⟩ := cell_some (o := j * 4 + 1) hg2 (by omega)
      obtain ⟨r2, p2, q2⟩ := cell_some (o := j * 4 + 2) hg2 (by omega)
      obtain ⟨r3, p3, q3⟩ := cell_some (o := j * 4 + 3) hg2 (by omega)
      have HKEEP : Hid (∀ q (hq : q < xs.length), q < j → ∃ v, AtD cs (q * 4) v ∧ InF w2 (fun b => w.heap.size < b ∧ b < w2.heap.size) xs[q] v) := by
        intro q hq hqj
        obtain ⟨v, h1, h2⟩ := HD.out q hq hqj
        exact ⟨v, h1, InF.keep (fun p hp => hb.cell hp.2) (fun b h => ⟨h.1, Nat.lt_of_lt_of_le h.2 hb.size⟩) _ v h2⟩
      have HNEW : Hid (InF w2 (fun b => w.heap.size < b ∧ b < w2.heap.size) xs[j] (fdV n2 t2 h2 Ai2 li2 ci2)) := InF.keep (fun _ _ => rfl) (fun b h => ⟨Nat.lt_of_lt_of_le hgs h.1, h.2⟩) _ _ hin2
      clear hb hin2 hg2 hs
      go_wp2
      go_roundw
      case rel =>
        refine ⟨j + 1, set4 cs (j * 4) (sv n2) (sv t2) (.bool h2) (.slice Ai2 li2 ci2), by omega, by go_num, cells_set (cells_set (cells_set (cells_set HG2.out))), set4_size.trans HCS.out, ?_, Below.setCell (Below.setCell (Below.setCell (Below.setCell HB2.out (Nat.le_refl _) _) (Nat.le_refl _) _) (Nat.le_refl _) _) (Nat.le_refl _) _⟩
        intro q hq hqj
        have hcell : ∀ (W : World) (o : Nat) (u : Value) (x : Fd) (v : Value), InF W (fun b => w.heap.size < b ∧ b < W.heap.size) x v → InF (W.setCell ⟨w.heap.size, o, none⟩ u) (fun b => w.heap.size < b ∧ b < (W.setCell ⟨w.heap.size, o, none⟩ u).heap.size) x v := by
          intro W o u x v h
          refine InF.keep (fun p hp => World.cell?_of_block (Below.heap_setCell _ _ _ _ (by have := hp.1; show p.block ≠ w.heap.size; omega))) (fun b h => ⟨h.1, by have := h.2; simp [World.setCell]; exact this⟩) x v h
        by_cases hqe : q = j
        · subst hqe
          exact ⟨_, set4_at (by have := HCS.out; omega), hcell _ _ _ _ _ (hcell _ _ _ _ _ (hcell _ _ _ _ _ (hcell _ _ _ _ _ HNEW.out)))⟩
        · obtain ⟨v, h1, h2⟩ := HKEEP.out q hq (by omega)
          exact ⟨v, set4_other h1 (by omega), hcell _ _ _ _ _ (hcell _ _ _ _ _ (hcell _ _ _ _ _ (hcell _ _ _ _ _ h2)))⟩
      case measure => simp [intOf]; omega
    · go_wp2
      go_ret
      refine ⟨_, rfl, fun hne => ⟨w.heap.size, 0, rfl, ⟨Nat.le_refl _, hgs⟩, fun i hi => ?_⟩, HB.out⟩
      obtain ⟨v, h1, h2⟩ := HD.out i hi (by omega)
      exact ⟨v, by rw [Nat.zero_add]; exact h1.at4 HG.out, InF.keep (fun _ _ => rfl) (fun b h => ⟨Nat.le_of_lt h.1, h.2⟩) _ v h2⟩

set_option maxRecDepth 100000 in
set_option maxHeartbeats 8000000 in
theorem laws_toField (a : Fd) : ToF a := by
  intro u w hu hsz
  obtain ⟨n, t, h, is⟩ := a
  obtain ⟨A, c, rfl, hr, hc⟩ := hu
  dsimp only at hr hc ⊢
  unfold Fd.size at hsz
  dsimp only at hsz
  have HTS := Lib.hid (fun w2 (hb : Below w.heap.size w w2) => laws_toStringS is A c w2 ((hr.keep (fun _ hp => hb.cell hp) (fun _ h => Nat.lt_of_lt_of_le h hb.size)).rd (fun _ h => h)) (by omega))
  clear hr hc
  go_enter Try.func57, Try.ntmps57
  go_wp2_with fail
  obtain ⟨hB0, hX0, hZ0, hY0, hs0⟩ := three_boxes w (fdCells n t h A is.length c) zeroFd #[sv n, sv t, .bool h, .slice none 0 0] 77 54 54
  have HB0 := Lib.hid hB0
  have HZ0 := Lib.hid hZ0
  have HY0 := Lib.hid hY0
  have HS0 := Lib.hid hs0
  clear hB0 hX0 hZ0 hY0 hs0
  refine (HTS.out _ HB0.out).mono ?_
  rintro e w1 ⟨A1, c1, rfl, ho, hb⟩
  have hz1 : w.heap.size + 3 ≤ w1.heap.size := by rw [← HS0.out]; exact hb.size
  have HB1 := Lib.hid (HB0.out.trans (hb.mono HB0.out.size))
  have HZ1 := Lib.hid (bx_keep HZ0.out hb)
  have HY1 := Lib.hid (bx_keep HY0.out hb)
  have HCAP := Lib.hid (ownS_cap ho)
  have HN1 : Hid (RdIn w1 (fun b => w.heap.size + 3 ≤ b ∧ b < w1.heap.size) A1 (scells is)) := ownS_rdIn ho (fun b h1 h2 => ⟨by rw [← HS0.out]; exact h1, h2⟩)
  have hset : ∀ (W : World) (q o : Nat) (u : Value) (p : Addr), q ≤ w.heap.size + 2 → w.heap.size + 3 ≤ p.block → (W.setCell ⟨q, o, none⟩ u).cell? p = W.cell? p := fun W q o u p h1 h2 => World.cell?_of_block (Below.heap_setCell _ _ _ _ (by show p.block ≠ q; omega))
  have HSET := Lib.hid hset
  obtain ⟨⟨y0, y1, y2, y3⟩, y4, y5, y6, y7⟩ := box_fourF HY1.out
  obtain ⟨⟨z0, z1, z2, z3⟩, z4, z5, z6, z7⟩ := box_fourF HZ1.out
  clear ho hb hset
  go_wp2
  refine bodyPost_ret (v := fdV n t h A1 is.length c1) (by simp [results, Try.results57, go_sem, *]) rfl ?_
  have hs9 : ∀ (W : World) (p : Addr) (u : Value), (W.setCell p u).heap.size = W.heap.size := fun W p u => by simp [World.setCell]
  refine ⟨n, t, h, A1, is.length, c1, rfl, ⟨A1, c1, rfl, HN1.out.keep (fun p hp => ?_) (fun b h => ⟨by omega, by simp only [hs9]; exact h.2⟩), HCAP.out⟩, Below.setCell (Below.setCell (Below.setCell (Below.setCell (Below.setCell HB1.out ?_ _) ?_ _) ?_ _) ?_ _) ?_ _⟩
  · rw [HSET.out _ _ _ _ _ (by omega) hp.1, HSET.out _ _ _ _ _ (by omega) hp.1, HSET.out _ _ _ _ _ (by omega) hp.1, HSET.out _ _ _ _ _ (by omega) hp.1, HSET.out _ _ _ _ _ (by omega) hp.1]
  all_goals first | (show w.heap.size ≤ w.heap.size + 2; omega) | (show w.heap.size ≤ w.heap.size + 1; omega)
end Go.Proofs.Ytginghjgfippiaa
