/- Parts in the laws: conversion: walks. -/
import Derived.Test.YtginghjgfippiaaPartWP
namespace Go.Proofs.Ytginghjgfippiaa
open Go.RowKit

/-- the blocks that came since -/
abbrev Fresh (w w' : World) : Nat → Prop := fun b => w.heap.size ≤ b ∧ b < w'.heap.size
def zeroP : Array Value := #[.int .i64 0, .string ⟨#[]⟩, .string ⟨#[]⟩, .slice none 0 0, .slice none 0 0]
theorem Try.info_Part : (Try.prog.info? 66).map (fun i => (i.zero, i.size, i.bytes)) = some (some (.agg zeroP), 5, 88) := by kernel_rfl
theorem ownS_rdIn {w : World} {base c : Nat} {A : Option Addr} {xs : List Tx} (h : OwnS w base A c xs) {S : Nat → Prop} (hS : ∀ b, base ≤ b → b < w.heap.size → S b) : RdIn w S A (scells xs) := fun hne => by
  have hl : 0 < xs.length := by
    rcases Nat.eq_zero_or_pos xs.length with h0 | h0
    · exact absurd (by rw [List.eq_nil_of_length_eq_zero h0]; rfl) hne
    · exact h0
  obtain ⟨g, hA, h1, h2⟩ := own_some h hl
  obtain ⟨b, o, e, hb, hc⟩ := ownS_rd h hne
  subst hA
  injection e with e
  injection e with e1 e2
  subst e1
  subst e2
  exact ⟨g, 0, rfl, hS g h1 h2, hc⟩
/-- a part that the call has made -/
def NewP (w : World) (x : Pt) (e : Ending) (w' : World) : Prop :=
  ∃ k t n An ln cn Ai li ci, e = .returned (ptV k t n An ln cn Ai li ci) ∧ InP w' (Fresh w w') x (ptV k t n An ln cn Ai li ci) ∧ Below w.heap.size w w'
def ToC (x : Pt) : Prop := ∀ (u : Value) (w : World), InP w (All w) x u → Pt.size x ≤ 1048576 → Calls Try.prog 56 #[u] w (NewP w x)
/-- five cells of an array that make one value -/
def AtC (cs : Array Value) (o : Nat) (v : Value) : Prop := ∃ c0 c1 c2 c3 c4, v = .agg #[c0, c1, c2, c3, c4] ∧ cs[o]? = some c0 ∧ cs[o + 1]? = some c1 ∧ cs[o + 2]? = some c2 ∧ cs[o + 3]? = some c3 ∧ cs[o + 4]? = some c4
theorem AtC.at5 {w : World} {b o : Nat} {cs : Array Value} {t : TypeId} {v : Value} (h : AtC cs o v) (hb : w.heap[b]? = some (.cells cs t (0, 0))) : At5 w b o v := by
  obtain ⟨c0, c1, c2, c3, c4, e, h0, h1, h2, h3, h4⟩ := h
  exact ⟨c0, c1, c2, c3, c4, e, by rw [cell_of_row w b _ cs t (0, 0) hb]; exact h0, by rw [cell_of_row w b _ cs t (0, 0) hb]; exact h1, by rw [cell_of_row w b _ cs t (0, 0) hb]; exact h2, by rw [cell_of_row w b _ cs t (0, 0) hb]; exact h3, by rw [cell_of_row w b _ cs t (0, 0) hb]; exact h4⟩
/-- five stores, one after the other -/
abbrev set5 (cs : Array Value) (o : Nat) (c0 c1 c2 c3 c4 : Value) : Array Value := ((((cs.setIfInBounds o c0).setIfInBounds (o + 1) c1).setIfInBounds (o + 2) c2).setIfInBounds (o + 3) c3).setIfInBounds (o + 4) c4
theorem set5_at {cs : Array Value} {o : Nat} {c0 c1 c2 c3 c4 : Value} (h : o + 5 ≤ cs.size) : AtC (set5 cs o c0 c1 c2 c3 c4) o (.agg #[c0, c1, c2, c3, c4]) := by
  refine ⟨c0, c1, c2, c3, c4, rfl, ?_, ?_, ?_, ?_, ?_⟩ <;> simp [Array.getElem?_setIfInBounds] <;> omega
theorem set5_other {cs : Array Value} {o q : Nat} {c0 c1 c2 c3 c4 v : Value} (h : AtC cs q v) (hq : q + 5 ≤ o ∨ o + 5 ≤ q) : AtC (set5 cs o c0 c1 c2 c3 c4) q v := by
  obtain ⟨d0, d1, d2, d3, d4, e, h0, h1, h2, h3, h4⟩ := h
  have key : ∀ i, (i < o ∨ o + 5 ≤ i) → (set5 cs o c0 c1 c2 c3 c4)[i]? = cs[i]? := by
    intro i hi
    unfold set5
    rw [Array.getElem?_setIfInBounds_ne (by omega), Array.getElem?_setIfInBounds_ne (by omega), Array.getElem?_setIfInBounds_ne (by omega), Array.getElem?_setIfInBounds_ne (by omega), Array.getElem?_setIfInBounds_ne (by omega)]
  exact ⟨d0, d1, d2, d3, d4, e, (key q (by omega)).trans h0, (key _ (by omega)).trans h1, (key _ (by omega)).trans h2, (key _ (by omega)).trans h3, (key _ (by omega)).trans h4⟩
theorem set5_size {cs : Array Value} {o : Nat} {c0 c1 c2 c3 c4 : Value} : (set5 cs o c0 c1 c2 c3 c4).size = cs.size := by simp
theorem cell_some {w : World} {b o : Nat} {cs : Array Value} {t : TypeId} (hb : w.heap[b]? = some (.cells cs t (0, 0))) (ho : o < cs.size) : ∃ u, w.cell? ⟨b, o, none⟩ = some u ∧ w.frozen? ⟨b, o, none⟩ = false := by
  refine ⟨cs[o], ?_, by simp [World.frozen?, hb]⟩
  rw [cell_of_row w b _ cs t (0, 0) hb]
  simp [ho]

theorem three_boxes (w : World) (cs ds es : Array Value) (t u v : TypeId) : Below w.heap.size w (((w.alloc (.cells cs t)).alloc (.cells ds u)).alloc (.cells es v)) ∧ (((w.alloc (.cells cs t)).alloc (.cells ds u)).alloc (.cells es v)).heap[w.heap.size]? = some (.cells cs t (0, 0)) ∧ (((w.alloc (.cells cs t)).alloc (.cells ds u)).alloc (.cells es v)).heap[w.heap.size + 1]? = some (.cells ds u (0, 0)) ∧ (((w.alloc (.cells cs t)).alloc (.cells ds u)).alloc (.cells es v)).heap[w.heap.size + 2]? = some (.cells es v (0, 0)) ∧ (((w.alloc (.cells cs t)).alloc (.cells ds u)).alloc (.cells es v)).heap.size = w.heap.size + 3 := by
  obtain ⟨h1, h2, h3⟩ := two_boxes w cs ds t u
  have hs : ((w.alloc (.cells cs t)).alloc (.cells ds u)).heap.size = w.heap.size + 2 := by simp
  generalize (w.alloc (.cells cs t)).alloc (.cells ds u) = w2 at *
  have h4 := heap_alloc_new w2 (.cells es v)
  rw [hs] at h4
  exact ⟨h1.alloc (by omega) _, (heap_alloc_old w2 _ (by omega)).trans h2, (heap_alloc_old w2 _ (by omega)).trans h3, h4, by simp; omega⟩
set_option maxRecDepth 100000 in
set_option maxHeartbeats 4000000 in
theorem laws_toPartS (xs : List Pt) (hE : ∀ x ∈ xs, ToC x) (A : Option Addr) (c : Nat) (w : World) (hx : RdP w (All w) A xs) (hn : xs.length + Pt.sizes xs ≤ 1048576) :
    Calls Try.prog 36 #[.slice A xs.length c] w fun e w' => ∃ A', e = .returned (.slice A' xs.length xs.length) ∧ RdP w' (Fresh w w') A' xs ∧ Below w.heap.size w w' := by
  have HE0 := Lib.hid hE
  have HX := Lib.hid hx
  have HSZ := Lib.hid hn
  have hxl : xs.length ≤ 1048576 := by omega
  obtain ⟨i0, hi, hz0, hz1, hz2⟩ := info_parts Try.info_Part
  have hmk := fun w => make_row (P := Try.prog) Try.underlying23 hi hz0 hz1 hz2 xs.length (by omega) (by omega) w
  have hsz : (madeCells (Value.agg zeroP).cells (xs.length * 5)).size = xs.length * 5 := size_madeCells _ _
  generalize hM : madeCells (Value.agg zeroP).cells (xs.length * 5) = M at *
  clear hM hi hz0 hz1 hz2 hE hx hn
  have HMS := Lib.hid hsz
  clear hsz
  go_enter Try.func36, Try.ntmps36
  go_wp2
  go_loopw [4] (fun i wr => ∃ (j : Nat) (cs : Array Value), j ≤ xs.length ∧ i = .int .i64 j ∧ wr.heap[w.heap.size]? = some (.cells cs 66 (0, 0)) ∧ cs.size = xs.length * 5 ∧ (∀ q (hq : q < xs.length), q < j → ∃ v, AtC cs (q * 5) v ∧ InP wr (fun b => w.heap.size < b ∧ b < wr.heap.size) xs[q] v) ∧ Below w.heap.size w wr) (fun i _ => xs.length - (intOf i).toNat)
  case atStart => exact ⟨0, M, Nat.zero_le _, rfl, heap_alloc_new w _, HMS.out, fun q _ hq => absurd hq (by omega), (Below.refl _ _).alloc (Nat.le_refl _) _⟩
  case round =>
    obtain ⟨j, cs, hj, rfl, hg, hcs, hdone, hb⟩ := hrel
    have HB := Lib.hid hb
    have HG := Lib.hid hg
    have HD := Lib.hid hdone
    have HCS := Lib.hid hcs
    have hgs : w.heap.size < wr.heap.size := lt_of_block hg
    clear hb hg hdone hcs
    by_cases hlt : j < xs.length
    · obtain ⟨b1, o1, hA1, hb1, kd, tt, nn, An1, ln1, cn1, Ai1, li1, ci1, hin, c0, c1, c2, c3, c4⟩ := (HX.out.now HB.out).at hlt
      have hsj : Pt.size xs[j] ≤ 1048576 := by have := Pt.size_mem (List.getElem_mem hlt); have := HSZ.out; omega
      have HCALL := Lib.hid (HE0.out xs[j] (List.getElem_mem hlt) _ wr hin hsj)
      clear hin hsj
      subst hA1
      go_wp2_with fail
      refine HCALL.out.mono ?_
      rintro e w2 ⟨k2, t2, n2, An2, ln2, cn2, Ai2, li2, ci2, rfl, hin2, hb⟩
      have HB2 := Lib.hid (HB.out.trans (hb.mono HB.out.size))
      have hg2 := bx_keep HG.out hb
      have HG2 := Lib.hid hg2
      have hs := HCS.out
      obtain ⟨r0, p0, q0⟩ := cell_some (o := j * 5) hg2 (by omega)
      obtain ⟨r1, p1, q1⟩ := cell_some (o := j * 5 + 1) hg2 (by omega)
      obtain ⟨r2, p2, q2⟩ := cell_some (o := j * 5 + 2) hg2 (by omega)
      obtain ⟨r3, p3, q3⟩ := cell_some (o := j * 5 + 3) hg2 (by omega)
      obtain ⟨r4, p4, q4⟩ := cell_some (o := j * 5 + 4) hg2 (by omega)
      have HKEEP : Hid (∀ q (hq : q < xs.length), q < j → ∃ v, AtC cs (q * 5) v ∧ InP w2 (fun b => w.heap.size < b ∧ b < w2.heap.size) xs[q] v) := by
        intro q hq hqj
        obtain ⟨v, h1, h2⟩ := HD.out q hq hqj
        exact ⟨v, h1, InP.keep (fun p hp => hb.cell hp.2) (fun b h => ⟨h.1, Nat.lt_of_lt_of_le h.2 hb.size⟩) _ v h2⟩
      have HNEW : Hid (InP w2 (fun b => w.heap.size < b ∧ b < w2.heap.size) xs[j] (ptV k2 t2 n2 An2 ln2 cn2 Ai2 li2 ci2)) := InP.keep (fun _ _ => rfl) (fun b h => ⟨Nat.lt_of_lt_of_le hgs h.1, h.2⟩) _ _ hin2
      clear hb hin2 hg2 hs
      go_wp2
      go_roundw
      case rel =>
        refine ⟨j + 1, set5 cs (j * 5) (.int .i64 k2) (sv t2) (sv n2) (.slice An2 ln2 cn2) (.slice Ai2 li2 ci2), by omega, by go_num, cells_set (cells_set (cells_set (cells_set (cells_set HG2.out)))), set5_size.trans HCS.out, ?_, Below.setCell (Below.setCell (Below.setCell (Below.setCell (Below.setCell HB2.out (Nat.le_refl _) _) (Nat.le_refl _) _) (Nat.le_refl _) _) (Nat.le_refl _) _) (Nat.le_refl _) _⟩
        intro q hq hqj
        have hcell : ∀ (W : World) (o : Nat) (u : Value) (x : Pt) (v : Value), InP W (fun b => w.heap.size < b ∧ b < W.heap.size) x v → InP (W.setCell ⟨w.heap.size, o, none⟩ u) (fun b => w.heap.size < b ∧ b < (W.setCell ⟨w.heap.size, o, none⟩ u).heap.size) x v := by
          intro W o u x v h
          refine InP.keep (fun p hp => World.cell?_of_block (Below.heap_setCell _ _ _ _ (by have := hp.1; show p.block ≠ w.heap.size; omega))) (fun b h => ⟨h.1, by have := h.2; simp [World.setCell]; exact this⟩) x v h
        by_cases hqe : q = j
        · subst hqe
          exact ⟨_, set5_at (by have := HCS.out; omega), hcell _ _ _ _ _ (hcell _ _ _ _ _ (hcell _ _ _ _ _ (hcell _ _ _ _ _ (hcell _ _ _ _ _ HNEW.out))))⟩
        · obtain ⟨v, h1, h2⟩ := HKEEP.out q hq (by omega)
          exact ⟨v, set5_other h1 (by omega), hcell _ _ _ _ _ (hcell _ _ _ _ _ (hcell _ _ _ _ _ (hcell _ _ _ _ _ (hcell _ _ _ _ _ h2))))⟩
      case measure => simp [intOf]; omega
    · go_wp2
      go_ret
      refine ⟨_, rfl, fun hne => ⟨w.heap.size, 0, rfl, ⟨Nat.le_refl _, hgs⟩, InPs.of_get fun i hi => ?_⟩, HB.out⟩
      obtain ⟨v, h1, h2⟩ := HD.out i hi (by omega)
      exact ⟨v, by rw [Nat.zero_add]; exact h1.at5 HG.out, InP.keep (fun _ _ => rfl) (fun b h => ⟨Nat.le_of_lt h.1, h.2⟩) _ v h2⟩

set_option maxRecDepth 100000 in
set_option maxHeartbeats 8000000 in
theorem laws_toPart (a : Pt) : ToC a := by
  induction a using Pt.ind with
  | h k t n xs ys ih1 ih2 =>
  intro u w hu hsz
  obtain ⟨Ap, cp, Ao, co, rfl, hcp, hco, hrp, hro⟩ := hu.parts
  simp only [Pt.size] at hsz
  have HTS := Lib.hid (fun w2 (hb : Below w.heap.size w w2) => laws_toPartS xs ih1 Ap cp w2 (hrp.now hb) (by omega))
  have HTN := Lib.hid (fun w2 (hb : Below w.heap.size w w2) => laws_toPartS ys ih2 Ao co w2 (hro.now hb) (by omega))
  clear hu hrp hro ih1 ih2
  go_enter Try.func56, Try.ntmps56
  go_wp2_with fail
  obtain ⟨hB0, hX0, hZ0, hY0, hs0⟩ := three_boxes w (ptCells k t n Ap xs.length cp Ao ys.length co) zeroP #[.int .i64 k, sv t, sv n, .slice none 0 0, .slice none 0 0] 75 66 66
  have HB0 := Lib.hid hB0
  have HX0 := Lib.hid hX0
  have HZ0 := Lib.hid hZ0
  have HY0 := Lib.hid hY0
  have HS0 := Lib.hid hs0
  clear hB0 hX0 hZ0 hY0 hs0
  refine (HTS.out _ HB0.out).mono ?_
  rintro e w1 ⟨A1, rfl, ho, hb⟩
  have hz1 : w.heap.size + 3 ≤ w1.heap.size := by rw [← HS0.out]; exact hb.size
  have HB1 := Lib.hid (HB0.out.trans (hb.mono HB0.out.size))
  have HX1 := Lib.hid (bx_keep HX0.out hb)
  have HZ1 := Lib.hid (bx_keep HZ0.out hb)
  have HY1 := Lib.hid (bx_keep HY0.out hb)
  have HN1 : Hid (RdP w1 (fun b => w.heap.size + 3 ≤ b ∧ b < w1.heap.size) A1 xs) := ho.keep (fun _ _ => rfl) (fun b h => ⟨by rw [← HS0.out]; exact h.1, h.2⟩)
  obtain ⟨⟨y0, y1, y2, y3, y4⟩, y5, y6, y7, y8, y9⟩ := box_five HY1.out
  obtain ⟨⟨x0, x1, x2, x3, x4⟩, -⟩ := box_five HX1.out
  have HB1' := Lib.hid (Below.setCell HB1.out (p := ⟨w.heap.size + 2, 3, none⟩) (by show w.heap.size ≤ w.heap.size + 2; omega) (.slice A1 xs.length xs.length))
  have HY1' : Hid ((w1.setCell ⟨w.heap.size + 2, 3, none⟩ (.slice A1 xs.length xs.length)).heap[w.heap.size + 2]? = some (.cells #[.int .i64 k, sv t, sv n, .slice A1 xs.length xs.length, .slice none 0 0] 66 (0, 0))) := cells_set HY1.out
  have HZ1' : Hid ((w1.setCell ⟨w.heap.size + 2, 3, none⟩ (.slice A1 xs.length xs.length)).heap[w.heap.size + 1]? = some (.cells zeroP 66 (0, 0))) := (Below.heap_setCell _ _ _ _ (by show w.heap.size + 1 ≠ w.heap.size + 2; omega)).trans HZ1.out
  have hs1 : (w1.setCell ⟨w.heap.size + 2, 3, none⟩ (.slice A1 xs.length xs.length)).heap.size = w1.heap.size := by simp [World.setCell]
  clear ho hb
  go_wp2_with fail
  refine (HTN.out _ HB1'.out).mono ?_
  rintro e w2 ⟨A2, rfl, hrd, hb⟩
  have hz2 : w1.heap.size ≤ w2.heap.size := by rw [← hs1]; exact hb.size
  have HB2 := Lib.hid (HB1'.out.trans (hb.mono HB1'.out.size))
  have HZ2 := Lib.hid (bx_keep HZ1'.out hb)
  have HY2 := Lib.hid (bx_keep HY1'.out hb)
  have hset : ∀ (W : World) (q o : Nat) (u : Value) (p : Addr), q ≤ w.heap.size + 2 → w.heap.size + 3 ≤ p.block → (W.setCell ⟨q, o, none⟩ u).cell? p = W.cell? p := fun W q o u p h1 h2 => World.cell?_of_block (Below.heap_setCell _ _ _ _ (by show p.block ≠ q; omega))
  have HN2 : Hid (RdP w2 (fun b => w.heap.size + 3 ≤ b ∧ b < w2.heap.size) A1 xs) := HN1.out.keep (fun p hp => (hb.cell (by rw [hs1]; exact hp.2)).trans (hset _ _ _ _ _ (by omega) hp.1)) (fun b h => ⟨h.1, by omega⟩)
  have HR2 : Hid (RdP w2 (fun b => w.heap.size + 3 ≤ b ∧ b < w2.heap.size) A2 ys) := hrd.keep (fun _ _ => rfl) (fun b h => ⟨by have := h.1; rw [hs1] at this; omega, h.2⟩)
  have HSET := Lib.hid hset
  obtain ⟨⟨y0, y1, y2, y3, y4⟩, y5, y6, y7, y8, y9⟩ := box_five HY2.out
  obtain ⟨⟨z0, z1, z2, z3, z4⟩, z5, z6, z7, z8, z9⟩ := box_five HZ2.out
  clear hb hrd hset
  go_wp2
  refine bodyPost_ret (v := ptV k t n A1 xs.length xs.length A2 ys.length ys.length) (by simp [results, Try.results56, go_sem, *]) rfl ?_
  have hs9 : ∀ (W : World) (p : Addr) (u : Value), (W.setCell p u).heap.size = W.heap.size := fun W p u => by simp [World.setCell]
  refine ⟨k, t, n, A1, xs.length, xs.length, A2, ys.length, ys.length, rfl, InP.mk (Nat.le_refl _) (Nat.le_refl _) (HN2.out.keep (fun p hp => ?_) (fun b h => ⟨by omega, by simp only [hs9]; exact h.2⟩)) (HR2.out.keep (fun p hp => ?_) (fun b h => ⟨by omega, by simp only [hs9]; exact h.2⟩)), Below.setCell (Below.setCell (Below.setCell (Below.setCell (Below.setCell (Below.setCell HB2.out ?_ _) ?_ _) ?_ _) ?_ _) ?_ _) ?_ _⟩
  · rw [HSET.out _ _ _ _ _ (by omega) hp.1, HSET.out _ _ _ _ _ (by omega) hp.1, HSET.out _ _ _ _ _ (by omega) hp.1, HSET.out _ _ _ _ _ (by omega) hp.1, HSET.out _ _ _ _ _ (by omega) hp.1, HSET.out _ _ _ _ _ (by omega) hp.1]
  · rw [HSET.out _ _ _ _ _ (by omega) hp.1, HSET.out _ _ _ _ _ (by omega) hp.1, HSET.out _ _ _ _ _ (by omega) hp.1, HSET.out _ _ _ _ _ (by omega) hp.1, HSET.out _ _ _ _ _ (by omega) hp.1, HSET.out _ _ _ _ _ (by omega) hp.1]
  all_goals first | (show w.heap.size ≤ w.heap.size + 2; omega) | (show w.heap.size ≤ w.heap.size + 1; omega)
end Go.Proofs.Ytginghjgfippiaa
