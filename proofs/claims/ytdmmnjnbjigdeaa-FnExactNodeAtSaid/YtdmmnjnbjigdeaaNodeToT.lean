/- Nodes in the laws: conversion, in rows of its own: walks. -/
import Derived.Test.YtdmmnjnbjigdeaaNodeOw
import Derived.Test.YtdmmnjnbjigdeaaNodeTo
namespace Go.Proofs.Ytdmmnjnbjigdeaa
open Go.RowKit

def ToT (x : Nd) : Prop := ∀ (u : Value) (w : World), InN w (All w) x u → Nd.size x ≤ 1048576 → Calls Try.prog 10 #[u] w (NewT w x)
theorem list_five {cs : List Value} {rs : List Raw} (hl : cs.length = rs.length * 5) (h : ∀ q (hq : q < rs.length), ∀ i, i < 5 → cs[q * 5 + i]? = (rs[q]).cs[i]?) : cs = rcells rs := by
  apply List.ext_getElem?
  intro i
  by_cases hi : i < rs.length * 5
  · have hq : i / 5 < rs.length := by omega
    have h1 := h (i / 5) hq (i % 5) (Nat.mod_lt _ (by omega))
    rw [show i / 5 * 5 + i % 5 = i by omega] at h1
    have h2 := rcells_get rs (i / 5) (rs[i / 5]) (i % 5) (List.getElem?_eq_getElem hq) (Nat.mod_lt _ (by omega))
    rw [show i / 5 * 5 + i % 5 = i by omega] at h2
    rw [h1, h2]
  · rw [List.getElem?_eq_none (by omega), List.getElem?_eq_none (by rw [rcells_length]; omega)]
theorem ownN_made {w : World} {base g n : Nat} {cs : Array Value} {rs : List Raw} (hb : base ≤ g) (hg : w.heap[g]? = some (.cells cs 30 (0, 0))) (hcs : cs.size = n * 5) (hn : rs.length = n) (hm : n ≤ maxLen) (h : ∀ q (hq : q < rs.length), AtC cs (q * 5) (rs[q]).v) : OwnN w base (some ⟨g, 0, none⟩) n rs := by
  have he : cs.toList = rcells rs := by
    refine list_five (by rw [Array.length_toList, hcs, hn]) fun q hq i hi => ?_
    obtain ⟨c0, c1, c2, c3, c4, e, h0, h1, h2, h3, h4⟩ := h q hq
    injection e with e
    simp only [Array.mk.injEq, List.cons.injEq, and_true] at e
    obtain ⟨rfl, rfl, rfl, rfl, rfl⟩ := e
    rw [Array.getElem?_toList]
    match i, hi with
    | 0, _ => exact h0
    | 1, _ => exact h1
    | 2, _ => exact h2
    | 3, _ => exact h3
    | 4, _ => exact h4
  subst hn
  refine ⟨rcells_length rs, .inr ⟨g, rs.length, cs, rfl, hb, hg, Nat.le_refl _, hm, hcs, ?_⟩⟩
  rw [he, List.take_of_length_le (by rw [rcells_length]; exact Nat.le_refl _)]
set_option maxRecDepth 100000 in
set_option maxHeartbeats 4000000 in
theorem laws_toNodeST (xs : List Nd) (hE : ∀ x ∈ xs, ToT x) (A : Option Addr) (c : Nat) (w : World) (hx : RdN w (All w) A xs) (hn : xs.length + Nd.sizes xs ≤ 1048576) :
    Calls Try.prog 25 #[.slice A xs.length c] w fun e w' => ∃ A' rs L, e = .returned (.slice A' xs.length xs.length) ∧ OwnN w' w.heap.size A' xs.length rs ∧ OwTs w' xs rs L ∧ (bk A' xs.length xs.length ++ L).Nodup ∧ (∀ b ∈ bk A' xs.length xs.length ++ L, w.heap.size ≤ b) ∧ Below w.heap.size w w' := by
  have HE0 := Lib.hid hE
  have HX := Lib.hid hx
  have HSZ := Lib.hid hn
  have hxl : xs.length ≤ 1048576 := by omega
  obtain ⟨i0, hi, hz0, hz1, hz2⟩ := info_parts Try.info_Node
  have hmk := fun w => make_row (P := Try.prog) Try.underlying28 hi hz0 hz1 hz2 xs.length (by omega) (by omega) w
  have hsz : (madeCells (Value.agg zeroN).cells (xs.length * 5)).size = xs.length * 5 := size_madeCells _ _
  generalize hM : madeCells (Value.agg zeroN).cells (xs.length * 5) = M at *
  clear hM hi hz0 hz1 hz2 hE hx hn
  have HMS := Lib.hid hsz
  clear hsz
  go_enter Try.func25, Try.ntmps25
  go_wp2
  go_loopw [4] (fun i wr => ∃ (j : Nat) (cs : Array Value) (rs : List Raw) (L : List Nat), j ≤ xs.length ∧ i = .int .i64 j ∧ wr.heap[w.heap.size]? = some (.cells cs 30 (0, 0)) ∧ cs.size = xs.length * 5 ∧ rs.length = j ∧ (∀ q (hq : q < rs.length), AtC cs (q * 5) (rs[q]).v) ∧ OwTs wr (xs.take j) rs L ∧ L.Nodup ∧ (∀ b ∈ L, w.heap.size < b) ∧ Below w.heap.size w wr) (fun i _ => xs.length - (intOf i).toNat)
  case atStart => exact ⟨0, M, [], [], Nat.zero_le _, rfl, heap_alloc_new w _, HMS.out, rfl, fun q hq => (by simp at hq), by simp [OwTs], List.nodup_nil, fun b hb => (by cases hb), (Below.refl _ _).alloc (Nat.le_refl _) _⟩
  case round =>
    obtain ⟨j, cs, rs, L, hj, rfl, hg, hcs, hrl, hdone, htd, hnd, hrg, hb⟩ := hrel
    have HB := Lib.hid hb
    have HG := Lib.hid hg
    have HD := Lib.hid hdone
    have HCS := Lib.hid hcs
    have HTD := Lib.hid htd
    have HND := Lib.hid hnd
    have HRG := Lib.hid hrg
    have hgs : w.heap.size < wr.heap.size := lt_of_block hg
    clear hb hg hdone hcs htd hnd hrg
    by_cases hlt : j < xs.length
    · obtain ⟨b1, o1, hA1, hb1, kd, nn, tt, An1, ln1, cn1, Ai1, li1, ci1, hin, c0, c1, c2, c3, c4⟩ := (HX.out.now HB.out).at hlt
      have hsj : Nd.size xs[j] ≤ 1048576 := by have := Nd.size_mem (List.getElem_mem hlt); have := HSZ.out; omega
      have HCALL := Lib.hid (HE0.out xs[j] (List.getElem_mem hlt) _ wr hin hsj)
      have HTK := Lib.hid (take_snoc xs j hlt)
      clear hin hsj
      subst hA1
      go_wp2_with fail
      refine HCALL.out.mono ?_
      rintro e w2 ⟨⟨k2, n2, t2, An2, ln2, cn2, Ai2, li2, ci2⟩, La, rfl, ho2, hn2, hr2, hb⟩
      have HB2 := Lib.hid (HB.out.trans (hb.mono HB.out.size))
      have hg2 := bx_keep HG.out hb
      have HG2 := Lib.hid hg2
      have hs := HCS.out
      obtain ⟨r0, p0, q0⟩ := cell_some (o := j * 5) hg2 (by omega)
      obtain ⟨r1, p1, q1⟩ := cell_some (o := j * 5 + 1) hg2 (by omega)
      obtain ⟨r2, p2, q2⟩ := cell_some (o := j * 5 + 2) hg2 (by omega)
      obtain ⟨r3, p3, q3⟩ := cell_some (o := j * 5 + 3) hg2 (by omega)
      obtain ⟨r4, p4, q4⟩ := cell_some (o := j * 5 + 4) hg2 (by omega)
      have HTD2 := Lib.hid ((HTD.out.keep (w' := w2) (fun b h => hb.block b (HTD.out.lt b h))).snoc ho2)
      have HND2 : Hid ((L ++ La).Nodup) := by
        show List.Nodup _
        rw [List.nodup_append]
        exact ⟨HND.out, hn2, fun a ha b hb e => by have := HTD.out.lt a ha; have := hr2 b hb; omega⟩
      have HRG2 : Hid (∀ b ∈ L ++ La, w.heap.size < b) := fun b hb => by
        rcases List.mem_append.1 hb with hb | hb
        · exact HRG.out b hb
        · have := hr2 b hb; omega
      clear hb ho2 hn2 hr2 hg2 hs
      go_wp2
      go_roundw
      case rel =>
        refine ⟨j + 1, set5 cs (j * 5) (.int .i64 k2) (.int .i64 n2) (sv t2) (.slice An2 ln2 cn2) (.slice Ai2 li2 ci2), rs ++ [⟨k2, n2, t2, An2, ln2, cn2, Ai2, li2, ci2⟩], L ++ La, by omega, by go_num, cells_set (cells_set (cells_set (cells_set (cells_set HG2.out)))), set5_size.trans HCS.out, by simp [hrl], ?_, ?_, HND2.out, HRG2.out, Below.setCell (Below.setCell (Below.setCell (Below.setCell (Below.setCell HB2.out (Nat.le_refl _) _) (Nat.le_refl _) _) (Nat.le_refl _) _) (Nat.le_refl _) _) (Nat.le_refl _) _⟩
        · intro q hq
          by_cases hqe : q < rs.length
          · rw [List.getElem_append_left hqe]
            exact set5_other (HD.out q hqe) (by omega)
          · have hqj : q = rs.length := by simp at hq; omega
            subst hqj
            rw [List.getElem_append_right (Nat.le_refl _)]
            simp only [Nat.sub_self, List.getElem_cons_zero]
            rw [hrl]
            exact set5_at (by have := HCS.out; omega)
        · rw [HTK.out]
          refine HTD2.out.keep fun b hb => ?_
          have hb2 := HRG2.out b hb
          rw [Below.heap_setCell _ _ _ _ (by show b ≠ w.heap.size; omega), Below.heap_setCell _ _ _ _ (by show b ≠ w.heap.size; omega), Below.heap_setCell _ _ _ _ (by show b ≠ w.heap.size; omega), Below.heap_setCell _ _ _ _ (by show b ≠ w.heap.size; omega), Below.heap_setCell _ _ _ _ (by show b ≠ w.heap.size; omega)]
      case measure => simp [intOf]; omega
    · have hjx : xs.take j = xs := List.take_of_length_le (by omega)
      have HTD2 := HTD.out
      rw [hjx] at HTD2
      have HTD3 := Lib.hid HTD2
      clear HTD2 hjx
      go_wp2
      go_ret
      refine ⟨_, rs, L, rfl, ownN_made (Nat.le_refl _) HG.out HCS.out (by omega) (by unfold maxLen; omega) HD.out, HTD3.out, ?_, ?_, HB.out⟩
      · rw [show bk (some ⟨w.heap.size, 0, none⟩) xs.length xs.length = [w.heap.size] from rfl, List.nodup_append]
        exact ⟨by simp, HND.out, fun a ha b hb e => by simp at ha; have := HRG.out b hb; omega⟩
      · intro b hb
        rw [show bk (some ⟨w.heap.size, 0, none⟩) xs.length xs.length = [w.heap.size] from rfl] at hb
        rcases List.mem_append.1 hb with hb | hb
        · simp at hb; omega
        · have := HRG.out b hb; omega

set_option maxRecDepth 100000 in
set_option maxHeartbeats 8000000 in
theorem laws_toNodeT (a : Nd) : ToT a := by
  induction a using Nd.ind with
  | h k n t ns xs ih =>
  intro u w hu hsz
  obtain ⟨An, cn, Ai, ci, rfl, hrn, hcn, hci, hri⟩ := hu.parts
  simp only [Nd.size] at hsz
  have HRN := Lib.hid hrn
  have HRI := Lib.hid hri
  have HTS := Lib.hid (fun w2 (hb : Below w.heap.size w w2) => laws_toStringS ns An cn w2 ((hrn.now hb).rd (fun _ h => h)) (by omega))
  have HTN := Lib.hid (fun w2 (hb : Below w.heap.size w w2) => laws_toNodeST xs ih Ai ci w2 (hri.now hb) (by omega))
  clear hu hrn hri ih
  go_enter Try.func10, Try.ntmps10
  go_wp2_with fail
  obtain ⟨hB0, hX0, hZ0, hY0, hs0⟩ := three_boxes w (ndCells k n t An ns.length cn Ai xs.length ci) zeroN #[.int .i64 k, .int .i64 n, sv t, .slice none 0 0, .slice none 0 0] 25 30 30
  have HB0 := Lib.hid hB0
  have HX0 := Lib.hid hX0
  have HZ0 := Lib.hid hZ0
  have HY0 := Lib.hid hY0
  have HS0 := Lib.hid hs0
  clear hB0 hX0 hZ0 hY0 hs0
  refine (HTS.out _ HB0.out).mono ?_
  rintro e w1 ⟨A1, c1, rfl, ho, hb⟩
  have hz1 : w.heap.size + 3 ≤ w1.heap.size := by rw [← HS0.out]; exact hb.size
  have HB1 := Lib.hid (HB0.out.trans (hb.mono HB0.out.size))
  have HX1 := Lib.hid (bx_keep HX0.out hb)
  have HZ1 := Lib.hid (bx_keep HZ0.out hb)
  have HY1 := Lib.hid (bx_keep HY0.out hb)
  have HN1 : Hid (OwnS w1 (w.heap.size + 3) A1 c1 ns) := by show OwnS _ _ _ _ _; rw [← HS0.out]; exact ho
  obtain ⟨⟨y0, y1, y2, y3, y4⟩, y5, y6, y7, y8, y9⟩ := box_five HY1.out
  obtain ⟨⟨x0, x1, x2, x3, x4⟩, -⟩ := box_five HX1.out
  have HB1' := Lib.hid (Below.setCell HB1.out (p := ⟨w.heap.size + 2, 3, none⟩) (by show w.heap.size ≤ w.heap.size + 2; omega) (.slice A1 ns.length c1))
  have HY1' : Hid ((w1.setCell ⟨w.heap.size + 2, 3, none⟩ (.slice A1 ns.length c1)).heap[w.heap.size + 2]? = some (.cells #[.int .i64 k, .int .i64 n, sv t, .slice A1 ns.length c1, .slice none 0 0] 30 (0, 0))) := cells_set HY1.out
  have HZ1' : Hid ((w1.setCell ⟨w.heap.size + 2, 3, none⟩ (.slice A1 ns.length c1)).heap[w.heap.size + 1]? = some (.cells zeroN 30 (0, 0))) := (Below.heap_setCell _ _ _ _ (by show w.heap.size + 1 ≠ w.heap.size + 2; omega)).trans HZ1.out
  have hs1 : (w1.setCell ⟨w.heap.size + 2, 3, none⟩ (.slice A1 ns.length c1)).heap.size = w1.heap.size := by simp [World.setCell]
  have HN1' := Lib.hid (offN (u := .slice A1 ns.length c1) (o := 3) HN1.out (show w.heap.size + 2 < w.heap.size + 3 by omega))
  clear ho hb
  go_wp2_with fail
  refine (HTN.out _ HB1'.out).mono ?_
  rintro e w2 ⟨A2, rs, L, rfl, hoi, hot, hnd, hrg, hb⟩
  rw [hs1] at hoi hrg
  have hz2 : w1.heap.size ≤ w2.heap.size := by rw [← hs1]; exact hb.size
  have HB2 := Lib.hid (HB1'.out.trans (hb.mono HB1'.out.size))
  have HZ2 := Lib.hid (bx_keep HZ1'.out hb)
  have HY2 := Lib.hid (bx_keep HY1'.out hb)
  have HN2 := Lib.hid (own_below HN1'.out hb)
  have HT2 : Hid (OwT w2 (.mk k n t ns xs) ⟨k, n, t, A1, ns.length, c1, A2, xs.length, xs.length⟩ (bk A1 ns.length c1 ++ (bk A2 xs.length xs.length ++ L))) := by
    show OwT _ _ _ _
    have hl := hot.len
    have hoi2 : OwnN w2 0 A2 xs.length rs := own_base hoi (Nat.zero_le _)
    rw [OwT]
    exact ⟨rfl, rfl, rfl, rfl, rfl, own_base HN2.out (Nat.zero_le _), rs, L, hoi2, hot, rfl⟩
  have hn1l : ∀ b, b ∈ bk A1 ns.length c1 → w.heap.size + 3 ≤ b ∧ b < w1.heap.size := fun b hb => HN1.out.lt b (bk_mem.1 hb)
  have HNDA : Hid ((bk A1 ns.length c1 ++ (bk A2 xs.length xs.length ++ L)).Nodup) := by
    show List.Nodup _
    rw [List.nodup_append]
    refine ⟨?_, hnd, fun a ha b hb e => ?_⟩
    · cases A1 <;> simp [bk, Value.ownBlock]
    · have := (hn1l a ha).2; have := hrg b hb; omega
  have HRGA : Hid (∀ b ∈ bk A1 ns.length c1 ++ (bk A2 xs.length xs.length ++ L), w.heap.size + 3 ≤ b) := fun b hb => by
    rcases List.mem_append.1 hb with hb | hb
    · exact (hn1l b hb).1
    · have := hrg b hb; omega
  obtain ⟨⟨y0, y1, y2, y3, y4⟩, y5, y6, y7, y8, y9⟩ := box_five HY2.out
  obtain ⟨⟨z0, z1, z2, z3, z4⟩, z5, z6, z7, z8, z9⟩ := box_five HZ2.out
  clear hb hoi hot hnd hrg hn1l
  go_wp2
  refine bodyPost_ret (v := ndV k n t A1 ns.length c1 A2 xs.length xs.length) (by simp [results, Try.results10, go_sem, *]) rfl ?_
  refine ⟨⟨k, n, t, A1, ns.length, c1, A2, xs.length, xs.length⟩, _, rfl, OwT.keep _ _ _ HT2.out (fun b hb => ?_), HNDA.out, fun b hb => by have := HRGA.out b hb; omega, Below.setCell (Below.setCell (Below.setCell (Below.setCell (Below.setCell (Below.setCell HB2.out ?_ _) ?_ _) ?_ _) ?_ _) ?_ _) ?_ _⟩
  · have hb2 := HRGA.out b hb
    rw [Below.heap_setCell _ _ _ _ (by show b ≠ w.heap.size + 1; omega), Below.heap_setCell _ _ _ _ (by show b ≠ w.heap.size + 1; omega), Below.heap_setCell _ _ _ _ (by show b ≠ w.heap.size + 1; omega), Below.heap_setCell _ _ _ _ (by show b ≠ w.heap.size + 1; omega), Below.heap_setCell _ _ _ _ (by show b ≠ w.heap.size + 1; omega), Below.heap_setCell _ _ _ _ (by show b ≠ w.heap.size + 2; omega)]
  all_goals first | (show w.heap.size ≤ w.heap.size + 2; omega) | (show w.heap.size ≤ w.heap.size + 1; omega)
end Go.Proofs.Ytdmmnjnbjigdeaa
