import Derived.Test.YtmboieajfdkllaaGreatU32
import Derived.Test.YtmboieajfdkllaaGreatU02
import Derived.Test.YtmboieajfdkllaaGreatU36
set_option maxHeartbeats 8000000
set_option maxRecDepth 100000
open Go.Proofs.Tryz
namespace Go.Proofs.YtmboieajfdkllaaGreat
open Go.RowKit
def NewX (w : World) (x : Pt) (e : Ending) (w' : World) : Prop := ∃ (r : Raw) (L : List Nat), e = .returned r.v /\ OwP w' x r L /\ L.Nodup /\ (∀ b ∈ L, w.heap.size <= b) /\ Below w.heap.size w w'
def ToX (x : Pt) : Prop := ∀ (u : Value) (w : World), InP w (All w) x u -> Pt.size x <= 1048576 -> Calls Tryz.prog 88 #[u] w (NewX w x)
theorem KA {cs : List Value} {rs : List Raw} (hl : cs.length = rs.length * 5) (h : ∀ q (hq : q < rs.length), ∀ i, i < 5 -> cs[q * 5 + i]? = (rs[q]).cs[i]?) : cs = zb rs := by
 apply List.ext_getElem?
 intro i
 by_cases hi : i < rs.length * 5
 ·have hq : i / 5 < rs.length := by omega
  have h1 := h (i / 5) hq (i % 5) (Nat.mod_lt _ (by omega))
  rw [show i / 5 * 5 + i % 5 = i by omega] at h1
  have h2 := xJ rs (i / 5) (rs[i / 5]) (i % 5) (List.getElem?_eq_getElem hq) (Nat.mod_lt _ (by omega))
  rw [show i / 5 * 5 + i % 5 = i by omega] at h2
  rw [h1, h2]
 rw [List.getElem?_eq_none (by omega), List.getElem?_eq_none (by rw [jq]; omega)]
theorem VA {w : World} {base g n : Nat} {cs : Array Value} {rs : List Raw} (hb : base <= g) (hg : w.heap[g]? = some (.cells cs 115 (0, 0))) (hcs : cs.size = n * 5) (hn : rs.length = n) (hm : n <= maxLen) (h : ∀ q (hq : q < rs.length), AtC cs (q * 5) (rs[q]).v) : OwnN w base (some ⟨g, 0, none⟩) n rs := by
 have he : cs.toList = zb rs := by
  refine KA (by rw [Array.length_toList, hcs, hn]) fun q hq i hi => ?_
  obtain ⟨c0, c1, c2, c3, c4, e, h0, h1, h2, h3, h4⟩ := h q hq
  injection e with e
  simp only [Array.mk.injEq, List.cons.injEq, and_true] at e
  obtain ⟨rfl, rfl, rfl, rfl, rfl⟩ := e
  rw [Array.getElem?_toList]
  match i, hi with
  | 0, _ => exact h0
  | 1, _ => exact h1
  | 2, _ => exact h2
  | 3, _ => exact h3
  | 4, _ => exact h4
 subst hn
 refine ⟨jq rs, .inr ⟨g, rs.length, cs, rfl, hb, hg, Nat.le_refl _, hm, hcs, ?_⟩⟩
 rw [he, List.take_of_length_le (by rw [jq]; exact Nat.le_refl _)]
theorem kU (xs : List Pt) (hE : ∀ x ∈ xs, ToX x) (A : Option Addr) (c : Nat) (w : World) (hx : RdP w (All w) A xs) (hn : xs.length + Pt.sizes xs <= 1048576) :
  Calls Tryz.prog 40 #[.slice A xs.length c] w fun e w' => ∃ A' rs L, e = .returned (.slice A' xs.length xs.length) /\ OwnN w' w.heap.size A' xs.length rs /\ OwPs w' xs rs L /\ (bk A' xs.length xs.length ++ L).Nodup /\ (∀ b ∈ bk A' xs.length xs.length ++ L, w.heap.size <= b) /\ Below w.heap.size w w' := by
 have HE0 := qb hE
 have HX := qb hx
 have HSZ := qb hn
 have hxl : xs.length <= 1048576 := by omega
 obtain ⟨i0, hi, hz0, hz1, hz2⟩ := info_parts Tryz.info_Part
 have hmk := fun w => vE (P := Tryz.prog) underlying27 hi hz0 hz1 hz2 xs.length (by omega) (by omega) w
 have hsz : (madeCells (Value.agg xm).cells (xs.length * 5)).size = xs.length * 5 := size_madeCells _ _
 generalize hM : madeCells (Value.agg xm).cells (xs.length * 5) = M at *
 clear hM hi hz0 hz1 hz2 hE hx hn
 have HMS := qb hsz
 clear hsz
 go_enter func40, ntmps40
 go_wp2
 go_loopw [4] (fun i wr => ∃ (j : Nat) (cs : Array Value) (rs : List Raw) (L : List Nat), j <= xs.length /\ i = .int .i64 j /\ wr.heap[w.heap.size]? = some (.cells cs 115 (0, 0)) /\ cs.size = xs.length * 5 /\ rs.length = j /\ (∀ q (hq : q < rs.length), AtC cs (q * 5) (rs[q]).v) /\ OwPs wr (xs.take j) rs L /\ L.Nodup /\ (∀ b ∈ L, w.heap.size < b) /\ Below w.heap.size w wr) (fun i _ => xs.length - (intOf i).toNat)
 case atStart => exact ⟨0, M, [], [], Nat.zero_le _, rfl, heap_alloc_new w _, HMS.out, rfl, fun q hq => (by simp at hq), by simp [OwPs], List.nodup_nil, fun b hb => (by cases hb), (Below.refl _ _).alloc (Nat.le_refl _) _⟩
 obtain ⟨j, cs, rs, L, hj, rfl, hg, hcs, hrl, hdone, htd, hnd, hrg, hb⟩ := hrel
 have HB := qb hb
 have HG := qb hg
 have HD := qb hdone
 have HCS := qb hcs
 have HTD := qb htd
 have HND := qb hnd
 have HRG := qb hrg
 have hgs : w.heap.size < wr.heap.size := lt_of_block hg
 clear hb hg hdone hcs htd hnd hrg
 by_cases hlt : j < xs.length
 ·obtain ⟨b1, o1, hA1, hb1, kd, tt, nn, An1, ln1, cn1, Ai1, li1, ci1, hin, c0, c1, c2, c3, c4⟩ := (HX.out.now HB.out).at hlt
  have hsj : Pt.size xs[j] <= 1048576 := by have := Pt.size_mem (List.getElem_mem hlt); have := HSZ.out; omega
  have HCALL := qb (HE0.out xs[j] (List.getElem_mem hlt) _ wr hin hsj)
  have HTK := qb (zu xs j hlt)
  clear hin hsj
  subst hA1
  go_wp2_with fail
  refine HCALL.out.mono ?_
  rintro e w2 ⟨⟨k2, t2, n2, An2, ln2, cn2, Ai2, li2, ci2⟩, La, rfl, ho2, hn2, hr2, hb⟩
  have HB2 := qb (qa3 HB.out hb)
  have hg2 := qi HG.out hb
  have HG2 := qb hg2
  have hs := HCS.out
  obtain ⟨r0, p0, q0⟩ := jj (o := j * 5) hg2 (by omega)
  obtain ⟨r1, p1, q1⟩ := jj (o := j * 5 + 1) hg2 (by omega)
  obtain ⟨r2, p2, q2⟩ := jj (o := j * 5 + 2) hg2 (by omega)
  obtain ⟨r3, p3, q3⟩ := jj (o := j * 5 + 3) hg2 (by omega)
  obtain ⟨r4, p4, q4⟩ := jj (o := j * 5 + 4) hg2 (by omega)
  have HTD2 := qb ((HTD.out.keep (w' := w2) (fun b h => hb.block b (HTD.out.lt b h))).snoc ho2)
  have HND2 : Hid ((L ++ La).Nodup) := by
   show List.Nodup _
   rw [List.nodup_append]
   exact ⟨HND.out, hn2, fun a ha b hb e => by have := HTD.out.lt a ha; have := hr2 b hb; omega⟩
  have HRG2 : Hid (∀ b ∈ L ++ La, w.heap.size < b) := fun b hb => by
   rcases List.mem_append.1 hb with hb | hb
   ·exact HRG.out b hb
   have := hr2 b hb; omega
  clear hb ho2 hn2 hr2 hg2 hs
  go_wp2
  go_roundw
  case rel =>
   refine ⟨j + 1, set5 cs (j * 5) (.int .i64 k2) (sv t2) (sv n2) (.slice An2 ln2 cn2) (.slice Ai2 li2 ci2), rs ++ [⟨k2, t2, n2, An2, ln2, cn2, Ai2, li2, ci2⟩], L ++ La, by omega, by go_num, qP (qP (qP (qP (qP HG2.out)))), XU.trans HCS.out, by simp [hrl], ?_, ?_, HND2.out, HRG2.out, Below.setCell (Below.setCell (Below.setCell (Below.setCell (Below.setCell HB2.out (Nat.le_refl _) _) (Nat.le_refl _) _) (Nat.le_refl _) _) (Nat.le_refl _) _) (Nat.le_refl _) _⟩
   ·intro q hq
    by_cases hqe : q < rs.length
    ·rw [List.getElem_append_left hqe]
     exact XT (HD.out q hqe) (by omega)
    have hqj : q = rs.length := by simp at hq; omega
    subst hqj
    rw [List.getElem_append_right (Nat.le_refl _)]
    simp only [Nat.sub_self, List.getElem_cons_zero]
    rw [hrl]
    exact set5_at (by have := HCS.out; omega)
   rw [HTK.out]
   refine HTD2.out.keep fun b hb => ?_
   have hb2 := HRG2.out b hb
   rw [Below.heap_setCell _ _ _ _ (by show b ≠ w.heap.size; omega), Below.heap_setCell _ _ _ _ (by show b ≠ w.heap.size; omega), Below.heap_setCell _ _ _ _ (by show b ≠ w.heap.size; omega), Below.heap_setCell _ _ _ _ (by show b ≠ w.heap.size; omega), Below.heap_setCell _ _ _ _ (by show b ≠ w.heap.size; omega)]
  case measure => simp [intOf]; omega
 have hjx : xs.take j = xs := List.take_of_length_le (by omega)
 have HTD2 := HTD.out
 rw [hjx] at HTD2
 have HTD3 := qb HTD2
 clear HTD2 hjx
 go_wp2
 go_ret
 refine ⟨_, rs, L, rfl, VA (Nat.le_refl _) HG.out HCS.out (by omega) (by unfold maxLen; omega) HD.out, HTD3.out, ?_, ?_, HB.out⟩
 ·rw [show bk (some ⟨w.heap.size, 0, none⟩) xs.length xs.length = [w.heap.size] from rfl, List.nodup_append]
  exact ⟨by simp, HND.out, fun a ha b hb e => by simp at ha; have := HRG.out b hb; omega⟩
 intro b hb
 rw [show bk (some ⟨w.heap.size, 0, none⟩) xs.length xs.length = [w.heap.size] from rfl] at hb
 rcases List.mem_append.1 hb with hb | hb
 ·simp at hb; omega
 have := HRG.out b hb; omega
theorem Kz (a : Pt) : ToX a := by
 induction a using Pt.ind with
 | h k t n xs ys ih1 ih2 =>
 intro u w hu hsz
 obtain ⟨Ap, cp, Ao, co, rfl, hcp, hco, hrp, hro⟩ := hu.parts
 simp only [Pt.size] at hsz
 have HTS := qb (fun w2 (hb : Below w.heap.size w w2) => kU xs ih1 Ap cp w2 (hrp.now hb) (by omega))
 have HTN := qb (fun w2 (hb : Below w.heap.size w w2) => kU ys ih2 Ao co w2 (hro.now hb) (by omega))
 clear hu hrp hro ih1 ih2
 go_enter func88, ntmps88
 go_wp2_with fail
 obtain ⟨hB0, hX0, hZ0, hY0, hs0⟩ := kY w (qD k t n Ap xs.length cp Ao ys.length co) xm #[.int .i64 k, sv t, sv n, .slice none 0 0, .slice none 0 0] 103 115 115
 have HB0 := qb hB0
 have HX0 := qb hX0
 have HZ0 := qb hZ0
 have HY0 := qb hY0
 have HS0 := qb hs0
 clear hB0 hX0 hZ0 hY0 hs0
 refine (HTS.out _ HB0.out).mono ?_
 rintro e w1 ⟨A1, rs1, L1, rfl, ho, hoe, hnd1, hrg1, hb⟩
 have hz1 : w.heap.size + 3 <= w1.heap.size := by rw [<- HS0.out]; exact hb.size
 have HB1 := qb (qa3 HB0.out hb)
 have HX1 := qb (qi HX0.out hb)
 have HZ1 := qb (qi HZ0.out hb)
 have HY1 := qb (qi HY0.out hb)
 rw [HS0.out] at ho hrg1
 have HO1 := qb ho
 have HE1 := qb hoe
 have HND1 := qb hnd1
 have HRG1 := qb hrg1
 have HLL1 := qb hoe.len
 obtain ⟨⟨y0, y1, y2, y3, y4⟩, y5, y6, y7, y8, y9⟩ := qI HY1.out
 obtain ⟨⟨x0, x1, x2, x3, x4⟩, -⟩ := qI HX1.out
 have HB1' := qb (Below.setCell HB1.out (p := ⟨w.heap.size + 2, 3, none⟩) (by show w.heap.size <= w.heap.size + 2; omega) (.slice A1 xs.length xs.length))
 have HY1' : Hid ((w1.setCell ⟨w.heap.size + 2, 3, none⟩ (.slice A1 xs.length xs.length)).heap[w.heap.size + 2]? = some (.cells #[.int .i64 k, sv t, sv n, .slice A1 xs.length xs.length, .slice none 0 0] 115 (0, 0))) := qP HY1.out
 have HZ1' : Hid ((w1.setCell ⟨w.heap.size + 2, 3, none⟩ (.slice A1 xs.length xs.length)).heap[w.heap.size + 1]? = some (.cells xm 115 (0, 0))) := (Below.heap_setCell _ _ _ _ (by show w.heap.size + 1 ≠ w.heap.size + 2; omega)).trans HZ1.out
 have hs1 : (w1.setCell ⟨w.heap.size + 2, 3, none⟩ (.slice A1 xs.length xs.length)).heap.size = w1.heap.size := by simp [World.setCell]
 have HK1 : Hid (∀ b, w.heap.size + 3 <= b -> (w1.setCell ⟨w.heap.size + 2, 3, none⟩ (.slice A1 xs.length xs.length)).heap[b]? = w1.heap[b]?) := fun b hb => Below.heap_setCell _ _ _ _ (by show b ≠ w.heap.size + 2; omega)
 clear ho hb hoe hnd1 hrg1
 go_wp2_with fail
 refine (HTN.out _ HB1'.out).mono ?_
 rintro e w2 ⟨A2, rs2, L2, rfl, hoi, hot, hnd, hrg, hb⟩
 rw [hs1] at hoi hrg
 have hz2 : w1.heap.size <= w2.heap.size := by rw [<- hs1]; exact hb.size
 have HB2 := qb (qa3 HB1'.out hb)
 have HZ2 := qb (qi HZ1'.out hb)
 have HY2 := qb (qi HY1'.out hb)
 have HK2 : Hid (∀ b, w.heap.size + 3 <= b -> b < w1.heap.size -> w2.heap[b]? = w1.heap[b]?) := fun b h1 h2 => (hb.block b (by rw [hs1]; exact h2)).trans (HK1.out b h1)
 have hL1 : ∀ b, b ∈ bk A1 xs.length xs.length ++ L1 -> w.heap.size + 3 <= b /\ b < w1.heap.size := fun b hb => by
  refine ⟨HRG1.out b hb, ?_⟩
  rw [List.mem_append] at hb
  rcases hb with hb | hb
  ·exact (HO1.out.lt b (by rw [HLL1.out]; exact qO.1 hb)).2
  exact HE1.out.lt b hb
 have HT2 : Hid (OwP w2 (.mk k t n xs ys) ⟨k, t, n, A1, xs.length, xs.length, A2, ys.length, ys.length⟩ ((bk A1 xs.length xs.length ++ L1) ++ (bk A2 ys.length ys.length ++ L2))) := by
  show OwP _ _ _ _
  rw [OwP]
  exact ⟨rfl, rfl, rfl, rfl, rfl, rs1, L1, rs2, L2, zC (zt HO1.out (fun g hg => HK2.out g (HO1.out.lt g hg).1 (HO1.out.lt g hg).2)) (Nat.zero_le _), HE1.out.keep (fun b hb => HK2.out b (hL1 b (List.mem_append_right _ hb)).1 (hL1 b (List.mem_append_right _ hb)).2), zC hoi (Nat.zero_le _), hot, rfl⟩
 have HNDA : Hid (((bk A1 xs.length xs.length ++ L1) ++ (bk A2 ys.length ys.length ++ L2)).Nodup) := by
  show List.Nodup _
  rw [List.nodup_append]
  exact ⟨HND1.out, hnd, fun a ha b hb e => by have := (hL1 a ha).2; have := hrg b hb; omega⟩
 have HRGA : Hid (∀ b ∈ (bk A1 xs.length xs.length ++ L1) ++ (bk A2 ys.length ys.length ++ L2), w.heap.size + 3 <= b) := fun b hb => by
  rcases List.mem_append.1 hb with hb | hb
  ·exact (hL1 b hb).1
  have := hrg b hb; omega
 obtain ⟨⟨y0, y1, y2, y3, y4⟩, y5, y6, y7, y8, y9⟩ := qI HY2.out
 obtain ⟨⟨z0, z1, z2, z3, z4⟩, z5, z6, z7, z8, z9⟩ := qI HZ2.out
 clear hb hoi hot hnd hrg hL1
 go_wp2
 refine bodyPost_ret (v := ptV k t n A1 xs.length xs.length A2 ys.length ys.length) (by simp [results, results88, go_sem, *]) rfl ?_
 refine ⟨⟨k, t, n, A1, xs.length, xs.length, A2, ys.length, ys.length⟩, _, rfl, OwP.keep _ _ _ HT2.out (fun b hb => ?_), HNDA.out, fun b hb => by have := HRGA.out b hb; omega, Below.setCell (Below.setCell (Below.setCell (Below.setCell (Below.setCell (Below.setCell HB2.out ?_ _) ?_ _) ?_ _) ?_ _) ?_ _) ?_ _⟩
 ·have hb2 := HRGA.out b hb
  rw [Below.heap_setCell _ _ _ _ (by show b ≠ w.heap.size + 1; omega), Below.heap_setCell _ _ _ _ (by show b ≠ w.heap.size + 1; omega), Below.heap_setCell _ _ _ _ (by show b ≠ w.heap.size + 1; omega), Below.heap_setCell _ _ _ _ (by show b ≠ w.heap.size + 1; omega), Below.heap_setCell _ _ _ _ (by show b ≠ w.heap.size + 1; omega), Below.heap_setCell _ _ _ _ (by show b ≠ w.heap.size + 2; omega)]
 all_goals first | (show w.heap.size <= w.heap.size + 2; omega) | (show w.heap.size <= w.heap.size + 1; omega)
def NewFX (w : World) (x : Fd) (e : Ending) (w' : World) : Prop := ∃ r : FRaw, e = .returned r.v /\ OwF w' w.heap.size x r /\ Below w.heap.size w w'
def ToFX (x : Fd) : Prop := ∀ (u : Value) (w : World), InF w (All w) x u -> Fd.size x <= 1048576 -> Calls Tryz.prog 89 #[u] w (NewFX w x)
theorem QI {α : Type} {a : List α} {x : α} {j : Nat} (h : a.length = j) : (a ++ [x])[j]? = some x := by
 subst h
 rw [List.getElem?_append_right (Nat.le_refl _), Nat.sub_self, List.getElem?_cons_zero]
theorem Ki (a : Fd) : ToFX a := by
 intro u w hu hsz
 obtain ⟨n, t, h, is⟩ := a
 obtain ⟨A, c, rfl, hr, hc⟩ := hu
 dsimp only at hr hc ⊢
 unfold Fd.size at hsz
 dsimp only at hsz
 have HTS := qb (fun w2 (hb : Below w.heap.size w w2) => Ko is A c w2 ((hr.keep (fun _ hp => hb.cell hp) (fun _ h => Nat.lt_of_lt_of_le h hb.size)).rd (fun _ h => h)) (by omega))
 clear hr hc
 go_enter func89, ntmps89
 go_wp2_with fail
 obtain ⟨hB0, hX0, hZ0, hY0, hs0⟩ := kY w (qC n t h A is.length c) jP #[sv n, sv t, .bool h, .slice none 0 0] 105 62 62
 have HB0 := qb hB0
 have HZ0 := qb hZ0
 have HY0 := qb hY0
 have HS0 := qb hs0
 clear hB0 hX0 hZ0 hY0 hs0
 refine (HTS.out _ HB0.out).mono ?_
 rintro e w1 ⟨A1, c1, rfl, ho, hb⟩
 have hz1 : w.heap.size + 3 <= w1.heap.size := by rw [<- HS0.out]; exact hb.size
 have HB1 := qb (qa3 HB0.out hb)
 have HZ1 := qb (qi HZ0.out hb)
 have HY1 := qb (qi HY0.out hb)
 have HCAP := qb (Jp ho)
 rw [HS0.out] at ho
 have HN1 := qb ho
 obtain ⟨⟨y0, y1, y2, y3⟩, y4, y5, y6, y7⟩ := qh HY1.out
 obtain ⟨⟨z0, z1, z2, z3⟩, z4, z5, z6, z7⟩ := qh HZ1.out
 clear ho hb
 go_wp2
 refine bodyPost_ret (v := fdV n t h A1 is.length c1) (by simp [results, results89, go_sem, *]) rfl ?_
 refine ⟨⟨n, t, h, A1, is.length, c1⟩, rfl, ⟨rfl, rfl, rfl, rfl, zC (zt HN1.out (fun g hg => ?_)) (by omega)⟩, Below.setCell (Below.setCell (Below.setCell (Below.setCell (Below.setCell HB1.out ?_ _) ?_ _) ?_ _) ?_ _) ?_ _⟩
 ·have hb2 := (HN1.out.lt g hg).1
  rw [Below.heap_setCell _ _ _ _ (by show g ≠ w.heap.size + 1; omega), Below.heap_setCell _ _ _ _ (by show g ≠ w.heap.size + 1; omega), Below.heap_setCell _ _ _ _ (by show g ≠ w.heap.size + 1; omega), Below.heap_setCell _ _ _ _ (by show g ≠ w.heap.size + 1; omega), Below.heap_setCell _ _ _ _ (by show g ≠ w.heap.size + 2; omega)]
 all_goals first | (show w.heap.size <= w.heap.size + 2; omega) | (show w.heap.size <= w.heap.size + 1; omega)
theorem KC {cs : List Value} {rs : List FRaw} (hl : cs.length = rs.length * 4) (h : ∀ q (hq : q < rs.length), ∀ i, i < 4 -> cs[q * 4 + i]? = (rs[q]).cs[i]?) : cs = qY rs := by
 apply List.ext_getElem?
 intro i
 by_cases hi : i < rs.length * 4
 ·have hq : i / 4 < rs.length := by omega
  have h1 := h (i / 4) hq (i % 4) (Nat.mod_lt _ (by omega))
  rw [show i / 4 * 4 + i % 4 = i by omega] at h1
  have h2 := xx rs (i / 4) (rs[i / 4]) (i % 4) (List.getElem?_eq_getElem hq) (Nat.mod_lt _ (by omega))
  rw [show i / 4 * 4 + i % 4 = i by omega] at h2
  rw [h1, h2]
 rw [List.getElem?_eq_none (by omega), List.getElem?_eq_none (by rw [jH]; omega)]
theorem Vz {w : World} {base g n : Nat} {cs : Array Value} {rs : List FRaw} (hb : base <= g) (hg : w.heap[g]? = some (.cells cs 62 (0, 0))) (hcs : cs.size = n * 4) (hn : rs.length = n) (hm : n <= maxLen) (h : ∀ q (hq : q < rs.length), AtD cs (q * 4) (rs[q]).v) : OwnF w base (some ⟨g, 0, none⟩) n rs := by
 have he : cs.toList = qY rs := by
  refine KC (by rw [Array.length_toList, hcs, hn]) fun q hq i hi => ?_
  obtain ⟨c0, c1, c2, c3, e, h0, h1, h2, h3⟩ := h q hq
  injection e with e
  simp only [Array.mk.injEq, List.cons.injEq, and_true] at e
  obtain ⟨rfl, rfl, rfl, rfl⟩ := e
  rw [Array.getElem?_toList]
  match i, hi with
  | 0, _ => exact h0
  | 1, _ => exact h1
  | 2, _ => exact h2
  | 3, _ => exact h3
 subst hn
 refine ⟨jH rs, .inr ⟨g, rs.length, cs, rfl, hb, hg, Nat.le_refl _, hm, hcs, ?_⟩⟩
 rw [he, List.take_of_length_le (by rw [jH]; exact Nat.le_refl _)]
theorem Kh (xs : List Fd) (A : Option Addr) (c : Nat) (w : World) (hx : RdF w (All w) A xs) (hn : xs.length + Fd.sizes xs <= 1048576) :
  Calls Tryz.prog 41 #[.slice A xs.length c] w fun e w' => ∃ A' rs, e = .returned (.slice A' xs.length xs.length) /\ FLo w' w.heap.size A' xs.length rs xs /\ Below w.heap.size w w' := by
 have HX := qb hx
 have HSZ := qb hn
 have hxl : xs.length <= 1048576 := by omega
 obtain ⟨i0, hi, hz0, hz1, hz2⟩ := info_parts Tryz.info_Field
 have hmk := fun w => vE (P := Tryz.prog) underlying28 hi hz0 hz1 hz2 xs.length (by omega) (by omega) w
 have hsz : (madeCells (Value.agg jP).cells (xs.length * 4)).size = xs.length * 4 := size_madeCells _ _
 generalize hM : madeCells (Value.agg jP).cells (xs.length * 4) = M at *
 clear hM hi hz0 hz1 hz2 hx hn
 have HMS := qb hsz
 clear hsz
 go_enter func41, ntmps41
 go_wp2
 go_loopw [4] (fun i wr => ∃ (j : Nat) (cs : Array Value) (rs : List FRaw), j <= xs.length /\ i = .int .i64 j /\ wr.heap[w.heap.size]? = some (.cells cs 62 (0, 0)) /\ cs.size = xs.length * 4 /\ rs.length = j /\ (∀ q (hq : q < rs.length), AtD cs (q * 4) (rs[q]).v) /\ (∀ (i : Nat) (r : FRaw) (x : Fd), rs[i]? = some r -> xs[i]? = some x -> OwF wr w.heap.size x r) /\ (fblk rs).Nodup /\ (∀ b ∈ fblk rs, w.heap.size < b /\ b < wr.heap.size) /\ Below w.heap.size w wr) (fun i _ => xs.length - (intOf i).toNat)
 case atStart => exact ⟨0, M, [], Nat.zero_le _, rfl, heap_alloc_new w _, HMS.out, rfl, fun q hq => (by simp at hq), fun i r x h => (by simp at h), List.nodup_nil, fun b hb => (by cases hb), (Below.refl _ _).alloc (Nat.le_refl _) _⟩
 obtain ⟨j, cs, rs, hj, rfl, hg, hcs, hrl, hdone, hels, hnd, hrg, hb⟩ := hrel
 have HB := qb hb
 have HG := qb hg
 have HD := qb hdone
 have HCS := qb hcs
 have HEL := qb hels
 have HND := qb hnd
 have HRG := qb hrg
 have HRL := qb hrl
 have hgs : w.heap.size < wr.heap.size := lt_of_block hg
 clear hb hg hdone hcs hels hnd hrg hrl
 by_cases hlt : j < xs.length
 ·obtain ⟨b1, o1, hA1, hb1, nn, tt, hh, Ai1, li1, ci1, hin, d0, d1, d2, d3⟩ := (HX.out.now HB.out).at hlt
  have hsj : Fd.size xs[j] <= 1048576 := by have := Fd.size_mem (List.getElem_mem hlt); have := HSZ.out; omega
  have HCALL := qb (Ki xs[j] _ wr hin hsj)
  clear hin hsj
  subst hA1
  go_wp2_with fail
  refine HCALL.out.mono ?_
  rintro e w2 ⟨⟨n2, t2, h2, A2, l2, c2⟩, rfl, ho2, hb⟩
  have HB2 := qb (qa3 HB.out hb)
  have hg2 := qi HG.out hb
  have HG2 := qb hg2
  have hs := HCS.out
  obtain ⟨r0, p0, q0⟩ := jj (o := j * 4) hg2 (by omega)
  obtain ⟨r1, p1, q1⟩ := jj (o := j * 4 + 1) hg2 (by omega)
  obtain ⟨r2, p2, q2⟩ := jj (o := j * 4 + 2) hg2 (by omega)
  obtain ⟨r3, p3, q3⟩ := jj (o := j * 4 + 3) hg2 (by omega)
  have hnb := ho2.lt
  have HEL2 : Hid (∀ (i : Nat) (r : FRaw) (x : Fd), (rs ++ [⟨n2, t2, h2, A2, l2, c2⟩])[i]? = some r -> xs[i]? = some x -> OwF w2 w.heap.size x r) := by
   intro i r x h3 h4
   rcases Nat.lt_or_ge i rs.length with hi | hi
   ·rw [List.getElem?_append_left hi] at h3
    exact (HEL.out i r x h3 h4).keep (fun b hb3 => hb.block b ((HEL.out i r x h3 h4).lt b hb3).2)
   have hij : i = j := by
    have h5 := (List.getElem?_eq_some_iff.1 h3).1
    have := HRL.out
    simp at h5
    omega
   subst hij
   have h6 : (rs ++ [(⟨n2, t2, h2, A2, l2, c2⟩ : FRaw)])[i]? = some ⟨n2, t2, h2, A2, l2, c2⟩ := QI HRL.out
   rw [h6] at h3
   injection h3 with h3
   rw [List.getElem?_eq_getElem hlt] at h4
   injection h4 with h4
   subst h3; subst h4
   exact ho2.base (Nat.le_of_lt hgs)
  have HND2 : Hid ((fblk (rs ++ [⟨n2, t2, h2, A2, l2, c2⟩])).Nodup) := by
   show List.Nodup _
   rw [kj, List.nodup_append]
   refine ⟨HND.out, ?_, fun a ha b hb e => by have := (HRG.out a ha).2; have := (hnb b hb).1; omega⟩
   show (bk A2 l2 c2).Nodup
   unfold bk
   cases Value.ownBlock (.slice A2 l2 c2) <;> simp
  have HRG2 : Hid (∀ b ∈ fblk (rs ++ [⟨n2, t2, h2, A2, l2, c2⟩]), w.heap.size < b /\ b < w2.heap.size) := fun b hb3 => by
   rw [kj] at hb3
   rcases List.mem_append.1 hb3 with hb4 | hb4
   ·have := HRG.out b hb4; have := hb.size; omega
   have := hnb b hb4; omega
  clear hb ho2 hnb hg2 hs
  go_wp2
  go_roundw
  case rel =>
   refine ⟨j + 1, set4 cs (j * 4) (sv n2) (sv t2) (.bool h2) (.slice A2 l2 c2), rs ++ [⟨n2, t2, h2, A2, l2, c2⟩], by omega, by go_num, qP (qP (qP (qP HG2.out))), Jz.trans HCS.out, by have := HRL.out; simp [this], ?_, ?_, HND2.out, ?_, Below.setCell (Below.setCell (Below.setCell (Below.setCell HB2.out (Nat.le_refl _) _) (Nat.le_refl _) _) (Nat.le_refl _) _) (Nat.le_refl _) _⟩
   ·intro q hq
    have hrl := HRL.out
    by_cases hqe : q < rs.length
    ·rw [List.getElem_append_left hqe]
     exact Jy (HD.out q hqe) (by omega)
    have hqj : q = rs.length := by simp at hq; omega
    subst hqj
    rw [List.getElem_append_right (Nat.le_refl _)]
    simp only [Nat.sub_self, List.getElem_cons_zero]
    rw [hrl]
    exact set4_at (by have := HCS.out; omega)
   ·intro i r x h3 h4
    refine (HEL2.out i r x h3 h4).keep fun b hb => ?_
    have hb2 := (HRG2.out b (jm.2 ⟨r, List.mem_of_getElem? h3, hb⟩)).1
    rw [Below.heap_setCell _ _ _ _ (by show b ≠ w.heap.size; omega), Below.heap_setCell _ _ _ _ (by show b ≠ w.heap.size; omega), Below.heap_setCell _ _ _ _ (by show b ≠ w.heap.size; omega), Below.heap_setCell _ _ _ _ (by show b ≠ w.heap.size; omega)]
   intro b hb
   have := HRG2.out b hb
   simp [World.setCell]
   omega
  case measure => simp [intOf]; omega
 have hrx : rs.length = xs.length := by have := HRL.out; omega
 have HRX := qb hrx
 clear hrx
 go_wp2
 go_ret
 refine ⟨_, rs, rfl, ⟨Vz (Nat.le_refl _) HG.out HCS.out HRX.out (by unfold maxLen; omega) HD.out, HRX.out, HEL.out, ?_⟩, HB.out⟩
 rw [show bk (some ⟨w.heap.size, 0, none⟩) rs.length xs.length = [w.heap.size] from rfl, List.nodup_append]
 exact ⟨by simp, HND.out, fun a ha b hb e => by simp at ha; have := (HRG.out b hb).1; omega⟩
def NewDX (w : World) (d : Dk) (e : Ending) (w' : World) : Prop := ∃ Ap cp rs Ad cd fs, e = .returned (dkV Ap (List.length rs) cp Ad (List.length fs) cd) /\ DOw w' w.heap.size Ap cp rs Ad cd fs d /\ Below w.heap.size w w'
theorem Kg (d : Dk) (u : Value) (w : World) (hu : InD w (All w) d u) (hs : Dk.size d <= 1048576) :
  Calls Tryz.prog 10 #[u] w (NewDX w d) := by
 obtain ⟨ps, fs⟩ := d
 obtain ⟨Ap, cp, Ad, cd, rfl, g1, g2, g3, g4⟩ := hu
 unfold Dk.size at hs
 dsimp only at g1 g2 g3 g4 hs ⊢
 have HTS := qb (fun w2 (hb : Below w.heap.size w w2) => kU ps (fun x _ => Kz x) Ap cp w2 (g1.now hb) (by omega))
 have HTN := qb (fun w2 (hb : Below w.heap.size w w2) => Kh fs Ad cd w2 (g3.now hb) (by omega))
 clear g1 g2 g3 g4
 go_enter func10, ntmps10
 go_wp2_with fail
 obtain ⟨hB0, hX0, hZ0, hY0, hs0⟩ := kY w (qx Ap ps.length cp Ad fs.length cd) #[.slice none 0 0, .slice none 0 0] #[.slice none 0 0, .slice none 0 0] 25 30 30
 have HB0 := qb hB0
 have HX0 := qb hX0
 have HZ0 := qb hZ0
 have HY0 := qb hY0
 have HS0 := qb hs0
 clear hB0 hX0 hZ0 hY0 hs0
 refine (HTS.out _ HB0.out).mono ?_
 rintro e w1 ⟨A1, rs1, L1, rfl, ho, hoe, hnd1, hrg1, hb⟩
 have hz1 : w.heap.size + 3 <= w1.heap.size := by rw [<- HS0.out]; exact hb.size
 have HB1 := qb (qa3 HB0.out hb)
 have HX1 := qb (qi HX0.out hb)
 have HZ1 := qb (qi HZ0.out hb)
 have HY1 := qb (qi HY0.out hb)
 rw [HS0.out] at ho hrg1
 have HLL1 := qb hoe.len
 have HP1 : Hid (PLx w1 (w.heap.size + 3) A1 ps.length rs1 ps) := ⟨L1, ho, hoe, by rw [hoe.len]; exact hnd1, fun j hj => hrg1 j (List.mem_append_right _ hj)⟩
 obtain ⟨⟨y0, y1⟩, y2, y3⟩ := zX HY1.out
 obtain ⟨⟨x0, x1⟩, -⟩ := zX HX1.out
 have HB1' := qb (Below.setCell HB1.out (p := ⟨w.heap.size + 2, 0, none⟩) (by show w.heap.size <= w.heap.size + 2; omega) (.slice A1 ps.length ps.length))
 have HY1' : Hid ((w1.setCell ⟨w.heap.size + 2, 0, none⟩ (.slice A1 ps.length ps.length)).heap[w.heap.size + 2]? = some (.cells #[.slice A1 ps.length ps.length, .slice none 0 0] 30 (0, 0))) := qP HY1.out
 have HZ1' : Hid ((w1.setCell ⟨w.heap.size + 2, 0, none⟩ (.slice A1 ps.length ps.length)).heap[w.heap.size + 1]? = some (.cells #[.slice none 0 0, .slice none 0 0] 30 (0, 0))) := (Below.heap_setCell _ _ _ _ (by show w.heap.size + 1 ≠ w.heap.size + 2; omega)).trans HZ1.out
 have hs1 : (w1.setCell ⟨w.heap.size + 2, 0, none⟩ (.slice A1 ps.length ps.length)).heap.size = w1.heap.size := by simp [World.setCell]
 have HK1 : Hid (∀ b, w.heap.size + 3 <= b -> (w1.setCell ⟨w.heap.size + 2, 0, none⟩ (.slice A1 ps.length ps.length)).heap[b]? = w1.heap[b]?) := fun b hb => Below.heap_setCell _ _ _ _ (by show b ≠ w.heap.size + 2; omega)
 clear ho hb hoe hnd1 hrg1
 go_wp2_with fail
 refine (HTN.out _ HB1'.out).mono ?_
 rintro e w2 ⟨A2, rs2, rfl, hfl, hb⟩
 rw [hs1] at hfl
 have hz2 : w1.heap.size <= w2.heap.size := by rw [<- hs1]; exact hb.size
 have HB2 := qb (qa3 HB1'.out hb)
 have HZ2 := qb (qi HZ1'.out hb)
 have HY2 := qb (qi HY1'.out hb)
 have HD2 : Hid (DOw w2 (w.heap.size + 3) A1 ps.length rs1 A2 fs.length rs2 ⟨ps, fs⟩) := ⟨HP1.out.at (fun j h1 h2 => (hb.block j (by rw [hs1]; exact h2)).trans (HK1.out j h1)), hfl.base hz1⟩
 have HLL2 := qb hfl.len
 obtain ⟨⟨y0, y1⟩, y2, y3⟩ := zX HY2.out
 obtain ⟨⟨z0, z1⟩, z2, z3⟩ := zX HZ2.out
 clear hb hfl
 go_wp2
 refine bodyPost_ret (v := dkV A1 ps.length ps.length A2 fs.length fs.length) (by simp [results, results10, go_sem, *]) rfl ?_
 refine ⟨A1, ps.length, rs1, A2, fs.length, rs2, by rw [HLL1.out, HLL2.out], ((HD2.out.at (fun j h1 h2 => ?_)).low (by omega)), Below.setCell (Below.setCell (Below.setCell HB2.out ?_ _) ?_ _) ?_ _⟩
 ·rw [Below.heap_setCell _ _ _ _ (by show j ≠ w.heap.size + 1; omega), Below.heap_setCell _ _ _ _ (by show j ≠ w.heap.size + 1; omega), Below.heap_setCell _ _ _ _ (by show j ≠ w.heap.size + 2; omega)]
 all_goals first | (show w.heap.size <= w.heap.size + 2; omega) | (show w.heap.size <= w.heap.size + 1; omega)
end Go.Proofs.YtmboieajfdkllaaGreat
