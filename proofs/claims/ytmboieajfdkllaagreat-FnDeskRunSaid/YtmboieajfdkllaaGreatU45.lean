import Derived.Test.YtmboieajfdkllaaGreatU44
import Derived.Test.YtmboieajfdkllaaGreatU01
import Derived.Test.YtmboieajfdkllaaGreatU31
set_option maxHeartbeats 8000000
set_option maxRecDepth 100000
open Go.Proofs.Tryz
namespace Go.Proofs.YtmboieajfdkllaaGreat
open Go.RowKit
theorem lit_txs {w : World} {g k B : Nat} {L : List Tx} {t : TypeId} {fr : Nat × Nat} (h : w.heap[g]? = some (.cells (L.map sv).toArray t fr)) (hB : ∀ x ∈ L, x.length <= B) (hk : k < L.length) :
  ∃ a : Tx, w.cell? ⟨g, k, none⟩ = some (sv a) /\ a.length <= B := by
 refine ⟨L[k], ?_, hB _ (List.getElem_mem hk)⟩
 rw [cell_of_row w g _ _ t fr h, <- Array.getElem?_toList, List.getElem?_map, List.getElem?_eq_getElem hk]
 rfl
theorem Wl (B g q : Nat) (w : World) (h : Rdr w B g q) (hq : q <= 100000000) :
  Calls Tryz.prog 61 #[.pointer (some ⟨g, 0, none⟩)] w (DrawnT w B g q 7050 500000) := by
 have hlt := h.lt
 have H := qb h
 clear h
 go_enter func61, ntmps61
 go_wp2_with fail
 refine (Yu B g q 6 w H.out (by omega) (by omega) (by omega)).mono ?_
 rintro e w1 ⟨bo, rfl, hr1, hg1⟩
 have HR1 := qb hr1
 have HG1 := qb hg1
 have hz1 := hg1.size
 clear hr1 hg1
 cases bo
 case true =>
  go_wp2_with fail
  refine (Yf B g _ 10 _ (HR1.out.keep ((Below.refl _ _).alloc (Nat.le_refl _) _)) (by omega) (by omega) (by omega)).mono ?_
  rintro e w2 ⟨k, rfl, hk, hr2, hg2⟩
  have hlit : w2.heap[w1.heap.size]? = _ := (hg2.block w1.heap.size (by simp) (by simp; omega)).trans (heap_alloc_new w1 _)
  obtain ⟨x, hxc, hx⟩ := Ym (k := k) (B := 20) (n := 10) hlit (by decide +kernel) (by omega)
  have hk' : k < 10 := by omega
  have HR2 := qb hr2
  have HG2 := qb (jF HG1.out (jF (World.grownBy_alloc w1 _ _) hg2))
  clear hlit hk hr2 hg2
  go_wp2
  go_ret
  exact ⟨x, rfl, by omega, HR2.out.more (by omega), HG2.out⟩
 go_wp2_with fail
 refine (Wn B g _ 0 w1 HR1.out (by omega) (by omega) (by omega)).mono ?_
 rintro e w2 ⟨A2, c2, rs, xs, rfl, hp, hw, hr2, hg2⟩
 rw [hp.len]
 have HR2 := qb hr2
 have HG2 := qb (jF HG1.out hg2)
 unfold wt at hw
 have HTT := qb (QM xs A2 c2 w2 (hp.rd.keep (S' := All w2) (fun _ _ => rfl) (fun _ h => h.2)) (by omega))
 have hT : (tmOf xs).length <= 420000 := by
  unfold tmOf
  split
  ·have h1 := Pt.wr_len xs
   have h2 := Pt.manys_size (xs := xs) (fun x _ => Pt.many_size x)
   omega
  simp
 generalize tmOf xs = T at *
 clear hp hw hr2 hg2 HR1 HG1
 go_wp2_with fail
 refine HTT.out.mono ?_
 rintro e w3 ⟨rfl, hb⟩
 have HR3 := qb (HR2.out.keep hb)
 have HG3 := qb (VI HG2.out hb)
 have hs1 : (9223372036854775807 < 9 + T.length) = False := by rw [eq_iff_iff, iff_false]; omega
 clear hb HTT HR2 HG2
 go_wp2_with fail
 refine (Yr B g _ 9 w3 HR3.out (by omega) (by omega) (by omega)).mono ?_
 rintro e w4 ⟨n1, rfl, hn1, hr, hg⟩
 have HR4 := qb hr
 have HG4 := qb (jF HG3.out hg)
 clear hr hg HR3 HG3
 have hs2 : (9223372036854775807 < 5 + n1.length) = False := by rw [eq_iff_iff, iff_false]; omega
 have hs3 : (9223372036854775807 < 5 + n1.length + 1) = False := by rw [eq_iff_iff, iff_false]; omega
 go_wp2_with fail
 refine (YL B g _ 9 w4 HR4.out (by omega) (by omega) (by omega)).mono ?_
 rintro e w5 ⟨t1, rfl, ht1, hr, hg⟩
 have HR5 := qb hr
 have HG5 := qb (jF HG4.out hg)
 clear hr hg HR4 HG4
 have hs4 : (9223372036854775807 < 5 + n1.length + 1 + t1.length) = False := by rw [eq_iff_iff, iff_false]; omega
 go_wp2_with fail
 refine (Yr B g _ 9 w5 HR5.out (by omega) (by omega) (by omega)).mono ?_
 rintro e w6 ⟨n2, rfl, hn2, hr, hg⟩
 have HR6 := qb hr
 have HG6 := qb (jF HG5.out hg)
 clear hr hg HR5 HG5
 have hs5 : (9223372036854775807 < 6 + n2.length) = False := by rw [eq_iff_iff, iff_false]; omega
 go_wp2_with fail
 refine (Yr B g _ 9 w6 HR6.out (by omega) (by omega) (by omega)).mono ?_
 rintro e w7 ⟨n3, rfl, hn3, hr, hg⟩
 have HR7 := qb hr
 have HG7 := qb (jF HG6.out hg)
 clear hr hg HR6 HG6
 have hs6 : (9223372036854775807 < 5 + n3.length) = False := by rw [eq_iff_iff, iff_false]; omega
 have hs7 : (9223372036854775807 < 5 + n3.length + 1) = False := by rw [eq_iff_iff, iff_false]; omega
 go_wp2_with fail
 refine (YL B g _ 9 w7 HR7.out (by omega) (by omega) (by omega)).mono ?_
 rintro e w8 ⟨t2, rfl, ht2, hr, hg⟩
 have HR8 := qb hr
 have HG8 := qb (jF HG7.out hg)
 have hz8 := HG8.out.size
 clear hr hg HR7 HG7
 have hs8 : (9223372036854775807 < 5 + n3.length + 1 + t2.length) = False := by rw [eq_iff_iff, iff_false]; omega
 go_wp2_with fail
 refine (Yf B g _ 8 _ (HR8.out.keep ((Below.refl _ _).alloc (Nat.le_refl _) _)) (by omega) (by omega) (by omega)).mono ?_
 rintro e w9 ⟨k, rfl, hk, hr2, hg2⟩
 have hlit : w9.heap[w8.heap.size]? = _ := (hg2.block w8.heap.size (by simp) (by simp; omega)).trans (heap_alloc_new w8 _)
 obtain ⟨x, hxc, hx⟩ := lit_txs (k := k) (B := 500000) (L := [116 :: 101 :: 109 :: 112 :: 108 :: 97 :: 116 :: 101 :: 32 :: T, 116 :: 101 :: 120 :: 116 :: 32 :: (n1 ++ 32 :: t1), [116, 101, 120, 116, 32, 97], 104 :: 111 :: 108 :: 100 :: 115 :: 32 :: n2, 105 :: 116 :: 101 :: 109 :: 32 :: (n3 ++ 32 :: t2), [102, 105, 108, 108], [112, 108, 97, 105, 110], [99, 104, 101, 99, 107]]) hlit (by simp; omega) (by show k < 8; omega)
 have hk' : k < 8 := by omega
 have HR9 := qb hr2
 have HG9 := qb (jF HG8.out (jF (World.grownBy_alloc w8 _ _) hg2))
 clear hlit hk hr2 hg2
 go_wp2
 go_ret
 exact ⟨x, rfl, hx, HR9.out.more (by omega), HG9.out⟩
open Go.Deep
def DrewDL (w : World) (e : Ending) (w' : World) : Prop :=
 ∃ A c A2 c2, ∃ x : Dk, ∃ t : Tx, e = .returned (.tuple #[dkV A x.parts.length c A2 x.data.length c2, sv t]) /\ InD w' (All w') x (dkV A x.parts.length c A2 x.data.length c2) /\ Dk.size x <= 30000 /\ t.length <= 500000 /\ Below w.heap.size w w'
theorem Wh (bs : Tx) (A : Option Addr) (c : Nat) (w : World) (hr : Rd w w.heap.size A (Yk bs)) (hc : bs.length <= c) (hm : bs.length <= 1048576) :
  Calls Tryz.prog 27 #[.slice A bs.length c] w (DrewDL w) := by
 have HA := qb ((Below.refl w.heap.size w).alloc (Nat.le_refl _) (.cells #[.slice none 0 0, .slice none 0 0] 30))
 have HR := qb (hr.below HA.out)
 have HZ := qb (heap_alloc_new w (.cells #[.slice none 0 0, .slice none 0 0] 30))
 have hs0 : (w.alloc (.cells #[.slice none 0 0, .slice none 0 0] 30)).heap.size = w.heap.size + 1 := by simp
 clear hr
 go_enter func27, ntmps27
 go_upto_region 1 with fail
 generalize w.alloc (.cells #[.slice none 0 0, .slice none 0 0] 30) = w0 at *
 go_wp2_with fail
 refine (Wk bs w.heap.size A c _ HR.out HA.out.size hc hm).mono ?_
 rintro e w1 ⟨rfl, hr1, hb1⟩
 rw [hs0] at hr1 ⊢
 have HR1 := qb hr1
 have HB1 := qb (qa3 HA.out hb1)
 have HZ1 := qb ((hb1.block w.heap.size (by omega)).trans HZ.out)
 have hl1 := hr1.lt
 clear hr1 hb1
 go_wp2_with fail
 refine (Wj w.heap.size (w.heap.size + 1) 0 14 w1 HR1.out (by omega) (by omega) (by omega)).mono ?_
 rintro e w2 ⟨A1, c1, A2, c2, x, rfl, hin, hsz, hr2, hg2⟩
 have HB2 : Hid (Below w.heap.size w w2) := HB1.out.trans (zo hg2 (by omega) (fun g h => by injection h with h; omega))
 have hz2 := hg2.size
 have HZ2 := qb ((hg2.block w.heap.size (by omega) (by simp)).trans HZ1.out)
 have HI2 := qb hin
 have HR2 := qb hr2
 clear hin hr2 hg2 HR1 HZ1 HB1 HZ HR HA
 go_upto_region 3 with fail
 have hA3 := (Below.refl w2.heap.size w2).alloc (Nat.le_refl _) (.cells (qx A1 x.parts.length c1 A2 x.data.length c2) 30)
 have HX3 := qb (heap_alloc_new w2 (.cells (qx A1 x.parts.length c1 A2 x.data.length c2) 30))
 have HZ3 := qb (qi HZ2.out hA3)
 have HR3 := qb (HR2.out.keep hA3)
 have HI3 := qb (InD.keep (S' := fun j => w1.heap.size < j /\ j < w2.heap.size) (fun p hp => hA3.cell hp.2) (fun _ h => h) _ _ HI2.out)
 have HB3 := qb (qa3 HB2.out hA3)
 have hz3 : w2.heap.size < (w2.alloc (.cells (qx A1 x.parts.length c1 A2 x.data.length c2) 30)).heap.size := by simp
 clear hA3 HI2 HR2 HB2 HZ2
 generalize w2.alloc (.cells (qx A1 x.parts.length c1 A2 x.data.length c2) 30) = w3 at *
 obtain ⟨z0, z1, z2, z3⟩ := qr HZ3.out
 obtain ⟨x0, x1, -⟩ := qr HX3.out
 have HSD := qb (fun w9 (hr : Rdr w9 w.heap.size (w.heap.size + 1) 10000) => Wl w.heap.size (w.heap.size + 1) 10000 w9 hr (by omega))
 go_region_with (go_at_call 61; refine (HSD.out _ (by first | exact HR3.out.keep (Below.refl _ _).drew | exact ((HR3.out.keep (Below.refl _ _).drew).set _ (by show w.heap.size + 1 ≠ w.heap.size; omega) (Nat.le_refl _)).set _ (by show w.heap.size + 1 ≠ w.heap.size; omega) (Nat.le_refl _))).mono ?_; rintro e w8 ⟨t, rfl, ht, -, hg8⟩; (first | (have hq8 := (hg8.block w.heap.size (by show w.heap.size < w3.heap.size; omega) (by simp)).trans HZ3.out; have hq9 := (hg8.block w2.heap.size (by show w2.heap.size < w3.heap.size; omega) (by simp; omega)).trans HX3.out; obtain ⟨e0, e1, e2, e3⟩ := qr hq8; obtain ⟨f0, f1, f2, f3⟩ := qr hq9; clear hq9) | (have hq8 := (hg8.block w.heap.size (by simp [World.setCell]; omega) (by simp)).trans (VQ (w := w3.drew) HZ3.out); obtain ⟨e0, e1, e2, e3⟩ := qr hq8)); have HG8 := qb hg8; clear hg8)
 all_goals go_wp2_with fail
 all_goals
  refine bodyPost_ret (v := .tuple #[dkV A1 x.parts.length c1 A2 x.data.length c2, sv t]) (by simp [results, results27, go_sem, *]) rfl ?_
 all_goals first
  | (refine ⟨A1, c1, A2, c2, x, t, rfl, InD.keep (S := fun j => w1.heap.size < j /\ j < w2.heap.size) (w := w3) (fun p hp => ?_) (fun j hj => ?_) _ _ HI3.out, hsz, ht, Below.setCell (Below.setCell (HB3.out.drew.trans (zo HG8.out HB3.out.size (fun g h => by injection h with h; omega))) (Nat.le_refl _) _) (Nat.le_refl _) _⟩
     ·have h1 := hp.1
      have h2 := hp.2
      rw [World.cell?_of_block (Below.heap_setCell _ _ _ _ (by show p.block ≠ w.heap.size; omega)), World.cell?_of_block (Below.heap_setCell _ _ _ _ (by show p.block ≠ w.heap.size; omega))]
      exact World.cell?_of_block (HG8.out.block _ (by show p.block < w3.heap.size; omega) (fun e => by injection e with e; omega))
     ·have h1 := HG8.out.size
      have h2 : w3.heap.size <= w8.heap.size := h1
      have h3 := hj.2
      simp only [All, World.setCell, Array.size_modify]
      omega)
  | (refine ⟨A1, c1, A2, c2, x, t, rfl, InD.keep (S := fun j => w1.heap.size < j /\ j < w2.heap.size) (w := w3) (fun p hp => ?_) (fun j hj => ?_) _ _ HI3.out, hsz, ht, (Below.setCell (Below.setCell HB3.out.drew (Nat.le_refl _) _) (Nat.le_refl _) _).trans (zo HG8.out (by simp [World.setCell]; exact HB3.out.size) (fun g h => by injection h with h; omega))⟩
     ·have h1 := hp.1
      have h2 := hp.2
      refine (World.cell?_of_block (HG8.out.block _ (by simp [World.setCell]; omega) (fun e => by injection e with e; omega))).trans ?_
      rw [World.cell?_of_block (Below.heap_setCell _ _ _ _ (by show p.block ≠ w.heap.size; omega)), World.cell?_of_block (Below.heap_setCell _ _ _ _ (by show p.block ≠ w.heap.size; omega))]
      rfl
     ·have h1 := HG8.out.size
      simp [World.setCell] at h1
      have h3 := hj.2
      simp only [All]
      omega)
end Go.Proofs.YtmboieajfdkllaaGreat
