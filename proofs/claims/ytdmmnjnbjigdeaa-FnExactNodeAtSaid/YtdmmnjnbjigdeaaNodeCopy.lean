/- Copies of nodes, of spec: walks. -/
import Derived.Test.YtdmmnjnbjigdeaaNodeApp
import Derived.Test.YtdmmnjnbjigdeaaNodeWalkP
namespace Go.Proofs.Ytdmmnjnbjigdeaa
open Go.RowKit

def CpC (f : FuncId) (x : Nd) : Prop := ∀ (u : Value) (w : World), InN w (All w) x u → Nd.size x ≤ 1048576 → Calls Try.prog f #[u] w (NewN w x)
theorem els_below {w w' : World} {base : Nat} {B : Option Nat} {rs : List Raw} {xs : List Nd} (h : Els w (fun k => base ≤ k ∧ k < w.heap.size ∧ B ≠ some k) rs xs) (hb : Below w.heap.size w w') : Els w' (fun k => base ≤ k ∧ k < w'.heap.size ∧ B ≠ some k) rs xs :=
  h.keep (fun _ hp => hb.cell hp.2.1) (fun _ hj => ⟨hj.1, Nat.lt_of_lt_of_le hj.2.1 hb.size, hj.2.2⟩)
theorem els_app {w w' : World} {base c c' : Nat} {A A' : Option Addr} {rs : List Raw} {xs : List Nd} {r : Raw} {x : Nd}
    (h : Els w (fun k => base ≤ k ∧ k < w.heap.size ∧ Value.ownBlock (.slice A rs.length c) ≠ some k) rs xs) (hx : InN w (fun k => base ≤ k ∧ k < w.heap.size ∧ Value.ownBlock (.slice A rs.length c) ≠ some k) x r.v)
    (hg : w.grownBy w' (Value.ownBlock (.slice A rs.length c))) (hbk : Value.ownBlock (.slice A' (rs.length + 1) c') = Value.ownBlock (.slice A rs.length c) ∨ Value.ownBlock (.slice A' (rs.length + 1) c') = some w.heap.size) :
    Els w' (fun k => base ≤ k ∧ k < w'.heap.size ∧ Value.ownBlock (.slice A' (rs ++ [r]).length c') ≠ some k) (rs ++ [r]) (xs ++ [x]) := by
  refine (h.snoc hx).keep (fun p hp => World.cell?_of_block (hg.block _ hp.2.1 (fun e => hp.2.2 e.symm))) (fun j hj => ⟨hj.1, Nat.lt_of_lt_of_le hj.2.1 hg.size, ?_⟩)
  rw [show (rs ++ [r]).length = rs.length + 1 by simp]
  rcases hbk with e | e
  · rw [e]; exact hj.2.2
  · rw [e]; intro e2; injection e2; have := hj.2.1; omega
set_option maxRecDepth 100000 in
set_option maxHeartbeats 4000000 in
theorem spec_l1OwnNodeList (xs : List Nd) (hE : ∀ x ∈ xs, CpC 38 x) (A : Option Addr) (c : Nat) (w : World) (hx : RdN w (All w) A xs) (hn : xs.length + Nd.sizes xs ≤ 1048576) :
    Calls Try.prog 51 #[.slice A xs.length c] w fun e w' => ∃ A' c', e = .returned (.slice A' xs.length c') ∧ xs.length ≤ c' ∧ RdN w' (Fresh w w') A' xs ∧ Below w.heap.size w w' := by
  have HE0 := Lib.hid hE
  have HX := Lib.hid hx
  have HSZ := Lib.hid hn
  have hxl : xs.length ≤ 1048576 := by omega
  clear hE hx hn
  go_enter Try.func51, Try.ntmps51
  go_wp2
  go_loopw [3, 4] (fun s i wr => ∃ (j : Nat) (A2 : Option Addr) (c2 : Nat) (rs : List Raw), j ≤ xs.length ∧ i = .int .i64 j ∧ s = .slice A2 rs.length c2 ∧ OwnN wr w.heap.size A2 c2 rs ∧ Els wr (fun k => w.heap.size ≤ k ∧ k < wr.heap.size ∧ Value.ownBlock (.slice A2 rs.length c2) ≠ some k) rs (xs.take j) ∧ Below w.heap.size w wr) (fun _ i _ => xs.length - (intOf i).toNat)
  case atStart => exact ⟨0, some ⟨w.heap.size, 0, none⟩, 0, [], Nat.zero_le _, rfl, rfl, World.ownsRow_lit w #[] 0 (Nat.le_refl _) (by simp [maxLen]) rfl, ⟨rfl, fun i r x h => by simp at h⟩, (Below.refl _ _).alloc (Nat.le_refl _) _⟩
  case round =>
    obtain ⟨j, A2, c2, rs, hj, rfl, rfl, ho, he, hb⟩ := hrel
    have HB := Lib.hid hb
    have HO := Lib.hid ho
    have HEL := Lib.hid he
    have hrl : rs.length ≤ 1048576 := by have := he.1; simp at this; omega
    clear hb ho he
    by_cases hlt : j < xs.length
    · obtain ⟨b1, o1, hA1, hb1, kd, nn, tt, An1, ln1, cn1, Ai1, li1, ci1, hin, y0, y1, y2, y3, y4⟩ := (HX.out.now HB.out).at hlt
      have hsj : Nd.size xs[j] ≤ 1048576 := by have := Nd.size_mem (List.getElem_mem hlt); have := HSZ.out; omega
      have HCALL := Lib.hid (HE0.out xs[j] (List.getElem_mem hlt) _ wr hin hsj)
      have HTK := Lib.hid (take_snoc xs j hlt)
      clear hin hsj
      subst hA1
      go_wp2_with fail
      refine HCALL.out.mono ?_
      rintro e w2 ⟨k2, n2, t2, An2, ln2, cn2, Ai2, li2, ci2, rfl, hin2, hb⟩
      have HB2 := Lib.hid (HB.out.trans (hb.mono HB.out.size))
      have HA2 := Lib.hid ((Below.refl w2.heap.size w2).alloc (Nat.le_refl _) (.cells (ndCells k2 n2 t2 An2 ln2 cn2 Ai2 li2 ci2) 30))
      have HB3 := Lib.hid (HB2.out.trans (HA2.out.mono HB2.out.size))
      have HO2 := Lib.hid (own_below (own_below HO.out hb) HA2.out)
      have HEL2 := Lib.hid (els_below (els_below HEL.out hb) HA2.out)
      have HNEW : Hid (InN (w2.alloc (.cells (ndCells k2 n2 t2 An2 ln2 cn2 Ai2 li2 ci2) 30)) (fun k => w.heap.size ≤ k ∧ k < (w2.alloc (.cells (ndCells k2 n2 t2 An2 ln2 cn2 Ai2 li2 ci2) 30)).heap.size ∧ Value.ownBlock (.slice A2 rs.length c2) ≠ some k) xs[j] (ndV k2 n2 t2 An2 ln2 cn2 Ai2 li2 ci2)) := InN.keep (fun p hp => HA2.out.cell hp.2) (fun k h => ⟨Nat.le_trans HB.out.size h.1, Nat.lt_of_lt_of_le h.2 HA2.out.size, fun e => by have := (HO.out.lt k e).2; have := h.1; omega⟩) _ _ hin2
      have hsz3 := HB3.out.size
      clear hb hin2
      go_wp2_with (at_builtin; refine app_node_at rfl _ _ rfl w.heap.size A2 c2 rs ⟨k2, n2, t2, An2, ln2, cn2, Ai2, li2, ci2⟩ (by rfl) HO2.out w2.heap.size (by rfl) (heap_alloc_new w2 _) ?_ ?_ ?_; (focus omega); (focus omega); intro A6 c6 w6 ho6 hg6 hbk6)
      go_roundw
      case rel => exact ⟨j + 1, A6, c6, rs ++ [⟨k2, n2, t2, An2, ln2, cn2, Ai2, li2, ci2⟩], by omega, by go_num, by simp, ho6, by rw [HTK.out]; exact els_app HEL2.out HNEW.out hg6 hbk6, HB3.out.trans (grown_to_below hg6 (by omega) (ownN_row HO2.out))⟩
      case measure => simp [intOf]; omega
    · have hjx : xs.take j = xs := List.take_of_length_le (by omega)
      have HEL2 := HEL.out
      rw [hjx] at HEL2
      have HEL3 := Lib.hid HEL2
      clear HEL2 hjx
      go_wp2
      go_ret
      obtain ⟨A9, c9, e9, hc9, _⟩ := own_shape HO.out
      injection e9 with _ _ e9
      exact ⟨A2, c2, by rw [HEL3.out.1]; rfl, by rw [← HEL3.out.1]; omega, (HEL3.out.keep (fun _ _ => rfl) (fun _ hj => ⟨hj.1, hj.2.1⟩)).rdN HO.out (fun k hk => HO.out.lt k hk), HB.out⟩
set_option maxRecDepth 100000 in
set_option maxHeartbeats 8000000 in
theorem spec_l1OwnNode (a : Nd) : CpC 38 a := by
  induction a using Nd.ind with
  | h k n t ns xs ih =>
  intro u w hu hsz
  obtain ⟨An, cn, Ai, ci, rfl, hrn, hcn, hci, hri⟩ := hu.parts
  simp only [Nd.size] at hsz
  have HRN := Lib.hid hrn
  have hnl : ns.length ≤ 1048576 := by omega
  have HTN := Lib.hid (fun w2 (hb : Below w.heap.size w w2) => spec_l1OwnNodeList xs ih Ai ci w2 (hri.now hb) (by omega))
  clear hu hrn hri ih
  obtain ⟨hB0, hX0, hZ0, hY0, hs0⟩ := three_boxes w (ndCells k n t An ns.length cn Ai xs.length ci) #[.int .i64 0, .int .i64 0, .string ⟨#[]⟩, .slice none 0 0, .slice none 0 0] (ndCells k n t An ns.length cn Ai xs.length ci) 30 30 30
  have HB0 := Lib.hid hB0
  have HX0 := Lib.hid hX0
  have HZ0 := Lib.hid hZ0
  have HY0 := Lib.hid hY0
  have HS0 := Lib.hid hs0
  clear hB0 hX0 hZ0 hY0 hs0
  go_enter Try.func38, Try.ntmps38
  go_upto_region 2 with fail
  generalize ((w.alloc (.cells (ndCells k n t An ns.length cn Ai xs.length ci) 30)).alloc (.cells #[.int .i64 0, .int .i64 0, .string ⟨#[]⟩, .slice none 0 0, .slice none 0 0] 30)).alloc (.cells (ndCells k n t An ns.length cn Ai xs.length ci) 30) = w0 at *
  have hs0 := HS0.out
  have he := ownS_empty w0 (w.heap.size + 3) (by omega)
  rw [hs0] at he
  have HE := Lib.hid he
  clear he
  have HA := Lib.hid ((Below.refl w0.heap.size w0).alloc (Nat.le_refl _) (.cells #[] 9))
  have HRN2 := Lib.hid ((HRN.out.now HB0.out).now HA.out)
  have HXA := Lib.hid (bx_keep HX0.out HA.out)
  have HYA := Lib.hid (bx_keep HY0.out HA.out)
  have HZA := Lib.hid (bx_keep HZ0.out HA.out)
  have hsa : (w0.alloc (.cells #[] 9)).heap.size = w0.heap.size + 1 := by simp
  obtain ⟨⟨x0, x1, x2, x3, x4⟩, -⟩ := box_five HX0.out
  obtain ⟨⟨p0, p1, p2, p3, p4⟩, -⟩ := box_five HXA.out
  go_wp2_with (at_builtin; refine app_texts rfl _ _ rfl (w.heap.size + 3) (some ⟨w.heap.size + 3, 0, none⟩) 0 [] (by rfl) HE.out An cn ns (by rfl) HRN2.out (fun _ h => h) ?_ ?_ ?_; (focus (simp; omega)); (focus omega); intro A1 c1 w1 ho hg; obtain ⟨⟨y0, y1, y2, y3, y4⟩, y5, y6, y7, y8, y9⟩ := box_five ((hg.block (w.heap.size + 2) (by rw [hsa]; omega) (by simp [Value.ownBlock])).trans HYA.out); obtain ⟨⟨q0, q1, q2, q3, q4⟩, -⟩ := box_five ((hg.block w.heap.size (by rw [hsa]; omega) (by simp [Value.ownBlock])).trans HXA.out))
  have HZ1 := Lib.hid ((hg.block (w.heap.size + 1) (by rw [hsa]; omega) (by simp [Value.ownBlock])).trans HZA.out)
  have HY1 := Lib.hid ((hg.block (w.heap.size + 2) (by rw [hsa]; omega) (by simp [Value.ownBlock])).trans HYA.out)
  have HB1 := Lib.hid ((HB0.out.trans (HA.out.mono HB0.out.size)).trans (grown_to_below hg (by rw [hsa]; omega) (fun g e => by simp [Value.ownBlock] at e; omega)))
  have hz1 : w.heap.size + 4 ≤ w1.heap.size := by have := hg.size; omega
  have HCAP := Lib.hid (ownS_cap ho)
  have HN1 : Hid (RdIn w1 (fun b => w.heap.size + 3 ≤ b ∧ b < w1.heap.size) A1 (scells ns)) := ownS_rdIn ho (fun b h1 h2 => ⟨h1, h2⟩)
  have HB1' := Lib.hid (Below.setCell HB1.out (p := ⟨w.heap.size + 2, 3, none⟩) (by show w.heap.size ≤ w.heap.size + 2; omega) (.slice A1 ns.length c1))
  have HY1' : Hid ((w1.setCell ⟨w.heap.size + 2, 3, none⟩ (.slice A1 ns.length c1)).heap[w.heap.size + 2]? = some (.cells #[.int .i64 k, .int .i64 n, sv t, .slice A1 ns.length c1, .slice Ai xs.length ci] 30 (0, 0))) := cells_set HY1.out
  have HZ1' : Hid ((w1.setCell ⟨w.heap.size + 2, 3, none⟩ (.slice A1 ns.length c1)).heap[w.heap.size + 1]? = some (.cells #[.int .i64 0, .int .i64 0, .string ⟨#[]⟩, .slice none 0 0, .slice none 0 0] 30 (0, 0))) := (Below.heap_setCell _ _ _ _ (by show w.heap.size + 1 ≠ w.heap.size + 2; omega)).trans HZ1.out
  have hs1 : (w1.setCell ⟨w.heap.size + 2, 3, none⟩ (.slice A1 ns.length c1)).heap.size = w1.heap.size := by simp [World.setCell]
  clear ho hg x0 x1 x2 x3 x4 p0 p1 p2 p3 p4 y0 y1 y2 y3 y4 y5 y6 y7 y8 y9 q0 q1 q2 q3 q4
  refine (HTN.out _ HB1'.out).mono ?_
  rintro e w2 ⟨A2, c2, rfl, hc2, hrd, hb⟩
  have hz2 : w1.heap.size ≤ w2.heap.size := by rw [← hs1]; exact hb.size
  have HB2 := Lib.hid (HB1'.out.trans (hb.mono HB1'.out.size))
  have HZ2 := Lib.hid (bx_keep HZ1'.out hb)
  have HY2 := Lib.hid (bx_keep HY1'.out hb)
  have hset : ∀ (W : World) (q o : Nat) (u : Value) (p : Addr), q ≤ w.heap.size + 2 → w.heap.size + 3 ≤ p.block → (W.setCell ⟨q, o, none⟩ u).cell? p = W.cell? p := fun W q o u p h1 h2 => World.cell?_of_block (Below.heap_setCell _ _ _ _ (by show p.block ≠ q; omega))
  have HN2 : Hid (RdIn w2 (fun b => w.heap.size + 3 ≤ b ∧ b < w2.heap.size) A1 (scells ns)) := HN1.out.keep (fun p hp => (hb.cell (by rw [hs1]; exact hp.2)).trans (hset _ _ _ _ _ (by omega) hp.1)) (fun b h => ⟨h.1, by omega⟩)
  have HR2 : Hid (RdN w2 (fun b => w.heap.size + 3 ≤ b ∧ b < w2.heap.size) A2 xs) := hrd.keep (fun _ _ => rfl) (fun b h => ⟨by have := h.1; rw [hs1] at this; omega, h.2⟩)
  have HSET := Lib.hid hset
  obtain ⟨⟨y0, y1, y2, y3, y4⟩, y5, y6, y7, y8, y9⟩ := box_five HY2.out
  obtain ⟨⟨z0, z1, z2, z3, z4⟩, z5, z6, z7, z8, z9⟩ := box_five HZ2.out
  clear hb hrd hset
  go_wp2
  refine bodyPost_ret (v := ndV k n t A1 ns.length c1 A2 xs.length c2) (by simp [results, Try.results38, go_sem, *]) rfl ?_
  have hs9 : ∀ (W : World) (p : Addr) (u : Value), (W.setCell p u).heap.size = W.heap.size := fun W p u => by simp [World.setCell]
  refine ⟨k, n, t, A1, ns.length, c1, A2, xs.length, c2, rfl, InN.mk (HN2.out.keep (fun p hp => ?_) (fun b h => ⟨by omega, by simp only [hs9]; exact h.2⟩)) HCAP.out hc2 (HR2.out.keep (fun p hp => ?_) (fun b h => ⟨by omega, by simp only [hs9]; exact h.2⟩)), Below.setCell (Below.setCell (Below.setCell (Below.setCell (Below.setCell (Below.setCell HB2.out ?_ _) ?_ _) ?_ _) ?_ _) ?_ _) ?_ _⟩
  · rw [HSET.out _ _ _ _ _ (by omega) hp.1, HSET.out _ _ _ _ _ (by omega) hp.1, HSET.out _ _ _ _ _ (by omega) hp.1, HSET.out _ _ _ _ _ (by omega) hp.1, HSET.out _ _ _ _ _ (by omega) hp.1, HSET.out _ _ _ _ _ (by omega) hp.1]
  · rw [HSET.out _ _ _ _ _ (by omega) hp.1, HSET.out _ _ _ _ _ (by omega) hp.1, HSET.out _ _ _ _ _ (by omega) hp.1, HSET.out _ _ _ _ _ (by omega) hp.1, HSET.out _ _ _ _ _ (by omega) hp.1, HSET.out _ _ _ _ _ (by omega) hp.1]
  all_goals first | (show w.heap.size ≤ w.heap.size + 2; omega) | (show w.heap.size ≤ w.heap.size + 1; omega)
end Go.Proofs.Ytdmmnjnbjigdeaa
