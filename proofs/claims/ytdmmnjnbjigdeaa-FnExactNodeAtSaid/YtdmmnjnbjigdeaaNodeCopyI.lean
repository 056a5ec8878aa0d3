/- Copies of nodes, of impl: walks. -/
import Derived.Test.YtdmmnjnbjigdeaaNodeOw
import Derived.Test.YtdmmnjnbjigdeaaNodeCopy
namespace Go.Proofs.Ytdmmnjnbjigdeaa
open Go.RowKit

/-- a node that the region has made, in rows of its own -/
def bNT (W0 : World) (x : Nd) : TyB := fun w v => ∃ (r : Raw) (L : List Nat), v = r.v ∧ OwT w x r L ∧ L.Nodup ∧ ∀ b ∈ L, W0.heap.size ≤ b
theorem keeps_bNT {W0 : World} {x : Nd} : ∀ w w' v, KB w w' → bNT W0 x w v → bNT W0 x w' v := fun _ _ _ hk ⟨r, L, e, h1, h2, h3⟩ => ⟨r, L, e, OwT.keep _ _ _ h1 (fun b hb => hk.block b (OwT.lt _ _ _ h1 b hb)), h2, h3⟩
/-- the same in a row of one -/
def bOneT (W0 : World) (x : Nd) : TyB := fun w v => ∃ (b : Nat) (r : Raw) (L : List Nat), v = .slice (some ⟨b, 0, none⟩) 1 1 ∧ w.heap[b]? = some (.cells (ndCells r.k r.n r.t r.An r.ln r.cn r.Ai r.li r.ci) 30 (0, 0)) ∧ OwT w x r L ∧ L.Nodup ∧ ∀ b ∈ L, W0.heap.size ≤ b
theorem keeps_bOneT {W0 : World} {x : Nd} : ∀ w w' v, KB w w' → bOneT W0 x w v → bOneT W0 x w' v := fun _ _ _ hk ⟨b, r, L, e, h0, h1, h2, h3⟩ => ⟨b, r, L, e, (hk.block b (lt_of_block h0)).trans h0, OwT.keep _ _ _ h1 (fun b hb => hk.block b (OwT.lt _ _ _ h1 b hb)), h2, h3⟩

set_option maxRecDepth 100000 in
set_option maxHeartbeats 8000000 in
theorem impl_copyNode (a : Nd) : ∀ (u : Value) (w : World), InN w (All w) a u → Nd.size a ≤ 1048576 → Calls Try.prog 37 #[u] w (NewT w a) := by
  induction a using Nd.ind with
  | h k n t ns xs ih =>
  intro u w hu hsz
  obtain ⟨An, cn, Ai, ci, rfl, hrn, hcn, hci, hri⟩ := hu.parts
  simp only [Nd.size] at hsz
  have HSZ := Lib.hid hsz
  have IH := Lib.hid ih
  have HRN := Lib.hid hrn
  have HRI := Lib.hid hri
  have hnl : ns.length ≤ 1048576 := by omega
  have hxl : xs.length ≤ 1048576 := by omega
  clear hu hrn hri ih
  obtain ⟨hB0, hX0, hY0⟩ := two_boxes w (ndCells k n t An ns.length cn Ai xs.length ci) #[.int .i64 0, .int .i64 0, .string ⟨#[]⟩, .slice none 0 0, .slice none 0 0] 30 30
  have hs0 : ((w.alloc (.cells (ndCells k n t An ns.length cn Ai xs.length ci) 30)).alloc (.cells #[.int .i64 0, .int .i64 0, .string ⟨#[]⟩, .slice none 0 0, .slice none 0 0] 30)).heap.size = w.heap.size + 2 := by simp
  have HB0 := Lib.hid hB0
  have HX0 := Lib.hid hX0
  have HY0 := Lib.hid hY0
  have HS0 := Lib.hid hs0
  clear hB0 hX0 hY0 hs0
  go_enter Try.func37, Try.ntmps37
  go_upto_region 1 with fail
  generalize (w.alloc (.cells (ndCells k n t An ns.length cn Ai xs.length ci) 30)).alloc (.cells #[.int .i64 0, .int .i64 0, .string ⟨#[]⟩, .slice none 0 0, .slice none 0 0] 30) = w0 at *
  have hs0 := HS0.out
  have he := ownS_empty w0 (w.heap.size + 2) (by omega)
  rw [hs0] at he
  have HE := Lib.hid he
  clear he
  have HA := Lib.hid ((Below.refl w0.heap.size w0).alloc (Nat.le_refl _) (.cells #[] 9))
  have HRN2 := Lib.hid ((HRN.out.now HB0.out).now HA.out)
  have HXA := Lib.hid (bx_keep HX0.out HA.out)
  have HYA := Lib.hid (bx_keep HY0.out HA.out)
  have hsa : (w0.alloc (.cells #[] 9)).heap.size = w0.heap.size + 1 := by simp
  obtain ⟨⟨x0, x1, x2, x3, x4⟩, -⟩ := box_five HX0.out
  obtain ⟨⟨p0, p1, p2, p3, p4⟩, -⟩ := box_five HXA.out
  go_wp2_with (at_builtin; refine app_texts rfl _ _ rfl (w.heap.size + 2) (some ⟨w.heap.size + 2, 0, none⟩) 0 [] (by rfl) HE.out An cn ns (by rfl) HRN2.out (fun _ h => h) ?_ ?_ ?_; (focus (simp; omega)); (focus omega); intro A1 c1 w1 ho hg; obtain ⟨⟨q0, q1, q2, q3, q4⟩, q5, q6, q7, q8, q9⟩ := box_five ((hg.block w.heap.size (by rw [hsa]; omega) (by simp [Value.ownBlock])).trans HXA.out))
  have HX1 := Lib.hid ((hg.block w.heap.size (by rw [hsa]; omega) (by simp [Value.ownBlock])).trans HXA.out)
  have HY1 := Lib.hid ((hg.block (w.heap.size + 1) (by rw [hsa]; omega) (by simp [Value.ownBlock])).trans HYA.out)
  have HB1 := Lib.hid ((HB0.out.trans (HA.out.mono HB0.out.size)).trans (grown_to_below hg (by rw [hsa]; omega) (fun g e => by simp [Value.ownBlock] at e; omega)))
  have hz1 : w.heap.size + 3 ≤ w1.heap.size := by have := hg.size; omega
  have HB2 := Lib.hid (Below.setCell (Below.setCell HB1.out (p := ⟨w.heap.size, 3, none⟩) (Nat.le_refl _) (.slice A1 ns.length c1)) (p := ⟨w.heap.size, 4, none⟩) (Nat.le_refl _) (.slice none 0 0))
  have HY2 : Hid (((w1.setCell ⟨w.heap.size, 3, none⟩ (.slice A1 ns.length c1)).setCell ⟨w.heap.size, 4, none⟩ (.slice none 0 0)).heap[w.heap.size + 1]? = some (.cells #[.int .i64 0, .int .i64 0, .string ⟨#[]⟩, .slice none 0 0, .slice none 0 0] 30 (0, 0))) :=
    (Below.heap_setCell _ _ _ _ (by show w.heap.size + 1 ≠ w.heap.size; omega)).trans ((Below.heap_setCell _ _ _ _ (by show w.heap.size + 1 ≠ w.heap.size; omega)).trans HY1.out)
  have HT2 : Hid (TBx ((w1.setCell ⟨w.heap.size, 3, none⟩ (.slice A1 ns.length c1)).setCell ⟨w.heap.size, 4, none⟩ (.slice none 0 0)) w.heap.size (w.heap.size + 2) k n t A1 c1 ns none 0 [] [] []) := by
    refine ⟨cells_set (cells_set HX1.out), offN (offN ho (by omega)) (by omega), ownN_nil _ _, by simp [OwTs], ?_, fun j hj => (by cases hj), by omega, by simp [World.setCell]; omega⟩
    cases A1 <;> simp [bk, Value.ownBlock]
  clear ho hg x0 x1 x2 x3 x4 p0 p1 p2 p3 p4 q0 q1 q2 q3 q4 q5 q6 q7 q8 q9 HX1 HY1 HB1
  go_loopw [16] (fun i wr => ∃ (j : Nat) (A2 : Option Addr) (c2 : Nat) (rs : List Raw) (L : List Nat), j ≤ xs.length ∧ i = .int .i64 j ∧ TBx wr w.heap.size (w.heap.size + 2) k n t A1 c1 ns A2 c2 rs (xs.take j) L ∧ wr.heap[w.heap.size + 1]? = some (.cells #[.int .i64 0, .int .i64 0, .string ⟨#[]⟩, .slice none 0 0, .slice none 0 0] 30 (0, 0)) ∧ Below w.heap.size w wr) (fun i _ => xs.length - (intOf i).toNat)
  case atStart => exact ⟨0, none, 0, [], [], Nat.zero_le _, rfl, HT2.out, HY2.out, HB2.out⟩
  case round =>
    obtain ⟨j, A2, c2, rs, L, hj, rfl, ht, hy, hb⟩ := hrel
    have HT := Lib.hid ht
    have HY := Lib.hid hy
    have HB := Lib.hid hb
    have hrl : rs.length ≤ 1048576 := by have := ht.els.len; simp at this; omega
    clear ht hy hb
    by_cases hlt : j < xs.length
    · obtain ⟨b1, o1, hA1, hb1, kd, nn, tt, An1, ln1, cn1, Ai1, li1, ci1, hin, y0, y1, y2, y3, y4⟩ := (HRI.out.now HB.out).at hlt
      have hsj : Nd.size xs[j] ≤ 1048576 := by have := Nd.size_mem (List.getElem_mem hlt); have := HSZ.out; omega
      have HA1 := Lib.hid ((Below.refl wr.heap.size wr).alloc (Nat.le_refl _) (.cells (ndCells kd nn tt An1 ln1 cn1 Ai1 li1 ci1) 30))
      have HX5 := Lib.hid (heap_alloc_new wr (.cells (ndCells kd nn tt An1 ln1 cn1 Ai1 li1 ci1) 30))
      have HIN := Lib.hid (hin.now HA1.out)
      have HTA := Lib.hid (HT.out.keep HA1.out)
      have HYA := Lib.hid (bx_keep HY.out HA1.out)
      have HBA := Lib.hid (HB.out.trans (HA1.out.mono HB.out.size))
      have hsa : (wr.alloc (.cells (ndCells kd nn tt An1 ln1 cn1 Ai1 li1 ci1) 30)).heap.size = wr.heap.size + 1 := by simp
      have HTK := Lib.hid (take_snoc xs j hlt)
      have HCALL := Lib.hid (fun w3 (hb : Below _ _ w3) => IH.out xs[j] (List.getElem_mem hlt) _ w3 (HIN.out.now hb) hsj)
      subst hA1
      clear hin hsj
      go_wp2_with fail
      generalize wr.alloc (.cells (ndCells kd nn tt An1 ln1 cn1 Ai1 li1 ci1) 30) = wa at *
      have hzx : wr.heap.size < wa.heap.size := by omega
      have hz0 : w.heap.size < wa.heap.size := by have := HT.out.lt; have := HT.out.le; omega
      obtain ⟨⟨g0, g1, g2, g3, g4⟩, -⟩ := box_five HTA.out.box
      have HC4 := Lib.hid g4
      clear y0 y1 y2 y3 y4 g0 g1 g2 g3 g4
      refine wp_region_typed 5 (by kernel_rfl) (by kernel_rfl) (fun _ w => Below (World.heap wa).size wa w) KB (fun i => ([bIs (.pointer (some ⟨w.heap.size, 4, none⟩)), bIs (.slice A2 rs.length c2), bIs (ndV kd nn tt An1 ln1 cn1 Ai1 li1 ci1), bNT wa xs[j], bOneT wa xs[j]] : List TyB).getD i bAny) ?hWbB1 ?hkeepB1 ?hstepB1 ?hfinbB1
      case hkeepB1 =>
        refine all_lt_succ (all_lt_succ (all_lt_succ (all_lt_succ (all_lt_succ all_lt_zero ?_) ?_) ?_) ?_) ?_
        · exact keeps_bIs
        · exact keeps_bIs
        · exact keeps_bIs
        · exact keeps_bNT
        · exact keeps_bOneT
      case hstepB1 =>
        refine all_lt_succ (all_lt_succ (all_lt_succ (all_lt_succ (all_lt_succ all_lt_zero ?_) ?_) ?_) ?_) ?_
        · (intro o ho m' a w1 hm' hW hb hd K Q hK; obtain rfl := Option.some.inj ho; have e0 : a.tmps[1]?.getD undef = .pointer (some ⟨w.heap.size, 0, none⟩) := (by rw [hb 1 (by decide +kernel)]; simp); go_simp; exact hK _ _ hW (kb_refl _) rfl)
        · (intro o ho m' a w1 hm' hW hb hd K Q hK; obtain rfl := Option.some.inj ho; have e0 := slotB (hd 0 (by kernel_rfl) 20 rfl); have hcw := (hW.cell (p := ⟨w.heap.size, 4, none⟩) hz0).trans HC4.out; go_simp; exact hK _ _ hW (kb_refl _) rfl)
        · (intro o ho m' a w1 hm' hW hb hd K Q hK; obtain rfl := Option.some.inj ho; have e0 : a.tmps[5]?.getD undef = .pointer (some ⟨wr.heap.size, 0, none⟩) := (by rw [hb 5 (by decide +kernel)]; simp); have hbl := (hW.block _ hzx).trans HX5.out; obtain ⟨⟨q0, q1, q2, q3, q4⟩, -⟩ := box_five hbl; go_simp; exact hK _ _ hW (kb_refl _) rfl)
        · (intro o ho m' a w1 hm' hW hb hd K Q hK; obtain rfl := Option.some.inj ho; have e0 := slotB (hd 2 (by kernel_rfl) 22 rfl); go_simp; refine (HCALL.out _ hW).mono ?_; rintro e w2 ⟨r9, L9, rfl, ho9, hn9, hg9, hb2⟩; exact hK _ _ (hW.trans (hb2.mono hW.size)) hb2 ⟨r9, L9, rfl, ho9, hn9, fun b hb => Nat.le_trans hW.size (hg9 b hb)⟩)
        · (intro o ho m' a w1 hm' hW hb hd K Q hK; obtain rfl := Option.some.inj ho; obtain ⟨⟨k1, n1, t1, A1, l1, c1, B1, m1, d1⟩, L1, e1, h1, h2, h3⟩ := (hd 3 (by kernel_rfl) 23 rfl); change _ = ndV k1 n1 t1 A1 l1 c1 B1 m1 d1 at e1; have e1 := slotB e1; go_simp; exact hK _ _ (hW.alloc hW.size _) ((Below.refl _ _).alloc (Nat.le_refl _) _) ⟨_, ⟨k1, n1, t1, A1, l1, c1, B1, m1, d1⟩, L1, rfl, heap_alloc_new w1 _, OwT.keep _ _ _ h1 (fun b hb => heap_alloc_old w1 _ (OwT.lt _ _ _ h1 b hb)), h2, h3⟩)
      case hWbB1 => exact (Below.refl _ _).drew
      case hfinbB1 =>
        intro vs w3 hW hF
        simp only [putAll, hdst, List.getElem?_cons_succ, List.getElem?_cons_zero, Option.bind, List.drop_succ_cons, List.drop_zero, Act.put]
        have h1 : vs 1 = .slice A2 rs.length c2 := hF 1 (by omega)
        obtain ⟨b2, ⟨k2, n2, t2, An2, l2, cn2, Ai2, m2, ci2⟩, L2, h4, hh2, ho2, hn2, hr2⟩ := hF 4 (by omega)
        rw [h1, h4]
        have HT3 := Lib.hid (HTA.out.keep hW)
        have HO2 := Lib.hid ho2
        have HND := Lib.hid (HTA.out.more hn2 hr2)
        have HR2 : Hid (∀ j ∈ L2, w.heap.size + 2 ≤ j) := fun j hj => by have := hr2 j hj; have := HTA.out.le; omega
        have HB3 := Lib.hid (HBA.out.trans (hW.mono HBA.out.size))
        have HY3 := Lib.hid (bx_keep HYA.out hW)
        have hsz3 := HT3.out.le
        clear hF h1 h4 hW ho2 hn2 hr2
        go_simp
        go_wp2_with (at_builtin; refine app_node_at rfl _ _ rfl (w.heap.size + 2) A2 c2 rs ⟨k2, n2, t2, An2, l2, cn2, Ai2, m2, ci2⟩ (by rfl) HT3.out.iown b2 (by rfl) hh2 ?_ ?_ ?_; (focus omega); (focus omega); intro A6 c6 w6 ho6 hg6 hbk6; obtain ⟨⟨f0, f1, f2, f3, f4⟩, f5, f6, f7, f8, f9⟩ := box_five (HT3.out.boxI hg6))
        go_roundw
        case rel =>
          refine ⟨j + 1, A6, c6, rs ++ [⟨k2, n2, t2, An2, l2, cn2, Ai2, m2, ci2⟩], L ++ L2, by omega, by go_num, ?_, ?_, ?_⟩
          · rw [HTK.out]
            exact HT3.out.appI ho6 hg6 hbk6 HO2.out HND.out HR2.out _ (by simp)
          · exact (Below.heap_setCell _ _ _ _ (by show w.heap.size + 1 ≠ w.heap.size; omega)).trans ((hg6.block _ (by omega) (fun e => by have := ownN_row HT3.out.iown _ e.symm; omega)).trans HY3.out)
          · exact Below.setCell (HB3.out.trans (grown_to_below hg6 (by omega) (fun g e => by have := ownN_row HT3.out.iown g e; omega))) (Nat.le_refl _) _
        case measure => simp [intOf]; omega
    · have hjx : xs.take j = xs := List.take_of_length_le (by omega)
      have HT9 := HT.out
      rw [hjx] at HT9
      have HT8 := Lib.hid HT9
      clear HT9 hjx
      obtain ⟨⟨y0, y1, y2, y3, y4⟩, y5, y6, y7, y8, y9⟩ := box_five HY.out
      obtain ⟨⟨z0, z1, z2, z3, z4⟩, z5, z6, z7, z8, z9⟩ := box_five HT8.out.box
      go_wp2
      refine bodyPost_ret (v := ndV k n t A1 ns.length c1 A2 rs.length c2) (by simp [results, Try.results37, go_sem, *]) rfl ?_
      have HN := Lib.hid HT8.out.node
      refine ⟨⟨k, n, t, A1, ns.length, c1, A2, rs.length, c2⟩, _, rfl, OwT.keep _ _ _ HN.out (fun b hb => ?_), HT8.out.nodup, fun b hb => by have := HT8.out.lts b hb; omega, Below.setCell (Below.setCell (Below.setCell (Below.setCell (Below.setCell HB.out ?_ _) ?_ _) ?_ _) ?_ _) ?_ _⟩
      · have hb2 := HT8.out.lts b hb
        rw [Below.heap_setCell _ _ _ _ (by show b ≠ w.heap.size + 1; omega), Below.heap_setCell _ _ _ _ (by show b ≠ w.heap.size + 1; omega), Below.heap_setCell _ _ _ _ (by show b ≠ w.heap.size + 1; omega), Below.heap_setCell _ _ _ _ (by show b ≠ w.heap.size + 1; omega), Below.heap_setCell _ _ _ _ (by show b ≠ w.heap.size + 1; omega)]
      all_goals (show w.heap.size ≤ w.heap.size + 1; omega)
end Go.Proofs.Ytdmmnjnbjigdeaa
