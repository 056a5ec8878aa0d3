/- For all pairs of nodes: SameNode of the program returns what the reference's returns and leaves its arguments alone: the law FnExactSameNode holds. No conditions. -/
import Derived.Test.YtdmmnjnbjigdeaaNodeLawP
namespace Go.Proofs.Ytdmmnjnbjigdeaa
open Go.RowKit Go.ChangeShapes Go.WideShapes Go.ChangeAt Go.Joins

set_option maxRecDepth 100000 in
set_option maxHeartbeats 8000000 in
theorem exactSameNode_walk (a b : Nd) (u v : Value) (w : World) (hu : InN w (All w) a u) (hv : InN w (All w) b v) (hfa : Nd.Fit a) (hfb : Nd.Fit b) :
    Calls Try.prog 3 #[u, v] w fun e w' => e = .returned (.bool true) ∧ Below w.heap.size w w' := by
  obtain ⟨k, n, t, An, ln, cn, Ai, li, ci, rfl⟩ := nd_value hu
  obtain ⟨k', n', t', An', ln', cn', Ai', li', ci', rfl⟩ := nd_value hv
  obtain ⟨hB0, hX0, hY0⟩ := two_boxes w (ndCells k n t An ln cn Ai li ci) (ndCells k' n' t' An' ln' cn' Ai' li' ci') 25 25
  have HB0 := Lib.hid hB0
  have HX0 := Lib.hid hX0
  have HY0 := Lib.hid hY0
  have HU0 := Lib.hid (hu.now hB0)
  have HV0 := Lib.hid (hv.now hB0)
  have HS1 := Lib.hid (laws_szNode a _ 1048576 _ HU0.out hfa (by omega) (by omega))
  have hzz : w.heap.size + 1 < ((w.alloc (.cells (ndCells k n t An ln cn Ai li ci) 25)).alloc (.cells (ndCells k' n' t' An' ln' cn' Ai' li' ci') 25)).heap.size := by simp
  clear hu hv hB0 hX0 hY0
  by_cases hsa : (Nd.size a : Int) ≤ 1048576
  case neg =>
    rw [szLeft_neg hsa] at HS1
    clear hsa
    go_enter Try.func3, Try.ntmps3
    go_wp2_with fail
    refine HS1.out.mono ?_
    rintro e w1 ⟨rfl, hb⟩
    have HB1 := Lib.hid (HB0.out.trans (hb.mono HB0.out.size))
    clear hb
    go_wp2
    go_ret
    exact ⟨rfl, HB1.out⟩
  rw [szLeft_pos hsa] at HS1
  have hq0 : decide ((1048576 : Int) - (Nd.size a : Int) < 0) = false := by simp; omega
  have HS2 := Lib.hid (fun w2 (hb : Below _ _ w2) => laws_szNode b _ (1048576 - Nd.size a) w2 (HV0.out.now hb) hfb (by omega) (by omega))
  by_cases hsb : (Nd.size b : Int) ≤ 1048576 - Nd.size a
  case neg =>
    rw [szLeft_neg hsb] at HS2
    clear hsb hsa
    go_enter Try.func3, Try.ntmps3
    go_wp2_with fail
    refine HS1.out.mono ?_
    rintro e w1 ⟨rfl, hb⟩
    have HB1 := Lib.hid (HB0.out.trans (hb.mono HB0.out.size))
    have HS := Lib.hid (HS2.out w1 hb)
    obtain ⟨⟨y0, y1, y2, y3, y4⟩, -⟩ := box_five (bx_keep HY0.out hb)
    clear hb
    go_wp2_with fail
    refine HS.out.mono ?_
    rintro e w2 ⟨rfl, hb⟩
    have HB2 := Lib.hid (HB1.out.trans (hb.mono HB1.out.size))
    clear hb
    go_wp2
    go_ret
    exact ⟨rfl, HB2.out⟩
  rw [szLeft_pos hsb] at HS2
  have hq1 : decide ((1048576 : Int) - (Nd.size a : Int) - (Nd.size b : Int) < 0) = false := by simp; omega
  have hA : Nd.size a ≤ 1048576 := by omega
  have hBz : Nd.size b ≤ 1048576 := by omega
  have HFA := Lib.hid hfa
  have HFB := Lib.hid hfb
  clear hfa hfb
  go_enter Try.func3, Try.ntmps3
  go_wp2_with fail
  refine HS1.out.mono ?_
  rintro e w1 ⟨rfl, hb⟩
  have HB1 := Lib.hid (HB0.out.trans (hb.mono HB0.out.size))
  have HS := Lib.hid (HS2.out w1 hb)
  have HX1 := Lib.hid (bx_keep HX0.out hb)
  have HY1 := Lib.hid (bx_keep HY0.out hb)
  have HU1 := Lib.hid (HU0.out.now hb)
  have HV1 := Lib.hid (HV0.out.now hb)
  have hz1 : w.heap.size + 1 < w1.heap.size := Nat.lt_of_lt_of_le hzz hb.size
  obtain ⟨⟨y0, y1, y2, y3, y4⟩, -⟩ := box_five HY1.out
  clear hb
  go_wp2_with fail
  refine HS.out.mono ?_
  rintro e w2 ⟨rfl, hb⟩
  have HB2 := Lib.hid (HB1.out.trans (hb.mono HB1.out.size))
  have HX2 := Lib.hid (bx_keep HX1.out hb)
  have HY2 := Lib.hid (bx_keep HY1.out hb)
  have HU2 := Lib.hid (HU1.out.now hb)
  have HV2 := Lib.hid (HV1.out.now hb)
  have hz2 : w.heap.size + 1 < w2.heap.size := Nat.lt_of_lt_of_le hz1 hb.size
  have hz2' : w.heap.size < w2.heap.size := by omega
  clear hb HS HS1 HS2 y0 y1 y2 y3 y4 HX0 HY0 HX1 HY1 HU0 HV0 HU1 HV1
  have HTA := Lib.hid (fun w3 (hb : Below w2.heap.size w2 w3) => laws_toNode a _ w3 (HU2.out.now hb) hA)
  have HTB := Lib.hid (fun w3 (hb : Below w2.heap.size w2 w3) => laws_toNode b _ w3 (HV2.out.now hb) hBz)
  have HSP := Lib.hid (fun w3 u v (_ : Below w2.heap.size w2 w3) (hu : InN w3 (All w3) a u) (hv : InN w3 (All w3) b v) => spec_SameNode a b u v w3 hu hv HFA.out HFB.out)
  have HIM := Lib.hid (fun w3 u v (hu : InN w3 (All w3) a u) (hv : InN w3 (All w3) b v) => impl_SameNode a b u v w3 hu hv HFA.out HFB.out)
  generalize Nd.same a b = r at *
  have hrr : (r != r) = false := by simp
  go_wp2_with fail
  refine wp_region_typed 5 (by kernel_rfl) (by kernel_rfl) (fun _ w => Below (World.heap w2).size w2 w) KB (fun i => ([bIs (ndV k n t An ln cn Ai li ci), bNd a, bIs (ndV k' n' t' An' ln' cn' Ai' li' ci'), bNd b, bIs (.bool r)] : List TyB).getD i bAny) ?hWbB1 ?hkeepB1 ?hstepB1 ?hfinbB1
  case hkeepB1 =>
    refine all_lt_succ (all_lt_succ (all_lt_succ (all_lt_succ (all_lt_succ all_lt_zero ?_) ?_) ?_) ?_) ?_
    · exact keeps_bIs
    · exact keeps_bNd
    · exact keeps_bIs
    · exact keeps_bNd
    · exact keeps_bIs
  case hstepB1 =>
    refine all_lt_succ (all_lt_succ (all_lt_succ (all_lt_succ (all_lt_succ all_lt_zero ?_) ?_) ?_) ?_) ?_
    · (intro o ho m' a w1 hm' hW hb hd K Q hK; obtain rfl := Option.some.inj ho; have e0 : a.tmps[2]?.getD undef = .pointer (some ⟨w.heap.size, 0, none⟩) := (by rw [hb 2 (by decide +kernel)]; simp); have hbl := (hW.block _ hz2').trans HX2.out; obtain ⟨⟨q0, q1, q2, q3, q4⟩, -⟩ := box_five hbl; go_simp; exact hK _ _ hW (kb_refl _) rfl)
    · (intro o ho m' a w1 hm' hW hb hd K Q hK; obtain rfl := Option.some.inj ho; have e0 := slotB (hd 0 (by kernel_rfl) 20 rfl); go_simp; refine (HTA.out _ hW).mono ?_; rintro e w2 ⟨k9, n9, t9, A9, l9, c9, B9, m9, d9, rfl, hin9, hb2⟩; exact hK _ _ (hW.trans (hb2.mono hW.size)) hb2 ⟨k9, n9, t9, A9, l9, c9, B9, m9, d9, rfl, InN.keep (fun _ _ => rfl) (fun b h => h.2) _ _ hin9⟩)
    · (intro o ho m' a w1 hm' hW hb hd K Q hK; obtain rfl := Option.some.inj ho; have e0 : a.tmps[3]?.getD undef = .pointer (some ⟨w.heap.size + 1, 0, none⟩) := (by rw [hb 3 (by decide +kernel)]; simp); have hbl := (hW.block _ hz2).trans HY2.out; obtain ⟨⟨q0, q1, q2, q3, q4⟩, -⟩ := box_five hbl; go_simp; exact hK _ _ hW (kb_refl _) rfl)
    · (intro o ho m' a w1 hm' hW hb hd K Q hK; obtain rfl := Option.some.inj ho; have e0 := slotB (hd 2 (by kernel_rfl) 22 rfl); go_simp; refine (HTB.out _ hW).mono ?_; rintro e w2 ⟨k9, n9, t9, A9, l9, c9, B9, m9, d9, rfl, hin9, hb2⟩; exact hK _ _ (hW.trans (hb2.mono hW.size)) hb2 ⟨k9, n9, t9, A9, l9, c9, B9, m9, d9, rfl, InN.keep (fun _ _ => rfl) (fun b h => h.2) _ _ hin9⟩)
    · (intro o ho m' a w1 hm' hW hb hd K Q hK; obtain rfl := Option.some.inj ho; obtain ⟨k1, n1, t1, A1, l1, c1, B1, m1, d1, e1, h1⟩ := (hd 1 (by kernel_rfl) 21 rfl); obtain ⟨k2, n2, t2, A2, l2, c2, B2, m2, d2, e2, h2⟩ := (hd 3 (by kernel_rfl) 23 rfl); rw [e1] at h1; rw [e2] at h2; have e1 := slotB e1; have e2 := slotB e2; go_simp; refine (HSP.out _ _ _ hW h1 h2).mono ?_; rintro e w2 ⟨rfl, hb2⟩; exact hK _ _ (hW.trans (hb2.mono hW.size)) hb2 rfl)
  case hWbB1 => exact (Below.refl _ _).drew
  case hfinbB1 =>
    intro vs w3 hW hF
    simp only [putAll, hdst, List.getElem?_cons_succ, List.getElem?_cons_zero, Option.bind, List.drop_succ_cons, List.drop_zero, Act.put]
    have h4 : vs 4 = .bool r := hF 4 (by omega)
    rw [h4]
    have HB3 := Lib.hid (HB2.out.trans (hW.mono HB2.out.size))
    have HX3 := Lib.hid (bx_keep HX2.out hW)
    have HY3 := Lib.hid (bx_keep HY2.out hW)
    have HTA3 := Lib.hid (HTA.out w3 hW)
    have HTB3 := Lib.hid (fun w4 (hb : Below w3.heap.size w3 w4) => HTB.out w4 (hW.trans (hb.mono hW.size)))
    have HTA4 := Lib.hid (fun w4 (hb : Below w3.heap.size w3 w4) => HTA.out w4 (hW.trans (hb.mono hW.size)))
    have hz3 : w.heap.size + 1 < w3.heap.size := Nat.lt_of_lt_of_le hz2 hW.size
    obtain ⟨⟨x0, x1, x2, x3, x4⟩, -⟩ := box_five HX3.out
    clear hW hF h4
    go_simp
    go_wp2_with fail
    refine HTA3.out.mono ?_
    rintro e w4 ⟨k4, n4, t4, A4, l4, c4, B4, m4, d4, rfl, hin, hb⟩
    have HA4 := Lib.hid ((Below.refl w4.heap.size w4).alloc (Nat.le_refl _) (.cells (ndCells k4 n4 t4 A4 l4 c4 B4 m4 d4) 30))
    have HI4 := Lib.hid (hin.all.now HA4.out)
    have HB34 := Lib.hid (hb.trans (HA4.out.mono hb.size))
    have HB4 := Lib.hid (HB3.out.trans (HB34.out.mono HB3.out.size))
    have HX4 := Lib.hid (bx_keep HX3.out HB34.out)
    have HY4 := Lib.hid (bx_keep HY3.out HB34.out)
    have HP4 := Lib.hid (heap_alloc_new w4 (.cells (ndCells k4 n4 t4 A4 l4 c4 B4 m4 d4) 30))
    have HTB5 := Lib.hid (HTB3.out _ HB34.out)
    have hz4 : w.heap.size + 1 < w4.heap.size := Nat.lt_of_lt_of_le hz3 hb.size
    obtain ⟨⟨y0, y1, y2, y3, y4⟩, -⟩ := box_five HY4.out
    clear hin hb x0 x1 x2 x3 x4
    go_wp2_with fail
    refine HTB5.out.mono ?_
    rintro e w5 ⟨k5, n5, t5, A5, l5, c5, B5, m5, d5, rfl, hin, hb⟩
    have HA5 := Lib.hid ((Below.refl w5.heap.size w5).alloc (Nat.le_refl _) (.cells (ndCells k5 n5 t5 A5 l5 c5 B5 m5 d5) 30))
    have HI5 := Lib.hid (hin.all.now HA5.out)
    have HB45 := Lib.hid (hb.trans (HA5.out.mono hb.size))
    have HB5 := Lib.hid (HB4.out.trans (HB45.out.mono HB4.out.size))
    have HB35 := Lib.hid (HB34.out.trans (HB45.out.mono HB34.out.size))
    have HI4 := Lib.hid (HI4.out.now HB45.out)
    have HX5 := Lib.hid (bx_keep HX4.out HB45.out)
    have HY5 := Lib.hid (bx_keep HY4.out HB45.out)
    have HP5 := Lib.hid (bx_keep HP4.out HB45.out)
    have HQ5 := Lib.hid (heap_alloc_new w5 (.cells (ndCells k5 n5 t5 A5 l5 c5 B5 m5 d5) 30))
    have hz5 : w4.heap.size < w5.heap.size := by have := hb.size; simp at this; omega
    obtain ⟨⟨p0, p1, p2, p3, p4⟩, -⟩ := box_five HP5.out
    obtain ⟨⟨q0, q1, q2, q3, q4⟩, -⟩ := box_five HQ5.out
    have hs5 : (w5.alloc (.cells (ndCells k5 n5 t5 A5 l5 c5 B5 m5 d5) 30)).heap.size = w5.heap.size + 1 := by simp
    clear hin hb y0 y1 y2 y3 y4
    go_wp2_with fail
    refine (HIM.out _ _ _ HI4.out HI5.out).mono ?_
    rintro e w6 ⟨rfl, hb⟩
    have HB6 := Lib.hid (HB5.out.trans (hb.mono HB5.out.size))
    have HB36 := Lib.hid (HB35.out.trans (hb.mono HB35.out.size))
    have HI4 := Lib.hid (HI4.out.now hb)
    have HI5 := Lib.hid (HI5.out.now hb)
    have HX6 := Lib.hid (bx_keep HX5.out hb)
    have HY6 := Lib.hid (bx_keep HY5.out hb)
    have HP6 := Lib.hid (bx_keep HP5.out hb)
    have HQ6 := Lib.hid (bx_keep HQ5.out hb)
    have hz6 : w5.heap.size < w6.heap.size := by have := hb.size; omega
    have hz6' : w4.heap.size < w6.heap.size := by omega
    have hz6a : w.heap.size < w6.heap.size := by omega
    have hz6b : w.heap.size + 1 < w6.heap.size := by omega
    clear hb p0 p1 p2 p3 p4 q0 q1 q2 q3 q4
    have HTA6 := Lib.hid (fun w7 (hb : Below w6.heap.size w6 w7) => HTA4.out w7 (HB36.out.trans (hb.mono HB36.out.size)))
    have HEA := Lib.hid (fun w7 v (hb : Below w6.heap.size w6 w7) (hv : InN w7 (All w7) a v) => laws_eqNode a a _ v w7 (HI4.out.now hb) hv HFA.out HFA.out)
    rw [Nd.same_self] at HEA
    go_wp2_with fail
    refine wp_region_typed 4 (by kernel_rfl) (by kernel_rfl) (fun _ w => Below (World.heap w6).size w6 w) KB (fun i => ([bIs (ndV k4 n4 t4 A4 l4 c4 B4 m4 d4), bIs (ndV k n t An ln cn Ai li ci), bNd a, bIs (.bool true)] : List TyB).getD i bAny) ?hWbB2 ?hkeepB2 ?hstepB2 ?hfinbB2
    case hkeepB2 =>
      refine all_lt_succ (all_lt_succ (all_lt_succ (all_lt_succ all_lt_zero ?_) ?_) ?_) ?_
      · exact keeps_bIs
      · exact keeps_bIs
      · exact keeps_bNd
      · exact keeps_bIs
    case hstepB2 =>
      refine all_lt_succ (all_lt_succ (all_lt_succ (all_lt_succ all_lt_zero ?_) ?_) ?_) ?_
      · (intro o ho m' a w1 hm' hW hb hd K Q hK; obtain rfl := Option.some.inj ho; have e0 : a.tmps[7]?.getD undef = .pointer (some ⟨w4.heap.size, 0, none⟩) := (by rw [hb 7 (by decide +kernel)]; simp); have hbl := (hW.block _ hz6').trans HP6.out; obtain ⟨⟨q0, q1, q2, q3, q4⟩, -⟩ := box_five hbl; go_simp; exact hK _ _ hW (kb_refl _) rfl)
      · (intro o ho m' a w1 hm' hW hb hd K Q hK; obtain rfl := Option.some.inj ho; have e0 : a.tmps[2]?.getD undef = .pointer (some ⟨w.heap.size, 0, none⟩) := (by rw [hb 2 (by decide +kernel)]; simp); have hbl := (hW.block _ hz6a).trans HX6.out; obtain ⟨⟨q0, q1, q2, q3, q4⟩, -⟩ := box_five hbl; go_simp; exact hK _ _ hW (kb_refl _) rfl)
      · (intro o ho m' a w1 hm' hW hb hd K Q hK; obtain rfl := Option.some.inj ho; have e0 := slotB (hd 1 (by kernel_rfl) 36 rfl); go_simp; refine (HTA6.out _ hW).mono ?_; rintro e w2 ⟨k9, n9, t9, A9, l9, c9, B9, m9, d9, rfl, hin9, hb2⟩; exact hK _ _ (hW.trans (hb2.mono hW.size)) hb2 ⟨k9, n9, t9, A9, l9, c9, B9, m9, d9, rfl, InN.keep (fun _ _ => rfl) (fun b h => h.2) _ _ hin9⟩)
      · (intro o ho m' a w1 hm' hW hb hd K Q hK; obtain rfl := Option.some.inj ho; have e1 := slotB (hd 0 (by kernel_rfl) 35 rfl); obtain ⟨k2, n2, t2, A2, l2, c2, B2, m2, d2, e2, h2⟩ := (hd 2 (by kernel_rfl) 37 rfl); rw [e2] at h2; have e2 := slotB e2; go_simp; refine (HEA.out _ _ hW h2).mono ?_; rintro e w2 ⟨rfl, hb2⟩; exact hK _ _ (hW.trans (hb2.mono hW.size)) hb2 rfl)
    case hWbB2 => exact (Below.refl _ _).drew
    case hfinbB2 =>
      intro vs2 w7 hW hF
      simp only [putAll, hdst, List.getElem?_cons_succ, List.getElem?_cons_zero, Option.bind, List.drop_succ_cons, List.drop_zero, Act.put]
      have h3 : vs2 3 = .bool true := hF 3 (by omega)
      rw [h3]
      have HB7 := Lib.hid (HB6.out.trans (hW.mono HB6.out.size))
      have HB37 := Lib.hid (HB36.out.trans (hW.mono HB36.out.size))
      have HI5 := Lib.hid (HI5.out.now hW)
      have HY7 := Lib.hid (bx_keep HY6.out hW)
      have HQ7 := Lib.hid (bx_keep HQ6.out hW)
      have hz7 : w5.heap.size < w7.heap.size := Nat.lt_of_lt_of_le hz6 hW.size
      have hz7b : w.heap.size + 1 < w7.heap.size := Nat.lt_of_lt_of_le hz6b hW.size
      clear hW hF h3
      have HTB7 := Lib.hid (fun w8 (hb : Below w7.heap.size w7 w8) => HTB3.out w8 (HB37.out.trans (hb.mono HB37.out.size)))
      have HEB := Lib.hid (fun w8 v (hb : Below w7.heap.size w7 w8) (hv : InN w8 (All w8) b v) => laws_eqNode b b _ v w8 (HI5.out.now hb) hv HFB.out HFB.out)
      rw [Nd.same_self] at HEB
      go_simp
      go_wp2_with fail
      refine wp_region_typed 4 (by kernel_rfl) (by kernel_rfl) (fun _ w => Below (World.heap w7).size w7 w) KB (fun i => ([bIs (ndV k5 n5 t5 A5 l5 c5 B5 m5 d5), bIs (ndV k' n' t' An' ln' cn' Ai' li' ci'), bNd b, bIs (.bool true)] : List TyB).getD i bAny) ?hWbB3 ?hkeepB3 ?hstepB3 ?hfinbB3
      case hkeepB3 =>
        refine all_lt_succ (all_lt_succ (all_lt_succ (all_lt_succ all_lt_zero ?_) ?_) ?_) ?_
        · exact keeps_bIs
        · exact keeps_bIs
        · exact keeps_bNd
        · exact keeps_bIs
      case hstepB3 =>
        refine all_lt_succ (all_lt_succ (all_lt_succ (all_lt_succ all_lt_zero ?_) ?_) ?_) ?_
        · (intro o ho m' a w1 hm' hW hb hd K Q hK; obtain rfl := Option.some.inj ho; have e0 : a.tmps[8]?.getD undef = .pointer (some ⟨w5.heap.size, 0, none⟩) := (by rw [hb 8 (by decide +kernel)]; simp); have hbl := (hW.block _ hz7).trans HQ7.out; obtain ⟨⟨q0, q1, q2, q3, q4⟩, -⟩ := box_five hbl; go_simp; exact hK _ _ hW (kb_refl _) rfl)
        · (intro o ho m' a w1 hm' hW hb hd K Q hK; obtain rfl := Option.some.inj ho; have e0 : a.tmps[3]?.getD undef = .pointer (some ⟨w.heap.size + 1, 0, none⟩) := (by rw [hb 3 (by decide +kernel)]; simp); have hbl := (hW.block _ hz7b).trans HY7.out; obtain ⟨⟨q0, q1, q2, q3, q4⟩, -⟩ := box_five hbl; go_simp; exact hK _ _ hW (kb_refl _) rfl)
        · (intro o ho m' a w1 hm' hW hb hd K Q hK; obtain rfl := Option.some.inj ho; have e0 := slotB (hd 1 (by kernel_rfl) 41 rfl); go_simp; refine (HTB7.out _ hW).mono ?_; rintro e w2 ⟨k9, n9, t9, A9, l9, c9, B9, m9, d9, rfl, hin9, hb2⟩; exact hK _ _ (hW.trans (hb2.mono hW.size)) hb2 ⟨k9, n9, t9, A9, l9, c9, B9, m9, d9, rfl, InN.keep (fun _ _ => rfl) (fun b h => h.2) _ _ hin9⟩)
        · (intro o ho m' a w1 hm' hW hb hd K Q hK; obtain rfl := Option.some.inj ho; have e1 := slotB (hd 0 (by kernel_rfl) 40 rfl); obtain ⟨k2, n2, t2, A2, l2, c2, B2, m2, d2, e2, h2⟩ := (hd 2 (by kernel_rfl) 42 rfl); rw [e2] at h2; have e2 := slotB e2; go_simp; refine (HEB.out _ _ hW h2).mono ?_; rintro e w2 ⟨rfl, hb2⟩; exact hK _ _ (hW.trans (hb2.mono hW.size)) hb2 rfl)
      case hWbB3 => exact (Below.refl _ _).drew
      case hfinbB3 =>
        intro vs3 w8 hW hF
        simp only [putAll, hdst, List.getElem?_cons_succ, List.getElem?_cons_zero, Option.bind, List.drop_succ_cons, List.drop_zero, Act.put]
        have h3 : vs3 3 = .bool true := hF 3 (by omega)
        rw [h3]
        have HB8 := Lib.hid (HB7.out.trans (hW.mono HB7.out.size))
        clear hW hF h3
        go_simp
        go_wp2
        go_ret
        exact ⟨rfl, HB8.out⟩

set_option maxRecDepth 100000 in
theorem fnExactSameNode_lifted (os : Os) (started : os.Started) (H : Type) (enc : TypeId × Value → H) :
    ReturnsInHanded {} Try.checked os 3 .any (Rows.fnExactSameNodeSpec.pre6 enc Try.prog Try.f3 Rows.fnExactSameNodeRow.domain false)
      (Rows.fnExactSameNodeSpec.post enc Try.prog Try.f3 false true false false) := by
  refine returnsInHanded_of_change (C := Try.checked) Try.own started (by kernel_rfl) Try.func3
    (ChangeSpec.witness6 (enc := enc) (C := Try.checked) false ⟨#[], #[.agg #[.int .i64 0, .int .i64 0, .string ⟨#[]⟩, .slice none 0 0, .slice none 0 0], .agg #[.int .i64 0, .int .i64 0, .string ⟨#[]⟩, .slice none 0 0, .slice none 0 0]], []⟩ 8 (by kernel_rfl) (by kernel_rfl) (by kernel_rfl) (by kernel_rfl)) ?_
  intro W base args ds gs before hval0 hW _ _
  have hval : ∀ (j : Nat) t v, Try.f3.params[j]? = some t → args[j]? = some v → Value.okWide Try.prog W .any base t v := hval0
  have hW' := hW
  obtain ⟨p, q, hA0, hV, rfl, _, _⟩ := hW
  have hA : DataW.TrodAll enc Try.prog W 0 (fun _ => true) true Try.f3.params.toList args.toList ds p := hA0
  rw [Try.params3] at hA hval
  obtain ⟨v0, v1, d0, d1, p0, p1, rfl, rfl, rfl, h0, h1⟩ := trodAll_two hA
  obtain ⟨rfl, rfl⟩ := trodVars_none hV
  obtain ⟨a, hu, hfa⟩ := open_node Try.underlying25 (by kernel_rfl) (by kernel_rfl) Try.underlying3 Try.underlying3 Try.underlying9 Try.underlying22 Try.underlying9 (by kernel_rfl) Try.underlying23 (hval 0 _ v0 rfl rfl) h0
  obtain ⟨b, hv, hfb⟩ := open_node Try.underlying25 (by kernel_rfl) (by kernel_rfl) Try.underlying3 Try.underlying3 Try.underlying9 Try.underlying22 Try.underlying9 (by kernel_rfl) Try.underlying23 (hval 1 _ v1 rfl rfl) h1
  refine (exactSameNode_walk a b _ _ W hu hv hfa hfb).mono fun e W' ⟨he, hw⟩ => ?_
  subst he
  exact ⟨_, rfl, law_post hW' rfl rfl (by kernel_rfl) Try.underlying4 Try.laidOut (of_decide_eq_true (by kernel_rfl)) hw⟩

theorem fnExactSameNode_holds : Rows.FnExactSameNodeSaid :=
  OpenClaim.holds_of_wide 3 Try.f3 rfl rfl rfl rfl rfl rfl rfl ⟨rfl, rfl, rfl, rfl, rfl⟩ rfl rfl rfl rfl rfl (by kernel_rfl) Try.func3 (by kernel_rfl)
    (of_decide_eq_true (by kernel_rfl)) (by unfold Func.isWrapper; first | (rw [if_pos (by decide +kernel)]; kernel_rfl) | (rw [if_neg (by decide +kernel)]; exact ⟨rfl, rfl⟩))
    (fun os started H enc _ => fnExactSameNode_lifted os started H enc)

#print axioms fnExactSameNode_holds
end Go.Proofs.Ytdmmnjnbjigdeaa
