/- For all nodes and names: NodeAt of the program returns what the reference's returns, leaves the node alone, and its result shares no memory with it: the law FnExactNodeAt holds. No conditions. -/
import Derived.Test.YtdmmnjnbjigdeaaNodeAt
import Derived.Test.YtdmmnjnbjigdeaaNodeToT
import Derived.Test.YtdmmnjnbjigdeaaNodeHeld
import Derived.Test.YtdmmnjnbjigdeaaOpenN
namespace Go.Proofs.Ytdmmnjnbjigdeaa
open Go.RowKit Go.ChangeShapes Go.WideShapes Go.ChangeAt Go.Joins
open Go.ChangeMaps (open_string shut_string)

theorem nodeAt_size {a : Nd} {nm : Tx} (h : Nd.size a ≤ 1048576) : Nd.size ((nodeAt a nm).getD zeroNd) ≤ 1048576 := by
  cases ho : nodeAt a nm with
  | none => simp [zeroNd, Nd.size, Nd.sizes, ssize]
  | some x =>
    cases a with
    | mk k n t ns xs =>
      unfold nodeAt at ho
      split at ho
      · have := Nd.size_mem (look_mem ho)
        simp only [Nd.size, Nd.inside, Option.getD_some] at *
        omega
      · cases ho
theorem laws_markNode1 (a : Nd) (r : Raw) (L : List Nat) (w : World) (ht : OwT w a r L) (hnd : L.Nodup) (hs : Nd.size a ≤ 1048576) :
    Calls Try.prog 20 #[r.v, .int .i64 1] w fun e w' => e = .returned (.int .i64 (1 + (Nd.cntT a : Int))) ∧ OwT w' (Nd.mkTop 1 a) r L ∧ Chg w w' L :=
  laws_markNode a r L 1 1 w rfl ht hnd (by omega) (by have := Nd.cntT_size a; omega)
theorem laws_heldNode1 (a : Nd) (v : Value) (w : World) (hv : InN w (All w) (Nd.mkTop 1 a) v) (hs : Nd.size a ≤ 1048576) :
    Calls Try.prog 21 #[v, .int .i64 1] w fun e w' => e = .returned (.int .i64 (1 + (Nd.cntT a : Int))) ∧ Below w.heap.size w w' :=
  laws_heldNode a v 1 1 w rfl hv (by omega) (by have := Nd.cntT_size a; omega)
theorem OwT.all {w : World} {x : Nd} {r : Raw} {L : List Nat} (h : OwT w x r L) : InN w (All w) x r.v := OwT.inN x r L h (fun b hb => OwT.lt x r L h b hb)
theorem OwT.now {w w' : World} {x : Nd} {r : Raw} {L : List Nat} (h : OwT w x r L) (hb : Below w.heap.size w w') : OwT w' x r L := OwT.keep x r L h (fun b hbL => hb.block b (OwT.lt x r L h b hbL))
theorem OwT.chg {w w' : World} {x : Nd} {r : Raw} {L M : List Nat} (h : OwT w x r L) (hc : Chg w w' M) (hd : ∀ b, b ∈ M → b ∉ L) : OwT w' x r L := OwT.keep x r L h (fun b hbL => hc.block b (OwT.lt x r L h b hbL) (fun e => hd b e hbL))

set_option maxRecDepth 100000 in
set_option maxHeartbeats 16000000 in
theorem exactNodeAt_walk (a : Nd) (nm : Tx) (u : Value) (w : World) (hu : InN w (All w) a u) (hfa : Nd.Fit a) (hnm : nm.length ≤ maxLen) :
    Calls Try.prog 7 #[u, .string ⟨nm.toArray⟩] w fun e w' => e = .returned (.bool true) ∧ Below w.heap.size w w' := by
  obtain ⟨k, n, t, An, ln, cn, Ai, li, ci, rfl⟩ := nd_value hu
  unfold maxLen at hnm
  have hB0 := (Below.refl w.heap.size w).alloc (Nat.le_refl _) (.cells (ndCells k n t An ln cn Ai li ci) 25)
  have HB0 := Lib.hid hB0
  have HX0 := Lib.hid (heap_alloc_new w (.cells (ndCells k n t An ln cn Ai li ci) 25))
  have HU0 := Lib.hid (hu.now hB0)
  have HS1 := Lib.hid (laws_szNode a _ 1048576 _ HU0.out hfa (by omega) (by omega))
  have hzz : w.heap.size < (w.alloc (.cells (ndCells k n t An ln cn Ai li ci) 25)).heap.size := by simp
  clear hu hB0
  by_cases hbig : 1048576 < nm.length
  · go_enter Try.func7, Try.ntmps7
    go_wp2
    go_ret
    exact ⟨rfl, HB0.out⟩
  by_cases hsa : (Nd.size a : Int) ≤ 1048576
  case neg =>
    rw [szLeft_neg hsa] at HS1
    clear hsa
    go_enter Try.func7, Try.ntmps7
    go_wp2_with fail
    refine HS1.out.mono ?_
    rintro e w1 ⟨rfl, hb⟩
    have HB1 := Lib.hid (HB0.out.trans (hb.mono HB0.out.size))
    clear hb
    go_wp2
    go_ret
    exact ⟨rfl, HB1.out⟩
  rw [szLeft_pos hsa] at HS1
  have hq0 : decide ((1048576 : Int) - (Nd.size a : Int) < 0) = false := by simp; omega
  have hA : Nd.size a ≤ 1048576 := by omega
  have hO : Nd.size ((nodeAt a nm).getD zeroNd) ≤ 1048576 := nodeAt_size hA
  have HFA := Lib.hid hfa
  have HFO := Lib.hid (Nd.fit_size _ hO)
  clear hfa
  have HSP := Lib.hid (fun w3 u (hu : InN w3 (All w3) a u) => spec_NodeAt a nm u w3 hu hA)
  have HIM := Lib.hid (fun w3 u (hu : InN w3 (All w3) a u) => impl_NodeAt a nm u w3 hu hA)
  generalize nodeAt a nm = o at *
  have hcm : (1 + (Nd.cntT a : Int) < 0) = False := by rw [eq_iff_iff, iff_false]; omega
  have hco : (1 + (Nd.cntT (o.getD zeroNd) : Int) < 0) = False := by rw [eq_iff_iff, iff_false]; omega
  have hoo : (o.isSome != o.isSome) = false := by simp
  go_enter Try.func7, Try.ntmps7
  go_wp2_with fail
  refine HS1.out.mono ?_
  rintro e w1 ⟨rfl, hb⟩
  have HB1 := Lib.hid (HB0.out.trans (hb.mono HB0.out.size))
  have HX1 := Lib.hid (bx_keep HX0.out hb)
  have HU1 := Lib.hid (HU0.out.now hb)
  have hz1 : w.heap.size < w1.heap.size := Nat.lt_of_lt_of_le hzz hb.size
  have HTA := Lib.hid (fun w3 (hb : Below w1.heap.size w1 w3) => laws_toNodeT a _ w3 (HU1.out.now hb) hA)
  have HTA1 := Lib.hid (HTA.out w1 (Below.refl _ _))
  obtain ⟨⟨y0, y1, y2, y3, y4⟩, -⟩ := box_five HX1.out
  clear hb HS1 HX0 HU0 hzz
  -- toNode, spec.NodeAt
  go_wp2_with fail
  refine HTA1.out.mono ?_
  rintro e w2 ⟨⟨k4, n4, t4, A4, l4, c4, B4, m4, d4⟩, L2, rfl, ho2, _, _, hb⟩
  have HSP2 := Lib.hid (HSP.out w2 _ ho2.all)
  have HB12 := Lib.hid hb
  clear hb ho2 y0 y1 y2 y3 y4
  go_wp2_with fail
  refine HSP2.out.mono ?_
  rintro e w3 ⟨k6, n6, t6, A6, l6, c6, B6, m6, d6, rfl, hin6, hb⟩
  have HA3 := Lib.hid ((Below.refl w3.heap.size w3).alloc (Nat.le_refl _) (.cells (ndCells k6 n6 t6 A6 l6 c6 B6 m6 d6) 30))
  have HB13 := Lib.hid ((HB12.out.trans (hb.mono HB12.out.size)).trans (HA3.out.mono (HB12.out.trans (hb.mono HB12.out.size)).size))
  have HX3 := Lib.hid (bx_keep HX1.out HB13.out)
  have HP3 := Lib.hid (heap_alloc_new w3 (.cells (ndCells k6 n6 t6 A6 l6 c6 B6 m6 d6) 30))
  have HI3 := Lib.hid (hin6.all.now HA3.out)
  have HTA3 := Lib.hid (HTA.out _ HB13.out)
  have hs3 : (w3.alloc (.cells (ndCells k6 n6 t6 A6 l6 c6 B6 m6 d6) 30)).heap.size = w3.heap.size + 1 := by simp
  have hz3 : w.heap.size < w3.heap.size := by have := HB12.out.size; have := hb.size; omega
  have HB3 := Lib.hid (HB1.out.trans (HB13.out.mono HB1.out.size))
  obtain ⟨⟨y0, y1, y2, y3, y4⟩, -⟩ := box_five HX3.out
  clear hb hin6 HSP2 HA3 HX1 HB1
  -- x0 := toNode
  go_wp2_with fail
  generalize hW3 : w3.alloc (.cells (ndCells k6 n6 t6 A6 l6 c6 B6 m6 d6) 30) = W3 at *
  clear hW3
  refine HTA3.out.mono ?_
  rintro e w4 ⟨⟨k8, n8, t8, A8, l8, c8, B8, m8, d8⟩, L4, rfl, ho4, hn4, hr4, hb⟩
  have HA4 := Lib.hid ((Below.refl w4.heap.size w4).alloc (Nat.le_refl _) (.cells (ndCells k8 n8 t8 A8 l8 c8 B8 m8 d8) 30))
  have HB34 := Lib.hid (hb.trans (HA4.out.mono hb.size))
  have HO4 := Lib.hid (ho4.now HA4.out)
  have HN4 := Lib.hid hn4
  have HR4 : Hid (∀ b ∈ L4, W3.heap.size ≤ b ∧ b < w4.heap.size) := fun b hb => ⟨hr4 b hb, OwT.lt _ _ _ ho4 b hb⟩
  have HP4 := Lib.hid (heap_alloc_new w4 (.cells (ndCells k8 n8 t8 A8 l8 c8 B8 m8 d8) 30))
  have hz4 : W3.heap.size ≤ w4.heap.size := hb.size
  have hs4 : (w4.alloc (.cells (ndCells k8 n8 t8 A8 l8 c8 B8 m8 d8) 30)).heap.size = w4.heap.size + 1 := by simp
  have HIM4 := Lib.hid (HIM.out _ _ HO4.out.all)
  obtain ⟨⟨y0, y1, y2, y3, y4⟩, -⟩ := box_five HP4.out
  clear hb ho4 hn4 hr4
  -- g0 := impl.NodeAt
  go_wp2_with fail
  generalize hW4 : w4.alloc (.cells (ndCells k8 n8 t8 A8 l8 c8 B8 m8 d8) 30) = W4 at *
  clear hW4
  refine HIM4.out.mono ?_
  rintro e w5 ⟨⟨k9, n9, t9, A9, l9, c9, B9, m9, d9⟩, L5, rfl, ho5, hn5, hr5, hb⟩
  have HA5 := Lib.hid ((Below.refl w5.heap.size w5).alloc (Nat.le_refl _) (.cells (ndCells k9 n9 t9 A9 l9 c9 B9 m9 d9) 30))
  have HB45 := Lib.hid (hb.trans (HA5.out.mono hb.size))
  have HB35 := Lib.hid (HB34.out.trans (HB45.out.mono HB34.out.size))
  have HO5 := Lib.hid (ho5.now HA5.out)
  have HN5 := Lib.hid hn5
  have HR5 : Hid (∀ b ∈ L5, w4.heap.size < b ∧ b < w5.heap.size) := fun b hb => ⟨by have := hr5 b hb; omega, OwT.lt _ _ _ ho5 b hb⟩
  have HP5 := Lib.hid (heap_alloc_new w5 (.cells (ndCells k9 n9 t9 A9 l9 c9 B9 m9 d9) 30))
  have hz5 : w4.heap.size < w5.heap.size := by have := hb.size; omega
  have hs5 : (w5.alloc (.cells (ndCells k9 n9 t9 A9 l9 c9 B9 m9 d9) 30)).heap.size = w5.heap.size + 1 := by simp
  have HO45 := Lib.hid (HO4.out.now HB45.out)
  have HEO := Lib.hid (fun w9 u v (hu : InN w9 (All w9) (o.getD zeroNd) u) (hv : InN w9 (All w9) (o.getD zeroNd) v) => laws_eqNode (o.getD zeroNd) (o.getD zeroNd) u v w9 hu hv HFO.out HFO.out)
  rw [Nd.same_self] at HEO
  have HE5 := Lib.hid (HEO.out _ _ _ HO5.out.all (HI3.out.now HB35.out))
  have hp4 := bx_keep HP4.out HB45.out
  obtain ⟨⟨y0, y1, y2, y3, y4⟩, -⟩ := box_five HP5.out
  obtain ⟨⟨p0, p1, p2, p3, p4⟩, -⟩ := box_five (bx_keep HP3.out HB35.out)
  have HPX5 := Lib.hid hp4
  clear hb ho5 hn5 hr5 hp4 HIM4
  -- eqNode(g0, w0)
  go_wp2_with fail
  generalize hW5 : w5.alloc (.cells (ndCells k9 n9 t9 A9 l9 c9 B9 m9 d9) 30) = W5 at *
  clear hW5
  refine HE5.out.mono ?_
  rintro e w6 ⟨rfl, hb⟩
  have HB36 := Lib.hid (HB35.out.trans (hb.mono HB35.out.size))
  have HO6 := Lib.hid (HO5.out.now hb)
  have HX06 := Lib.hid (HO45.out.now hb)
  have HP6 := Lib.hid (bx_keep HP5.out hb)
  have HPX6 := Lib.hid (bx_keep HPX5.out hb)
  have HX6 := Lib.hid (bx_keep HX3.out HB36.out)
  have hz6x : w4.heap.size < w6.heap.size := by have := hb.size; omega
  have hz6 : w.heap.size < w6.heap.size := by omega
  have HB16 := Lib.hid (HB13.out.trans (HB36.out.mono HB13.out.size))
  have HTA6 := Lib.hid (fun w7 (hb : Below w6.heap.size w6 w7) => (HTA.out w7 (HB16.out.trans (hb.mono HB16.out.size))).mono (fun _ _ h => h.newN))
  have HEA := Lib.hid (fun w7 v (hb : Below w6.heap.size w6 w7) (hv : InN w7 (All w7) a v) => laws_eqNode a a _ v w7 (HX06.out.all.now hb) hv HFA.out HFA.out)
  rw [Nd.same_self] at HEA
  clear hb HE5 y0 y1 y2 y3 y4 p0 p1 p2 p3 p4
  go_wp2_with fail
  refine wp_region_typed 4 (by kernel_rfl) (by kernel_rfl) (fun _ w => Below (World.heap w6).size w6 w) KB (fun i => ([bIs (ndV k8 n8 t8 A8 l8 c8 B8 m8 d8), bIs (ndV k n t An ln cn Ai li ci), bNd a, bIs (.bool true)] : List TyB).getD i bAny) ?hWbB1 ?hkeepB1 ?hstepB1 ?hfinbB1
  case hkeepB1 =>
    refine all_lt_succ (all_lt_succ (all_lt_succ (all_lt_succ all_lt_zero ?_) ?_) ?_) ?_
    · exact keeps_bIs
    · exact keeps_bIs
    · exact keeps_bNd
    · exact keeps_bIs
  case hstepB1 =>
    refine all_lt_succ (all_lt_succ (all_lt_succ (all_lt_succ all_lt_zero ?_) ?_) ?_) ?_
    · (intro o ho m' a w1 hm' hW hb hd K Q hK; obtain rfl := Option.some.inj ho; have e0 : a.tmps[8]?.getD undef = .pointer (some ⟨w4.heap.size, 0, none⟩) := (by rw [hb 8 (by decide +kernel)]; simp); have hbl := (hW.block _ hz6x).trans HPX6.out; obtain ⟨⟨q0, q1, q2, q3, q4⟩, -⟩ := box_five hbl; go_simp; exact hK _ _ hW (kb_refl _) rfl)
    · (intro o ho m' a w1 hm' hW hb hd K Q hK; obtain rfl := Option.some.inj ho; have e0 : a.tmps[2]?.getD undef = .pointer (some ⟨w.heap.size, 0, none⟩) := (by rw [hb 2 (by decide +kernel)]; simp); have hbl := (hW.block _ hz6).trans HX6.out; obtain ⟨⟨q0, q1, q2, q3, q4⟩, -⟩ := box_five hbl; go_simp; exact hK _ _ hW (kb_refl _) rfl)
    · (intro o ho m' a w1 hm' hW hb hd K Q hK; obtain rfl := Option.some.inj ho; have e0 := slotB (hd 1 (by kernel_rfl) 49 rfl); go_simp; refine (HTA6.out _ hW).mono ?_; rintro e w2 ⟨k9, n9, t9, A9, l9, c9, B9, m9, d9, rfl, hin9, hb2⟩; exact hK _ _ (hW.trans (hb2.mono hW.size)) hb2 ⟨k9, n9, t9, A9, l9, c9, B9, m9, d9, rfl, InN.keep (fun _ _ => rfl) (fun b h => h.2) _ _ hin9⟩)
    · (intro o ho m' a w1 hm' hW hb hd K Q hK; obtain rfl := Option.some.inj ho; have e1 := slotB (hd 0 (by kernel_rfl) 48 rfl); obtain ⟨k2, n2, t2, A2, l2, c2, B2, m2, d2, e2, h2⟩ := (hd 2 (by kernel_rfl) 50 rfl); rw [e2] at h2; have e2 := slotB e2; go_simp; refine (HEA.out _ _ hW h2).mono ?_; rintro e w2 ⟨rfl, hb2⟩; exact hK _ _ (hW.trans (hb2.mono hW.size)) hb2 rfl)
  case hWbB1 => exact (Below.refl _ _).drew
  case hfinbB1 =>
    intro vs w7 hW hF
    simp only [putAll, hdst, List.getElem?_cons_succ, List.getElem?_cons_zero, Option.bind, List.drop_succ_cons, List.drop_zero, Act.put]
    have h3 : vs 3 = .bool true := hF 3 (by omega)
    rw [h3]
    have HB37 := Lib.hid (HB36.out.trans (hW.mono HB36.out.size))
    have HO7 := Lib.hid (HO6.out.now hW)
    have HX07 := Lib.hid (HX06.out.now hW)
    have HP7 := Lib.hid (bx_keep HP6.out hW)
    have hz7 : w5.heap.size < w7.heap.size := by have := hW.size; have := lt_of_block HP6.out; omega
    have HM7 := Lib.hid (laws_markNode1 a _ L4 w7 HX07.out HN4.out hA)
    obtain ⟨⟨q0, q1, q2, q3, q4⟩, -⟩ := box_five (bx_keep HPX6.out hW)
    clear hW hF h3 HTA6 HEA HB16 HX6 HPX6 HP6 HX06 HO6
    go_simp
    -- markNode(x0)
    go_wp2_with fail
    refine HM7.out.mono ?_
    rintro e w8 ⟨rfl, _, hc⟩
    have hcb : Below W3.heap.size w7 w8 := hc.below HB37.out.size (fun b hb => (HR4.out b hb).1)
    have HB38 := Lib.hid (HB37.out.trans hcb)
    have HO8 := Lib.hid (HO7.out.chg hc (fun b hb e => by have := HR4.out b hb; have := HR5.out b e; omega))
    have hp8 := (hc.block w5.heap.size hz7 (fun e => by have := HR4.out _ e; omega)).trans HP7.out
    have HP8 := Lib.hid hp8
    have HE8 := Lib.hid (HEO.out _ _ _ HO8.out.all (HI3.out.now HB38.out))
    obtain ⟨⟨y0, y1, y2, y3, y4⟩, -⟩ := box_five hp8
    obtain ⟨⟨p0, p1, p2, p3, p4⟩, -⟩ := box_five (bx_keep HP3.out HB38.out)
    clear hc hcb hp8 HM7 q0 q1 q2 q3 q4 HO7 HX07 HP7
    go_wp2_with fail
    refine HE8.out.mono ?_
    rintro e w9 ⟨rfl, hb⟩
    have HB39 := Lib.hid (HB38.out.trans (hb.mono HB38.out.size))
    have HO9 := Lib.hid (HO8.out.now hb)
    have HP9 := Lib.hid (bx_keep HP8.out hb)
    have HM9 := Lib.hid (laws_markNode1 _ _ L5 w9 HO9.out HN5.out hO)
    obtain ⟨⟨q0, q1, q2, q3, q4⟩, -⟩ := box_five HP9.out
    clear hb HE8 HO8 HP8 y0 y1 y2 y3 y4 p0 p1 p2 p3 p4
    -- markNode(g0)
    go_wp2_with fail
    refine HM9.out.mono ?_
    rintro e w10 ⟨rfl, ho, hc⟩
    have hcb : Below W3.heap.size w9 w10 := hc.below HB39.out.size (fun b hb => by have := (HR5.out b hb).1; omega)
    have HB310 := Lib.hid (HB39.out.trans hcb)
    have HO10 := Lib.hid ho
    have hp10 := (hc.block w5.heap.size (lt_of_block HP9.out) (fun e => by have := HR5.out _ e; omega)).trans HP9.out
    have HP10 := Lib.hid hp10
    have HH10 := Lib.hid (laws_heldNode1 _ _ w10 ho.all hO)
    obtain ⟨⟨y0, y1, y2, y3, y4⟩, -⟩ := box_five hp10
    clear ho hc hcb hp10 HM9 q0 q1 q2 q3 q4 HO9 HP9
    -- heldNode(g0)
    go_wp2_with fail
    refine HH10.out.mono ?_
    rintro e w11 ⟨rfl, hb⟩
    have HB311 := Lib.hid (HB310.out.trans (hb.mono HB310.out.size))
    have HO11 := Lib.hid (HO10.out.now hb)
    have HP11 := Lib.hid (bx_keep HP10.out hb)
    have HB111 := Lib.hid (HB13.out.trans (HB311.out.mono HB13.out.size))
    have HTA11 := Lib.hid (HTA.out w11 HB111.out)
    obtain ⟨⟨q0, q1, q2, q3, q4⟩, -⟩ := box_five (bx_keep HX3.out HB311.out)
    have hqq : ((1 + (Nd.cntT (o.getD zeroNd) : Int)) != (1 + (Nd.cntT (o.getD zeroNd) : Int))) = false := by simp
    clear hb HH10 HO10 HP10 y0 y1 y2 y3 y4
    go_wp2_with fail
    refine HTA11.out.mono ?_
    rintro e w12 ⟨⟨k7, n7, t7, A7, l7, c7, B7, m7, d7⟩, L7, rfl, ho7, _, _, hb⟩
    have HB312 := Lib.hid (HB311.out.trans (hb.mono HB311.out.size))
    have HO12 := Lib.hid (HO11.out.now hb)
    have HP12 := Lib.hid (bx_keep HP11.out hb)
    have HIM12 := Lib.hid (HIM.out w12 _ ho7.all)
    clear hb ho7 HTA11 HO11 HP11 q0 q1 q2 q3 q4
    go_wp2_with fail
    refine HIM12.out.mono ?_
    rintro e w13 ⟨⟨k5, n5, t5, A5, l5, c5, B5, m5, d5⟩, L13, rfl, ho13, _, _, hb⟩
    have HA13 := Lib.hid ((Below.refl w13.heap.size w13).alloc (Nat.le_refl _) (.cells (ndCells k5 n5 t5 A5 l5 c5 B5 m5 d5) 30))
    have HBt := Lib.hid (hb.trans (HA13.out.mono hb.size))
    have HB313 := Lib.hid (HB312.out.trans (HBt.out.mono HB312.out.size))
    have HO13 := Lib.hid (HO12.out.now HBt.out)
    have HP13 := Lib.hid (bx_keep HP12.out HBt.out)
    have HE13 := Lib.hid (HEO.out _ _ _ (ho13.all.now HA13.out) (HI3.out.now HB313.out))
    obtain ⟨⟨y0, y1, y2, y3, y4⟩, -⟩ := box_five (heap_alloc_new w13 (.cells (ndCells k5 n5 t5 A5 l5 c5 B5 m5 d5) 30))
    obtain ⟨⟨p0, p1, p2, p3, p4⟩, -⟩ := box_five (bx_keep HP3.out HB313.out)
    clear hb ho13 HIM12 HO12 HP12
    go_wp2_with fail
    refine HE13.out.mono ?_
    rintro e w14 ⟨rfl, hb⟩
    have HB314 := Lib.hid (HB313.out.trans (hb.mono HB313.out.size))
    have HO14 := Lib.hid (HO13.out.now hb)
    have HH14 := Lib.hid (laws_heldNode1 _ _ w14 HO14.out.all hO)
    obtain ⟨⟨q0, q1, q2, q3, q4⟩, -⟩ := box_five (bx_keep HP13.out hb)
    clear hb HE13 HO13 HP13 y0 y1 y2 y3 y4 p0 p1 p2 p3 p4
    go_wp2_with fail
    refine HH14.out.mono ?_
    rintro e w15 ⟨rfl, hb⟩
    have HB315 := Lib.hid (HB314.out.trans (hb.mono HB314.out.size))
    have HB15 := Lib.hid (HB3.out.trans (HB315.out.mono HB3.out.size))
    clear hb
    go_wp2
    go_ret
    exact ⟨rfl, HB15.out⟩

set_option maxRecDepth 100000 in
theorem fnExactNodeAt_lifted (os : Os) (started : os.Started) (H : Type) (enc : TypeId × Value → H) :
    ReturnsInHanded {} Try.checked os 7 .any (Rows.fnExactNodeAtSpec.pre6 enc Try.prog Try.f7 Rows.fnExactNodeAtRow.domain false)
      (Rows.fnExactNodeAtSpec.post enc Try.prog Try.f7 false true false false) := by
  refine returnsInHanded_of_change (C := Try.checked) Try.own started (by kernel_rfl) Try.func7
    (ChangeSpec.witness6 (enc := enc) (C := Try.checked) false ⟨#[], #[.agg #[.int .i64 0, .int .i64 0, .string ⟨#[]⟩, .slice none 0 0, .slice none 0 0], .string ⟨#[]⟩], []⟩ 8 (by kernel_rfl) (by kernel_rfl) (by kernel_rfl) (by kernel_rfl)) ?_
  intro W base args ds gs before hval0 hW _ _
  have hval : ∀ (j : Nat) t v, Try.f7.params[j]? = some t → args[j]? = some v → Value.okWide Try.prog W .any base t v := hval0
  have hW' := hW
  obtain ⟨p, q, hA0, hV, rfl, _, _⟩ := hW
  have hA : DataW.TrodAll enc Try.prog W 0 (fun _ => true) true Try.f7.params.toList args.toList ds p := hA0
  rw [Try.params7] at hA hval
  obtain ⟨v0, v1, d0, d1, p0, p1, rfl, rfl, rfl, h0, h1⟩ := trodAll_two hA
  obtain ⟨rfl, rfl⟩ := trodVars_none hV
  obtain ⟨a, hu, hfa⟩ := open_node Try.underlying25 (by kernel_rfl) (by kernel_rfl) Try.underlying3 Try.underlying3 Try.underlying9 Try.underlying22 Try.underlying9 (by kernel_rfl) Try.underlying23 (hval 0 _ v0 rfl rfl) h0
  obtain ⟨s0, rfl, rfl, rfl, hnm⟩ := open_string Try.underlying9 (hval 1 _ v1 rfl rfl) h1
  obtain ⟨nm, rfl⟩ := tx_of s0
  refine (exactNodeAt_walk a nm _ W hu hfa hnm).mono fun e W' ⟨he, hw⟩ => ?_
  subst he
  exact ⟨_, rfl, law_post hW' rfl rfl (by kernel_rfl) Try.underlying4 Try.laidOut (of_decide_eq_true (by kernel_rfl)) hw⟩

theorem fnExactNodeAt_holds : Rows.FnExactNodeAtSaid :=
  OpenClaim.holds_of_wide 7 Try.f7 rfl rfl rfl rfl rfl rfl rfl ⟨rfl, rfl, rfl, rfl, rfl⟩ rfl rfl rfl rfl rfl (by kernel_rfl) Try.func7 (by kernel_rfl)
    (of_decide_eq_true (by kernel_rfl)) (by unfold Func.isWrapper; first | (rw [if_pos (by decide +kernel)]; kernel_rfl) | (rw [if_neg (by decide +kernel)]; exact ⟨rfl, rfl⟩))
    (fun os started H enc _ => fnExactNodeAt_lifted os started H enc)

#print axioms fnExactNodeAt_holds
end Go.Proofs.Ytdmmnjnbjigdeaa
