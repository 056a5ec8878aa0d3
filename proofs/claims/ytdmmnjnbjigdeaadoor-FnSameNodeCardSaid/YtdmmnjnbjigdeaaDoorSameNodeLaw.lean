/- For every code: the drawn nodes are equal for the program exactly if they are for the reference, in both directions, each is equal to itself, and valid ones are equal exactly if they are written alike: the card FnSameNodeCardSaid holds. No conditions. -/
import Derived.Test.YtdmmnjnbjigdeaaDoorNodeSt
import Derived.Test.YtdmmnjnbjigdeaaDoorNodeWT
import Derived.Test.YtdmmnjnbjigdeaaDoorNodeLawP
import Derived.Test.YtdmmnjnbjigdeaaDoorLower
import Derived.Test.YtdmmnjnbjigdeaaDoorCardKit
import Derived.Test.YtdmmnjnbjigdeaaDoorTypedG
namespace Go.Proofs.YtdmmnjnbjigdeaaDoor
open Go.RowKit Go.ChangeShapes Go.WideShapes Go.ChangeAt Go.Joins

theorem below_next {a w w' : World} (h : Below a.heap.size a w) (k : Below w.heap.size w w') : Below a.heap.size a w' := h.trans (k.mono h.size)
theorem same_written {a b : Nd} (ha : Nd.valid a = true) (hb : Nd.valid b = true) : (nodeWritten a == nodeWritten b) = Nd.same a b := by
  rw [Bool.eq_iff_iff, Nd.same_iff, beq_iff_eq]
  unfold nodeWritten
  rw [if_pos ha, if_pos hb]
  exact ⟨fun h => wr_inj ha hb h, fun h => by rw [h]⟩
set_option maxRecDepth 100000 in
set_option maxHeartbeats 8000000 in
theorem sameNode_walk (bs : Tx) (A : Option Addr) (c : Nat) (w : World) (hr : Rd w w.heap.size A (bcells bs)) (hc : bs.length ≤ c) (hm : bs.length ≤ maxLen) (henv : Env w) :
    Calls Tryd.prog 3 #[.slice A bs.length c] w fun e w' => e = .returned (.bool true) ∧ Below w.heap.size w w' := by
  unfold maxLen at hm
  by_cases h : 1048576 < bs.length
  · go_enter Tryd.func3, Tryd.ntmps3
    go_wp2
    go_ret
    exact ⟨rfl, Below.refl _ _⟩
  have HD := Lib.hid (spec_DrawSameNode bs A c w hr hc (by omega))
  have HENV := Lib.hid henv
  clear hr henv
  go_enter Tryd.func3, Tryd.ntmps3
  go_wp2_with fail
  refine HD.out.mono ?_
  rintro e wp ⟨a, k, n, t, An, ln, cn, Ai, li, ci, b, k', n', t', An', ln', cn', Ai', li', ci', rfl, hin1, hin2, hs1, hs2, hb1⟩
  obtain ⟨hA0, hX0, hY0⟩ := two_boxes wp (ndCells k n t An ln cn Ai li ci) (ndCells k' n' t' An' ln' cn' Ai' li' ci') 26 26
  have hz0 : ((wp.alloc (.cells (ndCells k n t An ln cn Ai li ci) 26)).alloc (.cells (ndCells k' n' t' An' ln' cn' Ai' li' ci') 26)).heap.size = wp.heap.size + 2 := by simp
  have HX0 := Lib.hid hX0
  have HY0 := Lib.hid hY0
  have HU0 := Lib.hid (hin1.all.now hA0)
  have HV0 := Lib.hid (hin2.all.now hA0)
  have HB0 := Lib.hid (hb1.trans (hA0.mono hb1.size))
  have hsa : Nd.size a ≤ 1048576 := by omega
  have hsb : Nd.size b ≤ 1048576 := by omega
  have hfa := Nd.fit_size a hsa
  have hfb := Nd.fit_size b hsb
  have HAB := Lib.hid (fun w3 (hb : Below _ _ w3) => impl_SameNode a b _ _ w3 (HU0.out.now hb) (HV0.out.now hb) hfa hfb)
  have HBA := Lib.hid (fun w3 (hb : Below _ _ w3) => impl_SameNode b a _ _ w3 (HV0.out.now hb) (HU0.out.now hb) hfb hfa)
  have HAA := Lib.hid (fun w3 (hb : Below _ _ w3) => impl_SameNode a a _ _ w3 (HU0.out.now hb) (HU0.out.now hb) hfa hfa)
  have HSP := Lib.hid (fun w3 (hb : Below _ _ w3) => spec_SameNode a b _ _ w3 (HU0.out.now hb) (HV0.out.now hb) hfa hfb)
  have HVA := Lib.hid (fun w3 (hb : Below _ _ w3) => impl_NodeValid a _ w3 (HU0.out.now hb) hsa)
  have HVB := Lib.hid (fun w3 (hb : Below _ _ w3) => impl_NodeValid b _ w3 (HV0.out.now hb) hsb)
  have HWA := Lib.hid (fun w3 (hb : Below _ _ w3) => impl_NodeWritten a _ w3 (HU0.out.now hb) hsa ((HENV.out.below HB0.out).below hb))
  have HWB := Lib.hid (fun w3 (hb : Below _ _ w3) => impl_NodeWritten b _ w3 (HV0.out.now hb) hsb ((HENV.out.below HB0.out).below hb))
  rw [Nd.same_self] at HAA
  rw [Nd.same_comm b a] at HBA
  have HSW := Lib.hid (fun h1 h2 => same_written (a := a) (b := b) h1 h2)
  generalize Nd.same a b = s at *
  generalize nodeWritten a = ta at *
  generalize nodeWritten b = tb at *
  generalize Nd.valid a = ra at *
  generalize Nd.valid b = rb at *
  have hss : (s != s) = false := by simp
  clear hin1 hin2 hs1 hs2 hb1 hA0 hX0 hY0 hfa hfb HD
  have HAB0 := Lib.hid (HAB.out _ (Below.refl _ _))
  go_wp2_with fail
  generalize (wp.alloc (.cells (ndCells k n t An ln cn Ai li ci) 26)).alloc (.cells (ndCells k' n' t' An' ln' cn' Ai' li' ci') 26) = w0 at *
  refine HAB0.out.mono ?_
  rintro e w2 ⟨rfl, hb⟩
  have HC2 := Lib.hid hb
  obtain ⟨⟨f0, f1, f2, f3, f4⟩, -⟩ := box_five (bx_keep HX0.out hb)
  obtain ⟨⟨g0, g1, g2, g3, g4⟩, -⟩ := box_five (bx_keep HY0.out hb)
  clear hb HAB0
  go_wp2_with fail
  refine (HSP.out w2 HC2.out).mono ?_
  rintro e w3 ⟨rfl, hb⟩
  have HC3 := Lib.hid (below_next HC2.out hb)
  obtain ⟨⟨p0, p1, p2, p3, p4⟩, -⟩ := box_five (bx_keep HX0.out HC3.out)
  obtain ⟨⟨q0, q1, q2, q3, q4⟩, -⟩ := box_five (bx_keep HY0.out HC3.out)
  clear hb f0 f1 f2 f3 f4 g0 g1 g2 g3 g4
  go_wp2_with fail
  refine (HBA.out w3 HC3.out).mono ?_
  rintro e w4 ⟨rfl, hb⟩
  have HC4 := Lib.hid (below_next HC3.out hb)
  have HB4 := Lib.hid (HB0.out.trans (HC4.out.mono HB0.out.size))
  have HX4 := Lib.hid (bx_keep HX0.out HC4.out)
  have HY4 := Lib.hid (bx_keep HY0.out HC4.out)
  have hz4 : wp.heap.size < w4.heap.size := by have := HC4.out.size; omega
  have hy4 : wp.heap.size + 1 < w4.heap.size := by have := HC4.out.size; omega
  have HAA4 := Lib.hid (fun w5 (hb : Below w4.heap.size w4 w5) => HAA.out w5 (below_next HC4.out hb))
  have HVA4 := Lib.hid (fun w5 (hb : Below w4.heap.size w4 w5) => HVA.out w5 (below_next HC4.out hb))
  have HVB4 := Lib.hid (fun w5 (hb : Below w4.heap.size w4 w5) => HVB.out w5 (below_next HC4.out hb))
  have HWA4 := Lib.hid (fun w5 (hb : Below w4.heap.size w4 w5) => HWA.out w5 (below_next HC4.out hb))
  have HWB4 := Lib.hid (fun w5 (hb : Below w4.heap.size w4 w5) => HWB.out w5 (below_next HC4.out hb))
  have HAL4 := Lib.hid (fun w5 (_ : Below w4.heap.size w4 w5) => laws_alive w5)
  clear hb p0 p1 p2 p3 p4 q0 q1 q2 q3 q4 HAB HBA HSP HAA HVA HVB HWA HWB
  cases ra
  · go_wp2_with fail
    refine wp_region_typedG 25 (fun j => ([none, none, some true, some true, none, some false, some true, some true, none, none, none, some true, some true, none, none, none, none, none, none, none, some true, some true, some true, some true, some true] : List (Option Bool)).getD j none) (fun j => ([true, true, true, true, true, true, true, true, false, false, false, true, true, false, false, false, false, false, false, false, true, true, true, true, true] : List Bool).getD j true) (by kernel_rfl) (by kernel_rfl) (fun _ w => Below (World.heap w4).size w4 w) KB (fun i => ([bIs (ndV k n t An ln cn Ai li ci), bIs (ndV k n t An ln cn Ai li ci), bIs (.bool true), bIs (.bool true), bIs (ndV k n t An ln cn Ai li ci), bIs (.bool false), bIs (.bool true), bIs (.bool true), bIs undef, bIs undef, bIs undef, bIs (.bool true), bIs (.bool true), bIs undef, bIs undef, bIs undef, bIs undef, bIs undef, bIs undef, bIs undef, bIs (.bool true), bIs (.bool true), bIs (.bool true), bIs (.bool true), bIs (.bool true)] : List TyB).getD i bAny) ?hgvG1 ?hskipG1 (fun _ _ h => h) (fun w => kb_refl w) ?hWgG1 ?hkeepG1 ?hstepG1 ?hfingG1
    case hgvG1 =>
      refine all_lt_succ (all_lt_succ (all_lt_succ (all_lt_succ (all_lt_succ (all_lt_succ (all_lt_succ (all_lt_succ (all_lt_succ (all_lt_succ (all_lt_succ (all_lt_succ (all_lt_succ (all_lt_succ (all_lt_succ (all_lt_succ (all_lt_succ (all_lt_succ (all_lt_succ (all_lt_succ (all_lt_succ (all_lt_succ (all_lt_succ (all_lt_succ (all_lt_succ all_lt_zero ?_) ?_) ?_) ?_) ?_) ?_) ?_) ?_) ?_) ?_) ?_) ?_) ?_) ?_) ?_) ?_) ?_) ?_) ?_) ?_) ?_) ?_) ?_) ?_) ?_
      · exact fun _ h => by simp at h
      · exact fun _ h => by simp at h
      · exact fun x h _ _ e => by simp at h; subst h; exact e
      · exact fun x h _ _ e => by simp at h; subst h; exact e
      · exact fun _ h => by simp at h
      · exact fun x h _ _ e => by simp at h; subst h; exact e
      · exact fun x h _ _ e => by simp at h; subst h; exact e
      · exact fun x h _ _ e => by simp at h; subst h; exact e
      · exact fun _ h => by simp at h
      · exact fun _ h => by simp at h
      · exact fun _ h => by simp at h
      · exact fun x h _ _ e => by simp at h; subst h; exact e
      · exact fun x h _ _ e => by simp at h; subst h; exact e
      · exact fun _ h => by simp at h
      · exact fun _ h => by simp at h
      · exact fun _ h => by simp at h
      · exact fun _ h => by simp at h
      · exact fun _ h => by simp at h
      · exact fun _ h => by simp at h
      · exact fun _ h => by simp at h
      · exact fun x h _ _ e => by simp at h; subst h; exact e
      · exact fun x h _ _ e => by simp at h; subst h; exact e
      · exact fun x h _ _ e => by simp at h; subst h; exact e
      · exact fun x h _ _ e => by simp at h; subst h; exact e
      · exact fun x h _ _ e => by simp at h; subst h; exact e
    case hskipG1 =>
      refine all_lt_succ (all_lt_succ (all_lt_succ (all_lt_succ (all_lt_succ (all_lt_succ (all_lt_succ (all_lt_succ (all_lt_succ (all_lt_succ (all_lt_succ (all_lt_succ (all_lt_succ (all_lt_succ (all_lt_succ (all_lt_succ (all_lt_succ (all_lt_succ (all_lt_succ (all_lt_succ (all_lt_succ (all_lt_succ (all_lt_succ (all_lt_succ (all_lt_succ all_lt_zero ?_) ?_) ?_) ?_) ?_) ?_) ?_) ?_) ?_) ?_) ?_) ?_) ?_) ?_) ?_) ?_) ?_) ?_) ?_) ?_) ?_) ?_) ?_) ?_) ?_
      · exact fun h => by simp at h
      · exact fun h => by simp at h
      · exact fun h => by simp at h
      · exact fun h => by simp at h
      · exact fun h => by simp at h
      · exact fun h => by simp at h
      · exact fun h => by simp at h
      · exact fun h => by simp at h
      · exact fun _ _ => rfl
      · exact fun _ _ => rfl
      · exact fun _ _ => rfl
      · exact fun h => by simp at h
      · exact fun h => by simp at h
      · exact fun _ _ => rfl
      · exact fun _ _ => rfl
      · exact fun _ _ => rfl
      · exact fun _ _ => rfl
      · exact fun _ _ => rfl
      · exact fun _ _ => rfl
      · exact fun _ _ => rfl
      · exact fun h => by simp at h
      · exact fun h => by simp at h
      · exact fun h => by simp at h
      · exact fun h => by simp at h
      · exact fun h => by simp at h
    case hkeepG1 =>
      refine all_lt_succ (all_lt_succ (all_lt_succ (all_lt_succ (all_lt_succ (all_lt_succ (all_lt_succ (all_lt_succ (all_lt_succ (all_lt_succ (all_lt_succ (all_lt_succ (all_lt_succ (all_lt_succ (all_lt_succ (all_lt_succ (all_lt_succ (all_lt_succ (all_lt_succ (all_lt_succ (all_lt_succ (all_lt_succ (all_lt_succ (all_lt_succ (all_lt_succ all_lt_zero ?_) ?_) ?_) ?_) ?_) ?_) ?_) ?_) ?_) ?_) ?_) ?_) ?_) ?_) ?_) ?_) ?_) ?_) ?_) ?_) ?_) ?_) ?_) ?_) ?_
      · exact keeps_bIs
      · exact keeps_bIs
      · exact keeps_bIs
      · exact keeps_bIs
      · exact keeps_bIs
      · exact keeps_bIs
      · exact keeps_bIs
      · exact keeps_bIs
      · exact keeps_bIs
      · exact keeps_bIs
      · exact keeps_bIs
      · exact keeps_bIs
      · exact keeps_bIs
      · exact keeps_bIs
      · exact keeps_bIs
      · exact keeps_bIs
      · exact keeps_bIs
      · exact keeps_bIs
      · exact keeps_bIs
      · exact keeps_bIs
      · exact keeps_bIs
      · exact keeps_bIs
      · exact keeps_bIs
      · exact keeps_bIs
      · exact keeps_bIs
    case hstepG1 =>
      refine all_lt_succ_w (all_lt_succ_w (all_lt_succ_w (all_lt_succ_w (all_lt_succ_w (all_lt_succ_w (all_lt_succ_w (all_lt_succ_w (all_lt_succ_w (all_lt_succ_w (all_lt_succ_w (all_lt_succ_w (all_lt_succ_w (all_lt_succ_w (all_lt_succ_w (all_lt_succ_w (all_lt_succ_w (all_lt_succ_w (all_lt_succ_w (all_lt_succ_w (all_lt_succ_w (all_lt_succ_w (all_lt_succ_w (all_lt_succ_w (all_lt_succ_w all_lt_zero_w ?_) ?_) ?_) ?_) ?_) ?_) ?_) ?_) ?_) ?_) ?_) ?_) ?_) ?_) ?_) ?_) ?_) ?_) ?_) ?_) ?_) ?_) ?_) ?_) ?_
      · intro hwt; clear hwt; (intro o ho m' a w1 hm' hW hb hd K Q hK; obtain rfl := Option.some.inj ho; have e0 : a.tmps[3]?.getD undef = .pointer (some ⟨wp.heap.size, 0, none⟩) := (by rw [hb 3 (by decide +kernel)]; simp); have hbl := (hW.block _ hz4).trans HX4.out; obtain ⟨⟨q0, q1, q2, q3, q4⟩, -⟩ := box_five hbl; go_simp; exact hK _ _ hW (kb_refl _) rfl)
      · intro hwt; clear hwt; (intro o ho m' a w1 hm' hW hb hd K Q hK; obtain rfl := Option.some.inj ho; have e0 : a.tmps[3]?.getD undef = .pointer (some ⟨wp.heap.size, 0, none⟩) := (by rw [hb 3 (by decide +kernel)]; simp); have hbl := (hW.block _ hz4).trans HX4.out; obtain ⟨⟨q0, q1, q2, q3, q4⟩, -⟩ := box_five hbl; go_simp; exact hK _ _ hW (kb_refl _) rfl)
      · intro hwt; clear hwt; (intro o ho m' a w1 hm' hW hb hd K Q hK; obtain rfl := Option.some.inj ho; have e0 := slotB (hd 0 (by kernel_rfl) 29 rfl); have e1 := slotB (hd 1 (by kernel_rfl) 30 rfl); go_simp; refine (HAA4.out _ hW).mono ?_; rintro e w2 ⟨rfl, hb2⟩; exact hK _ _ (hW.trans (hb2.mono hW.size)) hb2 rfl)
      · intro hwt; clear hwt; (intro o ho m' a w1 hm' hW hb hd K Q hK; obtain rfl := Option.some.inj ho; have e0 := slotB (hd 2 (by kernel_rfl) 31 rfl); go_simp; exact hK _ _ hW (kb_refl _) rfl)
      · intro hwt; clear hwt; (intro o ho m' a w1 hm' hW hb hd K Q hK; obtain rfl := Option.some.inj ho; have e0 : a.tmps[3]?.getD undef = .pointer (some ⟨wp.heap.size, 0, none⟩) := (by rw [hb 3 (by decide +kernel)]; simp); have hbl := (hW.block _ hz4).trans HX4.out; obtain ⟨⟨q0, q1, q2, q3, q4⟩, -⟩ := box_five hbl; go_simp; exact hK _ _ hW (kb_refl _) rfl)
      · intro hwt; clear hwt; (intro o ho m' a w1 hm' hW hb hd K Q hK; obtain rfl := Option.some.inj ho; have e0 := slotB (hd 4 (by kernel_rfl) 33 rfl); go_simp; refine (HVA4.out _ hW).mono ?_; rintro e w2 ⟨rfl, hb2⟩; exact hK _ _ (hW.trans (hb2.mono hW.size)) hb2 rfl)
      · intro hwt; clear hwt; (intro o ho m' a w1 hm' hW hb hd K Q hK; obtain rfl := Option.some.inj ho; have e0 := slotB (hd 5 (by kernel_rfl) 34 rfl); go_simp; exact hK _ _ hW (kb_refl _) rfl)
      · intro hwt; clear hwt; (intro o ho m' a w1 hm' hW hb hd K Q hK; obtain rfl := Option.some.inj ho; have e0 := slotB (hd 6 (by kernel_rfl) 35 rfl); go_simp; exact hK _ _ hW (kb_refl _) rfl)
      · intro hwt; simp at hwt
      · intro hwt; simp at hwt
      · intro hwt; simp at hwt
      · intro hwt; clear hwt; (intro o ho m' a w1 hm' hW hb hd K Q hK; obtain rfl := Option.some.inj ho; have e0 := slotB (hd 7 (by kernel_rfl) 36 rfl); go_simp; exact hK _ _ hW (kb_refl _) rfl)
      · intro hwt; clear hwt; (intro o ho m' a w1 hm' hW hb hd K Q hK; obtain rfl := Option.some.inj ho; have e0 := slotB (hd 11 (by kernel_rfl) 40 rfl); go_simp; exact hK _ _ hW (kb_refl _) rfl)
      · intro hwt; simp at hwt
      · intro hwt; simp at hwt
      · intro hwt; simp at hwt
      · intro hwt; simp at hwt
      · intro hwt; simp at hwt
      · intro hwt; simp at hwt
      · intro hwt; simp at hwt
      · intro hwt; clear hwt; (intro o ho m' a w1 hm' hW hb hd K Q hK; obtain rfl := Option.some.inj ho; have e0 := slotB (hd 12 (by kernel_rfl) 41 rfl); go_simp; exact hK _ _ hW (kb_refl _) rfl)
      · intro hwt; clear hwt; (intro o ho m' a w1 hm' hW hb hd K Q hK; obtain rfl := Option.some.inj ho; have e0 := slotB (hd 3 (by kernel_rfl) 32 rfl); have e1 := slotB (hd 20 (by kernel_rfl) 49 rfl); go_simp; exact hK _ _ hW (kb_refl _) rfl)
      · intro hwt; clear hwt; (intro o ho m' a w1 hm' hW hb hd K Q hK; obtain rfl := Option.some.inj ho; have e0 := slotB (hd 21 (by kernel_rfl) 50 rfl); go_simp; exact hK _ _ hW (kb_refl _) rfl)
      · intro hwt; clear hwt; (intro o ho m' a w1 hm' hW hb hd K Q hK; obtain rfl := Option.some.inj ho; go_simp; refine (HAL4.out _ hW).mono ?_; rintro e w2 ⟨rfl, hb2⟩; exact hK _ _ (hW.trans (hb2.mono hW.size)) hb2 rfl)
      · intro hwt; clear hwt; (intro o ho m' a w1 hm' hW hb hd K Q hK; obtain rfl := Option.some.inj ho; have e0 := slotB (hd 22 (by kernel_rfl) 51 rfl); have e1 := slotB (hd 23 (by kernel_rfl) 52 rfl); go_simp; exact hK _ _ hW (kb_refl _) rfl)
    case hWgG1 => exact (Below.refl _ _).drew
    case hfingG1 =>
      intro vs w9 hW hF
      have h24 : vs 24 = .bool true := hF 24 (by omega)
      have HB9 := Lib.hid (HB4.out.trans (hW.mono HB4.out.size))
      clear hW hF
      simp only [putAll, hdst, List.getElem?_cons_succ, List.getElem?_cons_zero, Option.bind, List.drop_succ_cons, List.drop_zero, Act.put]
      rw [h24]
      clear h24
      go_simp
      go_wp2
      go_ret
      exact ⟨rfl, HB9.out⟩
  cases rb
  · go_wp2_with fail
    refine wp_region_typedG 25 (fun j => ([none, none, some true, some true, none, some true, some false, some false, none, some false, some true, some true, some true, none, none, none, none, none, none, none, some true, some true, some true, some true, some true] : List (Option Bool)).getD j none) (fun j => ([true, true, true, true, true, true, true, true, true, true, true, true, true, false, false, false, false, false, false, false, true, true, true, true, true] : List Bool).getD j true) (by kernel_rfl) (by kernel_rfl) (fun _ w => Below (World.heap w4).size w4 w) KB (fun i => ([bIs (ndV k n t An ln cn Ai li ci), bIs (ndV k n t An ln cn Ai li ci), bIs (.bool true), bIs (.bool true), bIs (ndV k n t An ln cn Ai li ci), bIs (.bool true), bIs (.bool false), bIs (.bool false), bIs (ndV k' n' t' An' ln' cn' Ai' li' ci'), bIs (.bool false), bIs (.bool true), bIs (.bool true), bIs (.bool true), bIs undef, bIs undef, bIs undef, bIs undef, bIs undef, bIs undef, bIs undef, bIs (.bool true), bIs (.bool true), bIs (.bool true), bIs (.bool true), bIs (.bool true)] : List TyB).getD i bAny) ?hgvG2 ?hskipG2 (fun _ _ h => h) (fun w => kb_refl w) ?hWgG2 ?hkeepG2 ?hstepG2 ?hfingG2
    case hgvG2 =>
      refine all_lt_succ (all_lt_succ (all_lt_succ (all_lt_succ (all_lt_succ (all_lt_succ (all_lt_succ (all_lt_succ (all_lt_succ (all_lt_succ (all_lt_succ (all_lt_succ (all_lt_succ (all_lt_succ (all_lt_succ (all_lt_succ (all_lt_succ (all_lt_succ (all_lt_succ (all_lt_succ (all_lt_succ (all_lt_succ (all_lt_succ (all_lt_succ (all_lt_succ all_lt_zero ?_) ?_) ?_) ?_) ?_) ?_) ?_) ?_) ?_) ?_) ?_) ?_) ?_) ?_) ?_) ?_) ?_) ?_) ?_) ?_) ?_) ?_) ?_) ?_) ?_
      · exact fun _ h => by simp at h
      · exact fun _ h => by simp at h
      · exact fun x h _ _ e => by simp at h; subst h; exact e
      · exact fun x h _ _ e => by simp at h; subst h; exact e
      · exact fun _ h => by simp at h
      · exact fun x h _ _ e => by simp at h; subst h; exact e
      · exact fun x h _ _ e => by simp at h; subst h; exact e
      · exact fun x h _ _ e => by simp at h; subst h; exact e
      · exact fun _ h => by simp at h
      · exact fun x h _ _ e => by simp at h; subst h; exact e
      · exact fun x h _ _ e => by simp at h; subst h; exact e
      · exact fun x h _ _ e => by simp at h; subst h; exact e
      · exact fun x h _ _ e => by simp at h; subst h; exact e
      · exact fun _ h => by simp at h
      · exact fun _ h => by simp at h
      · exact fun _ h => by simp at h
      · exact fun _ h => by simp at h
      · exact fun _ h => by simp at h
      · exact fun _ h => by simp at h
      · exact fun _ h => by simp at h
      · exact fun x h _ _ e => by simp at h; subst h; exact e
      · exact fun x h _ _ e => by simp at h; subst h; exact e
      · exact fun x h _ _ e => by simp at h; subst h; exact e
      · exact fun x h _ _ e => by simp at h; subst h; exact e
      · exact fun x h _ _ e => by simp at h; subst h; exact e
    case hskipG2 =>
      refine all_lt_succ (all_lt_succ (all_lt_succ (all_lt_succ (all_lt_succ (all_lt_succ (all_lt_succ (all_lt_succ (all_lt_succ (all_lt_succ (all_lt_succ (all_lt_succ (all_lt_succ (all_lt_succ (all_lt_succ (all_lt_succ (all_lt_succ (all_lt_succ (all_lt_succ (all_lt_succ (all_lt_succ (all_lt_succ (all_lt_succ (all_lt_succ (all_lt_succ all_lt_zero ?_) ?_) ?_) ?_) ?_) ?_) ?_) ?_) ?_) ?_) ?_) ?_) ?_) ?_) ?_) ?_) ?_) ?_) ?_) ?_) ?_) ?_) ?_) ?_) ?_
      · exact fun h => by simp at h
      · exact fun h => by simp at h
      · exact fun h => by simp at h
      · exact fun h => by simp at h
      · exact fun h => by simp at h
      · exact fun h => by simp at h
      · exact fun h => by simp at h
      · exact fun h => by simp at h
      · exact fun h => by simp at h
      · exact fun h => by simp at h
      · exact fun h => by simp at h
      · exact fun h => by simp at h
      · exact fun h => by simp at h
      · exact fun _ _ => rfl
      · exact fun _ _ => rfl
      · exact fun _ _ => rfl
      · exact fun _ _ => rfl
      · exact fun _ _ => rfl
      · exact fun _ _ => rfl
      · exact fun _ _ => rfl
      · exact fun h => by simp at h
      · exact fun h => by simp at h
      · exact fun h => by simp at h
      · exact fun h => by simp at h
      · exact fun h => by simp at h
    case hkeepG2 =>
      refine all_lt_succ (all_lt_succ (all_lt_succ (all_lt_succ (all_lt_succ (all_lt_succ (all_lt_succ (all_lt_succ (all_lt_succ (all_lt_succ (all_lt_succ (all_lt_succ (all_lt_succ (all_lt_succ (all_lt_succ (all_lt_succ (all_lt_succ (all_lt_succ (all_lt_succ (all_lt_succ (all_lt_succ (all_lt_succ (all_lt_succ (all_lt_succ (all_lt_succ all_lt_zero ?_) ?_) ?_) ?_) ?_) ?_) ?_) ?_) ?_) ?_) ?_) ?_) ?_) ?_) ?_) ?_) ?_) ?_) ?_) ?_) ?_) ?_) ?_) ?_) ?_
      · exact keeps_bIs
      · exact keeps_bIs
      · exact keeps_bIs
      · exact keeps_bIs
      · exact keeps_bIs
      · exact keeps_bIs
      · exact keeps_bIs
      · exact keeps_bIs
      · exact keeps_bIs
      · exact keeps_bIs
      · exact keeps_bIs
      · exact keeps_bIs
      · exact keeps_bIs
      · exact keeps_bIs
      · exact keeps_bIs
      · exact keeps_bIs
      · exact keeps_bIs
      · exact keeps_bIs
      · exact keeps_bIs
      · exact keeps_bIs
      · exact keeps_bIs
      · exact keeps_bIs
      · exact keeps_bIs
      · exact keeps_bIs
      · exact keeps_bIs
    case hstepG2 =>
      refine all_lt_succ_w (all_lt_succ_w (all_lt_succ_w (all_lt_succ_w (all_lt_succ_w (all_lt_succ_w (all_lt_succ_w (all_lt_succ_w (all_lt_succ_w (all_lt_succ_w (all_lt_succ_w (all_lt_succ_w (all_lt_succ_w (all_lt_succ_w (all_lt_succ_w (all_lt_succ_w (all_lt_succ_w (all_lt_succ_w (all_lt_succ_w (all_lt_succ_w (all_lt_succ_w (all_lt_succ_w (all_lt_succ_w (all_lt_succ_w (all_lt_succ_w all_lt_zero_w ?_) ?_) ?_) ?_) ?_) ?_) ?_) ?_) ?_) ?_) ?_) ?_) ?_) ?_) ?_) ?_) ?_) ?_) ?_) ?_) ?_) ?_) ?_) ?_) ?_
      · intro hwt; clear hwt; (intro o ho m' a w1 hm' hW hb hd K Q hK; obtain rfl := Option.some.inj ho; have e0 : a.tmps[3]?.getD undef = .pointer (some ⟨wp.heap.size, 0, none⟩) := (by rw [hb 3 (by decide +kernel)]; simp); have hbl := (hW.block _ hz4).trans HX4.out; obtain ⟨⟨q0, q1, q2, q3, q4⟩, -⟩ := box_five hbl; go_simp; exact hK _ _ hW (kb_refl _) rfl)
      · intro hwt; clear hwt; (intro o ho m' a w1 hm' hW hb hd K Q hK; obtain rfl := Option.some.inj ho; have e0 : a.tmps[3]?.getD undef = .pointer (some ⟨wp.heap.size, 0, none⟩) := (by rw [hb 3 (by decide +kernel)]; simp); have hbl := (hW.block _ hz4).trans HX4.out; obtain ⟨⟨q0, q1, q2, q3, q4⟩, -⟩ := box_five hbl; go_simp; exact hK _ _ hW (kb_refl _) rfl)
      · intro hwt; clear hwt; (intro o ho m' a w1 hm' hW hb hd K Q hK; obtain rfl := Option.some.inj ho; have e0 := slotB (hd 0 (by kernel_rfl) 29 rfl); have e1 := slotB (hd 1 (by kernel_rfl) 30 rfl); go_simp; refine (HAA4.out _ hW).mono ?_; rintro e w2 ⟨rfl, hb2⟩; exact hK _ _ (hW.trans (hb2.mono hW.size)) hb2 rfl)
      · intro hwt; clear hwt; (intro o ho m' a w1 hm' hW hb hd K Q hK; obtain rfl := Option.some.inj ho; have e0 := slotB (hd 2 (by kernel_rfl) 31 rfl); go_simp; exact hK _ _ hW (kb_refl _) rfl)
      · intro hwt; clear hwt; (intro o ho m' a w1 hm' hW hb hd K Q hK; obtain rfl := Option.some.inj ho; have e0 : a.tmps[3]?.getD undef = .pointer (some ⟨wp.heap.size, 0, none⟩) := (by rw [hb 3 (by decide +kernel)]; simp); have hbl := (hW.block _ hz4).trans HX4.out; obtain ⟨⟨q0, q1, q2, q3, q4⟩, -⟩ := box_five hbl; go_simp; exact hK _ _ hW (kb_refl _) rfl)
      · intro hwt; clear hwt; (intro o ho m' a w1 hm' hW hb hd K Q hK; obtain rfl := Option.some.inj ho; have e0 := slotB (hd 4 (by kernel_rfl) 33 rfl); go_simp; refine (HVA4.out _ hW).mono ?_; rintro e w2 ⟨rfl, hb2⟩; exact hK _ _ (hW.trans (hb2.mono hW.size)) hb2 rfl)
      · intro hwt; clear hwt; (intro o ho m' a w1 hm' hW hb hd K Q hK; obtain rfl := Option.some.inj ho; have e0 := slotB (hd 5 (by kernel_rfl) 34 rfl); go_simp; exact hK _ _ hW (kb_refl _) rfl)
      · intro hwt; clear hwt; (intro o ho m' a w1 hm' hW hb hd K Q hK; obtain rfl := Option.some.inj ho; have e0 := slotB (hd 6 (by kernel_rfl) 35 rfl); go_simp; exact hK _ _ hW (kb_refl _) rfl)
      · intro hwt; clear hwt; (intro o ho m' a w1 hm' hW hb hd K Q hK; obtain rfl := Option.some.inj ho; have e0 : a.tmps[4]?.getD undef = .pointer (some ⟨wp.heap.size + 1, 0, none⟩) := (by rw [hb 4 (by decide +kernel)]; simp); have hbl := (hW.block _ hy4).trans HY4.out; obtain ⟨⟨q0, q1, q2, q3, q4⟩, -⟩ := box_five hbl; go_simp; exact hK _ _ hW (kb_refl _) rfl)
      · intro hwt; clear hwt; (intro o ho m' a w1 hm' hW hb hd K Q hK; obtain rfl := Option.some.inj ho; have e0 := slotB (hd 8 (by kernel_rfl) 37 rfl); go_simp; refine (HVB4.out _ hW).mono ?_; rintro e w2 ⟨rfl, hb2⟩; exact hK _ _ (hW.trans (hb2.mono hW.size)) hb2 rfl)
      · intro hwt; clear hwt; (intro o ho m' a w1 hm' hW hb hd K Q hK; obtain rfl := Option.some.inj ho; have e0 := slotB (hd 9 (by kernel_rfl) 38 rfl); go_simp; exact hK _ _ hW (kb_refl _) rfl)
      · intro hwt; clear hwt; (intro o ho m' a w1 hm' hW hb hd K Q hK; obtain rfl := Option.some.inj ho; have e0 := slotB (hd 7 (by kernel_rfl) 36 rfl); have e1 := slotB (hd 10 (by kernel_rfl) 39 rfl); go_simp; exact hK _ _ hW (kb_refl _) rfl)
      · intro hwt; clear hwt; (intro o ho m' a w1 hm' hW hb hd K Q hK; obtain rfl := Option.some.inj ho; have e0 := slotB (hd 11 (by kernel_rfl) 40 rfl); go_simp; exact hK _ _ hW (kb_refl _) rfl)
      · intro hwt; simp at hwt
      · intro hwt; simp at hwt
      · intro hwt; simp at hwt
      · intro hwt; simp at hwt
      · intro hwt; simp at hwt
      · intro hwt; simp at hwt
      · intro hwt; simp at hwt
      · intro hwt; clear hwt; (intro o ho m' a w1 hm' hW hb hd K Q hK; obtain rfl := Option.some.inj ho; have e0 := slotB (hd 12 (by kernel_rfl) 41 rfl); go_simp; exact hK _ _ hW (kb_refl _) rfl)
      · intro hwt; clear hwt; (intro o ho m' a w1 hm' hW hb hd K Q hK; obtain rfl := Option.some.inj ho; have e0 := slotB (hd 3 (by kernel_rfl) 32 rfl); have e1 := slotB (hd 20 (by kernel_rfl) 49 rfl); go_simp; exact hK _ _ hW (kb_refl _) rfl)
      · intro hwt; clear hwt; (intro o ho m' a w1 hm' hW hb hd K Q hK; obtain rfl := Option.some.inj ho; have e0 := slotB (hd 21 (by kernel_rfl) 50 rfl); go_simp; exact hK _ _ hW (kb_refl _) rfl)
      · intro hwt; clear hwt; (intro o ho m' a w1 hm' hW hb hd K Q hK; obtain rfl := Option.some.inj ho; go_simp; refine (HAL4.out _ hW).mono ?_; rintro e w2 ⟨rfl, hb2⟩; exact hK _ _ (hW.trans (hb2.mono hW.size)) hb2 rfl)
      · intro hwt; clear hwt; (intro o ho m' a w1 hm' hW hb hd K Q hK; obtain rfl := Option.some.inj ho; have e0 := slotB (hd 22 (by kernel_rfl) 51 rfl); have e1 := slotB (hd 23 (by kernel_rfl) 52 rfl); go_simp; exact hK _ _ hW (kb_refl _) rfl)
    case hWgG2 => exact (Below.refl _ _).drew
    case hfingG2 =>
      intro vs w9 hW hF
      have h24 : vs 24 = .bool true := hF 24 (by omega)
      have HB9 := Lib.hid (HB4.out.trans (hW.mono HB4.out.size))
      clear hW hF
      simp only [putAll, hdst, List.getElem?_cons_succ, List.getElem?_cons_zero, Option.bind, List.drop_succ_cons, List.drop_zero, Act.put]
      rw [h24]
      clear h24
      go_simp
      go_wp2
      go_ret
      exact ⟨rfl, HB9.out⟩
  · have hsw := HSW.out rfl rfl
    go_wp2_with fail
    refine wp_region_typedG 25 (fun j => ([none, none, some true, some true, none, some true, some false, some false, none, some true, some false, some false, some false, none, none, none, none, none, none, some true, some true, some true, some true, some true, some true] : List (Option Bool)).getD j none) (fun j => ([true, true, true, true, true, true, true, true, true, true, true, true, true, true, true, true, true, true, true, true, true, true, true, true, true] : List Bool).getD j true) (by kernel_rfl) (by kernel_rfl) (fun _ w => Below (World.heap w4).size w4 w) KB (fun i => ([bIs (ndV k n t An ln cn Ai li ci), bIs (ndV k n t An ln cn Ai li ci), bIs (.bool true), bIs (.bool true), bIs (ndV k n t An ln cn Ai li ci), bIs (.bool true), bIs (.bool false), bIs (.bool false), bIs (ndV k' n' t' An' ln' cn' Ai' li' ci'), bIs (.bool true), bIs (.bool false), bIs (.bool false), bIs (.bool false), bIs (.bool s), bIs (ndV k n t An ln cn Ai li ci), bIs (sv ta), bIs (ndV k' n' t' An' ln' cn' Ai' li' ci'), bIs (sv tb), bIs (.bool s), bIs (.bool true), bIs (.bool true), bIs (.bool true), bIs (.bool true), bIs (.bool true), bIs (.bool true)] : List TyB).getD i bAny) ?hgvG3 ?hskipG3 (fun _ _ h => h) (fun w => kb_refl w) ?hWgG3 ?hkeepG3 ?hstepG3 ?hfingG3
    case hgvG3 =>
      refine all_lt_succ (all_lt_succ (all_lt_succ (all_lt_succ (all_lt_succ (all_lt_succ (all_lt_succ (all_lt_succ (all_lt_succ (all_lt_succ (all_lt_succ (all_lt_succ (all_lt_succ (all_lt_succ (all_lt_succ (all_lt_succ (all_lt_succ (all_lt_succ (all_lt_succ (all_lt_succ (all_lt_succ (all_lt_succ (all_lt_succ (all_lt_succ (all_lt_succ all_lt_zero ?_) ?_) ?_) ?_) ?_) ?_) ?_) ?_) ?_) ?_) ?_) ?_) ?_) ?_) ?_) ?_) ?_) ?_) ?_) ?_) ?_) ?_) ?_) ?_) ?_
      · exact fun _ h => by simp at h
      · exact fun _ h => by simp at h
      · exact fun x h _ _ e => by simp at h; subst h; exact e
      · exact fun x h _ _ e => by simp at h; subst h; exact e
      · exact fun _ h => by simp at h
      · exact fun x h _ _ e => by simp at h; subst h; exact e
      · exact fun x h _ _ e => by simp at h; subst h; exact e
      · exact fun x h _ _ e => by simp at h; subst h; exact e
      · exact fun _ h => by simp at h
      · exact fun x h _ _ e => by simp at h; subst h; exact e
      · exact fun x h _ _ e => by simp at h; subst h; exact e
      · exact fun x h _ _ e => by simp at h; subst h; exact e
      · exact fun x h _ _ e => by simp at h; subst h; exact e
      · exact fun _ h => by simp at h
      · exact fun _ h => by simp at h
      · exact fun _ h => by simp at h
      · exact fun _ h => by simp at h
      · exact fun _ h => by simp at h
      · exact fun _ h => by simp at h
      · exact fun x h _ _ e => by simp at h; subst h; exact e
      · exact fun x h _ _ e => by simp at h; subst h; exact e
      · exact fun x h _ _ e => by simp at h; subst h; exact e
      · exact fun x h _ _ e => by simp at h; subst h; exact e
      · exact fun x h _ _ e => by simp at h; subst h; exact e
      · exact fun x h _ _ e => by simp at h; subst h; exact e
    case hskipG3 =>
      refine all_lt_succ (all_lt_succ (all_lt_succ (all_lt_succ (all_lt_succ (all_lt_succ (all_lt_succ (all_lt_succ (all_lt_succ (all_lt_succ (all_lt_succ (all_lt_succ (all_lt_succ (all_lt_succ (all_lt_succ (all_lt_succ (all_lt_succ (all_lt_succ (all_lt_succ (all_lt_succ (all_lt_succ (all_lt_succ (all_lt_succ (all_lt_succ (all_lt_succ all_lt_zero ?_) ?_) ?_) ?_) ?_) ?_) ?_) ?_) ?_) ?_) ?_) ?_) ?_) ?_) ?_) ?_) ?_) ?_) ?_) ?_) ?_) ?_) ?_) ?_) ?_
      · exact fun h => by simp at h
      · exact fun h => by simp at h
      · exact fun h => by simp at h
      · exact fun h => by simp at h
      · exact fun h => by simp at h
      · exact fun h => by simp at h
      · exact fun h => by simp at h
      · exact fun h => by simp at h
      · exact fun h => by simp at h
      · exact fun h => by simp at h
      · exact fun h => by simp at h
      · exact fun h => by simp at h
      · exact fun h => by simp at h
      · exact fun h => by simp at h
      · exact fun h => by simp at h
      · exact fun h => by simp at h
      · exact fun h => by simp at h
      · exact fun h => by simp at h
      · exact fun h => by simp at h
      · exact fun h => by simp at h
      · exact fun h => by simp at h
      · exact fun h => by simp at h
      · exact fun h => by simp at h
      · exact fun h => by simp at h
      · exact fun h => by simp at h
    case hkeepG3 =>
      refine all_lt_succ (all_lt_succ (all_lt_succ (all_lt_succ (all_lt_succ (all_lt_succ (all_lt_succ (all_lt_succ (all_lt_succ (all_lt_succ (all_lt_succ (all_lt_succ (all_lt_succ (all_lt_succ (all_lt_succ (all_lt_succ (all_lt_succ (all_lt_succ (all_lt_succ (all_lt_succ (all_lt_succ (all_lt_succ (all_lt_succ (all_lt_succ (all_lt_succ all_lt_zero ?_) ?_) ?_) ?_) ?_) ?_) ?_) ?_) ?_) ?_) ?_) ?_) ?_) ?_) ?_) ?_) ?_) ?_) ?_) ?_) ?_) ?_) ?_) ?_) ?_
      · exact keeps_bIs
      · exact keeps_bIs
      · exact keeps_bIs
      · exact keeps_bIs
      · exact keeps_bIs
      · exact keeps_bIs
      · exact keeps_bIs
      · exact keeps_bIs
      · exact keeps_bIs
      · exact keeps_bIs
      · exact keeps_bIs
      · exact keeps_bIs
      · exact keeps_bIs
      · exact keeps_bIs
      · exact keeps_bIs
      · exact keeps_bIs
      · exact keeps_bIs
      · exact keeps_bIs
      · exact keeps_bIs
      · exact keeps_bIs
      · exact keeps_bIs
      · exact keeps_bIs
      · exact keeps_bIs
      · exact keeps_bIs
      · exact keeps_bIs
    case hstepG3 =>
      refine all_lt_succ_w (all_lt_succ_w (all_lt_succ_w (all_lt_succ_w (all_lt_succ_w (all_lt_succ_w (all_lt_succ_w (all_lt_succ_w (all_lt_succ_w (all_lt_succ_w (all_lt_succ_w (all_lt_succ_w (all_lt_succ_w (all_lt_succ_w (all_lt_succ_w (all_lt_succ_w (all_lt_succ_w (all_lt_succ_w (all_lt_succ_w (all_lt_succ_w (all_lt_succ_w (all_lt_succ_w (all_lt_succ_w (all_lt_succ_w (all_lt_succ_w all_lt_zero_w ?_) ?_) ?_) ?_) ?_) ?_) ?_) ?_) ?_) ?_) ?_) ?_) ?_) ?_) ?_) ?_) ?_) ?_) ?_) ?_) ?_) ?_) ?_) ?_) ?_
      · intro hwt; clear hwt; (intro o ho m' a w1 hm' hW hb hd K Q hK; obtain rfl := Option.some.inj ho; have e0 : a.tmps[3]?.getD undef = .pointer (some ⟨wp.heap.size, 0, none⟩) := (by rw [hb 3 (by decide +kernel)]; simp); have hbl := (hW.block _ hz4).trans HX4.out; obtain ⟨⟨q0, q1, q2, q3, q4⟩, -⟩ := box_five hbl; go_simp; exact hK _ _ hW (kb_refl _) rfl)
      · intro hwt; clear hwt; (intro o ho m' a w1 hm' hW hb hd K Q hK; obtain rfl := Option.some.inj ho; have e0 : a.tmps[3]?.getD undef = .pointer (some ⟨wp.heap.size, 0, none⟩) := (by rw [hb 3 (by decide +kernel)]; simp); have hbl := (hW.block _ hz4).trans HX4.out; obtain ⟨⟨q0, q1, q2, q3, q4⟩, -⟩ := box_five hbl; go_simp; exact hK _ _ hW (kb_refl _) rfl)
      · intro hwt; clear hwt; (intro o ho m' a w1 hm' hW hb hd K Q hK; obtain rfl := Option.some.inj ho; have e0 := slotB (hd 0 (by kernel_rfl) 29 rfl); have e1 := slotB (hd 1 (by kernel_rfl) 30 rfl); go_simp; refine (HAA4.out _ hW).mono ?_; rintro e w2 ⟨rfl, hb2⟩; exact hK _ _ (hW.trans (hb2.mono hW.size)) hb2 rfl)
      · intro hwt; clear hwt; (intro o ho m' a w1 hm' hW hb hd K Q hK; obtain rfl := Option.some.inj ho; have e0 := slotB (hd 2 (by kernel_rfl) 31 rfl); go_simp; exact hK _ _ hW (kb_refl _) rfl)
      · intro hwt; clear hwt; (intro o ho m' a w1 hm' hW hb hd K Q hK; obtain rfl := Option.some.inj ho; have e0 : a.tmps[3]?.getD undef = .pointer (some ⟨wp.heap.size, 0, none⟩) := (by rw [hb 3 (by decide +kernel)]; simp); have hbl := (hW.block _ hz4).trans HX4.out; obtain ⟨⟨q0, q1, q2, q3, q4⟩, -⟩ := box_five hbl; go_simp; exact hK _ _ hW (kb_refl _) rfl)
      · intro hwt; clear hwt; (intro o ho m' a w1 hm' hW hb hd K Q hK; obtain rfl := Option.some.inj ho; have e0 := slotB (hd 4 (by kernel_rfl) 33 rfl); go_simp; refine (HVA4.out _ hW).mono ?_; rintro e w2 ⟨rfl, hb2⟩; exact hK _ _ (hW.trans (hb2.mono hW.size)) hb2 rfl)
      · intro hwt; clear hwt; (intro o ho m' a w1 hm' hW hb hd K Q hK; obtain rfl := Option.some.inj ho; have e0 := slotB (hd 5 (by kernel_rfl) 34 rfl); go_simp; exact hK _ _ hW (kb_refl _) rfl)
      · intro hwt; clear hwt; (intro o ho m' a w1 hm' hW hb hd K Q hK; obtain rfl := Option.some.inj ho; have e0 := slotB (hd 6 (by kernel_rfl) 35 rfl); go_simp; exact hK _ _ hW (kb_refl _) rfl)
      · intro hwt; clear hwt; (intro o ho m' a w1 hm' hW hb hd K Q hK; obtain rfl := Option.some.inj ho; have e0 : a.tmps[4]?.getD undef = .pointer (some ⟨wp.heap.size + 1, 0, none⟩) := (by rw [hb 4 (by decide +kernel)]; simp); have hbl := (hW.block _ hy4).trans HY4.out; obtain ⟨⟨q0, q1, q2, q3, q4⟩, -⟩ := box_five hbl; go_simp; exact hK _ _ hW (kb_refl _) rfl)
      · intro hwt; clear hwt; (intro o ho m' a w1 hm' hW hb hd K Q hK; obtain rfl := Option.some.inj ho; have e0 := slotB (hd 8 (by kernel_rfl) 37 rfl); go_simp; refine (HVB4.out _ hW).mono ?_; rintro e w2 ⟨rfl, hb2⟩; exact hK _ _ (hW.trans (hb2.mono hW.size)) hb2 rfl)
      · intro hwt; clear hwt; (intro o ho m' a w1 hm' hW hb hd K Q hK; obtain rfl := Option.some.inj ho; have e0 := slotB (hd 9 (by kernel_rfl) 38 rfl); go_simp; exact hK _ _ hW (kb_refl _) rfl)
      · intro hwt; clear hwt; (intro o ho m' a w1 hm' hW hb hd K Q hK; obtain rfl := Option.some.inj ho; have e0 := slotB (hd 7 (by kernel_rfl) 36 rfl); have e1 := slotB (hd 10 (by kernel_rfl) 39 rfl); go_simp; exact hK _ _ hW (kb_refl _) rfl)
      · intro hwt; clear hwt; (intro o ho m' a w1 hm' hW hb hd K Q hK; obtain rfl := Option.some.inj ho; have e0 := slotB (hd 11 (by kernel_rfl) 40 rfl); go_simp; exact hK _ _ hW (kb_refl _) rfl)
      · intro hwt; clear hwt; (intro o ho m' a w1 hm' hW hb hd K Q hK; obtain rfl := Option.some.inj ho; have e0 : a.tmps[5]?.getD undef = (.bool s) := (by rw [hb 5 (by decide +kernel)]; simp); go_simp; exact hK _ _ hW (kb_refl _) rfl)
      · intro hwt; clear hwt; (intro o ho m' a w1 hm' hW hb hd K Q hK; obtain rfl := Option.some.inj ho; have e0 : a.tmps[3]?.getD undef = .pointer (some ⟨wp.heap.size, 0, none⟩) := (by rw [hb 3 (by decide +kernel)]; simp); have hbl := (hW.block _ hz4).trans HX4.out; obtain ⟨⟨q0, q1, q2, q3, q4⟩, -⟩ := box_five hbl; go_simp; exact hK _ _ hW (kb_refl _) rfl)
      · intro hwt; clear hwt; (intro o ho m' a w1 hm' hW hb hd K Q hK; obtain rfl := Option.some.inj ho; have e0 := slotB (hd 14 (by kernel_rfl) 43 rfl); go_simp; refine (HWA4.out _ hW).mono ?_; rintro e w2 ⟨rfl, hb2⟩; exact hK _ _ (hW.trans (hb2.mono hW.size)) hb2 rfl)
      · intro hwt; clear hwt; (intro o ho m' a w1 hm' hW hb hd K Q hK; obtain rfl := Option.some.inj ho; have e0 : a.tmps[4]?.getD undef = .pointer (some ⟨wp.heap.size + 1, 0, none⟩) := (by rw [hb 4 (by decide +kernel)]; simp); have hbl := (hW.block _ hy4).trans HY4.out; obtain ⟨⟨q0, q1, q2, q3, q4⟩, -⟩ := box_five hbl; go_simp; exact hK _ _ hW (kb_refl _) rfl)
      · intro hwt; clear hwt; (intro o ho m' a w1 hm' hW hb hd K Q hK; obtain rfl := Option.some.inj ho; have e0 := slotB (hd 16 (by kernel_rfl) 45 rfl); go_simp; refine (HWB4.out _ hW).mono ?_; rintro e w2 ⟨rfl, hb2⟩; exact hK _ _ (hW.trans (hb2.mono hW.size)) hb2 rfl)
      · intro hwt; clear hwt; (intro o ho m' a w1 hm' hW hb hd K Q hK; obtain rfl := Option.some.inj ho; have e0 := slotB (hd 15 (by kernel_rfl) 44 rfl); have e1 := slotB (hd 17 (by kernel_rfl) 46 rfl); go_simp; exact hK _ _ hW (kb_refl _) rfl)
      · intro hwt; clear hwt; (intro o ho m' a w1 hm' hW hb hd K Q hK; obtain rfl := Option.some.inj ho; have e0 := slotB (hd 13 (by kernel_rfl) 42 rfl); have e1 := slotB (hd 18 (by kernel_rfl) 47 rfl); go_simp; exact hK _ _ hW (kb_refl _) rfl)
      · intro hwt; clear hwt; (intro o ho m' a w1 hm' hW hb hd K Q hK; obtain rfl := Option.some.inj ho; have e0 := slotB (hd 12 (by kernel_rfl) 41 rfl); have e1 := slotB (hd 19 (by kernel_rfl) 48 rfl); go_simp; exact hK _ _ hW (kb_refl _) rfl)
      · intro hwt; clear hwt; (intro o ho m' a w1 hm' hW hb hd K Q hK; obtain rfl := Option.some.inj ho; have e0 := slotB (hd 3 (by kernel_rfl) 32 rfl); have e1 := slotB (hd 20 (by kernel_rfl) 49 rfl); go_simp; exact hK _ _ hW (kb_refl _) rfl)
      · intro hwt; clear hwt; (intro o ho m' a w1 hm' hW hb hd K Q hK; obtain rfl := Option.some.inj ho; have e0 := slotB (hd 21 (by kernel_rfl) 50 rfl); go_simp; exact hK _ _ hW (kb_refl _) rfl)
      · intro hwt; clear hwt; (intro o ho m' a w1 hm' hW hb hd K Q hK; obtain rfl := Option.some.inj ho; go_simp; refine (HAL4.out _ hW).mono ?_; rintro e w2 ⟨rfl, hb2⟩; exact hK _ _ (hW.trans (hb2.mono hW.size)) hb2 rfl)
      · intro hwt; clear hwt; (intro o ho m' a w1 hm' hW hb hd K Q hK; obtain rfl := Option.some.inj ho; have e0 := slotB (hd 22 (by kernel_rfl) 51 rfl); have e1 := slotB (hd 23 (by kernel_rfl) 52 rfl); go_simp; exact hK _ _ hW (kb_refl _) rfl)
    case hWgG3 => exact (Below.refl _ _).drew
    case hfingG3 =>
      intro vs w9 hW hF
      have h24 : vs 24 = .bool true := hF 24 (by omega)
      have HB9 := Lib.hid (HB4.out.trans (hW.mono HB4.out.size))
      clear hW hF
      simp only [putAll, hdst, List.getElem?_cons_succ, List.getElem?_cons_zero, Option.bind, List.drop_succ_cons, List.drop_zero, Act.put]
      rw [h24]
      clear h24
      go_simp
      go_wp2
      go_ret
      exact ⟨rfl, HB9.out⟩

set_option maxRecDepth 100000 in
theorem fnSameNode_lifted (os : Os) (started : os.Started) (H : Type) (enc : TypeId × Value → H) :
    ReturnsInHanded {} Tryd.checked os 3 .any (fun w args => (Rows.fnSameNodeSpec.pre enc Tryd.prog Tryd.f3 Rows.fnSameNodeRow.domain false w args ∧ laidMetH Tryd.prog Rows.fnSameNodeRow.laid w) ∧ sizedMet enc Tryd.prog Tryd.f3 (OpenSpec.ofChange Rows.fnSameNodeSpec) false w args)
      (Rows.fnSameNodeSpec.post enc Tryd.prog Tryd.f3 false true false false) := by
  refine returnsInHanded_of_change_and_shaped (C := Tryd.checked) (X := fun w _ => laidMetH Tryd.prog Rows.fnSameNodeRow.laid w) (fun _ _ _ hh h => h.of_heap hh) Tryd.own started (by kernel_rfl) Tryd.func3
    (ChangeSpec.witness_shaped (enc := enc) (C := Tryd.checked) (os := os) (X := fun w _ => laidMetH Tryd.prog Rows.fnSameNodeRow.laid w) false (World.laidAll Tryd.prog os Rows.fnSameNodeRow.laid) #[.slice none 0 0] 8 (World.laidAll_os _ _ _)
      (World.shaped_of_ZipB (by kernel_rfl) (by kernel_rfl)) (by kernel_rfl) (by kernel_rfl) (by kernel_rfl)
      (by rw [MakeChecks.laidMetH_plain _ _ _ (by kernel_rfl)]; exact laidMet_laidAll _ (by kernel_rfl) (by kernel_rfl))) ?_
  intro W base args ds gs before hval0 hW _ _ hlaid hsh _
  have hval : ∀ (j : Nat) t v, Tryd.f3.params[j]? = some t → args[j]? = some v → Value.okWide Tryd.prog W .any base t v := hval0
  have hW' := hW
  obtain ⟨p, q, hA0, hV, rfl, _, _⟩ := hW
  have hA : DataW.TrodAll enc Tryd.prog W 0 (fun _ => true) true Tryd.f3.params.toList args.toList ds p := hA0
  rw [Tryd.params3] at hA hval
  obtain ⟨v0, d0, rfl, rfl, h0⟩ := trodAll_one hA
  obtain ⟨rfl, rfl⟩ := trodVars_none hV
  obtain ⟨A, c, bs, rfl, hr, hlc, hcm⟩ := open_bytes Tryd.underlying22 Tryd.underlying5 (by kernel_rfl) (hval 0 _ v0 rfl rfl) h0
  have hlaid2 : laidMetH Tryd.prog Rows.fnSameNodeRow.laid W := hlaid
  rw [MakeChecks.laidMetH_plain _ _ _ (by kernel_rfl)] at hlaid2
  have henv : Env W := env_of hsh hlaid2 (List.mem_of_getElem? (i := 2) (by kernel_rfl))
  refine (sameNode_walk bs A c W hr hlc (Nat.le_trans hlc hcm) henv).mono fun e W' ⟨he, hw⟩ => ?_
  subst he
  exact ⟨_, rfl, law_post hW' rfl rfl (by kernel_rfl) Tryd.underlying4 Tryd.laidOut (of_decide_eq_true (by kernel_rfl)) hw⟩

theorem fnSameNode_holds : Rows.FnSameNodeSaid :=
  OpenClaim.holds_of_wide 3 Tryd.f3 rfl rfl rfl rfl rfl rfl rfl ⟨rfl, rfl, rfl, rfl, rfl⟩ rfl rfl rfl rfl rfl (by kernel_rfl) Tryd.func3 (by kernel_rfl)
    (of_decide_eq_true (by kernel_rfl)) (by unfold Func.isWrapper; first | (rw [if_pos (by decide +kernel)]; kernel_rfl) | (rw [if_neg (by decide +kernel)]; exact ⟨rfl, rfl⟩))
    (fun os started H enc _ => fnSameNode_lifted os started H enc)

theorem fnSameNode_cardHolds : Rows.FnSameNodeCardSaid :=
  Claim7.holds_tied_plain_at .later [] _ true _ true fnSameNode_holds (fun _ h => by cases h) (by kernel_rfl) (fun _ h => by cases h) fnSameNode_row_tie rfl ⟨rfl, rfl⟩ (by kernel_rfl) rfl
    (fun f fn hf hfn => by
      obtain rfl : f = 3 := Option.some.inj ((show Tryd.prog.funcNamed "loop.example/templateescaper/laws.FnSameNode" = some 3 by kernel_rfl).symm.trans hf) |>.symm
      obtain rfl : fn = Tryd.f3 := (Option.some.inj (Tryd.func3.symm.trans hfn)).symm
      exact ⟨by kernel_rfl, fun j t ht => by
        rw [Tryd.params3] at ht
        have hm : t ∈ [22] := by simpa using Array.mem_of_getElem? ht
        have hall : ([22].all fun u => !Tryd.prog.wantsStandIn u) = true := by kernel_rfl
        exact (show Tryd.prog.wantsStandIn t = false by simpa using List.all_eq_true.1 hall t hm)⟩)
    (by kernel_rfl)

#print axioms fnSameNode_cardHolds
end Go.Proofs.YtdmmnjnbjigdeaaDoor
