/- For all nodes: NodeWritten of the program returns what the reference's returns and leaves its argument alone: the card FnExactNodeWrittenCardSaid holds. No conditions. -/
import Derived.Test.YtdmmnjnbjigdeaaDoorNodeWT
import Derived.Test.YtdmmnjnbjigdeaaDoorOpenN
import Derived.Test.YtdmmnjnbjigdeaaDoorCardKit
namespace Go.Proofs.YtdmmnjnbjigdeaaDoor
open Go.RowKit Go.ChangeShapes Go.WideShapes Go.ChangeAt Go.Joins

set_option maxRecDepth 100000 in
set_option maxHeartbeats 8000000 in
theorem exactNodeWritten_walk (a : Nd) (u : Value) (w : World) (hu : InN w (All w) a u) (hfa : Nd.Fit a) (henv : Env w) :
    Calls Tryd.prog 4 #[u] w fun e w' => e = .returned (.bool true) ∧ Below w.heap.size w w' := by
  obtain ⟨k, n, t, An, ln, cn, Ai, li, ci, rfl⟩ := nd_value hu
  have hB0 := (Below.refl w.heap.size w).alloc (Nat.le_refl _) (.cells (ndCells k n t An ln cn Ai li ci) 36)
  have HB0 := Lib.hid hB0
  have HX0 := Lib.hid (heap_alloc_new w (.cells (ndCells k n t An ln cn Ai li ci) 36))
  have HU0 := Lib.hid (hu.now hB0)
  have HS1 := Lib.hid (laws_szNode a _ 1048576 _ HU0.out hfa (by omega) (by omega))
  have hzz : w.heap.size < (w.alloc (.cells (ndCells k n t An ln cn Ai li ci) 36)).heap.size := by simp
  clear hu hB0
  by_cases hsa : (Nd.size a : Int) ≤ 1048576
  case neg =>
    rw [szLeft_neg hsa] at HS1
    clear hsa
    go_enter Tryd.func4, Tryd.ntmps4
    go_wp2_with fail
    refine HS1.out.mono ?_
    rintro e w1 ⟨rfl, hb⟩
    have HB1 := Lib.hid (HB0.out.trans (hb.mono HB0.out.size))
    clear hb
    go_wp2
    go_ret
    exact ⟨rfl, HB1.out⟩
  rw [szLeft_pos hsa] at HS1
  have hq0 : decide ((1048576 : Int) - (Nd.size a : Int) < 0) = false := by simp; omega
  have hA : Nd.size a ≤ 1048576 := by omega
  have HFA := Lib.hid hfa
  clear hfa
  have HSP := Lib.hid (fun w3 u (hu : InN w3 (All w3) a u) he => spec_NodeWritten a u w3 hu hA he)
  have HIM := Lib.hid (fun w3 u (hu : InN w3 (All w3) a u) he => impl_NodeWritten a u w3 hu hA he)
  generalize nodeWritten a = r at *
  have hrr : (r != r) = false := by simp
  have HENV := Lib.hid henv
  clear henv
  go_enter Tryd.func4, Tryd.ntmps4
  go_wp2_with fail
  refine HS1.out.mono ?_
  rintro e w1 ⟨rfl, hb⟩
  have HB1 := Lib.hid (HB0.out.trans (hb.mono HB0.out.size))
  have HX1 := Lib.hid (bx_keep HX0.out hb)
  have HU1 := Lib.hid (HU0.out.now hb)
  have hz1 : w.heap.size < w1.heap.size := Nat.lt_of_lt_of_le hzz hb.size
  have HTA := Lib.hid (fun w3 (hb : Below w1.heap.size w1 w3) => laws_toNode a _ w3 (HU1.out.now hb) hA)
  have HTA1 := Lib.hid (HTA.out w1 (Below.refl _ _))
  obtain ⟨⟨y0, y1, y2, y3, y4⟩, -⟩ := box_five HX1.out
  clear hb HS1 HX0 HU0 hzz
  go_wp2_with fail
  refine HTA1.out.mono ?_
  rintro e w2 ⟨k4, n4, t4, A4, l4, c4, B4, m4, d4, rfl, hin, hb⟩
  have HSP2 := Lib.hid (HSP.out w2 _ hin.all (HENV.out.below (HB1.out.trans (hb.mono HB1.out.size))))
  have HB12 := Lib.hid hb
  clear hb hin y0 y1 y2 y3 y4
  go_wp2_with fail
  refine HSP2.out.mono ?_
  rintro e w3 ⟨rfl, hb⟩
  have HB13 := Lib.hid (HB12.out.trans (hb.mono HB12.out.size))
  have HX3 := Lib.hid (bx_keep HX1.out HB13.out)
  have HTA3 := Lib.hid (HTA.out w3 HB13.out)
  have hz3 : w.heap.size < w3.heap.size := Nat.lt_of_lt_of_le hz1 HB13.out.size
  obtain ⟨⟨y0, y1, y2, y3, y4⟩, -⟩ := box_five HX3.out
  clear hb HX1
  go_wp2_with fail
  refine HTA3.out.mono ?_
  rintro e w4 ⟨k5, n5, t5, A5, l5, c5, B5, m5, d5, rfl, hin, hb⟩
  have HA5 := Lib.hid ((Below.refl w4.heap.size w4).alloc (Nat.le_refl _) (.cells (ndCells k5 n5 t5 A5 l5 c5 B5 m5 d5) 26))
  have HI5 := Lib.hid (hin.all.now HA5.out)
  have HB35 := Lib.hid (hb.trans (HA5.out.mono hb.size))
  have HB15 := Lib.hid (HB13.out.trans (HB35.out.mono HB13.out.size))
  have HX5 := Lib.hid (bx_keep HX3.out HB35.out)
  have HP5 := Lib.hid (heap_alloc_new w4 (.cells (ndCells k5 n5 t5 A5 l5 c5 B5 m5 d5) 26))
  have hz5 : w.heap.size < w4.heap.size := Nat.lt_of_lt_of_le hz3 hb.size
  have hs5 : (w4.alloc (.cells (ndCells k5 n5 t5 A5 l5 c5 B5 m5 d5) 26)).heap.size = w4.heap.size + 1 := by simp
  obtain ⟨⟨p0, p1, p2, p3, p4⟩, -⟩ := box_five HP5.out
  clear hb hin y0 y1 y2 y3 y4
  go_wp2_with fail
  refine (HIM.out _ _ HI5.out (HENV.out.below (HB1.out.trans (HB15.out.mono HB1.out.size)))).mono ?_
  rintro e w6 ⟨rfl, hb⟩
  have HB16 := Lib.hid (HB15.out.trans (hb.mono HB15.out.size))
  have HB6 := Lib.hid (HB1.out.trans (HB16.out.mono HB1.out.size))
  have HI6 := Lib.hid (HI5.out.now hb)
  have HX6 := Lib.hid (bx_keep HX5.out hb)
  have HP6 := Lib.hid (bx_keep HP5.out hb)
  have hz6 : w4.heap.size < w6.heap.size := by have := hb.size; omega
  have hz6a : w.heap.size < w6.heap.size := by omega
  clear hb p0 p1 p2 p3 p4
  have HTA6 := Lib.hid (fun w7 (hb : Below w6.heap.size w6 w7) => HTA.out w7 (HB16.out.trans (hb.mono HB16.out.size)))
  have HEA := Lib.hid (fun w7 v (hb : Below w6.heap.size w6 w7) (hv : InN w7 (All w7) a v) => laws_eqNode a a _ v w7 (HI6.out.now hb) hv HFA.out HFA.out)
  rw [Nd.same_self] at HEA
  go_wp2_with fail
  refine wp_region_typed 4 (by kernel_rfl) (by kernel_rfl) (fun _ w => Below (World.heap w6).size w6 w) KB (fun i => ([bIs (ndV k5 n5 t5 A5 l5 c5 B5 m5 d5), bIs (ndV k n t An ln cn Ai li ci), bNd a, bIs (.bool true)] : List TyB).getD i bAny) ?hWbB1 ?hkeepB1 ?hstepB1 ?hfinbB1
  case hkeepB1 =>
    refine all_lt_succ (all_lt_succ (all_lt_succ (all_lt_succ all_lt_zero ?_) ?_) ?_) ?_
    · exact keeps_bIs
    · exact keeps_bIs
    · exact keeps_bNd
    · exact keeps_bIs
  case hstepB1 =>
    refine all_lt_succ (all_lt_succ (all_lt_succ (all_lt_succ all_lt_zero ?_) ?_) ?_) ?_
    · (intro o ho m' a w1 hm' hW hb hd K Q hK; obtain rfl := Option.some.inj ho; have e0 : a.tmps[5]?.getD undef = .pointer (some ⟨w4.heap.size, 0, none⟩) := (by rw [hb 5 (by decide +kernel)]; simp); have hbl := (hW.block _ hz6).trans HP6.out; obtain ⟨⟨q0, q1, q2, q3, q4⟩, -⟩ := box_five hbl; go_simp; exact hK _ _ hW (kb_refl _) rfl)
    · (intro o ho m' a w1 hm' hW hb hd K Q hK; obtain rfl := Option.some.inj ho; have e0 : a.tmps[1]?.getD undef = .pointer (some ⟨w.heap.size, 0, none⟩) := (by rw [hb 1 (by decide +kernel)]; simp); have hbl := (hW.block _ hz6a).trans HX6.out; obtain ⟨⟨q0, q1, q2, q3, q4⟩, -⟩ := box_five hbl; go_simp; exact hK _ _ hW (kb_refl _) rfl)
    · (intro o ho m' a w1 hm' hW hb hd K Q hK; obtain rfl := Option.some.inj ho; have e0 := slotB (hd 1 (by kernel_rfl) 23 rfl); go_simp; refine (HTA6.out _ hW).mono ?_; rintro e w2 ⟨k9, n9, t9, A9, l9, c9, B9, m9, d9, rfl, hin9, hb2⟩; exact hK _ _ (hW.trans (hb2.mono hW.size)) hb2 ⟨k9, n9, t9, A9, l9, c9, B9, m9, d9, rfl, InN.keep (fun _ _ => rfl) (fun b h => h.2) _ _ hin9⟩)
    · (intro o ho m' a w1 hm' hW hb hd K Q hK; obtain rfl := Option.some.inj ho; have e1 := slotB (hd 0 (by kernel_rfl) 22 rfl); obtain ⟨k2, n2, t2, A2, l2, c2, B2, m2, d2, e2, h2⟩ := (hd 2 (by kernel_rfl) 24 rfl); rw [e2] at h2; have e2 := slotB e2; go_simp; refine (HEA.out _ _ hW h2).mono ?_; rintro e w2 ⟨rfl, hb2⟩; exact hK _ _ (hW.trans (hb2.mono hW.size)) hb2 rfl)
  case hWbB1 => exact (Below.refl _ _).drew
  case hfinbB1 =>
    intro vs w7 hW hF
    simp only [putAll, hdst, List.getElem?_cons_succ, List.getElem?_cons_zero, Option.bind, List.drop_succ_cons, List.drop_zero, Act.put]
    have h3 : vs 3 = .bool true := hF 3 (by omega)
    rw [h3]
    have HB7 := Lib.hid (HB6.out.trans (hW.mono HB6.out.size))
    clear hW hF h3
    go_simp
    go_wp2
    go_ret
    exact ⟨rfl, HB7.out⟩

set_option maxRecDepth 100000 in
theorem fnExactNodeWritten_lifted (os : Os) (started : os.Started) (H : Type) (enc : TypeId × Value → H) :
    ReturnsInHanded {} Tryd.checked os 4 .any (fun w args => (Rows.fnExactNodeWrittenSpec.pre enc Tryd.prog Tryd.f4 Rows.fnExactNodeWrittenRow.domain false w args ∧ laidMetH Tryd.prog Rows.fnExactNodeWrittenRow.laid w) ∧ sizedMet enc Tryd.prog Tryd.f4 (OpenSpec.ofChange Rows.fnExactNodeWrittenSpec) false w args)
      (Rows.fnExactNodeWrittenSpec.post enc Tryd.prog Tryd.f4 false true false false) := by
  refine returnsInHanded_of_change_and_shaped (C := Tryd.checked) (X := fun w _ => laidMetH Tryd.prog Rows.fnExactNodeWrittenRow.laid w) (fun _ _ _ hh h => h.of_heap hh) Tryd.own started (by kernel_rfl) Tryd.func4
    (ChangeSpec.witness_shaped (enc := enc) (C := Tryd.checked) (os := os) (X := fun w _ => laidMetH Tryd.prog Rows.fnExactNodeWrittenRow.laid w) false (World.laidAll Tryd.prog os Rows.fnExactNodeWrittenRow.laid) #[.agg #[.int .i64 0, .int .i64 0, .string ⟨#[]⟩, .slice none 0 0, .slice none 0 0]] 8 (World.laidAll_os _ _ _)
      (World.shaped_of_ZipB (by kernel_rfl) (by kernel_rfl)) (by kernel_rfl) (by kernel_rfl) (by kernel_rfl)
      (by rw [MakeChecks.laidMetH_plain _ _ _ (by kernel_rfl)]; exact laidMet_laidAll _ (by kernel_rfl) (by kernel_rfl))) ?_
  intro W base args ds gs before hval0 hW _ _ hlaid hsh _
  have hval : ∀ (j : Nat) t v, Tryd.f4.params[j]? = some t → args[j]? = some v → Value.okWide Tryd.prog W .any base t v := hval0
  have hW' := hW
  obtain ⟨p, q, hA0, hV, rfl, _, _⟩ := hW
  have hA : DataW.TrodAll enc Tryd.prog W 0 (fun _ => true) true Tryd.f4.params.toList args.toList ds p := hA0
  rw [Tryd.params4] at hA hval
  obtain ⟨v0, d0, rfl, rfl, h0⟩ := trodAll_one hA
  obtain ⟨rfl, rfl⟩ := trodVars_none hV
  obtain ⟨a, hu, hfa⟩ := open_node Tryd.underlying36 (by kernel_rfl) (by kernel_rfl) Tryd.underlying3 Tryd.underlying3 Tryd.underlying9 Tryd.underlying23 Tryd.underlying9 (by kernel_rfl) Tryd.underlying34 (hval 0 _ v0 rfl rfl) h0
  have hlaid2 : laidMetH Tryd.prog Rows.fnExactNodeWrittenRow.laid W := hlaid
  rw [MakeChecks.laidMetH_plain _ _ _ (by kernel_rfl)] at hlaid2
  have henv : Env W := env_of hsh hlaid2 (List.mem_of_getElem? (i := 2) (by kernel_rfl))
  refine (exactNodeWritten_walk a _ W hu hfa henv).mono fun e W' ⟨he, hw⟩ => ?_
  subst he
  exact ⟨_, rfl, law_post hW' rfl rfl (by kernel_rfl) Tryd.underlying4 Tryd.laidOut (of_decide_eq_true (by kernel_rfl)) hw⟩

theorem fnExactNodeWritten_holds : Rows.FnExactNodeWrittenSaid :=
  OpenClaim.holds_of_wide 4 Tryd.f4 rfl rfl rfl rfl rfl rfl rfl ⟨rfl, rfl, rfl, rfl, rfl⟩ rfl rfl rfl rfl rfl (by kernel_rfl) Tryd.func4 (by kernel_rfl)
    (of_decide_eq_true (by kernel_rfl)) (by unfold Func.isWrapper; first | (rw [if_pos (by decide +kernel)]; kernel_rfl) | (rw [if_neg (by decide +kernel)]; exact ⟨rfl, rfl⟩))
    (fun os started H enc _ => fnExactNodeWritten_lifted os started H enc)

theorem fnExactNodeWritten_cardHolds : Rows.FnExactNodeWrittenCardSaid :=
  Claim7.holds_tied_plain_at .later [] _ true _ true fnExactNodeWritten_holds (fun _ h => by cases h) (by kernel_rfl) (fun _ h => by cases h) fnExactNodeWritten_row_tie rfl ⟨rfl, rfl⟩ (by kernel_rfl) rfl
    (fun f fn hf hfn => by
      obtain rfl : f = 4 := Option.some.inj ((show Tryd.prog.funcNamed "loop.example/templateescaper/laws.FnExactNodeWritten" = some 4 by kernel_rfl).symm.trans hf) |>.symm
      obtain rfl : fn = Tryd.f4 := (Option.some.inj (Tryd.func4.symm.trans hfn)).symm
      exact ⟨by kernel_rfl, fun j t ht => by
        rw [Tryd.params4] at ht
        have hm : t ∈ [36] := by simpa using Array.mem_of_getElem? ht
        have hall : ([36].all fun u => !Tryd.prog.wantsStandIn u) = true := by kernel_rfl
        exact (show Tryd.prog.wantsStandIn t = false by simpa using List.all_eq_true.1 hall t hm)⟩)
    (by kernel_rfl)

#print axioms fnExactNodeWritten_cardHolds
end Go.Proofs.YtdmmnjnbjigdeaaDoor
