/- For every code: ReadHeads of the program and of the reference agree on the drawn lines; what is read is valid, one pair for each line, and its lines, read again, are the same; else there is nothing: the card FnReadHeadsCardSaid holds. No conditions. -/
import Derived.Test.YtaipignkkbknfaaDoorLinesP
import Derived.Test.YtaipignkkbknfaaDoorReadHeadsDraw
import Derived.Test.YtaipignkkbknfaaDoorSame
import Derived.Test.YtaipignkkbknfaaDoorCardKit
namespace Go.Proofs.YtaipignkkbknfaaDoor
open Go.RowKit Go.ChangeShapes Go.WideShapes Go.ChangeAt Go.Joins

theorem small_ssize : ∀ {xs : List Tx}, (∀ x ∈ xs, x.length ≤ 300) → ssize xs ≤ 300 * xs.length
  | [], _ => by simp [ssize]
  | x :: t, h => by
    have h1 := small_ssize (xs := t) fun y hy => h y (by simp [hy])
    have h2 := h x (by simp)
    simp only [ssize, List.length_cons]
    omega
theorem readHeads_cases (xs : List Tx) : ((readHeads xs).2 = false ∧ (readHeads xs).1 = []) ∨ ((readHeads xs).2 = true ∧ headsOk (readHeads xs).1 = true ∧ (readHeads xs).1.length = xs.length) := by
  unfold readHeads
  split
  · split
    · rename_i h
      right
      exact ⟨rfl, h, by simp [readLines_all]⟩
    · left; exact ⟨rfl, rfl⟩
  · left; exact ⟨rfl, rfl⟩
theorem heads_psize {ps : List Pr} (h : headsOk ps = true) : ps.length + psize ps ≤ 1048576 := by
  obtain ⟨h6, hh⟩ := heads_each h
  have : ∀ qs : List Pr, (∀ p ∈ qs, headOk p = true) → psize qs ≤ 50 * qs.length := by
    intro qs
    induction qs with
    | nil => intro _; simp [psize]
    | cons p t ih =>
      intro hq
      have h1 := ih fun q hq' => hq q (by simp [hq'])
      obtain ⟨_, h2, h3, _, _⟩ := head_parts (hq p (by simp))
      rw [psize, List.length_cons]
      omega
  have := this ps hh
  omega

set_option maxRecDepth 100000 in
set_option maxHeartbeats 2000000 in
theorem readHeads_walk (bs : Tx) (A : Option Addr) (c : Nat) (w : World) (hr : Rd w w.heap.size A (bcells bs)) (hc : bs.length ≤ c) (hm : bs.length ≤ maxLen) :
    Calls Tryd.prog 8 #[.slice A bs.length c] w fun e w' => e = .returned (.bool true) ∧ Below w.heap.size w w' := by
  unfold maxLen at hm
  by_cases h : 1048576 < bs.length
  · go_enter Tryd.func8, Tryd.ntmps8
    go_wp2
    go_ret
    exact ⟨rfl, Below.refl _ _⟩
  · have HD := Lib.hid (spec_DrawReadHeads bs A c w hr hc (by omega))
    clear hr
    go_enter Tryd.func8, Tryd.ntmps8
    go_wp2_with fail
    refine HD.out.mono ?_
    rintro e w1 ⟨A1, c1, xs, rfl, ho1, hs1, hb1⟩
    have hss := small_ssize hs1.2
    have hxn := hs1.1
    have HF : Hid (FitS xs) := fun x hx => by have := hs1.2 x hx; unfold maxLen; omega
    have HL : Hid (xs.length ≤ maxLen) := by show _ ≤ _; unfold maxLen; omega
    have HO1 := Lib.hid ho1
    have HB1 := Lib.hid hb1
    have hz1 := hb1.size
    clear ho1 hs1 hb1
    have HI := Lib.hid (fun w hr hA => impl_ReadHeads xs A1 c1 w hr hA HF.out HL.out (by omega))
    have HS := Lib.hid (fun w hr hA => spec_ReadHeads xs A1 c1 w hr hA HF.out HL.out (by omega))
    have HSP := Lib.hid (readHeads_cases xs)
    have hyl := readHeads_len xs hxn
    generalize readHeads xs = r at *
    obtain ⟨ys, ok⟩ := r
    simp only at hyl HSP
    have HYN : Hid (ys.length ≤ maxLen) := by show _ ≤ _; unfold maxLen; omega
    go_wp2_with fail
    refine (HI.out _ (ownS_rd HO1.out) (own_none HO1.out)).mono ?_
    rintro e w2 ⟨A2, c2, rfl, ho2, hb2⟩
    have HO1 := Lib.hid (ownS_keep HO1.out hb2)
    have HB2 := Lib.hid (HB1.out.trans (hb2.mono hz1))
    have HO2 := Lib.hid ho2
    clear hb2 ho2
    go_wp2_with fail
    refine (HS.out _ (ownS_rd HO1.out) (own_none HO1.out)).mono ?_
    rintro e w3 ⟨A3, c3, rfl, ho3, hb3⟩
    have HO2 := Lib.hid (ownP_keep HO2.out hb3)
    have HB3 := Lib.hid (HB2.out.trans (hb3.mono HB2.out.size))
    have HO3 := Lib.hid ho3
    clear hb3 ho3
    dsimp only
    go_wp2_with fail
    refine (laws_samePairs ys ys A2 A3 c2 c3 _ (ownP_rd HO2.out) (ownP_rd HO3.out) HYN.out).mono ?_
    rw [beq_self_eq_true]
    rintro e w4 ⟨rfl, hb4⟩
    have HO2 := Lib.hid (ownP_keep HO2.out hb4)
    have HB4 := Lib.hid (HB3.out.trans (hb4.mono HB3.out.size))
    clear hb4
    rcases HSP.out with ⟨hok, hy0⟩ | ⟨hok, hyk, hyn⟩
    · subst hok
      subst hy0
      go_wp2_with fail
      refine (laws_alive _).mono ?_
      rintro e w6 ⟨rfl, hb6⟩
      have HB6 := Lib.hid (HB4.out.trans (hb6.mono HB4.out.size))
      clear hb6
      go_wp2
      go_ret
      exact ⟨rfl, HB6.out⟩
    · subst hok
      have HK := Lib.hid hyk
      have HYX := Lib.hid hyn
      have hps := heads_psize hyk
      have HYF : Hid (Fit ys) := fun p hp => by
        obtain ⟨_, h2, h3, _, _⟩ := head_parts ((heads_each HK.out).2 p hp)
        unfold maxLen; omega
      have HXR := Lib.hid (read_lines hyk)
      have HXS := Lib.hid (lines_size hyk)
      have HXT : Hid (FitS (headsLines ys)) := fun x hx => by
        rw [headsLines, HK.out, if_pos rfl, hdLines_all] at hx
        obtain ⟨p, hp, rfl⟩ := List.mem_map.1 hx
        obtain ⟨_, h2, h3, _, _⟩ := head_parts ((heads_each HK.out).2 p hp)
        simp [lineOf, maxLen]; omega
      have hll := headsLines_len ys hyl
      have HLN : Hid ((headsLines ys).length ≤ maxLen) := by show _ ≤ _; unfold maxLen; omega
      have HLI := Lib.hid (fun w hr hA => impl_HeadsLines ys A2 c2 w hr hA HYF.out HYN.out hps)
      generalize headsLines ys = ls at *
      clear hyk hyn
      go_wp2_with fail
      refine (HLI.out _ (ownP_rd HO2.out) (own_none HO2.out)).mono ?_
      rintro e w5 ⟨A5, c5, rfl, ho5, hb5⟩
      have HO2 := Lib.hid (ownP_keep HO2.out hb5)
      have HB5 := Lib.hid (HB4.out.trans (hb5.mono HB4.out.size))
      have HO5 := Lib.hid ho5
      clear hb5 ho5
      have HRH := Lib.hid (fun w hr hA => impl_ReadHeads ls A5 c5 w hr hA HXT.out HLN.out HXS.out)
      simp only [HXR.out] at HRH
      go_wp2_with fail
      refine (HRH.out _ (ownS_rd HO5.out) (own_none HO5.out)).mono ?_
      rintro e w6 ⟨A6, c6, rfl, ho6, hb6⟩
      have HB6 := Lib.hid (HB5.out.trans (hb6.mono HB5.out.size))
      have HO2 := Lib.hid (ownP_keep HO2.out hb6)
      have HO6 := Lib.hid ho6
      clear ho6 hb6
      dsimp only
      go_wp2_with fail
      refine (impl_HeadsValid ys A2 c2 _ (ownP_rd HO2.out) HYF.out HYN.out).mono ?_
      rw [HK.out]
      rintro e w7 ⟨rfl, hb7⟩
      have HB7 := Lib.hid (HB6.out.trans (hb7.mono HB6.out.size))
      have HO2 := Lib.hid (ownP_keep HO2.out hb7)
      have HO6 := Lib.hid (ownP_keep HO6.out hb7)
      clear hb7
      go_wp2_with fail
      refine (laws_samePairs ys ys A6 A2 c6 c2 _ (ownP_rd HO6.out) (ownP_rd HO2.out) HYN.out).mono ?_
      rw [beq_self_eq_true]
      rintro e w8 ⟨rfl, hb8⟩
      have HB8 := Lib.hid (HB7.out.trans (hb8.mono HB7.out.size))
      have e1 : ((ys.length : Int) == (xs.length : Int)) = true := by rw [HYX.out]; simp
      clear hb8
      go_wp2
      go_ret
      exact ⟨rfl, HB8.out⟩

set_option maxRecDepth 100000 in
theorem fnReadHeads_lifted (os : Os) (started : os.Started) (H : Type) (enc : TypeId × Value → H) :
    ReturnsInHanded {} Tryd.checked os 8 .any (fun w args => (Rows.fnReadHeadsSpec.pre enc Tryd.prog Tryd.f8 Rows.fnReadHeadsRow.domain false w args ∧ laidMetH Tryd.prog Rows.fnReadHeadsRow.laid w) ∧ sizedMet enc Tryd.prog Tryd.f8 (OpenSpec.ofChange Rows.fnReadHeadsSpec) false w args)
      (Rows.fnReadHeadsSpec.post enc Tryd.prog Tryd.f8 false true false false) := by
  refine returnsInHanded_of_change_and (C := Tryd.checked) (X := fun w _ => laidMetH Tryd.prog Rows.fnReadHeadsRow.laid w) (fun _ _ _ hh h => h.of_heap hh) Tryd.own started (by kernel_rfl) Tryd.func8
    (ChangeSpec.witness_shaped (enc := enc) (C := Tryd.checked) (os := os) (X := fun w _ => laidMetH Tryd.prog Rows.fnReadHeadsRow.laid w) false (World.laidAll Tryd.prog os Rows.fnReadHeadsRow.laid) #[.slice none 0 0] 8 (World.laidAll_os _ _ _)
      (World.shaped_of_ZipB (by kernel_rfl) (by kernel_rfl)) (by kernel_rfl) (by kernel_rfl) (by kernel_rfl)
      (by rw [MakeChecks.laidMetH_plain _ _ _ (by kernel_rfl)]; exact laidMet_laidAll _ (by kernel_rfl) (by kernel_rfl))) ?_
  intro W base args ds gs before hval0 hW _ _ _ _
  have hval : ∀ (j : Nat) t v, Tryd.f8.params[j]? = some t → args[j]? = some v → Value.okWide Tryd.prog W .any base t v := hval0
  have hW' := hW
  obtain ⟨p, q, hA0, hV, rfl, _, _⟩ := hW
  have hA : DataW.TrodAll enc Tryd.prog W 0 (fun _ => true) true Tryd.f8.params.toList args.toList ds p := hA0
  rw [Tryd.params8] at hA hval
  obtain ⟨v0, d0, rfl, rfl, h0⟩ := trodAll_one hA
  obtain ⟨rfl, rfl⟩ := trodVars_none hV
  obtain ⟨A, c, bs, rfl, hr, hlc, hcm⟩ := open_bytes Tryd.underlying22 Tryd.underlying5 (by kernel_rfl) (hval 0 _ v0 rfl rfl) h0
  refine (readHeads_walk bs A c W hr hlc (Nat.le_trans hlc hcm)).mono fun e W' ⟨he, hw⟩ => ?_
  subst he
  exact ⟨_, rfl, law_post hW' rfl rfl (by kernel_rfl) Tryd.underlying4 Tryd.laidOut (of_decide_eq_true (by kernel_rfl)) hw⟩

theorem fnReadHeads_holds : Rows.FnReadHeadsSaid :=
  OpenClaim.holds_of_wide 8 Tryd.f8 rfl rfl rfl rfl rfl rfl rfl ⟨rfl, rfl, rfl, rfl, rfl⟩ rfl rfl rfl rfl rfl (by kernel_rfl) Tryd.func8 (by kernel_rfl)
    (of_decide_eq_true (by kernel_rfl)) (by unfold Func.isWrapper; first | (rw [if_pos (by decide +kernel)]; kernel_rfl) | (rw [if_neg (by decide +kernel)]; exact ⟨rfl, rfl⟩))
    (fun os started H enc _ => fnReadHeads_lifted os started H enc)

theorem fnReadHeads_cardHolds : Rows.FnReadHeadsCardSaid :=
  Claim7.holds_tied_plain_at .later [] _ true _ false fnReadHeads_holds (fun _ h => by cases h) (by kernel_rfl) (fun _ h => by cases h) fnReadHeads_row_tie rfl ⟨rfl, rfl⟩ (by kernel_rfl) rfl
    (fun f fn hf hfn => by
      obtain rfl : f = 8 := Option.some.inj ((show Tryd.prog.funcNamed "loop.example/templateescaper/laws.FnReadHeads" = some 8 by kernel_rfl).symm.trans hf) |>.symm
      obtain rfl : fn = Tryd.f8 := (Option.some.inj (Tryd.func8.symm.trans hfn)).symm
      exact ⟨by kernel_rfl, fun j t ht => by
        rw [Tryd.params8] at ht
        have hm : t ∈ [22] := by simpa using Array.mem_of_getElem? ht
        have hall : ([22].all fun u => !Tryd.prog.wantsStandIn u) = true := by kernel_rfl
        exact (show Tryd.prog.wantsStandIn t = false by simpa using List.all_eq_true.1 hall t hm)⟩)
    (by kernel_rfl)

#print axioms fnReadHeads_cardHolds
end Go.Proofs.YtaipignkkbknfaaDoor
