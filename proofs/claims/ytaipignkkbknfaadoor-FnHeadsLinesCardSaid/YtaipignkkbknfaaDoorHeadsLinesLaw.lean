/- For every code: HeadsLines of the program and of the reference agree on the drawn pairs; valid pairs have a line each, every line is a valid text, and ReadHeads of the lines returns the pairs; of other pairs there is no line: the card FnHeadsLinesCardSaid holds. No conditions. -/
import Derived.Test.YtaipignkkbknfaaDoorHeadsLines
import Derived.Test.YtaipignkkbknfaaDoorReadHeads
import Derived.Test.YtaipignkkbknfaaDoorHeadsDraw
import Derived.Test.YtaipignkkbknfaaDoorSameS
import Derived.Test.YtaipignkkbknfaaDoorSame
import Derived.Test.YtaipignkkbknfaaDoorCardKit
namespace Go.Proofs.YtaipignkkbknfaaDoor
open Go.RowKit Go.ChangeShapes Go.WideShapes Go.ChangeAt Go.Joins

theorem at_append {c : UInt8} {a b : Tx} (h : a.all (fun x => !(x == c)) = true) : at_ c (a ++ c :: b) = a.length := by
  induction a with
  | nil => simp [at_, List.findIdx_cons]
  | cons x t ih =>
    simp only [List.all_cons, Bool.and_eq_true, Bool.not_eq_true'] at h
    have e : at_ c (x :: (t ++ c :: b)) = at_ c (t ++ c :: b) + 1 := by simp [at_, List.findIdx_cons, h.1]
    rw [List.cons_append, e, ih h.2]
    rfl
theorem nameByte_plain {c : UInt8} (h : nameByte c = true) : (c == 58) = false ∧ isUp c = false ∧ isPrn c = true := by
  have e58 : (c == 58) = false := by
    rw [beq_eq_false_iff_ne]
    intro e
    subst e
    revert h
    decide
  refine ⟨e58, ?_, ?_⟩
  · simp [nameByte, isLow, isDig, isUp] at h ⊢; omega
  · simp [nameByte, isLow, isDig, isPrn] at h ⊢; omega
theorem lower_name {l : Tx} (h : l.all nameByte = true) : lower l = l := by
  induction l with
  | nil => rfl
  | cons c t ih =>
    simp only [List.all_cons, Bool.and_eq_true] at h
    show lowB c :: lower t = _
    rw [lowB_not (nameByte_plain h.1).2.1, ih h.2]
theorem trimSp_space (v : Tx) : trimSp (32 :: v) = trimSp v := by
  unfold trimSp
  rw [← trim_comm, ← trim_comm, ltrim_space]
theorem head_parts {p : Pr} (h : headOk p = true) : p.1.all nameByte = true ∧ p.1.length ≤ 10 ∧ p.2.length ≤ 40 ∧ p.2.all isPrn = true ∧ trimSp p.2 = p.2 := by
  simp only [headOk, nameOk, valOk, textOk, Bool.and_eq_true, decide_eq_true_eq, beq_iff_eq] at h
  exact ⟨h.1.1.2, h.1.1.1.1.2, h.1.2.1, h.1.2.2.2, h.2⟩
theorem line_at {p : Pr} (h : headOk p = true) : at_ 58 (lineOf p) = p.1.length := by
  refine at_append ?_
  have := (head_parts h).1
  rw [List.all_eq_true] at this ⊢
  intro x hx
  rw [(nameByte_plain (this x hx)).1]
  rfl
theorem line_has {p : Pr} (h : headOk p = true) : has 58 (lineOf p) = true := by
  unfold has
  rw [line_at h]
  simp [lineOf]
theorem line_read {p : Pr} (h : headOk p = true) : readLine (lineOf p) = p := by
  obtain ⟨h1, _, _, _, h5⟩ := head_parts h
  unfold readLine
  rw [line_at h]
  have e1 : (lineOf p).take p.1.length = p.1 := by simp [lineOf]
  have e2 : (lineOf p).drop (p.1.length + 1) = 32 :: p.2 := by
    unfold lineOf
    rw [List.drop_append]
    simp
  rw [e1, e2, lower_name h1, trimSp_space, h5]
theorem line_text {p : Pr} (h : headOk p = true) : textOk (lineOf p) = true := by
  obtain ⟨h1, h2, h3, h4, _⟩ := head_parts h
  simp only [textOk, Bool.and_eq_true, decide_eq_true_eq]
  refine ⟨by simp [lineOf]; omega, ?_⟩
  unfold lineOf
  rw [List.all_append, List.all_cons, List.all_cons, h4]
  have : p.1.all isPrn = true := by
    rw [List.all_eq_true] at h1 ⊢
    exact fun x hx => (nameByte_plain (h1 x hx)).2.2
  rw [this]
  decide
theorem heads_each {ps : List Pr} (h : headsOk ps = true) : ps.length ≤ 6 ∧ ∀ p ∈ ps, headOk p = true := by
  simp only [headsOk, Bool.and_eq_true, decide_eq_true_eq, List.all_eq_true] at h
  exact h
theorem hdLines_all (ps : List Pr) : hdLines ps ps.length = ps.map lineOf := by simp [hdLines]
theorem readLines_all (xs : List Tx) : readLines xs xs.length = xs.map readLine := by simp [readLines]
theorem read_lines {ps : List Pr} (h : headsOk ps = true) : readHeads (headsLines ps) = (ps, true) := by
  obtain ⟨h6, hh⟩ := heads_each h
  have e0 : headsLines ps = ps.map lineOf := by rw [headsLines, if_pos h, hdLines_all]
  have e1 : (ps.map lineOf).map readLine = ps := by
    rw [List.map_map]
    refine (List.map_congr_left (g := id) fun p hp => ?_).trans (List.map_id _)
    exact line_read (hh p hp)
  have e2 : (ps.map lineOf).all (has 58) = true := by
    rw [List.all_eq_true]
    intro x hx
    obtain ⟨p, hp, rfl⟩ := List.mem_map.1 hx
    exact line_has (hh p hp)
  rw [e0, readHeads, e2, List.length_map, decide_eq_true h6, readLines]
  simp only [Bool.and_self, if_true]
  rw [show (ps.map lineOf).take ps.length = ps.map lineOf by rw [List.take_of_length_le]; simp, e1, h]
  rfl
theorem lines_size {ps : List Pr} (h : headsOk ps = true) : (headsLines ps).length + ssize (headsLines ps) ≤ 1048576 := by
  obtain ⟨h6, hh⟩ := heads_each h
  rw [headsLines, if_pos h, hdLines_all, List.length_map]
  have : ∀ qs : List Pr, (∀ p ∈ qs, headOk p = true) → ssize (qs.map lineOf) ≤ 60 * qs.length := by
    intro qs
    induction qs with
    | nil => intro _; simp [ssize]
    | cons p t ih =>
      intro hq
      have h1 := ih fun q hq' => hq q (by simp [hq'])
      obtain ⟨_, h2, h3, _, _⟩ := head_parts (hq p (by simp))
      have h4 : (lineOf p).length = p.1.length + 2 + p.2.length := by simp [lineOf]; omega
      rw [List.map_cons, ssize, List.length_cons]
      omega
  have := this ps hh
  omega
theorem small_size : ∀ {ps : List Pr}, Small ps → psize ps ≤ 200 * ps.length
  | [], _ => by simp [psize]
  | p :: t, h => by
    have h1 := small_size (ps := t) ⟨by have := h.1; simp at this; omega, fun q hq => h.2 q (by simp [hq])⟩
    have h2 := h.2 p (by simp)
    simp only [psize, List.length_cons]
    omega

set_option maxRecDepth 100000 in
set_option maxHeartbeats 2000000 in
theorem headsLines_walk (bs : Tx) (A : Option Addr) (c : Nat) (w : World) (hr : Rd w w.heap.size A (bcells bs)) (hc : bs.length ≤ c) (hm : bs.length ≤ maxLen) :
    Calls Tryd.prog 6 #[.slice A bs.length c] w fun e w' => e = .returned (.bool true) ∧ Below w.heap.size w w' := by
  unfold maxLen at hm
  by_cases h : 1048576 < bs.length
  · go_enter Tryd.func6, Tryd.ntmps6
    go_wp2
    go_ret
    exact ⟨rfl, Below.refl _ _⟩
  · have HD := Lib.hid (spec_DrawHeadsLines bs A c w hr hc (by omega))
    clear hr
    go_enter Tryd.func6, Tryd.ntmps6
    go_wp2_with fail
    refine HD.out.mono ?_
    rintro e w1 ⟨A1, c1, ps, rfl, ho1, hs1, hn1, hb1⟩
    have hps := small_size hs1
    have HF := Lib.hid (small_fit hs1)
    have HL : Hid (ps.length ≤ maxLen) := by show _ ≤ _; unfold maxLen; omega
    have HO1 := Lib.hid ho1
    have HB1 := Lib.hid hb1
    have hz1 := hb1.size
    clear ho1 hs1 hb1
    have HI := Lib.hid (fun w hr hA => impl_HeadsLines ps A1 c1 w hr hA HF.out HL.out (by omega))
    have HS := Lib.hid (fun w hr hA => spec_HeadsLines ps A1 c1 w hr hA HF.out HL.out (by omega))
    have hxl : (headsLines ps).length ≤ 11 := headsLines_len ps hn1
    have HXL : Hid ((headsLines ps).length ≤ maxLen) := by show _ ≤ _; unfold maxLen; omega
    have HSP : Hid ((headsOk ps = false ∧ headsLines ps = []) ∨ (headsOk ps = true ∧ (headsLines ps).length = ps.length ∧ (∀ x ∈ headsLines ps, textOk x = true ∧ x.length ≤ maxLen) ∧ readHeads (headsLines ps) = (ps, true) ∧ (headsLines ps).length + ssize (headsLines ps) ≤ 1048576)) := by
      show _ ∨ _
      cases hok : headsOk ps
      · left; exact ⟨rfl, by rw [headsLines, hok]; rfl⟩
      · right
        refine ⟨rfl, by rw [headsLines, hok, if_pos rfl, hdLines_all, List.length_map], ?_, read_lines hok, lines_size hok⟩
        intro x hx
        rw [headsLines, hok, if_pos rfl, hdLines_all] at hx
        obtain ⟨p, hp, rfl⟩ := List.mem_map.1 hx
        obtain ⟨_, h2, h3, _, _⟩ := head_parts ((heads_each hok).2 p hp)
        exact ⟨line_text ((heads_each hok).2 p hp), by simp [lineOf, maxLen]; omega⟩
    generalize headsLines ps = xs at *
    go_wp2_with fail
    refine (HI.out _ (ownP_rd HO1.out) (own_none HO1.out)).mono ?_
    rintro e w2 ⟨A2, c2, rfl, ho2, hb2⟩
    have HO1 := Lib.hid (ownP_keep HO1.out hb2)
    have HB2 := Lib.hid (HB1.out.trans (hb2.mono hz1))
    have HO2 := Lib.hid ho2
    clear hb2 ho2
    go_wp2_with fail
    refine (HS.out _ (ownP_rd HO1.out) (own_none HO1.out)).mono ?_
    rintro e w3 ⟨A3, c3, rfl, ho3, hb3⟩
    have HO1 := Lib.hid (ownP_keep HO1.out hb3)
    have HO2 := Lib.hid (ownS_keep HO2.out hb3)
    have HB3 := Lib.hid (HB2.out.trans (hb3.mono HB2.out.size))
    have HO3 := Lib.hid ho3
    clear hb3 ho3
    go_wp2_with fail
    refine (laws_sameTexts xs xs A2 A3 c2 c3 _ (ownS_rd HO2.out) (ownS_rd HO3.out) HXL.out).mono ?_
    rw [beq_self_eq_true]
    rintro e w4 ⟨rfl, hb4⟩
    have HO1 := Lib.hid (ownP_keep HO1.out hb4)
    have HO2 := Lib.hid (ownS_keep HO2.out hb4)
    have HB4 := Lib.hid (HB3.out.trans (hb4.mono HB3.out.size))
    clear hb4
    go_wp2_with fail
    refine (spec_HeadsValid ps A1 c1 _ (ownP_rd HO1.out) HF.out HL.out).mono ?_
    rintro e w5 ⟨rfl, hb5⟩
    have HO1 := Lib.hid (ownP_keep HO1.out hb5)
    have HO2 := Lib.hid (ownS_keep HO2.out hb5)
    have HB5 := Lib.hid (HB4.out.trans (hb5.mono HB4.out.size))
    clear hb5
    rcases HSP.out with ⟨hok, hx0⟩ | ⟨hok, hxn, hxt, hxr, hxs⟩
    · rw [hok]
      subst hx0
      clear hok
      go_wp2_with fail
      refine (laws_alive _).mono ?_
      rintro e w6 ⟨rfl, hb6⟩
      have HB6 := Lib.hid (HB5.out.trans (hb6.mono HB5.out.size))
      clear hb6
      go_wp2
      go_ret
      exact ⟨rfl, HB6.out⟩
    · rw [hok]
      have HXN := Lib.hid hxn
      have HXT := Lib.hid hxt
      have HXR := Lib.hid hxr
      have HXS := Lib.hid hxs
      have HR2 := Lib.hid (ownS_rd HO2.out)
      clear hok hxn hxt hxr hxs
      go_wp2
      go_loop [5] (fun i => ∃ (k : Nat), k ≤ xs.length ∧ i = .int .i64 k) (fun i => xs.length - (intOf i).toNat)
      case atStart => exact ⟨0, Nat.zero_le _, rfl⟩
      case round =>
        obtain ⟨k, hk, rfl⟩ := hrel
        by_cases hlt : k < xs.length
        · obtain ⟨b, o, rfl, hab, hc0⟩ := HR2.out.str hlt
          have HT := Lib.hid (HXT.out _ (List.getElem_mem hlt))
          go_wp2_with fail
          refine (impl_TextValid xs[k] HT.out.2 _).mono ?_
          rw [HT.out.1]
          rintro e w' ⟨rfl, rfl⟩
          go_wp2
          go_round
          case rel => exact ⟨k + 1, by omega, by go_num⟩
          case measure => simp [intOf]; omega
        · have hkn : k = xs.length := by omega
          subst hkn
          have HRH := Lib.hid (fun w hr hA => impl_ReadHeads xs A2 c2 w hr hA (fun x hx => (HXT.out x hx).2) HXL.out HXS.out)
          simp only [HXR.out] at HRH
          go_wp2_with fail
          refine (HRH.out _ HR2.out (own_none HO2.out)).mono ?_
          rintro e w6 ⟨A6, c6, rfl, ho6, hb6⟩
          have HB6 := Lib.hid (HB5.out.trans (hb6.mono HB5.out.size))
          have HO1 := Lib.hid (ownP_keep HO1.out hb6)
          have HO6 := Lib.hid ho6
          clear ho6 hb6
          dsimp only
          go_wp2_with fail
          refine (laws_samePairs ps ps A6 A1 c6 c1 _ (ownP_rd HO6.out) (ownP_rd HO1.out) HL.out).mono ?_
          rw [beq_self_eq_true]
          rintro e w7 ⟨rfl, hb7⟩
          have HB7 := Lib.hid (HB6.out.trans (hb7.mono HB6.out.size))
          have e1 : ((xs.length : Int) == (ps.length : Int)) = true := by rw [HXN.out]; simp
          clear hb7
          go_wp2
          go_ret
          exact ⟨rfl, HB7.out⟩

set_option maxRecDepth 100000 in
theorem fnHeadsLines_lifted (os : Os) (started : os.Started) (H : Type) (enc : TypeId × Value → H) :
    ReturnsInHanded {} Tryd.checked os 6 .any (fun w args => (Rows.fnHeadsLinesSpec.pre enc Tryd.prog Tryd.f6 Rows.fnHeadsLinesRow.domain false w args ∧ laidMetH Tryd.prog Rows.fnHeadsLinesRow.laid w) ∧ sizedMet enc Tryd.prog Tryd.f6 (OpenSpec.ofChange Rows.fnHeadsLinesSpec) false w args)
      (Rows.fnHeadsLinesSpec.post enc Tryd.prog Tryd.f6 false true false false) := by
  refine returnsInHanded_of_change_and (C := Tryd.checked) (X := fun w _ => laidMetH Tryd.prog Rows.fnHeadsLinesRow.laid w) (fun _ _ _ hh h => h.of_heap hh) Tryd.own started (by kernel_rfl) Tryd.func6
    (ChangeSpec.witness_shaped (enc := enc) (C := Tryd.checked) (os := os) (X := fun w _ => laidMetH Tryd.prog Rows.fnHeadsLinesRow.laid w) false (World.laidAll Tryd.prog os Rows.fnHeadsLinesRow.laid) #[.slice none 0 0] 8 (World.laidAll_os _ _ _)
      (World.shaped_of_ZipB (by kernel_rfl) (by kernel_rfl)) (by kernel_rfl) (by kernel_rfl) (by kernel_rfl)
      (by rw [MakeChecks.laidMetH_plain _ _ _ (by kernel_rfl)]; exact laidMet_laidAll _ (by kernel_rfl) (by kernel_rfl))) ?_
  intro W base args ds gs before hval0 hW _ _ _ _
  have hval : ∀ (j : Nat) t v, Tryd.f6.params[j]? = some t → args[j]? = some v → Value.okWide Tryd.prog W .any base t v := hval0
  have hW' := hW
  obtain ⟨p, q, hA0, hV, rfl, _, _⟩ := hW
  have hA : DataW.TrodAll enc Tryd.prog W 0 (fun _ => true) true Tryd.f6.params.toList args.toList ds p := hA0
  rw [Tryd.params6] at hA hval
  obtain ⟨v0, d0, rfl, rfl, h0⟩ := trodAll_one hA
  obtain ⟨rfl, rfl⟩ := trodVars_none hV
  obtain ⟨A, c, bs, rfl, hr, hlc, hcm⟩ := open_bytes Tryd.underlying22 Tryd.underlying5 (by kernel_rfl) (hval 0 _ v0 rfl rfl) h0
  refine (headsLines_walk bs A c W hr hlc (Nat.le_trans hlc hcm)).mono fun e W' ⟨he, hw⟩ => ?_
  subst he
  exact ⟨_, rfl, law_post hW' rfl rfl (by kernel_rfl) Tryd.underlying4 Tryd.laidOut (of_decide_eq_true (by kernel_rfl)) hw⟩

theorem fnHeadsLines_holds : Rows.FnHeadsLinesSaid :=
  OpenClaim.holds_of_wide 6 Tryd.f6 rfl rfl rfl rfl rfl rfl rfl ⟨rfl, rfl, rfl, rfl, rfl⟩ rfl rfl rfl rfl rfl (by kernel_rfl) Tryd.func6 (by kernel_rfl)
    (of_decide_eq_true (by kernel_rfl)) (by unfold Func.isWrapper; first | (rw [if_pos (by decide +kernel)]; kernel_rfl) | (rw [if_neg (by decide +kernel)]; exact ⟨rfl, rfl⟩))
    (fun os started H enc _ => fnHeadsLines_lifted os started H enc)

theorem fnHeadsLines_cardHolds : Rows.FnHeadsLinesCardSaid :=
  Claim7.holds_tied_plain_at .later [] _ true _ false fnHeadsLines_holds (fun _ h => by cases h) (by kernel_rfl) (fun _ h => by cases h) fnHeadsLines_row_tie rfl ⟨rfl, rfl⟩ (by kernel_rfl) rfl
    (fun f fn hf hfn => by
      obtain rfl : f = 6 := Option.some.inj ((show Tryd.prog.funcNamed "loop.example/templateescaper/laws.FnHeadsLines" = some 6 by kernel_rfl).symm.trans hf) |>.symm
      obtain rfl : fn = Tryd.f6 := (Option.some.inj (Tryd.func6.symm.trans hfn)).symm
      exact ⟨by kernel_rfl, fun j t ht => by
        rw [Tryd.params6] at ht
        have hm : t ∈ [22] := by simpa using Array.mem_of_getElem? ht
        have hall : ([22].all fun u => !Tryd.prog.wantsStandIn u) = true := by kernel_rfl
        exact (show Tryd.prog.wantsStandIn t = false by simpa using List.all_eq_true.1 hall t hm)⟩)
    (by kernel_rfl)

#print axioms fnHeadsLines_cardHolds
end Go.Proofs.YtaipignkkbknfaaDoor
