/- For every code: ReadRow of the program and of the reference agree on the drawn line; RowText of the cells that are read is the line; with a double quote behind it the line is refused: the card FnReadRowCardSaid holds. No conditions. -/
import Derived.Test.YtaofgcdpmeeimaaDoorCellsDraw
import Derived.Test.YtaofgcdpmeeimaaDoorReadRow
import Derived.Test.YtaofgcdpmeeimaaDoorSameS
import Derived.Test.YtaofgcdpmeeimaaDoorCardKit
namespace Go.Proofs.YtaofgcdpmeeimaaDoor
open Go.RowKit Go.ChangeShapes Go.WideShapes Go.ChangeAt Go.Joins

theorem dq_even : ∀ l : Tx, (dq l).count 34 = 2 * l.count 34
  | [] => rfl
  | b :: t => by
    have ih := dq_even t
    by_cases hb : (b == 34) = true
    · have e : b = 34 := by simpa using hb
      subst e
      simp [dq, ih]
      omega
    · have hb' : (b == 34) = false := by simpa using hb
      have hn : b ≠ 34 := by simpa using hb'
      simp [dq, hb', ih, hn]
theorem plain_none : ∀ l : Tx, l.any isQ = false → l.count 34 = 0
  | [], _ => rfl
  | b :: t, h => by
    rw [List.any_cons, Bool.or_eq_false_iff] at h
    have hb := h.1
    unfold isQ at hb
    rw [Bool.or_eq_false_iff] at hb
    rw [List.count_cons, hb.2, plain_none t h.2]
    rfl
theorem cell_even (c : Tx) : ∃ k, (cellText c).count 34 = 2 * k := by
  unfold cellText
  by_cases hq : quoted c = true
  · rw [if_pos hq]
    refine ⟨c.count 34 + 1, ?_⟩
    rw [List.count_cons, List.count_append, dq_even]
    simp
    omega
  · rw [if_neg hq]
    have hq' : quoted c = false := by simpa using hq
    unfold quoted at hq'
    rw [Bool.or_eq_false_iff] at hq'
    exact ⟨0, plain_none c hq'.1⟩
theorem row_even : ∀ cs : List Tx, ∃ k, (rowT cs).count 34 = 2 * k
  | [] => ⟨0, rfl⟩
  | [c] => cell_even c
  | c :: d :: t => by
    obtain ⟨a, ha⟩ := cell_even c
    obtain ⟨b, hb⟩ := row_even (d :: t)
    refine ⟨a + b, ?_⟩
    rw [rowT, List.count_append, List.count_cons, ha, hb]
    simp
    omega
theorem readRow_cases (s : Tx) : readRow s = ([], false) ∨ ((readRow s).2 = true ∧ rowText (readRow s).1 = s ∧ s ≠ []) := by
  unfold readRow
  split
  · rename_i h
    exact .inr ⟨rfl, h.2, h.1⟩
  · exact .inl rfl
theorem row_cells {s : Tx} {x : List Tx} (h0 : s ≠ []) (h : rowText x = s) : 1 ≤ x.length ∧ ∀ c ∈ x, c.length ≤ 30 := by
  obtain ⟨_, hx, _⟩ := row_good h0 h
  refine ⟨by cases x <;> simp at hx ⊢, ?_⟩
  unfold rowText at h
  split at h
  · rename_i hc
    rw [Bool.and_eq_true, List.all_eq_true] at hc
    exact fun c hcx => cellOk_len (hc.2 c hcx)
  · exact absurd h.symm h0
theorem readRow_quote {s : Tx} {x : List Tx} (h0 : s ≠ []) (h : rowText x = s) : readRow (s ++ [34]) = ([], false) := by
  rcases readRow_cases (s ++ [34]) with h1 | ⟨_, h2, h3⟩
  · exact h1
  · exfalso
    obtain ⟨_, _, hj⟩ := row_good h0 h
    obtain ⟨_, _, hk⟩ := row_good h3 h2
    obtain ⟨a, ha⟩ := row_even x
    obtain ⟨b, hb⟩ := row_even (readRow (s ++ [34])).1
    rw [hj] at ha
    rw [hk, List.count_append, ha] at hb
    simp at hb
    omega

set_option maxRecDepth 100000 in
set_option maxHeartbeats 2000000 in
theorem readRow_walk (bs : Tx) (A : Option Addr) (c : Nat) (w : World) (hr : Rd w w.heap.size A (bcells bs)) (hc : bs.length ≤ c) (hm : bs.length ≤ maxLen) (hmx : Hm w) :
    Calls Tryd.prog 12 #[.slice A bs.length c] w fun e w' => e = .returned (.bool true) ∧ Below w.heap.size w w' := by
  unfold maxLen at hm
  by_cases h : 1048576 < bs.length
  · go_enter Tryd.func12, Tryd.ntmps12
    go_wp2
    go_ret
    exact ⟨rfl, Below.refl _ _⟩
  · have HD := Lib.hid (spec_DrawReadRow bs A c w hr hc (by omega))
    have HM := Lib.hid hmx
    clear hr hmx
    go_enter Tryd.func12, Tryd.ntmps12
    go_wp2_with fail
    refine HD.out.mono ?_
    rintro e w1 ⟨s, rfl, hs1, hb1⟩
    have HSL : Hid (s.length ≤ maxLen) := by show _ ≤ _; unfold maxLen; omega
    have HSL' : Hid ((s ++ [34]).length ≤ maxLen) := by show _ ≤ _; rw [List.length_append]; unfold maxLen; simp; omega
    have HB1 := Lib.hid hb1
    clear hb1
    have HI := Lib.hid (fun w hA => impl_ReadRow s HSL.out (by omega) w hA)
    have HS := Lib.hid (fun w => spec_ReadRow s HSL.out (by omega) w)
    have HQ := Lib.hid (fun w hA => impl_ReadRow (s ++ [34]) HSL'.out (by simp; omega) w hA)
    have hsum : (9223372036854775807 < s.length + 1) = False := by rw [eq_iff_iff, iff_false]; omega
    have HC := Lib.hid (readRow_cases s)
    have HLN := readRow_len s (by omega)
    have HRX : Hid (∀ x, (readRow s) = (x, true) → 1 ≤ x.length ∧ FitS x ∧ rowText x = s ∧ readRow (s ++ [34]) = ([], false)) := by
      intro x hx
      rcases HC.out with h1 | ⟨_, h2, h3⟩
      · rw [h1] at hx; cases hx
      · rw [hx] at h2
        obtain ⟨h5, h6⟩ := row_cells h3 h2
        exact ⟨h5, fun c hc => Nat.le_trans (h6 c hc) (by decide), h2, readRow_quote h3 h2⟩
    obtain ⟨r, hr⟩ : ∃ r, readRow s = r := ⟨_, rfl⟩
    rw [hr] at HLN
    simp only [hr] at HI HS HC HRX
    clear hr
    obtain ⟨x, ok⟩ := r
    dsimp only at HLN
    have HXL : Hid (x.length ≤ maxLen) := by show _ ≤ _; unfold maxLen; omega
    go_wp2_with fail
    refine (HI.out _ (HM.out.below HB1.out)).mono ?_
    rintro e w2 ⟨A2, c2, rfl, ho, hb⟩
    have HB2 := Lib.hid (HB1.out.trans (hb.mono HB1.out.size))
    have hz2 := HB2.out.size
    have HO2 := Lib.hid ho
    clear hb ho
    go_wp2_with fail
    refine (HS.out _).mono ?_
    rintro e w3 ⟨A3, c3, rfl, ho, hb⟩
    have HB3 := Lib.hid (HB2.out.trans (hb.mono HB2.out.size))
    have hz3 := HB3.out.size
    have HO2 := Lib.hid (ownS_keep HO2.out hb)
    have HO3 := Lib.hid ho
    clear hb ho
    dsimp only
    go_wp2_with fail
    refine (laws_sameTexts x x A2 A3 c2 c3 _ (ownS_rd HO2.out) (ownS_rd HO3.out) HXL.out).mono ?_
    rw [beq_self_eq_true]
    rintro e w4 ⟨rfl, hb⟩
    have HB4 := Lib.hid (HB3.out.trans (hb.mono HB3.out.size))
    have hz4 := HB4.out.size
    have HO2 := Lib.hid (ownS_keep HO2.out hb)
    have HO3 := Lib.hid (ownS_keep HO3.out hb)
    clear hb
    cases ok
    · have hx0 : x = [] := by
        rcases HC.out with h1 | ⟨h2, _⟩
        · injection h1
        · cases h2
      subst hx0
      go_wp2_with fail
      refine (laws_alive _).mono ?_
      rintro e w5 ⟨rfl, hb⟩
      have HB5 := Lib.hid (HB4.out.trans (hb.mono HB4.out.size))
      have hz5 := HB5.out.size
      have HO2 := Lib.hid (ownS_keep HO2.out hb)
      have HO3 := Lib.hid (ownS_keep HO3.out hb)
      clear hb
      go_wp2
      go_ret
      exact ⟨rfl, HB5.out⟩
    · obtain ⟨hx1, hxf, hxt, hxq⟩ := HRX.out x rfl
      have HF := Lib.hid hxf
      have HT := Lib.hid (fun w hr hA => impl_RowText x A2 c2 w hr HF.out HXL.out hA)
      rw [hxt] at HT
      rw [hxq] at HQ
      clear HRX HC hxf hxt hxq
      have hl1 : (1 : Int) ≤ (x.length : Int) := by omega
      go_wp2_with fail
      refine (HQ.out _ (HM.out.below HB4.out)).mono ?_
      rintro e w5 ⟨A5, c5, rfl, ho, hb⟩
      have HB5 := Lib.hid (HB4.out.trans (hb.mono HB4.out.size))
      have hz5 := HB5.out.size
      have HO2 := Lib.hid (ownS_keep HO2.out hb)
      have HO3 := Lib.hid (ownS_keep HO3.out hb)
      have HO5 := Lib.hid ho
      clear hb ho
      dsimp only
      go_wp2_with fail
      refine (HT.out _ (ownS_rd HO2.out) (HM.out.below HB5.out)).mono ?_
      rintro e w6 ⟨rfl, hb⟩
      have HB6 := Lib.hid (HB5.out.trans (hb.mono HB5.out.size))
      have hz6 := HB6.out.size
      have HO2 := Lib.hid (ownS_keep HO2.out hb)
      have HO3 := Lib.hid (ownS_keep HO3.out hb)
      have HO5 := Lib.hid (ownS_keep HO5.out hb)
      clear hb
      go_wp2
      go_ret
      exact ⟨rfl, HB6.out⟩

set_option maxRecDepth 100000 in
theorem fnReadRow_lifted (os : Os) (started : os.Started) (H : Type) (enc : TypeId × Value → H) :
    ReturnsInHanded {} Tryd.checked os 12 .any (fun w args => (Rows.fnReadRowSpec.pre enc Tryd.prog Tryd.f12 Rows.fnReadRowRow.domain false w args ∧ laidMetH Tryd.prog Rows.fnReadRowRow.laid w) ∧ sizedMet enc Tryd.prog Tryd.f12 (OpenSpec.ofChange Rows.fnReadRowSpec) false w args)
      (Rows.fnReadRowSpec.post enc Tryd.prog Tryd.f12 false true false false) := by
  refine returnsInHanded_of_change_and_shaped (C := Tryd.checked) (X := fun w _ => laidMetH Tryd.prog Rows.fnReadRowRow.laid w) (fun _ _ _ hh h => h.of_heap hh) Tryd.own started (by kernel_rfl) Tryd.func12
    (ChangeSpec.witness_shaped (enc := enc) (C := Tryd.checked) (os := os) (X := fun w _ => laidMetH Tryd.prog Rows.fnReadRowRow.laid w) false (World.laidAll Tryd.prog os Rows.fnReadRowRow.laid) #[.slice none 0 0] 8 (World.laidAll_os _ _ _)
      (World.shaped_of_ZipB (by kernel_rfl) (by kernel_rfl)) (by kernel_rfl) (by kernel_rfl) (by kernel_rfl)
      (by rw [MakeChecks.laidMetH_plain _ _ _ (by kernel_rfl)]; exact laidMet_laidAll _ (by kernel_rfl) (by kernel_rfl))) ?_
  intro W base args ds gs before hval0 hW _ _ _ hsh _
  have hval : ∀ (j : Nat) t v, Tryd.f12.params[j]? = some t → args[j]? = some v → Value.okWide Tryd.prog W .any base t v := hval0
  have hW' := hW
  obtain ⟨p, q, hA0, hV, rfl, _, _⟩ := hW
  have hA : DataW.TrodAll enc Tryd.prog W 0 (fun _ => true) true Tryd.f12.params.toList args.toList ds p := hA0
  rw [Tryd.params12] at hA hval
  obtain ⟨v0, d0, rfl, rfl, h0⟩ := trodAll_one hA
  obtain ⟨rfl, rfl⟩ := trodVars_none hV
  obtain ⟨A, c, bs, rfl, hr, hlc, hcm⟩ := open_bytes Tryd.underlying22 Tryd.underlying5 (by kernel_rfl) (hval 0 _ v0 rfl rfl) h0
  refine (readRow_walk bs A c W hr hlc (Nat.le_trans hlc hcm) (hm_shaped hsh)).mono fun e W' ⟨he, hw⟩ => ?_
  subst he
  exact ⟨_, rfl, law_post hW' rfl rfl (by kernel_rfl) Tryd.underlying4 Tryd.laidOut (of_decide_eq_true (by kernel_rfl)) hw⟩

theorem fnReadRow_holds : Rows.FnReadRowSaid :=
  OpenClaim.holds_of_wide 12 Tryd.f12 rfl rfl rfl rfl rfl rfl rfl ⟨rfl, rfl, rfl, rfl, rfl⟩ rfl rfl rfl rfl rfl (by kernel_rfl) Tryd.func12 (by kernel_rfl)
    (of_decide_eq_true (by kernel_rfl)) (by unfold Func.isWrapper; first | (rw [if_pos (by decide +kernel)]; kernel_rfl) | (rw [if_neg (by decide +kernel)]; exact ⟨rfl, rfl⟩))
    (fun os started H enc _ => fnReadRow_lifted os started H enc)

theorem fnReadRow_cardHolds : Rows.FnReadRowCardSaid :=
  Claim7.holds_tied_plain_at .later [] _ true _ false fnReadRow_holds (fun _ h => by cases h) (by kernel_rfl) (fun _ h => by cases h) fnReadRow_row_tie rfl ⟨rfl, rfl⟩ (by kernel_rfl) rfl
    (fun f fn hf hfn => by
      obtain rfl : f = 12 := Option.some.inj ((show Tryd.prog.funcNamed "loop.example/templateescaper/laws.FnReadRow" = some 12 by kernel_rfl).symm.trans hf) |>.symm
      obtain rfl : fn = Tryd.f12 := (Option.some.inj (Tryd.func12.symm.trans hfn)).symm
      exact ⟨by kernel_rfl, fun j t ht => by
        rw [Tryd.params12] at ht
        have hm : t ∈ [22] := by simpa using Array.mem_of_getElem? ht
        have hall : ([22].all fun u => !Tryd.prog.wantsStandIn u) = true := by kernel_rfl
        exact (show Tryd.prog.wantsStandIn t = false by simpa using List.all_eq_true.1 hall t hm)⟩)
    (by kernel_rfl)

#print axioms fnReadRow_cardHolds
end Go.Proofs.YtaofgcdpmeeimaaDoor
