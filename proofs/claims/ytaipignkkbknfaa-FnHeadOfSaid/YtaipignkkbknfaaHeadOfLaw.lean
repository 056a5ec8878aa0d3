/- For every code: HeadOf of the program and of the reference agree on the drawn pairs and name; there is a text exactly if a pair has the name, as long as the texts of all such pairs with two bytes between them: the law FnHeadOf holds. No conditions. -/
import Derived.Test.YtaipignkkbknfaaHeadOf
import Derived.Test.YtaipignkkbknfaaHeadsDraw
import Derived.Test.YtaipignkkbknfaaLower
namespace Go.Proofs.Ytaipignkkbknfaa
open Go.RowKit Go.ChangeShapes Go.WideShapes Go.ChangeAt Go.Joins

theorem small_size : ∀ {ps : List Pr}, Small ps → psize ps ≤ 200 * ps.length
  | [], _ => by simp [psize]
  | p :: t, h => by
    have h1 := small_size (ps := t) ⟨by have := h.1; simp at this; omega, fun q hq => h.2 q (by simp [hq])⟩
    have h2 := h.2 p (by simp)
    simp only [psize, List.length_cons]
    omega
/-- the bytes of the texts of a name -/
def headLong (ps : List Pr) (n : Tx) (k : Nat) : Nat := Lib.lens (headParts ps n k)
theorem lens_append (a b : List Tx) : Lib.lens (a ++ b) = Lib.lens a + Lib.lens b := by simp [Lib.lens]
theorem headLong_succ (ps : List Pr) (n : Tx) (k : Nat) (h : k < ps.length) : headLong ps n (k + 1) = headLong ps n k + (if ps[k].1 == n then ps[k].2.length else 0) := by
  unfold headLong
  rw [headParts_succ ps n k h, lens_append]
  split <;> simp [Lib.lens]
theorem headMany_succ (ps : List Pr) (n : Tx) (k : Nat) (h : k < ps.length) : (headParts ps n (k + 1)).length = (headParts ps n k).length + (if ps[k].1 == n then 1 else 0) := by
  rw [headParts_succ ps n k h, List.length_append]
  split <;> simp
theorem join_length (x : Tx) (r : List Tx) : (Lib.join (x :: r) comma).length = Lib.lens (x :: r) + 2 * r.length := by
  rw [Lib.join_cons, List.length_append, Lib.joinTail_length]
  simp only [Lib.lens, List.map_cons, List.sum_cons, comma, List.length_cons, List.length_nil]
  omega

set_option maxRecDepth 100000 in
set_option maxHeartbeats 1000000 in
theorem headOf_walk (bs : Tx) (A : Option Addr) (c : Nat) (w : World) (hr : Rd w w.heap.size A (bcells bs)) (hc : bs.length ≤ c) (hm : bs.length ≤ maxLen) :
    Calls Try.prog 8 #[.slice A bs.length c] w fun e w' => e = .returned (.bool true) ∧ Below w.heap.size w w' := by
  unfold maxLen at hm
  by_cases h : 1048576 < bs.length
  · go_enter Try.func8, Try.ntmps8
    go_wp2
    go_ret
    exact ⟨rfl, Below.refl _ _⟩
  · have HD := Lib.hid (spec_DrawHeadOf bs A c w hr hc (by omega))
    clear hr
    go_enter Try.func8, Try.ntmps8
    go_wp2_with fail
    refine HD.out.mono ?_
    rintro e w1 ⟨A1, c1, ps, l, rfl, ho1, hs1, hn1, hl1, hb1⟩
    have hps := small_size hs1
    have HL : Hid (l.length ≤ maxLen) := by show _ ≤ _; unfold maxLen; omega
    have HSM := Lib.hid hs1
    have HO1 := Lib.hid ho1
    have HB1 := Lib.hid hb1
    have hz1 := hb1.size
    clear ho1 hs1 hb1
    go_wp2_with fail
    refine (impl_HeadOf ps l A1 c1 _ (ownP_rd HO1.out) (by omega) HL.out).mono ?_
    rintro e w2 ⟨rfl, hb2⟩
    have HO2 := Lib.hid (ownP_keep HO1.out hb2)
    have HB2 := Lib.hid (HB1.out.trans (hb2.mono hz1))
    have hz2 := HB2.out.size
    clear hb2
    go_wp2_with fail
    refine (spec_HeadOf ps l A1 c1 _ (ownP_rd HO2.out) (by omega) HL.out).mono ?_
    rintro e w3 ⟨rfl, hb3⟩
    have HO3 := Lib.hid (ownP_rd (ownP_keep HO2.out hb3))
    have HB3 := Lib.hid (HB2.out.trans (hb3.mono hz2))
    have hz3 := HB3.out.size
    clear hb3
    have HT : Hid (headText ps l = Lib.join (headParts ps l ps.length) comma) := rfl
    have HM : Hid (∀ k, headLong ps l k = Lib.lens (headParts ps l k)) := fun _ => rfl
    have HP := Lib.hid (headParts_len ps l ps.length)
    have HJ := Lib.hid (head_len ps l ps.length (m := 4194304) (by omega))
    generalize hT : headText ps l = T at *
    generalize hR : decide (0 < (headParts ps l ps.length).length) = R at *
    have HTT := Lib.hid hT
    have HRR := Lib.hid hR
    clear hT hR
    go_wp2
    go_loopw [9, 10, 11] (fun u v i wr => ∃ (k : Nat), k ≤ ps.length ∧ i = .int .i64 k ∧ u = .int .i64 (headLong ps l k) ∧ v = .int .i64 ((headParts ps l k).length) ∧ headLong ps l k ≤ 100 * k ∧ wr = w3) (fun _ _ i _ => ps.length - (intOf i).toNat)
    case atStart => exact ⟨0, Nat.zero_le _, rfl, rfl, rfl, Nat.le_refl _, rfl⟩
    case round =>
      obtain ⟨k, hk, rfl, rfl, rfl, hlk, rfl⟩ := hrel
      by_cases hlt : k < ps.length
      · obtain ⟨b, o, rfl, hab, hc0, hc1⟩ := HO3.out.pair hlt
        have HS := Lib.hid (headLong_succ ps l k hlt)
        have HS2 := Lib.hid (headMany_succ ps l k hlt)
        have hx2 : (headParts ps l k).length ≤ 100000 := by have := headParts_len ps l k; omega
        have hx3 : ps[k].2.length ≤ 100 := (HSM.out.2 _ (List.getElem_mem hlt)).2
        generalize headLong ps l k = u at *
        generalize (headParts ps l k).length = v at *
        cases he : (ps[k].1 == l)
        · have HE := Lib.hid he
          go_wp2
          go_roundw
          case rel => exact ⟨k + 1, by omega, by go_num, by rw [HS.out, HE.out]; simp, by rw [HS2.out, HE.out]; simp, by rw [HS.out, HE.out]; simp; omega, by first | rfl | trivial⟩
          case measure => simp [intOf]; omega
        · have HE := Lib.hid he
          go_wp2
          go_roundw
          case rel => exact ⟨k + 1, by omega, by go_num, by rw [HS.out, HE.out]; simp, by rw [HS2.out, HE.out]; simp, by rw [HS.out, HE.out]; simp; omega, by first | rfl | trivial⟩
          case measure => simp [intOf]; omega
      · have hkn : k = ps.length := by omega
        subst hkn
        have key : ((headParts ps l ps.length).length = 0 ∧ R = false ∧ T = [] ∧ headLong ps l ps.length = 0) ∨ (0 < (headParts ps l ps.length).length ∧ R = true ∧ T.length = headLong ps l ps.length + 2 * ((headParts ps l ps.length).length - 1)) := by
          have e1 := HT.out
          have e2 := HRR.out
          have e3 := HM.out ps.length
          rw [e3]
          cases hp : headParts ps l ps.length with
          | nil => left; rw [hp] at e1 e2; exact ⟨rfl, e2.symm, e1.trans (Lib.join_nil _), rfl⟩
          | cons x r => right; rw [hp] at e1 e2; exact ⟨by simp, by rw [← e2]; simp, by rw [e1, join_length]; simp⟩
        have hM2 := HP.out
        generalize (headParts ps l ps.length).length = M at *
        generalize headLong ps l ps.length = L at *
        rcases key with ⟨rfl, rfl, rfl, rfl⟩ | ⟨h0, rfl, hT⟩
        · have e1 : max (0 : Int) (0 - 1) = 0 := by decide
          have e3 : max (0 : Int) (-1) = 0 := by decide
          clear hM2 hlk
          rw [show ((0 : Nat) : Int) = 0 from rfl]
          go_wp2_with fail
          refine (laws_alive _).mono ?_
          rintro e w6 ⟨rfl, hb6⟩
          have HB6 := Lib.hid (HB3.out.trans (hb6.mono HB3.out.size))
          clear hb6
          go_wp2
          go_ret
          exact ⟨rfl, HB6.out⟩
        · have e1 : max (0 : Int) ((M : Int) - 1) = (M : Int) - 1 := by omega
          have e2 : ((T.length : Int) == (L : Int) + 2 * ((M : Int) - 1)) = true := by simp; omega
          have hTl : T.length ≤ 4194304 := by have := HJ.out; omega
          clear hT
          go_wp2_with fail
          refine (laws_alive _).mono ?_
          rintro e w6 ⟨rfl, hb6⟩
          have HB6 := Lib.hid (HB3.out.trans (hb6.mono HB3.out.size))
          clear hb6
          go_wp2
          go_ret
          exact ⟨rfl, HB6.out⟩

set_option maxRecDepth 100000 in
theorem fnHeadOf_lifted (os : Os) (started : os.Started) (H : Type) (enc : TypeId × Value → H) :
    ReturnsInHanded {} Try.checked os 8 .any (Rows.fnHeadOfSpec.pre6 enc Try.prog Try.f8 Rows.fnHeadOfRow.domain false)
      (Rows.fnHeadOfSpec.post enc Try.prog Try.f8 false true false false) := by
  refine returnsInHanded_of_change (C := Try.checked) Try.own started (by kernel_rfl) Try.func8
    (ChangeSpec.witness6 (enc := enc) (C := Try.checked) false ⟨#[], #[.slice none 0 0], []⟩ 8 (by kernel_rfl) (by kernel_rfl) (by kernel_rfl) (by kernel_rfl)) ?_
  intro W base args ds gs before hval0 hW _ _
  have hval : ∀ (j : Nat) t v, Try.f8.params[j]? = some t → args[j]? = some v → Value.okWide Try.prog W .any base t v := hval0
  have hW' := hW
  obtain ⟨p, q, hA0, hV, rfl, _, _⟩ := hW
  have hA : DataW.TrodAll enc Try.prog W 0 (fun _ => true) true Try.f8.params.toList args.toList ds p := hA0
  rw [Try.params8] at hA hval
  obtain ⟨v0, d0, rfl, rfl, h0⟩ := trodAll_one hA
  obtain ⟨rfl, rfl⟩ := trodVars_none hV
  obtain ⟨A, c, bs, rfl, hr, hlc, hcm⟩ := open_bytes Try.underlying29 Try.underlying5 (by kernel_rfl) (hval 0 _ v0 rfl rfl) h0
  refine (headOf_walk bs A c W hr hlc (Nat.le_trans hlc hcm)).mono fun e W' ⟨he, hw⟩ => ?_
  subst he
  exact ⟨_, rfl, law_post hW' rfl rfl (by kernel_rfl) Try.underlying4 Try.laidOut (of_decide_eq_true (by kernel_rfl)) hw⟩

theorem fnHeadOf_holds : Rows.FnHeadOfSaid :=
  OpenClaim.holds_of_wide 8 Try.f8 rfl rfl rfl rfl rfl rfl rfl ⟨rfl, rfl, rfl, rfl, rfl⟩ rfl rfl rfl rfl rfl (by kernel_rfl) Try.func8 (by kernel_rfl)
    (of_decide_eq_true (by kernel_rfl)) (by unfold Func.isWrapper; first | (rw [if_pos (by decide +kernel)]; kernel_rfl) | (rw [if_neg (by decide +kernel)]; exact ⟨rfl, rfl⟩))
    (fun os started H enc _ => fnHeadOf_lifted os started H enc)

#print axioms fnHeadOf_holds
end Go.Proofs.Ytaipignkkbknfaa
