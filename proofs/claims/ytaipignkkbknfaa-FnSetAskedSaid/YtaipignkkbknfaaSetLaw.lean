/- For every code: SetAsked of the program and of the reference agree on the drawn pairs, name and text; where the set is taken there is exactly one pair with the name and the text, and all others stay: the law FnSetAsked holds. No conditions. -/
import Derived.Test.YtaipignkkbknfaaSetAsked
import Derived.Test.YtaipignkkbknfaaSetDraw
import Derived.Test.YtaipignkkbknfaaSame
import Derived.Test.YtaipignkkbknfaaLower
namespace Go.Proofs.Ytaipignkkbknfaa
open Go.RowKit Go.ChangeShapes Go.WideShapes Go.ChangeAt Go.Joins

def hit (n t : Tx) (p : Pr) : Bool := p.1 == n && p.2 == t
def oth (n : Tx) (p : Pr) : Bool := !(p.1 == n)
theorem countP_succ {α : Type} (f : α → Bool) (l : List α) (k : Nat) (h : k < l.length) : (l.take (k + 1)).countP f = (l.take k).countP f + (if f l[k] then 1 else 0) := by
  rw [take_snoc l k h, List.countP_append, List.countP_cons, List.countP_nil]
  omega
theorem fold_count (n t : Tx) (ps : List Pr) : ∀ k, k ≤ ps.length → (setFold n t ps k).1.countP (hit n t) = (if (setFold n t ps k).2 then 1 else 0) ∧ (setFold n t ps k).1.countP (oth n) = (ps.take k).countP (oth n)
  | 0, _ => by simp [setFold]
  | k + 1, h => by
    obtain ⟨h1, h2⟩ := fold_count n t ps k (by omega)
    rw [setFold_succ n t ps k (by omega), countP_succ _ ps k (by omega)]
    unfold setStep
    cases he : (ps[k].1 == n)
    · have e1 : hit n t ps[k] = false := by simp [hit, he]
      have e2 : oth n ps[k] = true := by simp [oth, he]
      simp only [Bool.false_eq_true, if_false, List.countP_append, List.countP_cons, List.countP_nil, e1, e2, if_true]
      omega
    · have e2 : oth n ps[k] = false := by simp [oth, he]
      have e3 : hit n t (n, t) = true := by simp [hit]
      have e4 : oth n (n, t) = false := by simp [oth]
      simp only [if_true]
      cases hs : (setFold n t ps k).2
      · rw [hs] at h1
        simp only [Bool.false_eq_true, if_false, List.countP_append, List.countP_cons, List.countP_nil, e2, e3, e4, if_true] at h1 ⊢
        omega
      · rw [hs] at h1
        simp only [if_true, hs, e2, Bool.false_eq_true, if_false] at h1 ⊢
        omega
theorem set_count (n t : Tx) (ps : List Pr) : (setList n t ps).countP (hit n t) = 1 ∧ (setList n t ps).countP (oth n) = ps.countP (oth n) := by
  obtain ⟨h1, h2⟩ := fold_count n t ps ps.length (Nat.le_refl _)
  rw [List.take_length] at h2
  have e3 : hit n t (n, t) = true := by simp [hit]
  have e4 : oth n (n, t) = false := by simp [oth]
  unfold setList
  cases hs : (setFold n t ps ps.length).2
  · rw [hs] at h1
    simp only [Bool.false_eq_true, if_false, List.countP_append, List.countP_cons, List.countP_nil, e3, e4, if_true] at h1 ⊢
    omega
  · rw [hs] at h1
    simp only [if_true] at h1 ⊢
    exact ⟨h1, h2⟩

set_option maxRecDepth 100000 in
set_option maxHeartbeats 2000000 in
theorem setAsked_walk (bs : Tx) (A : Option Addr) (c : Nat) (w : World) (hr : Rd w w.heap.size A (bcells bs)) (hc : bs.length ≤ c) (hm : bs.length ≤ maxLen) :
    Calls Try.prog 5 #[.slice A bs.length c] w fun e w' => e = .returned (.bool true) ∧ Below w.heap.size w w' := by
  unfold maxLen at hm
  by_cases h : 1048576 < bs.length
  · go_enter Try.func5, Try.ntmps5
    go_wp2
    go_ret
    exact ⟨rfl, Below.refl _ _⟩
  · have HD := Lib.hid (spec_DrawSetAsked bs A c w hr hc (by omega))
    clear hr
    go_enter Try.func5, Try.ntmps5
    go_wp2_with fail
    refine HD.out.mono ?_
    rintro e w1 ⟨A1, c1, ps, l, t, rfl, ho1, hs1, hn1, hl1, ht1, hb1⟩
    have HF := Lib.hid (small_fit hs1)
    have HL : Hid (l.length ≤ maxLen) := by show _ ≤ _; unfold maxLen; omega
    have HT : Hid (t.length ≤ maxLen) := by show _ ≤ _; unfold maxLen; omega
    have HN : Hid (ps.length ≤ maxLen) := by show _ ≤ _; unfold maxLen; omega
    have HO1 := Lib.hid ho1
    have HB1 := Lib.hid hb1
    have hz1 := hb1.size
    clear ho1 hs1 hb1
    have hxl := setAsked_len ps l t (m := 10) hn1
    have HXF : Hid (Fit (setAsked ps l t).1) := by
      show Fit _
      have hsl : Fit (setList l t ps) := by
        unfold setList
        split
        · exact setFold_fit l t HL.out HT.out ps HF.out _ (Nat.le_refl _)
        · intro p hp
          rcases List.mem_append.1 hp with hp | hp
          · exact setFold_fit l t HL.out HT.out ps HF.out _ (Nat.le_refl _) p hp
          · simp at hp; subst hp; exact ⟨HL.out, HT.out⟩
      unfold setAsked
      split
      · split
        · exact hsl
        · exact HF.out
      · intro p hp; simp at hp
    have hSP : ((setAsked ps l t).2 = false ∧ ((setAsked ps l t).1 = ps ∨ (setAsked ps l t).1 = [])) ∨ ((setAsked ps l t).2 = true ∧ askedOk (setAsked ps l t).1 = true ∧ (setAsked ps l t).1.countP (hit l t) = 1 ∧ (setAsked ps l t).1.countP (oth l) = ps.countP (oth l)) := by
      have hcnt := set_count l t ps
      unfold setAsked
      cases h1 : askedOk ps
      · left; exact ⟨rfl, .inr rfl⟩
      · cases h2 : askedOk (setList l t ps)
        · left; exact ⟨rfl, .inl rfl⟩
        · right; exact ⟨rfl, h2, hcnt⟩
    have HSP := Lib.hid hSP
    clear hSP
    have HI := Lib.hid (fun w hr hA => impl_SetAsked ps l t A1 c1 w hr hA HF.out HN.out HL.out HT.out)
    have HS := Lib.hid (fun w hr hA => spec_SetAsked ps l t A1 c1 w hr hA HF.out HN.out HL.out HT.out)
    generalize setAsked ps l t = r at *
    obtain ⟨xs, ok⟩ := r
    simp only at hxl HXF HSP
    have HXN : Hid (xs.length ≤ maxLen) := by show _ ≤ _; unfold maxLen; omega
    go_wp2_with fail
    refine (HI.out _ (ownP_rd HO1.out) (own_none HO1.out)).mono ?_
    rintro e w2 ⟨A2, c2, rfl, ho2, hb2⟩
    have HO1 := Lib.hid (ownP_keep HO1.out hb2)
    have HB2 := Lib.hid (HB1.out.trans (hb2.mono hz1))
    have HO2 := Lib.hid ho2
    clear hb2 ho2
    go_wp2_with fail
    refine (HS.out _ (ownP_rd HO1.out) (own_none HO1.out)).mono ?_
    rintro e w3 ⟨A3, c3, rfl, ho3, hb3⟩
    have HO1 := Lib.hid (ownP_keep HO1.out hb3)
    have HO2 := Lib.hid (ownP_keep HO2.out hb3)
    have HB3 := Lib.hid (HB2.out.trans (hb3.mono HB2.out.size))
    have HO3 := Lib.hid ho3
    clear hb3 ho3
    go_wp2_with fail
    refine (laws_samePairs xs xs A2 A3 c2 c3 _ (ownP_rd HO2.out) (ownP_rd HO3.out) HXN.out).mono ?_
    rw [beq_self_eq_true]
    rintro e w4 ⟨rfl, hb4⟩
    have HO1 := Lib.hid (ownP_keep HO1.out hb4)
    have HO2 := Lib.hid (ownP_keep HO2.out hb4)
    have HB4 := Lib.hid (HB3.out.trans (hb4.mono HB3.out.size))
    clear hb4
    cases ok
    · go_wp2_with fail
      refine (laws_samePairs xs ps A2 A1 c2 c1 _ (ownP_rd HO2.out) (ownP_rd HO1.out) HXN.out).mono ?_
      rintro e w5 ⟨rfl, hb5⟩
      have HB5 := Lib.hid (HB4.out.trans (hb5.mono HB4.out.size))
      clear hb5
      have HX2 : Hid (xs = ps ∨ xs = []) := by
        rcases HSP.out with h | h
        · exact h.2
        · cases h.1
      cases hE : (xs == ps)
      · have h0 : xs = [] := by
          rcases HX2.out with h | h
          · rw [h] at hE; simp at hE
          · exact h
        subst h0
        clear hE
        go_wp2_with fail
        refine (laws_alive _).mono ?_
        rintro e w6 ⟨rfl, hb6⟩
        have HB6 := Lib.hid (HB5.out.trans (hb6.mono HB5.out.size))
        clear hb6
        go_wp2
        go_ret
        exact ⟨rfl, HB6.out⟩
      · clear hE
        go_wp2_with fail
        refine (laws_alive _).mono ?_
        rintro e w6 ⟨rfl, hb6⟩
        have HB6 := Lib.hid (HB5.out.trans (hb6.mono HB5.out.size))
        clear hb6
        go_wp2
        go_ret
        exact ⟨rfl, HB6.out⟩
    · have HX : Hid (askedOk xs = true ∧ xs.countP (hit l t) = 1 ∧ xs.countP (oth l) = ps.countP (oth l)) := by
        rcases HSP.out with h | h
        · cases h.1
        · exact h.2
      have HR2 := Lib.hid (ownP_rd HO2.out)
      have HR1 := Lib.hid (ownP_rd HO1.out)
      go_wp2
      go_loopw [10, 11, 12] (fun u v i wr => ∃ (k : Nat), k ≤ xs.length ∧ i = .int .i64 k ∧ u = .int .i64 ((xs.take k).countP (hit l t)) ∧ v = .int .i64 ((xs.take k).countP (oth l)) ∧ wr = w4) (fun _ _ i _ => xs.length - (intOf i).toNat)
      case atStart => exact ⟨0, Nat.zero_le _, rfl, rfl, rfl, rfl⟩
      case round =>
        obtain ⟨k, hk, rfl, rfl, rfl, rfl⟩ := hrel
        have hcl1 : (xs.take k).countP (hit l t) ≤ k := Nat.le_trans List.countP_le_length (List.length_take_le _ _)
        have hcl2 : (xs.take k).countP (oth l) ≤ k := Nat.le_trans List.countP_le_length (List.length_take_le _ _)
        by_cases hlt : k < xs.length
        · obtain ⟨b, o, rfl, hab, hc0, hc1⟩ := HR2.out.pair hlt
          have HC1 := Lib.hid (countP_succ (hit l t) xs k hlt)
          have HC2 := Lib.hid (countP_succ (oth l) xs k hlt)
          generalize (xs.take k).countP (hit l t) = u at *
          generalize (xs.take k).countP (oth l) = v at *
          have HH : Hid (hit l t xs[k] = (xs[k].1 == l && xs[k].2 == t)) := rfl
          have HG : Hid (oth l xs[k] = !(xs[k].1 == l)) := rfl
          generalize hit l t xs[k] = hh at *
          generalize oth l xs[k] = gg at *
          generalize xs[k].1 = x1 at *
          generalize xs[k].2 = x2 at *
          cases e1 : (x1 == l)
          · have E1 := Lib.hid e1
            go_wp2
            go_roundw
            case rel => exact ⟨k + 1, by omega, by go_num, by rw [HC1.out, HH.out, E1.out]; simp, by rw [HC2.out, HG.out, E1.out]; simp, by first | rfl | trivial⟩
            case measure => simp [intOf]; omega
          · have E1 := Lib.hid e1
            cases e2 : (x2 == t)
            · have E2 := Lib.hid e2
              go_wp2
              go_roundw
              case rel => exact ⟨k + 1, by omega, by go_num, by rw [HC1.out, HH.out, E1.out, E2.out]; simp, by rw [HC2.out, HG.out, E1.out]; simp, by first | rfl | trivial⟩
              case measure => simp [intOf]; omega
            · have E2 := Lib.hid e2
              go_wp2
              go_roundw
              case rel => exact ⟨k + 1, by omega, by go_num, by rw [HC1.out, HH.out, E1.out, E2.out]; simp, by rw [HC2.out, HG.out, E1.out]; simp, by first | rfl | trivial⟩
              case measure => simp [intOf]; omega
        · have hkn : k = xs.length := by omega
          subst hkn
          have HY := HX.out
          rw [List.take_length] at *
          rw [HY.2.1, HY.2.2]
          have hps : ps.countP (oth l) ≤ ps.length := List.countP_le_length
          clear HY hcl1 hcl2
          go_wp2
          go_loopw [11, 13] (fun v i wq => ∃ (k : Nat), k ≤ ps.length ∧ i = .int .i64 k ∧ v = .int .i64 ((ps.countP (oth l) : Int) - (ps.take k).countP (oth l)) ∧ wq = wr) (fun _ i _ => ps.length - (intOf i).toNat)
          case atStart => exact ⟨0, Nat.zero_le _, rfl, by simp, by first | rfl | trivial⟩
          case round =>
            obtain ⟨k, hk, rfl, rfl, rfl⟩ := hrel
            have hcl2 : (ps.take k).countP (oth l) ≤ k := Nat.le_trans List.countP_le_length (List.length_take_le _ _)
            by_cases hlt : k < ps.length
            · obtain ⟨b, o, rfl, hab, hc0, hc1⟩ := HR1.out.pair hlt
              have HC2 := Lib.hid (countP_succ (oth l) ps k hlt)
              generalize (ps.take k).countP (oth l) = v at *
              generalize ps.countP (oth l) = vt at *
              have HG : Hid (oth l ps[k] = !(ps[k].1 == l)) := rfl
              generalize oth l ps[k] = gg at *
              generalize ps[k].1 = x1 at *
              cases e1 : (x1 == l)
              · have E1 := Lib.hid e1
                go_wp2
                go_roundw
                case rel => exact ⟨k + 1, by omega, by go_num, by rw [HC2.out, HG.out, E1.out]; simp; omega, by first | rfl | trivial⟩
                case measure => simp [intOf]; omega
              · have E1 := Lib.hid e1
                go_wp2
                go_roundw
                case rel => exact ⟨k + 1, by omega, by go_num, by rw [HC2.out, HG.out, E1.out]; simp, by first | rfl | trivial⟩
                case measure => simp [intOf]; omega
            · have hkn : k = ps.length := by omega
              subst hkn
              rw [List.take_length, Int.sub_self]
              go_wp2_with fail
              refine (impl_AskedValid xs A2 c2 _ HR2.out HXF.out HXN.out).mono ?_
              rw [HX.out.1]
              rintro e w6 ⟨rfl, hb6⟩
              have HB6 := Lib.hid (HB4.out.trans (hb6.mono HB4.out.size))
              clear hb6
              go_wp2
              go_ret
              exact ⟨rfl, HB6.out⟩

set_option maxRecDepth 100000 in
theorem fnSetAsked_lifted (os : Os) (started : os.Started) (H : Type) (enc : TypeId × Value → H) :
    ReturnsInHanded {} Try.checked os 5 .any (Rows.fnSetAskedSpec.pre6 enc Try.prog Try.f5 Rows.fnSetAskedRow.domain false)
      (Rows.fnSetAskedSpec.post enc Try.prog Try.f5 false true false false) := by
  refine returnsInHanded_of_change (C := Try.checked) Try.own started (by kernel_rfl) Try.func5
    (ChangeSpec.witness6 (enc := enc) (C := Try.checked) false ⟨#[], #[.slice none 0 0], []⟩ 8 (by kernel_rfl) (by kernel_rfl) (by kernel_rfl) (by kernel_rfl)) ?_
  intro W base args ds gs before hval0 hW _ _
  have hval : ∀ (j : Nat) t v, Try.f5.params[j]? = some t → args[j]? = some v → Value.okWide Try.prog W .any base t v := hval0
  have hW' := hW
  obtain ⟨p, q, hA0, hV, rfl, _, _⟩ := hW
  have hA : DataW.TrodAll enc Try.prog W 0 (fun _ => true) true Try.f5.params.toList args.toList ds p := hA0
  rw [Try.params5] at hA hval
  obtain ⟨v0, d0, rfl, rfl, h0⟩ := trodAll_one hA
  obtain ⟨rfl, rfl⟩ := trodVars_none hV
  obtain ⟨A, c, bs, rfl, hr, hlc, hcm⟩ := open_bytes Try.underlying29 Try.underlying5 (by kernel_rfl) (hval 0 _ v0 rfl rfl) h0
  refine (setAsked_walk bs A c W hr hlc (Nat.le_trans hlc hcm)).mono fun e W' ⟨he, hw⟩ => ?_
  subst he
  exact ⟨_, rfl, law_post hW' rfl rfl (by kernel_rfl) Try.underlying4 Try.laidOut (of_decide_eq_true (by kernel_rfl)) hw⟩

theorem fnSetAsked_holds : Rows.FnSetAskedSaid :=
  OpenClaim.holds_of_wide 5 Try.f5 rfl rfl rfl rfl rfl rfl rfl ⟨rfl, rfl, rfl, rfl, rfl⟩ rfl rfl rfl rfl rfl (by kernel_rfl) Try.func5 (by kernel_rfl)
    (of_decide_eq_true (by kernel_rfl)) (by unfold Func.isWrapper; first | (rw [if_pos (by decide +kernel)]; kernel_rfl) | (rw [if_neg (by decide +kernel)]; exact ⟨rfl, rfl⟩))
    (fun os started H enc _ => fnSetAsked_lifted os started H enc)

#print axioms fnSetAsked_holds
end Go.Proofs.Ytaipignkkbknfaa
