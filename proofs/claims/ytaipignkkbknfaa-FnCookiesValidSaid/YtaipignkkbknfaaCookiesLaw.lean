/- For every code: the drawn cookies are judged by the program as by the reference; without the first one valid ones are valid, with it twice they are not: the law FnCookiesValid holds. No conditions. -/
import Derived.Test.YtaipignkkbknfaaCookies
import Derived.Test.YtaipignkkbknfaaCookiesDraw
import Derived.Test.YtaipignkkbknfaaLower
namespace Go.Proofs.Ytaipignkkbknfaa
open Go.RowKit Go.ChangeShapes Go.WideShapes Go.ChangeAt Go.Joins

theorem own_cap {w : World} {base size n c : Nat} {A : Option Addr} {e : TypeId} {xs : List Value} (h : w.ownsRow base e size (.slice A n c) n xs) : n ≤ c ∧ c ≤ maxLen := by
  obtain ⟨A', c', e', h1, h2⟩ := own_shape h
  injection e' with _ _ e3
  exact ⟨by omega, by omega⟩
theorem cookiesOk_twice (p : Ck) (t : List Ck) : cookiesOk (p :: p :: t) = false := by
  unfold cookiesOk
  rw [okFrom_step _ 0 (by simp), okFrom_step _ 1 (by simp)]
  have : newName (p :: p :: t) 1 (p :: p :: t)[1].1 = false := by simp [newName]
  rw [this]
  simp
theorem okAt_tail {p : Ck} {t : List Ck} {j : Nat} (h : okAt (p :: t) (j + 1) = true) : okAt t j = true := by
  unfold okAt at *
  rw [List.getElem?_cons_succ] at h
  split at h
  · simp only [Bool.and_eq_true, newName, List.take_succ_cons, List.all_cons] at h ⊢
    exact ⟨h.1, h.2.2⟩
  · rfl
theorem cookiesOk_tail {p : Ck} {t : List Ck} (h : cookiesOk (p :: t) = true) : cookiesOk t = true := by
  simp only [cookiesOk, okFrom, Bool.and_eq_true, decide_eq_true_eq, List.all_eq_true, List.mem_range, List.length_cons, Nat.sub_zero, Nat.zero_add] at h ⊢
  exact ⟨by omega, fun j hj => okAt_tail (h.2 (j + 1) (by omega))⟩

set_option maxRecDepth 100000 in
set_option maxHeartbeats 1000000 in
theorem cookiesValid_walk (bs : Tx) (A : Option Addr) (c : Nat) (w : World) (hr : Rd w w.heap.size A (bcells bs)) (hc : bs.length ≤ c) (hm : bs.length ≤ maxLen) :
    Calls Try.prog 6 #[.slice A bs.length c] w fun e w' => e = .returned (.bool true) ∧ Below w.heap.size w w' := by
  unfold maxLen at hm
  by_cases h : 1048576 < bs.length
  · go_enter Try.func6, Try.ntmps6
    go_wp2
    go_ret
    exact ⟨rfl, Below.refl _ _⟩
  · have HD := Lib.hid (spec_DrawCookiesValid bs A c w hr hc (by omega))
    clear hr
    go_enter Try.func6, Try.ntmps6
    go_wp2_with fail
    refine HD.out.mono ?_
    rintro e w1 ⟨A1, c1, ps, rfl, ho1, hs1, hn1, hb1⟩
    have HF := Lib.hid (smallC_fit hs1)
    have HL : Hid (ps.length ≤ maxLen) := by show _ ≤ _; unfold maxLen; omega
    have hcap := (own_cap ho1).1
    have HO1 := Lib.hid ho1
    have HB1 := Lib.hid hb1
    have hz1 := hb1.size
    clear ho1 hs1 hb1
    go_wp2_with fail
    refine (impl_CookiesValid ps A1 c1 _ (ownC_rd HO1.out) HF.out hcap HL.out).mono ?_
    rintro e w2 ⟨rfl, hb2⟩
    have HO2 := Lib.hid (ownC_keep HO1.out hb2)
    have HB2 := Lib.hid (HB1.out.trans (hb2.mono hz1))
    have hz2 := HB2.out.size
    clear hb2
    go_wp2_with fail
    refine (spec_CookiesValid ps A1 c1 _ (ownC_rd HO2.out) HF.out HL.out).mono ?_
    rintro e w3 ⟨rfl, hb3⟩
    have HO3 := Lib.hid (ownC_keep HO2.out hb3)
    have HB3 := Lib.hid (HB2.out.trans (hb3.mono hz2))
    have hz3 := HB3.out.size
    clear hb3
    have HN : Hid (A1 = none → c1 = 0) := own_none HO3.out
    cases hok : cookiesOk ps
    · clear hok
      go_wp2_with fail
      refine (laws_alive _).mono ?_
      rintro e w6 ⟨rfl, hb6⟩
      have HB6 := Lib.hid (HB3.out.trans (hb6.mono HB3.out.size))
      clear hb6
      go_wp2
      go_ret
      exact ⟨rfl, HB6.out⟩
    · rcases Nat.eq_zero_or_pos ps.length with h0 | h0
      · obtain rfl := List.eq_nil_of_length_eq_zero h0
        clear h0 hok
        go_wp2_with fail
        refine (laws_alive _).mono ?_
        rintro e w6 ⟨rfl, hb6⟩
        have HB6 := Lib.hid (HB3.out.trans (hb6.mono HB3.out.size))
        clear hb6
        go_wp2
        go_ret
        exact ⟨rfl, HB6.out⟩
      · have HK := Lib.hid hok
        clear hok
        obtain ⟨g, rfl, _, hg⟩ := own_some HO3.out h0
        obtain ⟨b, o, hA, hab, hc0, hc1, hc2⟩ := (ownC_rd HO3.out).cookie h0
        obtain ⟨rfl, rfl⟩ : b = g ∧ o = 0 := by injection hA with hA; injection hA with h1 h2; exact ⟨h1.symm, h2.symm⟩
        clear hA
        obtain ⟨p, t, rfl⟩ : ∃ p t, ps = p :: t := by cases ps with | nil => simp at h0 | cons p t => exact ⟨p, t, rfl⟩
        simp only [List.getElem_cons_zero, Nat.zero_mul, Nat.zero_add] at hc0 hc1 hc2
        simp only [List.length_cons] at hn1 hcap
        have HRT : Hid (Rd w3 w3.heap.size (some ⟨b, 3, none⟩) (ccells t)) := by
          intro hne
          refine ⟨b, 3, rfl, hab, fun j u hu => ?_⟩
          obtain ⟨b', o', e, _, hcc⟩ := ownC_rd HO3.out (by simp [ccells])
          injection e with e
          injection e with e1 e2
          subst e1
          subst e2
          have := hcc (j + 3) u (by simpa [ccells] using hu)
          rw [Nat.zero_add, Nat.add_comm] at this
          exact this
        rcases Nat.lt_or_ge 1 c1 with hc1n | hc1n
        · have HV := impl_CookiesValid t (some ⟨b, 3, none⟩) (c1 - 1) w3 HRT.out (fun q hq => HF.out q (by simp [hq])) (by omega) (by unfold maxLen; omega)
          rw [cookiesOk_tail HK.out] at HV
          have HV := Lib.hid HV
          go_wp2_with fail
          refine HV.out.mono ?_
          rintro e w4 ⟨rfl, hb4⟩
          have HB4 := Lib.hid (HB3.out.trans (hb4.mono hz3))
          have ho4 := ownC_keep HO3.out hb4
          have hd0 : w4.cell? ⟨b, 0, none⟩ = some (sv p.1) := (hb4.cell (p := ⟨b, 0, none⟩) hab).trans hc0
          have hd1 : w4.cell? ⟨b, 1, none⟩ = some (sv p.2.1) := (hb4.cell (p := ⟨b, 1, none⟩) hab).trans hc1
          have hd2 : w4.cell? ⟨b, 2, none⟩ = some (.int .i64 p.2.2) := (hb4.cell (p := ⟨b, 2, none⟩) hab).trans hc2
          have hz4 := HB4.out.size
          have HLIT : Hid (OwnC (w4.alloc (.cells #[sv p.1, sv p.2.1, .int .i64 p.2.2] 44)) w.heap.size (some ⟨w4.heap.size, 0, none⟩) 1 [p]) := World.ownsRow_lit w4 #[sv p.1, sv p.2.1, .int .i64 p.2.2] 1 hz4 (by simp [maxLen]) rfl
          have HRD : Hid (Rd (w4.alloc (.cells #[sv p.1, sv p.2.1, .int .i64 p.2.2] 44)) w4.heap.size (some ⟨b, 0, none⟩) (ccells (p :: t))) := (ownC_rd ho4).below ((Below.refl _ _).alloc (Nat.le_refl _) _)
          clear hb4 ho4 hc0 hc1 hc2
          go_wp2_with (at_builtin; refine wpList_strike (by rfl) ?_; refine app_cookies rfl _ _ rfl w.heap.size _ 1 1 [p] (p :: t) (some ⟨b, 0, none⟩) (t.length + 1) c1 w4.heap.size (by rfl) rfl HLIT.out (by rfl) rfl HN.out HRD.out ?_ ?_ ?_; (focus (simp <;> omega)); (focus (simp <;> omega)); intro A5 c5 w5 ho5 hg5)
          have hq := impl_CookiesValid ([p] ++ (p :: t)) A5 c5 w5 (ownC_rd ho5) (fun q hq => HF.out q (by simp only [List.cons_append, List.nil_append, List.mem_cons] at hq ⊢; rcases hq with h | h | h <;> simp [h])) (own_cap ho5).1 (by unfold maxLen; simp <;> omega)
          rw [show cookiesOk ([p] ++ (p :: t)) = false from cookiesOk_twice p t, show ([p] ++ (p :: t)).length = 1 + (t.length + 1) by simp; omega] at hq
          have HQ := Lib.hid hq
          have HB5 := Lib.hid ((HB4.out.alloc hz4 _).trans (grown_to_below hg5 (by simp; omega) (ownC_row HLIT.out)))
          clear hq ho5 hg5
          go_wp2_with fail
          refine HQ.out.mono ?_
          rintro e w6 ⟨rfl, hb6⟩
          have HB6 := Lib.hid (HB5.out.trans (hb6.mono HB5.out.size))
          clear hb6
          go_wp2
          go_ret
          exact ⟨rfl, HB6.out⟩
        · have hc1e : c1 = 1 := by omega
          subst hc1e
          obtain rfl : t = [] := List.eq_nil_of_length_eq_zero (by omega)
          have HV := impl_CookiesValid [] (some ⟨b, 0, none⟩) 0 w3 Rd.nil_ (fun q hq => by cases hq) (by simp) (by simp [maxLen])
          rw [show cookiesOk [] = true from rfl] at HV
          have HV := Lib.hid HV
          go_wp2_with fail
          refine HV.out.mono ?_
          rintro e w4 ⟨rfl, hb4⟩
          have HB4 := Lib.hid (HB3.out.trans (hb4.mono hz3))
          have ho4 := ownC_keep HO3.out hb4
          have hd0 : w4.cell? ⟨b, 0, none⟩ = some (sv p.1) := (hb4.cell (p := ⟨b, 0, none⟩) hab).trans hc0
          have hd1 : w4.cell? ⟨b, 1, none⟩ = some (sv p.2.1) := (hb4.cell (p := ⟨b, 1, none⟩) hab).trans hc1
          have hd2 : w4.cell? ⟨b, 2, none⟩ = some (.int .i64 p.2.2) := (hb4.cell (p := ⟨b, 2, none⟩) hab).trans hc2
          have hz4 := HB4.out.size
          have HLIT : Hid (OwnC (w4.alloc (.cells #[sv p.1, sv p.2.1, .int .i64 p.2.2] 44)) w.heap.size (some ⟨w4.heap.size, 0, none⟩) 1 [p]) := World.ownsRow_lit w4 #[sv p.1, sv p.2.1, .int .i64 p.2.2] 1 hz4 (by simp [maxLen]) rfl
          have HRD : Hid (Rd (w4.alloc (.cells #[sv p.1, sv p.2.1, .int .i64 p.2.2] 44)) w4.heap.size (some ⟨b, 0, none⟩) (ccells [p])) := (ownC_rd ho4).below ((Below.refl _ _).alloc (Nat.le_refl _) _)
          clear hb4 ho4 hc0 hc1 hc2
          go_wp2_with (at_builtin; refine wpList_strike (by rfl) ?_; refine app_cookies rfl _ _ rfl w.heap.size _ 1 1 [p] [p] (some ⟨b, 0, none⟩) 1 1 w4.heap.size (by rfl) rfl HLIT.out (by rfl) rfl HN.out HRD.out ?_ ?_ ?_; (focus (simp <;> omega)); (focus (simp <;> omega)); intro A5 c5 w5 ho5 hg5)
          have hq := impl_CookiesValid ([p] ++ [p]) A5 c5 w5 (ownC_rd ho5) (fun q hq => HF.out q (by simp only [List.cons_append, List.nil_append, List.mem_cons] at hq ⊢; rcases hq with h | h | h <;> simp [h])) (own_cap ho5).1 (by unfold maxLen; simp <;> omega)
          rw [show cookiesOk ([p] ++ [p]) = false from cookiesOk_twice p [], show ([p] ++ [p]).length = 1 + 1 from rfl] at hq
          have HQ := Lib.hid hq
          have HB5 := Lib.hid ((HB4.out.alloc hz4 _).trans (grown_to_below hg5 (by simp; omega) (ownC_row HLIT.out)))
          clear hq ho5 hg5
          go_wp2_with fail
          refine HQ.out.mono ?_
          rintro e w6 ⟨rfl, hb6⟩
          have HB6 := Lib.hid (HB5.out.trans (hb6.mono HB5.out.size))
          clear hb6
          go_wp2
          go_ret
          exact ⟨rfl, HB6.out⟩

set_option maxRecDepth 100000 in
theorem fnCookiesValid_lifted (os : Os) (started : os.Started) (H : Type) (enc : TypeId × Value → H) :
    ReturnsInHanded {} Try.checked os 6 .any (Rows.fnCookiesValidSpec.pre6 enc Try.prog Try.f6 Rows.fnCookiesValidRow.domain false)
      (Rows.fnCookiesValidSpec.post enc Try.prog Try.f6 false true false false) := by
  refine returnsInHanded_of_change (C := Try.checked) Try.own started (by kernel_rfl) Try.func6
    (ChangeSpec.witness6 (enc := enc) (C := Try.checked) false ⟨#[], #[.slice none 0 0], []⟩ 8 (by kernel_rfl) (by kernel_rfl) (by kernel_rfl) (by kernel_rfl)) ?_
  intro W base args ds gs before hval0 hW _ _
  have hval : ∀ (j : Nat) t v, Try.f6.params[j]? = some t → args[j]? = some v → Value.okWide Try.prog W .any base t v := hval0
  have hW' := hW
  obtain ⟨p, q, hA0, hV, rfl, _, _⟩ := hW
  have hA : DataW.TrodAll enc Try.prog W 0 (fun _ => true) true Try.f6.params.toList args.toList ds p := hA0
  rw [Try.params6] at hA hval
  obtain ⟨v0, d0, rfl, rfl, h0⟩ := trodAll_one hA
  obtain ⟨rfl, rfl⟩ := trodVars_none hV
  obtain ⟨A, c, bs, rfl, hr, hlc, hcm⟩ := open_bytes Try.underlying29 Try.underlying5 (by kernel_rfl) (hval 0 _ v0 rfl rfl) h0
  refine (cookiesValid_walk bs A c W hr hlc (Nat.le_trans hlc hcm)).mono fun e W' ⟨he, hw⟩ => ?_
  subst he
  exact ⟨_, rfl, law_post hW' rfl rfl (by kernel_rfl) Try.underlying4 Try.laidOut (of_decide_eq_true (by kernel_rfl)) hw⟩

theorem fnCookiesValid_holds : Rows.FnCookiesValidSaid :=
  OpenClaim.holds_of_wide 6 Try.f6 rfl rfl rfl rfl rfl rfl rfl ⟨rfl, rfl, rfl, rfl, rfl⟩ rfl rfl rfl rfl rfl (by kernel_rfl) Try.func6 (by kernel_rfl)
    (of_decide_eq_true (by kernel_rfl)) (by unfold Func.isWrapper; first | (rw [if_pos (by decide +kernel)]; kernel_rfl) | (rw [if_neg (by decide +kernel)]; exact ⟨rfl, rfl⟩))
    (fun os started H enc _ => fnCookiesValid_lifted os started H enc)

#print axioms fnCookiesValid_holds
end Go.Proofs.Ytaipignkkbknfaa
