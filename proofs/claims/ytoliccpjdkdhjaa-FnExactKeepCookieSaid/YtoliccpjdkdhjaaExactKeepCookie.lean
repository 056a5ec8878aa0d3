/- For all lists of cookies, cookies and times: KeepCookie of the program returns what the reference's returns, leaves its argument alone, and its result shares no memory with it: the law FnExactKeepCookie holds. No conditions. -/
import Derived.Test.YtoliccpjdkdhjaaKeepS
import Derived.Test.YtoliccpjdkdhjaaMarkC
import Derived.Test.YtoliccpjdkdhjaaOpenC
namespace Go.Proofs.Ytoliccpjdkdhjaa
open Go.RowKit Go.ChangeShapes Go.WideShapes Go.ChangeAt Go.Joins
open Go.ChangeMaps (open_string shut_string)

theorem box3 {n B : Nat} {w w' : World} {x y z : Value} (h : w.cell? ⟨n, 0, none⟩ = some x ∧ w.cell? ⟨n, 1, none⟩ = some y ∧ w.cell? ⟨n, 2, none⟩ = some z) (hb : Below B w w') (hn : n < B) :
    w'.cell? ⟨n, 0, none⟩ = some x ∧ w'.cell? ⟨n, 1, none⟩ = some y ∧ w'.cell? ⟨n, 2, none⟩ = some z :=
  ⟨(hb.cell (p := ⟨n, 0, none⟩) hn).trans h.1, (hb.cell (p := ⟨n, 1, none⟩) hn).trans h.2.1, (hb.cell (p := ⟨n, 2, none⟩) hn).trans h.2.2⟩
theorem box_at {w w1 : World} {cs : Array Value} {t : TypeId} (hb : Below (w.alloc (.cells cs t)).heap.size (w.alloc (.cells cs t)) w1) :
    ∃ wa : World, w.heap.size < wa.heap.size ∧ Below w.heap.size w wa ∧ (∀ j : Nat, wa.cell? ⟨w.heap.size, j, none⟩ = cs[j]?) ∧ Below wa.heap.size wa w1 :=
  ⟨w.alloc (.cells cs t), by simp, (Below.refl _ _).alloc (Nat.le_refl _) _, fun _ => World.cell?_alloc_at _ _ _ _ rfl, hb⟩

set_option maxHeartbeats 4000000 in
theorem exactKeepCookie_walk (ps : List Ck) (a b : Tx) (u now : Int) (A : Option Addr) (c : Nat) (w : World) (hr : Rd w w.heap.size A (ccells ps)) (hf : FitC ps) (hn : ps.length ≤ maxLen) (hal : a.length ≤ maxLen) (hbl : b.length ≤ maxLen) :
    Calls Try.prog 6 #[.slice A ps.length c, .agg #[.string ⟨a.toArray⟩, .string ⟨b.toArray⟩, .int .i64 u], .int .i64 now] w fun e w' => e = .returned (.bool true) ∧ Below w.heap.size w w' := by
  have HAL := Lib.hid hal
  have HBL := Lib.hid hbl
  by_cases h : (1048576 : Int) < ps.length + csize ps
  · have HC := Lib.hid (fun w' hb => laws_szCookieS_over ps A c 1048576 w' ((hr.below (w' := w') hb).more hb.size) hf (by omega) (by omega) hn h)
    clear h
    go_enter Try.func6, Try.ntmps6
    go_wp2_with fail
    refine (HC.out _ ((Below.refl _ _).alloc (Nat.le_refl _) _)).mono ?_
    rintro e w1 ⟨rfl, hb1⟩
    obtain ⟨wa, hza, hba, hca, hb2⟩ := box_at hb1
    have HB1 := Lib.hid (hba.trans (hb2.mono hba.size))
    clear hb1 hba hca hb2
    go_wp2
    go_ret
    exact ⟨rfl, HB1.out⟩
  · have HC := Lib.hid (fun w' hb => laws_szCookieS_fits ps A c 1048576 w' ((hr.below (w' := w') hb).more hb.size) hf (by omega) (by omega) hn (by omega))
    have hle : ps.length ≤ 1048576 := by omega
    have h1 : 0 ≤ (1048576 : Int) - ps.length - csize ps := by omega
    have h3 : (1048576 : Int) - ps.length - csize ps ≤ 1048576 := by omega
    clear h
    generalize (1048576 : Int) - ps.length - csize ps = q at *
    obtain ⟨r, hres⟩ : ∃ r, keepCookie ps (a, b, u) now = r := ⟨_, rfl⟩
    have hrl : r.1.length ≤ 1048577 := by rw [← hres]; exact keepCookie_len ps (a, b, u) now hle
    have HRES := Lib.hid hres
    clear hres
    obtain ⟨out, ok⟩ := r
    dsimp only at hrl
    have hrm : out.length ≤ maxLen := by unfold maxLen; omega
    have HRM := Lib.hid hrm
    clear hrm
    by_cases hq : q < a.length + b.length
    · have HD := Lib.hid (fun w => laws_szCookie_over a b u q hal hbl h1 (by omega) hq w)
      clear hal hbl
      go_enter Try.func6, Try.ntmps6
      go_wp2_with fail
      refine (HC.out _ ((Below.refl _ _).alloc (Nat.le_refl _) _)).mono ?_
      rintro e w1 ⟨rfl, hb1'⟩
      obtain ⟨wa, hza, hba, hca, hb1⟩ := box_at hb1'
      have hw1 : w.heap.size < w1.heap.size := Nat.lt_of_lt_of_le hza hb1.size
      obtain ⟨hx0, hx1, hx2⟩ := box3 ⟨hca 0, hca 1, hca 2⟩ hb1 hza
      go_wp2_with fail
      refine (HD.out _).mono ?_
      rintro e w2 ⟨rfl, hb2⟩
      have HB2 := Lib.hid (hba.trans ((hb1.trans (hb2.mono hb1.size)).mono hba.size))
      clear hb1 hb2 hb1' hba hca
      go_wp2
      go_ret
      exact ⟨rfl, HB2.out⟩
    have HD := Lib.hid (fun w => laws_szCookie_fits a b u q hal hbl h1 (by omega) (by omega) w)
    have h2 : 0 ≤ q - a.length - b.length := by omega
    generalize q - a.length - b.length = q2 at *
    clear hq hal hbl
    go_enter Try.func6, Try.ntmps6
    go_wp2_with fail
    refine (HC.out _ ((Below.refl _ _).alloc (Nat.le_refl _) _)).mono ?_
    rintro e wq ⟨rfl, hb1'⟩
    obtain ⟨wa, hza, hba, hca, hbq⟩ := box_at hb1'
    have hwq : w.heap.size < wq.heap.size := Nat.lt_of_lt_of_le hza hbq.size
    obtain ⟨hx0, hx1, hx2⟩ := box3 ⟨hca 0, hca 1, hca 2⟩ hbq hza
    have HBA := Lib.hid hba
    have HCA := Lib.hid (And.intro (hca 0) (And.intro (hca 1) (hca 2)))
    have hr' := (hr.below hba).more hba.size
    go_wp2_with fail
    refine (HD.out _).mono ?_
    rintro e w1 ⟨rfl, hbx⟩
    have HB1 := Lib.hid (hbq.trans (hbx.mono hbq.size))
    have HX1 := Lib.hid (box3 HCA.out HB1.out hza)
    have HW1 := Lib.hid (Nat.lt_of_lt_of_le hza HB1.out.size)
    clear hbq hbx hb1' hx0 hx1 hx2 hba hca hwq hr
    have hr := hr'
    clear hr'
    go_wp2_with fail
    go_region_held3 (fun W => W.cell? ⟨w.heap.size, 0, none⟩ = some (sv a) ∧ W.cell? ⟨w.heap.size, 1, none⟩ = some (sv b) ∧ W.cell? ⟨w.heap.size, 2, none⟩ = some (.int .i64 u))
      (first | exact HX1.out | exact box3 (w := w1.drew) HX1.out hbq HW1.out | exact box3 (w := w1.drew) HX1.out (hbq.trans (hbx.mono hbq.size)) HW1.out | exact box3 (w := w1.drew) HX1.out (hbq.trans ((hbx.trans (hb3.mono hbx.size)).mono hbq.size)) HW1.out | go_keep)
      (first | (go_at_call 13; refine (laws_toCookieS ps A c _ ((hr.below HB1.out.drew).more HB1.out.drew.size) hle).mono ?_; rintro e wq ⟨A2, c2, rfl, hoq, hbq⟩)
             | (go_at_call 20; refine (laws_toCookie a b u _).mono ?_; rintro e w2 ⟨rfl, hbx⟩)
             | (go_at_call 17; refine (spec_KeepCookie ps a b u now A2 c2 _ (ownC_rd (ownC_keep hoq hbx)) (own_none hoq) hf hn HAL.out HBL.out).mono ?_; rw [HRES.out]; rintro e w3 ⟨A3, c3, rfl, ho3, hb3⟩))
    have HB2 := Lib.hid (HB1.out.drew.trans ((hbq.trans (hbx.mono hbq.size)).mono HB1.out.drew.size))
    clear hbq hbx hoq
    have HO3 := Lib.hid ho3
    have HH3 := Lib.hid (fun g h => (ho3.lt g h).2)
    have HB3 := Lib.hid (HB2.out.trans (hb3.mono HB2.out.size))
    have HS3 := Lib.hid hb3.size
    clear hb3 ho3
    go_wp2_with fail
    refine (laws_toCookieS ps A c _ ((hr.below HB3.out).more HB3.out.size) hle).mono ?_
    rintro e wq ⟨A4, c4, rfl, hoq, hbq⟩
    obtain ⟨hx0, hx1, hx2⟩ := box3 HCA.out (HB3.out.trans (hbq.mono HB3.out.size)) hza
    have hwq : w.heap.size < wq.heap.size := Nat.lt_of_lt_of_le hza (Nat.le_trans HB3.out.size hbq.size)
    go_wp2_with fail
    refine (laws_toCookie a b u _).mono ?_
    rintro e w4 ⟨rfl, hbx⟩
    have ho4 := ownC_keep hoq hbx
    have hb4 := hbq.trans (hbx.mono hbq.size)
    clear hoq hbq hbx hx0 hx1 hx2 hwq
    have HO4 := Lib.hid ho4
    have HH4 := Lib.hid (fun g h => (ho4.lt g h).2)
    have HB4 := Lib.hid (HB3.out.trans (hb4.mono HB3.out.size))
    have HS4 := Lib.hid hb4.size
    have HO3 := Lib.hid (ownC_keep HO3.out hb4)
    clear hb4 ho4
    go_wp2_with fail
    refine (impl_KeepCookie ps a b u now A4 c4 _ (ownC_rd HO4.out) (own_none HO4.out) hf (ownC_cap HO4.out) hn HAL.out HBL.out).mono ?_
    rw [HRES.out]
    rintro e w5 ⟨A5, c5, rfl, ho5, hb5⟩
    have HO5 := Lib.hid ho5
    have HH5 := Lib.hid (fun g h => (ho5.lt g h).2)
    have HB5 := Lib.hid (HB4.out.trans (hb5.mono HB4.out.size))
    have HS5 := Lib.hid hb5.size
    have HO3 := Lib.hid (ownC_keep HO3.out hb5)
    have HO4 := Lib.hid (ownC_keep HO4.out hb5)
    clear hb5 ho5
    dsimp only
    go_wp2_with fail
    refine (laws_eqCookieS out out A5 A3 c5 c3 _ (ownC_rd HO5.out) (ownC_rd HO3.out) HRM.out).mono ?_
    rw [beq_self_eq_true]
    rintro e w6 ⟨rfl, hb6⟩
    have HB6 := Lib.hid (HB5.out.trans (hb6.mono HB5.out.size))
    have HO3 := Lib.hid (ownC_keep HO3.out hb6)
    have HO4 := Lib.hid (ownC_keep HO4.out hb6)
    have HO5 := Lib.hid (ownC_keep HO5.out hb6)
    clear hb6
    go_wp2_with fail
    refine (laws_toCookieS ps A c _ ((hr.below HB6.out).more HB6.out.size) hle).mono ?_
    rintro e w7 ⟨A7, c7, rfl, ho7, hb7⟩
    have HO7 := Lib.hid ho7
    have HB7 := Lib.hid (HB6.out.trans (hb7.mono HB6.out.size))
    have HO3 := Lib.hid (ownC_keep HO3.out hb7)
    have HO4 := Lib.hid (ownC_keep HO4.out hb7)
    have HO5 := Lib.hid (ownC_keep HO5.out hb7)
    clear hb7 ho7
    go_wp2_with fail
    refine (laws_eqCookieS ps ps A4 A7 c4 c7 _ (ownC_rd HO4.out) (ownC_rd HO7.out) hn).mono ?_
    rw [beq_self_eq_true]
    rintro e w8 ⟨rfl, hb8⟩
    have HB8 := Lib.hid (HB7.out.trans (hb8.mono HB7.out.size))
    have HO3 := Lib.hid (ownC_keep HO3.out hb8)
    have HO4 := Lib.hid (ownC_keep HO4.out hb8)
    have HO5 := Lib.hid (ownC_keep HO5.out hb8)
    have HS8 := Lib.hid hb8.size
    clear hb8
    go_wp2_with fail
    refine (laws_markCookieS_one ps _ A4 c4 _ HO4.out (by omega)).mono ?_
    rintro e w9 ⟨rfl, _, hg9⟩
    have HB9 := Lib.hid (HB8.out.trans (grown_to_below hg9 HB8.out.size (fun g h => Nat.le_trans HB3.out.size (ownC_row HO4.out g h))))
    have HO3 : Hid (OwnC w9 _ A3 c3 out) := own_frame HO3.out HH3.out hg9 (fun g h => .inr (ownC_row HO4.out g h))
    have HO5 : Hid (OwnC w9 _ A5 c5 out) := own_frame HO5.out HH5.out hg9 (fun g h => .inl (HH4.out g h))
    clear hg9
    go_wp2_with fail
    refine (laws_eqCookieS out out A5 A3 c5 c3 _ (ownC_rd HO5.out) (ownC_rd HO3.out) HRM.out).mono ?_
    rw [beq_self_eq_true]
    rintro e w10 ⟨rfl, hb10⟩
    have HB10 := Lib.hid (HB9.out.trans (hb10.mono HB9.out.size))
    have HO3 := Lib.hid (ownC_keep HO3.out hb10)
    have HO5 := Lib.hid (ownC_keep HO5.out hb10)
    clear hb10
    go_wp2_with fail
    refine (laws_markCookieS_one out _ A5 c5 _ HO5.out (by omega)).mono ?_
    rintro e w11 ⟨rfl, ho11, hg11⟩
    have HB11 := Lib.hid (HB10.out.trans (grown_to_below hg11 HB10.out.size (fun g h => Nat.le_trans HB4.out.size (ownC_row HO5.out g h))))
    have HO3 : Hid (OwnC w11 _ A3 c3 out) := own_frame HO3.out HH3.out hg11 (fun g h => .inr (Nat.le_trans HS4.out (ownC_row HO5.out g h)))
    have HO5 := Lib.hid ho11
    have HML : Hid ((marksC 1 out.length).length = out.length) := marksC_length _ _
    clear hg11 ho11
    go_wp2_with fail
    refine (laws_heldCookieS_one out.length A5 c5 _ (by have h := ownC_rd HO5.out; exact h) (by omega)).mono ?_
    rintro e w12 ⟨rfl, hb12⟩
    have HB12 := Lib.hid (HB11.out.trans (hb12.mono HB11.out.size))
    have HO3 := Lib.hid (ownC_keep HO3.out hb12)
    have HO5 := Lib.hid (ownC_keep HO5.out hb12)
    clear hb12
    go_wp2_with fail
    have HX1 := Lib.hid (box3 HCA.out HB12.out hza)
    have HW1 := Lib.hid (Nat.lt_of_lt_of_le hza HB12.out.size)
    go_region_held3 (fun W => W.cell? ⟨w.heap.size, 0, none⟩ = some (sv a) ∧ W.cell? ⟨w.heap.size, 1, none⟩ = some (sv b) ∧ W.cell? ⟨w.heap.size, 2, none⟩ = some (.int .i64 u))
      (first | exact HX1.out | exact box3 (w := w12.drew) HX1.out hbq HW1.out | exact box3 (w := w12.drew) HX1.out (hbq.trans (hbx.mono hbq.size)) HW1.out | exact box3 (w := w12.drew) HX1.out (hbq.trans ((hbx.trans (hb14.mono hbx.size)).mono hbq.size)) HW1.out | go_keep)
      (first | (go_at_call 13; refine (laws_toCookieS ps A c _ ((hr.below HB12.out.drew).more HB12.out.drew.size) hle).mono ?_; rintro e wq ⟨A13, c13, rfl, hoq, hbq⟩)
             | (go_at_call 20; refine (laws_toCookie a b u _).mono ?_; rintro e w13 ⟨rfl, hbx⟩)
             | (go_at_call 16; refine (impl_KeepCookie ps a b u now A13 c13 _ (ownC_rd (ownC_keep hoq hbx)) (own_none hoq) hf (ownC_cap hoq) hn HAL.out HBL.out).mono ?_; rw [HRES.out]; rintro e w14 ⟨A14, c14, rfl, ho14, hb14⟩))
    have hb13 := hbq.trans (hbx.mono hbq.size)
    have HB13 := Lib.hid (HB12.out.drew.trans (hb13.mono HB12.out.drew.size))
    have HO3 := Lib.hid (ownC_keep HO3.out (((Below.refl _ w12).drew).trans (hb13.mono (Nat.le_refl _))))
    have HO5 := Lib.hid (ownC_keep HO5.out (((Below.refl _ w12).drew).trans (hb13.mono (Nat.le_refl _))))
    clear hb13 hbq hbx hoq
    have HO14 := Lib.hid ho14
    have HB14 := Lib.hid (HB13.out.trans (hb14.mono HB13.out.size))
    have HO3 := Lib.hid (ownC_keep HO3.out hb14)
    have HO5 := Lib.hid (ownC_keep HO5.out hb14)
    clear hb14 ho14
    go_wp2_with fail
    refine (laws_eqCookieS out out A14 A3 c14 c3 _ (ownC_rd HO14.out) (ownC_rd HO3.out) HRM.out).mono ?_
    rw [beq_self_eq_true]
    rintro e w15 ⟨rfl, hb15⟩
    have HB15 := Lib.hid (HB14.out.trans (hb15.mono HB14.out.size))
    have HO5 := Lib.hid (ownC_keep HO5.out hb15)
    clear hb15
    go_wp2_with fail
    refine (laws_heldCookieS_one out.length A5 c5 _ (by have h := ownC_rd HO5.out; exact h) (by omega)).mono ?_
    rintro e w16 ⟨rfl, hb16⟩
    have HB16 := Lib.hid (HB15.out.trans (hb16.mono HB15.out.size))
    clear hb16
    go_wp2
    go_ret
    exact ⟨rfl, HBA.out.trans (HB16.out.mono HBA.out.size)⟩

set_option maxRecDepth 100000 in
theorem fnExactKeepCookie_lifted (os : Os) (started : os.Started) (H : Type) (enc : TypeId × Value → H) :
    ReturnsInHanded {} Try.checked os 6 .any (Rows.fnExactKeepCookieSpec.pre6 enc Try.prog Try.f6 Rows.fnExactKeepCookieRow.domain false)
      (Rows.fnExactKeepCookieSpec.post enc Try.prog Try.f6 false true false false) := by
  refine returnsInHanded_of_change (C := Try.checked) Try.own started (by kernel_rfl) Try.func6
    (ChangeSpec.witness6 (enc := enc) (C := Try.checked) false ⟨#[], #[.slice none 0 0, .agg #[.string ⟨#[]⟩, .string ⟨#[]⟩, .int .i64 0], .int .i64 0], []⟩ 8 (by kernel_rfl) (by kernel_rfl) (by kernel_rfl) (by kernel_rfl)) ?_
  intro W base args ds gs before hval0 hW _ _
  have hval : ∀ (j : Nat) t v, Try.f6.params[j]? = some t → args[j]? = some v → Value.okWide Try.prog W .any base t v := hval0
  have hW' := hW
  obtain ⟨p, q, hA0, hV, rfl, _, _⟩ := hW
  have hA : DataW.TrodAll enc Try.prog W 0 (fun _ => true) true Try.f6.params.toList args.toList ds p := hA0
  rw [Try.params6] at hA hval
  obtain ⟨v0, v1, v2, d0, d1, d2, p0, p1, p2, rfl, rfl, rfl, h0, h1, h2⟩ := trodAll_three hA
  obtain ⟨rfl, rfl⟩ := trodVars_none hV
  obtain ⟨A, c, ps, rfl, hr, hf, hlc, hcm⟩ := open_cookies Try.underlying30 Try.underlying39 Try.cells_Cookie rfl rfl rfl Try.cells_str Try.cells_str Try.cells_int Try.underlying9 Try.underlying9 Try.underlying3 (hval 0 _ v0 rfl rfl) h0
  obtain ⟨a, b, u, rfl, wa, wb⟩ := open_cookie Try.underlying39 (by kernel_rfl) Try.cells_Cookie Try.underlying9 Try.underlying9 Try.underlying3 (hval 1 _ v1 rfl rfl) h1
  obtain ⟨now, rfl, rfl, rfl, _⟩ := open_int Try.underlying3 (hval 2 _ v2 rfl rfl) h2
  refine (exactKeepCookie_walk ps a b u now A c W hr hf (Nat.le_trans hlc hcm) wa wb).mono fun e W' ⟨he, hw⟩ => ?_
  subst he
  exact ⟨_, rfl, law_post hW' rfl rfl (by kernel_rfl) Try.underlying4 Try.laidOut (of_decide_eq_true (by kernel_rfl)) hw⟩

theorem fnExactKeepCookie_holds : Rows.FnExactKeepCookieSaid :=
  OpenClaim.holds_of_wide 6 Try.f6 rfl rfl rfl rfl rfl rfl rfl ⟨rfl, rfl, rfl, rfl, rfl⟩ rfl rfl rfl rfl rfl (by kernel_rfl) Try.func6 (by kernel_rfl)
    (of_decide_eq_true (by kernel_rfl)) (by unfold Func.isWrapper; first | (rw [if_pos (by decide +kernel)]; kernel_rfl) | (rw [if_neg (by decide +kernel)]; exact ⟨rfl, rfl⟩))
    (fun os started H enc _ => fnExactKeepCookie_lifted os started H enc)

#print axioms fnExactKeepCookie_holds
end Go.Proofs.Ytoliccpjdkdhjaa
