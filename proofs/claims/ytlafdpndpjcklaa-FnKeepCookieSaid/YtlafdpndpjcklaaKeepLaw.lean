/- For every code: KeepCookie of the program and of the reference agree on the drawn cookies; if it succeeds the cookie is last exactly if it does not end before, none of the others has its name, and none has ended: the law FnKeepCookie holds. No conditions. -/
import Derived.Test.YtlafdpndpjcklaaKeepDraw
import Derived.Test.YtlafdpndpjcklaaKeepS
import Derived.Test.YtlafdpndpjcklaaSameC
import Derived.Test.YtlafdpndpjcklaaLower
import Derived.Test.YtlafdpndpjcklaaTypedG
namespace Go.Proofs.Ytlafdpndpjcklaa
open Go.RowKit Go.ChangeShapes Go.WideShapes Go.ChangeAt Go.Joins

theorem ownC_cap0 {w : World} {base c : Nat} {A : Option Addr} {ps : List Ck} (h : OwnC w base A c ps) (e : A = none) : c = 0 := by
  subst e
  rcases h.2 with ⟨hn, _⟩ | ⟨g, cap, cur, hv, _⟩
  · injection hn
  · injection hv with hv; cases hv
def nameN (x : List Ck) (a : Tx) (k : Nat) : Nat := (x.take k).countP (fun p => p.1 == a)
theorem nameN_succ {x : List Ck} {a : Tx} {k : Nat} (h : k < x.length) : nameN x a (k + 1) = nameN x a k + (if x[k].1 == a then 1 else 0) := by
  unfold nameN
  rw [take_snoc x k h, List.countP_append]
  congr 1
  simp [List.countP_cons]
theorem nameN_le (x : List Ck) (a : Tx) (k : Nat) : nameN x a k ≤ k := by
  unfold nameN
  have := List.countP_le_length (p := fun p : Ck => p.1 == a) (l := x.take k)
  rw [List.length_take] at this
  omega
theorem keepCookie_fit (ps : List Ck) (c : Ck) (now : Int) (h : FitC ps) (h0 : c.1.length ≤ maxLen) (h1 : c.2.1.length ≤ maxLen) : FitC (keepCookie ps c now).1 := by
  unfold keepCookie
  split
  · split
    · exact keepList_fit ps c now h h0 h1
    · exact h
  · intro p hp; cases hp
theorem bx3_keep {w w' : World} {b : Nat} {x : Obj} (h : w.heap[b]? = some x) (hb : Below w.heap.size w w') : w'.heap[b]? = some x := (hb.block b (lt_of_block3 h)).trans h
/-- what is kept -/
structure Kept (ps : List Ck) (c : Ck) (now : Int) (x : List Ck) : Prop where
  ok : cookiesOk x = true
  live : ∀ p ∈ x, now < p.2.2
  new : now < c.2.2 → ∃ l, x = l ++ [c] ∧ nameN x c.1 x.length = 1
  old : ¬ now < c.2.2 → nameN x c.1 x.length = 0
theorem fold_none (ps : List Ck) (c : Ck) (now : Int) (k : Nat) : (keepFold ps c now k).countP (fun p => p.1 == c.1) = 0 := by
  rw [List.countP_eq_zero]
  intro p hp
  have := (List.mem_filter.1 hp).2
  unfold keepIt at this
  rw [Bool.and_eq_true] at this
  simpa using this.2
theorem keep_cases (ps : List Ck) (c : Ck) (now : Int) : (∃ x, keepCookie ps c now = (x, true) ∧ Kept ps c now x) ∨ keepCookie ps c now = (ps, false) ∨ keepCookie ps c now = ([], false) := by
  unfold keepCookie
  split
  · split
    · next h =>
      rw [Bool.and_eq_true] at h
      refine .inl ⟨_, rfl, h.2, fun p hp => ?_, fun hn => ⟨keepFold ps c now ps.length, ?_, ?_⟩, fun hn => ?_⟩
      · unfold keepList at hp
        rcases List.mem_append.1 hp with hp | hp
        · have := (List.mem_filter.1 hp).2
          unfold keepIt at this
          rw [Bool.and_eq_true, decide_eq_true_eq] at this
          exact this.1
        · split at hp
          · next hn => simp at hp; subst hp; exact hn
          · cases hp
      · unfold keepList; rw [if_pos hn]
      · unfold nameN keepList
        rw [if_pos hn, List.take_of_length_le (Nat.le_refl _), List.countP_append, fold_none]
        simp
      · unfold nameN keepList
        rw [if_neg hn, List.take_of_length_le (Nat.le_refl _), List.append_nil, fold_none]
    · exact .inr (.inl rfl)
  · exact .inr (.inr rfl)
set_option maxRecDepth 100000 in
set_option maxHeartbeats 8000000 in
theorem keepCookie_walk (bs : Tx) (A : Option Addr) (c : Nat) (w : World) (hr : Rd w w.heap.size A (bcells bs)) (hc : bs.length ≤ c) (hm : bs.length ≤ maxLen) :
    Calls Try.prog 3 #[.slice A bs.length c] w fun e w' => e = .returned (.bool true) ∧ Below w.heap.size w w' := by
  unfold maxLen at hm
  by_cases h : 1048576 < bs.length
  · go_enter Try.func3, Try.ntmps3
    go_wp2
    go_ret
    exact ⟨rfl, Below.refl _ _⟩
  have HD := Lib.hid (spec_DrawKeepCookie bs A c w hr hc (by omega))
  clear hr
  go_enter Try.func3, Try.ntmps3
  go_wp2_with fail
  refine HD.out.mono ?_
  rintro e wd ⟨A2, c2, ps, ta, tb, u, now, rfl, ho2, hs2, hn2, hta, htb, ⟨hu0, hu1⟩, ⟨hn0, hn1⟩, hb1⟩
  have HA1 := Lib.hid ((Below.refl wd.heap.size wd).alloc (Nat.le_refl _) (.cells #[sv ta, sv tb, .int .i64 u] 25))
  have HX1 := Lib.hid (heap_alloc_new wd (.cells #[sv ta, sv tb, .int .i64 u] 25))
  have HB1 := Lib.hid (hb1.trans (HA1.out.mono hb1.size))
  have HO1 := Lib.hid (ownC_keep ho2 HA1.out)
  have hz1 : wd.heap.size < (wd.alloc (.cells #[sv ta, sv tb, .int .i64 u] 25)).heap.size := by simp
  have hfit := smallC_fit hs2
  have hcap := ownC_cap ho2
  have hpm : ps.length ≤ maxLen := by unfold maxLen; omega
  have htm : ta.length ≤ maxLen := by unfold maxLen; omega
  have hbm : tb.length ≤ maxLen := by unfold maxLen; omega
  have HAN : Hid (A2 = none → c2 = 0) := fun e => by have := ownC_cap0 ho2 e; exact this
  have HIM := Lib.hid (fun w3 (hb : Below _ _ w3) => impl_KeepCookie ps ta tb u now A2 c2 w3 (ownC_rd (ownC_keep HO1.out hb)) HAN.out hfit hcap hpm htm hbm)
  have HSP := Lib.hid (fun w3 (hb : Below _ _ w3) => spec_KeepCookie ps ta tb u now A2 c2 w3 (ownC_rd (ownC_keep HO1.out hb)) HAN.out hfit hpm htm hbm)
  have hcases := keep_cases ps (ta, tb, u) now
  have hkl := keepCookie_len ps (ta, tb, u) now hn2
  have hkf : FitC (keepCookie ps (ta, tb, u) now).1 := keepCookie_fit ps (ta, tb, u) now hfit htm hbm
  generalize keepCookie ps (ta, tb, u) now = r at *
  obtain ⟨x, ok⟩ := r
  dsimp only at hkl hkf
  have hxm : x.length ≤ maxLen := by unfold maxLen; omega
  have HSM := Lib.hid (fun (qs : List Ck) A' A3 c' c3 w3 (h1 : OwnC w3 w.heap.size A' c' x) (h2 : OwnC w3 w.heap.size A3 c3 qs) => laws_sameCookies x qs A' A3 c' c3 w3 (ownC_rd h1) (ownC_rd h2) hxm)
  have HOX := Lib.hid hkf
  have HCS := Lib.hid hcases
  have HIM1 := Lib.hid (HIM.out _ (Below.refl _ _))
  clear ho2 hs2 hb1 hcases hkf hfit HD
  go_upto_region 4 with fail
  generalize wd.alloc (.cells #[sv ta, sv tb, .int .i64 u] 25) = w2 at *
  obtain ⟨⟨f0, f1, f2⟩, -⟩ := box_threeQ HX1.out
  go_wp2_with fail
  refine HIM1.out.mono ?_
  rintro e w3 ⟨A4, c4, rfl, ho4, hb⟩
  have HC3 := Lib.hid hb
  have HO4 := Lib.hid (own_base ho4 HB1.out.size)
  obtain ⟨⟨g0, g1, g2⟩, -⟩ := box_threeQ (bx3_keep HX1.out hb)
  clear hb ho4 HIM1 f0 f1 f2
  dsimp only
  go_wp2_with fail
  refine (HSP.out w3 HC3.out).mono ?_
  rintro e w4 ⟨A5, c5, rfl, ho5, hb⟩
  have HC4 := Lib.hid (HC3.out.trans (hb.mono HC3.out.size))
  have HO44 := Lib.hid (ownC_keep HO4.out hb)
  have HSE := Lib.hid (HSM.out x A4 A5 c4 c5 w4 HO44.out (own_base ho5 (Nat.le_trans HB1.out.size HC3.out.size)))
  rw [show (x == x) = true by simp] at HSE
  clear hb ho5 g0 g1 g2
  have hoo : (ok != ok) = false := by simp
  dsimp only
  go_wp2_with fail
  refine HSE.out.mono ?_
  rintro e w5 ⟨rfl, hb⟩
  have HC5 := Lib.hid (HC4.out.trans (hb.mono HC4.out.size))
  have HB5 := Lib.hid (HB1.out.trans (HC5.out.mono HB1.out.size))
  have HO5 := Lib.hid (ownC_keep HO44.out hb)
  have HX5 := Lib.hid (bx3_keep HX1.out HC5.out)
  clear hb HSE HO44
  cases ok with
  | false =>
    have hx : x = ps ∨ x = [] := by
      rcases HCS.out with ⟨y, e, _⟩ | e | e
      · cases e
      · injection e with e _; exact .inl e
      · injection e with e _; exact .inr e
    have HS5 := Lib.hid (HSM.out ps A4 A2 c4 c2 w5 HO5.out (ownC_keep HO1.out HC5.out))
    rcases hx with rfl | rfl
    · rw [show (x == x) = true by simp] at HS5
      go_wp2_with fail
      refine HS5.out.mono ?_
      rintro e w6 ⟨rfl, hb⟩
      have HB6 := Lib.hid (HB5.out.trans (hb.mono HB5.out.size))
      clear hb
      go_wp2_with fail
      refine (laws_alive _).mono ?_
      rintro e w7 ⟨rfl, hb⟩
      have HB7 := Lib.hid (HB6.out.trans (hb.mono HB6.out.size))
      clear hb
      go_wp2
      go_ret
      exact ⟨rfl, HB7.out⟩
    · go_wp2_with fail
      refine HS5.out.mono ?_
      rintro e w6 ⟨rfl, hb⟩
      have HB6 := Lib.hid (HB5.out.trans (hb.mono HB5.out.size))
      clear hb
      cases hz : (([] : List Ck) == ps)
      · go_wp2_with fail
        refine (laws_alive _).mono ?_
        rintro e w7 ⟨rfl, hb⟩
        have HB7 := Lib.hid (HB6.out.trans (hb.mono HB6.out.size))
        clear hb
        go_wp2
        go_ret
        exact ⟨rfl, HB7.out⟩
      · go_wp2_with fail
        refine (laws_alive _).mono ?_
        rintro e w7 ⟨rfl, hb⟩
        have HB7 := Lib.hid (HB6.out.trans (hb.mono HB6.out.size))
        clear hb
        go_wp2
        go_ret
        exact ⟨rfl, HB7.out⟩
  | true =>
    have HK : Hid (Kept ps (ta, tb, u) now x) := by
      show Kept _ _ _ _
      rcases HCS.out with ⟨y, e, hk⟩ | e | e
      · injection e with e _; subst e; exact hk
      · cases e
      · cases e
    go_wp2
    go_loopw [10, 11] (fun m k wr => ∃ (j : Nat), j ≤ x.length ∧ m = .int .i64 (nameN x ta j : Int) ∧ k = .int .i64 j ∧ Below w5.heap.size w5 wr) (fun _ k _ => x.length - (intOf k).toNat)
    case atStart => exact ⟨0, Nat.zero_le _, rfl, rfl, Below.refl _ _⟩
    case round =>
      obtain ⟨j, hj, rfl, rfl, hb⟩ := hrel
      have HB := Lib.hid hb
      have HBW := Lib.hid (HB5.out.trans (hb.mono HB5.out.size))
      have HXr := Lib.hid (bx3_keep HX5.out hb)
      have hzr : wd.heap.size < wr.heap.size := lt_of_block3 HXr.out
      have hjn := nameN_le x ta j
      obtain ⟨⟨f0, f1, f2⟩, -⟩ := box_threeQ HXr.out
      clear hb
      by_cases hlt : j < x.length
      · obtain ⟨b, o, rfl, hab, d0, d1, d2⟩ := ((ownC_rd HO5.out).below HB.out).cookie hlt
        have hlv : (x[j].2.2 ≤ now) = False := eq_false (by have := HK.out.live x[j] (List.getElem_mem hlt); omega)
        have HS := Lib.hid (nameN_succ (a := ta) hlt)
        generalize nameN x ta j = m at *
        cases he : (x[j].1 == ta)
        · have HS2 : Hid (nameN x ta (j + 1) = m) := by show _ = _; rw [HS.out, he]; rfl
          clear HS
          go_wp2_with fail
          go_quiet (fail)
          go_wp2
          go_roundw
          case rel => exact ⟨j + 1, by omega, by rw [HS2.out], by go_num, below_drewN HB.out _⟩
          case measure => simp [intOf]; omega
        · have HS2 : Hid (nameN x ta (j + 1) = m + 1) := by show _ = _; rw [HS.out, he]; rfl
          clear HS
          go_wp2_with fail
          go_quiet (fail)
          go_wp2
          go_roundw
          case rel => exact ⟨j + 1, by omega, by rw [HS2.out]; go_num, by go_num, below_drewN HB.out _⟩
          case measure => simp [intOf]; omega
      · obtain rfl : j = x.length := by omega
        have HU : Hid (wr.cell? ⟨wd.heap.size, 2, none⟩ = some (.int .i64 u)) := f2
        have HOr := Lib.hid (ownC_keep HO5.out HB.out)
        have HCV := Lib.hid (fun w3 (hb : Below wr.heap.size wr w3) => impl_CookiesValid x A4 c4 w3 (ownC_rd (ownC_keep HOr.out hb)) HOX.out (ownC_cap HOr.out) hxm)
        rw [HK.out.ok] at HCV
        clear f0 f1 f2 hlt hj
        by_cases hnu : now < u
        · obtain ⟨l, hxl, hcn⟩ := HK.out.new hnu
          rw [hcn]
          have hlen : x.length = l.length + 1 := by rw [hxl]; simp
          have hlx : x[l.length]'(by omega) = (ta, tb, u) := by simp [hxl]
          obtain ⟨b, o, rfl, hab, d0, d1, d2⟩ := (ownC_rd HOr.out).cookie (k := l.length) (by omega)
          rw [hlx] at d0 d1 d2
          have HLC : Hid (wr.cell? ⟨b, o + l.length * 3, none⟩ = some (sv ta) ∧ wr.cell? ⟨b, o + l.length * 3 + 1, none⟩ = some (sv tb) ∧ wr.cell? ⟨b, o + l.length * 3 + 2, none⟩ = some (.int .i64 u)) := ⟨d0, d1, d2⟩
          rw [hlen] at HCV ⊢
          have hn1m : l.length ≤ 20 := by omega
          have hl0 : ((l.length : Int) < 0) = False := eq_false (by omega)
          clear hxl hlx hlen d0 d1 d2 hcn
          generalize l.length = n1 at *
          have hwr : IntKind.i64.wrap (n1 : Int) = (n1 : Int) := by simp only [IntKind.wrap, IntKind.bits, IntKind.signed] <;> simp <;> omega
          have hl1 : ((n1 : Int) < (n1 : Int) + 1) = True := eq_true (by omega)
          go_wp2_with fail
          refine wp_region_typedG 32 (fun j => ([none, some true, some true, none, none, none, some true, some true, none, some true, some true, some true, none, none, none, none, none, none, none, some true, some true, some true, none, none, none, none, none, none, none, none, some true, some true] : List (Option Bool)).getD j none) (fun j => ([true, true, true, true, true, true, true, true, true, true, true, true, true, true, true, true, true, true, true, true, true, true, false, false, false, false, false, false, false, false, true, true] : List Bool).getD j true) (by kernel_rfl) (by kernel_rfl) (fun _ w => Below (World.heap wr).size wr w) KB (fun i => ([bIs (.slice (some ⟨b, o, none⟩) (n1 + 1) c4), bIs (.bool true), bIs (.bool true), bIs (.pointer (some ⟨wd.heap.size, 2, none⟩)), bIs (.int .i64 u), bIs (.int .i64 now), bIs (.bool true), bIs (.bool true), bIs (.int .i64 1), bIs (.bool true), bIs (.bool true), bIs (.bool true), bIs (.slice (some ⟨b, o, none⟩) (n1 + 1) c4), bIs (.slice (some ⟨b, o, none⟩) (n1 + 1) c4), bIs (.int .i64 ((n1 : Int) + 1)), bIs (.int .i64 (n1 : Int)), bIs (.pointer (some ⟨b, o + n1 * 3, none⟩)), bIs (.agg #[sv ta, sv tb, .int .i64 u]), bIs (.agg #[sv ta, sv tb, .int .i64 u]), bIs (.bool true), bIs (.bool true), bIs (.bool true), bIs undef, bIs undef, bIs undef, bIs undef, bIs undef, bIs undef, bIs undef, bIs undef, bIs (.bool true), bIs (.bool true)] : List TyB).getD i bAny) ?hgvG1 ?hskipG1 (fun _ _ h => h) (fun w => kb_refl w) ?hWgG1 ?hkeepG1 ?hstepG1 ?hfingG1
          case hgvG1 =>
            refine all_lt_succ (all_lt_succ (all_lt_succ (all_lt_succ (all_lt_succ (all_lt_succ (all_lt_succ (all_lt_succ (all_lt_succ (all_lt_succ (all_lt_succ (all_lt_succ (all_lt_succ (all_lt_succ (all_lt_succ (all_lt_succ (all_lt_succ (all_lt_succ (all_lt_succ (all_lt_succ (all_lt_succ (all_lt_succ (all_lt_succ (all_lt_succ (all_lt_succ (all_lt_succ (all_lt_succ (all_lt_succ (all_lt_succ (all_lt_succ (all_lt_succ (all_lt_succ all_lt_zero ?_) ?_) ?_) ?_) ?_) ?_) ?_) ?_) ?_) ?_) ?_) ?_) ?_) ?_) ?_) ?_) ?_) ?_) ?_) ?_) ?_) ?_) ?_) ?_) ?_) ?_) ?_) ?_) ?_) ?_) ?_) ?_
            · exact fun _ h => by simp at h
            · exact fun x h _ _ e => by simp at h; subst h; exact e
            · exact fun x h _ _ e => by simp at h; subst h; exact e
            · exact fun _ h => by simp at h
            · exact fun _ h => by simp at h
            · exact fun _ h => by simp at h
            · exact fun x h _ _ e => by simp at h; subst h; exact e
            · exact fun x h _ _ e => by simp at h; subst h; exact e
            · exact fun _ h => by simp at h
            · exact fun x h _ _ e => by simp at h; subst h; exact e
            · exact fun x h _ _ e => by simp at h; subst h; exact e
            · exact fun x h _ _ e => by simp at h; subst h; exact e
            · exact fun _ h => by simp at h
            · exact fun _ h => by simp at h
            · exact fun _ h => by simp at h
            · exact fun _ h => by simp at h
            · exact fun _ h => by simp at h
            · exact fun _ h => by simp at h
            · exact fun _ h => by simp at h
            · exact fun x h _ _ e => by simp at h; subst h; exact e
            · exact fun x h _ _ e => by simp at h; subst h; exact e
            · exact fun x h _ _ e => by simp at h; subst h; exact e
            · exact fun _ h => by simp at h
            · exact fun _ h => by simp at h
            · exact fun _ h => by simp at h
            · exact fun _ h => by simp at h
            · exact fun _ h => by simp at h
            · exact fun _ h => by simp at h
            · exact fun _ h => by simp at h
            · exact fun _ h => by simp at h
            · exact fun x h _ _ e => by simp at h; subst h; exact e
            · exact fun x h _ _ e => by simp at h; subst h; exact e
          case hskipG1 =>
            refine all_lt_succ (all_lt_succ (all_lt_succ (all_lt_succ (all_lt_succ (all_lt_succ (all_lt_succ (all_lt_succ (all_lt_succ (all_lt_succ (all_lt_succ (all_lt_succ (all_lt_succ (all_lt_succ (all_lt_succ (all_lt_succ (all_lt_succ (all_lt_succ (all_lt_succ (all_lt_succ (all_lt_succ (all_lt_succ (all_lt_succ (all_lt_succ (all_lt_succ (all_lt_succ (all_lt_succ (all_lt_succ (all_lt_succ (all_lt_succ (all_lt_succ (all_lt_succ all_lt_zero ?_) ?_) ?_) ?_) ?_) ?_) ?_) ?_) ?_) ?_) ?_) ?_) ?_) ?_) ?_) ?_) ?_) ?_) ?_) ?_) ?_) ?_) ?_) ?_) ?_) ?_) ?_) ?_) ?_) ?_) ?_) ?_
            · exact fun h => by simp at h
            · exact fun h => by simp at h
            · exact fun h => by simp at h
            · exact fun h => by simp at h
            · exact fun h => by simp at h
            · exact fun h => by simp at h
            · exact fun h => by simp at h
            · exact fun h => by simp at h
            · exact fun h => by simp at h
            · exact fun h => by simp at h
            · exact fun h => by simp at h
            · exact fun h => by simp at h
            · exact fun h => by simp at h
            · exact fun h => by simp at h
            · exact fun h => by simp at h
            · exact fun h => by simp at h
            · exact fun h => by simp at h
            · exact fun h => by simp at h
            · exact fun h => by simp at h
            · exact fun h => by simp at h
            · exact fun h => by simp at h
            · exact fun h => by simp at h
            · exact fun _ _ _ => Iff.rfl
            · exact fun _ _ _ => Iff.rfl
            · exact fun _ _ _ => Iff.rfl
            · exact fun _ _ _ => Iff.rfl
            · exact fun _ _ _ => Iff.rfl
            · exact fun _ _ _ => Iff.rfl
            · exact fun _ _ _ => Iff.rfl
            · exact fun _ _ _ => Iff.rfl
            · exact fun h => by simp at h
            · exact fun h => by simp at h
          case hkeepG1 =>
            refine all_lt_succ (all_lt_succ (all_lt_succ (all_lt_succ (all_lt_succ (all_lt_succ (all_lt_succ (all_lt_succ (all_lt_succ (all_lt_succ (all_lt_succ (all_lt_succ (all_lt_succ (all_lt_succ (all_lt_succ (all_lt_succ (all_lt_succ (all_lt_succ (all_lt_succ (all_lt_succ (all_lt_succ (all_lt_succ (all_lt_succ (all_lt_succ (all_lt_succ (all_lt_succ (all_lt_succ (all_lt_succ (all_lt_succ (all_lt_succ (all_lt_succ (all_lt_succ all_lt_zero ?_) ?_) ?_) ?_) ?_) ?_) ?_) ?_) ?_) ?_) ?_) ?_) ?_) ?_) ?_) ?_) ?_) ?_) ?_) ?_) ?_) ?_) ?_) ?_) ?_) ?_) ?_) ?_) ?_) ?_) ?_) ?_
            · exact keeps_bIs
            · exact keeps_bIs
            · exact keeps_bIs
            · exact keeps_bIs
            · exact keeps_bIs
            · exact keeps_bIs
            · exact keeps_bIs
            · exact keeps_bIs
            · exact keeps_bIs
            · exact keeps_bIs
            · exact keeps_bIs
            · exact keeps_bIs
            · exact keeps_bIs
            · exact keeps_bIs
            · exact keeps_bIs
            · exact keeps_bIs
            · exact keeps_bIs
            · exact keeps_bIs
            · exact keeps_bIs
            · exact keeps_bIs
            · exact keeps_bIs
            · exact keeps_bIs
            · exact keeps_bIs
            · exact keeps_bIs
            · exact keeps_bIs
            · exact keeps_bIs
            · exact keeps_bIs
            · exact keeps_bIs
            · exact keeps_bIs
            · exact keeps_bIs
            · exact keeps_bIs
            · exact keeps_bIs
          case hstepG1 =>
            refine all_lt_succ_w (all_lt_succ_w (all_lt_succ_w (all_lt_succ_w (all_lt_succ_w (all_lt_succ_w (all_lt_succ_w (all_lt_succ_w (all_lt_succ_w (all_lt_succ_w (all_lt_succ_w (all_lt_succ_w (all_lt_succ_w (all_lt_succ_w (all_lt_succ_w (all_lt_succ_w (all_lt_succ_w (all_lt_succ_w (all_lt_succ_w (all_lt_succ_w (all_lt_succ_w (all_lt_succ_w (all_lt_succ_w (all_lt_succ_w (all_lt_succ_w (all_lt_succ_w (all_lt_succ_w (all_lt_succ_w (all_lt_succ_w (all_lt_succ_w (all_lt_succ_w (all_lt_succ_w all_lt_zero_w ?_) ?_) ?_) ?_) ?_) ?_) ?_) ?_) ?_) ?_) ?_) ?_) ?_) ?_) ?_) ?_) ?_) ?_) ?_) ?_) ?_) ?_) ?_) ?_) ?_) ?_) ?_) ?_) ?_) ?_) ?_) ?_
            · intro hwt; clear hwt; (intro o ho m' a w1 hm' hW hb hd K Q hK; obtain rfl := Option.some.inj ho; have e0 : a.tmps[6]?.getD undef = (.slice (some ⟨b, o, none⟩) (n1 + 1) c4) := (by rw [hb 6 (by decide +kernel)]; simp); go_simp; exact hK _ _ hW (kb_refl _) rfl)
            · intro hwt; clear hwt; (intro o ho m' a w1 hm' hW hb hd K Q hK; obtain rfl := Option.some.inj ho; have e0 := slotB (hd 0 (by kernel_rfl) 80 rfl); go_simp; refine (HCV.out _ hW).mono ?_; rintro e w2 ⟨rfl, hb2⟩; exact hK _ _ (hW.trans (hb2.mono hW.size)) hb2 rfl)
            · intro hwt; clear hwt; (intro o ho m' a w1 hm' hW hb hd K Q hK; obtain rfl := Option.some.inj ho; have e0 := slotB (hd 1 (by kernel_rfl) 81 rfl); go_simp; exact hK _ _ hW (kb_refl _) rfl)
            · intro hwt; clear hwt; (intro o ho m' a w1 hm' hW hb hd K Q hK; obtain rfl := Option.some.inj ho; have e0 : a.tmps[4]?.getD undef = .pointer (some ⟨wd.heap.size, 0, none⟩) := (by rw [hb 4 (by decide +kernel)]; simp); go_simp; exact hK _ _ hW (kb_refl _) rfl)
            · intro hwt; clear hwt; (intro o ho m' a w1 hm' hW hb hd K Q hK; obtain rfl := Option.some.inj ho; have e0 := slotB (hd 3 (by kernel_rfl) 83 rfl); have hcw := (hW.cell (p := ⟨wd.heap.size, 2, none⟩) hzr).trans HU.out; go_simp; exact hK _ _ hW (kb_refl _) rfl)
            · intro hwt; clear hwt; (intro o ho m' a w1 hm' hW hb hd K Q hK; obtain rfl := Option.some.inj ho; have e0 : a.tmps[5]?.getD undef = (.int .i64 now) := (by rw [hb 5 (by decide +kernel)]; simp); go_simp; exact hK _ _ hW (kb_refl _) rfl)
            · intro hwt; clear hwt; (intro o ho m' a w1 hm' hW hb hd K Q hK; obtain rfl := Option.some.inj ho; have e0 := slotB (hd 4 (by kernel_rfl) 84 rfl); have e1 := slotB (hd 5 (by kernel_rfl) 85 rfl); go_simp; exact hK _ _ hW (kb_refl _) rfl)
            · intro hwt; clear hwt; (intro o ho m' a w1 hm' hW hb hd K Q hK; obtain rfl := Option.some.inj ho; have e0 := slotB (hd 6 (by kernel_rfl) 86 rfl); go_simp; exact hK _ _ hW (kb_refl _) rfl)
            · intro hwt; clear hwt; (intro o ho m' a w1 hm' hW hb hd K Q hK; obtain rfl := Option.some.inj ho; have e0 : a.tmps[10]?.getD undef = (.int .i64 1) := (by rw [hb 10 (by decide +kernel)]; simp); go_simp; exact hK _ _ hW (kb_refl _) rfl)
            · intro hwt; clear hwt; (intro o ho m' a w1 hm' hW hb hd K Q hK; obtain rfl := Option.some.inj ho; have e0 := slotB (hd 8 (by kernel_rfl) 88 rfl); go_simp; exact hK _ _ hW (kb_refl _) rfl)
            · intro hwt; clear hwt; (intro o ho m' a w1 hm' hW hb hd K Q hK; obtain rfl := Option.some.inj ho; have e0 := slotB (hd 7 (by kernel_rfl) 87 rfl); have e1 := slotB (hd 9 (by kernel_rfl) 89 rfl); go_simp; exact hK _ _ hW (kb_refl _) rfl)
            · intro hwt; clear hwt; (intro o ho m' a w1 hm' hW hb hd K Q hK; obtain rfl := Option.some.inj ho; have e0 := slotB (hd 10 (by kernel_rfl) 90 rfl); go_simp; exact hK _ _ hW (kb_refl _) rfl)
            · intro hwt; clear hwt; (intro o ho m' a w1 hm' hW hb hd K Q hK; obtain rfl := Option.some.inj ho; have e0 : a.tmps[6]?.getD undef = (.slice (some ⟨b, o, none⟩) (n1 + 1) c4) := (by rw [hb 6 (by decide +kernel)]; simp); go_simp; exact hK _ _ hW (kb_refl _) rfl)
            · intro hwt; clear hwt; (intro o ho m' a w1 hm' hW hb hd K Q hK; obtain rfl := Option.some.inj ho; have e0 : a.tmps[6]?.getD undef = (.slice (some ⟨b, o, none⟩) (n1 + 1) c4) := (by rw [hb 6 (by decide +kernel)]; simp); go_simp; exact hK _ _ hW (kb_refl _) rfl)
            · intro hwt; clear hwt; (intro o ho m' a w1 hm' hW hb hd K Q hK; obtain rfl := Option.some.inj ho; have e0 := slotB (hd 13 (by kernel_rfl) 93 rfl); go_simp; exact hK _ _ hW (kb_refl _) rfl)
            · intro hwt; clear hwt; (intro o ho m' a w1 hm' hW hb hd K Q hK; obtain rfl := Option.some.inj ho; have e0 := slotB (hd 14 (by kernel_rfl) 94 rfl); go_simp; exact hK _ _ hW (kb_refl _) rfl)
            · intro hwt; clear hwt; (intro o ho m' a w1 hm' hW hb hd K Q hK; obtain rfl := Option.some.inj ho; have e0 := slotB (hd 12 (by kernel_rfl) 92 rfl); have e1 := slotB (hd 15 (by kernel_rfl) 95 rfl); go_simp; exact hK _ _ hW (kb_refl _) rfl)
            · intro hwt; clear hwt; (intro o ho m' a w1 hm' hW hb hd K Q hK; obtain rfl := Option.some.inj ho; have e0 := slotB (hd 16 (by kernel_rfl) 96 rfl); have q0 := (hW.cell (p := ⟨b, (o + n1 * 3), none⟩) hab).trans HLC.out.1; have q1 := (hW.cell (p := ⟨b, (o + n1 * 3) + 1, none⟩) hab).trans HLC.out.2.1; have q2 := (hW.cell (p := ⟨b, (o + n1 * 3) + 2, none⟩) hab).trans HLC.out.2.2; go_simp; exact hK _ _ hW (kb_refl _) rfl)
            · intro hwt; clear hwt; (intro o ho m' a w1 hm' hW hb hd K Q hK; obtain rfl := Option.some.inj ho; have e0 : a.tmps[4]?.getD undef = .pointer (some ⟨wd.heap.size, 0, none⟩) := (by rw [hb 4 (by decide +kernel)]; simp); have hbl := (hW.block _ hzr).trans HXr.out; have q0 := cell_of_row w1 _ 0 _ _ _ hbl; have q1 := cell_of_row w1 _ 1 _ _ _ hbl; have q2 := cell_of_row w1 _ 2 _ _ _ hbl; go_simp; exact hK _ _ hW (kb_refl _) rfl)
            · intro hwt; clear hwt; (intro o ho m' a w1 hm' hW hb hd K Q hK; obtain rfl := Option.some.inj ho; have e0 := slotB (hd 17 (by kernel_rfl) 97 rfl); have e1 := slotB (hd 18 (by kernel_rfl) 98 rfl); go_simp; exact hK _ _ hW (kb_refl _) rfl)
            · intro hwt; clear hwt; (intro o ho m' a w1 hm' hW hb hd K Q hK; obtain rfl := Option.some.inj ho; have e0 := slotB (hd 11 (by kernel_rfl) 91 rfl); have e1 := slotB (hd 19 (by kernel_rfl) 99 rfl); go_simp; exact hK _ _ hW (kb_refl _) rfl)
            · intro hwt; clear hwt; (intro o ho m' a w1 hm' hW hb hd K Q hK; obtain rfl := Option.some.inj ho; have e0 := slotB (hd 20 (by kernel_rfl) 100 rfl); go_simp; exact hK _ _ hW (kb_refl _) rfl)
            · intro hwt; simp at hwt
            · intro hwt; simp at hwt
            · intro hwt; simp at hwt
            · intro hwt; simp at hwt
            · intro hwt; simp at hwt
            · intro hwt; simp at hwt
            · intro hwt; simp at hwt
            · intro hwt; simp at hwt
            · intro hwt; clear hwt; (intro o ho m' a w1 hm' hW hb hd K Q hK; obtain rfl := Option.some.inj ho; have e0 := slotB (hd 21 (by kernel_rfl) 101 rfl); go_simp; exact hK _ _ hW (kb_refl _) rfl)
            · intro hwt; clear hwt; (intro o ho m' a w1 hm' hW hb hd K Q hK; obtain rfl := Option.some.inj ho; have e0 := slotB (hd 2 (by kernel_rfl) 82 rfl); have e1 := slotB (hd 30 (by kernel_rfl) 110 rfl); go_simp; exact hK _ _ hW (kb_refl _) rfl)
          case hWgG1 => exact (Below.refl _ _).drew
          case hfingG1 =>
            intro vs w9 hW hF
            have h31 : vs 31 = .bool true := hF 31 (by omega)
            have HB9 := Lib.hid (HBW.out.trans (hW.mono HBW.out.size))
            clear hW hF
            simp only [putAll, hdst, List.getElem?_cons_succ, List.getElem?_cons_zero, Option.bind, List.drop_succ_cons, List.drop_zero, Act.put]
            rw [h31]
            clear h31
            go_simp
            go_wp2
            go_ret
            exact ⟨rfl, HB9.out⟩
        · have hcn := HK.out.old hnu
          rw [hcn]
          have hfu : (now < u) = False := eq_false hnu
          have hle : u ≤ now := by omega
          go_wp2_with fail
          refine wp_region_typedG 32 (fun j => ([none, some true, some true, none, none, none, some false, some false, none, none, some false, some false, none, none, none, none, none, none, none, none, some false, some false, none, none, none, some true, some true, none, some true, some true, some true, some true] : List (Option Bool)).getD j none) (fun j => ([true, true, true, true, true, true, true, true, false, false, true, true, false, false, false, false, false, false, false, false, true, true, true, true, true, true, true, true, true, true, true, true] : List Bool).getD j true) (by kernel_rfl) (by kernel_rfl) (fun _ w => Below (World.heap wr).size wr w) KB (fun i => ([bIs (.slice A4 x.length c4), bIs (.bool true), bIs (.bool true), bIs (.pointer (some ⟨wd.heap.size, 2, none⟩)), bIs (.int .i64 u), bIs (.int .i64 now), bIs (.bool false), bIs (.bool false), bIs undef, bIs undef, bIs (.bool false), bIs (.bool false), bIs undef, bIs undef, bIs undef, bIs undef, bIs undef, bIs undef, bIs undef, bIs undef, bIs (.bool false), bIs (.bool false), bIs (.pointer (some ⟨wd.heap.size, 2, none⟩)), bIs (.int .i64 u), bIs (.int .i64 now), bIs (.bool true), bIs (.bool true), bIs (.int .i64 0), bIs (.bool true), bIs (.bool true), bIs (.bool true), bIs (.bool true)] : List TyB).getD i bAny) ?hgvG2 ?hskipG2 (fun _ _ h => h) (fun w => kb_refl w) ?hWgG2 ?hkeepG2 ?hstepG2 ?hfingG2
          case hgvG2 =>
            refine all_lt_succ (all_lt_succ (all_lt_succ (all_lt_succ (all_lt_succ (all_lt_succ (all_lt_succ (all_lt_succ (all_lt_succ (all_lt_succ (all_lt_succ (all_lt_succ (all_lt_succ (all_lt_succ (all_lt_succ (all_lt_succ (all_lt_succ (all_lt_succ (all_lt_succ (all_lt_succ (all_lt_succ (all_lt_succ (all_lt_succ (all_lt_succ (all_lt_succ (all_lt_succ (all_lt_succ (all_lt_succ (all_lt_succ (all_lt_succ (all_lt_succ (all_lt_succ all_lt_zero ?_) ?_) ?_) ?_) ?_) ?_) ?_) ?_) ?_) ?_) ?_) ?_) ?_) ?_) ?_) ?_) ?_) ?_) ?_) ?_) ?_) ?_) ?_) ?_) ?_) ?_) ?_) ?_) ?_) ?_) ?_) ?_
            · exact fun _ h => by simp at h
            · exact fun x h _ _ e => by simp at h; subst h; exact e
            · exact fun x h _ _ e => by simp at h; subst h; exact e
            · exact fun _ h => by simp at h
            · exact fun _ h => by simp at h
            · exact fun _ h => by simp at h
            · exact fun x h _ _ e => by simp at h; subst h; exact e
            · exact fun x h _ _ e => by simp at h; subst h; exact e
            · exact fun _ h => by simp at h
            · exact fun _ h => by simp at h
            · exact fun x h _ _ e => by simp at h; subst h; exact e
            · exact fun x h _ _ e => by simp at h; subst h; exact e
            · exact fun _ h => by simp at h
            · exact fun _ h => by simp at h
            · exact fun _ h => by simp at h
            · exact fun _ h => by simp at h
            · exact fun _ h => by simp at h
            · exact fun _ h => by simp at h
            · exact fun _ h => by simp at h
            · exact fun _ h => by simp at h
            · exact fun x h _ _ e => by simp at h; subst h; exact e
            · exact fun x h _ _ e => by simp at h; subst h; exact e
            · exact fun _ h => by simp at h
            · exact fun _ h => by simp at h
            · exact fun _ h => by simp at h
            · exact fun x h _ _ e => by simp at h; subst h; exact e
            · exact fun x h _ _ e => by simp at h; subst h; exact e
            · exact fun _ h => by simp at h
            · exact fun x h _ _ e => by simp at h; subst h; exact e
            · exact fun x h _ _ e => by simp at h; subst h; exact e
            · exact fun x h _ _ e => by simp at h; subst h; exact e
            · exact fun x h _ _ e => by simp at h; subst h; exact e
          case hskipG2 =>
            refine all_lt_succ (all_lt_succ (all_lt_succ (all_lt_succ (all_lt_succ (all_lt_succ (all_lt_succ (all_lt_succ (all_lt_succ (all_lt_succ (all_lt_succ (all_lt_succ (all_lt_succ (all_lt_succ (all_lt_succ (all_lt_succ (all_lt_succ (all_lt_succ (all_lt_succ (all_lt_succ (all_lt_succ (all_lt_succ (all_lt_succ (all_lt_succ (all_lt_succ (all_lt_succ (all_lt_succ (all_lt_succ (all_lt_succ (all_lt_succ (all_lt_succ (all_lt_succ all_lt_zero ?_) ?_) ?_) ?_) ?_) ?_) ?_) ?_) ?_) ?_) ?_) ?_) ?_) ?_) ?_) ?_) ?_) ?_) ?_) ?_) ?_) ?_) ?_) ?_) ?_) ?_) ?_) ?_) ?_) ?_) ?_) ?_
            · exact fun h => by simp at h
            · exact fun h => by simp at h
            · exact fun h => by simp at h
            · exact fun h => by simp at h
            · exact fun h => by simp at h
            · exact fun h => by simp at h
            · exact fun h => by simp at h
            · exact fun h => by simp at h
            · exact fun _ _ _ => Iff.rfl
            · exact fun _ _ _ => Iff.rfl
            · exact fun h => by simp at h
            · exact fun h => by simp at h
            · exact fun _ _ _ => Iff.rfl
            · exact fun _ _ _ => Iff.rfl
            · exact fun _ _ _ => Iff.rfl
            · exact fun _ _ _ => Iff.rfl
            · exact fun _ _ _ => Iff.rfl
            · exact fun _ _ _ => Iff.rfl
            · exact fun _ _ _ => Iff.rfl
            · exact fun _ _ _ => Iff.rfl
            · exact fun h => by simp at h
            · exact fun h => by simp at h
            · exact fun h => by simp at h
            · exact fun h => by simp at h
            · exact fun h => by simp at h
            · exact fun h => by simp at h
            · exact fun h => by simp at h
            · exact fun h => by simp at h
            · exact fun h => by simp at h
            · exact fun h => by simp at h
            · exact fun h => by simp at h
            · exact fun h => by simp at h
          case hkeepG2 =>
            refine all_lt_succ (all_lt_succ (all_lt_succ (all_lt_succ (all_lt_succ (all_lt_succ (all_lt_succ (all_lt_succ (all_lt_succ (all_lt_succ (all_lt_succ (all_lt_succ (all_lt_succ (all_lt_succ (all_lt_succ (all_lt_succ (all_lt_succ (all_lt_succ (all_lt_succ (all_lt_succ (all_lt_succ (all_lt_succ (all_lt_succ (all_lt_succ (all_lt_succ (all_lt_succ (all_lt_succ (all_lt_succ (all_lt_succ (all_lt_succ (all_lt_succ (all_lt_succ all_lt_zero ?_) ?_) ?_) ?_) ?_) ?_) ?_) ?_) ?_) ?_) ?_) ?_) ?_) ?_) ?_) ?_) ?_) ?_) ?_) ?_) ?_) ?_) ?_) ?_) ?_) ?_) ?_) ?_) ?_) ?_) ?_) ?_
            · exact keeps_bIs
            · exact keeps_bIs
            · exact keeps_bIs
            · exact keeps_bIs
            · exact keeps_bIs
            · exact keeps_bIs
            · exact keeps_bIs
            · exact keeps_bIs
            · exact keeps_bIs
            · exact keeps_bIs
            · exact keeps_bIs
            · exact keeps_bIs
            · exact keeps_bIs
            · exact keeps_bIs
            · exact keeps_bIs
            · exact keeps_bIs
            · exact keeps_bIs
            · exact keeps_bIs
            · exact keeps_bIs
            · exact keeps_bIs
            · exact keeps_bIs
            · exact keeps_bIs
            · exact keeps_bIs
            · exact keeps_bIs
            · exact keeps_bIs
            · exact keeps_bIs
            · exact keeps_bIs
            · exact keeps_bIs
            · exact keeps_bIs
            · exact keeps_bIs
            · exact keeps_bIs
            · exact keeps_bIs
          case hstepG2 =>
            refine all_lt_succ_w (all_lt_succ_w (all_lt_succ_w (all_lt_succ_w (all_lt_succ_w (all_lt_succ_w (all_lt_succ_w (all_lt_succ_w (all_lt_succ_w (all_lt_succ_w (all_lt_succ_w (all_lt_succ_w (all_lt_succ_w (all_lt_succ_w (all_lt_succ_w (all_lt_succ_w (all_lt_succ_w (all_lt_succ_w (all_lt_succ_w (all_lt_succ_w (all_lt_succ_w (all_lt_succ_w (all_lt_succ_w (all_lt_succ_w (all_lt_succ_w (all_lt_succ_w (all_lt_succ_w (all_lt_succ_w (all_lt_succ_w (all_lt_succ_w (all_lt_succ_w (all_lt_succ_w all_lt_zero_w ?_) ?_) ?_) ?_) ?_) ?_) ?_) ?_) ?_) ?_) ?_) ?_) ?_) ?_) ?_) ?_) ?_) ?_) ?_) ?_) ?_) ?_) ?_) ?_) ?_) ?_) ?_) ?_) ?_) ?_) ?_) ?_
            · intro hwt; clear hwt; (intro o ho m' a w1 hm' hW hb hd K Q hK; obtain rfl := Option.some.inj ho; have e0 : a.tmps[6]?.getD undef = (.slice A4 x.length c4) := (by rw [hb 6 (by decide +kernel)]; simp); go_simp; exact hK _ _ hW (kb_refl _) rfl)
            · intro hwt; clear hwt; (intro o ho m' a w1 hm' hW hb hd K Q hK; obtain rfl := Option.some.inj ho; have e0 := slotB (hd 0 (by kernel_rfl) 80 rfl); go_simp; refine (HCV.out _ hW).mono ?_; rintro e w2 ⟨rfl, hb2⟩; exact hK _ _ (hW.trans (hb2.mono hW.size)) hb2 rfl)
            · intro hwt; clear hwt; (intro o ho m' a w1 hm' hW hb hd K Q hK; obtain rfl := Option.some.inj ho; have e0 := slotB (hd 1 (by kernel_rfl) 81 rfl); go_simp; exact hK _ _ hW (kb_refl _) rfl)
            · intro hwt; clear hwt; (intro o ho m' a w1 hm' hW hb hd K Q hK; obtain rfl := Option.some.inj ho; have e0 : a.tmps[4]?.getD undef = .pointer (some ⟨wd.heap.size, 0, none⟩) := (by rw [hb 4 (by decide +kernel)]; simp); go_simp; exact hK _ _ hW (kb_refl _) rfl)
            · intro hwt; clear hwt; (intro o ho m' a w1 hm' hW hb hd K Q hK; obtain rfl := Option.some.inj ho; have e0 := slotB (hd 3 (by kernel_rfl) 83 rfl); have hcw := (hW.cell (p := ⟨wd.heap.size, 2, none⟩) hzr).trans HU.out; go_simp; exact hK _ _ hW (kb_refl _) rfl)
            · intro hwt; clear hwt; (intro o ho m' a w1 hm' hW hb hd K Q hK; obtain rfl := Option.some.inj ho; have e0 : a.tmps[5]?.getD undef = (.int .i64 now) := (by rw [hb 5 (by decide +kernel)]; simp); go_simp; exact hK _ _ hW (kb_refl _) rfl)
            · intro hwt; clear hwt; (intro o ho m' a w1 hm' hW hb hd K Q hK; obtain rfl := Option.some.inj ho; have e0 := slotB (hd 4 (by kernel_rfl) 84 rfl); have e1 := slotB (hd 5 (by kernel_rfl) 85 rfl); go_simp; exact hK _ _ hW (kb_refl _) rfl)
            · intro hwt; clear hwt; (intro o ho m' a w1 hm' hW hb hd K Q hK; obtain rfl := Option.some.inj ho; have e0 := slotB (hd 6 (by kernel_rfl) 86 rfl); go_simp; exact hK _ _ hW (kb_refl _) rfl)
            · intro hwt; simp at hwt
            · intro hwt; simp at hwt
            · intro hwt; clear hwt; (intro o ho m' a w1 hm' hW hb hd K Q hK; obtain rfl := Option.some.inj ho; have e0 := slotB (hd 7 (by kernel_rfl) 87 rfl); go_simp; exact hK _ _ hW (kb_refl _) rfl)
            · intro hwt; clear hwt; (intro o ho m' a w1 hm' hW hb hd K Q hK; obtain rfl := Option.some.inj ho; have e0 := slotB (hd 10 (by kernel_rfl) 90 rfl); go_simp; exact hK _ _ hW (kb_refl _) rfl)
            · intro hwt; simp at hwt
            · intro hwt; simp at hwt
            · intro hwt; simp at hwt
            · intro hwt; simp at hwt
            · intro hwt; simp at hwt
            · intro hwt; simp at hwt
            · intro hwt; simp at hwt
            · intro hwt; simp at hwt
            · intro hwt; clear hwt; (intro o ho m' a w1 hm' hW hb hd K Q hK; obtain rfl := Option.some.inj ho; have e0 := slotB (hd 11 (by kernel_rfl) 91 rfl); go_simp; exact hK _ _ hW (kb_refl _) rfl)
            · intro hwt; clear hwt; (intro o ho m' a w1 hm' hW hb hd K Q hK; obtain rfl := Option.some.inj ho; have e0 := slotB (hd 20 (by kernel_rfl) 100 rfl); go_simp; exact hK _ _ hW (kb_refl _) rfl)
            · intro hwt; clear hwt; (intro o ho m' a w1 hm' hW hb hd K Q hK; obtain rfl := Option.some.inj ho; have e0 : a.tmps[4]?.getD undef = .pointer (some ⟨wd.heap.size, 0, none⟩) := (by rw [hb 4 (by decide +kernel)]; simp); go_simp; exact hK _ _ hW (kb_refl _) rfl)
            · intro hwt; clear hwt; (intro o ho m' a w1 hm' hW hb hd K Q hK; obtain rfl := Option.some.inj ho; have e0 := slotB (hd 22 (by kernel_rfl) 102 rfl); have hcw := (hW.cell (p := ⟨wd.heap.size, 2, none⟩) hzr).trans HU.out; go_simp; exact hK _ _ hW (kb_refl _) rfl)
            · intro hwt; clear hwt; (intro o ho m' a w1 hm' hW hb hd K Q hK; obtain rfl := Option.some.inj ho; have e0 : a.tmps[5]?.getD undef = (.int .i64 now) := (by rw [hb 5 (by decide +kernel)]; simp); go_simp; exact hK _ _ hW (kb_refl _) rfl)
            · intro hwt; clear hwt; (intro o ho m' a w1 hm' hW hb hd K Q hK; obtain rfl := Option.some.inj ho; have e0 := slotB (hd 23 (by kernel_rfl) 103 rfl); have e1 := slotB (hd 24 (by kernel_rfl) 104 rfl); go_simp; exact hK _ _ hW (kb_refl _) rfl)
            · intro hwt; clear hwt; (intro o ho m' a w1 hm' hW hb hd K Q hK; obtain rfl := Option.some.inj ho; have e0 := slotB (hd 25 (by kernel_rfl) 105 rfl); go_simp; exact hK _ _ hW (kb_refl _) rfl)
            · intro hwt; clear hwt; (intro o ho m' a w1 hm' hW hb hd K Q hK; obtain rfl := Option.some.inj ho; have e0 : a.tmps[10]?.getD undef = (.int .i64 0) := (by rw [hb 10 (by decide +kernel)]; simp); go_simp; exact hK _ _ hW (kb_refl _) rfl)
            · intro hwt; clear hwt; (intro o ho m' a w1 hm' hW hb hd K Q hK; obtain rfl := Option.some.inj ho; have e0 := slotB (hd 27 (by kernel_rfl) 107 rfl); go_simp; exact hK _ _ hW (kb_refl _) rfl)
            · intro hwt; clear hwt; (intro o ho m' a w1 hm' hW hb hd K Q hK; obtain rfl := Option.some.inj ho; have e0 := slotB (hd 26 (by kernel_rfl) 106 rfl); have e1 := slotB (hd 28 (by kernel_rfl) 108 rfl); go_simp; exact hK _ _ hW (kb_refl _) rfl)
            · intro hwt; clear hwt; (intro o ho m' a w1 hm' hW hb hd K Q hK; obtain rfl := Option.some.inj ho; have e0 := slotB (hd 21 (by kernel_rfl) 101 rfl); have e1 := slotB (hd 29 (by kernel_rfl) 109 rfl); go_simp; exact hK _ _ hW (kb_refl _) rfl)
            · intro hwt; clear hwt; (intro o ho m' a w1 hm' hW hb hd K Q hK; obtain rfl := Option.some.inj ho; have e0 := slotB (hd 2 (by kernel_rfl) 82 rfl); have e1 := slotB (hd 30 (by kernel_rfl) 110 rfl); go_simp; exact hK _ _ hW (kb_refl _) rfl)
          case hWgG2 => exact (Below.refl _ _).drew
          case hfingG2 =>
            intro vs w9 hW hF
            have h31 : vs 31 = .bool true := hF 31 (by omega)
            have HB9 := Lib.hid (HBW.out.trans (hW.mono HBW.out.size))
            clear hW hF
            simp only [putAll, hdst, List.getElem?_cons_succ, List.getElem?_cons_zero, Option.bind, List.drop_succ_cons, List.drop_zero, Act.put]
            rw [h31]
            clear h31
            go_simp
            go_wp2
            go_ret
            exact ⟨rfl, HB9.out⟩
set_option maxRecDepth 100000 in
theorem fnKeepCookie_lifted (os : Os) (started : os.Started) (H : Type) (enc : TypeId × Value → H) :
    ReturnsInHanded {} Try.checked os 3 .any (Rows.fnKeepCookieSpec.pre6 enc Try.prog Try.f3 Rows.fnKeepCookieRow.domain false)
      (Rows.fnKeepCookieSpec.post enc Try.prog Try.f3 false true false false) := by
  refine returnsInHanded_of_change (C := Try.checked) Try.own started (by kernel_rfl) Try.func3
    (ChangeSpec.witness6 (enc := enc) (C := Try.checked) false ⟨#[], #[.slice none 0 0], []⟩ 8 (by kernel_rfl) (by kernel_rfl) (by kernel_rfl) (by kernel_rfl)) ?_
  intro W base args ds gs before hval0 hW _ _
  have hval : ∀ (j : Nat) t v, Try.f3.params[j]? = some t → args[j]? = some v → Value.okWide Try.prog W .any base t v := hval0
  have hW' := hW
  obtain ⟨p, q, hA0, hV, rfl, _, _⟩ := hW
  have hA : DataW.TrodAll enc Try.prog W 0 (fun _ => true) true Try.f3.params.toList args.toList ds p := hA0
  rw [Try.params3] at hA hval
  obtain ⟨v0, d0, rfl, rfl, h0⟩ := trodAll_one hA
  obtain ⟨rfl, rfl⟩ := trodVars_none hV
  obtain ⟨A, c, bs, rfl, hr, hlc, hcm⟩ := open_bytes Try.underlying22 Try.underlying5 (by kernel_rfl) (hval 0 _ v0 rfl rfl) h0
  refine (keepCookie_walk bs A c W hr hlc (Nat.le_trans hlc hcm)).mono fun e W' ⟨he, hw⟩ => ?_
  subst he
  exact ⟨_, rfl, law_post hW' rfl rfl (by kernel_rfl) Try.underlying4 Try.laidOut (of_decide_eq_true (by kernel_rfl)) hw⟩

theorem fnKeepCookie_holds : Rows.FnKeepCookieSaid :=
  OpenClaim.holds_of_wide 3 Try.f3 rfl rfl rfl rfl rfl rfl rfl ⟨rfl, rfl, rfl, rfl, rfl⟩ rfl rfl rfl rfl rfl (by kernel_rfl) Try.func3 (by kernel_rfl)
    (of_decide_eq_true (by kernel_rfl)) (by unfold Func.isWrapper; first | (rw [if_pos (by decide +kernel)]; kernel_rfl) | (rw [if_neg (by decide +kernel)]; exact ⟨rfl, rfl⟩))
    (fun os started H enc _ => fnKeepCookie_lifted os started H enc)

#print axioms fnKeepCookie_holds
end Go.Proofs.Ytlafdpndpjcklaa
