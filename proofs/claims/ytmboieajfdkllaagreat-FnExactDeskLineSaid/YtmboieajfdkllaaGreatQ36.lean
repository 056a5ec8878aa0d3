import Derived.Test.YtmboieajfdkllaaGreatQ01
import Derived.Test.YtmboieajfdkllaaGreatQ02
import Derived.Test.YtmboieajfdkllaaGreatQ03
import Derived.Test.YtmboieajfdkllaaGreatQ32
namespace Go.Proofs.YtmboieajfdkllaaGreat
open Go.RowKit
def EqC (x : Pt) : Prop := ∀ (b : Pt) (u v : Value) (w : World), InP w (All w) x u -> InP w (All w) b v -> Pt.Fit x -> Pt.Fit b →
  Calls Tryz.prog 98 #[u, v] w fun e w' => e = .returned (.bool (Pt.same x b)) /\ Below w.heap.size w w'
set_option maxRecDepth 100000 in
set_option maxHeartbeats 4000000 in
theorem kA (xs xs' : List Pt) (hE : ∀ x ∈ xs, EqC x) (A A' : Option Addr) (c c' : Nat) (w : World) (hx : RdP w (All w) A xs) (hy : RdP w (All w) A' xs') (hf : Pt.Fits xs) (hf' : Pt.Fits xs') (hn : xs.length <= maxLen) :
  Calls Tryz.prog 51 #[.slice A xs.length c, .slice A' xs'.length c'] w fun e w' => e = .returned (.bool (Pt.sames xs xs')) /\ Below w.heap.size w w' := by
 have HE0 := qb hE
 have HX := qb hx
 have HY := qb hy
 have HF := qb hf
 have HF' := qb hf'
 have hxl : xs.length <= 9223372036854775807 := hn
 clear hE hx hy hf hf' hn
 by_cases hl : xs.length = xs'.length
 ·have m5 : ((xs.length : Int) != (xs'.length : Int)) = false := by rw [hl]; simp
  have HL := qb hl
  clear hl
  go_enter Tryz.func51, Tryz.ntmps51
  go_wp2
  go_loopw [5] (fun i wr => ∃ (j : Nat), j <= xs.length /\ i = .int .i64 j /\ Pt.sames (xs.drop j) (xs'.drop j) = Pt.sames xs xs' /\ Below w.heap.size w wr) (fun i _ => xs.length - (intOf i).toNat)
  case atStart => exact ⟨0, Nat.zero_le _, rfl, rfl, Below.refl _ _⟩
  case round =>
   obtain ⟨j, hj, rfl, hsm, hb⟩ := hrel
   have HSM := qb hsm
   have HB := qb hb
   clear hsm hb
   by_cases hlt : j < xs.length
   ·have hlt' : j < xs'.length := by have := HL.out; omega
    obtain ⟨b1, o1, hA1, hb1, kd, tt, nn, An1, ln1, cn1, Ai1, li1, ci1, hin, c0, c1, c2, c3, c4⟩ := (HX.out.now HB.out).at hlt
    obtain ⟨b2, o2, hA2, hb2, kd', tt', nn', An2, ln2, cn2, Ai2, li2, ci2, hin', d0, d1, d2, d3, d4⟩ := (HY.out.now HB.out).at hlt'
    have HC := qb (And.intro c0 (And.intro c1 (And.intro c2 (And.intro c3 c4))))
    have HD := qb (And.intro d0 (And.intro d1 (And.intro d2 (And.intro d3 d4))))
    have HCALL := qb (fun w2 (hb : Below wr.heap.size wr w2) => HE0.out xs[j] (List.getElem_mem hlt) xs'[j] _ _ w2 (hin.now hb) (hin'.now hb) (Pt.fits_mem HF.out (List.getElem_mem hlt)) (Pt.fits_mem HF'.out (List.getElem_mem hlt')))
    have HST := qb (Ju HSM.out hlt hlt')
    clear hin hin' c0 c1 c2 c3 c4 d0 d1 d2 d3 d4
    generalize Pt.same xs[j] xs'[j] = r at *
    subst hA1
    subst hA2
    go_wp2_with fail
    refine qU 9 (by kernel_rfl) (by kernel_rfl) (fun _ w => Below (World.heap wr).size wr w) KB (fun i => ([bIs (.slice (some ⟨b1, o1, none⟩) xs.length c), bIs (.int .i64 (j : Int)), bIs (.pointer (some ⟨b1, o1 + j * 5, none⟩)), bIs (ptV kd tt nn An1 ln1 cn1 Ai1 li1 ci1), bIs (.slice (some ⟨b2, o2, none⟩) xs'.length c'), bIs (.int .i64 (j : Int)), bIs (.pointer (some ⟨b2, o2 + j * 5, none⟩)), bIs (ptV kd' tt' nn' An2 ln2 cn2 Ai2 li2 ci2), bIs (.bool r)] : List TyB).getD i bAny) ?hWbB1 ?hkeepB1 ?hstepB1 ?hfinbB1
    case hkeepB1 =>
     refine qg (qg (qg (qg (qg (qg (qg (qg (qg qG ?_) ?_) ?_) ?_) ?_) ?_) ?_) ?_) ?_
     ·exact qj
     ·exact qj
     ·exact qj
     ·exact qj
     ·exact qj
     ·exact qj
     ·exact qj
     ·exact qj
     ·exact qj
    case hstepB1 =>
     refine qg (qg (qg (qg (qg (qg (qg (qg (qg qG ?_) ?_) ?_) ?_) ?_) ?_) ?_) ?_) ?_
     ·(intro o ho m' a w1 hm' hW hb hd K Q hK; obtain rfl := Option.some.inj ho; have e0 : a.tmps[0]?.getD undef = (.slice (some ⟨b1, o1, none⟩) xs.length c) := (by rw [hb 0 (by decide +kernel)]; simp); go_simp; exact hK _ _ hW (qk _) rfl)
     ·(intro o ho m' a w1 hm' hW hb hd K Q hK; obtain rfl := Option.some.inj ho; have e0 : a.tmps[5]?.getD undef = (.int .i64 (j : Int)) := (by rw [hb 5 (by decide +kernel)]; simp); go_simp; exact hK _ _ hW (qk _) rfl)
     ·(intro o ho m' a w1 hm' hW hb hd K Q hK; obtain rfl := Option.some.inj ho; have e0 := qo (hd 0 (by kernel_rfl) 17 rfl); have e1 := qo (hd 1 (by kernel_rfl) 18 rfl); go_simp; exact hK _ _ hW (qk _) rfl)
     ·(intro o ho m' a w1 hm' hW hb hd K Q hK; obtain rfl := Option.some.inj ho; have e0 := qo (hd 2 (by kernel_rfl) 19 rfl); have q0 := (hW.cell (p := ⟨b1, o1 + j * 5, none⟩) hb1).trans HC.out.1; have q1 := (hW.cell (p := ⟨b1, o1 + j * 5 + 1, none⟩) hb1).trans HC.out.2.1; have q2 := (hW.cell (p := ⟨b1, o1 + j * 5 + 2, none⟩) hb1).trans HC.out.2.2.1; have q3 := (hW.cell (p := ⟨b1, o1 + j * 5 + 3, none⟩) hb1).trans HC.out.2.2.2.1; have q4 := (hW.cell (p := ⟨b1, o1 + j * 5 + 4, none⟩) hb1).trans HC.out.2.2.2.2; go_simp; exact hK _ _ hW (qk _) rfl)
     ·(intro o ho m' a w1 hm' hW hb hd K Q hK; obtain rfl := Option.some.inj ho; have e0 : a.tmps[1]?.getD undef = (.slice (some ⟨b2, o2, none⟩) xs'.length c') := (by rw [hb 1 (by decide +kernel)]; simp); go_simp; exact hK _ _ hW (qk _) rfl)
     ·(intro o ho m' a w1 hm' hW hb hd K Q hK; obtain rfl := Option.some.inj ho; have e0 : a.tmps[5]?.getD undef = (.int .i64 (j : Int)) := (by rw [hb 5 (by decide +kernel)]; simp); go_simp; exact hK _ _ hW (qk _) rfl)
     ·(intro o ho m' a w1 hm' hW hb hd K Q hK; obtain rfl := Option.some.inj ho; have e0 := qo (hd 4 (by kernel_rfl) 21 rfl); have e1 := qo (hd 5 (by kernel_rfl) 22 rfl); go_simp; exact hK _ _ hW (qk _) rfl)
     ·(intro o ho m' a w1 hm' hW hb hd K Q hK; obtain rfl := Option.some.inj ho; have e0 := qo (hd 6 (by kernel_rfl) 23 rfl); have q0 := (hW.cell (p := ⟨b2, o2 + j * 5, none⟩) hb2).trans HD.out.1; have q1 := (hW.cell (p := ⟨b2, o2 + j * 5 + 1, none⟩) hb2).trans HD.out.2.1; have q2 := (hW.cell (p := ⟨b2, o2 + j * 5 + 2, none⟩) hb2).trans HD.out.2.2.1; have q3 := (hW.cell (p := ⟨b2, o2 + j * 5 + 3, none⟩) hb2).trans HD.out.2.2.2.1; have q4 := (hW.cell (p := ⟨b2, o2 + j * 5 + 4, none⟩) hb2).trans HD.out.2.2.2.2; go_simp; exact hK _ _ hW (qk _) rfl)
     ·(intro o ho m' a w1 hm' hW hb hd K Q hK; obtain rfl := Option.some.inj ho; have e0 := qo (hd 3 (by kernel_rfl) 20 rfl); have e1 := qo (hd 7 (by kernel_rfl) 24 rfl); go_simp; refine (HCALL.out _ hW).mono ?_; rintro e w2 ⟨rfl, hb2⟩; exact hK _ _ (hW.trans (hb2.mono hW.size)) hb2 rfl)
    case hWbB1 => exact (Below.refl _ _).drew
    case hfinbB1 =>
     intro vs w2 hW hF
     simp only [qF, hdst, List.getElem?_cons_succ, List.getElem?_cons_zero, Option.bind, List.drop_succ_cons, List.drop_zero, Act.put]
     have h8 : vs 8 = .bool r := hF 8 (by omega)
     rw [h8]
     have HB4 := qb (HB.out.trans (hW.mono HB.out.size))
     clear hW hF h8
     go_simp
     cases r
     ·have HE : Hid (Pt.sames xs xs' = false) := HST.out.symm
      go_wp2
      go_ret
      exact ⟨qw HE.out.symm, HB4.out⟩
     ·rw [Bool.true_and] at HST
      go_wp2
      go_roundw
      case rel => exact ⟨j + 1, by omega, by go_num, HST.out, HB4.out⟩
      case measure => simp [intOf]; omega
   ·have HE := qb (Jv HSM.out hlt HL.out)
    go_wp2
    go_ret
    exact ⟨qw HE.out, HB.out⟩
 ·have m5 : ((xs.length : Int) != (xs'.length : Int)) = true := by simp; omega
  have HE : Hid (Pt.sames xs xs' = false) := yp hl
  clear hl
  go_enter Tryz.func51, Tryz.ntmps51
  go_wp2
  go_ret
  exact ⟨qw HE.out.symm, Below.refl _ _⟩
set_option maxRecDepth 100000 in
set_option maxHeartbeats 4000000 in
theorem JD (a : Pt) : EqC a := by
 induction a using Pt.ind with
 | h k t n xs ys ih1 ih2 =>
 intro b u v w hu hv hfa hfb
 cases b with
 | mk k' t' n' xs' ys' =>
 obtain ⟨Ap, cp, Ao, co, rfl, hcp, hco, hrp, hro⟩ := hu.parts
 obtain ⟨Ap', cp', Ao', co', rfl, hcp', hco', hrp', hro'⟩ := hv.parts
 simp only [Pt.Fit] at hfa hfb
 obtain ⟨ha1, ha2, ha3, ha4, ha5, ha6⟩ := hfa
 obtain ⟨hb1, hb2, hb3, hb4, hb5, hb6⟩ := hfb
 obtain ⟨hB0, hX0, hY0⟩ := qE w (qD k t n Ap xs.length cp Ao ys.length co) (qD k' t' n' Ap' xs'.length cp' Ao' ys'.length co') 115 115
 have HB0 := qb hB0
 have HX0 := qb hX0
 have HY0 := qb hY0
 have HEQ := qb (kA xs xs' ih1 Ap Ap' cp cp' _ (hrp.now hB0) (hrp'.now hB0) ha5 hb5 ha3)
 have HIN := qb (fun w2 (hb : Below _ _ w2) => kA ys ys' ih2 Ao Ao' co co' w2 ((hro.now hB0).now hb) ((hro'.now hB0).now hb) ha6 hb6 ha4)
 have HS : Hid (Pt.same (.mk k t n xs ys) (.mk k' t' n' xs' ys') = (k == k' && (t == t' && (n == n' && (Pt.sames xs xs' && Pt.sames ys ys'))))) := by show _ = _; simp only [Pt.same]
 clear hu hv hrp hro hrp' hro' ha5 hb5 hB0 hX0 hY0 ha3 hb3 ih1 ih2 ha4 hb4 ha6 hb6
 cases e1 : (k == k')
 ·have m1 : (k != k') = true := by rw [bne, e1]; rfl
  have HE : Hid (Pt.same (.mk k t n xs ys) (.mk k' t' n' xs' ys') = false) := by show _ = _; rw [HS.out, e1]; rfl
  go_enter Tryz.func98, Tryz.ntmps98
  go_wp2
  all_goals (go_ret; exact ⟨qw HE.out.symm, HB0.out⟩)
 cases e2 : (t == t')
 ·obtain rfl := beq_iff_eq.1 e1
  have m2 : (t != t') = true := by rw [bne, e2]; rfl
  have HE : Hid (Pt.same (.mk k t n xs ys) (.mk k t' n' xs' ys') = false) := by show _ = _; rw [HS.out, e1, e2]; rfl
  go_enter Tryz.func98, Tryz.ntmps98
  go_wp2
  all_goals (go_ret; exact ⟨qw HE.out.symm, HB0.out⟩)
 cases e3 : (n == n')
 ·obtain rfl := beq_iff_eq.1 e1
  obtain rfl := beq_iff_eq.1 e2
  have m3 : (n != n') = true := by rw [bne, e3]; rfl
  have HE : Hid (Pt.same (.mk k t n xs ys) (.mk k t n' xs' ys') = false) := by show _ = _; rw [HS.out, e1, e2, e3]; rfl
  go_enter Tryz.func98, Tryz.ntmps98
  go_wp2
  all_goals (go_ret; exact ⟨qw HE.out.symm, HB0.out⟩)
 rw [e1, e2, e3, Bool.true_and, Bool.true_and, Bool.true_and] at HS
 obtain rfl := beq_iff_eq.1 e1
 obtain rfl := beq_iff_eq.1 e2
 obtain rfl := beq_iff_eq.1 e3
 clear e1 e2 e3
 have hzz : w.heap.size + 1 < ((w.alloc (.cells (qD k t n Ap xs.length cp Ao ys.length co) 115)).alloc (.cells (qD k t n Ap' xs'.length cp' Ao' ys'.length co') 115)).heap.size := by simp
 generalize hr4 : Pt.sames xs xs' = r4 at HEQ HS
 clear hr4
 go_enter Tryz.func98, Tryz.ntmps98
 go_wp2_with fail
 refine HEQ.out.mono ?_
 rintro e w1 ⟨rfl, hb⟩
 have HB1 := qb (HB0.out.trans (hb.mono HB0.out.size))
 have HX1 := qb (qi HX0.out hb)
 have HY1 := qb (qi HY0.out hb)
 have HI1 := qb (HIN.out w1 hb)
 obtain ⟨⟨f0, f1, f2, f3, f4⟩, -⟩ := qI HX1.out
 obtain ⟨⟨g0, g1, g2, g3, g4⟩, -⟩ := qI HY1.out
 clear hb
 cases r4
 ·have HE : Hid (Pt.same (.mk k t n xs ys) (.mk k t n xs' ys') = false) := HS.out
  go_wp2
  go_ret
  exact ⟨qw HE.out.symm, HB1.out⟩
 ·rw [Bool.true_and] at HS
  generalize hr5 : Pt.sames ys ys' = r5 at HI1 HS
  clear hr5
  go_wp2_with fail
  refine HI1.out.mono ?_
  rintro e w2 ⟨rfl, hb⟩
  have HB2 := qb (HB1.out.trans (hb.mono HB1.out.size))
  clear hb
  cases r5
  all_goals
   go_wp2
   go_ret
   exact ⟨qw HS.out.symm, HB2.out⟩
def SzC (x : Pt) : Prop := ∀ (u : Value) (left : Int) (w : World), InP w (All w) x u -> Pt.Fit x -> 0 <= left -> left <= 1048576 →
  Calls Tryz.prog 78 #[u, .int .i64 left] w fun e w' => e = .returned (.int .i64 (za left (Pt.size x))) /\ Below w.heap.size w w'
set_option maxRecDepth 100000 in
set_option maxHeartbeats 4000000 in
theorem kT (xs : List Pt) (hE : ∀ x ∈ xs, SzC x) (A : Option Addr) (c : Nat) (left : Int) (w : World) (hx : RdP w (All w) A xs) (hf : Pt.Fits xs) (hn : xs.length <= maxLen) (h0 : 0 <= left) (h1 : left <= 1048576) :
  Calls Tryz.prog 30 #[.slice A xs.length c, .int .i64 left] w fun e w' => e = .returned (.int .i64 (za left (xs.length + Pt.sizes xs))) /\ Below w.heap.size w w' := by
 have HE0 := qb hE
 have HX := qb hx
 have HF := qb hf
 have hxl : xs.length <= 9223372036854775807 := hn
 clear hE hx hf hn
 by_cases hz : left < xs.length
 ·have HR : Hid (za left (xs.length + Pt.sizes xs) = -1) := by show _ = _; rw [zl (by omega)]
  have hz' : left - (xs.length : Int) < 0 := by omega
  go_enter Tryz.func30, Tryz.ntmps30
  go_wp2
  go_ret
  exact ⟨qA HR.out.symm, Below.refl _ _⟩
 ·have hz' : 0 <= left - (xs.length : Int) := by omega
  have HGO : Hid (∀ (j : Nat) (lf : Int), lf - Pt.sizes (xs.drop j) = left - xs.length - Pt.sizes xs -> True) := fun _ _ _ => trivial
  clear HGO
  go_enter Tryz.func30, Tryz.ntmps30
  go_wp2
  go_loopw [1, 5] (fun l i wr => ∃ (j : Nat) (lf : Int), j <= xs.length /\ i = .int .i64 j /\ l = .int .i64 lf /\ 0 <= lf /\ lf <= 1048576 /\ lf - Pt.sizes (xs.drop j) = left - xs.length - Pt.sizes xs /\ Below w.heap.size w wr) (fun _ i _ => xs.length - (intOf i).toNat)
  case atStart => exact ⟨0, _, Nat.zero_le _, rfl, rfl, by omega, by omega, by simp, Below.refl _ _⟩
  case round =>
   obtain ⟨j, lf, hj, rfl, rfl, hl0, hl1, hrest, hb⟩ := hrel
   have HRS := qb hrest
   have HB := qb hb
   clear hrest hb
   by_cases hlt : j < xs.length
   ·obtain ⟨b1, o1, hA1, hb1, kd, tt, nn, An1, ln1, cn1, Ai1, li1, ci1, hin, c0, c1, c2, c3, c4⟩ := (HX.out.now HB.out).at hlt
    have HCALL := qb (HE0.out xs[j] (List.getElem_mem hlt) _ lf wr hin (Pt.fits_mem HF.out (List.getElem_mem hlt)) hl0 hl1)
    have HD := qb (Pt.sizes_drop xs j hlt)
    have HLE := qb (Pt.sizes_drop_le xs (j + 1))
    generalize Pt.size xs[j] = sz at *
    subst hA1
    by_cases ho : (sz : Int) <= lf
    ·rw [zL ho] at HCALL
     have hnn : 0 <= lf - (sz : Int) := by omega
     go_wp2_with fail
     refine HCALL.out.mono ?_
     rintro e w2 ⟨rfl, hb⟩
     have HB2 := qb (HB.out.trans (hb.mono HB.out.size))
     clear hb
     go_wp2
     go_roundw
     case rel =>
      have := HD.out; have := HRS.out
      exact ⟨j + 1, _, by omega, by go_num, rfl, by omega, by omega, by omega, HB2.out⟩
     case measure => simp [intOf]; omega
    ·rw [zl ho] at HCALL
     have HR : Hid (za left (xs.length + Pt.sizes xs) = -1) := by
      show _ = _
      have := HD.out; have := HRS.out
      rw [zl (by omega)]
     go_wp2_with fail
     refine HCALL.out.mono ?_
     rintro e w2 ⟨rfl, hb⟩
     have HB2 := qb (HB.out.trans (hb.mono HB.out.size))
     clear hb
     go_wp2
     go_ret
     exact ⟨qA HR.out.symm, HB2.out⟩
   ·have HR : Hid (za left (xs.length + Pt.sizes xs) = lf) := by
     show _ = _
     have h := HRS.out
     rw [zc xs j (by omega)] at h
     simp only [Pt.sizes] at h
     rw [zL (by omega)]
     omega
    go_wp2
    go_ret
    exact ⟨qA HR.out.symm, HB.out⟩
set_option maxRecDepth 100000 in
set_option maxHeartbeats 4000000 in
theorem XH (a : Pt) : SzC a := by
 induction a using Pt.ind with
 | h k t n xs ys ih1 ih2 =>
 intro u left w hu hfa h0 h1
 obtain ⟨Ap, cp, Ao, co, rfl, hcp, hco, hrp, hro⟩ := hu.parts
 simp only [Pt.Fit] at hfa
 obtain ⟨ha1, ha2, ha3, ha4, ha5, ha6⟩ := hfa
 have hB0 := (Below.refl w.heap.size w).alloc (Nat.le_refl _) (.cells (qD k t n Ap xs.length cp Ao ys.length co) 103)
 have HB0 := qb hB0
 have HX0 := qb (heap_alloc_new w (.cells (qD k t n Ap xs.length cp Ao ys.length co) 103))
 have htl : t.length <= 9223372036854775807 := ha1
 have hnl : n.length <= 9223372036854775807 := ha2
 have HS : Hid (Pt.size (.mk k t n xs ys) = t.length + n.length + (xs.length + Pt.sizes xs) + (ys.length + Pt.sizes ys)) := by show _ = _; simp only [Pt.size]
 have HIN := qb (fun (l : Int) (h0 : 0 <= l) (h1 : l <= 1048576) => kT xs ih1 Ap cp l _ (hrp.now hB0) ha5 ha3 h0 h1)
 have HIO := qb (fun w2 (hb : Below _ _ w2) (l : Int) (h0 : 0 <= l) (h1 : l <= 1048576) => kT ys ih2 Ao co l w2 ((hro.now hB0).now hb) ha6 ha4 h0 h1)
 have hzz : w.heap.size < (w.alloc (.cells (qD k t n Ap xs.length cp Ao ys.length co) 103)).heap.size := by simp
 clear hu hrp hro ha5 ha6 hB0 ha3 ha4 ih1 ih2
 by_cases e1 : left < (t.length : Int)
 ·
  have HE : Hid (za left (Pt.size (.mk k t n xs ys)) = -1) := by show _ = _; rw [zl (by rw [HS.out]; omega)]
  have e1' : left - (t.length : Int) < 0 := by omega
  go_enter Tryz.func78, Tryz.ntmps78
  go_wp2
  go_ret
  exact ⟨qA HE.out.symm, HB0.out⟩
 have e1' : 0 <= left - (t.length : Int) := by omega
 by_cases e2 : left - (t.length : Int) < (n.length : Int)
 ·
  have HE : Hid (za left (Pt.size (.mk k t n xs ys)) = -1) := by show _ = _; rw [zl (by rw [HS.out]; omega)]
  have e2' : left - (t.length : Int) - (n.length : Int) < 0 := by omega
  go_enter Tryz.func78, Tryz.ntmps78
  go_wp2
  go_ret
  exact ⟨qA HE.out.symm, HB0.out⟩
 have e2' : 0 <= left - (t.length : Int) - (n.length : Int) := by omega
 have HI := qb (HIN.out (left - (t.length : Int) - (n.length : Int)) e2' (by omega))
 by_cases e3 : ((xs.length + Pt.sizes xs : Nat) : Int) <= left - (t.length : Int) - (n.length : Int)
 case neg =>
  have HE : Hid (za left (Pt.size (.mk k t n xs ys)) = -1) := by show _ = _; rw [zl (by rw [HS.out]; omega)]
  rw [zl e3] at HI
  clear e3
  go_enter Tryz.func78, Tryz.ntmps78
  go_wp2_with fail
  refine HI.out.mono ?_
  rintro e w2 ⟨rfl, hb⟩
  have HB2 := qb (HB0.out.trans (hb.mono HB0.out.size))
  clear hb
  go_wp2
  go_ret
  exact ⟨qA HE.out.symm, HB2.out⟩
 rw [zL e3] at HI
 have e3' : 0 <= left - (t.length : Int) - (n.length : Int) - (xs.length + Pt.sizes xs : Nat) := by omega
 have HJ := qb (fun w2 (hb : Below _ _ w2) => HIO.out w2 hb (left - (t.length : Int) - (n.length : Int) - (xs.length + Pt.sizes xs : Nat)) e3' (by omega))
 by_cases e4 : ((ys.length + Pt.sizes ys : Nat) : Int) <= left - (t.length : Int) - (n.length : Int) - (xs.length + Pt.sizes xs : Nat)
 ·have HE : Hid (za left (Pt.size (.mk k t n xs ys)) = left - (t.length : Int) - (n.length : Int) - (xs.length + Pt.sizes xs : Nat) - (ys.length + Pt.sizes ys : Nat)) := by show _ = _; rw [zL (by rw [HS.out]; omega), HS.out]; omega
  rw [zL e4] at HJ
  have e5 : 0 <= left - (t.length : Int) - (n.length : Int) - (xs.length + Pt.sizes xs : Nat) - (ys.length + Pt.sizes ys : Nat) := by omega
  clear e3 e4
  generalize (xs.length + Pt.sizes xs : Nat) = mx at *
  generalize (ys.length + Pt.sizes ys : Nat) = my at *
  go_enter Tryz.func78, Tryz.ntmps78
  go_wp2_with fail
  refine HI.out.mono ?_
  rintro e w2 ⟨rfl, hb⟩
  have HB2 := qb (HB0.out.trans (hb.mono HB0.out.size))
  have HJ2 := qb (HJ.out w2 hb)
  obtain ⟨⟨f0, f1, f2, f3, f4⟩, -⟩ := qI (qi HX0.out hb)
  clear hb
  go_wp2_with fail
  refine HJ2.out.mono ?_
  rintro e w3 ⟨rfl, hb⟩
  have HB3 := qb (HB2.out.trans (hb.mono HB2.out.size))
  clear hb
  go_wp2
  go_ret
  exact ⟨qA HE.out.symm, HB3.out⟩
 ·
  have HE : Hid (za left (Pt.size (.mk k t n xs ys)) = -1) := by show _ = _; rw [zl (by rw [HS.out]; omega)]
  rw [zl e4] at HJ
  clear e3 e4
  generalize (xs.length + Pt.sizes xs : Nat) = mx at *
  generalize (ys.length + Pt.sizes ys : Nat) = my at *
  go_enter Tryz.func78, Tryz.ntmps78
  go_wp2_with fail
  refine HI.out.mono ?_
  rintro e w2 ⟨rfl, hb⟩
  have HB2 := qb (HB0.out.trans (hb.mono HB0.out.size))
  have HJ2 := qb (HJ.out w2 hb)
  obtain ⟨⟨f0, f1, f2, f3, f4⟩, -⟩ := qI (qi HX0.out hb)
  clear hb
  go_wp2_with fail
  refine HJ2.out.mono ?_
  rintro e w3 ⟨rfl, hb⟩
  have HB3 := qb (HB2.out.trans (hb.mono HB2.out.size))
  clear hb
  go_wp2
  go_ret
  exact ⟨qA HE.out.symm, HB3.out⟩
end Go.Proofs.YtmboieajfdkllaaGreat
namespace Go.Proofs.YtmboieajfdkllaaGreat
open Go.RowKit
def EqF (x : Fd) : Prop := ∀ (b : Fd) (u v : Value) (w : World), InF w (All w) x u -> InF w (All w) b v -> Fd.Fit x -> Fd.Fit b →
  Calls Tryz.prog 99 #[u, v] w fun e w' => e = .returned (.bool (Fd.same x b)) /\ Below w.heap.size w w'
set_option maxRecDepth 100000 in
set_option maxHeartbeats 4000000 in
theorem JC (xs xs' : List Fd) (hE : ∀ x ∈ xs, EqF x) (A A' : Option Addr) (c c' : Nat) (w : World) (hx : RdF w (All w) A xs) (hy : RdF w (All w) A' xs') (hf : ∀ x ∈ xs, Fd.Fit x) (hf' : ∀ x ∈ xs', Fd.Fit x) (hn : xs.length <= maxLen) :
  Calls Tryz.prog 52 #[.slice A xs.length c, .slice A' xs'.length c'] w fun e w' => e = .returned (.bool (Fd.sames xs xs')) /\ Below w.heap.size w w' := by
 have HE0 := qb hE
 have HX := qb hx
 have HY := qb hy
 have HF := qb hf
 have HF' := qb hf'
 have hxl : xs.length <= 9223372036854775807 := hn
 clear hE hx hy hf hf' hn
 by_cases hl : xs.length = xs'.length
 ·have m5 : ((xs.length : Int) != (xs'.length : Int)) = false := by rw [hl]; simp
  have HL := qb hl
  clear hl
  go_enter Tryz.func52, Tryz.ntmps52
  go_wp2
  go_loopw [5] (fun i wr => ∃ (j : Nat), j <= xs.length /\ i = .int .i64 j /\ Fd.sames (xs.drop j) (xs'.drop j) = Fd.sames xs xs' /\ Below w.heap.size w wr) (fun i _ => xs.length - (intOf i).toNat)
  case atStart => exact ⟨0, Nat.zero_le _, rfl, rfl, Below.refl _ _⟩
  case round =>
   obtain ⟨j, hj, rfl, hsm, hb⟩ := hrel
   have HSM := qb hsm
   have HB := qb hb
   clear hsm hb
   by_cases hlt : j < xs.length
   ·have hlt' : j < xs'.length := by have := HL.out; omega
    obtain ⟨b1, o1, hA1, hb1, nn, tt, hh, Ai1, li1, ci1, hin, c0, c1, c2, c3⟩ := (HX.out.now HB.out).at hlt
    obtain ⟨b2, o2, hA2, hb2, nn', tt', hh', Ai2, li2, ci2, hin', d0, d1, d2, d3⟩ := (HY.out.now HB.out).at hlt'
    have HC := qb (And.intro c0 (And.intro c1 (And.intro c2 c3)))
    have HD := qb (And.intro d0 (And.intro d1 (And.intro d2 d3)))
    have HCALL := qb (fun w2 (hb : Below wr.heap.size wr w2) => HE0.out xs[j] (List.getElem_mem hlt) xs'[j] _ _ w2 (hin.now hb) (hin'.now hb) (HF.out _ (List.getElem_mem hlt)) (HF'.out _ (List.getElem_mem hlt')))
    have HST := qb (Jw HSM.out hlt hlt')
    clear hin hin' c0 c1 c2 c3 d0 d1 d2 d3
    generalize Fd.same xs[j] xs'[j] = r at *
    subst hA1
    subst hA2
    go_wp2_with fail
    refine qU 9 (by kernel_rfl) (by kernel_rfl) (fun _ w => Below (World.heap wr).size wr w) KB (fun i => ([bIs (.slice (some ⟨b1, o1, none⟩) xs.length c), bIs (.int .i64 (j : Int)), bIs (.pointer (some ⟨b1, o1 + j * 4, none⟩)), bIs (fdV nn tt hh Ai1 li1 ci1), bIs (.slice (some ⟨b2, o2, none⟩) xs'.length c'), bIs (.int .i64 (j : Int)), bIs (.pointer (some ⟨b2, o2 + j * 4, none⟩)), bIs (fdV nn' tt' hh' Ai2 li2 ci2), bIs (.bool r)] : List TyB).getD i bAny) ?hWbB1 ?hkeepB1 ?hstepB1 ?hfinbB1
    case hkeepB1 =>
     refine qg (qg (qg (qg (qg (qg (qg (qg (qg qG ?_) ?_) ?_) ?_) ?_) ?_) ?_) ?_) ?_
     ·exact qj
     ·exact qj
     ·exact qj
     ·exact qj
     ·exact qj
     ·exact qj
     ·exact qj
     ·exact qj
     ·exact qj
    case hstepB1 =>
     refine qg (qg (qg (qg (qg (qg (qg (qg (qg qG ?_) ?_) ?_) ?_) ?_) ?_) ?_) ?_) ?_
     ·(intro o ho m' a w1 hm' hW hb hd K Q hK; obtain rfl := Option.some.inj ho; have e0 : a.tmps[0]?.getD undef = (.slice (some ⟨b1, o1, none⟩) xs.length c) := (by rw [hb 0 (by decide +kernel)]; simp); go_simp; exact hK _ _ hW (qk _) rfl)
     ·(intro o ho m' a w1 hm' hW hb hd K Q hK; obtain rfl := Option.some.inj ho; have e0 : a.tmps[5]?.getD undef = (.int .i64 (j : Int)) := (by rw [hb 5 (by decide +kernel)]; simp); go_simp; exact hK _ _ hW (qk _) rfl)
     ·(intro o ho m' a w1 hm' hW hb hd K Q hK; obtain rfl := Option.some.inj ho; have e0 := qo (hd 0 (by kernel_rfl) 17 rfl); have e1 := qo (hd 1 (by kernel_rfl) 18 rfl); go_simp; exact hK _ _ hW (qk _) rfl)
     ·(intro o ho m' a w1 hm' hW hb hd K Q hK; obtain rfl := Option.some.inj ho; have e0 := qo (hd 2 (by kernel_rfl) 19 rfl); have q0 := (hW.cell (p := ⟨b1, o1 + j * 4, none⟩) hb1).trans HC.out.1; have q1 := (hW.cell (p := ⟨b1, o1 + j * 4 + 1, none⟩) hb1).trans HC.out.2.1; have q2 := (hW.cell (p := ⟨b1, o1 + j * 4 + 2, none⟩) hb1).trans HC.out.2.2.1; have q3 := (hW.cell (p := ⟨b1, o1 + j * 4 + 3, none⟩) hb1).trans HC.out.2.2.2; go_simp; exact hK _ _ hW (qk _) rfl)
     ·(intro o ho m' a w1 hm' hW hb hd K Q hK; obtain rfl := Option.some.inj ho; have e0 : a.tmps[1]?.getD undef = (.slice (some ⟨b2, o2, none⟩) xs'.length c') := (by rw [hb 1 (by decide +kernel)]; simp); go_simp; exact hK _ _ hW (qk _) rfl)
     ·(intro o ho m' a w1 hm' hW hb hd K Q hK; obtain rfl := Option.some.inj ho; have e0 : a.tmps[5]?.getD undef = (.int .i64 (j : Int)) := (by rw [hb 5 (by decide +kernel)]; simp); go_simp; exact hK _ _ hW (qk _) rfl)
     ·(intro o ho m' a w1 hm' hW hb hd K Q hK; obtain rfl := Option.some.inj ho; have e0 := qo (hd 4 (by kernel_rfl) 21 rfl); have e1 := qo (hd 5 (by kernel_rfl) 22 rfl); go_simp; exact hK _ _ hW (qk _) rfl)
     ·(intro o ho m' a w1 hm' hW hb hd K Q hK; obtain rfl := Option.some.inj ho; have e0 := qo (hd 6 (by kernel_rfl) 23 rfl); have q0 := (hW.cell (p := ⟨b2, o2 + j * 4, none⟩) hb2).trans HD.out.1; have q1 := (hW.cell (p := ⟨b2, o2 + j * 4 + 1, none⟩) hb2).trans HD.out.2.1; have q2 := (hW.cell (p := ⟨b2, o2 + j * 4 + 2, none⟩) hb2).trans HD.out.2.2.1; have q3 := (hW.cell (p := ⟨b2, o2 + j * 4 + 3, none⟩) hb2).trans HD.out.2.2.2; go_simp; exact hK _ _ hW (qk _) rfl)
     ·(intro o ho m' a w1 hm' hW hb hd K Q hK; obtain rfl := Option.some.inj ho; have e0 := qo (hd 3 (by kernel_rfl) 20 rfl); have e1 := qo (hd 7 (by kernel_rfl) 24 rfl); go_simp; refine (HCALL.out _ hW).mono ?_; rintro e w2 ⟨rfl, hb2⟩; exact hK _ _ (hW.trans (hb2.mono hW.size)) hb2 rfl)
    case hWbB1 => exact (Below.refl _ _).drew
    case hfinbB1 =>
     intro vs w2 hW hF
     simp only [qF, hdst, List.getElem?_cons_succ, List.getElem?_cons_zero, Option.bind, List.drop_succ_cons, List.drop_zero, Act.put]
     have h8 : vs 8 = .bool r := hF 8 (by omega)
     rw [h8]
     have HB4 := qb (HB.out.trans (hW.mono HB.out.size))
     clear hW hF h8
     go_simp
     cases r
     ·have HE : Hid (Fd.sames xs xs' = false) := HST.out.symm
      go_wp2
      go_ret
      exact ⟨qw HE.out.symm, HB4.out⟩
     ·rw [Bool.true_and] at HST
      go_wp2
      go_roundw
      case rel => exact ⟨j + 1, by omega, by go_num, HST.out, HB4.out⟩
      case measure => simp [intOf]; omega
   ·have HE := qb (Jx HSM.out hlt HL.out)
    go_wp2
    go_ret
    exact ⟨qw HE.out, HB.out⟩
 ·have m5 : ((xs.length : Int) != (xs'.length : Int)) = true := by simp; omega
  have HE : Hid (Fd.sames xs xs' = false) := yq hl
  clear hl
  go_enter Tryz.func52, Tryz.ntmps52
  go_wp2
  go_ret
  exact ⟨qw HE.out.symm, Below.refl _ _⟩
set_option maxRecDepth 100000 in
set_option maxHeartbeats 4000000 in
theorem JB (a : Fd) : EqF a := by
 intro b u v w hu hv hfa hfb
 obtain ⟨n, t, h, is⟩ := a
 obtain ⟨n', t', h', is'⟩ := b
 obtain ⟨A, c, rfl, hr, hc⟩ := hu
 obtain ⟨A', c', rfl, hr', hc'⟩ := hv
 dsimp only at hr hr' hc hc' ⊢
 obtain ⟨ha1, ha2, ha3, ha4⟩ := hfa
 dsimp only at ha1 ha2 ha3 ha4
 obtain ⟨hB0, hX0, hY0⟩ := qE w (qC n t h A is.length c) (qC n' t' h' A' is'.length c') 62 62
 have HB0 := qb hB0
 have HEQ := qb (Kp is is' A A' c c' _ ((hr.keep (fun _ hp => hB0.cell hp) (fun _ h => Nat.lt_of_lt_of_le h hB0.size)).rd (fun _ h => h)) ((hr'.keep (fun _ hp => hB0.cell hp) (fun _ h => Nat.lt_of_lt_of_le h hB0.size)).rd (fun _ h => h)) ha4)
 have HS : Hid (Fd.same ⟨n, t, h, is⟩ ⟨n', t', h', is'⟩ = (n == n' && (t == t' && (h == h' && is == is')))) := rfl
 clear hr hr' hB0 ha3 hfb ha4 hX0 hY0 hc hc'
 cases e1 : (n == n')
 ·have m1 : (n != n') = true := by rw [bne, e1]; rfl
  have HE : Hid (Fd.same ⟨n, t, h, is⟩ ⟨n', t', h', is'⟩ = false) := by show _ = _; rw [HS.out, e1]; rfl
  go_enter Tryz.func99, Tryz.ntmps99
  go_wp2
  all_goals (go_ret; exact ⟨qw HE.out.symm, HB0.out⟩)
 cases e2 : (t == t')
 ·obtain rfl := beq_iff_eq.1 e1
  have m2 : (t != t') = true := by rw [bne, e2]; rfl
  have HE : Hid (Fd.same ⟨n, t, h, is⟩ ⟨n, t', h', is'⟩ = false) := by show _ = _; rw [HS.out, e1, e2]; rfl
  go_enter Tryz.func99, Tryz.ntmps99
  go_wp2
  all_goals (go_ret; exact ⟨qw HE.out.symm, HB0.out⟩)
 cases e3 : (h == h')
 ·obtain rfl := beq_iff_eq.1 e1
  obtain rfl := beq_iff_eq.1 e2
  have m3 : (h != h') = true := by rw [bne, e3]; rfl
  have HE : Hid (Fd.same ⟨n, t, h, is⟩ ⟨n, t, h', is'⟩ = false) := by show _ = _; rw [HS.out, e1, e2, e3]; rfl
  go_enter Tryz.func99, Tryz.ntmps99
  go_wp2
  all_goals (go_ret; exact ⟨qw HE.out.symm, HB0.out⟩)
 rw [e1, e2, e3, Bool.true_and, Bool.true_and, Bool.true_and] at HS
 obtain rfl := beq_iff_eq.1 e1
 obtain rfl := beq_iff_eq.1 e2
 obtain rfl := beq_iff_eq.1 e3
 clear e1 e2 e3
 have hzz : w.heap.size + 1 < ((w.alloc (.cells (qC n t h A is.length c) 62)).alloc (.cells (qC n t h A' is'.length c') 62)).heap.size := by simp
 generalize hr4 : (is == is') = r4 at HEQ HS
 clear hr4
 go_enter Tryz.func99, Tryz.ntmps99
 go_wp2_with fail
 refine HEQ.out.mono ?_
 rintro e w1 ⟨rfl, hb⟩
 have HB1 := qb (HB0.out.trans (hb.mono HB0.out.size))
 clear hb
 cases r4
 all_goals
  go_wp2
  go_ret
  exact ⟨qw HS.out.symm, HB1.out⟩
def SzF (x : Fd) : Prop := ∀ (u : Value) (left : Int) (w : World), InF w (All w) x u -> Fd.Fit x -> 0 <= left -> left <= 1048576 →
  Calls Tryz.prog 79 #[u, .int .i64 left] w fun e w' => e = .returned (.int .i64 (za left (Fd.size x))) /\ Below w.heap.size w w'
set_option maxRecDepth 100000 in
set_option maxHeartbeats 4000000 in
theorem XG (xs : List Fd) (hE : ∀ x ∈ xs, SzF x) (A : Option Addr) (c : Nat) (left : Int) (w : World) (hx : RdF w (All w) A xs) (hf : ∀ x ∈ xs, Fd.Fit x) (hn : xs.length <= maxLen) (h0 : 0 <= left) (h1 : left <= 1048576) :
  Calls Tryz.prog 31 #[.slice A xs.length c, .int .i64 left] w fun e w' => e = .returned (.int .i64 (za left (xs.length + Fd.sizes xs))) /\ Below w.heap.size w w' := by
 have HE0 := qb hE
 have HX := qb hx
 have HF := qb hf
 have hxl : xs.length <= 9223372036854775807 := hn
 clear hE hx hf hn
 by_cases hz : left < xs.length
 ·have HR : Hid (za left (xs.length + Fd.sizes xs) = -1) := by show _ = _; rw [zl (by omega)]
  have hz' : left - (xs.length : Int) < 0 := by omega
  go_enter Tryz.func31, Tryz.ntmps31
  go_wp2
  go_ret
  exact ⟨qA HR.out.symm, Below.refl _ _⟩
 ·have hz' : 0 <= left - (xs.length : Int) := by omega
  have HGO : Hid (∀ (j : Nat) (lf : Int), lf - Fd.sizes (xs.drop j) = left - xs.length - Fd.sizes xs -> True) := fun _ _ _ => trivial
  clear HGO
  go_enter Tryz.func31, Tryz.ntmps31
  go_wp2
  go_loopw [1, 5] (fun l i wr => ∃ (j : Nat) (lf : Int), j <= xs.length /\ i = .int .i64 j /\ l = .int .i64 lf /\ 0 <= lf /\ lf <= 1048576 /\ lf - Fd.sizes (xs.drop j) = left - xs.length - Fd.sizes xs /\ Below w.heap.size w wr) (fun _ i _ => xs.length - (intOf i).toNat)
  case atStart => exact ⟨0, _, Nat.zero_le _, rfl, rfl, by omega, by omega, by simp, Below.refl _ _⟩
  case round =>
   obtain ⟨j, lf, hj, rfl, rfl, hl0, hl1, hrest, hb⟩ := hrel
   have HRS := qb hrest
   have HB := qb hb
   clear hrest hb
   by_cases hlt : j < xs.length
   ·obtain ⟨b1, o1, hA1, hb1, nn, tt, hh, Ai1, li1, ci1, hin, c0, c1, c2, c3⟩ := (HX.out.now HB.out).at hlt
    have HCALL := qb (HE0.out xs[j] (List.getElem_mem hlt) _ lf wr hin (HF.out _ (List.getElem_mem hlt)) hl0 hl1)
    have HD := qb (Fd.sizes_drop xs j hlt)
    have HLE := qb (Fd.sizes_drop_le xs (j + 1))
    generalize Fd.size xs[j] = sz at *
    subst hA1
    by_cases ho : (sz : Int) <= lf
    ·rw [zL ho] at HCALL
     have hnn : 0 <= lf - (sz : Int) := by omega
     go_wp2_with fail
     refine HCALL.out.mono ?_
     rintro e w2 ⟨rfl, hb⟩
     have HB2 := qb (HB.out.trans (hb.mono HB.out.size))
     clear hb
     go_wp2
     go_roundw
     case rel =>
      have := HD.out; have := HRS.out
      exact ⟨j + 1, _, by omega, by go_num, rfl, by omega, by omega, by omega, HB2.out⟩
     case measure => simp [intOf]; omega
    ·rw [zl ho] at HCALL
     have HR : Hid (za left (xs.length + Fd.sizes xs) = -1) := by
      show _ = _
      have := HD.out; have := HRS.out
      rw [zl (by omega)]
     go_wp2_with fail
     refine HCALL.out.mono ?_
     rintro e w2 ⟨rfl, hb⟩
     have HB2 := qb (HB.out.trans (hb.mono HB.out.size))
     clear hb
     go_wp2
     go_ret
     exact ⟨qA HR.out.symm, HB2.out⟩
   ·have HR : Hid (za left (xs.length + Fd.sizes xs) = lf) := by
     show _ = _
     have h := HRS.out
     rw [zc xs j (by omega)] at h
     rw [show Fd.sizes [] = 0 from rfl] at h
     rw [zL (by omega)]
     omega
    go_wp2
    go_ret
    exact ⟨qA HR.out.symm, HB.out⟩
set_option maxRecDepth 100000 in
set_option maxHeartbeats 4000000 in
theorem XF (a : Fd) : SzF a := by
 intro u left w hu hfa h0 h1
 obtain ⟨n, t, h, is⟩ := a
 obtain ⟨A, c, rfl, hr, hc⟩ := hu
 dsimp only at hr hc ⊢
 obtain ⟨ha1, ha2, ha3, ha4⟩ := hfa
 dsimp only at ha1 ha2 ha3 ha4
 have hB0 := (Below.refl w.heap.size w).alloc (Nat.le_refl _) (.cells (qC n t h A is.length c) 105)
 have HB0 := qb hB0
 have htl : t.length <= 9223372036854775807 := ha2
 have hnl : n.length <= 9223372036854775807 := ha1
 have HS : Hid (Fd.size ⟨n, t, h, is⟩ = n.length + t.length + (is.length + qR is)) := rfl
 have hrd := (hr.keep (fun _ hp => hB0.cell hp) (fun _ h => Nat.lt_of_lt_of_le h hB0.size)).rd (B := (w.alloc (.cells (qC n t h A is.length c) 105)).heap.size) (fun _ h => h)
 have HNF := qb (fun (l : Int) (h0 : 0 <= l) (h1 : l <= 1048576) (hz : (is.length : Int) + qR is <= l) => Kj is A c l _ hrd h0 h1 ha4 hz)
 have HNO := qb (fun (l : Int) (h0 : 0 <= l) (h1 : l <= 1048576) (hz : l < (is.length : Int) + qR is) => Kk is A c l _ hrd ha3 h0 h1 ha4 hz)
 clear hr hrd hB0 ha3 ha4
 by_cases e1 : left < (n.length : Int)
 ·
  have HE : Hid (za left (Fd.size ⟨n, t, h, is⟩) = -1) := by show _ = _; rw [zl (by rw [HS.out]; omega)]
  have e1' : left - (n.length : Int) < 0 := by omega
  go_enter Tryz.func79, Tryz.ntmps79
  go_wp2
  go_ret
  exact ⟨qA HE.out.symm, HB0.out⟩
 have e1' : 0 <= left - (n.length : Int) := by omega
 by_cases e2 : left - (n.length : Int) < (t.length : Int)
 ·
  have HE : Hid (za left (Fd.size ⟨n, t, h, is⟩) = -1) := by show _ = _; rw [zl (by rw [HS.out]; omega)]
  have e2' : left - (n.length : Int) - (t.length : Int) < 0 := by omega
  go_enter Tryz.func79, Tryz.ntmps79
  go_wp2
  go_ret
  exact ⟨qA HE.out.symm, HB0.out⟩
 have e2' : 0 <= left - (n.length : Int) - (t.length : Int) := by omega
 by_cases e3 : (is.length : Int) + qR is <= left - (n.length : Int) - (t.length : Int)
 case neg =>
  have HE : Hid (za left (Fd.size ⟨n, t, h, is⟩) = -1) := by show _ = _; rw [zl (by rw [HS.out]; omega)]
  have HN := qb (HNO.out (left - (n.length : Int) - (t.length : Int)) e2' (by omega) (by omega))
  go_enter Tryz.func79, Tryz.ntmps79
  go_wp2_with fail
  refine HN.out.mono ?_
  rintro e w1 ⟨rfl, rfl⟩
  go_wp2
  go_ret
  exact ⟨qA HE.out.symm, HB0.out⟩
 have HE : Hid (za left (Fd.size ⟨n, t, h, is⟩) = left - (n.length : Int) - (t.length : Int) - (is.length : Int) - (qR is : Int)) := by show _ = _; rw [zL (by rw [HS.out]; omega), HS.out]; omega
 have HN := qb (HNF.out (left - (n.length : Int) - (t.length : Int)) e2' (by omega) e3)
 have e4 : 0 <= left - (n.length : Int) - (t.length : Int) - (is.length : Int) - (qR is : Int) := by omega
 clear e3
 go_enter Tryz.func79, Tryz.ntmps79
 go_wp2_with fail
 refine HN.out.mono ?_
 rintro e w1 ⟨rfl, rfl⟩
 go_wp2
 go_ret
 exact ⟨qA HE.out.symm, HB0.out⟩
end Go.Proofs.YtmboieajfdkllaaGreat
namespace Go.Proofs.YtmboieajfdkllaaGreat
open Go.RowKit
set_option maxRecDepth 100000 in
set_option maxHeartbeats 4000000 in
theorem XE (d : Dk) (u : Value) (left : Int) (w : World) (hu : InD w (All w) d u) (hf : Dk.Fit d) (h0 : 0 <= left) (h1 : left <= 1048576) :
  Calls Tryz.prog 8 #[u, .int .i64 left] w fun e w' => e = .returned (.int .i64 (za left (Dk.size d))) /\ Below w.heap.size w w' := by
 obtain ⟨ps, fs⟩ := d
 obtain ⟨Ap, cp, Ad, cd, rfl, g1, g2, g3, g4⟩ := hu
 obtain ⟨f1, f2, f3, f4⟩ := hf
 dsimp only at g1 g2 g3 g4 f1 f2 f3 f4 ⊢
 have hB0 := (Below.refl w.heap.size w).alloc (Nat.le_refl _) (.cells (qx Ap ps.length cp Ad fs.length cd) 25)
 have HB0 := qb hB0
 have HX0 := qb (heap_alloc_new w (.cells (qx Ap ps.length cp Ad fs.length cd) 25))
 have HP := qb (kT ps (fun x _ => XH x) Ap cp left _ (g1.now hB0) f1 f2 h0 h1)
 have HF := qb (fun w2 (hb : Below _ _ w2) (l : Int) (h0 : 0 <= l) (h1 : l <= 1048576) => XG fs (fun x _ => XF x) Ad cd l w2 ((g3.now hB0).now hb) f3 f4 h0 h1)
 have HS : Hid (Dk.size ⟨ps, fs⟩ = (ps.length + Pt.sizes ps) + (fs.length + Fd.sizes fs)) := rfl
 have hzz : w.heap.size < (w.alloc (.cells (qx Ap ps.length cp Ad fs.length cd) 25)).heap.size := by simp
 clear g1 g2 g3 g4 f1 f2 f3 f4 hB0
 generalize (ps.length + Pt.sizes ps) = m1 at *
 generalize (fs.length + Fd.sizes fs) = m2 at *
 by_cases e1 : (m1 : Int) <= left
 case neg =>
  rw [zl e1] at HP
  have HE : Hid (za left (Dk.size ⟨ps, fs⟩) = -1) := by show _ = _; rw [zl (by rw [HS.out]; omega)]
  go_enter Tryz.func8, Tryz.ntmps8
  go_wp2_with fail
  refine HP.out.mono ?_
  rintro e w1 ⟨rfl, hb⟩
  have HB1 := qb (HB0.out.trans (hb.mono HB0.out.size))
  clear hb
  go_wp2
  go_ret
  exact ⟨qA HE.out.symm, HB1.out⟩
 rw [zL e1] at HP
 have e1' : 0 <= left - (m1 : Int) := by omega
 have HG := qb (fun w2 (hb : Below _ _ w2) => HF.out w2 hb (left - (m1 : Int)) e1' (by omega))
 by_cases e2 : (m2 : Int) <= left - (m1 : Int)
 ·have HE : Hid (za left (Dk.size ⟨ps, fs⟩) = left - (m1 : Int) - (m2 : Int)) := by show _ = _; rw [zL (by rw [HS.out]; omega), HS.out]; omega
  rw [zL e2] at HG
  have e2' : 0 <= left - (m1 : Int) - (m2 : Int) := by omega
  clear e1 e2
  go_enter Tryz.func8, Tryz.ntmps8
  go_wp2_with fail
  refine HP.out.mono ?_
  rintro e w1 ⟨rfl, hb⟩
  have HB1 := qb (HB0.out.trans (hb.mono HB0.out.size))
  have HG1 := qb (HG.out w1 hb)
  obtain ⟨⟨y0, y1⟩, -⟩ := zX (qi HX0.out hb)
  clear hb
  go_wp2_with fail
  refine HG1.out.mono ?_
  rintro e w2 ⟨rfl, hb⟩
  have HB2 := qb (HB1.out.trans (hb.mono HB1.out.size))
  clear hb
  go_wp2
  go_ret
  exact ⟨qA HE.out.symm, HB2.out⟩
 ·have HE : Hid (za left (Dk.size ⟨ps, fs⟩) = -1) := by show _ = _; rw [zl (by rw [HS.out]; omega)]
  rw [zl e2] at HG
  clear e1 e2
  go_enter Tryz.func8, Tryz.ntmps8
  go_wp2_with fail
  refine HP.out.mono ?_
  rintro e w1 ⟨rfl, hb⟩
  have HB1 := qb (HB0.out.trans (hb.mono HB0.out.size))
  have HG1 := qb (HG.out w1 hb)
  obtain ⟨⟨y0, y1⟩, -⟩ := zX (qi HX0.out hb)
  clear hb
  go_wp2_with fail
  refine HG1.out.mono ?_
  rintro e w2 ⟨rfl, hb⟩
  have HB2 := qb (HB1.out.trans (hb.mono HB1.out.size))
  clear hb
  go_wp2
  go_ret
  exact ⟨qA HE.out.symm, HB2.out⟩
set_option maxRecDepth 100000 in
set_option maxHeartbeats 4000000 in
theorem Zw (d : Dk) (u v : Value) (w : World) (hu : InD w (All w) d u) (hv : InD w (All w) d v) (hf : Dk.Fit d) :
  Calls Tryz.prog 12 #[u, v] w fun e w' => e = .returned (.bool true) /\ Below w.heap.size w w' := by
 obtain ⟨ps, fs⟩ := d
 obtain ⟨Ap, cp, Ad, cd, rfl, g1, g2, g3, g4⟩ := hu
 obtain ⟨Ap', cp', Ad', cd', rfl, g1', g2', g3', g4'⟩ := hv
 obtain ⟨f1, f2, f3, f4⟩ := hf
 dsimp only at g1 g2 g3 g4 g1' g2' g3' g4' f1 f2 f3 f4 ⊢
 obtain ⟨hB0, hX0, hY0⟩ := qE w (qx Ap ps.length cp Ad fs.length cd) (qx Ap' ps.length cp' Ad' fs.length cd') 30 30
 have HB0 := qb hB0
 have HX0 := qb hX0
 have HY0 := qb hY0
 have HP := qb (kA ps ps (fun x _ => JD x) Ap Ap' cp cp' _ (g1.now hB0) (g1'.now hB0) f1 f1 f2)
 have HF := qb (fun w2 (hb : Below _ _ w2) => JC fs fs (fun x _ => JB x) Ad Ad' cd cd' w2 ((g3.now hB0).now hb) ((g3'.now hB0).now hb) f3 f3 f4)
 rw [Pt.sames_self] at HP
 rw [Fd.sames_self] at HF
 have hzz : w.heap.size + 1 < ((w.alloc (.cells (qx Ap ps.length cp Ad fs.length cd) 30)).alloc (.cells (qx Ap' ps.length cp' Ad' fs.length cd') 30)).heap.size := by simp
 clear g1 g2 g3 g4 g1' g2' g3' g4' f1 f2 f3 f4 hB0 hX0 hY0
 go_enter Tryz.func12, Tryz.ntmps12
 go_wp2_with fail
 refine HP.out.mono ?_
 rintro e w1 ⟨rfl, hb⟩
 have HB1 := qb (HB0.out.trans (hb.mono HB0.out.size))
 have HF1 := qb (HF.out w1 hb)
 obtain ⟨⟨y0, y1⟩, -⟩ := zX (qi HX0.out hb)
 obtain ⟨⟨z0, z1⟩, -⟩ := zX (qi HY0.out hb)
 clear hb
 go_wp2_with fail
 refine HF1.out.mono ?_
 rintro e w2 ⟨rfl, hb⟩
 have HB2 := qb (HB1.out.trans (hb.mono HB1.out.size))
 clear hb
 go_wp2
 go_ret
 exact ⟨rfl, HB2.out⟩
end Go.Proofs.YtmboieajfdkllaaGreat
namespace Go.Proofs.YtmboieajfdkllaaGreat
open Go.RowKit
def NewX (w : World) (x : Pt) (e : Ending) (w' : World) : Prop := ∃ (r : Raw) (L : List Nat), e = .returned r.v /\ OwP w' x r L /\ L.Nodup /\ (∀ b ∈ L, w.heap.size <= b) /\ Below w.heap.size w w'
def ToX (x : Pt) : Prop := ∀ (u : Value) (w : World), InP w (All w) x u -> Pt.size x <= 1048576 -> Calls Tryz.prog 88 #[u] w (NewX w x)
theorem KA {cs : List Value} {rs : List Raw} (hl : cs.length = rs.length * 5) (h : ∀ q (hq : q < rs.length), ∀ i, i < 5 -> cs[q * 5 + i]? = (rs[q]).cs[i]?) : cs = zb rs := by
 apply List.ext_getElem?
 intro i
 by_cases hi : i < rs.length * 5
 ·have hq : i / 5 < rs.length := by omega
  have h1 := h (i / 5) hq (i % 5) (Nat.mod_lt _ (by omega))
  rw [show i / 5 * 5 + i % 5 = i by omega] at h1
  have h2 := xJ rs (i / 5) (rs[i / 5]) (i % 5) (List.getElem?_eq_getElem hq) (Nat.mod_lt _ (by omega))
  rw [show i / 5 * 5 + i % 5 = i by omega] at h2
  rw [h1, h2]
 ·rw [List.getElem?_eq_none (by omega), List.getElem?_eq_none (by rw [jq]; omega)]
theorem VA {w : World} {base g n : Nat} {cs : Array Value} {rs : List Raw} (hb : base <= g) (hg : w.heap[g]? = some (.cells cs 115 (0, 0))) (hcs : cs.size = n * 5) (hn : rs.length = n) (hm : n <= maxLen) (h : ∀ q (hq : q < rs.length), AtC cs (q * 5) (rs[q]).v) : OwnN w base (some ⟨g, 0, none⟩) n rs := by
 have he : cs.toList = zb rs := by
  refine KA (by rw [Array.length_toList, hcs, hn]) fun q hq i hi => ?_
  obtain ⟨c0, c1, c2, c3, c4, e, h0, h1, h2, h3, h4⟩ := h q hq
  injection e with e
  simp only [Array.mk.injEq, List.cons.injEq, and_true] at e
  obtain ⟨rfl, rfl, rfl, rfl, rfl⟩ := e
  rw [Array.getElem?_toList]
  match i, hi with
  | 0, _ => exact h0
  | 1, _ => exact h1
  | 2, _ => exact h2
  | 3, _ => exact h3
  | 4, _ => exact h4
 subst hn
 refine ⟨jq rs, .inr ⟨g, rs.length, cs, rfl, hb, hg, Nat.le_refl _, hm, hcs, ?_⟩⟩
 rw [he, List.take_of_length_le (by rw [jq]; exact Nat.le_refl _)]
set_option maxRecDepth 100000 in
set_option maxHeartbeats 4000000 in
theorem kU (xs : List Pt) (hE : ∀ x ∈ xs, ToX x) (A : Option Addr) (c : Nat) (w : World) (hx : RdP w (All w) A xs) (hn : xs.length + Pt.sizes xs <= 1048576) :
  Calls Tryz.prog 40 #[.slice A xs.length c] w fun e w' => ∃ A' rs L, e = .returned (.slice A' xs.length xs.length) /\ OwnN w' w.heap.size A' xs.length rs /\ OwPs w' xs rs L /\ (bk A' xs.length xs.length ++ L).Nodup /\ (∀ b ∈ bk A' xs.length xs.length ++ L, w.heap.size <= b) /\ Below w.heap.size w w' := by
 have HE0 := qb hE
 have HX := qb hx
 have HSZ := qb hn
 have hxl : xs.length <= 1048576 := by omega
 obtain ⟨i0, hi, hz0, hz1, hz2⟩ := info_parts Tryz.info_Part
 have hmk := fun w => vE (P := Tryz.prog) Tryz.underlying27 hi hz0 hz1 hz2 xs.length (by omega) (by omega) w
 have hsz : (madeCells (Value.agg xm).cells (xs.length * 5)).size = xs.length * 5 := size_madeCells _ _
 generalize hM : madeCells (Value.agg xm).cells (xs.length * 5) = M at *
 clear hM hi hz0 hz1 hz2 hE hx hn
 have HMS := qb hsz
 clear hsz
 go_enter Tryz.func40, Tryz.ntmps40
 go_wp2
 go_loopw [4] (fun i wr => ∃ (j : Nat) (cs : Array Value) (rs : List Raw) (L : List Nat), j <= xs.length /\ i = .int .i64 j /\ wr.heap[w.heap.size]? = some (.cells cs 115 (0, 0)) /\ cs.size = xs.length * 5 /\ rs.length = j /\ (∀ q (hq : q < rs.length), AtC cs (q * 5) (rs[q]).v) /\ OwPs wr (xs.take j) rs L /\ L.Nodup /\ (∀ b ∈ L, w.heap.size < b) /\ Below w.heap.size w wr) (fun i _ => xs.length - (intOf i).toNat)
 case atStart => exact ⟨0, M, [], [], Nat.zero_le _, rfl, heap_alloc_new w _, HMS.out, rfl, fun q hq => (by simp at hq), by simp [OwPs], List.nodup_nil, fun b hb => (by cases hb), (Below.refl _ _).alloc (Nat.le_refl _) _⟩
 case round =>
  obtain ⟨j, cs, rs, L, hj, rfl, hg, hcs, hrl, hdone, htd, hnd, hrg, hb⟩ := hrel
  have HB := qb hb
  have HG := qb hg
  have HD := qb hdone
  have HCS := qb hcs
  have HTD := qb htd
  have HND := qb hnd
  have HRG := qb hrg
  have hgs : w.heap.size < wr.heap.size := lt_of_block hg
  clear hb hg hdone hcs htd hnd hrg
  by_cases hlt : j < xs.length
  ·obtain ⟨b1, o1, hA1, hb1, kd, tt, nn, An1, ln1, cn1, Ai1, li1, ci1, hin, c0, c1, c2, c3, c4⟩ := (HX.out.now HB.out).at hlt
   have hsj : Pt.size xs[j] <= 1048576 := by have := Pt.size_mem (List.getElem_mem hlt); have := HSZ.out; omega
   have HCALL := qb (HE0.out xs[j] (List.getElem_mem hlt) _ wr hin hsj)
   have HTK := qb (zu xs j hlt)
   clear hin hsj
   subst hA1
   go_wp2_with fail
   refine HCALL.out.mono ?_
   rintro e w2 ⟨⟨k2, t2, n2, An2, ln2, cn2, Ai2, li2, ci2⟩, La, rfl, ho2, hn2, hr2, hb⟩
   have HB2 := qb (HB.out.trans (hb.mono HB.out.size))
   have hg2 := qi HG.out hb
   have HG2 := qb hg2
   have hs := HCS.out
   obtain ⟨r0, p0, q0⟩ := jj (o := j * 5) hg2 (by omega)
   obtain ⟨r1, p1, q1⟩ := jj (o := j * 5 + 1) hg2 (by omega)
   obtain ⟨r2, p2, q2⟩ := jj (o := j * 5 + 2) hg2 (by omega)
   obtain ⟨r3, p3, q3⟩ := jj (o := j * 5 + 3) hg2 (by omega)
   obtain ⟨r4, p4, q4⟩ := jj (o := j * 5 + 4) hg2 (by omega)
   have HTD2 := qb ((HTD.out.keep (w' := w2) (fun b h => hb.block b (HTD.out.lt b h))).snoc ho2)
   have HND2 : Hid ((L ++ La).Nodup) := by
    show List.Nodup _
    rw [List.nodup_append]
    exact ⟨HND.out, hn2, fun a ha b hb e => by have := HTD.out.lt a ha; have := hr2 b hb; omega⟩
   have HRG2 : Hid (∀ b ∈ L ++ La, w.heap.size < b) := fun b hb => by
    rcases List.mem_append.1 hb with hb | hb
    ·exact HRG.out b hb
    ·have := hr2 b hb; omega
   clear hb ho2 hn2 hr2 hg2 hs
   go_wp2
   go_roundw
   case rel =>
    refine ⟨j + 1, set5 cs (j * 5) (.int .i64 k2) (sv t2) (sv n2) (.slice An2 ln2 cn2) (.slice Ai2 li2 ci2), rs ++ [⟨k2, t2, n2, An2, ln2, cn2, Ai2, li2, ci2⟩], L ++ La, by omega, by go_num, qP (qP (qP (qP (qP HG2.out)))), XU.trans HCS.out, by simp [hrl], ?_, ?_, HND2.out, HRG2.out, Below.setCell (Below.setCell (Below.setCell (Below.setCell (Below.setCell HB2.out (Nat.le_refl _) _) (Nat.le_refl _) _) (Nat.le_refl _) _) (Nat.le_refl _) _) (Nat.le_refl _) _⟩
    ·intro q hq
     by_cases hqe : q < rs.length
     ·rw [List.getElem_append_left hqe]
      exact XT (HD.out q hqe) (by omega)
     ·have hqj : q = rs.length := by simp at hq; omega
      subst hqj
      rw [List.getElem_append_right (Nat.le_refl _)]
      simp only [Nat.sub_self, List.getElem_cons_zero]
      rw [hrl]
      exact set5_at (by have := HCS.out; omega)
    ·rw [HTK.out]
     refine HTD2.out.keep fun b hb => ?_
     have hb2 := HRG2.out b hb
     rw [Below.heap_setCell _ _ _ _ (by show b ≠ w.heap.size; omega), Below.heap_setCell _ _ _ _ (by show b ≠ w.heap.size; omega), Below.heap_setCell _ _ _ _ (by show b ≠ w.heap.size; omega), Below.heap_setCell _ _ _ _ (by show b ≠ w.heap.size; omega), Below.heap_setCell _ _ _ _ (by show b ≠ w.heap.size; omega)]
   case measure => simp [intOf]; omega
  ·have hjx : xs.take j = xs := List.take_of_length_le (by omega)
   have HTD2 := HTD.out
   rw [hjx] at HTD2
   have HTD3 := qb HTD2
   clear HTD2 hjx
   go_wp2
   go_ret
   refine ⟨_, rs, L, rfl, VA (Nat.le_refl _) HG.out HCS.out (by omega) (by unfold maxLen; omega) HD.out, HTD3.out, ?_, ?_, HB.out⟩
   ·rw [show bk (some ⟨w.heap.size, 0, none⟩) xs.length xs.length = [w.heap.size] from rfl, List.nodup_append]
    exact ⟨by simp, HND.out, fun a ha b hb e => by simp at ha; have := HRG.out b hb; omega⟩
   ·intro b hb
    rw [show bk (some ⟨w.heap.size, 0, none⟩) xs.length xs.length = [w.heap.size] from rfl] at hb
    rcases List.mem_append.1 hb with hb | hb
    ·simp at hb; omega
    ·have := HRG.out b hb; omega
set_option maxRecDepth 100000 in
set_option maxHeartbeats 8000000 in
theorem Kz (a : Pt) : ToX a := by
 induction a using Pt.ind with
 | h k t n xs ys ih1 ih2 =>
 intro u w hu hsz
 obtain ⟨Ap, cp, Ao, co, rfl, hcp, hco, hrp, hro⟩ := hu.parts
 simp only [Pt.size] at hsz
 have HTS := qb (fun w2 (hb : Below w.heap.size w w2) => kU xs ih1 Ap cp w2 (hrp.now hb) (by omega))
 have HTN := qb (fun w2 (hb : Below w.heap.size w w2) => kU ys ih2 Ao co w2 (hro.now hb) (by omega))
 clear hu hrp hro ih1 ih2
 go_enter Tryz.func88, Tryz.ntmps88
 go_wp2_with fail
 obtain ⟨hB0, hX0, hZ0, hY0, hs0⟩ := kY w (qD k t n Ap xs.length cp Ao ys.length co) xm #[.int .i64 k, sv t, sv n, .slice none 0 0, .slice none 0 0] 103 115 115
 have HB0 := qb hB0
 have HX0 := qb hX0
 have HZ0 := qb hZ0
 have HY0 := qb hY0
 have HS0 := qb hs0
 clear hB0 hX0 hZ0 hY0 hs0
 refine (HTS.out _ HB0.out).mono ?_
 rintro e w1 ⟨A1, rs1, L1, rfl, ho, hoe, hnd1, hrg1, hb⟩
 have hz1 : w.heap.size + 3 <= w1.heap.size := by rw [<- HS0.out]; exact hb.size
 have HB1 := qb (HB0.out.trans (hb.mono HB0.out.size))
 have HX1 := qb (qi HX0.out hb)
 have HZ1 := qb (qi HZ0.out hb)
 have HY1 := qb (qi HY0.out hb)
 rw [HS0.out] at ho hrg1
 have HO1 := qb ho
 have HE1 := qb hoe
 have HND1 := qb hnd1
 have HRG1 := qb hrg1
 have HLL1 := qb hoe.len
 obtain ⟨⟨y0, y1, y2, y3, y4⟩, y5, y6, y7, y8, y9⟩ := qI HY1.out
 obtain ⟨⟨x0, x1, x2, x3, x4⟩, -⟩ := qI HX1.out
 have HB1' := qb (Below.setCell HB1.out (p := ⟨w.heap.size + 2, 3, none⟩) (by show w.heap.size <= w.heap.size + 2; omega) (.slice A1 xs.length xs.length))
 have HY1' : Hid ((w1.setCell ⟨w.heap.size + 2, 3, none⟩ (.slice A1 xs.length xs.length)).heap[w.heap.size + 2]? = some (.cells #[.int .i64 k, sv t, sv n, .slice A1 xs.length xs.length, .slice none 0 0] 115 (0, 0))) := qP HY1.out
 have HZ1' : Hid ((w1.setCell ⟨w.heap.size + 2, 3, none⟩ (.slice A1 xs.length xs.length)).heap[w.heap.size + 1]? = some (.cells xm 115 (0, 0))) := (Below.heap_setCell _ _ _ _ (by show w.heap.size + 1 ≠ w.heap.size + 2; omega)).trans HZ1.out
 have hs1 : (w1.setCell ⟨w.heap.size + 2, 3, none⟩ (.slice A1 xs.length xs.length)).heap.size = w1.heap.size := by simp [World.setCell]
 have HK1 : Hid (∀ b, w.heap.size + 3 <= b -> (w1.setCell ⟨w.heap.size + 2, 3, none⟩ (.slice A1 xs.length xs.length)).heap[b]? = w1.heap[b]?) := fun b hb => Below.heap_setCell _ _ _ _ (by show b ≠ w.heap.size + 2; omega)
 clear ho hb hoe hnd1 hrg1
 go_wp2_with fail
 refine (HTN.out _ HB1'.out).mono ?_
 rintro e w2 ⟨A2, rs2, L2, rfl, hoi, hot, hnd, hrg, hb⟩
 rw [hs1] at hoi hrg
 have hz2 : w1.heap.size <= w2.heap.size := by rw [<- hs1]; exact hb.size
 have HB2 := qb (HB1'.out.trans (hb.mono HB1'.out.size))
 have HZ2 := qb (qi HZ1'.out hb)
 have HY2 := qb (qi HY1'.out hb)
 have HK2 : Hid (∀ b, w.heap.size + 3 <= b -> b < w1.heap.size -> w2.heap[b]? = w1.heap[b]?) := fun b h1 h2 => (hb.block b (by rw [hs1]; exact h2)).trans (HK1.out b h1)
 have hL1 : ∀ b, b ∈ bk A1 xs.length xs.length ++ L1 -> w.heap.size + 3 <= b /\ b < w1.heap.size := fun b hb => by
  refine ⟨HRG1.out b hb, ?_⟩
  rw [List.mem_append] at hb
  rcases hb with hb | hb
  ·exact (HO1.out.lt b (by rw [HLL1.out]; exact qO.1 hb)).2
  ·exact HE1.out.lt b hb
 have HT2 : Hid (OwP w2 (.mk k t n xs ys) ⟨k, t, n, A1, xs.length, xs.length, A2, ys.length, ys.length⟩ ((bk A1 xs.length xs.length ++ L1) ++ (bk A2 ys.length ys.length ++ L2))) := by
  show OwP _ _ _ _
  rw [OwP]
  exact ⟨rfl, rfl, rfl, rfl, rfl, rs1, L1, rs2, L2, zC (zt HO1.out (fun g hg => HK2.out g (HO1.out.lt g hg).1 (HO1.out.lt g hg).2)) (Nat.zero_le _), HE1.out.keep (fun b hb => HK2.out b (hL1 b (List.mem_append_right _ hb)).1 (hL1 b (List.mem_append_right _ hb)).2), zC hoi (Nat.zero_le _), hot, rfl⟩
 have HNDA : Hid (((bk A1 xs.length xs.length ++ L1) ++ (bk A2 ys.length ys.length ++ L2)).Nodup) := by
  show List.Nodup _
  rw [List.nodup_append]
  exact ⟨HND1.out, hnd, fun a ha b hb e => by have := (hL1 a ha).2; have := hrg b hb; omega⟩
 have HRGA : Hid (∀ b ∈ (bk A1 xs.length xs.length ++ L1) ++ (bk A2 ys.length ys.length ++ L2), w.heap.size + 3 <= b) := fun b hb => by
  rcases List.mem_append.1 hb with hb | hb
  ·exact (hL1 b hb).1
  ·have := hrg b hb; omega
 obtain ⟨⟨y0, y1, y2, y3, y4⟩, y5, y6, y7, y8, y9⟩ := qI HY2.out
 obtain ⟨⟨z0, z1, z2, z3, z4⟩, z5, z6, z7, z8, z9⟩ := qI HZ2.out
 clear hb hoi hot hnd hrg hL1
 go_wp2
 refine bodyPost_ret (v := ptV k t n A1 xs.length xs.length A2 ys.length ys.length) (by simp [results, Tryz.results88, go_sem, *]) rfl ?_
 refine ⟨⟨k, t, n, A1, xs.length, xs.length, A2, ys.length, ys.length⟩, _, rfl, OwP.keep _ _ _ HT2.out (fun b hb => ?_), HNDA.out, fun b hb => by have := HRGA.out b hb; omega, Below.setCell (Below.setCell (Below.setCell (Below.setCell (Below.setCell (Below.setCell HB2.out ?_ _) ?_ _) ?_ _) ?_ _) ?_ _) ?_ _⟩
 ·have hb2 := HRGA.out b hb
  rw [Below.heap_setCell _ _ _ _ (by show b ≠ w.heap.size + 1; omega), Below.heap_setCell _ _ _ _ (by show b ≠ w.heap.size + 1; omega), Below.heap_setCell _ _ _ _ (by show b ≠ w.heap.size + 1; omega), Below.heap_setCell _ _ _ _ (by show b ≠ w.heap.size + 1; omega), Below.heap_setCell _ _ _ _ (by show b ≠ w.heap.size + 1; omega), Below.heap_setCell _ _ _ _ (by show b ≠ w.heap.size + 2; omega)]
 all_goals first | (show w.heap.size <= w.heap.size + 2; omega) | (show w.heap.size <= w.heap.size + 1; omega)
def NewFX (w : World) (x : Fd) (e : Ending) (w' : World) : Prop := ∃ r : FRaw, e = .returned r.v /\ OwF w' w.heap.size x r /\ Below w.heap.size w w'
def ToFX (x : Fd) : Prop := ∀ (u : Value) (w : World), InF w (All w) x u -> Fd.size x <= 1048576 -> Calls Tryz.prog 89 #[u] w (NewFX w x)
theorem QI {α : Type} {a : List α} {x : α} {j : Nat} (h : a.length = j) : (a ++ [x])[j]? = some x := by
 subst h
 rw [List.getElem?_append_right (Nat.le_refl _), Nat.sub_self, List.getElem?_cons_zero]
set_option maxRecDepth 100000 in
set_option maxHeartbeats 8000000 in
theorem Ki (a : Fd) : ToFX a := by
 intro u w hu hsz
 obtain ⟨n, t, h, is⟩ := a
 obtain ⟨A, c, rfl, hr, hc⟩ := hu
 dsimp only at hr hc ⊢
 unfold Fd.size at hsz
 dsimp only at hsz
 have HTS := qb (fun w2 (hb : Below w.heap.size w w2) => Ko is A c w2 ((hr.keep (fun _ hp => hb.cell hp) (fun _ h => Nat.lt_of_lt_of_le h hb.size)).rd (fun _ h => h)) (by omega))
 clear hr hc
 go_enter Tryz.func89, Tryz.ntmps89
 go_wp2_with fail
 obtain ⟨hB0, hX0, hZ0, hY0, hs0⟩ := kY w (qC n t h A is.length c) jP #[sv n, sv t, .bool h, .slice none 0 0] 105 62 62
 have HB0 := qb hB0
 have HZ0 := qb hZ0
 have HY0 := qb hY0
 have HS0 := qb hs0
 clear hB0 hX0 hZ0 hY0 hs0
 refine (HTS.out _ HB0.out).mono ?_
 rintro e w1 ⟨A1, c1, rfl, ho, hb⟩
 have hz1 : w.heap.size + 3 <= w1.heap.size := by rw [<- HS0.out]; exact hb.size
 have HB1 := qb (HB0.out.trans (hb.mono HB0.out.size))
 have HZ1 := qb (qi HZ0.out hb)
 have HY1 := qb (qi HY0.out hb)
 have HCAP := qb (Jp ho)
 rw [HS0.out] at ho
 have HN1 := qb ho
 obtain ⟨⟨y0, y1, y2, y3⟩, y4, y5, y6, y7⟩ := qh HY1.out
 obtain ⟨⟨z0, z1, z2, z3⟩, z4, z5, z6, z7⟩ := qh HZ1.out
 clear ho hb
 go_wp2
 refine bodyPost_ret (v := fdV n t h A1 is.length c1) (by simp [results, Tryz.results89, go_sem, *]) rfl ?_
 refine ⟨⟨n, t, h, A1, is.length, c1⟩, rfl, ⟨rfl, rfl, rfl, rfl, zC (zt HN1.out (fun g hg => ?_)) (by omega)⟩, Below.setCell (Below.setCell (Below.setCell (Below.setCell (Below.setCell HB1.out ?_ _) ?_ _) ?_ _) ?_ _) ?_ _⟩
 ·have hb2 := (HN1.out.lt g hg).1
  rw [Below.heap_setCell _ _ _ _ (by show g ≠ w.heap.size + 1; omega), Below.heap_setCell _ _ _ _ (by show g ≠ w.heap.size + 1; omega), Below.heap_setCell _ _ _ _ (by show g ≠ w.heap.size + 1; omega), Below.heap_setCell _ _ _ _ (by show g ≠ w.heap.size + 1; omega), Below.heap_setCell _ _ _ _ (by show g ≠ w.heap.size + 2; omega)]
 all_goals first | (show w.heap.size <= w.heap.size + 2; omega) | (show w.heap.size <= w.heap.size + 1; omega)
theorem KC {cs : List Value} {rs : List FRaw} (hl : cs.length = rs.length * 4) (h : ∀ q (hq : q < rs.length), ∀ i, i < 4 -> cs[q * 4 + i]? = (rs[q]).cs[i]?) : cs = qY rs := by
 apply List.ext_getElem?
 intro i
 by_cases hi : i < rs.length * 4
 ·have hq : i / 4 < rs.length := by omega
  have h1 := h (i / 4) hq (i % 4) (Nat.mod_lt _ (by omega))
  rw [show i / 4 * 4 + i % 4 = i by omega] at h1
  have h2 := xx rs (i / 4) (rs[i / 4]) (i % 4) (List.getElem?_eq_getElem hq) (Nat.mod_lt _ (by omega))
  rw [show i / 4 * 4 + i % 4 = i by omega] at h2
  rw [h1, h2]
 ·rw [List.getElem?_eq_none (by omega), List.getElem?_eq_none (by rw [jH]; omega)]
theorem Vz {w : World} {base g n : Nat} {cs : Array Value} {rs : List FRaw} (hb : base <= g) (hg : w.heap[g]? = some (.cells cs 62 (0, 0))) (hcs : cs.size = n * 4) (hn : rs.length = n) (hm : n <= maxLen) (h : ∀ q (hq : q < rs.length), AtD cs (q * 4) (rs[q]).v) : OwnF w base (some ⟨g, 0, none⟩) n rs := by
 have he : cs.toList = qY rs := by
  refine KC (by rw [Array.length_toList, hcs, hn]) fun q hq i hi => ?_
  obtain ⟨c0, c1, c2, c3, e, h0, h1, h2, h3⟩ := h q hq
  injection e with e
  simp only [Array.mk.injEq, List.cons.injEq, and_true] at e
  obtain ⟨rfl, rfl, rfl, rfl⟩ := e
  rw [Array.getElem?_toList]
  match i, hi with
  | 0, _ => exact h0
  | 1, _ => exact h1
  | 2, _ => exact h2
  | 3, _ => exact h3
 subst hn
 refine ⟨jH rs, .inr ⟨g, rs.length, cs, rfl, hb, hg, Nat.le_refl _, hm, hcs, ?_⟩⟩
 rw [he, List.take_of_length_le (by rw [jH]; exact Nat.le_refl _)]
set_option maxRecDepth 100000 in
set_option maxHeartbeats 4000000 in
theorem Kh (xs : List Fd) (A : Option Addr) (c : Nat) (w : World) (hx : RdF w (All w) A xs) (hn : xs.length + Fd.sizes xs <= 1048576) :
  Calls Tryz.prog 41 #[.slice A xs.length c] w fun e w' => ∃ A' rs, e = .returned (.slice A' xs.length xs.length) /\ FLo w' w.heap.size A' xs.length rs xs /\ Below w.heap.size w w' := by
 have HX := qb hx
 have HSZ := qb hn
 have hxl : xs.length <= 1048576 := by omega
 obtain ⟨i0, hi, hz0, hz1, hz2⟩ := info_parts Tryz.info_Field
 have hmk := fun w => vE (P := Tryz.prog) Tryz.underlying28 hi hz0 hz1 hz2 xs.length (by omega) (by omega) w
 have hsz : (madeCells (Value.agg jP).cells (xs.length * 4)).size = xs.length * 4 := size_madeCells _ _
 generalize hM : madeCells (Value.agg jP).cells (xs.length * 4) = M at *
 clear hM hi hz0 hz1 hz2 hx hn
 have HMS := qb hsz
 clear hsz
 go_enter Tryz.func41, Tryz.ntmps41
 go_wp2
 go_loopw [4] (fun i wr => ∃ (j : Nat) (cs : Array Value) (rs : List FRaw), j <= xs.length /\ i = .int .i64 j /\ wr.heap[w.heap.size]? = some (.cells cs 62 (0, 0)) /\ cs.size = xs.length * 4 /\ rs.length = j /\ (∀ q (hq : q < rs.length), AtD cs (q * 4) (rs[q]).v) /\ (∀ (i : Nat) (r : FRaw) (x : Fd), rs[i]? = some r -> xs[i]? = some x -> OwF wr w.heap.size x r) /\ (fblk rs).Nodup /\ (∀ b ∈ fblk rs, w.heap.size < b /\ b < wr.heap.size) /\ Below w.heap.size w wr) (fun i _ => xs.length - (intOf i).toNat)
 case atStart => exact ⟨0, M, [], Nat.zero_le _, rfl, heap_alloc_new w _, HMS.out, rfl, fun q hq => (by simp at hq), fun i r x h => (by simp at h), List.nodup_nil, fun b hb => (by cases hb), (Below.refl _ _).alloc (Nat.le_refl _) _⟩
 case round =>
  obtain ⟨j, cs, rs, hj, rfl, hg, hcs, hrl, hdone, hels, hnd, hrg, hb⟩ := hrel
  have HB := qb hb
  have HG := qb hg
  have HD := qb hdone
  have HCS := qb hcs
  have HEL := qb hels
  have HND := qb hnd
  have HRG := qb hrg
  have HRL := qb hrl
  have hgs : w.heap.size < wr.heap.size := lt_of_block hg
  clear hb hg hdone hcs hels hnd hrg hrl
  by_cases hlt : j < xs.length
  ·obtain ⟨b1, o1, hA1, hb1, nn, tt, hh, Ai1, li1, ci1, hin, d0, d1, d2, d3⟩ := (HX.out.now HB.out).at hlt
   have hsj : Fd.size xs[j] <= 1048576 := by have := Fd.size_mem (List.getElem_mem hlt); have := HSZ.out; omega
   have HCALL := qb (Ki xs[j] _ wr hin hsj)
   clear hin hsj
   subst hA1
   go_wp2_with fail
   refine HCALL.out.mono ?_
   rintro e w2 ⟨⟨n2, t2, h2, A2, l2, c2⟩, rfl, ho2, hb⟩
   have HB2 := qb (HB.out.trans (hb.mono HB.out.size))
   have hg2 := qi HG.out hb
   have HG2 := qb hg2
   have hs := HCS.out
   obtain ⟨r0, p0, q0⟩ := jj (o := j * 4) hg2 (by omega)
   obtain ⟨r1, p1, q1⟩ := jj (o := j * 4 + 1) hg2 (by omega)
   obtain ⟨r2, p2, q2⟩ := jj (o := j * 4 + 2) hg2 (by omega)
   obtain ⟨r3, p3, q3⟩ := jj (o := j * 4 + 3) hg2 (by omega)
   have hnb := ho2.lt
   have HEL2 : Hid (∀ (i : Nat) (r : FRaw) (x : Fd), (rs ++ [⟨n2, t2, h2, A2, l2, c2⟩])[i]? = some r -> xs[i]? = some x -> OwF w2 w.heap.size x r) := by
    intro i r x h3 h4
    rcases Nat.lt_or_ge i rs.length with hi | hi
    ·rw [List.getElem?_append_left hi] at h3
     exact (HEL.out i r x h3 h4).keep (fun b hb3 => hb.block b ((HEL.out i r x h3 h4).lt b hb3).2)
    ·have hij : i = j := by
      have h5 := (List.getElem?_eq_some_iff.1 h3).1
      have := HRL.out
      simp at h5
      omega
     subst hij
     have h6 : (rs ++ [(⟨n2, t2, h2, A2, l2, c2⟩ : FRaw)])[i]? = some ⟨n2, t2, h2, A2, l2, c2⟩ := QI HRL.out
     rw [h6] at h3
     injection h3 with h3
     rw [List.getElem?_eq_getElem hlt] at h4
     injection h4 with h4
     subst h3; subst h4
     exact ho2.base (Nat.le_of_lt hgs)
   have HND2 : Hid ((fblk (rs ++ [⟨n2, t2, h2, A2, l2, c2⟩])).Nodup) := by
    show List.Nodup _
    rw [kj, List.nodup_append]
    refine ⟨HND.out, ?_, fun a ha b hb e => by have := (HRG.out a ha).2; have := (hnb b hb).1; omega⟩
    show (bk A2 l2 c2).Nodup
    unfold bk
    cases Value.ownBlock (.slice A2 l2 c2) <;> simp
   have HRG2 : Hid (∀ b ∈ fblk (rs ++ [⟨n2, t2, h2, A2, l2, c2⟩]), w.heap.size < b /\ b < w2.heap.size) := fun b hb3 => by
    rw [kj] at hb3
    rcases List.mem_append.1 hb3 with hb4 | hb4
    ·have := HRG.out b hb4; have := hb.size; omega
    ·have := hnb b hb4; omega
   clear hb ho2 hnb hg2 hs
   go_wp2
   go_roundw
   case rel =>
    refine ⟨j + 1, set4 cs (j * 4) (sv n2) (sv t2) (.bool h2) (.slice A2 l2 c2), rs ++ [⟨n2, t2, h2, A2, l2, c2⟩], by omega, by go_num, qP (qP (qP (qP HG2.out))), Jz.trans HCS.out, by have := HRL.out; simp [this], ?_, ?_, HND2.out, ?_, Below.setCell (Below.setCell (Below.setCell (Below.setCell HB2.out (Nat.le_refl _) _) (Nat.le_refl _) _) (Nat.le_refl _) _) (Nat.le_refl _) _⟩
    ·intro q hq
     have hrl := HRL.out
     by_cases hqe : q < rs.length
     ·rw [List.getElem_append_left hqe]
      exact Jy (HD.out q hqe) (by omega)
     ·have hqj : q = rs.length := by simp at hq; omega
      subst hqj
      rw [List.getElem_append_right (Nat.le_refl _)]
      simp only [Nat.sub_self, List.getElem_cons_zero]
      rw [hrl]
      exact set4_at (by have := HCS.out; omega)
    ·intro i r x h3 h4
     refine (HEL2.out i r x h3 h4).keep fun b hb => ?_
     have hb2 := (HRG2.out b (jm.2 ⟨r, List.mem_of_getElem? h3, hb⟩)).1
     rw [Below.heap_setCell _ _ _ _ (by show b ≠ w.heap.size; omega), Below.heap_setCell _ _ _ _ (by show b ≠ w.heap.size; omega), Below.heap_setCell _ _ _ _ (by show b ≠ w.heap.size; omega), Below.heap_setCell _ _ _ _ (by show b ≠ w.heap.size; omega)]
    ·intro b hb
     have := HRG2.out b hb
     simp [World.setCell]
     omega
   case measure => simp [intOf]; omega
  ·have hrx : rs.length = xs.length := by have := HRL.out; omega
   have HRX := qb hrx
   clear hrx
   go_wp2
   go_ret
   refine ⟨_, rs, rfl, ⟨Vz (Nat.le_refl _) HG.out HCS.out HRX.out (by unfold maxLen; omega) HD.out, HRX.out, HEL.out, ?_⟩, HB.out⟩
   rw [show bk (some ⟨w.heap.size, 0, none⟩) rs.length xs.length = [w.heap.size] from rfl, List.nodup_append]
   exact ⟨by simp, HND.out, fun a ha b hb e => by simp at ha; have := (HRG.out b hb).1; omega⟩
def NewDX (w : World) (d : Dk) (e : Ending) (w' : World) : Prop := ∃ Ap cp rs Ad cd fs, e = .returned (dkV Ap (List.length rs) cp Ad (List.length fs) cd) /\ DOw w' w.heap.size Ap cp rs Ad cd fs d /\ Below w.heap.size w w'
set_option maxRecDepth 100000 in
set_option maxHeartbeats 4000000 in
theorem Kg (d : Dk) (u : Value) (w : World) (hu : InD w (All w) d u) (hs : Dk.size d <= 1048576) :
  Calls Tryz.prog 10 #[u] w (NewDX w d) := by
 obtain ⟨ps, fs⟩ := d
 obtain ⟨Ap, cp, Ad, cd, rfl, g1, g2, g3, g4⟩ := hu
 unfold Dk.size at hs
 dsimp only at g1 g2 g3 g4 hs ⊢
 have HTS := qb (fun w2 (hb : Below w.heap.size w w2) => kU ps (fun x _ => Kz x) Ap cp w2 (g1.now hb) (by omega))
 have HTN := qb (fun w2 (hb : Below w.heap.size w w2) => Kh fs Ad cd w2 (g3.now hb) (by omega))
 clear g1 g2 g3 g4
 go_enter Tryz.func10, Tryz.ntmps10
 go_wp2_with fail
 obtain ⟨hB0, hX0, hZ0, hY0, hs0⟩ := kY w (qx Ap ps.length cp Ad fs.length cd) #[.slice none 0 0, .slice none 0 0] #[.slice none 0 0, .slice none 0 0] 25 30 30
 have HB0 := qb hB0
 have HX0 := qb hX0
 have HZ0 := qb hZ0
 have HY0 := qb hY0
 have HS0 := qb hs0
 clear hB0 hX0 hZ0 hY0 hs0
 refine (HTS.out _ HB0.out).mono ?_
 rintro e w1 ⟨A1, rs1, L1, rfl, ho, hoe, hnd1, hrg1, hb⟩
 have hz1 : w.heap.size + 3 <= w1.heap.size := by rw [<- HS0.out]; exact hb.size
 have HB1 := qb (HB0.out.trans (hb.mono HB0.out.size))
 have HX1 := qb (qi HX0.out hb)
 have HZ1 := qb (qi HZ0.out hb)
 have HY1 := qb (qi HY0.out hb)
 rw [HS0.out] at ho hrg1
 have HLL1 := qb hoe.len
 have HP1 : Hid (PLx w1 (w.heap.size + 3) A1 ps.length rs1 ps) := ⟨L1, ho, hoe, by rw [hoe.len]; exact hnd1, fun j hj => hrg1 j (List.mem_append_right _ hj)⟩
 obtain ⟨⟨y0, y1⟩, y2, y3⟩ := zX HY1.out
 obtain ⟨⟨x0, x1⟩, -⟩ := zX HX1.out
 have HB1' := qb (Below.setCell HB1.out (p := ⟨w.heap.size + 2, 0, none⟩) (by show w.heap.size <= w.heap.size + 2; omega) (.slice A1 ps.length ps.length))
 have HY1' : Hid ((w1.setCell ⟨w.heap.size + 2, 0, none⟩ (.slice A1 ps.length ps.length)).heap[w.heap.size + 2]? = some (.cells #[.slice A1 ps.length ps.length, .slice none 0 0] 30 (0, 0))) := qP HY1.out
 have HZ1' : Hid ((w1.setCell ⟨w.heap.size + 2, 0, none⟩ (.slice A1 ps.length ps.length)).heap[w.heap.size + 1]? = some (.cells #[.slice none 0 0, .slice none 0 0] 30 (0, 0))) := (Below.heap_setCell _ _ _ _ (by show w.heap.size + 1 ≠ w.heap.size + 2; omega)).trans HZ1.out
 have hs1 : (w1.setCell ⟨w.heap.size + 2, 0, none⟩ (.slice A1 ps.length ps.length)).heap.size = w1.heap.size := by simp [World.setCell]
 have HK1 : Hid (∀ b, w.heap.size + 3 <= b -> (w1.setCell ⟨w.heap.size + 2, 0, none⟩ (.slice A1 ps.length ps.length)).heap[b]? = w1.heap[b]?) := fun b hb => Below.heap_setCell _ _ _ _ (by show b ≠ w.heap.size + 2; omega)
 clear ho hb hoe hnd1 hrg1
 go_wp2_with fail
 refine (HTN.out _ HB1'.out).mono ?_
 rintro e w2 ⟨A2, rs2, rfl, hfl, hb⟩
 rw [hs1] at hfl
 have hz2 : w1.heap.size <= w2.heap.size := by rw [<- hs1]; exact hb.size
 have HB2 := qb (HB1'.out.trans (hb.mono HB1'.out.size))
 have HZ2 := qb (qi HZ1'.out hb)
 have HY2 := qb (qi HY1'.out hb)
 have HD2 : Hid (DOw w2 (w.heap.size + 3) A1 ps.length rs1 A2 fs.length rs2 ⟨ps, fs⟩) := ⟨HP1.out.at (fun j h1 h2 => (hb.block j (by rw [hs1]; exact h2)).trans (HK1.out j h1)), hfl.base hz1⟩
 have HLL2 := qb hfl.len
 obtain ⟨⟨y0, y1⟩, y2, y3⟩ := zX HY2.out
 obtain ⟨⟨z0, z1⟩, z2, z3⟩ := zX HZ2.out
 clear hb hfl
 go_wp2
 refine bodyPost_ret (v := dkV A1 ps.length ps.length A2 fs.length fs.length) (by simp [results, Tryz.results10, go_sem, *]) rfl ?_
 refine ⟨A1, ps.length, rs1, A2, fs.length, rs2, by rw [HLL1.out, HLL2.out], ((HD2.out.at (fun j h1 h2 => ?_)).low (by omega)), Below.setCell (Below.setCell (Below.setCell HB2.out ?_ _) ?_ _) ?_ _⟩
 ·rw [Below.heap_setCell _ _ _ _ (by show j ≠ w.heap.size + 1; omega), Below.heap_setCell _ _ _ _ (by show j ≠ w.heap.size + 1; omega), Below.heap_setCell _ _ _ _ (by show j ≠ w.heap.size + 2; omega)]
 all_goals first | (show w.heap.size <= w.heap.size + 2; omega) | (show w.heap.size <= w.heap.size + 1; omega)
end Go.Proofs.YtmboieajfdkllaaGreat
