import Derived.Test.YtmboieajfdkllaaGreatU01
import Derived.Test.YtmboieajfdkllaaGreatU02
import Derived.Test.YtmboieajfdkllaaGreatU03
set_option maxHeartbeats 4000000
set_option maxRecDepth 100000
open Go.Proofs.Tryz
namespace Go.Proofs.YtmboieajfdkllaaGreat
open Go.RowKit
def EqC (x : Pt) : Prop := ∀ (b : Pt) (u v : Value) (w : World), InP w (All w) x u -> InP w (All w) b v -> Pt.Fit x -> Pt.Fit b →
  Calls Tryz.prog 98 #[u, v] w fun e w' => e = .returned (.bool (Pt.same x b)) /\ Below w.heap.size w w'
theorem kA (xs xs' : List Pt) (hE : ∀ x ∈ xs, EqC x) (A A' : Option Addr) (c c' : Nat) (w : World) (hx : RdP w (All w) A xs) (hy : RdP w (All w) A' xs') (hf : Pt.Fits xs) (hf' : Pt.Fits xs') (hn : xs.length <= maxLen) :
  Calls Tryz.prog 51 #[.slice A xs.length c, .slice A' xs'.length c'] w fun e w' => e = .returned (.bool (Pt.sames xs xs')) /\ Below w.heap.size w w' := by
 have HE0 := qb hE
 have HX := qb hx
 have HY := qb hy
 have HF := qb hf
 have HF' := qb hf'
 have hxl : xs.length <= 9223372036854775807 := hn
 clear hE hx hy hf hf' hn
 by_cases hl : xs.length = xs'.length
 ·have m5 : ((xs.length : Int) != (xs'.length : Int)) = false := by rw [hl]; simp
  have HL := qb hl
  clear hl
  go_enter func51, ntmps51
  go_wp2
  go_loopw [5] (fun i wr => ∃ (j : Nat), j <= xs.length /\ i = .int .i64 j /\ Pt.sames (xs.drop j) (xs'.drop j) = Pt.sames xs xs' /\ Below w.heap.size w wr) (fun i _ => xs.length - (intOf i).toNat)
  case atStart => exact ⟨0, Nat.zero_le _, rfl, rfl, Below.refl _ _⟩
  obtain ⟨j, hj, rfl, hsm, hb⟩ := hrel
  have HSM := qb hsm
  have HB := qb hb
  clear hsm hb
  by_cases hlt : j < xs.length
  ·have hlt' : j < xs'.length := by have := HL.out; omega
   obtain ⟨b1, o1, hA1, hb1, kd, tt, nn, An1, ln1, cn1, Ai1, li1, ci1, hin, c0, c1, c2, c3, c4⟩ := (HX.out.now HB.out).at hlt
   obtain ⟨b2, o2, hA2, hb2, kd', tt', nn', An2, ln2, cn2, Ai2, li2, ci2, hin', d0, d1, d2, d3, d4⟩ := (HY.out.now HB.out).at hlt'
   have HC := qb (And.intro c0 (And.intro c1 (And.intro c2 (And.intro c3 c4))))
   have HD := qb (And.intro d0 (And.intro d1 (And.intro d2 (And.intro d3 d4))))
   have HCALL := qb (fun w2 (hb : Below wr.heap.size wr w2) => HE0.out xs[j] (List.getElem_mem hlt) xs'[j] _ _ w2 (hin.now hb) (hin'.now hb) (Pt.fits_mem HF.out (List.getElem_mem hlt)) (Pt.fits_mem HF'.out (List.getElem_mem hlt')))
   have HST := qb (Ju HSM.out hlt hlt')
   clear hin hin' c0 c1 c2 c3 c4 d0 d1 d2 d3 d4
   generalize Pt.same xs[j] xs'[j] = r at *
   subst hA1
   subst hA2
   go_wp2_with fail
   refine qU 9 (by kernel_rfl) (by kernel_rfl) (fun _ w => Below (World.heap wr).size wr w) KB (fun i => ([bIs (.slice (some ⟨b1, o1, none⟩) xs.length c), bIs (.int .i64 (j : Int)), bIs (.pointer (some ⟨b1, o1 + j * 5, none⟩)), bIs (ptV kd tt nn An1 ln1 cn1 Ai1 li1 ci1), bIs (.slice (some ⟨b2, o2, none⟩) xs'.length c'), bIs (.int .i64 (j : Int)), bIs (.pointer (some ⟨b2, o2 + j * 5, none⟩)), bIs (ptV kd' tt' nn' An2 ln2 cn2 Ai2 li2 ci2), bIs (.bool r)] : List TyB).getD i bAny) ?hWbB1 ?hkeepB1 ?hstepB1 ?hfinbB1
   case hkeepB1 =>
    refine qg (qg (qg (qg (qg (qg (qg (qg (qg qG ?_) ?_) ?_) ?_) ?_) ?_) ?_) ?_) ?_
    all_goals exact qj
   case hstepB1 =>
    refine qg (qg (qg (qg (qg (qg (qg (qg (qg qG ?_) ?_) ?_) ?_) ?_) ?_) ?_) ?_) ?_
    all_goals (intro o ho m' a w1 hm' hW hb hd K Q hK; obtain rfl := Option.some.inj ho)
    ·(have e0 : a.tmps[0]?.getD undef = (.slice (some ⟨b1, o1, none⟩) xs.length c) := (by rw [hb 0 (by decide +kernel)]; simp); go_simp; exact hK _ _ hW (VY _) rfl)
    ·(have e0 : a.tmps[5]?.getD undef = (.int .i64 (j : Int)) := (by rw [hb 5 (by decide +kernel)]; simp); go_simp; exact hK _ _ hW (VY _) rfl)
    ·(have e0 := qo (hd 0 (by kernel_rfl) 17 rfl); have e1 := qo (hd 1 (by kernel_rfl) 18 rfl); go_simp; exact hK _ _ hW (VY _) rfl)
    ·(have e0 := qo (hd 2 (by kernel_rfl) 19 rfl); have q0 := (hW.cell (p := ⟨b1, o1 + j * 5, none⟩) hb1).trans HC.out.1; have q1 := (hW.cell (p := ⟨b1, o1 + j * 5 + 1, none⟩) hb1).trans HC.out.2.1; have q2 := (hW.cell (p := ⟨b1, o1 + j * 5 + 2, none⟩) hb1).trans HC.out.2.2.1; have q3 := (hW.cell (p := ⟨b1, o1 + j * 5 + 3, none⟩) hb1).trans HC.out.2.2.2.1; have q4 := (hW.cell (p := ⟨b1, o1 + j * 5 + 4, none⟩) hb1).trans HC.out.2.2.2.2; go_simp; exact hK _ _ hW (VY _) rfl)
    ·(have e0 : a.tmps[1]?.getD undef = (.slice (some ⟨b2, o2, none⟩) xs'.length c') := (by rw [hb 1 (by decide +kernel)]; simp); go_simp; exact hK _ _ hW (VY _) rfl)
    ·(have e0 : a.tmps[5]?.getD undef = (.int .i64 (j : Int)) := (by rw [hb 5 (by decide +kernel)]; simp); go_simp; exact hK _ _ hW (VY _) rfl)
    ·(have e0 := qo (hd 4 (by kernel_rfl) 21 rfl); have e1 := qo (hd 5 (by kernel_rfl) 22 rfl); go_simp; exact hK _ _ hW (VY _) rfl)
    ·(have e0 := qo (hd 6 (by kernel_rfl) 23 rfl); have q0 := (hW.cell (p := ⟨b2, o2 + j * 5, none⟩) hb2).trans HD.out.1; have q1 := (hW.cell (p := ⟨b2, o2 + j * 5 + 1, none⟩) hb2).trans HD.out.2.1; have q2 := (hW.cell (p := ⟨b2, o2 + j * 5 + 2, none⟩) hb2).trans HD.out.2.2.1; have q3 := (hW.cell (p := ⟨b2, o2 + j * 5 + 3, none⟩) hb2).trans HD.out.2.2.2.1; have q4 := (hW.cell (p := ⟨b2, o2 + j * 5 + 4, none⟩) hb2).trans HD.out.2.2.2.2; go_simp; exact hK _ _ hW (VY _) rfl)
    (have e0 := qo (hd 3 (by kernel_rfl) 20 rfl); have e1 := qo (hd 7 (by kernel_rfl) 24 rfl); go_simp; refine (HCALL.out _ hW).mono ?_; rintro e w2 ⟨rfl, hb2⟩; exact hK _ _ (qa3 hW hb2) hb2 rfl)
   case hWbB1 => exact (Below.refl _ _).drew
   intro vs w2 hW hF
   simp only [qF, hdst, List.getElem?_cons_succ, List.getElem?_cons_zero, Option.bind, List.drop_succ_cons, List.drop_zero, Act.put]
   have h8 : vs 8 = .bool r := hF 8 (by omega)
   rw [h8]
   have HB4 := qb (qa3 HB.out hW)
   clear hW hF h8
   go_simp
   cases r
   ·have HE : Hid (Pt.sames xs xs' = false) := HST.out.symm
    go_wp2
    go_ret
    exact ⟨qw HE.out.symm, HB4.out⟩
   rw [Bool.true_and] at HST
   go_wp2
   go_roundw
   case rel => exact ⟨j + 1, by omega, by go_num, HST.out, HB4.out⟩
   case measure => simp [intOf]; omega
  have HE := qb (Jv HSM.out hlt HL.out)
  go_wp2
  go_ret
  exact ⟨qw HE.out, HB.out⟩
 have m5 : ((xs.length : Int) != (xs'.length : Int)) = true := by simp; omega
 have HE : Hid (Pt.sames xs xs' = false) := yp hl
 clear hl
 go_enter func51, ntmps51
 go_wp2
 go_ret
 exact ⟨qw HE.out.symm, Below.refl _ _⟩
theorem JD (a : Pt) : EqC a := by
 induction a using Pt.ind with
 | h k t n xs ys ih1 ih2 =>
 intro b u v w hu hv hfa hfb
 cases b with
 | mk k' t' n' xs' ys' =>
 obtain ⟨Ap, cp, Ao, co, rfl, hcp, hco, hrp, hro⟩ := hu.parts
 obtain ⟨Ap', cp', Ao', co', rfl, hcp', hco', hrp', hro'⟩ := hv.parts
 simp only [Pt.Fit] at hfa hfb
 obtain ⟨ha1, ha2, ha3, ha4, ha5, ha6⟩ := hfa
 obtain ⟨hb1, hb2, hb3, hb4, hb5, hb6⟩ := hfb
 obtain ⟨hB0, hX0, hY0⟩ := qE w (qD k t n Ap xs.length cp Ao ys.length co) (qD k' t' n' Ap' xs'.length cp' Ao' ys'.length co') 115 115
 have HB0 := qb hB0
 have HX0 := qb hX0
 have HY0 := qb hY0
 have HEQ := qb (kA xs xs' ih1 Ap Ap' cp cp' _ (hrp.now hB0) (hrp'.now hB0) ha5 hb5 ha3)
 have HIN := qb (fun w2 (hb : Below _ _ w2) => kA ys ys' ih2 Ao Ao' co co' w2 ((hro.now hB0).now hb) ((hro'.now hB0).now hb) ha6 hb6 ha4)
 have HS : Hid (Pt.same (.mk k t n xs ys) (.mk k' t' n' xs' ys') = (k == k' && (t == t' && (n == n' && (Pt.sames xs xs' && Pt.sames ys ys'))))) := by show _ = _; simp only [Pt.same]
 clear hu hv hrp hro hrp' hro' ha5 hb5 hB0 hX0 hY0 ha3 hb3 ih1 ih2 ha4 hb4 ha6 hb6
 cases e1 : (k == k')
 ·have m1 : (k != k') = true := by rw [bne, e1]; rfl
  have HE : Hid (Pt.same (.mk k t n xs ys) (.mk k' t' n' xs' ys') = false) := by show _ = _; rw [HS.out, e1]; rfl
  go_enter func98, ntmps98
  go_wp2
  all_goals (go_ret; exact ⟨qw HE.out.symm, HB0.out⟩)
 cases e2 : (t == t')
 ·obtain rfl := beq_iff_eq.1 e1
  have m2 : (t != t') = true := by rw [bne, e2]; rfl
  have HE : Hid (Pt.same (.mk k t n xs ys) (.mk k t' n' xs' ys') = false) := by show _ = _; rw [HS.out, e1, e2]; rfl
  go_enter func98, ntmps98
  go_wp2
  all_goals (go_ret; exact ⟨qw HE.out.symm, HB0.out⟩)
 cases e3 : (n == n')
 ·obtain rfl := beq_iff_eq.1 e1
  obtain rfl := beq_iff_eq.1 e2
  have m3 : (n != n') = true := by rw [bne, e3]; rfl
  have HE : Hid (Pt.same (.mk k t n xs ys) (.mk k t n' xs' ys') = false) := by show _ = _; rw [HS.out, e1, e2, e3]; rfl
  go_enter func98, ntmps98
  go_wp2
  all_goals (go_ret; exact ⟨qw HE.out.symm, HB0.out⟩)
 rw [e1, e2, e3, Bool.true_and, Bool.true_and, Bool.true_and] at HS
 obtain rfl := beq_iff_eq.1 e1
 obtain rfl := beq_iff_eq.1 e2
 obtain rfl := beq_iff_eq.1 e3
 clear e1 e2 e3
 have hzz : w.heap.size + 1 < ((w.alloc (.cells (qD k t n Ap xs.length cp Ao ys.length co) 115)).alloc (.cells (qD k t n Ap' xs'.length cp' Ao' ys'.length co') 115)).heap.size := by simp
 generalize hr4 : Pt.sames xs xs' = r4 at HEQ HS
 clear hr4
 go_enter func98, ntmps98
 go_wp2_with fail
 refine HEQ.out.mono ?_
 rintro e w1 ⟨rfl, hb⟩
 have HB1 := qb (qa3 HB0.out hb)
 have HX1 := qb (qi HX0.out hb)
 have HY1 := qb (qi HY0.out hb)
 have HI1 := qb (HIN.out w1 hb)
 obtain ⟨⟨f0, f1, f2, f3, f4⟩, -⟩ := qI HX1.out
 obtain ⟨⟨g0, g1, g2, g3, g4⟩, -⟩ := qI HY1.out
 clear hb
 cases r4
 ·have HE : Hid (Pt.same (.mk k t n xs ys) (.mk k t n xs' ys') = false) := HS.out
  go_wp2
  go_ret
  exact ⟨qw HE.out.symm, HB1.out⟩
 rw [Bool.true_and] at HS
 generalize hr5 : Pt.sames ys ys' = r5 at HI1 HS
 clear hr5
 go_wp2_with fail
 refine HI1.out.mono ?_
 rintro e w2 ⟨rfl, hb⟩
 have HB2 := qb (qa3 HB1.out hb)
 clear hb
 cases r5
 all_goals
  go_wp2
  go_ret
  exact ⟨qw HS.out.symm, HB2.out⟩
def SzC (x : Pt) : Prop := ∀ (u : Value) (left : Int) (w : World), InP w (All w) x u -> Pt.Fit x -> 0 <= left -> left <= 1048576 →
  Calls Tryz.prog 78 #[u, .int .i64 left] w fun e w' => e = .returned (.int .i64 (Yc left (Pt.size x))) /\ Below w.heap.size w w'
theorem kT (xs : List Pt) (hE : ∀ x ∈ xs, SzC x) (A : Option Addr) (c : Nat) (left : Int) (w : World) (hx : RdP w (All w) A xs) (hf : Pt.Fits xs) (hn : xs.length <= maxLen) (h0 : 0 <= left) (h1 : left <= 1048576) :
  Calls Tryz.prog 30 #[.slice A xs.length c, .int .i64 left] w fun e w' => e = .returned (.int .i64 (Yc left (xs.length + Pt.sizes xs))) /\ Below w.heap.size w w' := by
 have HE0 := qb hE
 have HX := qb hx
 have HF := qb hf
 have hxl : xs.length <= 9223372036854775807 := hn
 clear hE hx hf hn
 by_cases hz : left < xs.length
 ·have HR : Hid (Yc left (xs.length + Pt.sizes xs) = -1) := by show _ = _; rw [zl (by omega)]
  have hz' : left - (xs.length : Int) < 0 := by omega
  go_enter func30, ntmps30
  go_wp2
  go_ret
  exact ⟨qA HR.out.symm, Below.refl _ _⟩
 have hz' : 0 <= left - (xs.length : Int) := by omega
 have HGO : Hid (∀ (j : Nat) (lf : Int), lf - Pt.sizes (xs.drop j) = left - xs.length - Pt.sizes xs -> True) := fun _ _ _ => trivial
 clear HGO
 go_enter func30, ntmps30
 go_wp2
 go_loopw [1, 5] (fun l i wr => ∃ (j : Nat) (lf : Int), j <= xs.length /\ i = .int .i64 j /\ l = .int .i64 lf /\ 0 <= lf /\ lf <= 1048576 /\ lf - Pt.sizes (xs.drop j) = left - xs.length - Pt.sizes xs /\ Below w.heap.size w wr) (fun _ i _ => xs.length - (intOf i).toNat)
 case atStart => exact ⟨0, _, Nat.zero_le _, rfl, rfl, by omega, by omega, by simp, Below.refl _ _⟩
 obtain ⟨j, lf, hj, rfl, rfl, hl0, hl1, hrest, hb⟩ := hrel
 have HRS := qb hrest
 have HB := qb hb
 clear hrest hb
 by_cases hlt : j < xs.length
 ·obtain ⟨b1, o1, hA1, hb1, kd, tt, nn, An1, ln1, cn1, Ai1, li1, ci1, hin, c0, c1, c2, c3, c4⟩ := (HX.out.now HB.out).at hlt
  have HCALL := qb (HE0.out xs[j] (List.getElem_mem hlt) _ lf wr hin (Pt.fits_mem HF.out (List.getElem_mem hlt)) hl0 hl1)
  have HD := qb (Pt.sizes_drop xs j hlt)
  have HLE := qb (Pt.sizes_drop_le xs (j + 1))
  generalize Pt.size xs[j] = sz at *
  subst hA1
  by_cases ho : (sz : Int) <= lf
  ·rw [zL ho] at HCALL
   have hnn : 0 <= lf - (sz : Int) := by omega
   go_wp2_with fail
   refine HCALL.out.mono ?_
   rintro e w2 ⟨rfl, hb⟩
   have HB2 := qb (qa3 HB.out hb)
   clear hb
   go_wp2
   go_roundw
   case rel =>
    have := HD.out; have := HRS.out
    exact ⟨j + 1, _, by omega, by go_num, rfl, by omega, by omega, by omega, HB2.out⟩
   case measure => simp [intOf]; omega
  rw [zl ho] at HCALL
  have HR : Hid (Yc left (xs.length + Pt.sizes xs) = -1) := by
   show _ = _
   have := HD.out; have := HRS.out
   rw [zl (by omega)]
  go_wp2_with fail
  refine HCALL.out.mono ?_
  rintro e w2 ⟨rfl, hb⟩
  have HB2 := qb (qa3 HB.out hb)
  clear hb
  go_wp2
  go_ret
  exact ⟨qA HR.out.symm, HB2.out⟩
 have HR : Hid (Yc left (xs.length + Pt.sizes xs) = lf) := by
  show _ = _
  have h := HRS.out
  rw [zc xs j (by omega)] at h
  simp only [Pt.sizes] at h
  rw [zL (by omega)]
  omega
 go_wp2
 go_ret
 exact ⟨qA HR.out.symm, HB.out⟩
theorem XH (a : Pt) : SzC a := by
 induction a using Pt.ind with
 | h k t n xs ys ih1 ih2 =>
 intro u left w hu hfa h0 h1
 obtain ⟨Ap, cp, Ao, co, rfl, hcp, hco, hrp, hro⟩ := hu.parts
 simp only [Pt.Fit] at hfa
 obtain ⟨ha1, ha2, ha3, ha4, ha5, ha6⟩ := hfa
 have hB0 := (Below.refl w.heap.size w).alloc (Nat.le_refl _) (.cells (qD k t n Ap xs.length cp Ao ys.length co) 103)
 have HB0 := qb hB0
 have HX0 := qb (heap_alloc_new w (.cells (qD k t n Ap xs.length cp Ao ys.length co) 103))
 have htl : t.length <= 9223372036854775807 := ha1
 have hnl : n.length <= 9223372036854775807 := ha2
 have HS : Hid (Pt.size (.mk k t n xs ys) = t.length + n.length + (xs.length + Pt.sizes xs) + (ys.length + Pt.sizes ys)) := by show _ = _; simp only [Pt.size]
 have HIN := qb (fun (l : Int) (h0 : 0 <= l) (h1 : l <= 1048576) => kT xs ih1 Ap cp l _ (hrp.now hB0) ha5 ha3 h0 h1)
 have HIO := qb (fun w2 (hb : Below _ _ w2) (l : Int) (h0 : 0 <= l) (h1 : l <= 1048576) => kT ys ih2 Ao co l w2 ((hro.now hB0).now hb) ha6 ha4 h0 h1)
 have hzz : w.heap.size < (w.alloc (.cells (qD k t n Ap xs.length cp Ao ys.length co) 103)).heap.size := by simp
 clear hu hrp hro ha5 ha6 hB0 ha3 ha4 ih1 ih2
 by_cases e1 : left < (t.length : Int)
 ·
  have HE : Hid (Yc left (Pt.size (.mk k t n xs ys)) = -1) := by show _ = _; rw [zl (by rw [HS.out]; omega)]
  have e1' : left - (t.length : Int) < 0 := by omega
  go_enter func78, ntmps78
  go_wp2
  go_ret
  exact ⟨qA HE.out.symm, HB0.out⟩
 have e1' : 0 <= left - (t.length : Int) := by omega
 by_cases e2 : left - (t.length : Int) < (n.length : Int)
 ·
  have HE : Hid (Yc left (Pt.size (.mk k t n xs ys)) = -1) := by show _ = _; rw [zl (by rw [HS.out]; omega)]
  have e2' : left - (t.length : Int) - (n.length : Int) < 0 := by omega
  go_enter func78, ntmps78
  go_wp2
  go_ret
  exact ⟨qA HE.out.symm, HB0.out⟩
 have e2' : 0 <= left - (t.length : Int) - (n.length : Int) := by omega
 have HI := qb (HIN.out (left - (t.length : Int) - (n.length : Int)) e2' (by omega))
 by_cases e3 : ((xs.length + Pt.sizes xs : Nat) : Int) <= left - (t.length : Int) - (n.length : Int)
 case neg =>
  have HE : Hid (Yc left (Pt.size (.mk k t n xs ys)) = -1) := by show _ = _; rw [zl (by rw [HS.out]; omega)]
  rw [zl e3] at HI
  clear e3
  go_enter func78, ntmps78
  go_wp2_with fail
  refine HI.out.mono ?_
  rintro e w2 ⟨rfl, hb⟩
  have HB2 := qb (qa3 HB0.out hb)
  clear hb
  go_wp2
  go_ret
  exact ⟨qA HE.out.symm, HB2.out⟩
 rw [zL e3] at HI
 have e3' : 0 <= left - (t.length : Int) - (n.length : Int) - (xs.length + Pt.sizes xs : Nat) := by omega
 have HJ := qb (fun w2 (hb : Below _ _ w2) => HIO.out w2 hb (left - (t.length : Int) - (n.length : Int) - (xs.length + Pt.sizes xs : Nat)) e3' (by omega))
 by_cases e4 : ((ys.length + Pt.sizes ys : Nat) : Int) <= left - (t.length : Int) - (n.length : Int) - (xs.length + Pt.sizes xs : Nat)
 ·have HE : Hid (Yc left (Pt.size (.mk k t n xs ys)) = left - (t.length : Int) - (n.length : Int) - (xs.length + Pt.sizes xs : Nat) - (ys.length + Pt.sizes ys : Nat)) := by show _ = _; rw [zL (by rw [HS.out]; omega), HS.out]; omega
  rw [zL e4] at HJ
  have e5 : 0 <= left - (t.length : Int) - (n.length : Int) - (xs.length + Pt.sizes xs : Nat) - (ys.length + Pt.sizes ys : Nat) := by omega
  clear e3 e4
  generalize (xs.length + Pt.sizes xs : Nat) = mx at *
  generalize (ys.length + Pt.sizes ys : Nat) = my at *
  go_enter func78, ntmps78
  go_wp2_with fail
  refine HI.out.mono ?_
  rintro e w2 ⟨rfl, hb⟩
  have HB2 := qb (qa3 HB0.out hb)
  have HJ2 := qb (HJ.out w2 hb)
  obtain ⟨⟨f0, f1, f2, f3, f4⟩, -⟩ := qI (qi HX0.out hb)
  clear hb
  go_wp2_with fail
  refine HJ2.out.mono ?_
  rintro e w3 ⟨rfl, hb⟩
  have HB3 := qb (qa3 HB2.out hb)
  clear hb
  go_wp2
  go_ret
  exact ⟨qA HE.out.symm, HB3.out⟩
 have HE : Hid (Yc left (Pt.size (.mk k t n xs ys)) = -1) := by show _ = _; rw [zl (by rw [HS.out]; omega)]
 rw [zl e4] at HJ
 clear e3 e4
 generalize (xs.length + Pt.sizes xs : Nat) = mx at *
 generalize (ys.length + Pt.sizes ys : Nat) = my at *
 go_enter func78, ntmps78
 go_wp2_with fail
 refine HI.out.mono ?_
 rintro e w2 ⟨rfl, hb⟩
 have HB2 := qb (qa3 HB0.out hb)
 have HJ2 := qb (HJ.out w2 hb)
 obtain ⟨⟨f0, f1, f2, f3, f4⟩, -⟩ := qI (qi HX0.out hb)
 clear hb
 go_wp2_with fail
 refine HJ2.out.mono ?_
 rintro e w3 ⟨rfl, hb⟩
 have HB3 := qb (qa3 HB2.out hb)
 clear hb
 go_wp2
 go_ret
 exact ⟨qA HE.out.symm, HB3.out⟩
def EqF (x : Fd) : Prop := ∀ (b : Fd) (u v : Value) (w : World), InF w (All w) x u -> InF w (All w) b v -> Fd.Fit x -> Fd.Fit b →
  Calls Tryz.prog 99 #[u, v] w fun e w' => e = .returned (.bool (Fd.same x b)) /\ Below w.heap.size w w'
theorem JC (xs xs' : List Fd) (hE : ∀ x ∈ xs, EqF x) (A A' : Option Addr) (c c' : Nat) (w : World) (hx : RdF w (All w) A xs) (hy : RdF w (All w) A' xs') (hf : ∀ x ∈ xs, Fd.Fit x) (hf' : ∀ x ∈ xs', Fd.Fit x) (hn : xs.length <= maxLen) :
  Calls Tryz.prog 52 #[.slice A xs.length c, .slice A' xs'.length c'] w fun e w' => e = .returned (.bool (Fd.sames xs xs')) /\ Below w.heap.size w w' := by
 have HE0 := qb hE
 have HX := qb hx
 have HY := qb hy
 have HF := qb hf
 have HF' := qb hf'
 have hxl : xs.length <= 9223372036854775807 := hn
 clear hE hx hy hf hf' hn
 by_cases hl : xs.length = xs'.length
 ·have m5 : ((xs.length : Int) != (xs'.length : Int)) = false := by rw [hl]; simp
  have HL := qb hl
  clear hl
  go_enter func52, ntmps52
  go_wp2
  go_loopw [5] (fun i wr => ∃ (j : Nat), j <= xs.length /\ i = .int .i64 j /\ Fd.sames (xs.drop j) (xs'.drop j) = Fd.sames xs xs' /\ Below w.heap.size w wr) (fun i _ => xs.length - (intOf i).toNat)
  case atStart => exact ⟨0, Nat.zero_le _, rfl, rfl, Below.refl _ _⟩
  obtain ⟨j, hj, rfl, hsm, hb⟩ := hrel
  have HSM := qb hsm
  have HB := qb hb
  clear hsm hb
  by_cases hlt : j < xs.length
  ·have hlt' : j < xs'.length := by have := HL.out; omega
   obtain ⟨b1, o1, hA1, hb1, nn, tt, hh, Ai1, li1, ci1, hin, c0, c1, c2, c3⟩ := (HX.out.now HB.out).at hlt
   obtain ⟨b2, o2, hA2, hb2, nn', tt', hh', Ai2, li2, ci2, hin', d0, d1, d2, d3⟩ := (HY.out.now HB.out).at hlt'
   have HC := qb (And.intro c0 (And.intro c1 (And.intro c2 c3)))
   have HD := qb (And.intro d0 (And.intro d1 (And.intro d2 d3)))
   have HCALL := qb (fun w2 (hb : Below wr.heap.size wr w2) => HE0.out xs[j] (List.getElem_mem hlt) xs'[j] _ _ w2 (hin.now hb) (hin'.now hb) (HF.out _ (List.getElem_mem hlt)) (HF'.out _ (List.getElem_mem hlt')))
   have HST := qb (Jw HSM.out hlt hlt')
   clear hin hin' c0 c1 c2 c3 d0 d1 d2 d3
   generalize Fd.same xs[j] xs'[j] = r at *
   subst hA1
   subst hA2
   go_wp2_with fail
   refine qU 9 (by kernel_rfl) (by kernel_rfl) (fun _ w => Below (World.heap wr).size wr w) KB (fun i => ([bIs (.slice (some ⟨b1, o1, none⟩) xs.length c), bIs (.int .i64 (j : Int)), bIs (.pointer (some ⟨b1, o1 + j * 4, none⟩)), bIs (fdV nn tt hh Ai1 li1 ci1), bIs (.slice (some ⟨b2, o2, none⟩) xs'.length c'), bIs (.int .i64 (j : Int)), bIs (.pointer (some ⟨b2, o2 + j * 4, none⟩)), bIs (fdV nn' tt' hh' Ai2 li2 ci2), bIs (.bool r)] : List TyB).getD i bAny) ?hWbB1 ?hkeepB1 ?hstepB1 ?hfinbB1
   case hkeepB1 =>
    refine qg (qg (qg (qg (qg (qg (qg (qg (qg qG ?_) ?_) ?_) ?_) ?_) ?_) ?_) ?_) ?_
    all_goals exact qj
   case hstepB1 =>
    refine qg (qg (qg (qg (qg (qg (qg (qg (qg qG ?_) ?_) ?_) ?_) ?_) ?_) ?_) ?_) ?_
    all_goals (intro o ho m' a w1 hm' hW hb hd K Q hK; obtain rfl := Option.some.inj ho)
    ·(have e0 : a.tmps[0]?.getD undef = (.slice (some ⟨b1, o1, none⟩) xs.length c) := (by rw [hb 0 (by decide +kernel)]; simp); go_simp; exact hK _ _ hW (VY _) rfl)
    ·(have e0 : a.tmps[5]?.getD undef = (.int .i64 (j : Int)) := (by rw [hb 5 (by decide +kernel)]; simp); go_simp; exact hK _ _ hW (VY _) rfl)
    ·(have e0 := qo (hd 0 (by kernel_rfl) 17 rfl); have e1 := qo (hd 1 (by kernel_rfl) 18 rfl); go_simp; exact hK _ _ hW (VY _) rfl)
    ·(have e0 := qo (hd 2 (by kernel_rfl) 19 rfl); have q0 := (hW.cell (p := ⟨b1, o1 + j * 4, none⟩) hb1).trans HC.out.1; have q1 := (hW.cell (p := ⟨b1, o1 + j * 4 + 1, none⟩) hb1).trans HC.out.2.1; have q2 := (hW.cell (p := ⟨b1, o1 + j * 4 + 2, none⟩) hb1).trans HC.out.2.2.1; have q3 := (hW.cell (p := ⟨b1, o1 + j * 4 + 3, none⟩) hb1).trans HC.out.2.2.2; go_simp; exact hK _ _ hW (VY _) rfl)
    ·(have e0 : a.tmps[1]?.getD undef = (.slice (some ⟨b2, o2, none⟩) xs'.length c') := (by rw [hb 1 (by decide +kernel)]; simp); go_simp; exact hK _ _ hW (VY _) rfl)
    ·(have e0 : a.tmps[5]?.getD undef = (.int .i64 (j : Int)) := (by rw [hb 5 (by decide +kernel)]; simp); go_simp; exact hK _ _ hW (VY _) rfl)
    ·(have e0 := qo (hd 4 (by kernel_rfl) 21 rfl); have e1 := qo (hd 5 (by kernel_rfl) 22 rfl); go_simp; exact hK _ _ hW (VY _) rfl)
    ·(have e0 := qo (hd 6 (by kernel_rfl) 23 rfl); have q0 := (hW.cell (p := ⟨b2, o2 + j * 4, none⟩) hb2).trans HD.out.1; have q1 := (hW.cell (p := ⟨b2, o2 + j * 4 + 1, none⟩) hb2).trans HD.out.2.1; have q2 := (hW.cell (p := ⟨b2, o2 + j * 4 + 2, none⟩) hb2).trans HD.out.2.2.1; have q3 := (hW.cell (p := ⟨b2, o2 + j * 4 + 3, none⟩) hb2).trans HD.out.2.2.2; go_simp; exact hK _ _ hW (VY _) rfl)
    (have e0 := qo (hd 3 (by kernel_rfl) 20 rfl); have e1 := qo (hd 7 (by kernel_rfl) 24 rfl); go_simp; refine (HCALL.out _ hW).mono ?_; rintro e w2 ⟨rfl, hb2⟩; exact hK _ _ (qa3 hW hb2) hb2 rfl)
   case hWbB1 => exact (Below.refl _ _).drew
   intro vs w2 hW hF
   simp only [qF, hdst, List.getElem?_cons_succ, List.getElem?_cons_zero, Option.bind, List.drop_succ_cons, List.drop_zero, Act.put]
   have h8 : vs 8 = .bool r := hF 8 (by omega)
   rw [h8]
   have HB4 := qb (qa3 HB.out hW)
   clear hW hF h8
   go_simp
   cases r
   ·have HE : Hid (Fd.sames xs xs' = false) := HST.out.symm
    go_wp2
    go_ret
    exact ⟨qw HE.out.symm, HB4.out⟩
   rw [Bool.true_and] at HST
   go_wp2
   go_roundw
   case rel => exact ⟨j + 1, by omega, by go_num, HST.out, HB4.out⟩
   case measure => simp [intOf]; omega
  have HE := qb (Jx HSM.out hlt HL.out)
  go_wp2
  go_ret
  exact ⟨qw HE.out, HB.out⟩
 have m5 : ((xs.length : Int) != (xs'.length : Int)) = true := by simp; omega
 have HE : Hid (Fd.sames xs xs' = false) := yq hl
 clear hl
 go_enter func52, ntmps52
 go_wp2
 go_ret
 exact ⟨qw HE.out.symm, Below.refl _ _⟩
theorem JB (a : Fd) : EqF a := by
 intro b u v w hu hv hfa hfb
 obtain ⟨n, t, h, is⟩ := a
 obtain ⟨n', t', h', is'⟩ := b
 obtain ⟨A, c, rfl, hr, hc⟩ := hu
 obtain ⟨A', c', rfl, hr', hc'⟩ := hv
 dsimp only at hr hr' hc hc' ⊢
 obtain ⟨ha1, ha2, ha3, ha4⟩ := hfa
 dsimp only at ha1 ha2 ha3 ha4
 obtain ⟨hB0, hX0, hY0⟩ := qE w (qC n t h A is.length c) (qC n' t' h' A' is'.length c') 62 62
 have HB0 := qb hB0
 have HEQ := qb (Kp is is' A A' c c' _ ((hr.keep (fun _ hp => hB0.cell hp) (fun _ h => Nat.lt_of_lt_of_le h hB0.size)).rd (fun _ h => h)) ((hr'.keep (fun _ hp => hB0.cell hp) (fun _ h => Nat.lt_of_lt_of_le h hB0.size)).rd (fun _ h => h)) ha4)
 have HS : Hid (Fd.same ⟨n, t, h, is⟩ ⟨n', t', h', is'⟩ = (n == n' && (t == t' && (h == h' && is == is')))) := rfl
 clear hr hr' hB0 ha3 hfb ha4 hX0 hY0 hc hc'
 cases e1 : (n == n')
 ·have m1 : (n != n') = true := by rw [bne, e1]; rfl
  have HE : Hid (Fd.same ⟨n, t, h, is⟩ ⟨n', t', h', is'⟩ = false) := by show _ = _; rw [HS.out, e1]; rfl
  go_enter func99, ntmps99
  go_wp2
  all_goals (go_ret; exact ⟨qw HE.out.symm, HB0.out⟩)
 cases e2 : (t == t')
 ·obtain rfl := beq_iff_eq.1 e1
  have m2 : (t != t') = true := by rw [bne, e2]; rfl
  have HE : Hid (Fd.same ⟨n, t, h, is⟩ ⟨n, t', h', is'⟩ = false) := by show _ = _; rw [HS.out, e1, e2]; rfl
  go_enter func99, ntmps99
  go_wp2
  all_goals (go_ret; exact ⟨qw HE.out.symm, HB0.out⟩)
 cases e3 : (h == h')
 ·obtain rfl := beq_iff_eq.1 e1
  obtain rfl := beq_iff_eq.1 e2
  have m3 : (h != h') = true := by rw [bne, e3]; rfl
  have HE : Hid (Fd.same ⟨n, t, h, is⟩ ⟨n, t, h', is'⟩ = false) := by show _ = _; rw [HS.out, e1, e2, e3]; rfl
  go_enter func99, ntmps99
  go_wp2
  all_goals (go_ret; exact ⟨qw HE.out.symm, HB0.out⟩)
 rw [e1, e2, e3, Bool.true_and, Bool.true_and, Bool.true_and] at HS
 obtain rfl := beq_iff_eq.1 e1
 obtain rfl := beq_iff_eq.1 e2
 obtain rfl := beq_iff_eq.1 e3
 clear e1 e2 e3
 have hzz : w.heap.size + 1 < ((w.alloc (.cells (qC n t h A is.length c) 62)).alloc (.cells (qC n t h A' is'.length c') 62)).heap.size := by simp
 generalize hr4 : (is == is') = r4 at HEQ HS
 clear hr4
 go_enter func99, ntmps99
 go_wp2_with fail
 refine HEQ.out.mono ?_
 rintro e w1 ⟨rfl, hb⟩
 have HB1 := qb (qa3 HB0.out hb)
 clear hb
 cases r4
 all_goals
  go_wp2
  go_ret
  exact ⟨qw HS.out.symm, HB1.out⟩
def SzF (x : Fd) : Prop := ∀ (u : Value) (left : Int) (w : World), InF w (All w) x u -> Fd.Fit x -> 0 <= left -> left <= 1048576 →
  Calls Tryz.prog 79 #[u, .int .i64 left] w fun e w' => e = .returned (.int .i64 (Yc left (Fd.size x))) /\ Below w.heap.size w w'
theorem XG (xs : List Fd) (hE : ∀ x ∈ xs, SzF x) (A : Option Addr) (c : Nat) (left : Int) (w : World) (hx : RdF w (All w) A xs) (hf : ∀ x ∈ xs, Fd.Fit x) (hn : xs.length <= maxLen) (h0 : 0 <= left) (h1 : left <= 1048576) :
  Calls Tryz.prog 31 #[.slice A xs.length c, .int .i64 left] w fun e w' => e = .returned (.int .i64 (Yc left (xs.length + Fd.sizes xs))) /\ Below w.heap.size w w' := by
 have HE0 := qb hE
 have HX := qb hx
 have HF := qb hf
 have hxl : xs.length <= 9223372036854775807 := hn
 clear hE hx hf hn
 by_cases hz : left < xs.length
 ·have HR : Hid (Yc left (xs.length + Fd.sizes xs) = -1) := by show _ = _; rw [zl (by omega)]
  have hz' : left - (xs.length : Int) < 0 := by omega
  go_enter func31, ntmps31
  go_wp2
  go_ret
  exact ⟨qA HR.out.symm, Below.refl _ _⟩
 have hz' : 0 <= left - (xs.length : Int) := by omega
 have HGO : Hid (∀ (j : Nat) (lf : Int), lf - Fd.sizes (xs.drop j) = left - xs.length - Fd.sizes xs -> True) := fun _ _ _ => trivial
 clear HGO
 go_enter func31, ntmps31
 go_wp2
 go_loopw [1, 5] (fun l i wr => ∃ (j : Nat) (lf : Int), j <= xs.length /\ i = .int .i64 j /\ l = .int .i64 lf /\ 0 <= lf /\ lf <= 1048576 /\ lf - Fd.sizes (xs.drop j) = left - xs.length - Fd.sizes xs /\ Below w.heap.size w wr) (fun _ i _ => xs.length - (intOf i).toNat)
 case atStart => exact ⟨0, _, Nat.zero_le _, rfl, rfl, by omega, by omega, by simp, Below.refl _ _⟩
 obtain ⟨j, lf, hj, rfl, rfl, hl0, hl1, hrest, hb⟩ := hrel
 have HRS := qb hrest
 have HB := qb hb
 clear hrest hb
 by_cases hlt : j < xs.length
 ·obtain ⟨b1, o1, hA1, hb1, nn, tt, hh, Ai1, li1, ci1, hin, c0, c1, c2, c3⟩ := (HX.out.now HB.out).at hlt
  have HCALL := qb (HE0.out xs[j] (List.getElem_mem hlt) _ lf wr hin (HF.out _ (List.getElem_mem hlt)) hl0 hl1)
  have HD := qb (Fd.sizes_drop xs j hlt)
  have HLE := qb (Fd.sizes_drop_le xs (j + 1))
  generalize Fd.size xs[j] = sz at *
  subst hA1
  by_cases ho : (sz : Int) <= lf
  ·rw [zL ho] at HCALL
   have hnn : 0 <= lf - (sz : Int) := by omega
   go_wp2_with fail
   refine HCALL.out.mono ?_
   rintro e w2 ⟨rfl, hb⟩
   have HB2 := qb (qa3 HB.out hb)
   clear hb
   go_wp2
   go_roundw
   case rel =>
    have := HD.out; have := HRS.out
    exact ⟨j + 1, _, by omega, by go_num, rfl, by omega, by omega, by omega, HB2.out⟩
   case measure => simp [intOf]; omega
  rw [zl ho] at HCALL
  have HR : Hid (Yc left (xs.length + Fd.sizes xs) = -1) := by
   show _ = _
   have := HD.out; have := HRS.out
   rw [zl (by omega)]
  go_wp2_with fail
  refine HCALL.out.mono ?_
  rintro e w2 ⟨rfl, hb⟩
  have HB2 := qb (qa3 HB.out hb)
  clear hb
  go_wp2
  go_ret
  exact ⟨qA HR.out.symm, HB2.out⟩
 have HR : Hid (Yc left (xs.length + Fd.sizes xs) = lf) := by
  show _ = _
  have h := HRS.out
  rw [zc xs j (by omega)] at h
  rw [show Fd.sizes [] = 0 from rfl] at h
  rw [zL (by omega)]
  omega
 go_wp2
 go_ret
 exact ⟨qA HR.out.symm, HB.out⟩
theorem XF (a : Fd) : SzF a := by
 intro u left w hu hfa h0 h1
 obtain ⟨n, t, h, is⟩ := a
 obtain ⟨A, c, rfl, hr, hc⟩ := hu
 dsimp only at hr hc ⊢
 obtain ⟨ha1, ha2, ha3, ha4⟩ := hfa
 dsimp only at ha1 ha2 ha3 ha4
 have hB0 := (Below.refl w.heap.size w).alloc (Nat.le_refl _) (.cells (qC n t h A is.length c) 105)
 have HB0 := qb hB0
 have htl : t.length <= 9223372036854775807 := ha2
 have hnl : n.length <= 9223372036854775807 := ha1
 have HS : Hid (Fd.size ⟨n, t, h, is⟩ = n.length + t.length + (is.length + qR is)) := rfl
 have hrd := (hr.keep (fun _ hp => hB0.cell hp) (fun _ h => Nat.lt_of_lt_of_le h hB0.size)).rd (B := (w.alloc (.cells (qC n t h A is.length c) 105)).heap.size) (fun _ h => h)
 have HNF := qb (fun (l : Int) (h0 : 0 <= l) (h1 : l <= 1048576) (hz : (is.length : Int) + qR is <= l) => Kj is A c l _ hrd h0 h1 ha4 hz)
 have HNO := qb (fun (l : Int) (h0 : 0 <= l) (h1 : l <= 1048576) (hz : l < (is.length : Int) + qR is) => Kk is A c l _ hrd ha3 h0 h1 ha4 hz)
 clear hr hrd hB0 ha3 ha4
 by_cases e1 : left < (n.length : Int)
 ·
  have HE : Hid (Yc left (Fd.size ⟨n, t, h, is⟩) = -1) := by show _ = _; rw [zl (by rw [HS.out]; omega)]
  have e1' : left - (n.length : Int) < 0 := by omega
  go_enter func79, ntmps79
  go_wp2
  go_ret
  exact ⟨qA HE.out.symm, HB0.out⟩
 have e1' : 0 <= left - (n.length : Int) := by omega
 by_cases e2 : left - (n.length : Int) < (t.length : Int)
 ·
  have HE : Hid (Yc left (Fd.size ⟨n, t, h, is⟩) = -1) := by show _ = _; rw [zl (by rw [HS.out]; omega)]
  have e2' : left - (n.length : Int) - (t.length : Int) < 0 := by omega
  go_enter func79, ntmps79
  go_wp2
  go_ret
  exact ⟨qA HE.out.symm, HB0.out⟩
 have e2' : 0 <= left - (n.length : Int) - (t.length : Int) := by omega
 by_cases e3 : (is.length : Int) + qR is <= left - (n.length : Int) - (t.length : Int)
 case neg =>
  have HE : Hid (Yc left (Fd.size ⟨n, t, h, is⟩) = -1) := by show _ = _; rw [zl (by rw [HS.out]; omega)]
  have HN := qb (HNO.out (left - (n.length : Int) - (t.length : Int)) e2' (by omega) (by omega))
  go_enter func79, ntmps79
  go_wp2_with fail
  refine HN.out.mono ?_
  rintro e w1 ⟨rfl, rfl⟩
  go_wp2
  go_ret
  exact ⟨qA HE.out.symm, HB0.out⟩
 have HE : Hid (Yc left (Fd.size ⟨n, t, h, is⟩) = left - (n.length : Int) - (t.length : Int) - (is.length : Int) - (qR is : Int)) := by show _ = _; rw [zL (by rw [HS.out]; omega), HS.out]; omega
 have HN := qb (HNF.out (left - (n.length : Int) - (t.length : Int)) e2' (by omega) e3)
 have e4 : 0 <= left - (n.length : Int) - (t.length : Int) - (is.length : Int) - (qR is : Int) := by omega
 clear e3
 go_enter func79, ntmps79
 go_wp2_with fail
 refine HN.out.mono ?_
 rintro e w1 ⟨rfl, rfl⟩
 go_wp2
 go_ret
 exact ⟨qA HE.out.symm, HB0.out⟩
theorem XE (d : Dk) (u : Value) (left : Int) (w : World) (hu : InD w (All w) d u) (hf : Dk.Fit d) (h0 : 0 <= left) (h1 : left <= 1048576) :
  Calls Tryz.prog 8 #[u, .int .i64 left] w fun e w' => e = .returned (.int .i64 (Yc left (Dk.size d))) /\ Below w.heap.size w w' := by
 obtain ⟨ps, fs⟩ := d
 obtain ⟨Ap, cp, Ad, cd, rfl, g1, g2, g3, g4⟩ := hu
 obtain ⟨f1, f2, f3, f4⟩ := hf
 dsimp only at g1 g2 g3 g4 f1 f2 f3 f4 ⊢
 have hB0 := (Below.refl w.heap.size w).alloc (Nat.le_refl _) (.cells (qx Ap ps.length cp Ad fs.length cd) 25)
 have HB0 := qb hB0
 have HX0 := qb (heap_alloc_new w (.cells (qx Ap ps.length cp Ad fs.length cd) 25))
 have HP := qb (kT ps (fun x _ => XH x) Ap cp left _ (g1.now hB0) f1 f2 h0 h1)
 have HF := qb (fun w2 (hb : Below _ _ w2) (l : Int) (h0 : 0 <= l) (h1 : l <= 1048576) => XG fs (fun x _ => XF x) Ad cd l w2 ((g3.now hB0).now hb) f3 f4 h0 h1)
 have HS : Hid (Dk.size ⟨ps, fs⟩ = (ps.length + Pt.sizes ps) + (fs.length + Fd.sizes fs)) := rfl
 have hzz : w.heap.size < (w.alloc (.cells (qx Ap ps.length cp Ad fs.length cd) 25)).heap.size := by simp
 clear g1 g2 g3 g4 f1 f2 f3 f4 hB0
 generalize (ps.length + Pt.sizes ps) = m1 at *
 generalize (fs.length + Fd.sizes fs) = m2 at *
 by_cases e1 : (m1 : Int) <= left
 case neg =>
  rw [zl e1] at HP
  have HE : Hid (Yc left (Dk.size ⟨ps, fs⟩) = -1) := by show _ = _; rw [zl (by rw [HS.out]; omega)]
  go_enter func8, ntmps8
  go_wp2_with fail
  refine HP.out.mono ?_
  rintro e w1 ⟨rfl, hb⟩
  have HB1 := qb (qa3 HB0.out hb)
  clear hb
  go_wp2
  go_ret
  exact ⟨qA HE.out.symm, HB1.out⟩
 rw [zL e1] at HP
 have e1' : 0 <= left - (m1 : Int) := by omega
 have HG := qb (fun w2 (hb : Below _ _ w2) => HF.out w2 hb (left - (m1 : Int)) e1' (by omega))
 by_cases e2 : (m2 : Int) <= left - (m1 : Int)
 ·have HE : Hid (Yc left (Dk.size ⟨ps, fs⟩) = left - (m1 : Int) - (m2 : Int)) := by show _ = _; rw [zL (by rw [HS.out]; omega), HS.out]; omega
  rw [zL e2] at HG
  have e2' : 0 <= left - (m1 : Int) - (m2 : Int) := by omega
  clear e1 e2
  go_enter func8, ntmps8
  go_wp2_with fail
  refine HP.out.mono ?_
  rintro e w1 ⟨rfl, hb⟩
  have HB1 := qb (qa3 HB0.out hb)
  have HG1 := qb (HG.out w1 hb)
  obtain ⟨⟨y0, y1⟩, -⟩ := zX (qi HX0.out hb)
  clear hb
  go_wp2_with fail
  refine HG1.out.mono ?_
  rintro e w2 ⟨rfl, hb⟩
  have HB2 := qb (qa3 HB1.out hb)
  clear hb
  go_wp2
  go_ret
  exact ⟨qA HE.out.symm, HB2.out⟩
 have HE : Hid (Yc left (Dk.size ⟨ps, fs⟩) = -1) := by show _ = _; rw [zl (by rw [HS.out]; omega)]
 rw [zl e2] at HG
 clear e1 e2
 go_enter func8, ntmps8
 go_wp2_with fail
 refine HP.out.mono ?_
 rintro e w1 ⟨rfl, hb⟩
 have HB1 := qb (qa3 HB0.out hb)
 have HG1 := qb (HG.out w1 hb)
 obtain ⟨⟨y0, y1⟩, -⟩ := zX (qi HX0.out hb)
 clear hb
 go_wp2_with fail
 refine HG1.out.mono ?_
 rintro e w2 ⟨rfl, hb⟩
 have HB2 := qb (qa3 HB1.out hb)
 clear hb
 go_wp2
 go_ret
 exact ⟨qA HE.out.symm, HB2.out⟩
theorem Zw (d : Dk) (u v : Value) (w : World) (hu : InD w (All w) d u) (hv : InD w (All w) d v) (hf : Dk.Fit d) :
  Calls Tryz.prog 12 #[u, v] w fun e w' => e = .returned (.bool true) /\ Below w.heap.size w w' := by
 obtain ⟨ps, fs⟩ := d
 obtain ⟨Ap, cp, Ad, cd, rfl, g1, g2, g3, g4⟩ := hu
 obtain ⟨Ap', cp', Ad', cd', rfl, g1', g2', g3', g4'⟩ := hv
 obtain ⟨f1, f2, f3, f4⟩ := hf
 dsimp only at g1 g2 g3 g4 g1' g2' g3' g4' f1 f2 f3 f4 ⊢
 obtain ⟨hB0, hX0, hY0⟩ := qE w (qx Ap ps.length cp Ad fs.length cd) (qx Ap' ps.length cp' Ad' fs.length cd') 30 30
 have HB0 := qb hB0
 have HX0 := qb hX0
 have HY0 := qb hY0
 have HP := qb (kA ps ps (fun x _ => JD x) Ap Ap' cp cp' _ (g1.now hB0) (g1'.now hB0) f1 f1 f2)
 have HF := qb (fun w2 (hb : Below _ _ w2) => JC fs fs (fun x _ => JB x) Ad Ad' cd cd' w2 ((g3.now hB0).now hb) ((g3'.now hB0).now hb) f3 f3 f4)
 rw [Pt.sames_self] at HP
 rw [Fd.sames_self] at HF
 have hzz : w.heap.size + 1 < ((w.alloc (.cells (qx Ap ps.length cp Ad fs.length cd) 30)).alloc (.cells (qx Ap' ps.length cp' Ad' fs.length cd') 30)).heap.size := by simp
 clear g1 g2 g3 g4 g1' g2' g3' g4' f1 f2 f3 f4 hB0 hX0 hY0
 go_enter func12, ntmps12
 go_wp2_with fail
 refine HP.out.mono ?_
 rintro e w1 ⟨rfl, hb⟩
 have HB1 := qb (qa3 HB0.out hb)
 have HF1 := qb (HF.out w1 hb)
 obtain ⟨⟨y0, y1⟩, -⟩ := zX (qi HX0.out hb)
 obtain ⟨⟨z0, z1⟩, -⟩ := zX (qi HY0.out hb)
 clear hb
 go_wp2_with fail
 refine HF1.out.mono ?_
 rintro e w2 ⟨rfl, hb⟩
 have HB2 := qb (qa3 HB1.out hb)
 clear hb
 go_wp2
 go_ret
 exact ⟨rfl, HB2.out⟩
end Go.Proofs.YtmboieajfdkllaaGreat
