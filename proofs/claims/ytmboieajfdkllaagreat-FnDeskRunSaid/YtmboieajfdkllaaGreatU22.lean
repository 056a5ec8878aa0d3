import Derived.Test.YtmboieajfdkllaaGreatU08
import Derived.Test.YtmboieajfdkllaaGreatU21
import Derived.Test.YtmboieajfdkllaaGreatU20
set_option maxHeartbeats 16000000
set_option maxRecDepth 100000
open Go.Proofs.Tryz
namespace Go.Proofs.YtmboieajfdkllaaGreat
open Go.RowKit Go.Deep
def HoleC (E : Pt.EscF) (f : FuncId) : Prop := ∀ (B b : Nat) (nm t : Tx) (h : Bool) (A : Option Addr) (l c : Nat) (m : Int) (tt a : Tx) (z : Bool) (acc : Tx) (w : World), qT t = true -> St.Fit ⟨m, tt, a, z⟩ -> BF B b acc w -> acc.length <= 1000000000000 -> B <= w.heap.size →
  Calls Tryz.prog f #[fdV nm t h A l c, stV m tt a z, .pointer (some ⟨b, 0, none⟩)] w fun e w' => e = .returned (.tuple #[]) /\ BF B b (acc ++ E ⟨m, tt, a, z⟩ t) w' /\ KO B b w w'
def TextC (f : FuncId) : Prop := ∀ (B b : Nat) (t acc : Tx) (w : World), t.length <= 1000 -> BF B b acc w -> acc.length <= 1000000000000 -> B <= w.heap.size →
  Calls Tryz.prog f #[sv t, .pointer (some ⟨b, 0, none⟩)] w fun e w' => e = .returned (.tuple #[]) /\ BF B b (acc ++ t) w' /\ KO B b w w'
theorem JK : TextC 92 := by
 intro B b t acc w ht hb hl hB
 have HW := qb (kl B b acc t w hb (by omega) hB)
 go_enter func92, ntmps92
 go_wp2_with fail
 refine HW.out.mono ?_
 rintro e w1 ⟨⟨v, rfl⟩, hbf, hko⟩
 go_wp2
 go_end0
 exact ⟨rfl, hbf, hko⟩
theorem JL : TextC 75 := by
 intro B b t acc w ht hb hl hB
 have HW := qb (kl B b acc t w hb (by omega) hB)
 go_enter func75, ntmps75
 go_wp2_with fail
 refine HW.out.mono ?_
 rintro e w1 ⟨⟨v, rfl⟩, hbf, hko⟩
 go_wp2
 go_end0
 exact ⟨rfl, hbf, hko⟩
theorem JM : HoleC Pt.plainE 91 := by
 intro B b nm t h A l c m tt a z acc w hv hf hb hl hB
 obtain ⟨hB2, g0, g1⟩ : Below w.heap.size w ((w.alloc (.cells (qC nm t h A l c) 62)).alloc (.cells (ql m tt a z) 90)) /\ ((w.alloc (.cells (qC nm t h A l c) 62)).alloc (.cells (ql m tt a z) 90)).heap[w.heap.size]? = some (.cells (qC nm t h A l c) 62 (0, 0)) /\ ((w.alloc (.cells (qC nm t h A l c) 62)).alloc (.cells (ql m tt a z) 90)).heap[w.heap.size + 1]? = some (.cells (ql m tt a z) 90 (0, 0)) := qE w _ _ _ _
 have HB2 := qb hB2
 have HG0 := qb g0
 have HG1 := qb g1
 have HBF := qb (hb.keep hB2)
 have hz0 : w.heap.size + 1 < ((w.alloc (.cells (qC nm t h A l c) 62)).alloc (.cells (ql m tt a z) 90)).heap.size := by simp
 have hBW : B <= ((w.alloc (.cells (qC nm t h A l c) 62)).alloc (.cells (ql m tt a z) 90)).heap.size := by simp; omega
 have hvl := jE hv
 have HVP := qb (ZQ hv)
 have HF := qb hf
 have HKO := qb (KO.of (b := b) hB2 hB)
 clear hB2 g0 g1 hb hv hf
 go_enter func91, ntmps91
 go_upto_region 1 with fail
 generalize (w.alloc (.cells (qC nm t h A l c) 62)).alloc (.cells (ql m tt a z) 90) = w0 at *
 obtain ⟨⟨y0, y1, y2, y3⟩, -⟩ := qh HG0.out
 have HW := qb (kl B b acc t w0 HBF.out (by omega) hBW)
 go_wp2_with fail
 refine HW.out.mono ?_
 rintro e w1 ⟨⟨v, rfl⟩, hbf, hko⟩
 go_wp2
 go_end0
 exact ⟨rfl, hbf, HKO.out.trans hko⟩
theorem JN : HoleC Pt.safeE 71 := by
 intro B b nm t h A l c m tt a z acc w hv hf hb hl hB
 obtain ⟨hB2, g0, g1⟩ : Below w.heap.size w ((w.alloc (.cells (qC nm t h A l c) 62)).alloc (.cells (ql m tt a z) 90)) /\ ((w.alloc (.cells (qC nm t h A l c) 62)).alloc (.cells (ql m tt a z) 90)).heap[w.heap.size]? = some (.cells (qC nm t h A l c) 62 (0, 0)) /\ ((w.alloc (.cells (qC nm t h A l c) 62)).alloc (.cells (ql m tt a z) 90)).heap[w.heap.size + 1]? = some (.cells (ql m tt a z) 90 (0, 0)) := qE w _ _ _ _
 have HB2 := qb hB2
 have HG0 := qb g0
 have HG1 := qb g1
 have HBF := qb (hb.keep hB2)
 have hz0 : w.heap.size + 1 < ((w.alloc (.cells (qC nm t h A l c) 62)).alloc (.cells (ql m tt a z) 90)).heap.size := by simp
 have hBW : B <= ((w.alloc (.cells (qC nm t h A l c) 62)).alloc (.cells (ql m tt a z) 90)).heap.size := by simp; omega
 have hvl := jE hv
 have HVP := qb (ZQ hv)
 have HF := qb hf
 have HKO := qb (KO.of (b := b) hB2 hB)
 clear hB2 g0 g1 hb hv hf
 go_enter func71, ntmps71
 go_upto_region 1 with fail
 generalize (w.alloc (.cells (qC nm t h A l c) 62)).alloc (.cells (ql m tt a z) 90) = w0 at *
 obtain ⟨⟨y0, y1, y2, y3⟩, -⟩ := qh HG0.out
 have HPL := qb (fun w5 (hb : Below w0.heap.size w0 w5) => vi m tt a z w5 (by have := HF.out.1; dsimp only at this; omega) (by have := HF.out.2; dsimp only at this; omega))
 have HES := qb (fun w5 (hb : Below w0.heap.size w0 w5) => XC (St.place ⟨m, tt, a, z⟩) t (by omega) HVP.out w5)
 obtain ⟨pl, hpl⟩ : ∃ pl, pl = St.place ⟨m, tt, a, z⟩ := ⟨_, rfl⟩
 obtain ⟨X, hX⟩ : ∃ X, X = zP pl t := ⟨_, rfl⟩
 have HX9 : Hid (Pt.safeE ⟨m, tt, a, z⟩ t = X) := by show _ = _; unfold Pt.safeE; rw [<- hpl, hX]
 have HXL : Hid (X.length <= 800) := by
  show _ <= _
  have := vN pl t
  rw [hX]
  omega
 rw [<- hpl] at HPL HES
 rw [<- hX] at HES
 clear hpl hX
 have HY1 := qb y1
 have hz1 : w.heap.size < w0.heap.size := by omega
 have hzs : w.heap.size + 1 < w0.heap.size := hz0
 have hxl := HXL.out
 clear y0 y1 y2 y3
 go_wp2_with fail
 refine qU 5 (by kernel_rfl) (by kernel_rfl) (fun _ w => Below (World.heap w0).size w0 w) KB (fun i => ([bIs (stV m tt a z), bIs (.int .i64 pl), bIs (.pointer (some ⟨w.heap.size, 1, none⟩)), bIs (sv t), bIs (sv X)] : List TyB).getD i bAny) ?hWbB1 ?hkeepB1 ?hstepB1 ?hfinbB1
 case hkeepB1 =>
  refine qg (qg (qg (qg (qg qG ?_) ?_) ?_) ?_) ?_
  all_goals exact qj
 case hstepB1 =>
  refine qg (qg (qg (qg (qg qG ?_) ?_) ?_) ?_) ?_
  all_goals (intro o ho m' a w1 hm' hW hb hd K Q hK; obtain rfl := Option.some.inj ho)
  ·(have e0 : a.tmps[4]?.getD undef = .pointer (some ⟨w.heap.size + 1, 0, none⟩) := (by rw [hb 4 (by decide +kernel)]; simp); have hbl := (hW.block _ hzs).trans HG1.out; have q0 := cell_of_row w1 _ 0 _ _ _ hbl; have q1 := cell_of_row w1 _ 1 _ _ _ hbl; have q2 := cell_of_row w1 _ 2 _ _ _ hbl; have q3 := cell_of_row w1 _ 3 _ _ _ hbl; go_simp; exact hK _ _ hW (VY _) rfl)
  ·(have e0 := qo (hd 0 (by kernel_rfl) 5 rfl); go_simp; refine (HPL.out _ hW).mono ?_; rintro e w2 ⟨rfl, hb2⟩; exact hK _ _ (qa3 hW hb2) hb2 rfl)
  ·(have e0 : a.tmps[3]?.getD undef = .pointer (some ⟨w.heap.size, 0, none⟩) := (by rw [hb 3 (by decide +kernel)]; simp); go_simp; exact hK _ _ hW (VY _) rfl)
  ·(have e0 := qo (hd 2 (by kernel_rfl) 7 rfl); have hcw := (hW.cell (p := ⟨w.heap.size, 1, none⟩) hz1).trans HY1.out; go_simp; exact hK _ _ hW (VY _) rfl)
  (have e0 := qo (hd 1 (by kernel_rfl) 6 rfl); have e1 := qo (hd 3 (by kernel_rfl) 8 rfl); go_simp; refine (HES.out _ hW).mono ?_; rintro e w2 ⟨rfl, hb2⟩; exact hK _ _ (qa3 hW hb2) hb2 rfl)
 case hWbB1 => exact (Below.refl _ _).drew
 intro vs9 w4 hW hF9
 simp only [qF, hdst, List.getElem?_cons_succ, List.getElem?_cons_zero, Option.bind, List.drop_succ_cons, List.drop_zero, Act.put]
 have h9 : vs9 4 = sv X := hF9 4 (by omega)
 rw [h9]
 have HW := qb (kl B b acc X w4 (HBF.out.keep hW) (by omega) (Nat.le_trans hBW hW.size))
 have HKO4 := qb (HKO.out.trans (KO.of (b := b) hW hBW))
 clear hF9 h9 hW HPL HES
 go_simp
 go_wp2_with fail
 refine HW.out.mono ?_
 rintro e w1 ⟨⟨v, rfl⟩, hbf, hko⟩
 go_wp2
 go_end0
 exact ⟨rfl, by rw [HX9.out]; exact hbf, HKO4.out.trans hko⟩
def FwC (E : Pt.EscF) (fh ft : FuncId) (d : Nat) : Prop := ∀ (B b : Nat) (xs : List Pt) (p : Bool) (m : Int) (t a : Tx) (z : Bool) (Ap : Option Addr) (cp : Nat) (fs : List Fd) (Ad : Option Addr) (cd : Nat) (acc : Tx) (w : World), Pt.oks xs d p = true -> RdP w (fun k => k < B) Ap xs -> RdF w (Sb B b w) Ad fs -> xs.length + Pt.sizes xs <= 1048576 -> Fd.Goods fs -> fs.length + d <= 20 -> St.Fit ⟨m, t, a, z⟩ -> BF B b acc w -> B <= w.heap.size -> acc.length + (Pt.fl E xs fs ⟨m, t, a, z⟩).1.length <= 900000000000 →
  Calls Tryz.prog 70 #[.slice Ap xs.length cp, .slice Ad fs.length cd, stV m t a z, .func (.func fh) #[] #[.pointer (some ⟨b, 0, none⟩)], .func (.func ft) #[] #[.pointer (some ⟨b, 0, none⟩)]] w fun e w' => e = .returned (St.v (Pt.fl E xs fs ⟨m, t, a, z⟩).2) /\ BF B b (acc ++ (Pt.fl E xs fs ⟨m, t, a, z⟩).1) w' /\ KO B b w w'
theorem Sb.below {B b k : Nat} {w w' : World} (h : Sb B b w k) (hb : Below w.heap.size w w') : Sb B b w' k := by
 have hlt := h.lt
 rcases h with h | ⟨cs, T, fz, h1, h2, h3⟩
 ·exact .inl ⟨h.1, Nat.lt_of_lt_of_le h.2 hb.size⟩
 exact .inr ⟨cs, T, fz, h1, h2, (hb.block k hlt).trans h3⟩
theorem RdF.sb {B b : Nat} {w w' : World} {A : Option Addr} {fs : List Fd} (h : RdF w (Sb B b w) A fs) (hb : Below w.heap.size w w') : RdF w' (Sb B b w') A fs :=
 h.keep (fun _ hp => hb.cell hp.lt) (fun _ hp => hp.below hb)
def bSbF (B b : Nat) (xs : List Fd) : TyB := fun w v => ∃ A c, v = .slice A xs.length c /\ RdF w (Sb B b w) A xs
theorem yw {B b : Nat} {xs : List Fd} : ∀ w w' v, KB w w' -> bSbF B b xs w v -> bSbF B b xs w' v := fun _ _ _ hk ⟨A, c, e, h⟩ => ⟨A, c, e, h.sb hk⟩
theorem yx {B b : Nat} {w : World} {xs : List Fd} {e : Ending} {w' : World} (h : NewW w (Sb B b w) xs e w') (hb : b < w.heap.size) : ∃ A c, e = .returned (.slice A xs.length c) /\ RdF w' (Sb B b w') A xs /\ Below w.heap.size w w' := by
 obtain ⟨A, c, rs, he, ho, hel, hbl⟩ := h
 refine ⟨A, c, by rw [he, hel.1], (hel.keep (fun _ _ => rfl) (fun b h => h.below hbl) : ElsF w' (Sb B b w') rs xs).rdF ho (fun g h => ?_), hbl⟩
 obtain ⟨h1, cs, h2⟩ := Vx ho h
 exact .inr ⟨cs, _, _, by omega, by decide, h2⟩
theorem yy {B b base c : Nat} {w : World} {A : Option Addr} {is : List Tx} (h : OwnS w base A c is) (hb : b < base) : RdIn w (Sb B b w) A (qS is) := fun hne => by
 have hl : 0 < is.length := by
  rcases Nat.eq_zero_or_pos is.length with h0 | h0
  ·exact absurd (by rw [List.eq_nil_of_length_eq_zero h0]; rfl) hne
  exact h0
 obtain ⟨g, hA, h1, h2⟩ := zJ h hl
 obtain ⟨b', o, e, _, hc⟩ := yi h hne
 subst hA
 injection e with e
 injection e with e1 e2
 subst e1
 subst e2
 obtain ⟨h3, cs, h4⟩ := Vw h (g := g) rfl
 exact ⟨g, 0, rfl, .inr ⟨cs, _, _, by omega, by decide, h4⟩, hc⟩
theorem zz {B b k : Nat} {w w' : World} {cs : Array Value} {T : TypeId} {fz : Nat × Nat} (h : w.heap[k]? = some (.cells cs T fz)) (hk : KO B b w w') (hb : k ≠ b) (hT : T ≠ 5 := by decide) : w'.heap[k]? = some (.cells cs T fz) := hk.bx h hb hT
theorem yz (d : Nat) (ih : ∀ d', d = d' + 1 -> FwC Pt.plainE 91 92 d') : FwC Pt.plainE 91 92 d := by
 intro B b xs p m t a z Ap cp fs Ad cd acc w ho hx hfx hs hg hn hft hbf hB0 hacc
 have HO := qb (jY ho)
 have HX := qb hx
 have HF := qb hfx
 have HG := qb hg
 have IH := qb ih
 have HSZ := qb hs
 have HBF0 := qb hbf
 have hb00 := hbf.lt
 have HFT := qb hft
 have hxl : xs.length <= 1048576 := by omega
 obtain ⟨ACC, hAC⟩ : ∃ X, X = acc ++ (Pt.fl Pt.plainE xs fs ⟨m, t, a, z⟩).1 := ⟨_, rfl⟩
 obtain ⟨sf, hsf⟩ : ∃ X, X = (Pt.fl Pt.plainE xs fs ⟨m, t, a, z⟩).2 := ⟨_, rfl⟩
 have HTL : Hid (ACC.length <= 900000000000) := by show _ <= _; rw [hAC, List.length_append]; exact hacc
 rw [<- hAC, <- hsf]
 have HA0 := qb hAC.symm
 have HS0 := qb hsf.symm
 clear ho hx hfx hg ih hs hAC hsf hacc hbf hft
 obtain ⟨hB, g0, g1⟩ := qE w (ql m t a z) qH 90 90
 have HB0 := qb hB
 have HG0 := qb g0
 have HG1 := qb g1
 clear hB g0 g1
 go_enter func70, ntmps70
 go_upto_region 2 with fail
 generalize (w.alloc (.cells (ql m t a z) 90)).alloc (.cells qH 90) = w0 at *
 go_wp2
 go_loopw [19] (fun i wr => ∃ (j : Nat) (s : St) (ac : Tx), j <= xs.length /\ i = .int .i64 j /\ wr.heap[w.heap.size]? = some (.cells (ql s.mode s.tag s.attr s.seen) 90 (0, 0)) /\ wr.heap[w.heap.size + 1]? = some (.cells qH 90 (0, 0)) /\ St.Fit s /\ BF B b ac wr /\ ac ++ (Pt.fl Pt.plainE (xs.drop j) fs s).1 = ACC /\ (Pt.fl Pt.plainE (xs.drop j) fs s).2 = sf /\ KO B b w wr) (fun i _ => xs.length - (intOf i).toNat)
 case atStart => exact ⟨0, ⟨m, t, a, z⟩, acc, Nat.zero_le _, rfl, HG0.out, HG1.out, HFT.out, HBF0.out.keep HB0.out, by rw [List.drop_zero]; exact HA0.out, by rw [List.drop_zero]; exact HS0.out, KO.of HB0.out hB0⟩
 obtain ⟨j, ⟨cm, ct, ca, cz⟩, ac, hj, rfl, h0, h1, hft, hbf, hT1, hT2, hko⟩ := hrel
 dsimp only at h0 h1
 have HK := qb hko
 have H0 := qb h0
 have H1 := qb h1
 have HBF := qb hbf
 have HSF := qb hft
 have HT1 := qb hT1
 have HT2 := qb hT2
 have hz1 : w.heap.size + 1 < wr.heap.size := lt_of_block h1
 have hBr : B <= wr.heap.size := Nat.le_trans hB0 hko.1.size
 clear h0 h1 hft hbf hT1 hT2 hko
 by_cases hlt : j < xs.length
 case neg =>
  have hfe := Pt.fl_end (E := Pt.plainE) hlt fs ⟨cm, ct, ca, cz⟩
  have HE1 : Hid (ac = ACC) := by show _ = _; rw [<- HT1.out, hfe, List.append_nil]
  have HE2 : Hid (sf = ⟨cm, ct, ca, cz⟩) := by show _ = _; rw [<- HT2.out, hfe]
  have HB4 := qb (HBF.out.set4 H1.out (by decide) (by decide) (.int .i64 cm) (sv ct) (sv ca) (.bool cz))
  obtain ⟨⟨y0, y1, y2, y3⟩, p0, p1, p2, p3⟩ := qh H0.out
  obtain ⟨⟨z0, z1, z2, z3⟩, x0, x1, x2, x3⟩ := qh H1.out
  clear hfe
  go_wp2
  exact bodyPost_ret (qp (m := cm) (t := ct) (a := ca) (z := cz) results70 rfl (put4 H1.out)) rfl ⟨by rw [HE2.out], by rw [<- HE1.out]; exact HB4.out, HK.out.set4 hB0 (by omega) _ _ _ _⟩
 obtain ⟨b1, o1, rfl, hb1, kd, tt, nn, us, vs, Ap1, cp1, Ao, co, hxj, k1, k2, k3, k4, c0, c1, c2, c3, c4⟩ := (HX.out.ko HK.out).at2 hlt
 have hb1r : b1 < wr.heap.size := Nat.lt_of_lt_of_le hb1 hBr
 have hmem : Pt.mk kd tt nn us vs ∈ xs := by rw [<- hxj]; exact List.getElem_mem hlt
 have hok := HO.out _ hmem
 have hsm := Pt.size_mem hmem
 have hst := Pt.fl_step (E := Pt.plainE) hlt fs ⟨cm, ct, ca, cz⟩
 rw [hxj] at hst
 have ht1 := HT1.out
 have ht2 := HT2.out
 rw [hst] at ht1 ht2
 dsimp only at ht1 ht2
 rw [<- List.append_assoc] at ht1
 have hLE : ac.length + (Pt.fl1 Pt.plainE (.mk kd tt nn us vs) fs ⟨cm, ct, ca, cz⟩).1.length <= 900000000000 := by
  have := HTL.out
  rw [<- ht1, List.length_append, List.length_append] at this
  omega
 have HN1 := qb ht1
 have HN2 := qb ht2
 have HFN := qb (Pt.fit_fl1 Pt.plainE (.mk kd tt nn us vs) fs ⟨cm, ct, ca, cz⟩ HSF.out)
 clear hst ht1 ht2 hmem hxj HT1 HT2
 simp only [Pt.size] at hsm
 rw [Pt.ok] at hok
 have HBX := qb (heap_alloc_new wr (.cells (qD kd tt nn Ap1 us.length cp1 Ao vs.length co) 115))
 have hBA := (Below.refl wr.heap.size wr).alloc (Nat.le_refl _) (.cells (qD kd tt nn Ap1 us.length cp1 Ao vs.length co) 115)
 have HBA := qb hBA
 have hzb : wr.heap.size < (wr.alloc (.cells (qD kd tt nn Ap1 us.length cp1 Ao vs.length co) 115)).heap.size := by simp
 have HKb := qb (HK.out.trans (KO.of (b := b) hBA hBr))
 have HU := qb k3
 have HV := qb k4
 have HFD := qb (Qb fs nn Ad cd _ ((HF.out.ko HKb.out).all) (by omega) (fun f hf => by have := (Fd.good_items (HG.out f hf)).1; omega))
 clear k1 k2 k3 k4 hBA
 go_upto_region 4 with fail
 generalize wr.alloc (.cells (qD kd tt nn Ap1 us.length cp1 Ao vs.length co) 115) = wb at *
 obtain ⟨⟨f0, f1, f2, f3, f4⟩, -⟩ := qI HBX.out
 clear c0 c1 c2 c3 c4
 go_wp2_with fail
 refine HFD.out.mono ?_
 rintro e w2 ⟨⟨nm, Ai, ci, vb, rfl, hos⟩, hb⟩
 have hbx := hb.alloc hb.size (.cells (qC nm (Fd.get fs nn).text (Fd.get fs nn).holds Ai (Fd.get fs nn).items.length ci) 62)
 have HBX2 := qb hbx
 have HOS := qb (kC hos ((Below.refl w2.heap.size w2).alloc (Nat.le_refl _) (.cells (qC nm (Fd.get fs nn).text (Fd.get fs nn).holds Ai (Fd.get fs nn).items.length ci) 62)))
 have HQF := qb (heap_alloc_new w2 (.cells (qC nm (Fd.get fs nn).text (Fd.get fs nn).holds Ai (Fd.get fs nn).items.length ci) 62))
 have HGD := qb (Fd.good_get HG.out nn)
 have hz5 := hb.size
 have hz6 : w2.heap.size < (w2.alloc (.cells (qC nm (Fd.get fs nn).text (Fd.get fs nn).holds Ai (Fd.get fs nn).items.length ci) 62)).heap.size := by simp
 generalize hff : Fd.get fs nn = ff at *
 obtain ⟨fn, ft, fh, is⟩ := ff
 dsimp only at HBX2 HOS HQF hz6 hbx ⊢
 clear hb hos hbx f0 f1 f2 f3 f4
 go_upto_region 5 with fail
 generalize w2.alloc (.cells (qC nm ft fh Ai is.length ci) 62) = wc at *
 have HPC := qb (qi HBX.out HBX2.out)
 obtain ⟨⟨f0, f1, f2, f3, f4⟩, -⟩ := qI HPC.out
 obtain ⟨⟨g0, g1, g2, g3⟩, -⟩ := qh HQF.out
 have HBrc := qb (qa3 HBA.out HBX2.out)
 have hbr := HBF.out.lt
 have H0c := qb (qi H0.out HBrc.out)
 have H1c := qb (qi H1.out HBrc.out)
 have HBc := qb (HBF.out.keep HBrc.out)
 have HKrc := qb (KO.of (b := b) HBrc.out hBr)
 have HKc := qb (HK.out.trans HKrc.out)
 have hBc : B <= wc.heap.size := Nat.le_trans hBr HBrc.out.size
 have hzc : wr.heap.size < wc.heap.size := Nat.lt_of_lt_of_le hzb HBX2.out.size
 have HFc := qb (HF.out.ko HKc.out)
 have HRI := qb (yy (B := B) HOS.out (b := b) (by omega))
 have HUc := qb (HU.out.ko HKrc.out)
 have HVc := qb (HV.out.ko HKrc.out)
 have HFG : Hid (Fd.good ⟨fn, ft, fh, is⟩ = true) := HGD.out
 rw [Pt.fl1] at HN1 HN2 HFN hLE
 rw [hff] at HN1 HN2 HFN hLE
 dsimp only at HN1 HN2 HFN hLE
 obtain ⟨⟨y0, y1, y2, y3⟩, p0, p1, p2, p3⟩ := qh H0c.out
 clear HGD HFD HU HV HBF H0 H1
 by_cases e1 : kd = 1
 ·subst e1
  rw [if_pos rfl] at HN1 HN2 HFN hLE hok
  rw [Bool.and_eq_true] at hok
  have htl := jQ hok.1
  have HTX := qb (JK B b tt ac wc (by omega) HBc.out (by omega) hBc)
  have HSA := qb (fun w => xz cm ct ca cz tt w HSF.out.1 HSF.out.2 (by omega))
  dsimp only at HN1 HN2 HFN
  generalize St.after ⟨cm, ct, ca, cz⟩ tt = s1 at *
  obtain ⟨sm, st, sa, sz⟩ := s1
  go_wp2_with fail
  refine HTX.out.mono ?_
  rintro e w3 ⟨rfl, hb3, hk3⟩
  have H03 := qb (hk3.bx H0c.out (by omega) (by decide))
  have H13 := qb (hk3.bx H1c.out (by omega) (by decide))
  have HP3 := qb (hk3.bx HPC.out (by omega) (by decide))
  have HB3 := qb hb3
  have HK3 := qb (HKc.out.trans hk3)
  have hz3 := hk3.1.size
  have hw3 : w.heap.size + 1 < w3.heap.size := lt_of_block H13.out
  clear hb3 hk3 f0 f1 f2 f3 f4 y0 y1 y2 y3 p0 p1 p2 p3 g0 g1 g2 g3
  obtain ⟨⟨f0, f1, f2, f3, f4⟩, -⟩ := qI HP3.out
  obtain ⟨⟨y0, y1, y2, y3⟩, p0, p1, p2, p3⟩ := qh H03.out
  go_wp2_with fail
  refine (HSA.out w3).mono ?_
  rintro e w4 ⟨rfl, hb⟩
  have H04 := qb (qi H03.out hb)
  have H14 := qb (qi H13.out hb)
  have HB4 := qb (HB3.out.keep hb)
  have HK4 := qb (HK3.out.trans (KO.of (b := b) hb (Nat.le_trans hB0 (by omega))))
  clear hb f0 f1 f2 f3 f4 y0 y1 y2 y3 p0 p1 p2 p3
  have HP0 := qb (put4 (v0 := .int .i64 sm) (v1 := sv st) (v2 := sv sa) (v3 := .bool sz) H04.out)
  have HP1 := qb (qQ (b := w.heap.size) (.int .i64 sm) (sv st) (sv sa) (.bool sz) H14.out (by omega))
  have HPF := qb (HB4.out.set4 H04.out (by decide) (by decide) (.int .i64 sm) (sv st) (sv sa) (.bool sz))
  have HPK := qb (HK4.out.set4 hB0 (Nat.le_refl _) (.int .i64 sm) (sv st) (sv sa) (.bool sz))
  obtain ⟨⟨y0, y1, y2, y3⟩, p0, p1, p2, p3⟩ := qh H04.out
  go_wp2
  go_roundw
  case rel => exact ⟨j + 1, ⟨sm, st, sa, sz⟩, _, by omega, by go_num, HP0.out, HP1.out, HFN.out, HPF.out, HN1.out, HN2.out, HPK.out⟩
  case measure => simp [intOf]; omega
 rw [if_neg e1] at HN1 HN2 HFN hLE hok
 by_cases e2 : kd = 2
 ·subst e2
  rw [if_pos rfl] at HN1 HN2 HFN hLE hok
  have HVT := qb (Fd.good_text HFG.out)
  have HHO := qb (JM B b nm ft fh Ai is.length ci cm ct ca cz ac wc HVT.out HSF.out HBc.out (by omega) hBc)
  have HSA := qb (fun w => ka cm ct ca cz w (by have := HSF.out.1; dsimp only at this; omega) (by have := HSF.out.2; dsimp only at this; omega))
  dsimp only at HN1 HN2 HFN
  generalize St.behind ⟨cm, ct, ca, cz⟩ = s1 at *
  obtain ⟨sm, st, sa, sz⟩ := s1
  go_wp2_with fail
  refine HHO.out.mono ?_
  rintro e w3 ⟨rfl, hb3, hk3⟩
  have H03 := qb (hk3.bx H0c.out (by omega) (by decide))
  have H13 := qb (hk3.bx H1c.out (by omega) (by decide))
  have HB3 := qb hb3
  have HK3 := qb (HKc.out.trans hk3)
  have hz3 := hk3.1.size
  have hw3 : w.heap.size + 1 < w3.heap.size := lt_of_block H13.out
  clear hb3 hk3 f0 f1 f2 f3 f4 y0 y1 y2 y3 p0 p1 p2 p3 g0 g1 g2 g3
  obtain ⟨⟨y0, y1, y2, y3⟩, p0, p1, p2, p3⟩ := qh H03.out
  go_wp2_with fail
  refine (HSA.out w3).mono ?_
  rintro e w4 ⟨rfl, hb⟩
  have H04 := qb (qi H03.out hb)
  have H14 := qb (qi H13.out hb)
  have HB4 := qb (HB3.out.keep hb)
  have HK4 := qb (HK3.out.trans (KO.of (b := b) hb (Nat.le_trans hB0 (by omega))))
  clear hb y0 y1 y2 y3 p0 p1 p2 p3
  have HP0 := qb (put4 (v0 := .int .i64 sm) (v1 := sv st) (v2 := sv sa) (v3 := .bool sz) H04.out)
  have HP1 := qb (qQ (b := w.heap.size) (.int .i64 sm) (sv st) (sv sa) (.bool sz) H14.out (by omega))
  have HPF := qb (HB4.out.set4 H04.out (by decide) (by decide) (.int .i64 sm) (sv st) (sv sa) (.bool sz))
  have HPK := qb (HK4.out.set4 hB0 (Nat.le_refl _) (.int .i64 sm) (sv st) (sv sa) (.bool sz))
  obtain ⟨⟨y0, y1, y2, y3⟩, p0, p1, p2, p3⟩ := qh H04.out
  go_wp2
  go_roundw
  case rel => exact ⟨j + 1, ⟨sm, st, sa, sz⟩, _, by omega, by go_num, HP0.out, HP1.out, HFN.out, HPF.out, HN1.out, HN2.out, HPK.out⟩
  case measure => simp [intOf]; omega
 rw [if_neg e2] at HN1 HN2 HFN hLE hok
 by_cases e34 : kd = 3 \/ kd = 4
 case neg => rw [if_neg e34] at hok; cases hok
 rw [if_pos e34] at hok
 simp only [Bool.and_eq_true] at hok
 obtain ⟨-, -, hv4, hd0, hou, hov⟩ := hok
 obtain ⟨d', rfl⟩ : ∃ d', d = d' + 1 := ⟨d - 1, by have := of_decide_eq_true hd0; omega⟩
 clear hd0
 rw [Nat.add_sub_cancel] at hou hov
 have hsu : us.length + Pt.sizes us <= 1048576 := by have := HSZ.out; omega
 have hsv : vs.length + Pt.sizes vs <= 1048576 := by have := HSZ.out; omega
 rcases e34 with rfl | rfl
 ·rw [if_pos rfl] at HN1 HN2 HFN hLE
  cases fh
  ·rw [if_neg (by decide)] at HN1 HN2 HFN hLE
   have HCV := qb (IH.out d' rfl B b vs false cm ct ca cz Ao co fs Ad cd ac wc hov HVc.out HFc.out hsv HG.out (by omega) HSF.out HBc.out hBc hLE)
   generalize Pt.fl Pt.plainE vs fs ⟨cm, ct, ca, cz⟩ = R at *
   obtain ⟨RT, ⟨sm, st, sa, sz⟩⟩ := R
   dsimp only at HN1 HN2 HFN HCV hLE
   go_wp2_with fail
   refine HCV.out.mono ?_
   rintro e w4 ⟨rfl, hb3, hk3⟩
   have H04 := qb (hk3.bx H0c.out (by omega) (by decide))
   have H14 := qb (hk3.bx H1c.out (by omega) (by decide))
   have HB4 := qb hb3
   have HK4 := qb (HKc.out.trans hk3)
   have hw3 : w.heap.size + 1 < w4.heap.size := lt_of_block H14.out
   clear hb3 hk3 f0 f1 f2 f3 f4 y0 y1 y2 y3 p0 p1 p2 p3 g0 g1 g2 g3
   have HP0 := qb (put4 (v0 := .int .i64 sm) (v1 := sv st) (v2 := sv sa) (v3 := .bool sz) H04.out)
   have HP1 := qb (qQ (b := w.heap.size) (.int .i64 sm) (sv st) (sv sa) (.bool sz) H14.out (by omega))
   have HPF := qb (HB4.out.set4 H04.out (by decide) (by decide) (.int .i64 sm) (sv st) (sv sa) (.bool sz))
   have HPK := qb (HK4.out.set4 hB0 (Nat.le_refl _) (.int .i64 sm) (sv st) (sv sa) (.bool sz))
   obtain ⟨⟨y0, y1, y2, y3⟩, p0, p1, p2, p3⟩ := qh H04.out
   go_wp2
   go_roundw
   case rel => exact ⟨j + 1, ⟨sm, st, sa, sz⟩, _, by omega, by go_num, HP0.out, HP1.out, HFN.out, HPF.out, HN1.out, HN2.out, HPK.out⟩
   case measure => simp [intOf]; omega
  rw [if_pos rfl] at HN1 HN2 HFN hLE
  have HCU := qb (IH.out d' rfl B b us false cm ct ca cz Ap1 cp1 fs Ad cd ac wc hou HUc.out HFc.out hsu HG.out (by omega) HSF.out HBc.out hBc hLE)
  generalize Pt.fl Pt.plainE us fs ⟨cm, ct, ca, cz⟩ = R at *
  obtain ⟨RT, ⟨sm, st, sa, sz⟩⟩ := R
  dsimp only at HN1 HN2 HFN HCU hLE
  go_wp2_with fail
  refine HCU.out.mono ?_
  rintro e w4 ⟨rfl, hb3, hk3⟩
  have H04 := qb (hk3.bx H0c.out (by omega) (by decide))
  have H14 := qb (hk3.bx H1c.out (by omega) (by decide))
  have HB4 := qb hb3
  have HK4 := qb (HKc.out.trans hk3)
  have hw3 : w.heap.size + 1 < w4.heap.size := lt_of_block H14.out
  clear hb3 hk3 f0 f1 f2 f3 f4 y0 y1 y2 y3 p0 p1 p2 p3 g0 g1 g2 g3
  have HP0 := qb (put4 (v0 := .int .i64 sm) (v1 := sv st) (v2 := sv sa) (v3 := .bool sz) H04.out)
  have HP1 := qb (qQ (b := w.heap.size) (.int .i64 sm) (sv st) (sv sa) (.bool sz) H14.out (by omega))
  have HPF := qb (HB4.out.set4 H04.out (by decide) (by decide) (.int .i64 sm) (sv st) (sv sa) (.bool sz))
  have HPK := qb (HK4.out.set4 hB0 (Nat.le_refl _) (.int .i64 sm) (sv st) (sv sa) (.bool sz))
  obtain ⟨⟨y0, y1, y2, y3⟩, p0, p1, p2, p3⟩ := qh H04.out
  go_wp2
  go_roundw
  case rel => exact ⟨j + 1, ⟨sm, st, sa, sz⟩, _, by omega, by go_num, HP0.out, HP1.out, HFN.out, HPF.out, HN1.out, HN2.out, HPK.out⟩
  case measure => simp [intOf]; omega
 rw [if_neg (by decide), if_pos rfl] at HN1 HN2 HFN hLE
 dsimp only at HN1 HN2 HFN hLE
 have HIT := qb (Fd.good_items HFG.out)
 have HF3 := qb f3
 have hil : is.length <= 5 := HIT.out.1
 obtain ⟨F, hF0⟩ : ∃ F : Tx -> Tx, F = fun it => (Pt.fl Pt.plainE us (Fd.withI fs it) ⟨cm, ct, ca, cz⟩).1 := ⟨_, rfl⟩
 rw [<- hF0] at HN1 hLE
 have HFE : Hid (∀ it, F it = (Pt.fl Pt.plainE us (Fd.withI fs it) ⟨cm, ct, ca, cz⟩).1) := fun it => by rw [hF0]
 clear hF0 hov f1 f2 f3 f4 g0 g1 g2
 go_wp2
 generalize wr = wo at *
 go_loopw [73] (fun i wr => ∃ (q : Nat), q <= is.length /\ i = .int .i64 q /\ BF B b (ac ++ cat F (is.take q)) wr /\ KO B b wc wr) (fun i _ => is.length - (intOf i).toNat)
 case atStart => exact ⟨0, Nat.zero_le _, rfl, by rw [List.take_zero]; simpa [cat] using HBc.out, KO.refl _ _ _⟩
 obtain ⟨q, hq, rfl, hbq, hkq⟩ := hrel
 have HBq := qb hbq
 have HKq := qb hkq
 have hzq := hkq.1.size
 clear hbq hkq
 by_cases hqi : q < is.length
 ·obtain ⟨bi, oi, hAi, hbi, hci2⟩ := (HRI.out.ko HKq.out).at hqi
  have hbil := hbi.lt
  have HP3 := qb ((zz HPC.out HKq.out (by omega)))
  have HS3 := qb (HKq.out.bx H0c.out (by omega) (by decide))
  have hz8 : wo.heap.size < wr.heap.size := by omega
  have hzs : w.heap.size < wr.heap.size := by omega
  have HVI := qb (HIT.out.2 _ (List.getElem_mem hqi))
  have hct := kb F is q hqi
  have hcl := kc F is (q + 1)
  rw [hct, List.length_append] at hcl
  have HCT := qb hct
  have HFq := qb (HFc.out.ko HKq.out)
  have hbq2 := HBq.out.lt
  have HWI := qb (fun w5 (hb : Below wr.heap.size wr w5) => (Qc fs is[q] Ad cd (Sb B b w5) w5 (fun _ h => h.lt) (HFq.out.sb hb) (by omega)).mono fun e w' h => yx h (Nat.lt_of_lt_of_le hbq2 hb.size))
  have HIF := qb (fun A c w5 (hb : Below wr.heap.size wr w5) (hr : RdF w5 (Sb B b w5) A (Fd.withI fs is[q])) (hlen : (ac ++ cat F (is.take q)).length + (Pt.fl Pt.plainE us (Fd.withI fs is[q]) ⟨cm, ct, ca, cz⟩).1.length <= 900000000000) => IH.out d' rfl B b us false cm ct ca cz Ap1 cp1 (Fd.withI fs is[q]) A c (ac ++ cat F (is.take q)) w5 hou ((HUc.out.ko HKq.out).ko (KO.of (b := b) hb (by omega))) hr hsu (Fd.goods_with HG.out HVI.out) (by have := Fd.with_len fs is[q]; omega) HSF.out (HBq.out.keep hb) (by have := hb.size; omega) hlen)
  rw [<- HFE.out is[q]] at HIF
  have hdl : (ac ++ cat F (is.take q)).length + (F is[q]).length <= 900000000000 := by rw [List.length_append]; omega
  have c9 := hci2
  subst hAi
  generalize is[q] = it at *
  have HX3 := qb (qI HP3.out).1.2.2.2.1
  clear HVI hct hcl f0 y0 y1 y2 y3 p0 p1 p2 p3
  go_wp2_with fail
  refine qU 8 (by kernel_rfl) (by kernel_rfl) (fun _ w => Below (World.heap wr).size wr w) KB (fun i => ([bIs (.pointer (some ⟨wo.heap.size, 3, none⟩)), bIs (.slice Ap1 us.length cp1), bIs (.slice Ad fs.length cd), bIs (sv it), bSbF B b (Fd.withI fs it), bIs (stV cm ct ca cz), bIs (.func (.func 91) #[] #[.pointer (some ⟨b, 0, none⟩)]), bIs (.func (.func 92) #[] #[.pointer (some ⟨b, 0, none⟩)])] : List TyB).getD i bAny) ?hWbB2 ?hkeepB2 ?hstepB2 ?hfinbB2
  case hkeepB2 =>
   refine qg (qg (qg (qg (qg (qg (qg (qg qG ?_) ?_) ?_) ?_) ?_) ?_) ?_) ?_
   ·exact qj
   ·exact qj
   ·exact qj
   ·exact qj
   ·exact yw
   all_goals exact qj
  case hstepB2 =>
   refine qg (qg (qg (qg (qg (qg (qg (qg qG ?_) ?_) ?_) ?_) ?_) ?_) ?_) ?_
   all_goals (intro o ho m' a w1 hm' hW hb hd K Q hK; obtain rfl := Option.some.inj ho)
   ·(have e0 : a.tmps[12]?.getD undef = .pointer (some ⟨wo.heap.size, 0, none⟩) := (by rw [hb 12 (by decide +kernel)]; simp); go_simp; exact hK _ _ hW (VY _) rfl)
   ·(have e0 := qo (hd 0 (by kernel_rfl) 77 rfl); have hcw := (hW.cell (p := ⟨wo.heap.size, 3, none⟩) hz8).trans HX3.out; go_simp; exact hK _ _ hW (VY _) rfl)
   ·(have e0 : a.tmps[1]?.getD undef = (.slice Ad fs.length cd) := (by rw [hb 1 (by decide +kernel)]; simp); go_simp; exact hK _ _ hW (VY _) rfl)
   ·(have e0 : a.tmps[16]?.getD undef = (sv it) := (by rw [hb 16 (by decide +kernel)]; simp); go_simp; exact hK _ _ hW (VY _) rfl)
   ·(have e0 := qo (hd 2 (by kernel_rfl) 79 rfl); have e1 := qo (hd 3 (by kernel_rfl) 80 rfl); go_simp; refine (HWI.out _ hW).mono ?_; rintro e w2 ⟨A9, c9, rfl, hr9, hb2⟩; exact hK _ _ (qa3 hW hb2) hb2 ⟨A9, c9, rfl, hr9⟩)
   ·(have e0 : a.tmps[7]?.getD undef = .pointer (some ⟨w.heap.size, 0, none⟩) := (by rw [hb 7 (by decide +kernel)]; simp); have hbl := (hW.block _ hzs).trans HS3.out; have q0 := cell_of_row w1 _ 0 _ _ _ hbl; have q1 := cell_of_row w1 _ 1 _ _ _ hbl; have q2 := cell_of_row w1 _ 2 _ _ _ hbl; have q3 := cell_of_row w1 _ 3 _ _ _ hbl; go_simp; exact hK _ _ hW (VY _) rfl)
   ·(have e0 : a.tmps[3]?.getD undef = (.func (.func 91) #[] #[.pointer (some ⟨b, 0, none⟩)]) := (by rw [hb 3 (by decide +kernel)]; simp); go_simp; exact hK _ _ hW (VY _) rfl)
   (have e0 : a.tmps[4]?.getD undef = (.func (.func 92) #[] #[.pointer (some ⟨b, 0, none⟩)]) := (by rw [hb 4 (by decide +kernel)]; simp); go_simp; exact hK _ _ hW (VY _) rfl)
  case hWbB2 => exact (Below.refl _ _).drew
  intro vs9 w5 hW hF9
  simp only [qF, hdst, List.getElem?_cons_succ, List.getElem?_cons_zero, Option.bind, List.drop_succ_cons, List.drop_zero, Act.put]
  have h1 : vs9 1 = .slice Ap1 us.length cp1 := hF9 1 (by omega)
  obtain ⟨A9, c9', h4, hr9⟩ := hF9 4 (by omega)
  have h5 : vs9 5 = stV cm ct ca cz := hF9 5 (by omega)
  have h6 : vs9 6 = .func (.func 91) #[] #[.pointer (some ⟨b, 0, none⟩)] := hF9 6 (by omega)
  have h7 : vs9 7 = .func (.func 92) #[] #[.pointer (some ⟨b, 0, none⟩)] := hF9 7 (by omega)
  rw [h1, h4, h5, h6, h7]
  have HCALL := qb (HIF.out A9 c9' w5 hW hr9 hdl)
  have HK5 := qb (HKq.out.trans (KO.of (b := b) hW (by omega)))
  clear hF9 h1 h4 h5 h6 h7 hr9 hW HWI HIF
  go_simp
  go_wp2_with fail
  refine HCALL.out.mono ?_
  rintro e w6 ⟨rfl, hb6, hk6⟩
  have HB6 := qb hb6
  have HK6 := qb (HK5.out.trans hk6)
  clear hb6 hk6
  go_wp2
  go_roundw
  case rel => exact ⟨q + 1, by omega, by go_num, by rw [HCT.out, <- List.append_assoc]; exact HB6.out, HK6.out⟩
  case measure => simp [intOf]; omega
 have HEE : Hid (is.take q = is) := by show _ = _; exact List.take_of_length_le (by omega)
 rw [HEE.out] at HBq
 have HP0 := qb (HKq.out.bx H0c.out (by omega) (by decide))
 have HP1 := qb (HKq.out.bx H1c.out (by omega) (by decide))
 have HPK := qb (HKc.out.trans HKq.out)
 go_wp2
 go_roundw
 case rel => exact ⟨j + 1, ⟨cm, ct, ca, cz⟩, _, by omega, by go_num, HP0.out, HP1.out, HFN.out, HBq.out, HN1.out, HN2.out, HPK.out⟩
 case measure => simp [intOf]; omega
theorem JO (d : Nat) : FwC Pt.plainE 91 92 d := by
 induction d with
 | zero => exact yz 0 fun d' h => by omega
 | succ d ih => exact yz (d + 1) fun d' h => by obtain rfl : d = d' := (by omega); exact ih
theorem yA (d : Nat) (ih : ∀ d', d = d' + 1 -> FwC Pt.safeE 71 75 d') : FwC Pt.safeE 71 75 d := by
 intro B b xs p m t a z Ap cp fs Ad cd acc w ho hx hfx hs hg hn hft hbf hB0 hacc
 have HO := qb (jY ho)
 have HX := qb hx
 have HF := qb hfx
 have HG := qb hg
 have IH := qb ih
 have HSZ := qb hs
 have HBF0 := qb hbf
 have hb00 := hbf.lt
 have HFT := qb hft
 have hxl : xs.length <= 1048576 := by omega
 obtain ⟨ACC, hAC⟩ : ∃ X, X = acc ++ (Pt.fl Pt.safeE xs fs ⟨m, t, a, z⟩).1 := ⟨_, rfl⟩
 obtain ⟨sf, hsf⟩ : ∃ X, X = (Pt.fl Pt.safeE xs fs ⟨m, t, a, z⟩).2 := ⟨_, rfl⟩
 have HTL : Hid (ACC.length <= 900000000000) := by show _ <= _; rw [hAC, List.length_append]; exact hacc
 rw [<- hAC, <- hsf]
 have HA0 := qb hAC.symm
 have HS0 := qb hsf.symm
 clear ho hx hfx hg ih hs hAC hsf hacc hbf hft
 obtain ⟨hB, g0, g1⟩ := qE w (ql m t a z) qH 90 90
 have HB0 := qb hB
 have HG0 := qb g0
 have HG1 := qb g1
 clear hB g0 g1
 go_enter func70, ntmps70
 go_upto_region 2 with fail
 generalize (w.alloc (.cells (ql m t a z) 90)).alloc (.cells qH 90) = w0 at *
 go_wp2
 go_loopw [19] (fun i wr => ∃ (j : Nat) (s : St) (ac : Tx), j <= xs.length /\ i = .int .i64 j /\ wr.heap[w.heap.size]? = some (.cells (ql s.mode s.tag s.attr s.seen) 90 (0, 0)) /\ wr.heap[w.heap.size + 1]? = some (.cells qH 90 (0, 0)) /\ St.Fit s /\ BF B b ac wr /\ ac ++ (Pt.fl Pt.safeE (xs.drop j) fs s).1 = ACC /\ (Pt.fl Pt.safeE (xs.drop j) fs s).2 = sf /\ KO B b w wr) (fun i _ => xs.length - (intOf i).toNat)
 case atStart => exact ⟨0, ⟨m, t, a, z⟩, acc, Nat.zero_le _, rfl, HG0.out, HG1.out, HFT.out, HBF0.out.keep HB0.out, by rw [List.drop_zero]; exact HA0.out, by rw [List.drop_zero]; exact HS0.out, KO.of HB0.out hB0⟩
 obtain ⟨j, ⟨cm, ct, ca, cz⟩, ac, hj, rfl, h0, h1, hft, hbf, hT1, hT2, hko⟩ := hrel
 dsimp only at h0 h1
 have HK := qb hko
 have H0 := qb h0
 have H1 := qb h1
 have HBF := qb hbf
 have HSF := qb hft
 have HT1 := qb hT1
 have HT2 := qb hT2
 have hz1 : w.heap.size + 1 < wr.heap.size := lt_of_block h1
 have hBr : B <= wr.heap.size := Nat.le_trans hB0 hko.1.size
 clear h0 h1 hft hbf hT1 hT2 hko
 by_cases hlt : j < xs.length
 case neg =>
  have hfe := Pt.fl_end (E := Pt.safeE) hlt fs ⟨cm, ct, ca, cz⟩
  have HE1 : Hid (ac = ACC) := by show _ = _; rw [<- HT1.out, hfe, List.append_nil]
  have HE2 : Hid (sf = ⟨cm, ct, ca, cz⟩) := by show _ = _; rw [<- HT2.out, hfe]
  have HB4 := qb (HBF.out.set4 H1.out (by decide) (by decide) (.int .i64 cm) (sv ct) (sv ca) (.bool cz))
  obtain ⟨⟨y0, y1, y2, y3⟩, p0, p1, p2, p3⟩ := qh H0.out
  obtain ⟨⟨z0, z1, z2, z3⟩, x0, x1, x2, x3⟩ := qh H1.out
  clear hfe
  go_wp2
  exact bodyPost_ret (qp (m := cm) (t := ct) (a := ca) (z := cz) results70 rfl (put4 H1.out)) rfl ⟨by rw [HE2.out], by rw [<- HE1.out]; exact HB4.out, HK.out.set4 hB0 (by omega) _ _ _ _⟩
 obtain ⟨b1, o1, rfl, hb1, kd, tt, nn, us, vs, Ap1, cp1, Ao, co, hxj, k1, k2, k3, k4, c0, c1, c2, c3, c4⟩ := (HX.out.ko HK.out).at2 hlt
 have hb1r : b1 < wr.heap.size := Nat.lt_of_lt_of_le hb1 hBr
 have hmem : Pt.mk kd tt nn us vs ∈ xs := by rw [<- hxj]; exact List.getElem_mem hlt
 have hok := HO.out _ hmem
 have hsm := Pt.size_mem hmem
 have hst := Pt.fl_step (E := Pt.safeE) hlt fs ⟨cm, ct, ca, cz⟩
 rw [hxj] at hst
 have ht1 := HT1.out
 have ht2 := HT2.out
 rw [hst] at ht1 ht2
 dsimp only at ht1 ht2
 rw [<- List.append_assoc] at ht1
 have hLE : ac.length + (Pt.fl1 Pt.safeE (.mk kd tt nn us vs) fs ⟨cm, ct, ca, cz⟩).1.length <= 900000000000 := by
  have := HTL.out
  rw [<- ht1, List.length_append, List.length_append] at this
  omega
 have HN1 := qb ht1
 have HN2 := qb ht2
 have HFN := qb (Pt.fit_fl1 Pt.safeE (.mk kd tt nn us vs) fs ⟨cm, ct, ca, cz⟩ HSF.out)
 clear hst ht1 ht2 hmem hxj HT1 HT2
 simp only [Pt.size] at hsm
 rw [Pt.ok] at hok
 have HBX := qb (heap_alloc_new wr (.cells (qD kd tt nn Ap1 us.length cp1 Ao vs.length co) 115))
 have hBA := (Below.refl wr.heap.size wr).alloc (Nat.le_refl _) (.cells (qD kd tt nn Ap1 us.length cp1 Ao vs.length co) 115)
 have HBA := qb hBA
 have hzb : wr.heap.size < (wr.alloc (.cells (qD kd tt nn Ap1 us.length cp1 Ao vs.length co) 115)).heap.size := by simp
 have HKb := qb (HK.out.trans (KO.of (b := b) hBA hBr))
 have HU := qb k3
 have HV := qb k4
 have HFD := qb (Qb fs nn Ad cd _ ((HF.out.ko HKb.out).all) (by omega) (fun f hf => by have := (Fd.good_items (HG.out f hf)).1; omega))
 clear k1 k2 k3 k4 hBA
 go_upto_region 4 with fail
 generalize wr.alloc (.cells (qD kd tt nn Ap1 us.length cp1 Ao vs.length co) 115) = wb at *
 obtain ⟨⟨f0, f1, f2, f3, f4⟩, -⟩ := qI HBX.out
 clear c0 c1 c2 c3 c4
 go_wp2_with fail
 refine HFD.out.mono ?_
 rintro e w2 ⟨⟨nm, Ai, ci, vb, rfl, hos⟩, hb⟩
 have hbx := hb.alloc hb.size (.cells (qC nm (Fd.get fs nn).text (Fd.get fs nn).holds Ai (Fd.get fs nn).items.length ci) 62)
 have HBX2 := qb hbx
 have HOS := qb (kC hos ((Below.refl w2.heap.size w2).alloc (Nat.le_refl _) (.cells (qC nm (Fd.get fs nn).text (Fd.get fs nn).holds Ai (Fd.get fs nn).items.length ci) 62)))
 have HQF := qb (heap_alloc_new w2 (.cells (qC nm (Fd.get fs nn).text (Fd.get fs nn).holds Ai (Fd.get fs nn).items.length ci) 62))
 have HGD := qb (Fd.good_get HG.out nn)
 have hz5 := hb.size
 have hz6 : w2.heap.size < (w2.alloc (.cells (qC nm (Fd.get fs nn).text (Fd.get fs nn).holds Ai (Fd.get fs nn).items.length ci) 62)).heap.size := by simp
 generalize hff : Fd.get fs nn = ff at *
 obtain ⟨fn, ft, fh, is⟩ := ff
 dsimp only at HBX2 HOS HQF hz6 hbx ⊢
 clear hb hos hbx f0 f1 f2 f3 f4
 go_upto_region 5 with fail
 generalize w2.alloc (.cells (qC nm ft fh Ai is.length ci) 62) = wc at *
 have HPC := qb (qi HBX.out HBX2.out)
 obtain ⟨⟨f0, f1, f2, f3, f4⟩, -⟩ := qI HPC.out
 obtain ⟨⟨g0, g1, g2, g3⟩, -⟩ := qh HQF.out
 have HBrc := qb (qa3 HBA.out HBX2.out)
 have hbr := HBF.out.lt
 have H0c := qb (qi H0.out HBrc.out)
 have H1c := qb (qi H1.out HBrc.out)
 have HBc := qb (HBF.out.keep HBrc.out)
 have HKrc := qb (KO.of (b := b) HBrc.out hBr)
 have HKc := qb (HK.out.trans HKrc.out)
 have hBc : B <= wc.heap.size := Nat.le_trans hBr HBrc.out.size
 have hzc : wr.heap.size < wc.heap.size := Nat.lt_of_lt_of_le hzb HBX2.out.size
 have HFc := qb (HF.out.ko HKc.out)
 have HRI := qb (yy (B := B) HOS.out (b := b) (by omega))
 have HUc := qb (HU.out.ko HKrc.out)
 have HVc := qb (HV.out.ko HKrc.out)
 have HFG : Hid (Fd.good ⟨fn, ft, fh, is⟩ = true) := HGD.out
 rw [Pt.fl1] at HN1 HN2 HFN hLE
 rw [hff] at HN1 HN2 HFN hLE
 dsimp only at HN1 HN2 HFN hLE
 obtain ⟨⟨y0, y1, y2, y3⟩, p0, p1, p2, p3⟩ := qh H0c.out
 clear HGD HFD HU HV HBF H0 H1
 by_cases e1 : kd = 1
 ·subst e1
  rw [if_pos rfl] at HN1 HN2 HFN hLE hok
  rw [Bool.and_eq_true] at hok
  have htl := jQ hok.1
  have HTX := qb (JL B b tt ac wc (by omega) HBc.out (by omega) hBc)
  have HSA := qb (fun w => xz cm ct ca cz tt w HSF.out.1 HSF.out.2 (by omega))
  dsimp only at HN1 HN2 HFN
  generalize St.after ⟨cm, ct, ca, cz⟩ tt = s1 at *
  obtain ⟨sm, st, sa, sz⟩ := s1
  go_wp2_with fail
  refine HTX.out.mono ?_
  rintro e w3 ⟨rfl, hb3, hk3⟩
  have H03 := qb (hk3.bx H0c.out (by omega) (by decide))
  have H13 := qb (hk3.bx H1c.out (by omega) (by decide))
  have HP3 := qb (hk3.bx HPC.out (by omega) (by decide))
  have HB3 := qb hb3
  have HK3 := qb (HKc.out.trans hk3)
  have hz3 := hk3.1.size
  have hw3 : w.heap.size + 1 < w3.heap.size := lt_of_block H13.out
  clear hb3 hk3 f0 f1 f2 f3 f4 y0 y1 y2 y3 p0 p1 p2 p3 g0 g1 g2 g3
  obtain ⟨⟨f0, f1, f2, f3, f4⟩, -⟩ := qI HP3.out
  obtain ⟨⟨y0, y1, y2, y3⟩, p0, p1, p2, p3⟩ := qh H03.out
  go_wp2_with fail
  refine (HSA.out w3).mono ?_
  rintro e w4 ⟨rfl, hb⟩
  have H04 := qb (qi H03.out hb)
  have H14 := qb (qi H13.out hb)
  have HB4 := qb (HB3.out.keep hb)
  have HK4 := qb (HK3.out.trans (KO.of (b := b) hb (Nat.le_trans hB0 (by omega))))
  clear hb f0 f1 f2 f3 f4 y0 y1 y2 y3 p0 p1 p2 p3
  have HP0 := qb (put4 (v0 := .int .i64 sm) (v1 := sv st) (v2 := sv sa) (v3 := .bool sz) H04.out)
  have HP1 := qb (qQ (b := w.heap.size) (.int .i64 sm) (sv st) (sv sa) (.bool sz) H14.out (by omega))
  have HPF := qb (HB4.out.set4 H04.out (by decide) (by decide) (.int .i64 sm) (sv st) (sv sa) (.bool sz))
  have HPK := qb (HK4.out.set4 hB0 (Nat.le_refl _) (.int .i64 sm) (sv st) (sv sa) (.bool sz))
  obtain ⟨⟨y0, y1, y2, y3⟩, p0, p1, p2, p3⟩ := qh H04.out
  go_wp2
  go_roundw
  case rel => exact ⟨j + 1, ⟨sm, st, sa, sz⟩, _, by omega, by go_num, HP0.out, HP1.out, HFN.out, HPF.out, HN1.out, HN2.out, HPK.out⟩
  case measure => simp [intOf]; omega
 rw [if_neg e1] at HN1 HN2 HFN hLE hok
 by_cases e2 : kd = 2
 ·subst e2
  rw [if_pos rfl] at HN1 HN2 HFN hLE hok
  have HVT := qb (Fd.good_text HFG.out)
  have HHO := qb (JN B b nm ft fh Ai is.length ci cm ct ca cz ac wc HVT.out HSF.out HBc.out (by omega) hBc)
  have HSA := qb (fun w => ka cm ct ca cz w (by have := HSF.out.1; dsimp only at this; omega) (by have := HSF.out.2; dsimp only at this; omega))
  dsimp only at HN1 HN2 HFN
  generalize St.behind ⟨cm, ct, ca, cz⟩ = s1 at *
  obtain ⟨sm, st, sa, sz⟩ := s1
  go_wp2_with fail
  refine HHO.out.mono ?_
  rintro e w3 ⟨rfl, hb3, hk3⟩
  have H03 := qb (hk3.bx H0c.out (by omega) (by decide))
  have H13 := qb (hk3.bx H1c.out (by omega) (by decide))
  have HB3 := qb hb3
  have HK3 := qb (HKc.out.trans hk3)
  have hz3 := hk3.1.size
  have hw3 : w.heap.size + 1 < w3.heap.size := lt_of_block H13.out
  clear hb3 hk3 f0 f1 f2 f3 f4 y0 y1 y2 y3 p0 p1 p2 p3 g0 g1 g2 g3
  obtain ⟨⟨y0, y1, y2, y3⟩, p0, p1, p2, p3⟩ := qh H03.out
  go_wp2_with fail
  refine (HSA.out w3).mono ?_
  rintro e w4 ⟨rfl, hb⟩
  have H04 := qb (qi H03.out hb)
  have H14 := qb (qi H13.out hb)
  have HB4 := qb (HB3.out.keep hb)
  have HK4 := qb (HK3.out.trans (KO.of (b := b) hb (Nat.le_trans hB0 (by omega))))
  clear hb y0 y1 y2 y3 p0 p1 p2 p3
  have HP0 := qb (put4 (v0 := .int .i64 sm) (v1 := sv st) (v2 := sv sa) (v3 := .bool sz) H04.out)
  have HP1 := qb (qQ (b := w.heap.size) (.int .i64 sm) (sv st) (sv sa) (.bool sz) H14.out (by omega))
  have HPF := qb (HB4.out.set4 H04.out (by decide) (by decide) (.int .i64 sm) (sv st) (sv sa) (.bool sz))
  have HPK := qb (HK4.out.set4 hB0 (Nat.le_refl _) (.int .i64 sm) (sv st) (sv sa) (.bool sz))
  obtain ⟨⟨y0, y1, y2, y3⟩, p0, p1, p2, p3⟩ := qh H04.out
  go_wp2
  go_roundw
  case rel => exact ⟨j + 1, ⟨sm, st, sa, sz⟩, _, by omega, by go_num, HP0.out, HP1.out, HFN.out, HPF.out, HN1.out, HN2.out, HPK.out⟩
  case measure => simp [intOf]; omega
 rw [if_neg e2] at HN1 HN2 HFN hLE hok
 by_cases e34 : kd = 3 \/ kd = 4
 case neg => rw [if_neg e34] at hok; cases hok
 rw [if_pos e34] at hok
 simp only [Bool.and_eq_true] at hok
 obtain ⟨-, -, hv4, hd0, hou, hov⟩ := hok
 obtain ⟨d', rfl⟩ : ∃ d', d = d' + 1 := ⟨d - 1, by have := of_decide_eq_true hd0; omega⟩
 clear hd0
 rw [Nat.add_sub_cancel] at hou hov
 have hsu : us.length + Pt.sizes us <= 1048576 := by have := HSZ.out; omega
 have hsv : vs.length + Pt.sizes vs <= 1048576 := by have := HSZ.out; omega
 rcases e34 with rfl | rfl
 ·rw [if_pos rfl] at HN1 HN2 HFN hLE
  cases fh
  ·rw [if_neg (by decide)] at HN1 HN2 HFN hLE
   have HCV := qb (IH.out d' rfl B b vs false cm ct ca cz Ao co fs Ad cd ac wc hov HVc.out HFc.out hsv HG.out (by omega) HSF.out HBc.out hBc hLE)
   generalize Pt.fl Pt.safeE vs fs ⟨cm, ct, ca, cz⟩ = R at *
   obtain ⟨RT, ⟨sm, st, sa, sz⟩⟩ := R
   dsimp only at HN1 HN2 HFN HCV hLE
   go_wp2_with fail
   refine HCV.out.mono ?_
   rintro e w4 ⟨rfl, hb3, hk3⟩
   have H04 := qb (hk3.bx H0c.out (by omega) (by decide))
   have H14 := qb (hk3.bx H1c.out (by omega) (by decide))
   have HB4 := qb hb3
   have HK4 := qb (HKc.out.trans hk3)
   have hw3 : w.heap.size + 1 < w4.heap.size := lt_of_block H14.out
   clear hb3 hk3 f0 f1 f2 f3 f4 y0 y1 y2 y3 p0 p1 p2 p3 g0 g1 g2 g3
   have HP0 := qb (put4 (v0 := .int .i64 sm) (v1 := sv st) (v2 := sv sa) (v3 := .bool sz) H04.out)
   have HP1 := qb (qQ (b := w.heap.size) (.int .i64 sm) (sv st) (sv sa) (.bool sz) H14.out (by omega))
   have HPF := qb (HB4.out.set4 H04.out (by decide) (by decide) (.int .i64 sm) (sv st) (sv sa) (.bool sz))
   have HPK := qb (HK4.out.set4 hB0 (Nat.le_refl _) (.int .i64 sm) (sv st) (sv sa) (.bool sz))
   obtain ⟨⟨y0, y1, y2, y3⟩, p0, p1, p2, p3⟩ := qh H04.out
   go_wp2
   go_roundw
   case rel => exact ⟨j + 1, ⟨sm, st, sa, sz⟩, _, by omega, by go_num, HP0.out, HP1.out, HFN.out, HPF.out, HN1.out, HN2.out, HPK.out⟩
   case measure => simp [intOf]; omega
  rw [if_pos rfl] at HN1 HN2 HFN hLE
  have HCU := qb (IH.out d' rfl B b us false cm ct ca cz Ap1 cp1 fs Ad cd ac wc hou HUc.out HFc.out hsu HG.out (by omega) HSF.out HBc.out hBc hLE)
  generalize Pt.fl Pt.safeE us fs ⟨cm, ct, ca, cz⟩ = R at *
  obtain ⟨RT, ⟨sm, st, sa, sz⟩⟩ := R
  dsimp only at HN1 HN2 HFN HCU hLE
  go_wp2_with fail
  refine HCU.out.mono ?_
  rintro e w4 ⟨rfl, hb3, hk3⟩
  have H04 := qb (hk3.bx H0c.out (by omega) (by decide))
  have H14 := qb (hk3.bx H1c.out (by omega) (by decide))
  have HB4 := qb hb3
  have HK4 := qb (HKc.out.trans hk3)
  have hw3 : w.heap.size + 1 < w4.heap.size := lt_of_block H14.out
  clear hb3 hk3 f0 f1 f2 f3 f4 y0 y1 y2 y3 p0 p1 p2 p3 g0 g1 g2 g3
  have HP0 := qb (put4 (v0 := .int .i64 sm) (v1 := sv st) (v2 := sv sa) (v3 := .bool sz) H04.out)
  have HP1 := qb (qQ (b := w.heap.size) (.int .i64 sm) (sv st) (sv sa) (.bool sz) H14.out (by omega))
  have HPF := qb (HB4.out.set4 H04.out (by decide) (by decide) (.int .i64 sm) (sv st) (sv sa) (.bool sz))
  have HPK := qb (HK4.out.set4 hB0 (Nat.le_refl _) (.int .i64 sm) (sv st) (sv sa) (.bool sz))
  obtain ⟨⟨y0, y1, y2, y3⟩, p0, p1, p2, p3⟩ := qh H04.out
  go_wp2
  go_roundw
  case rel => exact ⟨j + 1, ⟨sm, st, sa, sz⟩, _, by omega, by go_num, HP0.out, HP1.out, HFN.out, HPF.out, HN1.out, HN2.out, HPK.out⟩
  case measure => simp [intOf]; omega
 rw [if_neg (by decide), if_pos rfl] at HN1 HN2 HFN hLE
 dsimp only at HN1 HN2 HFN hLE
 have HIT := qb (Fd.good_items HFG.out)
 have HF3 := qb f3
 have hil : is.length <= 5 := HIT.out.1
 obtain ⟨F, hF0⟩ : ∃ F : Tx -> Tx, F = fun it => (Pt.fl Pt.safeE us (Fd.withI fs it) ⟨cm, ct, ca, cz⟩).1 := ⟨_, rfl⟩
 rw [<- hF0] at HN1 hLE
 have HFE : Hid (∀ it, F it = (Pt.fl Pt.safeE us (Fd.withI fs it) ⟨cm, ct, ca, cz⟩).1) := fun it => by rw [hF0]
 clear hF0 hov f1 f2 f3 f4 g0 g1 g2
 go_wp2
 generalize wr = wo at *
 go_loopw [73] (fun i wr => ∃ (q : Nat), q <= is.length /\ i = .int .i64 q /\ BF B b (ac ++ cat F (is.take q)) wr /\ KO B b wc wr) (fun i _ => is.length - (intOf i).toNat)
 case atStart => exact ⟨0, Nat.zero_le _, rfl, by rw [List.take_zero]; simpa [cat] using HBc.out, KO.refl _ _ _⟩
 obtain ⟨q, hq, rfl, hbq, hkq⟩ := hrel
 have HBq := qb hbq
 have HKq := qb hkq
 have hzq := hkq.1.size
 clear hbq hkq
 by_cases hqi : q < is.length
 ·obtain ⟨bi, oi, hAi, hbi, hci2⟩ := (HRI.out.ko HKq.out).at hqi
  have hbil := hbi.lt
  have HP3 := qb ((zz HPC.out HKq.out (by omega)))
  have HS3 := qb (HKq.out.bx H0c.out (by omega) (by decide))
  have hz8 : wo.heap.size < wr.heap.size := by omega
  have hzs : w.heap.size < wr.heap.size := by omega
  have HVI := qb (HIT.out.2 _ (List.getElem_mem hqi))
  have hct := kb F is q hqi
  have hcl := kc F is (q + 1)
  rw [hct, List.length_append] at hcl
  have HCT := qb hct
  have HFq := qb (HFc.out.ko HKq.out)
  have hbq2 := HBq.out.lt
  have HWI := qb (fun w5 (hb : Below wr.heap.size wr w5) => (Qc fs is[q] Ad cd (Sb B b w5) w5 (fun _ h => h.lt) (HFq.out.sb hb) (by omega)).mono fun e w' h => yx h (Nat.lt_of_lt_of_le hbq2 hb.size))
  have HIF := qb (fun A c w5 (hb : Below wr.heap.size wr w5) (hr : RdF w5 (Sb B b w5) A (Fd.withI fs is[q])) (hlen : (ac ++ cat F (is.take q)).length + (Pt.fl Pt.safeE us (Fd.withI fs is[q]) ⟨cm, ct, ca, cz⟩).1.length <= 900000000000) => IH.out d' rfl B b us false cm ct ca cz Ap1 cp1 (Fd.withI fs is[q]) A c (ac ++ cat F (is.take q)) w5 hou ((HUc.out.ko HKq.out).ko (KO.of (b := b) hb (by omega))) hr hsu (Fd.goods_with HG.out HVI.out) (by have := Fd.with_len fs is[q]; omega) HSF.out (HBq.out.keep hb) (by have := hb.size; omega) hlen)
  rw [<- HFE.out is[q]] at HIF
  have hdl : (ac ++ cat F (is.take q)).length + (F is[q]).length <= 900000000000 := by rw [List.length_append]; omega
  have c9 := hci2
  subst hAi
  generalize is[q] = it at *
  have HX3 := qb (qI HP3.out).1.2.2.2.1
  clear HVI hct hcl f0 y0 y1 y2 y3 p0 p1 p2 p3
  go_wp2_with fail
  refine qU 8 (by kernel_rfl) (by kernel_rfl) (fun _ w => Below (World.heap wr).size wr w) KB (fun i => ([bIs (.pointer (some ⟨wo.heap.size, 3, none⟩)), bIs (.slice Ap1 us.length cp1), bIs (.slice Ad fs.length cd), bIs (sv it), bSbF B b (Fd.withI fs it), bIs (stV cm ct ca cz), bIs (.func (.func 71) #[] #[.pointer (some ⟨b, 0, none⟩)]), bIs (.func (.func 75) #[] #[.pointer (some ⟨b, 0, none⟩)])] : List TyB).getD i bAny) ?hWbB3 ?hkeepB3 ?hstepB3 ?hfinbB3
  case hkeepB3 =>
   refine qg (qg (qg (qg (qg (qg (qg (qg qG ?_) ?_) ?_) ?_) ?_) ?_) ?_) ?_
   ·exact qj
   ·exact qj
   ·exact qj
   ·exact qj
   ·exact yw
   all_goals exact qj
  case hstepB3 =>
   refine qg (qg (qg (qg (qg (qg (qg (qg qG ?_) ?_) ?_) ?_) ?_) ?_) ?_) ?_
   all_goals (intro o ho m' a w1 hm' hW hb hd K Q hK; obtain rfl := Option.some.inj ho)
   ·(have e0 : a.tmps[12]?.getD undef = .pointer (some ⟨wo.heap.size, 0, none⟩) := (by rw [hb 12 (by decide +kernel)]; simp); go_simp; exact hK _ _ hW (VY _) rfl)
   ·(have e0 := qo (hd 0 (by kernel_rfl) 77 rfl); have hcw := (hW.cell (p := ⟨wo.heap.size, 3, none⟩) hz8).trans HX3.out; go_simp; exact hK _ _ hW (VY _) rfl)
   ·(have e0 : a.tmps[1]?.getD undef = (.slice Ad fs.length cd) := (by rw [hb 1 (by decide +kernel)]; simp); go_simp; exact hK _ _ hW (VY _) rfl)
   ·(have e0 : a.tmps[16]?.getD undef = (sv it) := (by rw [hb 16 (by decide +kernel)]; simp); go_simp; exact hK _ _ hW (VY _) rfl)
   ·(have e0 := qo (hd 2 (by kernel_rfl) 79 rfl); have e1 := qo (hd 3 (by kernel_rfl) 80 rfl); go_simp; refine (HWI.out _ hW).mono ?_; rintro e w2 ⟨A9, c9, rfl, hr9, hb2⟩; exact hK _ _ (qa3 hW hb2) hb2 ⟨A9, c9, rfl, hr9⟩)
   ·(have e0 : a.tmps[7]?.getD undef = .pointer (some ⟨w.heap.size, 0, none⟩) := (by rw [hb 7 (by decide +kernel)]; simp); have hbl := (hW.block _ hzs).trans HS3.out; have q0 := cell_of_row w1 _ 0 _ _ _ hbl; have q1 := cell_of_row w1 _ 1 _ _ _ hbl; have q2 := cell_of_row w1 _ 2 _ _ _ hbl; have q3 := cell_of_row w1 _ 3 _ _ _ hbl; go_simp; exact hK _ _ hW (VY _) rfl)
   ·(have e0 : a.tmps[3]?.getD undef = (.func (.func 71) #[] #[.pointer (some ⟨b, 0, none⟩)]) := (by rw [hb 3 (by decide +kernel)]; simp); go_simp; exact hK _ _ hW (VY _) rfl)
   (have e0 : a.tmps[4]?.getD undef = (.func (.func 75) #[] #[.pointer (some ⟨b, 0, none⟩)]) := (by rw [hb 4 (by decide +kernel)]; simp); go_simp; exact hK _ _ hW (VY _) rfl)
  case hWbB3 => exact (Below.refl _ _).drew
  intro vs9 w5 hW hF9
  simp only [qF, hdst, List.getElem?_cons_succ, List.getElem?_cons_zero, Option.bind, List.drop_succ_cons, List.drop_zero, Act.put]
  have h1 : vs9 1 = .slice Ap1 us.length cp1 := hF9 1 (by omega)
  obtain ⟨A9, c9', h4, hr9⟩ := hF9 4 (by omega)
  have h5 : vs9 5 = stV cm ct ca cz := hF9 5 (by omega)
  have h6 : vs9 6 = .func (.func 71) #[] #[.pointer (some ⟨b, 0, none⟩)] := hF9 6 (by omega)
  have h7 : vs9 7 = .func (.func 75) #[] #[.pointer (some ⟨b, 0, none⟩)] := hF9 7 (by omega)
  rw [h1, h4, h5, h6, h7]
  have HCALL := qb (HIF.out A9 c9' w5 hW hr9 hdl)
  have HK5 := qb (HKq.out.trans (KO.of (b := b) hW (by omega)))
  clear hF9 h1 h4 h5 h6 h7 hr9 hW HWI HIF
  go_simp
  go_wp2_with fail
  refine HCALL.out.mono ?_
  rintro e w6 ⟨rfl, hb6, hk6⟩
  have HB6 := qb hb6
  have HK6 := qb (HK5.out.trans hk6)
  clear hb6 hk6
  go_wp2
  go_roundw
  case rel => exact ⟨q + 1, by omega, by go_num, by rw [HCT.out, <- List.append_assoc]; exact HB6.out, HK6.out⟩
  case measure => simp [intOf]; omega
 have HEE : Hid (is.take q = is) := by show _ = _; exact List.take_of_length_le (by omega)
 rw [HEE.out] at HBq
 have HP0 := qb (HKq.out.bx H0c.out (by omega) (by decide))
 have HP1 := qb (HKq.out.bx H1c.out (by omega) (by decide))
 have HPK := qb (HKc.out.trans HKq.out)
 go_wp2
 go_roundw
 case rel => exact ⟨j + 1, ⟨cm, ct, ca, cz⟩, _, by omega, by go_num, HP0.out, HP1.out, HFN.out, HBq.out, HN1.out, HN2.out, HPK.out⟩
 case measure => simp [intOf]; omega
theorem JP (d : Nat) : FwC Pt.safeE 71 75 d := by
 induction d with
 | zero => exact yA 0 fun d' h => by omega
 | succ d ih => exact yA (d + 1) fun d' h => by obtain rfl : d = d' := (by omega); exact ih
end Go.Proofs.YtmboieajfdkllaaGreat
