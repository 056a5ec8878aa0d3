import Derived.Test.YtmboieajfdkllaaGreatU32
open Go.Proofs.Tryz
namespace Go.Proofs.YtmboieajfdkllaaGreat
open Go.RowKit Go.Deep
set_option maxRecDepth 100000 in
set_option maxHeartbeats 80000000 in
theorem Xv (d : Dk) (u : Value) (s : Tx) (w : World) (hu : InD w (All w) d u) (hsz : Dk.size d <= 1048576) (hs : s.length <= 1048576) : Calls Tryz.prog 9 #[u, sv s] w (LnS w (Dk.line d s)) := by
 have HU := qb hu
 obtain ⟨ps, xs⟩ := d
 obtain ⟨Ap, cp, Ad, cd, rfl, hp, hcp, hf, hcd⟩ := hu
 dsimp only at hp hcp hf hcd HU ⊢
 obtain ⟨hB0, hX0, hY0⟩ := qE w (qx Ap ps.length cp Ad xs.length cd) #[.slice none 0 0, .slice none 0 0] 30 30
 have hs0 : ((w.alloc (.cells (qx Ap ps.length cp Ad xs.length cd) 30)).alloc (.cells #[.slice none 0 0, .slice none 0 0] 30)).heap.size = w.heap.size + 2 := by simp
 have HDV := qb (VE ⟨ps, xs⟩ _ _ (HU.out.now hB0) hsz)
 have HCP := qb (fun w2 (hb : Below w.heap.size w w2) => Kf ⟨ps, xs⟩ _ w2 (HU.out.now hb) hsz)
 have HB0 := qb hB0
 have HX0 := qb hX0
 have HY0 := qb hY0
 have hs01 := Nat.le_of_eq hs0
 have hs02 := Nat.le_of_eq hs0.symm
 have HLN : Hid (Dk.line ⟨ps, xs⟩ s = if Dk.valid ⟨ps, xs⟩ = true then Dk.say ⟨ps, xs⟩ s else (Dk.zero, [])) := rfl
 have HVS := qb (Dk.valid_size (d := ⟨ps, xs⟩))
 clear hB0 hX0 hY0 hs0
 go_enter func9, ntmps9
 go_upto_region 1 with fail
 generalize (w.alloc (.cells (qx Ap ps.length cp Ad xs.length cd) 30)).alloc (.cells #[.slice none 0 0, .slice none 0 0] 30) = w0 at *
 obtain ⟨x0, x1, -⟩ := qr HX0.out
 obtain ⟨y0, y1, y2, y3⟩ := qr HY0.out
 go_wp2_with fail
 refine HDV.out.mono ?_
 rintro e w1 ⟨rfl, hb⟩
 have HB1 := qb (qa3 HB0.out hb)
 have HX1 := qb (qi HX0.out hb)
 have HY1 := qb (qi HY0.out hb)
 have hz1 : w.heap.size + 2 <= w1.heap.size := by have := hb.size; omega
 clear hb x0 x1 y0 y1 y2 y3 HX0 HY0 hs01 hs02
 obtain ⟨x0, x1, -⟩ := qr HX1.out
 obtain ⟨y0, y1, y2, y3⟩ := qr HY1.out
 cases hv : Dk.valid ⟨ps, xs⟩
 ·rw [hv, if_neg (by simp)] at HLN
  go_wp2
  refine bodyPost_ret (v := .tuple #[dkV none 0 0 none 0 0, sv []]) (by simp [results, results9, go_sem, *]) rfl ⟨_, by rw [HLN.out], ?_, ?_⟩
  ·rw [HLN.out]
   exact ⟨none, 0, none, 0, rfl, fun h => absurd rfl h, Nat.le_refl _, fun h => absurd rfl h, Nat.le_refl _⟩
  exact (HB1.out.setCell (p := ⟨w.heap.size + 1, 0, none⟩) (by show w.heap.size <= w.heap.size + 1; omega) _).setCell (p := ⟨w.heap.size + 1, 1, none⟩) (by show w.heap.size <= w.heap.size + 1; omega) _
 rw [hv, if_pos rfl] at HLN
 have hsv := HVS.out hv
 unfold Dk.size at hsv
 dsimp only at hsv
 have hsp : ps.length + Pt.sizes ps <= 1048576 := by omega
 have hsf : xs.length + Fd.sizes xs <= 1048576 := by omega
 have hsk : Hid (xs.length + Fd.sizes xs <= 26000) := by show _ <= _; omega
 have HPV : Hid (Pt.valid ps = true) := by
  show _ = _
  unfold Dk.valid at hv
  dsimp only at hv
  rw [Bool.and_eq_true] at hv
  exact hv.1
 clear hv HVS hsv
 go_wp2_with fail
 refine (HCP.out w1 HB1.out).mono ?_
 rintro e w5 ⟨A5, c5, rs5, A6, c6, fs6, rfl, hp5, hf5, hb5⟩
 have HD5 : Hid (DOw w5 w1.heap.size A5 c5 rs5 A6 c6 fs6 ⟨ps, xs⟩) := ⟨hp5, hf5⟩
 have HB5 := qb (qa3 HB1.out hb5)
 have HX5 := qb (qi HX1.out hb5)
 have HY5 := qb (qi HY1.out hb5)
 have hz5 : w1.heap.size <= w5.heap.size := hb5.size
 clear hp5 hf5 hb5 x0 x1 y0 y1 y2 y3 HX1 HY1
 go_upto_region 4 with fail
 have HZ6 := qb (heap_alloc_new w5 (.cells (qx A5 rs5.length c5 A6 fs6.length c6) 30))
 have hB6 := (Below.refl w5.heap.size w5).alloc (Nat.le_refl _) (.cells (qx A5 rs5.length c5 A6 fs6.length c6) 30)
 have HB6 := qb (qa3 HB5.out hB6)
 have HX6 := qb (qi HX5.out hB6)
 have HY6 := qb (qi HY5.out hB6)
 have HD6 := qb (HD5.out.keep hB6)
 have hz6 : w5.heap.size + 1 <= (w5.alloc (.cells (qx A5 rs5.length c5 A6 fs6.length c6) 30)).heap.size := by simp
 clear hB6 HX5 HY5 HD5 HB5
 generalize w5.alloc (.cells (qx A5 rs5.length c5 A6 fs6.length c6) 30) = w6 at *
 have HSP := qb (fun w => Zy s (by omega) w)
 have HSQ := qb (fun w => Zy (wd2 s) (by have := (jG s).2; omega) w)
 have hln := qb (And.intro (jG s).2 (jG (wd2 s)))
 have HRN := qb (ku (s := s))
 have HWH := qb (Qy (s := s))
 have HRL := qb (vH (s := s))
 obtain ⟨wd, hw1⟩ : ∃ wd, wd1 s = wd := ⟨_, rfl⟩
 obtain ⟨rest, hw2⟩ : ∃ rest, wd2 s = rest := ⟨_, rfl⟩
 obtain ⟨nm, hw3⟩ : ∃ nm, wd1 rest = nm := ⟨_, rfl⟩
 obtain ⟨tx, hw4⟩ : ∃ tx, wd2 rest = tx := ⟨_, rfl⟩
 rw [hw1, hw2] at HSP HWH
 rw [hw2] at HSQ hln HRN HRL
 rw [hw3, hw4] at HSQ hln
 have HW1 := qb hw1
 have HW2 := qb hw2
 have HW3 := qb hw3
 have HW4 := qb hw4
 clear hw1 hw2 hw3 hw4
 go_wp2_with fail
 refine (HSP.out w6).mono ?_
 rintro e w7 ⟨rfl, hb⟩
 have HB7 := qb (qa3 HB6.out hb)
 have HX7 := qb (qi HX6.out hb)
 have HY7 := qb (qi HY6.out hb)
 have HZ7 := qb (qi HZ6.out hb)
 have HD7 := qb (HD6.out.keep hb)
 clear hb HX6 HY6 HZ6 HD6 HB6 HSP
 go_wp2_with fail
 refine (HSQ.out w7).mono ?_
 rintro e w8 ⟨rfl, hb⟩
 have HB8 := qb (qa3 HB7.out hb)
 have HX8 := qb (qi HX7.out hb)
 have HY8 := qb (qi HY7.out hb)
 have HZ8 := qb (qi HZ7.out hb)
 have HD8 := qb (HD7.out.keep hb)
 clear hb HX7 HY7 HZ7 HD7 HB7 HSQ
 have hz8 : w5.heap.size + 1 <= w8.heap.size := lt_of_block HZ8.out
 clear hz6
 obtain ⟨x0, x1, -⟩ := qr HX8.out
 obtain ⟨y0, y1, y2, y3⟩ := qr HY8.out
 obtain ⟨z0, z1, -⟩ := qr HZ8.out
 cases hR : (rest == [])
 case true =>
  have hR2 : List.isEmpty rest = true := by simpa using hR
  rcases vG s with ⟨F1, F2, F3⟩ | ⟨F1, F2, F3⟩ | ⟨F1, F2, F3⟩ | ⟨F1, F2, F3⟩
  case inl =>
   obtain ⟨T1, T2, T3, T4, -⟩ := HWH.out (.inl F1)
   have HE : Hid (Dk.line ⟨ps, xs⟩ s = (⟨ps, xs⟩, if (zs ps xs).2 = true then orE (zs ps xs).1 else Dk.noW)) := HLN.out.trans (Dk.say_fill F1)
   have HFS := qb (XQ ps Ap cp xs Ad cd w8 (hp.now HB8.out) hsp hcp (hf.now HB8.out) hsf)
   generalize zs ps xs = r at *
   obtain ⟨out, ok⟩ := r
   dsimp only at HE HFS
   go_wp2_with fail
   refine HFS.out.mono ?_
   rintro e w9 ⟨rfl, hb⟩
   have HB9 := qb (qa3 HB8.out hb)
   have HY9 := qb (qi HY8.out hb)
   have HZ9 := qb (qi HZ8.out hb)
   have HD9 := qb (HD8.out.keep hb)
   have hzk : w8.heap.size <= w9.heap.size := hb.size
   clear hb x0 x1 y0 y1 y2 y3 z0 z1 HB8 HX8 HY8 HZ8 HD8
   obtain ⟨y0, y1, y2, y3⟩ := qr HY9.out
   obtain ⟨z0, z1, z2, z3⟩ := qr HZ9.out
   cases ok
   ·have HE2 : Hid (Dk.line ⟨ps, xs⟩ s = (⟨ps, xs⟩, Dk.noW)) := by show _ = _; rw [HE.out, if_neg (by simp)]
    go_wp2
    refine bodyPost_ret (v := .tuple #[dkV A5 rs5.length c5 A6 fs6.length c6, sv [110, 111]]) (by simp [results, results9, go_sem, *]) rfl ⟨dkV A5 rs5.length c5 A6 fs6.length c6, by rw [HE2.out]; try rfl, ?_, ?_⟩
    ·rw [HE2.out]
     exact ((HD9.out.set (p := ⟨w.heap.size + 1, 0, none⟩) (by show w.heap.size + 1 < w1.heap.size; omega) _).set (p := ⟨w.heap.size + 1, 1, none⟩) (by show w.heap.size + 1 < w1.heap.size; omega) _).inR (by omega)
    exact (HB9.out.setCell (p := ⟨w.heap.size + 1, 0, none⟩) (by show w.heap.size <= w.heap.size + 1; omega) _).setCell (p := ⟨w.heap.size + 1, 1, none⟩) (by show w.heap.size <= w.heap.size + 1; omega) _
   by_cases ho : out = []
   ·have hq : (out == []) = true := by rw [ho]; rfl
    have hq2 : List.isEmpty out = true := by rw [ho]; rfl
    have HE2 : Hid (Dk.line ⟨ps, xs⟩ s = (⟨ps, xs⟩, [101, 109, 112, 116, 121])) := by show _ = _; rw [HE.out, if_pos rfl]; unfold orE; rw [if_pos ho]
    clear ho
    go_wp2
    refine bodyPost_ret (v := .tuple #[dkV A5 rs5.length c5 A6 fs6.length c6, sv [101, 109, 112, 116, 121]]) (by simp [results, results9, go_sem, *]) rfl ⟨dkV A5 rs5.length c5 A6 fs6.length c6, by rw [HE2.out]; try rfl, ?_, ?_⟩
    ·rw [HE2.out]
     exact ((HD9.out.set (p := ⟨w.heap.size + 1, 0, none⟩) (by show w.heap.size + 1 < w1.heap.size; omega) _).set (p := ⟨w.heap.size + 1, 1, none⟩) (by show w.heap.size + 1 < w1.heap.size; omega) _).inR (by omega)
    exact (HB9.out.setCell (p := ⟨w.heap.size + 1, 0, none⟩) (by show w.heap.size <= w.heap.size + 1; omega) _).setCell (p := ⟨w.heap.size + 1, 1, none⟩) (by show w.heap.size <= w.heap.size + 1; omega) _
   have hq : (out == []) = false := by simpa using ho
   have hq2 : List.isEmpty out = false := by cases out with | nil => exact absurd rfl ho | cons => rfl
   have HE2 : Hid (Dk.line ⟨ps, xs⟩ s = (⟨ps, xs⟩, out)) := by show _ = _; rw [HE.out, if_pos rfl]; unfold orE; rw [if_neg ho]
   clear ho
   go_wp2
   refine bodyPost_ret (v := .tuple #[dkV A5 rs5.length c5 A6 fs6.length c6, sv out]) (by simp [results, results9, go_sem, *]) rfl ⟨dkV A5 rs5.length c5 A6 fs6.length c6, by rw [HE2.out]; try rfl, ?_, ?_⟩
   ·rw [HE2.out]
    exact ((HD9.out.set (p := ⟨w.heap.size + 1, 0, none⟩) (by show w.heap.size + 1 < w1.heap.size; omega) _).set (p := ⟨w.heap.size + 1, 1, none⟩) (by show w.heap.size + 1 < w1.heap.size; omega) _).inR (by omega)
   exact (HB9.out.setCell (p := ⟨w.heap.size + 1, 0, none⟩) (by show w.heap.size <= w.heap.size + 1; omega) _).setCell (p := ⟨w.heap.size + 1, 1, none⟩) (by show w.heap.size <= w.heap.size + 1; omega) _
  case inr.inl =>
   obtain ⟨T1, T2, T3, T4, -⟩ := HWH.out (.inr (.inl F2))
   have HE : Hid (Dk.line ⟨ps, xs⟩ s = (⟨ps, xs⟩, orE (zQ ps xs))) := HLN.out.trans (Dk.say_plain F1 F2)
   have HFS := qb (XP ps Ap cp xs Ad cd w8 (hp.now HB8.out) hsp hcp (hf.now HB8.out) hsf)
   generalize zQ ps xs = out at *
   go_wp2_with fail
   refine HFS.out.mono ?_
   rintro e w9 ⟨rfl, hb⟩
   have HB9 := qb (qa3 HB8.out hb)
   have HY9 := qb (qi HY8.out hb)
   have HZ9 := qb (qi HZ8.out hb)
   have HD9 := qb (HD8.out.keep hb)
   have hzk : w8.heap.size <= w9.heap.size := hb.size
   clear hb x0 x1 y0 y1 y2 y3 z0 z1 HB8 HX8 HY8 HZ8 HD8
   obtain ⟨y0, y1, y2, y3⟩ := qr HY9.out
   obtain ⟨z0, z1, z2, z3⟩ := qr HZ9.out
   by_cases ho : out = []
   ·have hq : (out == []) = true := by rw [ho]; rfl
    have hq2 : List.isEmpty out = true := by rw [ho]; rfl
    have HE2 : Hid (Dk.line ⟨ps, xs⟩ s = (⟨ps, xs⟩, [101, 109, 112, 116, 121])) := by show _ = _; rw [HE.out]; unfold orE; rw [if_pos ho]
    clear ho
    go_wp2
    refine bodyPost_ret (v := .tuple #[dkV A5 rs5.length c5 A6 fs6.length c6, sv [101, 109, 112, 116, 121]]) (by simp [results, results9, go_sem, *]) rfl ⟨dkV A5 rs5.length c5 A6 fs6.length c6, by rw [HE2.out]; try rfl, ?_, ?_⟩
    ·rw [HE2.out]
     exact ((HD9.out.set (p := ⟨w.heap.size + 1, 0, none⟩) (by show w.heap.size + 1 < w1.heap.size; omega) _).set (p := ⟨w.heap.size + 1, 1, none⟩) (by show w.heap.size + 1 < w1.heap.size; omega) _).inR (by omega)
    exact (HB9.out.setCell (p := ⟨w.heap.size + 1, 0, none⟩) (by show w.heap.size <= w.heap.size + 1; omega) _).setCell (p := ⟨w.heap.size + 1, 1, none⟩) (by show w.heap.size <= w.heap.size + 1; omega) _
   have hq : (out == []) = false := by simpa using ho
   have hq2 : List.isEmpty out = false := by cases out with | nil => exact absurd rfl ho | cons => rfl
   have HE2 : Hid (Dk.line ⟨ps, xs⟩ s = (⟨ps, xs⟩, out)) := by show _ = _; rw [HE.out]; unfold orE; rw [if_neg ho]
   clear ho
   go_wp2
   refine bodyPost_ret (v := .tuple #[dkV A5 rs5.length c5 A6 fs6.length c6, sv out]) (by simp [results, results9, go_sem, *]) rfl ⟨dkV A5 rs5.length c5 A6 fs6.length c6, by rw [HE2.out]; try rfl, ?_, ?_⟩
   ·rw [HE2.out]
    exact ((HD9.out.set (p := ⟨w.heap.size + 1, 0, none⟩) (by show w.heap.size + 1 < w1.heap.size; omega) _).set (p := ⟨w.heap.size + 1, 1, none⟩) (by show w.heap.size + 1 < w1.heap.size; omega) _).inR (by omega)
   exact (HB9.out.setCell (p := ⟨w.heap.size + 1, 0, none⟩) (by show w.heap.size <= w.heap.size + 1; omega) _).setCell (p := ⟨w.heap.size + 1, 1, none⟩) (by show w.heap.size <= w.heap.size + 1; omega) _
  case inr.inr.inl =>
   obtain ⟨T1, T2, T3, T4, -⟩ := HWH.out (.inr (.inr F3))
   have HE2 : Hid (Dk.line ⟨ps, xs⟩ s = (⟨ps, xs⟩, jv (Pt.fault ps))) := HLN.out.trans (Dk.say_check F1 F2 F3)
   have HTF := qb (fun w9 (hb : Below w8.heap.size w8 w9) => KN ps Ap cp w9 (hp.now (qa3 HB8.out hb)) hsp)
   have hfr := Pt.fault_range HPV.out
   have HFT := qb (fun w9 => KL (Pt.fault ps) hfr.1 hfr.2 w9)
   generalize Pt.fault ps = ft at *
   generalize jv ft = ans at *
   have HXC := qb x0
   have hzx : w.heap.size < w8.heap.size := by omega
   clear hfr
   go_upto_region 36 with fail
   refine qU 5 (by kernel_rfl) (by kernel_rfl) (fun _ w => Below (World.heap w8).size w8 w) KB (fun i => ([bIs (dkV A5 rs5.length c5 A6 fs6.length c6), bIs (.pointer (some ⟨w.heap.size, 0, none⟩)), bIs (.slice Ap ps.length cp), bIs (.int .i64 ft), bIs (sv ans)] : List TyB).getD i bAny) ?hWbB1 ?hkeepB1 ?hstepB1 ?hfinbB1
   case hkeepB1 =>
    refine qg (qg (qg (qg (qg qG ?_) ?_) ?_) ?_) ?_
    all_goals exact qj
   case hstepB1 =>
    refine qg (qg (qg (qg (qg qG ?_) ?_) ?_) ?_) ?_
    all_goals (intro o ho m' a w1 hm' hW hb hd K Q hK; obtain rfl := Option.some.inj ho)
    ·(have e0 : a.tmps[6]?.getD undef = .pointer (some ⟨w5.heap.size, 0, none⟩) := (by rw [hb 6 (by decide +kernel)]; simp); have hbl := (hW.block _ hz8).trans HZ8.out; have q0 := cell_of_row w1 _ 0 _ _ _ hbl; have q1 := cell_of_row w1 _ 1 _ _ _ hbl; go_simp; exact hK _ _ hW (VY _) rfl)
    ·(have e0 : a.tmps[2]?.getD undef = .pointer (some ⟨w.heap.size, 0, none⟩) := (by rw [hb 2 (by decide +kernel)]; simp); go_simp; exact hK _ _ hW (VY _) rfl)
    ·(have e0 := qo (hd 1 (by kernel_rfl) 161 rfl); have hcw := (hW.cell (p := ⟨w.heap.size, 0, none⟩) hzx).trans HXC.out; go_simp; exact hK _ _ hW (VY _) rfl)
    ·(have e0 := qo (hd 2 (by kernel_rfl) 162 rfl); go_simp; refine (HTF.out _ hW).mono ?_; rintro e w2 ⟨rfl, hb2⟩; exact hK _ _ (qa3 hW hb2) hb2 rfl)
    (have e0 := qo (hd 3 (by kernel_rfl) 163 rfl); go_simp; refine (HFT.out _).mono ?_; rintro e w2 ⟨rfl, hb2⟩; exact hK _ _ (qa3 hW hb2) hb2 rfl)
   case hWbB1 => exact (Below.refl _ _).drew
   intro vs w9 hb hF
   have h0 : vs 0 = dkV A5 rs5.length c5 A6 fs6.length c6 := hF 0 (by omega)
   have h4 : vs 4 = sv ans := hF 4 (by omega)
   simp only [qF, hdst, List.getElem?_cons_succ, List.getElem?_cons_zero, Option.bind, List.drop_succ_cons, List.drop_zero, Act.put]
   rw [h0, h4]
   clear hF h0 h4 HXC hzx
   have HB9 := qb (qa3 HB8.out hb)
   have HY9 := qb (qi HY8.out hb)
   have HZ9 := qb (qi HZ8.out hb)
   have HD9 := qb (HD8.out.keep hb)
   have hzk : w8.heap.size <= w9.heap.size := hb.size
   clear hb x0 x1 y0 y1 y2 y3 z0 z1 HB8 HX8 HY8 HZ8 HD8
   obtain ⟨y0, y1, y2, y3⟩ := qr HY9.out
   obtain ⟨z0, z1, z2, z3⟩ := qr HZ9.out
   go_simp
   go_wp2
   refine bodyPost_ret (v := .tuple #[dkV A5 rs5.length c5 A6 fs6.length c6, sv ans]) (by simp [results, results9, go_sem, *]) rfl ⟨dkV A5 rs5.length c5 A6 fs6.length c6, by rw [HE2.out]; try rfl, ?_, ?_⟩
   ·rw [HE2.out]
    exact ((HD9.out.set (p := ⟨w.heap.size + 1, 0, none⟩) (by show w.heap.size + 1 < w1.heap.size; omega) _).set (p := ⟨w.heap.size + 1, 1, none⟩) (by show w.heap.size + 1 < w1.heap.size; omega) _).inR (by omega)
   exact (HB9.out.setCell (p := ⟨w.heap.size + 1, 0, none⟩) (by show w.heap.size <= w.heap.size + 1; omega) _).setCell (p := ⟨w.heap.size + 1, 1, none⟩) (by show w.heap.size <= w.heap.size + 1; omega) _
  case inr.inr.inr =>
   have HE : Hid (Dk.line ⟨ps, xs⟩ s = (⟨ps, xs⟩, Dk.whatW)) := HLN.out.trans (Dk.say_none F1 F2 F3 (by rw [HW2.out]; exact hR))
   rcases kt wd with ⟨T1, T2, T3, T4⟩ | ⟨T1, T2, T3, T4⟩ | ⟨T1, T2, T3, T4⟩ | ⟨T1, T2, T3, T4⟩ | ⟨T1, T2, T3, T4⟩
   all_goals
    go_wp2
    refine bodyPost_ret (v := .tuple #[dkV A5 rs5.length c5 A6 fs6.length c6, sv [119, 104, 97, 116]]) (by simp [results, results9, go_sem, *]) rfl ⟨dkV A5 rs5.length c5 A6 fs6.length c6, by rw [HE.out]; try rfl, ?_, ?_⟩
    ·rw [HE.out]
     exact ((HD8.out.set (p := ⟨w.heap.size + 1, 0, none⟩) (by show w.heap.size + 1 < w1.heap.size; omega) _).set (p := ⟨w.heap.size + 1, 1, none⟩) (by show w.heap.size + 1 < w1.heap.size; omega) _).inR (by omega)
    exact (HB8.out.setCell (p := ⟨w.heap.size + 1, 0, none⟩) (by show w.heap.size <= w.heap.size + 1; omega) _).setCell (p := ⟨w.heap.size + 1, 1, none⟩) (by show w.heap.size <= w.heap.size + 1; omega) _
 have hR2 : List.isEmpty rest = false := by cases rest with | nil => cases hR | cons => rfl
 obtain ⟨F1, F2, F3⟩ := HRN.out hR
 have hln2 := hln.out
 have hrl : rest.length <= 1048575 := by have := HRL.out hR; omega
 have hnl : nm.length <= 1048576 := by omega
 have htl : tx.length <= 1048576 := by omega
 clear hln2
 rcases kt wd with ⟨T1, T2, T3, T4⟩ | ⟨T1, T2, T3, T4⟩ | ⟨T1, T2, T3, T4⟩ | ⟨T1, T2, T3, T4⟩ | ⟨T1, T2, T3, T4⟩
 ·-- template
  have HRT := qb (QN rest w8 hrl)
  cases hrt : Pt.readT false rest
  ·have HE2 : Hid (Dk.line ⟨ps, xs⟩ s = (⟨ps, xs⟩, Dk.noW)) := by
    have e1 := HW1.out; have e2 := HW2.out
    show _ = _
    subst e1 e2
    exact HLN.out.trans (Dk.say_tno hR T1 hrt)
   rw [hrt] at HRT
   go_wp2_with fail
   refine HRT.out.mono ?_
   rintro e w9 ⟨⟨At, lt, ct, rfl⟩, hb⟩
   have HB9 := qb (qa3 HB8.out hb)
   have HY9 := qb (qi HY8.out hb)
   have HZ9 := qb (qi HZ8.out hb)
   have HD9 := qb (HD8.out.keep hb)
   have hzk : w8.heap.size <= w9.heap.size := hb.size
   clear hb x0 x1 y0 y1 y2 y3 z0 z1 HB8 HX8 HY8 HZ8 HD8
   obtain ⟨y0, y1, y2, y3⟩ := qr HY9.out
   obtain ⟨z0, z1, z2, z3⟩ := qr HZ9.out
   go_wp2
   refine bodyPost_ret (v := .tuple #[dkV A5 rs5.length c5 A6 fs6.length c6, sv [110, 111]]) (by simp [results, results9, go_sem, *]) rfl ⟨dkV A5 rs5.length c5 A6 fs6.length c6, by rw [HE2.out]; try rfl, ?_, ?_⟩
   ·rw [HE2.out]
    exact ((HD9.out.set (p := ⟨w.heap.size + 1, 0, none⟩) (by show w.heap.size + 1 < w1.heap.size; omega) _).set (p := ⟨w.heap.size + 1, 1, none⟩) (by show w.heap.size + 1 < w1.heap.size; omega) _).inR (by omega)
   exact (HB9.out.setCell (p := ⟨w.heap.size + 1, 0, none⟩) (by show w.heap.size <= w.heap.size + 1; omega) _).setCell (p := ⟨w.heap.size + 1, 1, none⟩) (by show w.heap.size <= w.heap.size + 1; omega) _
  rename_i L
  have HE2 : Hid (Dk.line ⟨ps, xs⟩ s = (⟨L, xs⟩, Dk.okW)) := by
   have e1 := HW1.out; have e2 := HW2.out
   show _ = _
   subst e1 e2
   exact HLN.out.trans (Dk.say_tpl hR T1 hrt)
  rw [hrt] at HRT
  go_wp2_with fail
  refine HRT.out.mono ?_
  rintro e w9 ⟨⟨At, ct, rt, rfl, hpl⟩, hb⟩
  have HPL := qb hpl
  have hz89 : w8.heap.size <= w9.heap.size := hb.size
  have HB9 := qb (qa3 HB8.out hb)
  have HY9 := qb (qi HY8.out hb)
  have HZ9 := qb (qi HZ8.out hb)
  have HD9 := qb (HD8.out.keep hb)
  have hzk : w8.heap.size <= w9.heap.size := hb.size
  clear hb x0 x1 y0 y1 y2 y3 z0 z1 HB8 HX8 HY8 HZ8 HD8
  obtain ⟨y0, y1, y2, y3⟩ := qr HY9.out
  obtain ⟨z0, z1, z2, z3⟩ := qr HZ9.out
  clear hpl
  go_upto_region 11 with fail
  have HZ10 : Hid ((w9.setCell ⟨w5.heap.size, 0, none⟩ (.slice At rt.length ct)).heap[w5.heap.size]? = some (.cells #[.slice At rt.length ct, .slice A6 fs6.length c6] 30 (0, 0))) := qP HZ9.out
  have HY10 : Hid ((w9.setCell ⟨w5.heap.size, 0, none⟩ (.slice At rt.length ct)).heap[w.heap.size + 1]? = some (.cells #[.slice none 0 0, .slice none 0 0] 30 (0, 0))) := (Below.heap_setCell _ _ _ _ (by show w.heap.size + 1 ≠ w5.heap.size; omega)).trans HY9.out
  have HF10 := qb (HD9.out.data.other (w' := w9.setCell ⟨w5.heap.size, 0, none⟩ (.slice At rt.length ct)) (fun j cs T hT hc => Below.heap_setCell _ _ _ _ (fun e => by
   have e2 : j = w5.heap.size := e
   rw [e2, HZ9.out] at hc
   injection hc with hc
   injection hc with _ hc
   rcases hT with rfl | rfl <;> exact absurd hc (by decide))))
  have hs10 : w9.heap.size <= (w9.setCell ⟨w5.heap.size, 0, none⟩ (.slice At rt.length ct)).heap.size := by simp [World.setCell]
  have HP10 : Hid (RdP (w9.setCell ⟨w5.heap.size, 0, none⟩ (.slice At rt.length ct)) (fun j => w8.heap.size <= j /\ j < (w9.setCell ⟨w5.heap.size, 0, none⟩ (.slice At rt.length ct)).heap.size) At L) := HPL.out.rd.keep (fun p hp => World.cell?_of_block (Below.heap_setCell _ _ _ _ (by have := hp.1; show p.block ≠ w5.heap.size; omega))) (fun b hb => ⟨hb.1, Nat.lt_of_lt_of_le hb.2 hs10⟩)
  have HB10 := qb (HB9.out.setCell (p := ⟨w5.heap.size, 0, none⟩) (by show w.heap.size <= w5.heap.size; omega) (.slice At rt.length ct))
  have HPC := qb (And.intro HPL.out.len HPL.out.cap)
  generalize w9.setCell ⟨w5.heap.size, 0, none⟩ (.slice At rt.length ct) = w10 at *
  clear y0 y1 y2 y3 z0 z1 z2 z3 HPL
  obtain ⟨y0, y1, y2, y3⟩ := qr HY10.out
  obtain ⟨z0, z1, -⟩ := qr HZ10.out
  go_wp2
  refine bodyPost_ret (v := .tuple #[dkV At rt.length ct A6 fs6.length c6, sv [111, 107]]) (by simp [results, results9, go_sem, *]) rfl ⟨dkV At rt.length ct A6 fs6.length c6, by rw [HE2.out]; rfl, ?_, ?_⟩
  ·rw [HE2.out]
   have hk : ∀ (v0 v1 : Value) (j : Nat), w.heap.size + 2 <= j -> ((w10.setCell ⟨w.heap.size + 1, 0, none⟩ v0).setCell ⟨w.heap.size + 1, 1, none⟩ v1).heap[j]? = w10.heap[j]? := fun v0 v1 j hj => (Below.heap_setCell _ _ _ _ (by show j ≠ w.heap.size + 1; omega)).trans (Below.heap_setCell _ _ _ _ (by show j ≠ w.heap.size + 1; omega))
   exact inD_mix HP10.out HPC.out.1 HPC.out.2 HF10.out (by omega) (by omega) (fun j h1 _ => hk _ _ j (by omega)) (fun j h1 _ => hk _ _ j (by omega)) (by simp [World.setCell])
  exact (HB10.out.setCell (p := ⟨w.heap.size + 1, 0, none⟩) (by show w.heap.size <= w.heap.size + 1; omega) _).setCell (p := ⟨w.heap.size + 1, 1, none⟩) (by show w.heap.size <= w.heap.size + 1; omega) _
 ·-- text
  have HE : Hid (Dk.line ⟨ps, xs⟩ s = Dk.ifOk ⟨ps, xs⟩ ⟨ps, Fd.chg (Fd.setT tx) nm xs⟩) := by
   have e1 := HW1.out; have e2 := HW2.out; have e3 := HW3.out; have e4 := HW4.out
   show _ = _
   subst e1 e2 e3 e4
   exact HLN.out.trans (Dk.say_text hR T1 T2)
  go_wp2_with fail
  refine (HCP.out w8 HB8.out).mono ?_
  rintro e w9 ⟨A7, c7, rs7, A9, c9, fs9, rfl, hp9, hf9, hb9⟩
  go_wp2_with fail
  refine (kW nm xs A7 A9 rs7.length c7 c9 w8.heap.size fs9 w9 hf9 hb9.size (by omega)).mono ?_
  rintro e w10 ⟨A10, c10, fs10, rfl, hf10, hg10⟩
  have hgb := zo hg10 hb9.size (fun g hg => (hf9.own.lt g hg).1)
  have HD10 : Hid (DOw w10 w8.heap.size A7 c7 rs7 A10 c10 fs10 ⟨ps, Fd.put nm xs⟩) := ⟨kv hp9 hf9 hg10, hf10⟩
  have HB10 := qb (hb9.trans hgb)
  have hz10 : w8.heap.size <= w10.heap.size := HB10.out.size
  clear hp9 hf9 hb9 hgb hf10 hg10
  go_upto_region 14 with fail
  have HQ11 := qb (heap_alloc_new w10 (.cells (qx A7 rs7.length c7 A10 fs10.length c10) 30))
  have hB11 := (Below.refl w10.heap.size w10).alloc (Nat.le_refl _) (.cells (qx A7 rs7.length c7 A10 fs10.length c10) 30)
  have HB11 := qb (HB10.out.trans (hB11.mono hz10))
  have HD11 := qb (HD10.out.keep hB11)
  clear hB11 HD10 HB10
  generalize w10.alloc (.cells (qx A7 rs7.length c7 A10 fs10.length c10) 30) = w11 at *
  have hz11 : w10.heap.size + 1 <= w11.heap.size := lt_of_block HQ11.out
  have HKX := qb (Fd.ix_lt_put nm xs)
  obtain ⟨g, rfl, hgB, hgs⟩ := zJ HD11.out.data.own (by rw [HD11.out.data.len]; have := HKX.out; show 0 < (Fd.put nm xs).length; omega)
  have hki : Fd.ix nm xs < fs10.length := by rw [HD11.out.data.len]; exact HKX.out
  have hri : fs10[Fd.ix nm xs]? = some fs10[Fd.ix nm xs] := List.getElem?_eq_getElem hki
  generalize fs10[Fd.ix nm xs] = r1 at hri
  obtain ⟨n1, t1, h1, A1, l1, c1⟩ := r1
  have hxi : (Fd.put nm xs)[Fd.ix nm xs]? = some ((Fd.put nm xs)[Fd.ix nm xs]'HKX.out) := List.getElem?_eq_getElem HKX.out
  generalize (Fd.put nm xs)[Fd.ix nm xs]'HKX.out = f1 at hxi
  have HRI := qb hri
  have HXI := qb hxi
  have HEL := qb (HD11.out.data.els _ _ _ hri hxi)
  have HGQ : Hid (g ≠ w10.heap.size) := fun e => by
   obtain ⟨cs, hc⟩ := HD11.out.data.ty.1 g rfl
   rw [e, HQ11.out] at hc
   injection hc with hc
   injection hc with _ hc
   exact absurd hc (by decide)
  have hgq1 := HGQ.out
  have hgq2 := HGQ.out.symm
  clear hri hxi x0 x1 y0 y1 y2 y3 z0 z1
  obtain ⟨p0, p1, -⟩ := qr HQ11.out
  obtain ⟨x0, x1, x2, x3, q0, q1, q2, q3⟩ := HD11.out.data.cells_of HRI.out
  have HFL := qb (HD11.out.data.cell HRI.out HXI.out (j := 1) (by omega) ⟨n1, tx, h1, A1, l1, c1⟩ (Fd.setT tx f1) (v := sv tx) rfl ⟨rfl, rfl, rfl⟩ ⟨HEL.out.1, rfl, HEL.out.2.2.1, rfl⟩)
  have HCH := qb (jz (Fd.setT tx) HXI.out)
  rw [<- HCH.out] at HFL
  change Hid (FLo _ _ _ _ _ (Fd.chg (Fd.setT tx) nm xs)) at HFL
  replace HFL := qb (HFL.out.at (w' := w11.setCell ⟨g, Fd.ix nm xs * 4 + 1, none⟩ (sv tx)) (fun _ _ _ => rfl))
  have HYL := qb (And.intro (Fd.chg_len (Fd.setT tx) nm xs) (Fd.chg_size (Fd.setT_size tx) nm xs))
  go_upto_region 20 with fail
  have HP12 := qb (HD11.out.parts.other (w' := w11.setCell ⟨g, Fd.ix nm xs * 4 + 1, none⟩ (sv tx)) (OffT.set (p := ⟨g, Fd.ix nm xs * 4 + 1, none⟩) (v := sv tx) (T2 := 62) (HD11.out.data.ty.1 g rfl) (by decide)))
  have HQ12 : Hid ((w11.setCell ⟨g, Fd.ix nm xs * 4 + 1, none⟩ (sv tx)).heap[w10.heap.size]? = some (.cells (qx A7 rs7.length c7 (some ⟨g, 0, none⟩) fs10.length c10) 30 (0, 0))) := (show (w11.setCell ⟨g, Fd.ix nm xs * 4 + 1, none⟩ (sv tx)).heap[w10.heap.size]? = w11.heap[w10.heap.size]? from Below.heap_setCell _ _ _ _ HGQ.out.symm).trans HQ11.out
  have HB12 : Hid (Below w8.heap.size w8 (w11.setCell ⟨g, Fd.ix nm xs * 4 + 1, none⟩ (sv tx))) := HB11.out.setCell (p := ⟨g, Fd.ix nm xs * 4 + 1, none⟩) (by show w8.heap.size <= g; exact hgB) (sv tx)
  generalize w11.setCell ⟨g, Fd.ix nm xs * 4 + 1, none⟩ (sv tx) = w12 at *
  generalize Fd.chg (Fd.setT tx) nm xs = ys at *
  have hyl := HYL.out
  have hk26 := hsk.out
  have hyd : ys.length + Fd.sizes ys <= 4194304 := by omega
  clear hyl hk26 HYL HD11 HB11 HQ11
  have HD12 : Hid (DOw w12 w8.heap.size A7 c7 rs7 (some ⟨g, 0, none⟩) c10 _ ⟨ps, ys⟩) := ⟨HP12.out, HFL.out⟩
  have hI12 := HD12.out.inD
  rw [List.length_set] at hI12
  have HDV2 := qb (kn ⟨ps, ys⟩ _ w12 hI12 hsp hyd)
  clear hI12 p0 p1 hgq1 hgq2
  obtain ⟨p0, p1, -⟩ := qr HQ12.out
  go_wp2_with fail
  refine HDV2.out.mono ?_
  rintro e w13 ⟨rfl, hb⟩
  have HB13 := qb (qa3 HB12.out hb)
  have HD13 := qb (HD12.out.keep hb)
  have HQ13 := qb (qi HQ12.out hb)
  have HBW := qb (qa3 HB8.out HB13.out)
  have HY13 := qb (qi HY8.out HB13.out)
  have HZ13 := qb (qi HZ8.out HB13.out)
  have HX13 := qb (HD8.out.keep HB13.out)
  clear hb p0 p1 HDV2
  obtain ⟨p0, p1, -⟩ := qr HQ13.out
  obtain ⟨y0, y1, y2, y3⟩ := qr HY13.out
  obtain ⟨z0, z1, -⟩ := qr HZ13.out
  cases hvy : Dk.valid ⟨ps, ys⟩
  ·have HE2 : Hid (Dk.line ⟨ps, xs⟩ s = (⟨ps, xs⟩, Dk.noW)) := HE.out.trans (Dk.ifOk_no hvy)
   go_wp2
   refine bodyPost_ret (v := .tuple #[dkV A5 rs5.length c5 A6 fs6.length c6, sv [110, 111]]) (by simp [results, results9, go_sem, *]) rfl ⟨dkV A5 rs5.length c5 A6 fs6.length c6, by rw [HE2.out]; try rfl, ?_, ?_⟩
   ·rw [HE2.out]
    exact ((HX13.out.set (p := ⟨w.heap.size + 1, 0, none⟩) (by show w.heap.size + 1 < w1.heap.size; omega) _).set (p := ⟨w.heap.size + 1, 1, none⟩) (by show w.heap.size + 1 < w1.heap.size; omega) _).inR (by omega)
   exact (HBW.out.setCell (p := ⟨w.heap.size + 1, 0, none⟩) (by show w.heap.size <= w.heap.size + 1; omega) _).setCell (p := ⟨w.heap.size + 1, 1, none⟩) (by show w.heap.size <= w.heap.size + 1; omega) _
  have HE2 : Hid (Dk.line ⟨ps, xs⟩ s = (⟨ps, ys⟩, Dk.okW)) := HE.out.trans (Dk.ifOk_yes hvy)
  go_wp2
  refine bodyPost_ret (v := .tuple #[dkV A7 rs7.length c7 (some ⟨g, 0, none⟩) fs10.length c10, sv [111, 107]]) (by simp [results, results9, go_sem, *]) rfl ⟨dkV A7 rs7.length c7 (some ⟨g, 0, none⟩) fs10.length c10, by rw [HE2.out]; rfl, ?_, ?_⟩
  ·rw [HE2.out]
   have h9 := ((HD13.out.set (p := ⟨w.heap.size + 1, 0, none⟩) (by show w.heap.size + 1 < w8.heap.size; omega) (.slice A7 rs7.length c7)).set (p := ⟨w.heap.size + 1, 1, none⟩) (by show w.heap.size + 1 < w8.heap.size; omega) (.slice (some ⟨g, 0, none⟩) fs10.length c10)).inR (B0 := w.heap.size) (by omega)
   rw [List.length_set] at h9
   exact h9
  exact (HBW.out.setCell (p := ⟨w.heap.size + 1, 0, none⟩) (by show w.heap.size <= w.heap.size + 1; omega) _).setCell (p := ⟨w.heap.size + 1, 1, none⟩) (by show w.heap.size <= w.heap.size + 1; omega) _
 ·-- item
  have HE : Hid (Dk.line ⟨ps, xs⟩ s = Dk.ifOk ⟨ps, xs⟩ ⟨ps, Fd.chg (Fd.addI tx) nm xs⟩) := by
   have e1 := HW1.out; have e2 := HW2.out; have e3 := HW3.out; have e4 := HW4.out
   show _ = _
   subst e1 e2 e3 e4
   exact HLN.out.trans (Dk.say_item hR T1 T2 T3)
  go_wp2_with fail
  refine (HCP.out w8 HB8.out).mono ?_
  rintro e w9 ⟨A7, c7, rs7, A9, c9, fs9, rfl, hp9, hf9, hb9⟩
  go_wp2_with fail
  refine (kW nm xs A7 A9 rs7.length c7 c9 w8.heap.size fs9 w9 hf9 hb9.size (by omega)).mono ?_
  rintro e w10 ⟨A10, c10, fs10, rfl, hf10, hg10⟩
  have hgb := zo hg10 hb9.size (fun g hg => (hf9.own.lt g hg).1)
  have HD10 : Hid (DOw w10 w8.heap.size A7 c7 rs7 A10 c10 fs10 ⟨ps, Fd.put nm xs⟩) := ⟨kv hp9 hf9 hg10, hf10⟩
  have HB10 := qb (hb9.trans hgb)
  have hz10 : w8.heap.size <= w10.heap.size := HB10.out.size
  clear hp9 hf9 hb9 hgb hf10 hg10
  go_upto_region 14 with fail
  have HQ11 := qb (heap_alloc_new w10 (.cells (qx A7 rs7.length c7 A10 fs10.length c10) 30))
  have hB11 := (Below.refl w10.heap.size w10).alloc (Nat.le_refl _) (.cells (qx A7 rs7.length c7 A10 fs10.length c10) 30)
  have HB11 := qb (HB10.out.trans (hB11.mono hz10))
  have HD11 := qb (HD10.out.keep hB11)
  clear hB11 HD10 HB10
  generalize w10.alloc (.cells (qx A7 rs7.length c7 A10 fs10.length c10) 30) = w11 at *
  have hz11 : w10.heap.size + 1 <= w11.heap.size := lt_of_block HQ11.out
  have HKX := qb (Fd.ix_lt_put nm xs)
  obtain ⟨g, rfl, hgB, hgs⟩ := zJ HD11.out.data.own (by rw [HD11.out.data.len]; have := HKX.out; show 0 < (Fd.put nm xs).length; omega)
  have hki : Fd.ix nm xs < fs10.length := by rw [HD11.out.data.len]; exact HKX.out
  have hri : fs10[Fd.ix nm xs]? = some fs10[Fd.ix nm xs] := List.getElem?_eq_getElem hki
  generalize fs10[Fd.ix nm xs] = r1 at hri
  obtain ⟨n1, t1, h1, A1, l1, c1⟩ := r1
  have hxi : (Fd.put nm xs)[Fd.ix nm xs]? = some ((Fd.put nm xs)[Fd.ix nm xs]'HKX.out) := List.getElem?_eq_getElem HKX.out
  generalize (Fd.put nm xs)[Fd.ix nm xs]'HKX.out = f1 at hxi
  have HRI := qb hri
  have HXI := qb hxi
  have HEL := qb (HD11.out.data.els _ _ _ hri hxi)
  have HGQ : Hid (g ≠ w10.heap.size) := fun e => by
   obtain ⟨cs, hc⟩ := HD11.out.data.ty.1 g rfl
   rw [e, HQ11.out] at hc
   injection hc with hc
   injection hc with _ hc
   exact absurd hc (by decide)
  have hgq1 := HGQ.out
  have hgq2 := HGQ.out.symm
  clear hri hxi x0 x1 y0 y1 y2 y3 z0 z1
  obtain ⟨p0, p1, -⟩ := qr HQ11.out
  obtain ⟨x0, x1, x2, x3, q0, q1, q2, q3⟩ := HD11.out.data.cells_of HRI.out
  have HOI := qb HEL.out.2.2.2.2
  obtain rfl : l1 = f1.items.length := HEL.out.2.2.2.1
  have hBN := (Below.refl w11.heap.size w11).alloc (Nat.le_refl _) (.cells #[sv tx] 9)
  have HBN := qb hBN
  obtain ⟨p2, p3, -⟩ := qr (qi HQ11.out hBN)
  obtain ⟨x4, x5, x6, x7, -⟩ := (HD11.out.data.keep hBN).cells_of HRI.out
  have hil : f1.items.length <= 4294967296 := by
   have h1 := Fd.size_mem (List.mem_of_getElem? HXI.out)
   have h2 := Fd.put_size nm xs
   have h3 := hsk.out
   unfold Fd.size at h1
   omega
  have HRN : Hid ((w11.alloc (.cells #[sv tx] 9)).drew.heap[w11.heap.size]? = some (.cells #[sv tx] 9 (0, 0))) := heap_alloc_new w11 (.cells #[sv tx] 9)
  have HON : Hid (OwnS (w11.alloc (.cells #[sv tx] 9)).drew w8.heap.size A1 c1 f1.items) := jy (w' := w11.alloc (.cells #[sv tx] 9)) HOI.out hBN
  have hzn : w11.heap.size + 1 <= (w11.alloc (.cells #[sv tx] 9)).drew.heap.size := by simp
  have HNQ : Hid (w10.heap.size ∉ bk A1 f1.items.length c1) := fun e => by
   obtain ⟨cs, hc⟩ := zT HOI.out _ (qO.1 e)
   rw [HQ11.out] at hc
   injection hc with hc
   injection hc with _ hc
   exact absurd hc (by decide)
  have HNG : Hid (g ∉ bk A1 f1.items.length c1) := fun e => HD11.out.data.row_ne (List.mem_of_getElem? HRI.out) g e rfl
  clear hBN
  go_upto_block 1 with fail
  go_cut [] (fun wx => ∃ (g3 c3 : Nat) (w3 : World), OwnS w3 w8.heap.size (some ⟨g3, 0, none⟩) c3 (f1.items ++ [tx]) /\ (w11.alloc (.cells #[sv tx] 9)).grownBy w3 (Value.ownBlock (.slice A1 f1.items.length c1)) /\ (Value.ownBlock (.slice A1 f1.items.length c1) = some g3 \/ g3 = w11.heap.size + 1) /\ wx = w3.setCell ⟨g, Fd.ix nm xs * 4 + 3, none⟩ (.slice (some ⟨g3, 0, none⟩) (f1.items.length + 1) c3))
  case first =>
   go_upto_region 19 with fail
   go_region_law (refine Qz rfl _ _ rfl w8.heap.size A1 c1 f1.items.length f1.items tx (by rfl) rfl HON.out w11.heap.size (by rfl) HRN.out hil (by omega) ?_; intro g3 c3 w3 ho3 hg3 hbk3; have HK3 : Hid (∀ b, b < w11.heap.size -> b ∉ bk A1 f1.items.length c1 -> w3.heap[b]? = w11.heap[b]?) := (fun b hb hn => (hg3.block b (by omega) (fun e => hn (qO.2 e.symm))).trans (heap_alloc_old w11 _ hb)); have hbg := HK3.out g hgs HNG.out; have s3 := (show w3.cell? ⟨g, Fd.ix nm xs * 4 + 3, none⟩ = w11.cell? ⟨g, Fd.ix nm xs * 4 + 3, none⟩ from World.cell?_of_block hbg).trans x3; have s4 : w3.frozen? ⟨g, Fd.ix nm xs * 4 + 3, none⟩ = false := (by unfold World.frozen?; rw [show (⟨g, Fd.ix nm xs * 4 + 3, none⟩ : Addr).block = g from rfl, hbg]; exact q3); have hbq := HK3.out w10.heap.size (by omega) HNQ.out; obtain ⟨r0, r1, -⟩ := qr (hbq.trans HQ11.out); have HO3 := qb ho3; have HG3 : Hid ((w11.alloc (.cells #[sv tx] 9)).grownBy w3 (Value.ownBlock (.slice A1 f1.items.length c1))) := ⟨hg3.os, hg3.tape, hg3.output, hg3.size, hg3.block⟩; have HBK3 : Hid (Value.ownBlock (.slice A1 f1.items.length c1) = some g3 \/ g3 = w11.heap.size + 1) := hbk3.imp id (fun e => by rw [e]; simp); clear ho3 hg3 hbk3 hbq hbg)
   all_goals
    go_wp2_with fail
    go_meet
    (case rel => exact ⟨g3, c3, w3, HO3.out, HG3.out, HBK3.out, rfl⟩)
  case rest =>
   obtain ⟨g3, c3, w3, ho3, hg3, hbk3, rfl⟩ := hcut
   have hga := jF (jg HBN.out (Value.ownBlock (.slice A1 f1.items.length c1))) hg3
   have hfl := HD11.out.data.items1 HRI.out HXI.out ho3 hga (by
    rw [List.length_append]
    rcases hbk3 with e | e
    ·exact .inl e.symm
    ·exact .inr ⟨g3, rfl, by omega⟩)
   rw [List.length_append] at hfl
   have HFL : Hid (FLo (w3.setCell ⟨g, Fd.ix nm xs * 4 + 3, none⟩ (.slice (some ⟨g3, 0, none⟩) (f1.items.length + 1) c3)) w8.heap.size (some ⟨g, 0, none⟩) c10 (fs10.set (Fd.ix nm xs) ⟨n1, t1, h1, some ⟨g3, 0, none⟩, f1.items.length + 1, c3⟩) ((Fd.put nm xs).set (Fd.ix nm xs) (Fd.addI tx f1))) := hfl
   have HOF := qb (OffT.grown (T := 115) (T2 := 9) hga (zT HOI.out) (by decide))
   have hbq := hga.block w10.heap.size (by omega) (fun e => HNQ.out (qO.2 e.symm))
   have HBQ := qb (hbq.trans HQ11.out)
   have hg3s : g < w3.heap.size := Nat.lt_of_lt_of_le hgs hga.size
   have HFT : Hid (∃ cs, w3.heap[g]? = some (Obj.cells cs 62)) := by
    obtain ⟨cs, hc⟩ := HD11.out.data.ty.1 g rfl
    exact ⟨cs, (hga.block g hgs (fun e => HNG.out (qO.2 e.symm))).trans hc⟩
   have HB3 := qb (HB11.out.trans (zo hga HB11.out.size (fun q hq => (HOI.out.lt q hq).1)))
   clear ho3 hg3 hbk3 hga hfl hbq HBN HRN HON p2 p3 x4 x5 x6 x7
   have HCH := qb (jz (Fd.addI tx) HXI.out)
   rw [<- HCH.out] at HFL
   change Hid (FLo _ _ _ _ _ (Fd.chg (Fd.addI tx) nm xs)) at HFL
   replace HFL := qb (HFL.out.at (w' := w3.setCell ⟨g, Fd.ix nm xs * 4 + 3, none⟩ (.slice (some ⟨g3, 0, none⟩) (f1.items.length + 1) c3)) (fun _ _ _ => rfl))
   have HYL := qb (And.intro (Fd.chg_len (Fd.addI tx) nm xs) (Fd.chg_size (Fd.addI_size tx) nm xs))
   go_upto_region 20 with fail
   have HP12 := qb (HD11.out.parts.other (w' := w3.setCell ⟨g, Fd.ix nm xs * 4 + 3, none⟩ (.slice (some ⟨g3, 0, none⟩) (f1.items.length + 1) c3)) (HOF.out.trans (OffT.set (p := ⟨g, Fd.ix nm xs * 4 + 3, none⟩) (v := .slice (some ⟨g3, 0, none⟩) (f1.items.length + 1) c3) HFT.out (by decide))))
   have HQ12 : Hid ((w3.setCell ⟨g, Fd.ix nm xs * 4 + 3, none⟩ (.slice (some ⟨g3, 0, none⟩) (f1.items.length + 1) c3)).heap[w10.heap.size]? = some (.cells (qx A7 rs7.length c7 (some ⟨g, 0, none⟩) fs10.length c10) 30 (0, 0))) := (show (w3.setCell ⟨g, Fd.ix nm xs * 4 + 3, none⟩ (.slice (some ⟨g3, 0, none⟩) (f1.items.length + 1) c3)).heap[w10.heap.size]? = w3.heap[w10.heap.size]? from Below.heap_setCell _ _ _ _ HGQ.out.symm).trans HBQ.out
   have HB12 : Hid (Below w8.heap.size w8 (w3.setCell ⟨g, Fd.ix nm xs * 4 + 3, none⟩ (.slice (some ⟨g3, 0, none⟩) (f1.items.length + 1) c3))) := HB3.out.setCell (p := ⟨g, Fd.ix nm xs * 4 + 3, none⟩) (by show w8.heap.size <= g; exact hgB) _
   generalize w3.setCell ⟨g, Fd.ix nm xs * 4 + 3, none⟩ (.slice (some ⟨g3, 0, none⟩) (f1.items.length + 1) c3) = w12 at *
   generalize Fd.chg (Fd.addI tx) nm xs = ys at *
   have hyl := HYL.out
   have hk26 := hsk.out
   have hyd : ys.length + Fd.sizes ys <= 4194304 := by omega
   clear hyl hk26 HYL HD11 HB11 HQ11
   have HD12 : Hid (DOw w12 w8.heap.size A7 c7 rs7 (some ⟨g, 0, none⟩) c10 _ ⟨ps, ys⟩) := ⟨HP12.out, HFL.out⟩
   have hI12 := HD12.out.inD
   rw [List.length_set] at hI12
   have HDV2 := qb (kn ⟨ps, ys⟩ _ w12 hI12 hsp hyd)
   clear hI12 p0 p1 hgq1 hgq2
   obtain ⟨p0, p1, -⟩ := qr HQ12.out
   go_wp2_with fail
   refine HDV2.out.mono ?_
   rintro e w13 ⟨rfl, hb⟩
   have HB13 := qb (qa3 HB12.out hb)
   have HD13 := qb (HD12.out.keep hb)
   have HQ13 := qb (qi HQ12.out hb)
   have HBW := qb (qa3 HB8.out HB13.out)
   have HY13 := qb (qi HY8.out HB13.out)
   have HZ13 := qb (qi HZ8.out HB13.out)
   have HX13 := qb (HD8.out.keep HB13.out)
   clear hb p0 p1 HDV2
   obtain ⟨p0, p1, -⟩ := qr HQ13.out
   obtain ⟨y0, y1, y2, y3⟩ := qr HY13.out
   obtain ⟨z0, z1, -⟩ := qr HZ13.out
   cases hvy : Dk.valid ⟨ps, ys⟩
   ·have HE2 : Hid (Dk.line ⟨ps, xs⟩ s = (⟨ps, xs⟩, Dk.noW)) := HE.out.trans (Dk.ifOk_no hvy)
    go_wp2
    refine bodyPost_ret (v := .tuple #[dkV A5 rs5.length c5 A6 fs6.length c6, sv [110, 111]]) (by simp [results, results9, go_sem, *]) rfl ⟨dkV A5 rs5.length c5 A6 fs6.length c6, by rw [HE2.out]; try rfl, ?_, ?_⟩
    ·rw [HE2.out]
     exact ((HX13.out.set (p := ⟨w.heap.size + 1, 0, none⟩) (by show w.heap.size + 1 < w1.heap.size; omega) _).set (p := ⟨w.heap.size + 1, 1, none⟩) (by show w.heap.size + 1 < w1.heap.size; omega) _).inR (by omega)
    exact (HBW.out.setCell (p := ⟨w.heap.size + 1, 0, none⟩) (by show w.heap.size <= w.heap.size + 1; omega) _).setCell (p := ⟨w.heap.size + 1, 1, none⟩) (by show w.heap.size <= w.heap.size + 1; omega) _
   have HE2 : Hid (Dk.line ⟨ps, xs⟩ s = (⟨ps, ys⟩, Dk.okW)) := HE.out.trans (Dk.ifOk_yes hvy)
   go_wp2
   refine bodyPost_ret (v := .tuple #[dkV A7 rs7.length c7 (some ⟨g, 0, none⟩) fs10.length c10, sv [111, 107]]) (by simp [results, results9, go_sem, *]) rfl ⟨dkV A7 rs7.length c7 (some ⟨g, 0, none⟩) fs10.length c10, by rw [HE2.out]; rfl, ?_, ?_⟩
   ·rw [HE2.out]
    have h9 := ((HD13.out.set (p := ⟨w.heap.size + 1, 0, none⟩) (by show w.heap.size + 1 < w8.heap.size; omega) (.slice A7 rs7.length c7)).set (p := ⟨w.heap.size + 1, 1, none⟩) (by show w.heap.size + 1 < w8.heap.size; omega) (.slice (some ⟨g, 0, none⟩) fs10.length c10)).inR (B0 := w.heap.size) (by omega)
    rw [List.length_set] at h9
    exact h9
   exact (HBW.out.setCell (p := ⟨w.heap.size + 1, 0, none⟩) (by show w.heap.size <= w.heap.size + 1; omega) _).setCell (p := ⟨w.heap.size + 1, 1, none⟩) (by show w.heap.size <= w.heap.size + 1; omega) _
 ·-- holds
  cases hN : (rest == nm)
  ·have HE2 : Hid (Dk.line ⟨ps, xs⟩ s = (⟨ps, xs⟩, Dk.whatW)) := by
    have e1 := HW1.out; have e2 := HW2.out; have e3 := HW3.out
    show _ = _
    subst e1 e2 e3
    exact HLN.out.trans (Dk.say_what hR T1 T2 T3 (.inr hN))
   go_wp2
   refine bodyPost_ret (v := .tuple #[dkV A5 rs5.length c5 A6 fs6.length c6, sv [119, 104, 97, 116]]) (by simp [results, results9, go_sem, *]) rfl ⟨dkV A5 rs5.length c5 A6 fs6.length c6, by rw [HE2.out]; try rfl, ?_, ?_⟩
   ·rw [HE2.out]
    exact ((HD8.out.set (p := ⟨w.heap.size + 1, 0, none⟩) (by show w.heap.size + 1 < w1.heap.size; omega) _).set (p := ⟨w.heap.size + 1, 1, none⟩) (by show w.heap.size + 1 < w1.heap.size; omega) _).inR (by omega)
   exact (HB8.out.setCell (p := ⟨w.heap.size + 1, 0, none⟩) (by show w.heap.size <= w.heap.size + 1; omega) _).setCell (p := ⟨w.heap.size + 1, 1, none⟩) (by show w.heap.size <= w.heap.size + 1; omega) _
  have HE : Hid (Dk.line ⟨ps, xs⟩ s = Dk.ifOk ⟨ps, xs⟩ ⟨ps, Fd.chg Fd.flip nm xs⟩) := by
   have e1 := HW1.out; have e2 := HW2.out; have e3 := HW3.out
   show _ = _
   subst e1 e2 e3
   exact HLN.out.trans (Dk.say_holds hR T1 T2 T3 T4 hN)
  go_wp2_with fail
  refine (HCP.out w8 HB8.out).mono ?_
  rintro e w9 ⟨A7, c7, rs7, A9, c9, fs9, rfl, hp9, hf9, hb9⟩
  go_wp2_with fail
  refine (kW nm xs A7 A9 rs7.length c7 c9 w8.heap.size fs9 w9 hf9 hb9.size (by omega)).mono ?_
  rintro e w10 ⟨A10, c10, fs10, rfl, hf10, hg10⟩
  have hgb := zo hg10 hb9.size (fun g hg => (hf9.own.lt g hg).1)
  have HD10 : Hid (DOw w10 w8.heap.size A7 c7 rs7 A10 c10 fs10 ⟨ps, Fd.put nm xs⟩) := ⟨kv hp9 hf9 hg10, hf10⟩
  have HB10 := qb (hb9.trans hgb)
  have hz10 : w8.heap.size <= w10.heap.size := HB10.out.size
  clear hp9 hf9 hb9 hgb hf10 hg10
  go_upto_region 14 with fail
  have HQ11 := qb (heap_alloc_new w10 (.cells (qx A7 rs7.length c7 A10 fs10.length c10) 30))
  have hB11 := (Below.refl w10.heap.size w10).alloc (Nat.le_refl _) (.cells (qx A7 rs7.length c7 A10 fs10.length c10) 30)
  have HB11 := qb (HB10.out.trans (hB11.mono hz10))
  have HD11 := qb (HD10.out.keep hB11)
  clear hB11 HD10 HB10
  generalize w10.alloc (.cells (qx A7 rs7.length c7 A10 fs10.length c10) 30) = w11 at *
  have hz11 : w10.heap.size + 1 <= w11.heap.size := lt_of_block HQ11.out
  have HKX := qb (Fd.ix_lt_put nm xs)
  obtain ⟨g, rfl, hgB, hgs⟩ := zJ HD11.out.data.own (by rw [HD11.out.data.len]; have := HKX.out; show 0 < (Fd.put nm xs).length; omega)
  have hki : Fd.ix nm xs < fs10.length := by rw [HD11.out.data.len]; exact HKX.out
  have hri : fs10[Fd.ix nm xs]? = some fs10[Fd.ix nm xs] := List.getElem?_eq_getElem hki
  generalize fs10[Fd.ix nm xs] = r1 at hri
  obtain ⟨n1, t1, h1, A1, l1, c1⟩ := r1
  have hxi : (Fd.put nm xs)[Fd.ix nm xs]? = some ((Fd.put nm xs)[Fd.ix nm xs]'HKX.out) := List.getElem?_eq_getElem HKX.out
  generalize (Fd.put nm xs)[Fd.ix nm xs]'HKX.out = f1 at hxi
  have HRI := qb hri
  have HXI := qb hxi
  have HEL := qb (HD11.out.data.els _ _ _ hri hxi)
  have HGQ : Hid (g ≠ w10.heap.size) := fun e => by
   obtain ⟨cs, hc⟩ := HD11.out.data.ty.1 g rfl
   rw [e, HQ11.out] at hc
   injection hc with hc
   injection hc with _ hc
   exact absurd hc (by decide)
  have hgq1 := HGQ.out
  have hgq2 := HGQ.out.symm
  clear hri hxi x0 x1 y0 y1 y2 y3 z0 z1
  obtain ⟨p0, p1, -⟩ := qr HQ11.out
  obtain ⟨x0, x1, x2, x3, q0, q1, q2, q3⟩ := HD11.out.data.cells_of HRI.out
  have HFL := qb (HD11.out.data.cell HRI.out HXI.out (j := 2) (by omega) ⟨n1, t1, !h1, A1, l1, c1⟩ (Fd.flip f1) (v := .bool (!h1)) rfl ⟨rfl, rfl, rfl⟩ ⟨HEL.out.1, HEL.out.2.1, (by show (!h1) = !f1.holds; rw [<- HEL.out.2.2.1]), rfl⟩)
  go_upto_region 15 with fail
  go_region
  have HCH := qb (jz (Fd.flip) HXI.out)
  rw [<- HCH.out] at HFL
  change Hid (FLo _ _ _ _ _ (Fd.chg (Fd.flip) nm xs)) at HFL
  replace HFL := qb (HFL.out.at (w' := (w11.setCell ⟨g, Fd.ix nm xs * 4 + 2, none⟩ (.bool (!h1))).drew) (fun _ _ _ => rfl))
  have HYL := qb (And.intro (Fd.chg_len (Fd.flip) nm xs) (Fd.chg_size (Fd.flip_size) nm xs))
  go_upto_region 20 with fail
  have HP12 := qb (HD11.out.parts.other (w' := (w11.setCell ⟨g, Fd.ix nm xs * 4 + 2, none⟩ (.bool (!h1))).drew) (OffT.set (p := ⟨g, Fd.ix nm xs * 4 + 2, none⟩) (v := .bool (!h1)) (T2 := 62) (HD11.out.data.ty.1 g rfl) (by decide)))
  have HQ12 : Hid (((w11.setCell ⟨g, Fd.ix nm xs * 4 + 2, none⟩ (.bool (!h1))).drew).heap[w10.heap.size]? = some (.cells (qx A7 rs7.length c7 (some ⟨g, 0, none⟩) fs10.length c10) 30 (0, 0))) := (show (w11.setCell ⟨g, Fd.ix nm xs * 4 + 2, none⟩ (.bool (!h1))).heap[w10.heap.size]? = w11.heap[w10.heap.size]? from Below.heap_setCell _ _ _ _ HGQ.out.symm).trans HQ11.out
  have HB12 : Hid (Below w8.heap.size w8 ((w11.setCell ⟨g, Fd.ix nm xs * 4 + 2, none⟩ (.bool (!h1))).drew)) := (HB11.out.setCell (p := ⟨g, Fd.ix nm xs * 4 + 2, none⟩) (by show w8.heap.size <= g; exact hgB) (.bool (!h1))).drew
  generalize (w11.setCell ⟨g, Fd.ix nm xs * 4 + 2, none⟩ (.bool (!h1))).drew = w12 at *
  generalize Fd.chg (Fd.flip) nm xs = ys at *
  have hyl := HYL.out
  have hk26 := hsk.out
  have hyd : ys.length + Fd.sizes ys <= 4194304 := by omega
  clear hyl hk26 HYL HD11 HB11 HQ11
  have HD12 : Hid (DOw w12 w8.heap.size A7 c7 rs7 (some ⟨g, 0, none⟩) c10 _ ⟨ps, ys⟩) := ⟨HP12.out, HFL.out⟩
  have hI12 := HD12.out.inD
  rw [List.length_set] at hI12
  have HDV2 := qb (kn ⟨ps, ys⟩ _ w12 hI12 hsp hyd)
  clear hI12 p0 p1 hgq1 hgq2
  obtain ⟨p0, p1, -⟩ := qr HQ12.out
  go_wp2_with fail
  refine HDV2.out.mono ?_
  rintro e w13 ⟨rfl, hb⟩
  have HB13 := qb (qa3 HB12.out hb)
  have HD13 := qb (HD12.out.keep hb)
  have HQ13 := qb (qi HQ12.out hb)
  have HBW := qb (qa3 HB8.out HB13.out)
  have HY13 := qb (qi HY8.out HB13.out)
  have HZ13 := qb (qi HZ8.out HB13.out)
  have HX13 := qb (HD8.out.keep HB13.out)
  clear hb p0 p1 HDV2
  obtain ⟨p0, p1, -⟩ := qr HQ13.out
  obtain ⟨y0, y1, y2, y3⟩ := qr HY13.out
  obtain ⟨z0, z1, -⟩ := qr HZ13.out
  cases hvy : Dk.valid ⟨ps, ys⟩
  ·have HE2 : Hid (Dk.line ⟨ps, xs⟩ s = (⟨ps, xs⟩, Dk.noW)) := HE.out.trans (Dk.ifOk_no hvy)
   go_wp2
   refine bodyPost_ret (v := .tuple #[dkV A5 rs5.length c5 A6 fs6.length c6, sv [110, 111]]) (by simp [results, results9, go_sem, *]) rfl ⟨dkV A5 rs5.length c5 A6 fs6.length c6, by rw [HE2.out]; try rfl, ?_, ?_⟩
   ·rw [HE2.out]
    exact ((HX13.out.set (p := ⟨w.heap.size + 1, 0, none⟩) (by show w.heap.size + 1 < w1.heap.size; omega) _).set (p := ⟨w.heap.size + 1, 1, none⟩) (by show w.heap.size + 1 < w1.heap.size; omega) _).inR (by omega)
   exact (HBW.out.setCell (p := ⟨w.heap.size + 1, 0, none⟩) (by show w.heap.size <= w.heap.size + 1; omega) _).setCell (p := ⟨w.heap.size + 1, 1, none⟩) (by show w.heap.size <= w.heap.size + 1; omega) _
  have HE2 : Hid (Dk.line ⟨ps, xs⟩ s = (⟨ps, ys⟩, Dk.okW)) := HE.out.trans (Dk.ifOk_yes hvy)
  go_wp2
  refine bodyPost_ret (v := .tuple #[dkV A7 rs7.length c7 (some ⟨g, 0, none⟩) fs10.length c10, sv [111, 107]]) (by simp [results, results9, go_sem, *]) rfl ⟨dkV A7 rs7.length c7 (some ⟨g, 0, none⟩) fs10.length c10, by rw [HE2.out]; rfl, ?_, ?_⟩
  ·rw [HE2.out]
   have h9 := ((HD13.out.set (p := ⟨w.heap.size + 1, 0, none⟩) (by show w.heap.size + 1 < w8.heap.size; omega) (.slice A7 rs7.length c7)).set (p := ⟨w.heap.size + 1, 1, none⟩) (by show w.heap.size + 1 < w8.heap.size; omega) (.slice (some ⟨g, 0, none⟩) fs10.length c10)).inR (B0 := w.heap.size) (by omega)
   rw [List.length_set] at h9
   exact h9
  exact (HBW.out.setCell (p := ⟨w.heap.size + 1, 0, none⟩) (by show w.heap.size <= w.heap.size + 1; omega) _).setCell (p := ⟨w.heap.size + 1, 1, none⟩) (by show w.heap.size <= w.heap.size + 1; omega) _
 -- what
 have HE2 : Hid (Dk.line ⟨ps, xs⟩ s = (⟨ps, xs⟩, Dk.whatW)) := by
  have e1 := HW1.out; have e2 := HW2.out
  show _ = _
  subst e1 e2
  exact HLN.out.trans (Dk.say_what hR T1 T2 T3 (.inl T4))
 go_wp2
 refine bodyPost_ret (v := .tuple #[dkV A5 rs5.length c5 A6 fs6.length c6, sv [119, 104, 97, 116]]) (by simp [results, results9, go_sem, *]) rfl ⟨dkV A5 rs5.length c5 A6 fs6.length c6, by rw [HE2.out]; try rfl, ?_, ?_⟩
 ·rw [HE2.out]
  exact ((HD8.out.set (p := ⟨w.heap.size + 1, 0, none⟩) (by show w.heap.size + 1 < w1.heap.size; omega) _).set (p := ⟨w.heap.size + 1, 1, none⟩) (by show w.heap.size + 1 < w1.heap.size; omega) _).inR (by omega)
 exact (HB8.out.setCell (p := ⟨w.heap.size + 1, 0, none⟩) (by show w.heap.size <= w.heap.size + 1; omega) _).setCell (p := ⟨w.heap.size + 1, 1, none⟩) (by show w.heap.size <= w.heap.size + 1; omega) _
end Go.Proofs.YtmboieajfdkllaaGreat
