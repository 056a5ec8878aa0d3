import Derived.Test.YtmboieajfdkllaaGreatU32
import Derived.Test.YtmboieajfdkllaaGreatU33
open Go.Proofs.Tryz
namespace Go.Proofs.YtmboieajfdkllaaGreat
open Go.RowKit Go.Deep
theorem OffT.chg {T : TypeId} {w w' : World} {L : List Nat} (h : Chg w w' L) (hL : ∀ b ∈ L, ∃ (cs : Array Value) (T2 : TypeId), w.heap[b]? = some (Obj.cells cs T2) /\ T2 ≠ T) : OffT T w w' := fun j cs hc => h.block j (lt_of_block hc) (fun e => by
 obtain ⟨cs2, T2, h2, hne⟩ := hL j e
 rw [hc] at h2
 injection h2 with h2
 injection h2 with _ h2
 exact hne h2.symm)
theorem yK (s : Tx) (hl : s.length <= 4294967296) (w : World) : Calls Tryz.prog 47 #[sv s, .string ⟨#[32]⟩] w fun e w' => e = .returned (.tuple #[sv (wd1 s), sv (wd2 s), .bool (has 32 s)]) /\ Below w.heap.size w w' := by
 have h := KV s 32 hl w
 have hle := kh 32 s
 have e1 : (if has 32 s then s.take (at_ 32 s) else s) = s.take (at_ 32 s) := by
  split
  ·rfl
  next hn => rw [List.take_of_length_le]; simp [has] at hn; omega
 have e2 : (if has 32 s then s.drop (at_ 32 s + 1) else []) = s.drop (at_ 32 s + 1) := by
  split
  ·rfl
  next hn => rw [List.drop_eq_nil_of_le]; simp [has] at hn; omega
 rw [e1, e2] at h
 exact h.mono fun e w' ⟨he, n, hn⟩ => ⟨he, by rw [hn]; exact jn (Below.refl _ _) n⟩
theorem has_wd (s : Tx) : (s == wd1 s) = !has 32 s := by
 have hle := kh 32 s
 unfold has
 by_cases h : at_ 32 s < s.length
 ·rw [decide_eq_true h, Bool.not_true, beq_eq_false_iff_ne]
  intro e
  have := congrArg List.length e
  rw [List.length_take] at this
  omega
 rw [decide_eq_false h, Bool.not_false, beq_iff_eq]
 show s = s.take (at_ 32 s)
 rw [List.take_of_length_le (by omega)]
theorem QG (s : Tx) (w : World) : Calls Tryz.prog 50 #[sv s, .string ⟨#[32]⟩] w fun e w' => e = .returned (.bool (!(s == wd1 s))) /\ w = w' := by
 refine (Tryz.strings_Contains_one ⟨s.toArray⟩ 32 w).mono fun e w' ⟨he, hw⟩ => ⟨?_, hw.symm⟩
 rw [he, has_wd, Bool.not_not]
 refine congrArg (fun b => Ending.returned (.bool b)) ?_
 show decide (0 <= Lib.indexByte s 32) = has 32 s
 rw [ki]
 unfold has
 split
 ·next h => rw [decide_eq_true h]; simp
 next h => rw [decide_eq_false h]; rfl
set_option maxRecDepth 100000 in
set_option maxHeartbeats 80000000 in
theorem QR (d : Dk) (u : Value) (s : Tx) (w : World) (hu : InD w (All w) d u) (hsz : Dk.size d <= 1048576) (hs : s.length <= 1048576) (hm : Hm w) : Calls Tryz.prog 11 #[u, sv s] w (LnI w (Dk.line d s)) := by
 have HU := qb hu
 obtain ⟨ps, xs⟩ := d
 obtain ⟨Ap, cp, Ad, cd, rfl, hp, hcp, hf, hcd⟩ := hu
 dsimp only at hp hcp hf hcd HU ⊢
 obtain ⟨hB0, hX0, hY0⟩ := qE w (qx Ap ps.length cp Ad xs.length cd) #[.slice none 0 0, .slice none 0 0] 30 30
 have hs0 : ((w.alloc (.cells (qx Ap ps.length cp Ad xs.length cd) 30)).alloc (.cells #[.slice none 0 0, .slice none 0 0] 30)).heap.size = w.heap.size + 2 := by simp
 have HDV := qb (VD ⟨ps, xs⟩ _ _ (HU.out.now hB0) hsz (hm.below hB0))
 have HCP := qb (fun w2 (hb : Below w.heap.size w w2) => XR ⟨ps, xs⟩ _ w2 (HU.out.now hb) hsz)
 have HB0 := qb hB0
 have HX0 := qb hX0
 have HY0 := qb hY0
 have hs01 := Nat.le_of_eq hs0
 have hs02 := Nat.le_of_eq hs0.symm
 have HLN : Hid (Dk.line ⟨ps, xs⟩ s = if Dk.valid ⟨ps, xs⟩ = true then Dk.say ⟨ps, xs⟩ s else (Dk.zero, [])) := rfl
 have HVS := qb (Dk.valid_size (d := ⟨ps, xs⟩))
 clear hB0 hX0 hY0 hs0
 go_enter func11, ntmps11
 go_upto_region 1 with fail
 generalize (w.alloc (.cells (qx Ap ps.length cp Ad xs.length cd) 30)).alloc (.cells #[.slice none 0 0, .slice none 0 0] 30) = w0 at *
 obtain ⟨x0, x1, -⟩ := qr HX0.out
 obtain ⟨y0, y1, y2, y3⟩ := qr HY0.out
 go_wp2_with fail
 refine HDV.out.mono ?_
 rintro e w1 ⟨rfl, hb⟩
 have HB1 := qb (qa3 HB0.out hb)
 have HX1 := qb (qi HX0.out hb)
 have HY1 := qb (qi HY0.out hb)
 have hz1 : w.heap.size + 2 <= w1.heap.size := by have := hb.size; omega
 clear hb x0 x1 y0 y1 y2 y3 HX0 HY0 hs01 hs02
 obtain ⟨x0, x1, -⟩ := qr HX1.out
 obtain ⟨y0, y1, y2, y3⟩ := qr HY1.out
 cases hv : Dk.valid ⟨ps, xs⟩
 ·rw [hv, if_neg (by simp)] at HLN
  go_wp2
  refine bodyPost_ret (v := .tuple #[dkV none 0 0 none 0 0, sv []]) (by simp [results, results11, go_sem, *]) rfl ⟨none, 0, [], none, 0, [], by rw [HLN.out]; rfl, ?_, ?_⟩
  ·rw [HLN.out]
   exact ⟨⟨[], PLo.nil _ _⟩, FLo.nil _ _⟩
  exact (HB1.out.setCell (p := ⟨w.heap.size + 1, 0, none⟩) (by show w.heap.size <= w.heap.size + 1; omega) _).setCell (p := ⟨w.heap.size + 1, 1, none⟩) (by show w.heap.size <= w.heap.size + 1; omega) _
 rw [hv, if_pos rfl] at HLN
 have hsv := HVS.out hv
 unfold Dk.size at hsv
 dsimp only at hsv
 have hsp : ps.length + Pt.sizes ps <= 1048576 := by omega
 have hsf : xs.length + Fd.sizes xs <= 1048576 := by omega
 have hsk : Hid (xs.length + Fd.sizes xs <= 26000) := by show _ <= _; omega
 have hvv := hv
 unfold Dk.valid at hvv
 dsimp only at hvv
 rw [Bool.and_eq_true] at hvv
 have HPV := qb hvv.1
 have HFV := qb hvv.2
 clear hvv
 clear hv HVS hsv
 go_wp2_with fail
 refine (HCP.out w1 HB1.out).mono ?_
 rintro e w5 ⟨A5, c5, rs5, A6, c6, fs6, rfl, hp5, hf5, hb5⟩
 have HD5 : Hid (DOw w5 w1.heap.size A5 c5 rs5 A6 c6 fs6 ⟨ps, xs⟩) := ⟨hp5, hf5⟩
 have HB5 := qb (qa3 HB1.out hb5)
 have HX5 := qb (qi HX1.out hb5)
 have HY5 := qb (qi HY1.out hb5)
 have hz5 : w1.heap.size <= w5.heap.size := hb5.size
 clear hp5 hf5 hb5 x0 x1 y0 y1 y2 y3 HX1 HY1
 go_upto_region 4 with fail
 have HZ6 := qb (heap_alloc_new w5 (.cells (qx A5 rs5.length c5 A6 fs6.length c6) 30))
 have hB6 := (Below.refl w5.heap.size w5).alloc (Nat.le_refl _) (.cells (qx A5 rs5.length c5 A6 fs6.length c6) 30)
 have HB6 := qb (qa3 HB5.out hB6)
 have HX6 := qb (qi HX5.out hB6)
 have HY6 := qb (qi HY5.out hB6)
 have HD6 := qb (HD5.out.keep hB6)
 have hz6 : w5.heap.size + 1 <= (w5.alloc (.cells (qx A5 rs5.length c5 A6 fs6.length c6) 30)).heap.size := by simp
 clear hB6 HX5 HY5 HD5 HB5
 generalize w5.alloc (.cells (qx A5 rs5.length c5 A6 fs6.length c6) 30) = w6 at *
 have HM := qb (fun w2 (hb : Below w.heap.size w w2) => hm.below hb)
 have HSP := qb (fun w => yK s (by omega) w)
 have HSQ := qb (fun w => yK (wd2 s) (by have := (jG s).2; omega) w)
 have hln := qb (And.intro (jG s).2 (jG (wd2 s)))
 have HRN := qb (ku (s := s))
 have HRL := qb (vH (s := s))
 obtain ⟨wd, hw1⟩ : ∃ wd, wd1 s = wd := ⟨_, rfl⟩
 obtain ⟨rest, hw2⟩ : ∃ rest, wd2 s = rest := ⟨_, rfl⟩
 obtain ⟨nm, hw3⟩ : ∃ nm, wd1 rest = nm := ⟨_, rfl⟩
 obtain ⟨tx, hw4⟩ : ∃ tx, wd2 rest = tx := ⟨_, rfl⟩
 obtain ⟨b1, hw5⟩ : ∃ b, has 32 s = b := ⟨_, rfl⟩
 obtain ⟨b2, hw6⟩ : ∃ b, has 32 rest = b := ⟨_, rfl⟩
 have HCT := qb (fun w => QG rest w)
 rw [hw1, hw2, hw5] at HSP
 rw [hw2] at HSQ hln HRN HRL
 rw [hw3, hw4, hw6] at HSQ
 rw [hw3, hw4] at hln
 rw [hw3] at HCT
 have HW1 := qb hw1
 have HW2 := qb hw2
 have HW3 := qb hw3
 have HW4 := qb hw4
 clear hw1 hw2 hw3 hw4 hw5 hw6 hm
 obtain ⟨x0, x1, -⟩ := qr HX6.out
 obtain ⟨y0, y1, y2, y3⟩ := qr HY6.out
 obtain ⟨z0, z1, -⟩ := qr HZ6.out
 rcases vG s with ⟨F1, F2, F3⟩ | ⟨F1, F2, F3⟩ | ⟨F1, F2, F3⟩ | ⟨F1, F2, F3⟩
 ·-- fill
  have HE : Hid (Dk.line ⟨ps, xs⟩ s = (⟨ps, xs⟩, if (zs ps xs).2 = true then orE (zs ps xs).1 else Dk.noW)) := HLN.out.trans (Dk.say_fill F1)
  have HFS := qb (XO ps Ap cp xs Ad cd w6 (hp.now HB6.out) hsp (hf.now HB6.out) hsf hcd (HM.out w6 HB6.out))
  have HOE := qb (fun w => Zx (zs ps xs).1 w)
  generalize zs ps xs = r at *
  obtain ⟨out, ok⟩ := r
  dsimp only at HE HFS HOE
  go_wp2_with fail
  refine HFS.out.mono ?_
  rintro e w8 ⟨rfl, hb⟩
  have HB8 := qb (qa3 HB6.out hb)
  have HX8 := qb (qi HX6.out hb)
  have HY8 := qb (qi HY6.out hb)
  have HZ8 := qb (qi HZ6.out hb)
  have HD8 := qb (HD6.out.keep hb)
  have hz8 : w5.heap.size + 1 <= w8.heap.size := lt_of_block HZ8.out
  clear hb x0 x1 y0 y1 y2 y3 z0 z1 HB6 HX6 HY6 HZ6 HD6
  obtain ⟨x0, x1, -⟩ := qr HX8.out
  obtain ⟨y0, y1, y2, y3⟩ := qr HY8.out
  obtain ⟨z0, z1, -⟩ := qr HZ8.out
  cases ok
  ·have HE2 : Hid (Dk.line ⟨ps, xs⟩ s = (⟨ps, xs⟩, Dk.noW)) := by show _ = _; rw [HE.out, if_neg (by simp)]
   go_wp2
   refine bodyPost_ret (v := .tuple #[dkV A5 rs5.length c5 A6 fs6.length c6, sv [110, 111]]) (by simp [results, results11, go_sem, *]) rfl ⟨A5, c5, rs5, A6, c6, fs6, by rw [HE2.out]; try rfl, ?_, ?_⟩
   ·rw [HE2.out]
    exact ((HD8.out.set (p := ⟨w.heap.size + 1, 0, none⟩) (by show w.heap.size + 1 < w1.heap.size; omega) _).set (p := ⟨w.heap.size + 1, 1, none⟩) (by show w.heap.size + 1 < w1.heap.size; omega) _).low (by omega)
   exact (HB8.out.setCell (p := ⟨w.heap.size + 1, 0, none⟩) (by show w.heap.size <= w.heap.size + 1; omega) _).setCell (p := ⟨w.heap.size + 1, 1, none⟩) (by show w.heap.size <= w.heap.size + 1; omega) _
  have HE2 : Hid (Dk.line ⟨ps, xs⟩ s = (⟨ps, xs⟩, orE out)) := by show _ = _; rw [HE.out, if_pos rfl]
  generalize orE out = ans at *
  go_upto_region 9 with fail
  refine qU 3 (by kernel_rfl) (by kernel_rfl) (fun _ w => Below (World.heap w8).size w8 w) KB (fun i => ([bIs (dkV A5 rs5.length c5 A6 fs6.length c6), bIs (sv out), bIs (sv ans)] : List TyB).getD i bAny) ?hWbB1 ?hkeepB1 ?hstepB1 ?hfinbB1
  case hkeepB1 =>
   refine qg (qg (qg qG ?_) ?_) ?_
   all_goals exact qj
  case hstepB1 =>
   refine qg (qg (qg qG ?_) ?_) ?_
   all_goals (intro o ho m' a w1 hm' hW hb hd K Q hK; obtain rfl := Option.some.inj ho)
   ·(have e0 : a.tmps[6]?.getD undef = .pointer (some ⟨w5.heap.size, 0, none⟩) := (by rw [hb 6 (by decide +kernel)]; simp); have hbl := (hW.block _ hz8).trans HZ8.out; have q0 := cell_of_row w1 _ 0 _ _ _ hbl; have q1 := cell_of_row w1 _ 1 _ _ _ hbl; go_simp; exact hK _ _ hW (VY _) rfl)
   ·(have e0 : a.tmps[7]?.getD undef = (sv out) := (by rw [hb 7 (by decide +kernel)]; simp); go_simp; exact hK _ _ hW (VY _) rfl)
   (have e0 := qo (hd 1 (by kernel_rfl) 41 rfl); go_simp; refine (HOE.out _).mono ?_; rintro e w2 ⟨rfl, rfl⟩; exact hK _ _ hW (VY _) rfl)
  case hWbB1 => exact (Below.refl _ _).drew
  intro vs w9 hb hF
  have h0 : vs 0 = dkV A5 rs5.length c5 A6 fs6.length c6 := hF 0 (by omega)
  have h4 : vs 2 = sv ans := hF 2 (by omega)
  simp only [qF, hdst, List.getElem?_cons_succ, List.getElem?_cons_zero, Option.bind, List.drop_succ_cons, List.drop_zero, Act.put]
  rw [h0, h4]
  clear hF h0 h4
  have HB9 := qb (qa3 HB8.out hb)
  have HY9 := qb (qi HY8.out hb)
  have HZ9 := qb (qi HZ8.out hb)
  have HD9 := qb (HD8.out.keep hb)
  clear hb x0 x1 y0 y1 y2 y3 z0 z1 HB8 HX8 HY8 HZ8 HD8
  obtain ⟨y0, y1, y2, y3⟩ := qr HY9.out
  obtain ⟨z0, z1, -⟩ := qr HZ9.out
  go_simp
  go_wp2
  refine bodyPost_ret (v := .tuple #[dkV A5 rs5.length c5 A6 fs6.length c6, sv ans]) (by simp [results, results11, go_sem, *]) rfl ⟨A5, c5, rs5, A6, c6, fs6, by rw [HE2.out]; try rfl, ?_, ?_⟩
  ·rw [HE2.out]
   exact ((HD9.out.set (p := ⟨w.heap.size + 1, 0, none⟩) (by show w.heap.size + 1 < w1.heap.size; omega) _).set (p := ⟨w.heap.size + 1, 1, none⟩) (by show w.heap.size + 1 < w1.heap.size; omega) _).low (by omega)
  exact (HB9.out.setCell (p := ⟨w.heap.size + 1, 0, none⟩) (by show w.heap.size <= w.heap.size + 1; omega) _).setCell (p := ⟨w.heap.size + 1, 1, none⟩) (by show w.heap.size <= w.heap.size + 1; omega) _
 ·-- plain
  have HE2 : Hid (Dk.line ⟨ps, xs⟩ s = (⟨ps, xs⟩, orE (zQ ps xs))) := HLN.out.trans (Dk.say_plain F1 F2)
  have HFS := qb (fun w8 (hb : Below w6.heap.size w6 w8) => XN ps Ap cp xs Ad cd w8 (hp.now (qa3 HB6.out hb)) hsp (hf.now (qa3 HB6.out hb)) hsf hcd (HM.out w8 (qa3 HB6.out hb)))
  have HOE := qb (fun w => Zx (zQ ps xs) w)
  generalize zQ ps xs = out at *
  generalize orE out = ans at *
  have HXC := qb x0
  have HXD := qb x1
  have hzx : w.heap.size < w6.heap.size := by omega
  go_upto_region 11 with fail
  refine qU 7 (by kernel_rfl) (by kernel_rfl) (fun _ w => Below (World.heap w6).size w6 w) KB (fun i => ([bIs (dkV A5 rs5.length c5 A6 fs6.length c6), bIs (.pointer (some ⟨w.heap.size, 0, none⟩)), bIs (.slice Ap ps.length cp), bIs (.pointer (some ⟨w.heap.size, 1, none⟩)), bIs (.slice Ad xs.length cd), bIs (sv out), bIs (sv ans)] : List TyB).getD i bAny) ?hWbB2 ?hkeepB2 ?hstepB2 ?hfinbB2
  case hkeepB2 =>
   refine qg (qg (qg (qg (qg (qg (qg qG ?_) ?_) ?_) ?_) ?_) ?_) ?_
   all_goals exact qj
  case hstepB2 =>
   refine qg (qg (qg (qg (qg (qg (qg qG ?_) ?_) ?_) ?_) ?_) ?_) ?_
   all_goals (intro o ho m' a w1 hm' hW hb hd K Q hK; obtain rfl := Option.some.inj ho)
   ·(have e0 : a.tmps[6]?.getD undef = .pointer (some ⟨w5.heap.size, 0, none⟩) := (by rw [hb 6 (by decide +kernel)]; simp); have hbl := (hW.block _ hz6).trans HZ6.out; have q0 := cell_of_row w1 _ 0 _ _ _ hbl; have q1 := cell_of_row w1 _ 1 _ _ _ hbl; go_simp; exact hK _ _ hW (VY _) rfl)
   ·(have e0 : a.tmps[2]?.getD undef = .pointer (some ⟨w.heap.size, 0, none⟩) := (by rw [hb 2 (by decide +kernel)]; simp); go_simp; exact hK _ _ hW (VY _) rfl)
   ·(have e0 := qo (hd 1 (by kernel_rfl) 46 rfl); have hcw := (hW.cell (p := ⟨w.heap.size, 0, none⟩) hzx).trans HXC.out; go_simp; exact hK _ _ hW (VY _) rfl)
   ·(have e0 : a.tmps[2]?.getD undef = .pointer (some ⟨w.heap.size, 0, none⟩) := (by rw [hb 2 (by decide +kernel)]; simp); go_simp; exact hK _ _ hW (VY _) rfl)
   ·(have e0 := qo (hd 3 (by kernel_rfl) 48 rfl); have hcw := (hW.cell (p := ⟨w.heap.size, 1, none⟩) hzx).trans HXD.out; go_simp; exact hK _ _ hW (VY _) rfl)
   ·(have e0 := qo (hd 2 (by kernel_rfl) 47 rfl); have e1 := qo (hd 4 (by kernel_rfl) 49 rfl); go_simp; refine (HFS.out _ hW).mono ?_; rintro e w2 ⟨rfl, hb2⟩; exact hK _ _ (qa3 hW hb2) hb2 rfl)
   (have e0 := qo (hd 5 (by kernel_rfl) 50 rfl); go_simp; refine (HOE.out _).mono ?_; rintro e w2 ⟨rfl, rfl⟩; exact hK _ _ hW (VY _) rfl)
  case hWbB2 => exact (Below.refl _ _).drew
  intro vs w8 hb hF
  have h0 : vs 0 = dkV A5 rs5.length c5 A6 fs6.length c6 := hF 0 (by omega)
  have h4 : vs 6 = sv ans := hF 6 (by omega)
  simp only [qF, hdst, List.getElem?_cons_succ, List.getElem?_cons_zero, Option.bind, List.drop_succ_cons, List.drop_zero, Act.put]
  rw [h0, h4]
  clear hF h0 h4 HXC HXD hzx
  have HB8 := qb (qa3 HB6.out hb)
  have HX8 := qb (qi HX6.out hb)
  have HY8 := qb (qi HY6.out hb)
  have HZ8 := qb (qi HZ6.out hb)
  have HD8 := qb (HD6.out.keep hb)
  have hz8 : w5.heap.size + 1 <= w8.heap.size := lt_of_block HZ8.out
  clear hb x0 x1 y0 y1 y2 y3 z0 z1 HB6 HX6 HY6 HZ6 HD6
  obtain ⟨x0, x1, -⟩ := qr HX8.out
  obtain ⟨y0, y1, y2, y3⟩ := qr HY8.out
  obtain ⟨z0, z1, -⟩ := qr HZ8.out
  go_simp
  go_wp2
  refine bodyPost_ret (v := .tuple #[dkV A5 rs5.length c5 A6 fs6.length c6, sv ans]) (by simp [results, results11, go_sem, *]) rfl ⟨A5, c5, rs5, A6, c6, fs6, by rw [HE2.out]; try rfl, ?_, ?_⟩
  ·rw [HE2.out]
   exact ((HD8.out.set (p := ⟨w.heap.size + 1, 0, none⟩) (by show w.heap.size + 1 < w1.heap.size; omega) _).set (p := ⟨w.heap.size + 1, 1, none⟩) (by show w.heap.size + 1 < w1.heap.size; omega) _).low (by omega)
  exact (HB8.out.setCell (p := ⟨w.heap.size + 1, 0, none⟩) (by show w.heap.size <= w.heap.size + 1; omega) _).setCell (p := ⟨w.heap.size + 1, 1, none⟩) (by show w.heap.size <= w.heap.size + 1; omega) _
 ·-- check
  have HE2 : Hid (Dk.line ⟨ps, xs⟩ s = (⟨ps, xs⟩, jv (Pt.fault ps))) := HLN.out.trans (Dk.say_check F1 F2 F3)
  have HTF := qb (fun w9 (hb : Below w6.heap.size w6 w9) => KM ps Ap cp w9 (hp.now (qa3 HB6.out hb)) hsp (HM.out w9 (qa3 HB6.out hb)))
  have hfr := Pt.fault_range HPV.out
  have HFT := qb (fun w9 => KK (Pt.fault ps) hfr.1 hfr.2 w9)
  generalize Pt.fault ps = ft at *
  generalize jv ft = ans at *
  have HXC := qb x0
  have hzx : w.heap.size < w6.heap.size := by omega
  clear hfr
  go_upto_region 13 with fail
  refine qU 5 (by kernel_rfl) (by kernel_rfl) (fun _ w => Below (World.heap w6).size w6 w) KB (fun i => ([bIs (dkV A5 rs5.length c5 A6 fs6.length c6), bIs (.pointer (some ⟨w.heap.size, 0, none⟩)), bIs (.slice Ap ps.length cp), bIs (.int .i64 ft), bIs (sv ans)] : List TyB).getD i bAny) ?hWbB3 ?hkeepB3 ?hstepB3 ?hfinbB3
  case hkeepB3 =>
   refine qg (qg (qg (qg (qg qG ?_) ?_) ?_) ?_) ?_
   all_goals exact qj
  case hstepB3 =>
   refine qg (qg (qg (qg (qg qG ?_) ?_) ?_) ?_) ?_
   all_goals (intro o ho m' a w1 hm' hW hb hd K Q hK; obtain rfl := Option.some.inj ho)
   ·(have e0 : a.tmps[6]?.getD undef = .pointer (some ⟨w5.heap.size, 0, none⟩) := (by rw [hb 6 (by decide +kernel)]; simp); have hbl := (hW.block _ hz6).trans HZ6.out; have q0 := cell_of_row w1 _ 0 _ _ _ hbl; have q1 := cell_of_row w1 _ 1 _ _ _ hbl; go_simp; exact hK _ _ hW (VY _) rfl)
   ·(have e0 : a.tmps[2]?.getD undef = .pointer (some ⟨w.heap.size, 0, none⟩) := (by rw [hb 2 (by decide +kernel)]; simp); go_simp; exact hK _ _ hW (VY _) rfl)
   ·(have e0 := qo (hd 1 (by kernel_rfl) 55 rfl); have hcw := (hW.cell (p := ⟨w.heap.size, 0, none⟩) hzx).trans HXC.out; go_simp; exact hK _ _ hW (VY _) rfl)
   ·(have e0 := qo (hd 2 (by kernel_rfl) 56 rfl); go_simp; refine (HTF.out _ hW).mono ?_; rintro e w2 ⟨rfl, hb2⟩; exact hK _ _ (qa3 hW hb2) hb2 rfl)
   (have e0 := qo (hd 3 (by kernel_rfl) 57 rfl); go_simp; refine (HFT.out _).mono ?_; rintro e w2 ⟨rfl, hb2⟩; exact hK _ _ (qa3 hW hb2) hb2 rfl)
  case hWbB3 => exact (Below.refl _ _).drew
  intro vs w8 hb hF
  have h0 : vs 0 = dkV A5 rs5.length c5 A6 fs6.length c6 := hF 0 (by omega)
  have h4 : vs 4 = sv ans := hF 4 (by omega)
  simp only [qF, hdst, List.getElem?_cons_succ, List.getElem?_cons_zero, Option.bind, List.drop_succ_cons, List.drop_zero, Act.put]
  rw [h0, h4]
  clear hF h0 h4 HXC hzx
  have HB8 := qb (qa3 HB6.out hb)
  have HX8 := qb (qi HX6.out hb)
  have HY8 := qb (qi HY6.out hb)
  have HZ8 := qb (qi HZ6.out hb)
  have HD8 := qb (HD6.out.keep hb)
  have hz8 : w5.heap.size + 1 <= w8.heap.size := lt_of_block HZ8.out
  clear hb x0 x1 y0 y1 y2 y3 z0 z1 HB6 HX6 HY6 HZ6 HD6
  obtain ⟨x0, x1, -⟩ := qr HX8.out
  obtain ⟨y0, y1, y2, y3⟩ := qr HY8.out
  obtain ⟨z0, z1, -⟩ := qr HZ8.out
  go_simp
  go_wp2
  refine bodyPost_ret (v := .tuple #[dkV A5 rs5.length c5 A6 fs6.length c6, sv ans]) (by simp [results, results11, go_sem, *]) rfl ⟨A5, c5, rs5, A6, c6, fs6, by rw [HE2.out]; try rfl, ?_, ?_⟩
  ·rw [HE2.out]
   exact ((HD8.out.set (p := ⟨w.heap.size + 1, 0, none⟩) (by show w.heap.size + 1 < w1.heap.size; omega) _).set (p := ⟨w.heap.size + 1, 1, none⟩) (by show w.heap.size + 1 < w1.heap.size; omega) _).low (by omega)
  exact (HB8.out.setCell (p := ⟨w.heap.size + 1, 0, none⟩) (by show w.heap.size <= w.heap.size + 1; omega) _).setCell (p := ⟨w.heap.size + 1, 1, none⟩) (by show w.heap.size <= w.heap.size + 1; omega) _
 go_wp2_with fail
 refine (HSP.out w6).mono ?_
 rintro e w8 ⟨rfl, hb⟩
 have HB8 := qb (qa3 HB6.out hb)
 have HX8 := qb (qi HX6.out hb)
 have HY8 := qb (qi HY6.out hb)
 have HZ8 := qb (qi HZ6.out hb)
 have HD8 := qb (HD6.out.keep hb)
 have hz8 : w5.heap.size + 1 <= w8.heap.size := lt_of_block HZ8.out
 clear hb x0 x1 y0 y1 y2 y3 z0 z1 HB6 HX6 HY6 HZ6 HD6
 obtain ⟨x0, x1, -⟩ := qr HX8.out
 obtain ⟨y0, y1, y2, y3⟩ := qr HY8.out
 obtain ⟨z0, z1, -⟩ := qr HZ8.out
 cases hR : (rest == [])
 case true =>
  have hR2 : List.isEmpty rest = true := by simpa using hR
  have HE : Hid (Dk.line ⟨ps, xs⟩ s = (⟨ps, xs⟩, Dk.whatW)) := HLN.out.trans (Dk.say_none F1 F2 F3 (by rw [HW2.out]; exact hR))
  go_wp2
  refine bodyPost_ret (v := .tuple #[dkV A5 rs5.length c5 A6 fs6.length c6, sv [119, 104, 97, 116]]) (by simp [results, results11, go_sem, *]) rfl ⟨A5, c5, rs5, A6, c6, fs6, by rw [HE.out]; try rfl, ?_, ?_⟩
  ·rw [HE.out]
   exact ((HD8.out.set (p := ⟨w.heap.size + 1, 0, none⟩) (by show w.heap.size + 1 < w1.heap.size; omega) _).set (p := ⟨w.heap.size + 1, 1, none⟩) (by show w.heap.size + 1 < w1.heap.size; omega) _).low (by omega)
  exact (HB8.out.setCell (p := ⟨w.heap.size + 1, 0, none⟩) (by show w.heap.size <= w.heap.size + 1; omega) _).setCell (p := ⟨w.heap.size + 1, 1, none⟩) (by show w.heap.size <= w.heap.size + 1; omega) _
 have hR2 : List.isEmpty rest = false := by cases rest with | nil => cases hR | cons => rfl
 have hln2 := hln.out
 have hrl : rest.length <= 1048575 := by have := HRL.out hR; omega
 have hnl : nm.length <= 1048576 := by omega
 have htl : tx.length <= 1048576 := by omega
 clear hln2
 go_wp2_with fail
 refine (HCP.out w8 HB8.out).mono ?_
 rintro e w10 ⟨A7, c7, rs7, A9, c9, fs9, rfl, hp9, hf9, hb9⟩
 have HD10 : Hid (DOw w10 w8.heap.size A7 c7 rs7 A9 c9 fs9 ⟨ps, xs⟩) := ⟨hp9, hf9⟩
 have HB10 := qb hb9
 have hz10 : w8.heap.size <= w10.heap.size := hb9.size
 clear hp9 hf9 hb9
 go_upto_region 18 with fail
 have HQ10 := qb (heap_alloc_new w10 (.cells (qx A7 rs7.length c7 A9 fs9.length c9) 30))
 have hB10 := (Below.refl w10.heap.size w10).alloc (Nat.le_refl _) (.cells (qx A7 rs7.length c7 A9 fs9.length c9) 30)
 have HBa := qb (HB10.out.trans (hB10.mono hz10))
 have HDa := qb (HD10.out.keep hB10)
 clear hB10 HD10 HB10 x0 x1 y0 y1 y2 y3 z0 z1
 generalize w10.alloc (.cells (qx A7 rs7.length c7 A9 fs9.length c9) 30) = wa at *
 go_wp2_with fail
 refine (HSQ.out wa).mono ?_
 rintro e wb ⟨rfl, hb⟩
 have HBb := qb (qa3 HBa.out hb)
 have HDb := qb (HDa.out.keep hb)
 have HQb := qb (qi HQ10.out hb)
 have hzb : w10.heap.size + 1 <= wb.heap.size := lt_of_block HQb.out
 have HBWb := qb (qa3 HB8.out HBb.out)
 have HYb := qb (qi HY8.out HBb.out)
 have HZb := qb (qi HZ8.out HBb.out)
 have HXb := qb (HD8.out.keep HBb.out)
 clear hb HBa HDa HQ10
 obtain ⟨y0, y1, y2, y3⟩ := qr HYb.out
 obtain ⟨z0, z1, -⟩ := qr HZb.out
 obtain ⟨p0, p1, p2, p3⟩ := qr HQb.out
 rcases kt wd with ⟨T1, T2, T3, T4⟩ | ⟨T1, T2, T3, T4⟩ | ⟨T1, T2, T3, T4⟩ | ⟨T1, T2, T3, T4⟩ | ⟨T1, T2, T3, T4⟩
 ·-- template
  have HRT := qb (Jq rest wb hrl (HM.out wb HBWb.out))
  cases hrt : Pt.readT false rest
  ·have HE2 : Hid (Dk.line ⟨ps, xs⟩ s = (⟨ps, xs⟩, Dk.noW)) := by
    have e1 := HW1.out; have e2 := HW2.out
    show _ = _
    subst e1 e2
    exact HLN.out.trans (Dk.say_tno hR T1 hrt)
   rw [hrt] at HRT
   go_wp2_with fail
   refine HRT.out.mono ?_
   rintro e w9 ⟨⟨At, lt, ct, rfl⟩, hb⟩
   have HB9 := qb (qa3 HBWb.out hb)
   have HX9 := qb (HXb.out.keep hb)
   have hy9 := qi HYb.out hb
   have hz9 := qi HZb.out hb
   clear y0 y1 y2 y3 z0 z1 p0 p1 p2 p3 hb
   obtain ⟨y0, y1, y2, y3⟩ := qr hy9
   obtain ⟨z0, z1, -⟩ := qr hz9
   clear hy9 hz9
   go_wp2
   refine bodyPost_ret (v := .tuple #[dkV A5 rs5.length c5 A6 fs6.length c6, sv [110, 111]]) (by simp [results, results11, go_sem, *]) rfl ⟨A5, c5, rs5, A6, c6, fs6, by rw [HE2.out]; try rfl, ?_, ?_⟩
   ·rw [HE2.out]
    exact ((HX9.out.set (p := ⟨w.heap.size + 1, 0, none⟩) (by show w.heap.size + 1 < w1.heap.size; omega) _).set (p := ⟨w.heap.size + 1, 1, none⟩) (by show w.heap.size + 1 < w1.heap.size; omega) _).low (by omega)
   exact (HB9.out.setCell (p := ⟨w.heap.size + 1, 0, none⟩) (by show w.heap.size <= w.heap.size + 1; omega) _).setCell (p := ⟨w.heap.size + 1, 1, none⟩) (by show w.heap.size <= w.heap.size + 1; omega) _
  rename_i L
  have HE2 : Hid (Dk.line ⟨ps, xs⟩ s = (⟨L, xs⟩, Dk.okW)) := by
   have e1 := HW1.out; have e2 := HW2.out
   show _ = _
   subst e1 e2
   exact HLN.out.trans (Dk.say_tpl hR T1 hrt)
  have hLv := (Pt.readT_iff.1 hrt).1
  have hVL : Hid (Dk.valid ⟨L, xs⟩ = true) := by
   show _ = _
   unfold Dk.valid
   dsimp only
   rw [hLv, HFV.out]
   rfl
  have hLs := Pt.valid_size hLv
  have hLs2 : L.length + Pt.sizes L <= 1048576 := by omega
  have hxs4 : xs.length + Fd.sizes xs <= 4194304 := by omega
  clear hLv hLs
  rw [hrt] at HRT
  go_wp2_with fail
  refine HRT.out.mono ?_
  rintro e w9 ⟨⟨At, ct, rt, rfl, hpl⟩, hb⟩
  have HPL := qb hpl
  have HB9 := qb (qa3 HBb.out hb)
  have HD9 := qb (HDb.out.keep hb)
  have HQ9 := qb (qi HQb.out hb)
  have hzz : wb.heap.size <= w9.heap.size := hb.size
  clear y0 y1 y2 y3 z0 z1 p0 p1 p2 p3 hb hpl HRT
  obtain ⟨p0, p1, p2, p3⟩ := qr HQ9.out
  go_upto_region 36 with fail
  have HQ12 : Hid ((w9.setCell ⟨w10.heap.size, 0, none⟩ (.slice At rt.length ct)).heap[w10.heap.size]? = some (.cells #[.slice At rt.length ct, .slice A9 fs9.length c9] 30 (0, 0))) := qP HQ9.out
  have HF12 := qb (HD9.out.data.other (w' := w9.setCell ⟨w10.heap.size, 0, none⟩ (.slice At rt.length ct)) (fun j cs T hT hc => Below.heap_setCell _ _ _ _ (fun e => by
   have e2 : j = w10.heap.size := e
   rw [e2, HQ9.out] at hc
   injection hc with hc
   injection hc with _ hc
   rcases hT with rfl | rfl <;> exact absurd hc (by decide))))
  have HP12 := qb ((HPL.out.at (w' := w9.setCell ⟨w10.heap.size, 0, none⟩ (.slice At rt.length ct)) (fun j h1 _ => Below.heap_setCell _ _ _ _ (by show j ≠ w10.heap.size; omega))).base (B' := w8.heap.size) (by omega))
  have HB12 := qb (HB9.out.setCell (p := ⟨w10.heap.size, 0, none⟩) hz10 (.slice At rt.length ct))
  clear HPL HD9 HQ9 HB9 p0 p1 p2 p3
  generalize w9.setCell ⟨w10.heap.size, 0, none⟩ (.slice At rt.length ct) = w12 at *
  have HD12 : Hid (DOw w12 w8.heap.size At ct rt A9 c9 fs9 ⟨L, xs⟩) := ⟨HP12.out, HF12.out⟩
  have HBW12 := qb (qa3 HB8.out HB12.out)
  have HDV2 := qb (xw ⟨L, xs⟩ _ w12 HD12.out.inD hLs2 hxs4 (HM.out w12 HBW12.out))
  rw [hVL.out] at HDV2
  obtain ⟨p0, p1, -⟩ := qr HQ12.out
  go_wp2_with fail
  refine HDV2.out.mono ?_
  rintro e w13 ⟨rfl, hb⟩
  have HBW := qb (qa3 HBW12.out hb)
  have HD13 := qb (HD12.out.keep hb)
  have hq13 := qi HQ12.out hb
  have hy13 := qi HY8.out (qa3 HB12.out hb)
  clear hb p0 p1 HDV2
  obtain ⟨p0, p1, -⟩ := qr hq13
  obtain ⟨y0, y1, y2, y3⟩ := qr hy13
  clear hq13 hy13
  go_wp2
  refine bodyPost_ret (v := .tuple #[dkV At rt.length ct A9 fs9.length c9, sv [111, 107]]) (by simp [results, results11, go_sem, *]) rfl ⟨At, ct, rt, A9, c9, fs9, by rw [HE2.out]; rfl, ?_, ?_⟩
  ·rw [HE2.out]
   exact ((HD13.out.set (p := ⟨w.heap.size + 1, 0, none⟩) (by show w.heap.size + 1 < w8.heap.size; omega) _).set (p := ⟨w.heap.size + 1, 1, none⟩) (by show w.heap.size + 1 < w8.heap.size; omega) _).low (by omega)
  exact (HBW.out.setCell (p := ⟨w.heap.size + 1, 0, none⟩) (by show w.heap.size <= w.heap.size + 1; omega) _).setCell (p := ⟨w.heap.size + 1, 1, none⟩) (by show w.heap.size <= w.heap.size + 1; omega) _
 ·-- text
  have HE : Hid (Dk.line ⟨ps, xs⟩ s = Dk.ifOk ⟨ps, xs⟩ ⟨ps, Fd.chg (Fd.setT tx) nm xs⟩) := by
   have e1 := HW1.out; have e2 := HW2.out; have e3 := HW3.out; have e4 := HW4.out
   show _ = _
   subst e1 e2 e3 e4
   exact HLN.out.trans (Dk.say_text hR T1 T2)
  go_wp2_with fail
  refine (vj nm xs A7 A9 rs7.length c7 c9 w8.heap.size w10.heap.size fs9 wb HQb.out HDb.out.data HBb.out.size (by omega)).mono ?_
  rintro e w11 ⟨g, c10, fs10, rfl, hbx, hf10, hchg⟩
  have HQ11 := qb hbx
  have hoff : OffT 115 wb w11 := OffT.chg hchg (fun b hb => by
   rcases List.mem_cons.1 hb with rfl | hb
   ·exact ⟨_, _, HQb.out, by decide⟩
   ·obtain ⟨cs, hc⟩ := HDb.out.data.ty.1 b (qO.1 hb)
    exact ⟨cs, _, hc, by decide⟩)
  have HD11 : Hid (DOw w11 w8.heap.size A7 c7 rs7 (some ⟨g, 0, none⟩) c10 fs10 ⟨ps, Fd.put nm xs⟩) := ⟨HDb.out.parts.other hoff, hf10⟩
  have HB11 := qb (HBb.out.trans (hchg.below HBb.out.size (fun b hb => by
   rcases List.mem_cons.1 hb with rfl | hb
   ·exact hz10
   ·exact (HDb.out.data.own.lt b (qO.1 hb)).1)))
  have hz11 : w10.heap.size + 1 <= w11.heap.size := lt_of_block hbx
  have HKX := qb (Fd.ix_lt_put nm xs)
  clear hbx hf10 hchg hoff y0 y1 y2 y3 z0 z1 p0 p1 p2 p3
  have hgs : g < w11.heap.size := by
   obtain ⟨cs, hc⟩ := HD11.out.data.ty.1 g rfl
   exact lt_of_block hc
  have hgB : w8.heap.size <= g := (HD11.out.data.own.lt g rfl).1
  have hki : Fd.ix nm xs < fs10.length := by rw [HD11.out.data.len]; exact HKX.out
  have hri : fs10[Fd.ix nm xs]? = some fs10[Fd.ix nm xs] := List.getElem?_eq_getElem hki
  generalize fs10[Fd.ix nm xs] = r1 at hri
  obtain ⟨n1, t1, h1, A1, l1, c1⟩ := r1
  have hxi : (Fd.put nm xs)[Fd.ix nm xs]? = some ((Fd.put nm xs)[Fd.ix nm xs]'HKX.out) := List.getElem?_eq_getElem HKX.out
  generalize (Fd.put nm xs)[Fd.ix nm xs]'HKX.out = f1 at hxi
  have HRI := qb hri
  have HXI := qb hxi
  have HEL := qb (HD11.out.data.els _ _ _ hri hxi)
  have HGQ : Hid (g ≠ w10.heap.size) := fun e => by
   obtain ⟨cs, hc⟩ := HD11.out.data.ty.1 g rfl
   rw [e, HQ11.out] at hc
   injection hc with hc
   injection hc with _ hc
   exact absurd hc (by decide)
  have hgq1 := HGQ.out
  have hgq2 := HGQ.out.symm
  clear hri hxi
  obtain ⟨p0, p1, -⟩ := qr HQ11.out
  obtain ⟨x0, x1, x2, x3, q0, q1, q2, q3⟩ := HD11.out.data.cells_of HRI.out
  have HFL := qb (HD11.out.data.cell HRI.out HXI.out (j := 1) (by omega) ⟨n1, tx, h1, A1, l1, c1⟩ (Fd.setT tx f1) (v := sv tx) rfl ⟨rfl, rfl, rfl⟩ ⟨HEL.out.1, rfl, HEL.out.2.2.1, rfl⟩)
  have HCH := qb (jz (Fd.setT tx) HXI.out)
  rw [<- HCH.out] at HFL
  change Hid (FLo _ _ _ _ (fs10.set (Fd.ix nm xs) ⟨n1, tx, h1, A1, l1, c1⟩) (Fd.chg (Fd.setT tx) nm xs)) at HFL
  have HYL := qb (And.intro (Fd.chg_len (Fd.setT tx) nm xs) (Fd.chg_size (Fd.setT_size tx) nm xs))
  go_upto_region 36 with fail
  have HP12 := qb (HD11.out.parts.other (w' := w11.setCell ⟨g, Fd.ix nm xs * 4 + 1, none⟩ (sv tx)) (OffT.set (p := ⟨g, Fd.ix nm xs * 4 + 1, none⟩) (v := sv tx) (T2 := 62) (HD11.out.data.ty.1 g rfl) (by decide)))
  have HQ12 : Hid ((w11.setCell ⟨g, Fd.ix nm xs * 4 + 1, none⟩ (sv tx)).heap[w10.heap.size]? = some (.cells (qx A7 rs7.length c7 (some ⟨g, 0, none⟩) fs10.length c10) 30 (0, 0))) := (show (w11.setCell ⟨g, Fd.ix nm xs * 4 + 1, none⟩ (sv tx)).heap[w10.heap.size]? = w11.heap[w10.heap.size]? from Below.heap_setCell _ _ _ _ HGQ.out.symm).trans HQ11.out
  have HB12 : Hid (Below w8.heap.size w8 (w11.setCell ⟨g, Fd.ix nm xs * 4 + 1, none⟩ (sv tx))) := HB11.out.setCell (p := ⟨g, Fd.ix nm xs * 4 + 1, none⟩) (by show w8.heap.size <= g; exact hgB) (sv tx)
  generalize w11.setCell ⟨g, Fd.ix nm xs * 4 + 1, none⟩ (sv tx) = w12 at *
  generalize Fd.chg (Fd.setT tx) nm xs = ys at *
  have hyl := HYL.out
  have hk26 := hsk.out
  have hyd : ys.length + Fd.sizes ys <= 4194304 := by omega
  clear hyl hk26 HYL HD11 HB11 HQ11
  have HD12 : Hid (DOw w12 w8.heap.size A7 c7 rs7 (some ⟨g, 0, none⟩) c10 (fs10.set (Fd.ix nm xs) ⟨n1, tx, h1, A1, l1, c1⟩) ⟨ps, ys⟩) := ⟨HP12.out, HFL.out⟩
  have hI12 := HD12.out.inD
  rw [List.length_set] at hI12
  have HBW12 := qb (qa3 HB8.out HB12.out)
  have HDV2 := qb (xw ⟨ps, ys⟩ _ w12 hI12 hsp hyd (HM.out w12 HBW12.out))
  clear hI12 p0 p1 hgq1 hgq2 x0 x1 x2 x3 q0 q1 q2 q3
  obtain ⟨p0, p1, -⟩ := qr HQ12.out
  go_wp2_with fail
  refine HDV2.out.mono ?_
  rintro e w13 ⟨rfl, hb⟩
  have HB13 := qb (qa3 HB12.out hb)
  have HD13 := qb (HD12.out.keep hb)
  have HQ13 := qb (qi HQ12.out hb)
  have HBW := qb (qa3 HB8.out HB13.out)
  have HY13 := qb (qi HY8.out HB13.out)
  have HZ13 := qb (qi HZ8.out HB13.out)
  have HX13 := qb (HD8.out.keep HB13.out)
  clear hb p0 p1 HDV2
  obtain ⟨p0, p1, -⟩ := qr HQ13.out
  obtain ⟨y0, y1, y2, y3⟩ := qr HY13.out
  obtain ⟨z0, z1, -⟩ := qr HZ13.out
  cases hvy : Dk.valid ⟨ps, ys⟩
  ·have HE2 : Hid (Dk.line ⟨ps, xs⟩ s = (⟨ps, xs⟩, Dk.noW)) := HE.out.trans (Dk.ifOk_no hvy)
   go_wp2
   refine bodyPost_ret (v := .tuple #[dkV A5 rs5.length c5 A6 fs6.length c6, sv [110, 111]]) (by simp [results, results11, go_sem, *]) rfl ⟨A5, c5, rs5, A6, c6, fs6, by rw [HE2.out]; try rfl, ?_, ?_⟩
   ·rw [HE2.out]
    exact ((HX13.out.set (p := ⟨w.heap.size + 1, 0, none⟩) (by show w.heap.size + 1 < w1.heap.size; omega) _).set (p := ⟨w.heap.size + 1, 1, none⟩) (by show w.heap.size + 1 < w1.heap.size; omega) _).low (by omega)
   exact (HBW.out.setCell (p := ⟨w.heap.size + 1, 0, none⟩) (by show w.heap.size <= w.heap.size + 1; omega) _).setCell (p := ⟨w.heap.size + 1, 1, none⟩) (by show w.heap.size <= w.heap.size + 1; omega) _
  have HE2 : Hid (Dk.line ⟨ps, xs⟩ s = (⟨ps, ys⟩, Dk.okW)) := HE.out.trans (Dk.ifOk_yes hvy)
  go_wp2
  refine bodyPost_ret (v := .tuple #[dkV A7 rs7.length c7 (some ⟨g, 0, none⟩) fs10.length c10, sv [111, 107]]) (by simp [results, results11, go_sem, *]) rfl ⟨A7, c7, rs7, some ⟨g, 0, none⟩, c10, fs10.set (Fd.ix nm xs) ⟨n1, tx, h1, A1, l1, c1⟩, by rw [HE2.out, List.length_set]; rfl, ?_, ?_⟩
  ·rw [HE2.out]
   exact ((HD13.out.set (p := ⟨w.heap.size + 1, 0, none⟩) (by show w.heap.size + 1 < w8.heap.size; omega) _).set (p := ⟨w.heap.size + 1, 1, none⟩) (by show w.heap.size + 1 < w8.heap.size; omega) _).low (by omega)
  exact (HBW.out.setCell (p := ⟨w.heap.size + 1, 0, none⟩) (by show w.heap.size <= w.heap.size + 1; omega) _).setCell (p := ⟨w.heap.size + 1, 1, none⟩) (by show w.heap.size <= w.heap.size + 1; omega) _
 ·-- item
  have HE : Hid (Dk.line ⟨ps, xs⟩ s = Dk.ifOk ⟨ps, xs⟩ ⟨ps, Fd.chg (Fd.addI tx) nm xs⟩) := by
   have e1 := HW1.out; have e2 := HW2.out; have e3 := HW3.out; have e4 := HW4.out
   show _ = _
   subst e1 e2 e3 e4
   exact HLN.out.trans (Dk.say_item hR T1 T2 T3)
  go_wp2_with fail
  refine (vj nm xs A7 A9 rs7.length c7 c9 w8.heap.size w10.heap.size fs9 wb HQb.out HDb.out.data HBb.out.size (by omega)).mono ?_
  rintro e w11 ⟨g, c10, fs10, rfl, hbx, hf10, hchg⟩
  have HQ11 := qb hbx
  have hoff : OffT 115 wb w11 := OffT.chg hchg (fun b hb => by
   rcases List.mem_cons.1 hb with rfl | hb
   ·exact ⟨_, _, HQb.out, by decide⟩
   ·obtain ⟨cs, hc⟩ := HDb.out.data.ty.1 b (qO.1 hb)
    exact ⟨cs, _, hc, by decide⟩)
  have HD11 : Hid (DOw w11 w8.heap.size A7 c7 rs7 (some ⟨g, 0, none⟩) c10 fs10 ⟨ps, Fd.put nm xs⟩) := ⟨HDb.out.parts.other hoff, hf10⟩
  have HB11 := qb (HBb.out.trans (hchg.below HBb.out.size (fun b hb => by
   rcases List.mem_cons.1 hb with rfl | hb
   ·exact hz10
   ·exact (HDb.out.data.own.lt b (qO.1 hb)).1)))
  have hz11 : w10.heap.size + 1 <= w11.heap.size := lt_of_block hbx
  have HKX := qb (Fd.ix_lt_put nm xs)
  clear hbx hf10 hchg hoff y0 y1 y2 y3 z0 z1 p0 p1 p2 p3
  have hgs : g < w11.heap.size := by
   obtain ⟨cs, hc⟩ := HD11.out.data.ty.1 g rfl
   exact lt_of_block hc
  have hgB : w8.heap.size <= g := (HD11.out.data.own.lt g rfl).1
  have hki : Fd.ix nm xs < fs10.length := by rw [HD11.out.data.len]; exact HKX.out
  have hri : fs10[Fd.ix nm xs]? = some fs10[Fd.ix nm xs] := List.getElem?_eq_getElem hki
  generalize fs10[Fd.ix nm xs] = r1 at hri
  obtain ⟨n1, t1, h1, A1, l1, c1⟩ := r1
  have hxi : (Fd.put nm xs)[Fd.ix nm xs]? = some ((Fd.put nm xs)[Fd.ix nm xs]'HKX.out) := List.getElem?_eq_getElem HKX.out
  generalize (Fd.put nm xs)[Fd.ix nm xs]'HKX.out = f1 at hxi
  have HRI := qb hri
  have HXI := qb hxi
  have HEL := qb (HD11.out.data.els _ _ _ hri hxi)
  have HGQ : Hid (g ≠ w10.heap.size) := fun e => by
   obtain ⟨cs, hc⟩ := HD11.out.data.ty.1 g rfl
   rw [e, HQ11.out] at hc
   injection hc with hc
   injection hc with _ hc
   exact absurd hc (by decide)
  have hgq1 := HGQ.out
  have hgq2 := HGQ.out.symm
  clear hri hxi
  obtain ⟨p0, p1, -⟩ := qr HQ11.out
  obtain ⟨x0, x1, x2, x3, q0, q1, q2, q3⟩ := HD11.out.data.cells_of HRI.out
  have HOI := qb HEL.out.2.2.2.2
  obtain rfl : l1 = f1.items.length := HEL.out.2.2.2.1
  have hBN := (Below.refl w11.heap.size w11).alloc (Nat.le_refl _) (.cells #[sv tx] 9)
  have HBN := qb hBN
  obtain ⟨p4, p5, -⟩ := qr (qi HQ11.out hBN)
  obtain ⟨x4, x5, x6, x7, -⟩ := (HD11.out.data.keep hBN).cells_of HRI.out
  have hil : f1.items.length <= 4294967296 := by
   have h1 := Fd.size_mem (List.mem_of_getElem? HXI.out)
   have h2 := Fd.put_size nm xs
   have h3 := hsk.out
   unfold Fd.size at h1
   omega
  have HRN2 := qb (heap_alloc_new w11 (.cells #[sv tx] 9))
  have HON := qb (jy HOI.out hBN)
  have hzn : w11.heap.size + 1 <= (w11.alloc (.cells #[sv tx] 9)).heap.size := by simp
  have HNQ : Hid (w10.heap.size ∉ bk A1 f1.items.length c1) := fun e => by
   obtain ⟨cs, hc⟩ := zT HOI.out _ (qO.1 e)
   rw [HQ11.out] at hc
   injection hc with hc
   injection hc with _ hc
   exact absurd hc (by decide)
  have HNG : Hid (g ∉ bk A1 f1.items.length c1) := fun e => HD11.out.data.row_ne (List.mem_of_getElem? HRI.out) g e rfl
  clear hBN
  go_upto_region 36 with (at_builtin; refine KX rfl _ _ rfl w8.heap.size A1 c1 f1.items tx (by rfl) HON.out w11.heap.size (by rfl) HRN2.out hil (by omega) ?_; intro A3 c3 w3 ho3 hg3 hbk3; have HK3 : Hid (∀ b, b < w11.heap.size -> b ∉ bk A1 f1.items.length c1 -> w3.heap[b]? = w11.heap[b]?) := (fun b hb hn => (hg3.block b (by omega) (fun e => hn (qO.2 e.symm))).trans (heap_alloc_old w11 _ hb)); have hbg := HK3.out g hgs HNG.out; have s3 := (show w3.cell? ⟨g, Fd.ix nm xs * 4 + 3, none⟩ = w11.cell? ⟨g, Fd.ix nm xs * 4 + 3, none⟩ from World.cell?_of_block hbg).trans x3; have s4 : w3.frozen? ⟨g, Fd.ix nm xs * 4 + 3, none⟩ = false := (by unfold World.frozen?; rw [show (⟨g, Fd.ix nm xs * 4 + 3, none⟩ : Addr).block = g from rfl, hbg]; exact q3); have HO3 := qb ho3; have HG3 := qb hg3; have HBK3 := qb hbk3; clear ho3 hg3 hbk3 hbg)
  have hga := jF (jg HBN.out (Value.ownBlock (.slice A1 f1.items.length c1))) HG3.out
  have hfl := HD11.out.data.items1 HRI.out HXI.out HO3.out hga (by
   rw [List.length_append]
   rcases HBK3.out with e | e
   ·exact .inl e
   ·exact .inr ⟨_, e, by omega⟩)
  have HFL : Hid (FLo (w3.setCell ⟨g, Fd.ix nm xs * 4 + 3, none⟩ (.slice A3 (f1.items.length + 1) c3)) w8.heap.size (some ⟨g, 0, none⟩) c10 (fs10.set (Fd.ix nm xs) ⟨n1, t1, h1, A3, f1.items.length + 1, c3⟩) ((Fd.put nm xs).set (Fd.ix nm xs) (Fd.addI tx f1))) := by
   rw [List.length_append] at hfl
   exact hfl
  have HOF := qb (OffT.grown (T := 115) (T2 := 9) hga (zT HOI.out) (by decide))
  have hbq := hga.block w10.heap.size (by omega) (fun e => HNQ.out (qO.2 e.symm))
  have HBQ := qb (hbq.trans HQ11.out)
  have HFT : Hid (∃ cs, w3.heap[g]? = some (Obj.cells cs 62)) := by
   obtain ⟨cs, hc⟩ := HD11.out.data.ty.1 g rfl
   exact ⟨cs, (hga.block g hgs (fun e => HNG.out (qO.2 e.symm))).trans hc⟩
  have HB3 := qb (HB11.out.trans (zo hga HB11.out.size (fun q hq => (HOI.out.lt q hq).1)))
  clear hga hfl hbq HBN HRN2 HON p4 p5 x4 x5 x6 x7 s3 s4
  have HCH := qb (jz (Fd.addI tx) HXI.out)
  rw [<- HCH.out] at HFL
  change Hid (FLo _ _ _ _ (fs10.set (Fd.ix nm xs) ⟨n1, t1, h1, A3, f1.items.length + 1, c3⟩) (Fd.chg (Fd.addI tx) nm xs)) at HFL
  have HYL := qb (And.intro (Fd.chg_len (Fd.addI tx) nm xs) (Fd.chg_size (Fd.addI_size tx) nm xs))
  go_upto_region 36 with fail
  have HP12 := qb (HD11.out.parts.other (w' := w3.setCell ⟨g, Fd.ix nm xs * 4 + 3, none⟩ (.slice A3 (f1.items.length + 1) c3)) (HOF.out.trans (OffT.set (p := ⟨g, Fd.ix nm xs * 4 + 3, none⟩) (v := .slice A3 (f1.items.length + 1) c3) HFT.out (by decide))))
  have HQ12 : Hid ((w3.setCell ⟨g, Fd.ix nm xs * 4 + 3, none⟩ (.slice A3 (f1.items.length + 1) c3)).heap[w10.heap.size]? = some (.cells (qx A7 rs7.length c7 (some ⟨g, 0, none⟩) fs10.length c10) 30 (0, 0))) := (show (w3.setCell ⟨g, Fd.ix nm xs * 4 + 3, none⟩ (.slice A3 (f1.items.length + 1) c3)).heap[w10.heap.size]? = w3.heap[w10.heap.size]? from Below.heap_setCell _ _ _ _ HGQ.out.symm).trans HBQ.out
  have HB12 : Hid (Below w8.heap.size w8 (w3.setCell ⟨g, Fd.ix nm xs * 4 + 3, none⟩ (.slice A3 (f1.items.length + 1) c3))) := HB3.out.setCell (p := ⟨g, Fd.ix nm xs * 4 + 3, none⟩) (by show w8.heap.size <= g; exact hgB) _
  generalize w3.setCell ⟨g, Fd.ix nm xs * 4 + 3, none⟩ (.slice A3 (f1.items.length + 1) c3) = w12 at *
  generalize Fd.chg (Fd.addI tx) nm xs = ys at *
  have hyl := HYL.out
  have hk26 := hsk.out
  have hyd : ys.length + Fd.sizes ys <= 4194304 := by omega
  clear hyl hk26 HYL HD11 HB11 HQ11
  have HD12 : Hid (DOw w12 w8.heap.size A7 c7 rs7 (some ⟨g, 0, none⟩) c10 (fs10.set (Fd.ix nm xs) ⟨n1, t1, h1, A3, f1.items.length + 1, c3⟩) ⟨ps, ys⟩) := ⟨HP12.out, HFL.out⟩
  have hI12 := HD12.out.inD
  rw [List.length_set] at hI12
  have HBW12 := qb (qa3 HB8.out HB12.out)
  have HDV2 := qb (xw ⟨ps, ys⟩ _ w12 hI12 hsp hyd (HM.out w12 HBW12.out))
  clear hI12 p0 p1 hgq1 hgq2 x0 x1 x2 x3 q0 q1 q2 q3
  obtain ⟨p0, p1, -⟩ := qr HQ12.out
  go_wp2_with fail
  refine HDV2.out.mono ?_
  rintro e w13 ⟨rfl, hb⟩
  have HB13 := qb (qa3 HB12.out hb)
  have HD13 := qb (HD12.out.keep hb)
  have HQ13 := qb (qi HQ12.out hb)
  have HBW := qb (qa3 HB8.out HB13.out)
  have HY13 := qb (qi HY8.out HB13.out)
  have HZ13 := qb (qi HZ8.out HB13.out)
  have HX13 := qb (HD8.out.keep HB13.out)
  clear hb p0 p1 HDV2
  obtain ⟨p0, p1, -⟩ := qr HQ13.out
  obtain ⟨y0, y1, y2, y3⟩ := qr HY13.out
  obtain ⟨z0, z1, -⟩ := qr HZ13.out
  cases hvy : Dk.valid ⟨ps, ys⟩
  ·have HE2 : Hid (Dk.line ⟨ps, xs⟩ s = (⟨ps, xs⟩, Dk.noW)) := HE.out.trans (Dk.ifOk_no hvy)
   go_wp2
   refine bodyPost_ret (v := .tuple #[dkV A5 rs5.length c5 A6 fs6.length c6, sv [110, 111]]) (by simp [results, results11, go_sem, *]) rfl ⟨A5, c5, rs5, A6, c6, fs6, by rw [HE2.out]; try rfl, ?_, ?_⟩
   ·rw [HE2.out]
    exact ((HX13.out.set (p := ⟨w.heap.size + 1, 0, none⟩) (by show w.heap.size + 1 < w1.heap.size; omega) _).set (p := ⟨w.heap.size + 1, 1, none⟩) (by show w.heap.size + 1 < w1.heap.size; omega) _).low (by omega)
   exact (HBW.out.setCell (p := ⟨w.heap.size + 1, 0, none⟩) (by show w.heap.size <= w.heap.size + 1; omega) _).setCell (p := ⟨w.heap.size + 1, 1, none⟩) (by show w.heap.size <= w.heap.size + 1; omega) _
  have HE2 : Hid (Dk.line ⟨ps, xs⟩ s = (⟨ps, ys⟩, Dk.okW)) := HE.out.trans (Dk.ifOk_yes hvy)
  go_wp2
  refine bodyPost_ret (v := .tuple #[dkV A7 rs7.length c7 (some ⟨g, 0, none⟩) fs10.length c10, sv [111, 107]]) (by simp [results, results11, go_sem, *]) rfl ⟨A7, c7, rs7, some ⟨g, 0, none⟩, c10, fs10.set (Fd.ix nm xs) ⟨n1, t1, h1, A3, f1.items.length + 1, c3⟩, by rw [HE2.out, List.length_set]; rfl, ?_, ?_⟩
  ·rw [HE2.out]
   exact ((HD13.out.set (p := ⟨w.heap.size + 1, 0, none⟩) (by show w.heap.size + 1 < w8.heap.size; omega) _).set (p := ⟨w.heap.size + 1, 1, none⟩) (by show w.heap.size + 1 < w8.heap.size; omega) _).low (by omega)
  exact (HBW.out.setCell (p := ⟨w.heap.size + 1, 0, none⟩) (by show w.heap.size <= w.heap.size + 1; omega) _).setCell (p := ⟨w.heap.size + 1, 1, none⟩) (by show w.heap.size <= w.heap.size + 1; omega) _
 ·-- holds
  cases hN : (rest == nm)
  ·have HE2 : Hid (Dk.line ⟨ps, xs⟩ s = (⟨ps, xs⟩, Dk.whatW)) := by
    have e1 := HW1.out; have e2 := HW2.out; have e3 := HW3.out
    show _ = _
    subst e1 e2 e3
    exact HLN.out.trans (Dk.say_what hR T1 T2 T3 (.inr hN))
   rw [hN] at HCT
   go_wp2_with fail
   refine (HCT.out wb).mono ?_
   rintro e w9 ⟨rfl, rfl⟩
   go_wp2
   refine bodyPost_ret (v := .tuple #[dkV A5 rs5.length c5 A6 fs6.length c6, sv [119, 104, 97, 116]]) (by simp [results, results11, go_sem, *]) rfl ⟨A5, c5, rs5, A6, c6, fs6, by rw [HE2.out]; try rfl, ?_, ?_⟩
   ·rw [HE2.out]
    exact ((HXb.out.set (p := ⟨w.heap.size + 1, 0, none⟩) (by show w.heap.size + 1 < w1.heap.size; omega) _).set (p := ⟨w.heap.size + 1, 1, none⟩) (by show w.heap.size + 1 < w1.heap.size; omega) _).low (by omega)
   exact (HBWb.out.setCell (p := ⟨w.heap.size + 1, 0, none⟩) (by show w.heap.size <= w.heap.size + 1; omega) _).setCell (p := ⟨w.heap.size + 1, 1, none⟩) (by show w.heap.size <= w.heap.size + 1; omega) _
  rw [hN] at HCT
  obtain rfl : rest = nm := beq_iff_eq.1 hN
  have HE : Hid (Dk.line ⟨ps, xs⟩ s = Dk.ifOk ⟨ps, xs⟩ ⟨ps, Fd.chg Fd.flip rest xs⟩) := by
   have e1 := HW1.out; have e2 := HW2.out; have e3 := HW3.out
   show _ = _
   have e9 := HLN.out.trans (Dk.say_holds (d := ⟨ps, xs⟩) (s := s) (by rw [e2]; exact hR) (by rw [e1]; exact T1) (by rw [e1]; exact T2) (by rw [e1]; exact T3) (by rw [e1]; exact T4) (by rw [e2, e3]; exact hN))
   rw [e2, e3] at e9
   exact e9
  go_wp2_with fail
  refine (HCT.out wb).mono ?_
  rintro e w9 ⟨rfl, rfl⟩
  go_wp2_with fail
  refine (vj rest xs A7 A9 rs7.length c7 c9 w8.heap.size w10.heap.size fs9 wb HQb.out HDb.out.data HBb.out.size (by omega)).mono ?_
  rintro e w11 ⟨g, c10, fs10, rfl, hbx, hf10, hchg⟩
  have HQ11 := qb hbx
  have hoff : OffT 115 wb w11 := OffT.chg hchg (fun b hb => by
   rcases List.mem_cons.1 hb with rfl | hb
   ·exact ⟨_, _, HQb.out, by decide⟩
   ·obtain ⟨cs, hc⟩ := HDb.out.data.ty.1 b (qO.1 hb)
    exact ⟨cs, _, hc, by decide⟩)
  have HD11 : Hid (DOw w11 w8.heap.size A7 c7 rs7 (some ⟨g, 0, none⟩) c10 fs10 ⟨ps, Fd.put rest xs⟩) := ⟨HDb.out.parts.other hoff, hf10⟩
  have HB11 := qb (HBb.out.trans (hchg.below HBb.out.size (fun b hb => by
   rcases List.mem_cons.1 hb with rfl | hb
   ·exact hz10
   ·exact (HDb.out.data.own.lt b (qO.1 hb)).1)))
  have hz11 : w10.heap.size + 1 <= w11.heap.size := lt_of_block hbx
  have HKX := qb (Fd.ix_lt_put rest xs)
  clear hbx hf10 hchg hoff y0 y1 y2 y3 z0 z1 p0 p1 p2 p3
  have hgs : g < w11.heap.size := by
   obtain ⟨cs, hc⟩ := HD11.out.data.ty.1 g rfl
   exact lt_of_block hc
  have hgB : w8.heap.size <= g := (HD11.out.data.own.lt g rfl).1
  have hki : Fd.ix rest xs < fs10.length := by rw [HD11.out.data.len]; exact HKX.out
  have hri : fs10[Fd.ix rest xs]? = some fs10[Fd.ix rest xs] := List.getElem?_eq_getElem hki
  generalize fs10[Fd.ix rest xs] = r1 at hri
  obtain ⟨n1, t1, h1, A1, l1, c1⟩ := r1
  have hxi : (Fd.put rest xs)[Fd.ix rest xs]? = some ((Fd.put rest xs)[Fd.ix rest xs]'HKX.out) := List.getElem?_eq_getElem HKX.out
  generalize (Fd.put rest xs)[Fd.ix rest xs]'HKX.out = f1 at hxi
  have HRI := qb hri
  have HXI := qb hxi
  have HEL := qb (HD11.out.data.els _ _ _ hri hxi)
  have HGQ : Hid (g ≠ w10.heap.size) := fun e => by
   obtain ⟨cs, hc⟩ := HD11.out.data.ty.1 g rfl
   rw [e, HQ11.out] at hc
   injection hc with hc
   injection hc with _ hc
   exact absurd hc (by decide)
  have hgq1 := HGQ.out
  have hgq2 := HGQ.out.symm
  clear hri hxi
  obtain ⟨p0, p1, -⟩ := qr HQ11.out
  obtain ⟨x0, x1, x2, x3, q0, q1, q2, q3⟩ := HD11.out.data.cells_of HRI.out
  have HFL := qb (HD11.out.data.cell HRI.out HXI.out (j := 2) (by omega) ⟨n1, t1, !h1, A1, l1, c1⟩ (Fd.flip f1) (v := .bool (!h1)) rfl ⟨rfl, rfl, rfl⟩ ⟨HEL.out.1, HEL.out.2.1, (by show (!h1) = !f1.holds; rw [<- HEL.out.2.2.1]), rfl⟩)
  have HCH := qb (jz (Fd.flip) HXI.out)
  rw [<- HCH.out] at HFL
  change Hid (FLo _ _ _ _ (fs10.set (Fd.ix rest xs) ⟨n1, t1, !h1, A1, l1, c1⟩) (Fd.chg (Fd.flip) rest xs)) at HFL
  have HYL := qb (And.intro (Fd.chg_len (Fd.flip) rest xs) (Fd.chg_size (Fd.flip_size) rest xs))
  go_upto_region 36 with fail
  have HP12 := qb (HD11.out.parts.other (w' := w11.setCell ⟨g, Fd.ix rest xs * 4 + 2, none⟩ (.bool (!h1))) (OffT.set (p := ⟨g, Fd.ix rest xs * 4 + 2, none⟩) (v := .bool (!h1)) (T2 := 62) (HD11.out.data.ty.1 g rfl) (by decide)))
  have HQ12 : Hid ((w11.setCell ⟨g, Fd.ix rest xs * 4 + 2, none⟩ (.bool (!h1))).heap[w10.heap.size]? = some (.cells (qx A7 rs7.length c7 (some ⟨g, 0, none⟩) fs10.length c10) 30 (0, 0))) := (show (w11.setCell ⟨g, Fd.ix rest xs * 4 + 2, none⟩ (.bool (!h1))).heap[w10.heap.size]? = w11.heap[w10.heap.size]? from Below.heap_setCell _ _ _ _ HGQ.out.symm).trans HQ11.out
  have HB12 : Hid (Below w8.heap.size w8 (w11.setCell ⟨g, Fd.ix rest xs * 4 + 2, none⟩ (.bool (!h1)))) := HB11.out.setCell (p := ⟨g, Fd.ix rest xs * 4 + 2, none⟩) (by show w8.heap.size <= g; exact hgB) (.bool (!h1))
  generalize w11.setCell ⟨g, Fd.ix rest xs * 4 + 2, none⟩ (.bool (!h1)) = w12 at *
  generalize Fd.chg (Fd.flip) rest xs = ys at *
  have hyl := HYL.out
  have hk26 := hsk.out
  have hyd : ys.length + Fd.sizes ys <= 4194304 := by omega
  clear hyl hk26 HYL HD11 HB11 HQ11
  have HD12 : Hid (DOw w12 w8.heap.size A7 c7 rs7 (some ⟨g, 0, none⟩) c10 (fs10.set (Fd.ix rest xs) ⟨n1, t1, !h1, A1, l1, c1⟩) ⟨ps, ys⟩) := ⟨HP12.out, HFL.out⟩
  have hI12 := HD12.out.inD
  rw [List.length_set] at hI12
  have HBW12 := qb (qa3 HB8.out HB12.out)
  have HDV2 := qb (xw ⟨ps, ys⟩ _ w12 hI12 hsp hyd (HM.out w12 HBW12.out))
  clear hI12 p0 p1 hgq1 hgq2 x0 x1 x2 x3 q0 q1 q2 q3
  obtain ⟨p0, p1, -⟩ := qr HQ12.out
  go_wp2_with fail
  refine HDV2.out.mono ?_
  rintro e w13 ⟨rfl, hb⟩
  have HB13 := qb (qa3 HB12.out hb)
  have HD13 := qb (HD12.out.keep hb)
  have HQ13 := qb (qi HQ12.out hb)
  have HBW := qb (qa3 HB8.out HB13.out)
  have HY13 := qb (qi HY8.out HB13.out)
  have HZ13 := qb (qi HZ8.out HB13.out)
  have HX13 := qb (HD8.out.keep HB13.out)
  clear hb p0 p1 HDV2
  obtain ⟨p0, p1, -⟩ := qr HQ13.out
  obtain ⟨y0, y1, y2, y3⟩ := qr HY13.out
  obtain ⟨z0, z1, -⟩ := qr HZ13.out
  cases hvy : Dk.valid ⟨ps, ys⟩
  ·have HE2 : Hid (Dk.line ⟨ps, xs⟩ s = (⟨ps, xs⟩, Dk.noW)) := HE.out.trans (Dk.ifOk_no hvy)
   go_wp2
   refine bodyPost_ret (v := .tuple #[dkV A5 rs5.length c5 A6 fs6.length c6, sv [110, 111]]) (by simp [results, results11, go_sem, *]) rfl ⟨A5, c5, rs5, A6, c6, fs6, by rw [HE2.out]; try rfl, ?_, ?_⟩
   ·rw [HE2.out]
    exact ((HX13.out.set (p := ⟨w.heap.size + 1, 0, none⟩) (by show w.heap.size + 1 < w1.heap.size; omega) _).set (p := ⟨w.heap.size + 1, 1, none⟩) (by show w.heap.size + 1 < w1.heap.size; omega) _).low (by omega)
   exact (HBW.out.setCell (p := ⟨w.heap.size + 1, 0, none⟩) (by show w.heap.size <= w.heap.size + 1; omega) _).setCell (p := ⟨w.heap.size + 1, 1, none⟩) (by show w.heap.size <= w.heap.size + 1; omega) _
  have HE2 : Hid (Dk.line ⟨ps, xs⟩ s = (⟨ps, ys⟩, Dk.okW)) := HE.out.trans (Dk.ifOk_yes hvy)
  go_wp2
  refine bodyPost_ret (v := .tuple #[dkV A7 rs7.length c7 (some ⟨g, 0, none⟩) fs10.length c10, sv [111, 107]]) (by simp [results, results11, go_sem, *]) rfl ⟨A7, c7, rs7, some ⟨g, 0, none⟩, c10, fs10.set (Fd.ix rest xs) ⟨n1, t1, !h1, A1, l1, c1⟩, by rw [HE2.out, List.length_set]; rfl, ?_, ?_⟩
  ·rw [HE2.out]
   exact ((HD13.out.set (p := ⟨w.heap.size + 1, 0, none⟩) (by show w.heap.size + 1 < w8.heap.size; omega) _).set (p := ⟨w.heap.size + 1, 1, none⟩) (by show w.heap.size + 1 < w8.heap.size; omega) _).low (by omega)
  exact (HBW.out.setCell (p := ⟨w.heap.size + 1, 0, none⟩) (by show w.heap.size <= w.heap.size + 1; omega) _).setCell (p := ⟨w.heap.size + 1, 1, none⟩) (by show w.heap.size <= w.heap.size + 1; omega) _
 -- what
 have HE2 : Hid (Dk.line ⟨ps, xs⟩ s = (⟨ps, xs⟩, Dk.whatW)) := by
  have e1 := HW1.out; have e2 := HW2.out
  show _ = _
  subst e1 e2
  exact HLN.out.trans (Dk.say_what hR T1 T2 T3 (.inl T4))
 go_wp2
 refine bodyPost_ret (v := .tuple #[dkV A5 rs5.length c5 A6 fs6.length c6, sv [119, 104, 97, 116]]) (by simp [results, results11, go_sem, *]) rfl ⟨A5, c5, rs5, A6, c6, fs6, by rw [HE2.out]; try rfl, ?_, ?_⟩
 ·rw [HE2.out]
  exact ((HXb.out.set (p := ⟨w.heap.size + 1, 0, none⟩) (by show w.heap.size + 1 < w1.heap.size; omega) _).set (p := ⟨w.heap.size + 1, 1, none⟩) (by show w.heap.size + 1 < w1.heap.size; omega) _).low (by omega)
 exact (HBWb.out.setCell (p := ⟨w.heap.size + 1, 0, none⟩) (by show w.heap.size <= w.heap.size + 1; omega) _).setCell (p := ⟨w.heap.size + 1, 1, none⟩) (by show w.heap.size <= w.heap.size + 1; omega) _
end Go.Proofs.YtmboieajfdkllaaGreat
