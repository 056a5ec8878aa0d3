import Derived.Test.YtmboieajfdkllaaGreatU03
import Derived.Test.YtmboieajfdkllaaGreatU01
import Derived.Test.YtmboieajfdkllaaGreatU08
import Derived.Deep.QuietTactic
import Derived.BigQuiet
import Derived.Test.YtmboieajfdkllaaGreatU10
set_option maxHeartbeats 4000000
set_option maxRecDepth 100000
open Go.Proofs.Tryz
namespace Go.Proofs.YtmboieajfdkllaaGreat
open Go.RowKit
def hasB (keep : Tx) (c : UInt8) : Bool := keep.any fun d => d == c
def jp (keep : Tx) (c : UInt8) : Tx := if qu c || qK c || hasB keep c then [c] else hex3 c
def zF (keep l : Tx) : Tx := l.flatMap (jp keep)
theorem JF (keep l : Tx) (k : Nat) (h : k < l.length) : zF keep (l.take (k + 1)) = zF keep (l.take k) ++ jp keep l[k] := by
 unfold zF
 rw [List.take_add_one, List.getElem?_eq_getElem h, List.flatMap_append]
 simp
theorem JG (keep : Tx) (c : UInt8) : (jp keep c).length <= 3 := by unfold jp hex3; split <;> simp
theorem yr (keep : Tx) : ∀ l : Tx, (zF keep l).length <= 3 * l.length
 | [] => by simp [zF]
 | c :: t => by
  have h1 := JG keep c
  have h2 := yr keep t
  unfold zF at *
  rw [List.flatMap_cons, List.length_append, List.length_cons]
  omega
theorem yt (keep l : Tx) (k : Nat) : (zF keep (l.take k)).length <= 3 * l.length := by
 have h := yr keep (l.take k)
 have h2 : (l.take k).length <= l.length := by rw [List.length_take]; omega
 omega
theorem yu (c d : UInt8) : (c == d) = decide ((c.toNat : Int) = d.toNat) := by
 rw [Bool.eq_iff_iff]
 simp only [beq_iff_eq, decide_eq_true_eq]
 constructor
 ·rintro rfl; rfl
 intro h; exact UInt8.toNat_inj.1 (by omega)
theorem pct_esc (l : Tx) : zF [45, 95, 46, 126] l = zm l := by
 unfold zF zm
 congr 1
 funext c
 unfold jp ji jr hasB
 have : (List.any [45, 95, 46, 126] fun d => d == c) = (decide ((c.toNat : Int) = 45) || decide ((c.toNat : Int) = 95) || decide ((c.toNat : Int) = 46) || decide ((c.toNat : Int) = 126)) := by
  simp only [List.any_cons, List.any_nil, Bool.or_false, yu]
  rw [Bool.eq_iff_iff]
  simp
  omega
 rw [this]
 simp only [Bool.or_assoc]
section
variable {keep : Tx} {c : UInt8} {k : Nat} {r : Bool}
theorem JH (h : ((keep.drop k).any fun d => d == c) = r) (hk : k < keep.length) : ((keep[k] == c) || (keep.drop (k + 1)).any fun d => d == c) = r := by
 rw [qX keep k hk, List.any_cons] at h; exact h
end
theorem zg (c : UInt8) (w : World) :
  Calls Tryz.prog 169 #[.int .u8 (c.toNat : Int)] w fun e w' => e = .returned (.bool (qu c)) /\ w = w' := by
 go_enter func169, ntmps169
 go_wp2
 all_goals (go_ret; refine ⟨qw ?_, rfl⟩; simp [qu, zi, isUp, *]; try omega)
theorem kG (keep : Tx) (c : UInt8) (hl : keep.length <= maxLen) (w : World) :
  Calls Tryz.prog 152 #[.string ⟨keep.toArray⟩, .int .u8 (c.toNat : Int)] w fun e w' => e = .returned (.bool (hasB keep c)) /\ w = w' := by
 unfold maxLen at hl
 have T6 : Hid (hasB keep c = keep.any fun d => d == c) := rfl
 go_enter func152, ntmps152
 go_wp2
 go_loop [5] (fun i => ∃ k : Nat, k <= keep.length /\ i = .int .i64 k /\ ((keep.drop k).any fun d => d == c) = keep.any fun d => d == c) (fun i => keep.length - (intOf i).toNat)
 case atStart => exact ⟨0, Nat.zero_le _, rfl, rfl⟩
 obtain ⟨k, hk, rfl, hall⟩ := hrel
 by_cases hlt : k < keep.length
 ·have H := qb (JH hall hlt)
  have HE := qb (yu keep[k] c)
  clear hall
  by_cases he : (keep[k].toNat : Int) = c.toNat
  ·go_wp2
   go_ret
   refine ⟨qw ?_, rfl⟩
   rw [T6.out, <- H.out, HE.out, decide_eq_true he, Bool.true_or]
  go_wp2
  go_round
  case rel =>
   refine ⟨k + 1, by omega, by go_num, ?_⟩
   have := H.out
   rwa [HE.out, decide_eq_false he, Bool.false_or] at this
  case measure => simp [intOf]; omega
 go_wp2
 go_ret
 refine ⟨qw ?_, rfl⟩
 rw [T6.out, <- hall, zc _ _ (by omega)]
 rfl
theorem yv (l keep : Tx) (hl : l.length <= 1073741824) (hk0 : keep.length <= maxLen) (w : World) :
  Calls Tryz.prog 151 #[.string ⟨l.toArray⟩, .string ⟨keep.toArray⟩] w fun e w' => e = .returned (.string ⟨(zF keep l).toArray⟩) /\ Below w.heap.size w w' := by
 have HK := qb (fun c w => kG keep c hk0 w)
 clear hk0
 go_enter func151, ntmps151
 go_wp2
 go_loopw [6] (fun i wr => ∃ k : Nat, k <= l.length /\ i = .int .i64 k /\ Bld w.heap.size w.heap.size (zF keep (l.take k)) wr /\ Below w.heap.size w wr) (fun i _ => l.length - (intOf i).toNat)
 case atStart =>
  refine ⟨0, Nat.zero_le _, rfl, ?_, (Below.refl _ _).alloc (Nat.le_refl _) _⟩
  exact .inl ⟨Nat.le_refl _, _, heap_alloc_new w _, World.ownsRow_nil _ _ _ _, by simp [Value.ownBlock]⟩
 obtain ⟨k, hk, rfl, ho, hb⟩ := hrel
 have HB := qb hb
 have HO := qb ho
 have hsz := hb.size
 clear hb ho
 by_cases hlt : k < l.length
 ·have HS := qb (JF keep l k hlt)
  have hlen := yt keep l k
  have hlen2 := yt keep l (k + 1)
  rw [HS.out, List.length_append] at hlen2
  generalize zF keep (l.take k) = acc at *
  have HP := qb (fun w => zg l[k] w)
  have HD := qb (fun w => zf l[k] w)
  have HC : Hid (jp keep l[k] = if qu l[k] || qK l[k] || hasB keep l[k] then [l[k]] else hex3 l[k]) := rfl
  cases h0 : (qu l[k] || qK l[k] || hasB keep l[k])
  ·have HE : Hid (jp keep l[k] = hex3 l[k]) := by show _ = _; rw [HC.out, h0]; rfl
   have h3 : (hex3 l[k]).length = 3 := rfl
   rw [HE.out, h3] at hlen2
   have HX := qb (And.intro (xL l[k]) (xM l[k]))
   simp only [Bool.or_eq_false_iff] at h0
   have H1 := qb h0.1.1
   have H2 := qb h0.1.2
   have H3 := qb h0.2
   clear h0
   go_wp2_with (first | (go_at_call 169; refine qf (HP.out _) ?_; rw [H1.out]) | (go_at_call 144; refine qf (HD.out _) ?_; rw [H2.out]) | (go_at_call 152; refine (HK.out _ _).mono ?_; rintro e w' ⟨rfl, rfl⟩; rw [H3.out]))
   refine (zM _ _ acc 37 _ HO.out (by omega) HB.out.size).mono ?_
   rintro e w2 ⟨rfl, ho2, hb2⟩
   have HB2 := qb (HB.out.trans hb2)
   have HO2 := qb ho2
   clear hb2 ho2
   have hq1 : l[k].toNat / 16 < 16 := HX.out.1
   have hq2 : (l[k].toNat : Int) / 16 < 16 := by omega
   have hq3 : l[k].toNat % 16 < 16 := HX.out.2
   have hq4 : (l[k].toNat : Int) % 16 < 16 := by omega
   go_wp2_with fail
   refine (zM _ _ (acc ++ [37]) _ _ HO2.out (by simp; omega) HB2.out.size).mono ?_
   rintro e w3 ⟨rfl, ho3, hb3⟩
   have HB3 := qb (HB2.out.trans hb3)
   have HO3 := qb ho3
   clear hb3 ho3
   go_wp2_with fail
   refine (zM _ _ _ _ _ HO3.out (by simp; omega) HB3.out.size).mono ?_
   rintro e w4 ⟨rfl, ho4, hb4⟩
   have HB4 := qb (HB3.out.trans hb4)
   have HO4 := qb ho4
   clear hb4 ho4
   go_wp2
   go_roundw
   (case rel =>
    refine ⟨k + 1, by omega, by go_num, ?_, HB4.out⟩
    have h := HO4.out
    have e1 := yH (l[k].toNat / 16) hq1
    have e2 := yH (l[k].toNat % 16) hq3
    unfold hexs at e1 e2
    rw [e1, e2] at h
    rw [HS.out, HE.out, hex3]
    simpa using h)
   (case measure => simp [intOf]; omega)
  ·have HE : Hid (jp keep l[k] = [l[k]]) := by show _ = _; rw [HC.out, h0]; rfl
   have h3 : ([l[k]] : Tx).length = 1 := rfl
   rw [HE.out, h3] at hlen2
   cases h1 : qu l[k] <;> cases h2 : qK l[k] <;> cases h3 : hasB keep l[k]
   ·rw [h1, h2, h3] at h0; cases h0
   all_goals
    have H1 := qb h1
    have H2 := qb h2
    have H3 := qb h3
    clear h0 h1 h2 h3
    go_wp2_with (first | (go_at_call 169; refine qf (HP.out _) ?_; rw [H1.out]) | (go_at_call 144; refine qf (HD.out _) ?_; rw [H2.out]) | (go_at_call 152; refine (HK.out _ _).mono ?_; rintro e w' ⟨rfl, rfl⟩; rw [H3.out]))
    refine (zM _ _ acc l[k] _ HO.out (by omega) HB.out.size).mono ?_
    rintro e w2 ⟨rfl, ho2, hb2⟩
    have HB2 := qb (HB.out.trans hb2)
    have HO2 := qb ho2
    clear hb2 ho2
    go_wp2
    go_roundw
    (case rel => exact ⟨k + 1, by omega, by go_num, by rw [HS.out, HE.out]; exact HO2.out, HB2.out⟩)
    (case measure => simp [intOf]; omega)
 ·have hkn : k = l.length := by omega
  subst hkn
  rw [List.take_length] at HO
  go_wp2_with fail
  refine (ve _ _ _ _ HO.out HB.out.size).mono ?_
  rintro e w2 ⟨rfl, hb2⟩
  have HB2 := qb (HB.out.trans hb2)
  clear hb2
  go_wp2
  go_ret
  exact ⟨rfl, HB2.out⟩
theorem JI (l : Tx) (hl : l.length <= 1073741824) (w : World) :
  Calls Tryz.prog 119 #[.string ⟨l.toArray⟩] w fun e w' => e = .returned (.string ⟨(zm l).toArray⟩) /\ Below w.heap.size w w' := by
 have HP := qb (fun w => yv l [45, 95, 46, 126] hl (by simp [maxLen]) w)
 clear hl
 go_enter func119, ntmps119
 go_wp2_with fail
 refine (HP.out _).mono ?_
 rw [pct_esc]
 rintro e w2 ⟨rfl, hb2⟩
 have HB2 := qb hb2
 clear hb2
 go_wp2
 go_ret
 exact ⟨rfl, HB2.out⟩
open Go.Deep
theorem ZX (w : World) {b : Nat} {c : UInt8} {t : TypeId} (hh : w.heap[b]? = some (.cells #[.int .u8 (c.toNat : Int)] t (0, 0))) :
  (convert 44 9 (.slice (some ⟨b, 0, none⟩) 1 1)).run Tryz.prog w = .ok (.string ⟨[c].toArray⟩) w := by
 refine run_convert_bytes_back w 44 9 5 ⟨b, 0, none⟩ 1 [c] underlying44 underlying5 underlying9 ?_
 intro j hj
 have hj0 : j = 0 := by simpa using hj
 subst hj0
 simp only [List.getElem_cons_zero]
 show w.cell? ⟨b, 0, none⟩ = _
 rw [cell_of_row w b 0 _ _ _ hh]; rfl
theorem zn (c : UInt8) (w : World) :
  Calls Tryz.prog 171 #[.int .u8 (c.toNat : Int)] w fun e w' => e = .returned (.bool (St.bareB c)) /\ w = w' := by
 have HL := qb (fun w => zg c w)
 have HG := qb (fun w => zf c w)
 have HH := qb (fun w => kG [45, 95, 46, 47, 58] c (by simp [maxLen]) w)
 have T6 : Hid (St.bareB c = (qu c || qK c || hasB [45, 95, 46, 47, 58] c)) := rfl
 generalize hasB [45, 95, 46, 47, 58] c = q at *
 cases hl : qu c <;> cases hg : qK c
 all_goals
  have HLL := qb hl
  have HGG := qb hg
  clear hl hg
  go_enter func171, ntmps171
  go_wp2_with (first | (go_at_call 169; refine qf (HL.out _) ?_; rw [HLL.out]) | (go_at_call 144; refine qf (HG.out _) ?_; rw [HGG.out]) | (go_at_call 152; refine qf (HH.out _) ?_))
  all_goals (go_ret; refine ⟨qw ?_, rfl⟩; rw [T6.out, HLL.out, HGG.out]; rfl)
def zB (m : Int) (t a : Tx) (z : Bool) (b : UInt8) : St := if (t ++ [lowB b]).length <= 10 then ⟨m, t ++ [lowB b], a, z⟩ else St.bad
def jl (m : Int) (t a : Tx) (z : Bool) (b : UInt8) : St := if (a ++ [lowB b]).length <= 10 then ⟨m, t, a ++ [lowB b], z⟩ else St.bad
theorem xr (m : Int) (t a : Tx) (z : Bool) (b : UInt8) (w : World) (ht : t.length <= 1000) :
  Calls Tryz.prog 172 #[stV m t a z, .int .u8 (b.toNat : Int), .bool false] w fun e w' => e = .returned (St.v (zB m t a z b)) /\ Below w.heap.size w w' := by
 have HS : Hid (zB m t a z b = if (t ++ [lowB b]).length <= 10 then ⟨m, t ++ [lowB b], a, z⟩ else St.bad) := rfl
 generalize zB m t a z b = s at *
 have HL := qb (fun w3 (_ : Below ((w.alloc (.cells (ql m t a z) 90)).alloc (.cells qH 90)).heap.size ((w.alloc (.cells (ql m t a z) 90)).alloc (.cells qH 90)) w3) => xA [b] (by simp) w3)
 obtain ⟨g1, g2, g3⟩ := qE w (ql m t a z) qH 90 90
 have HG1 := qb g1
 have HG2 := qb g2
 have HG3 := qb g3
 have hz : w.heap.size < ((w.alloc (.cells (ql m t a z) 90)).alloc (.cells qH 90)).heap.size := by simp; omega
 obtain ⟨⟨y0, y1, y2, y3⟩, p0, p1, p2, p3⟩ := qh g2
 have HY1 := qb y1
 have HY2 := qb y2
 have hsum : (9223372036854775807 < (t).length + 1) = False := by rw [eq_iff_iff, iff_false]; omega
 rw [show qW [b] = [lowB b] from rfl] at HL
 clear g1 g2 g3
 go_enter func172, ntmps172
 go_upto_region 4 with fail
 generalize (w.alloc (.cells (ql m t a z) 90)).alloc (.cells qH 90) = wb at *
 generalize lowB b = c at *
 refine qU 9 (by kernel_rfl) (by kernel_rfl) (fun _ w => Below (World.heap wb).size wb w) KB (fun i => ([bIs (.pointer (some ⟨w.heap.size, 1, none⟩)), bIs (.pointer (some ⟨w.heap.size, 1, none⟩)), bIs (sv t), bIs (.int .u8 (b.toNat : Int)), bRow wb.heap.size 1 #[.int .u8 (b.toNat : Int)] 5, bIs (sv [b]), bIs (sv [c]), bIs (sv (t ++ [c])), bIs (.pointer (some ⟨w.heap.size, 1, none⟩))] : List TyB).getD i bAny) ?hWbB1 ?hkeepB1 ?hstepB1 ?hfinbB1
 case hkeepB1 =>
  refine qg (qg (qg (qg (qg (qg (qg (qg (qg qG ?_) ?_) ?_) ?_) ?_) ?_) ?_) ?_) ?_
  ·exact qj
  ·exact qj
  ·exact qj
  ·exact qj
  ·exact yc
  all_goals exact qj
 case hstepB1 =>
  refine qg (qg (qg (qg (qg (qg (qg (qg (qg qG ?_) ?_) ?_) ?_) ?_) ?_) ?_) ?_) ?_
  all_goals (intro o ho m' a w1 hm' hW hb hd K Q hK; obtain rfl := Option.some.inj ho)
  ·(have e0 : a.tmps[7]?.getD undef = .pointer (some ⟨w.heap.size, 1, none⟩) := (by rw [hb 7 (by decide +kernel)]; simp); go_simp; exact hK _ _ hW (VY _) rfl)
  ·(have e0 := qo (hd 0 (by kernel_rfl) 11 rfl); go_simp; exact hK _ _ hW (VY _) rfl)
  ·(have e0 := qo (hd 1 (by kernel_rfl) 12 rfl); have hcw := (hW.cell (p := ⟨w.heap.size, 1, none⟩) hz).trans HY1.out; go_simp; exact hK _ _ hW (VY _) rfl)
  ·(have e0 : a.tmps[1]?.getD undef = (.int .u8 (b.toNat : Int)) := (by rw [hb 1 (by decide +kernel)]; simp); go_simp; exact hK _ _ hW (VY _) rfl)
  ·(have e0 := qo (hd 3 (by kernel_rfl) 14 rfl); go_simp; exact hK _ _ (hW.alloc hW.size _) ((Below.refl _ _).alloc (Nat.le_refl _) _) ⟨_, rfl, hW.size, heap_alloc_new w1 _⟩)
  ·(obtain ⟨b9, e1, hB9, hh9⟩ := (hd 4 (by kernel_rfl) 15 rfl); have e1 := qo e1; have hcv9 := ZX w1 hh9; go_simp; exact hK _ _ hW (VY _) rfl)
  ·(have e0 := qo (hd 5 (by kernel_rfl) 16 rfl); go_simp; refine (HL.out _ hW).mono ?_; rintro e w2 ⟨rfl, hb2⟩; exact hK _ _ (qa3 hW hb2) hb2 rfl)
  ·(have e0 := qo (hd 2 (by kernel_rfl) 13 rfl); have e1 := qo (hd 6 (by kernel_rfl) 17 rfl); go_simp; exact hK _ _ hW (VY _) rfl)
  (have e0 := qo (hd 0 (by kernel_rfl) 11 rfl); go_simp; exact hK _ _ hW (VY _) rfl)
 case hWbB1 => exact (Below.refl _ _).drew
 intro vs w3 hW hF
 simp only [qF, hdst, List.getElem?_cons_succ, List.getElem?_cons_zero, Option.bind, List.drop_succ_cons, List.drop_zero, Act.put]
 have h1 : vs 7 = sv (t ++ [c]) := hF 7 (by omega)
 have h2 : vs 8 = .pointer (some ⟨w.heap.size, 1, none⟩) := hF 8 (by omega)
 have h3 : vs 0 = .pointer (some ⟨w.heap.size, 1, none⟩) := hF 0 (by omega)
 rw [h1, h2, h3]
 have HB3 := qb (qa3 HG1.out hW)
 have HX3 := qb (qi HG2.out hW)
 have HR3 := qb (qi HG3.out hW)
 clear hF h1 h2 h3 hW y0 y1 y2 y3 p0 p1 p2 p3 HY1 HY2 hz HG1 HG2 HG3
 have HX4 := qb (qP (o := 1) (u := sv (t ++ [c])) HX3.out)
 have HR4 := qb ((Below.heap_setCell w3 ⟨w.heap.size, 1, none⟩ (sv (t ++ [c])) (w.heap.size + 1) (show w.heap.size + 1 ≠ w.heap.size by omega)).trans HR3.out)
 have HB4 := qb (HB3.out.setCell (p := ⟨w.heap.size, 1, none⟩) (Nat.le_refl _) (sv (t ++ [c])))
 obtain ⟨⟨y0, y1, y2, y3⟩, p0, p1, p2, p3⟩ := qh HX3.out
 obtain ⟨⟨r0, r1, r2, r3⟩, k0, k1, k2, k3⟩ := qh HR3.out
 go_simp
 go_upto_region 5 with fail
 generalize w3.setCell ⟨w.heap.size, 1, none⟩ (sv (t ++ [c])) = w4 at *
 clear y0 y1 y2 y3 p0 p1 p2 p3 r0 r1 r2 r3 k0 k1 k2 k3 HB3 HX3 HR3 HL w3
 obtain ⟨⟨y0, y1, y2, y3⟩, -⟩ := qh HX4.out
 obtain ⟨⟨r0, r1, r2, r3⟩, k0, k1, k2, k3⟩ := qh HR4.out
 by_cases h10 : (t ++ [c]).length <= 10
 ·have HE : Hid (s = ⟨m, t ++ [c], a, z⟩) := by show _ = _; rw [HS.out, if_pos h10]
  have d10 : decide (10 < (((t ++ [c]).length : Nat) : Int)) = false := by simp only [decide_eq_false_iff_not]; omega
  simp only [List.length_append, List.length_cons, List.length_nil] at h10 d10
  go_wp2
  exact bodyPost_ret (qp (m := m) (t := t ++ [c]) (a := a) (z := z) results172 rfl (put4 HR4.out)) rfl ⟨by rw [HE.out], qq HB4.out (by omega) _ _ _ _⟩
 have HE : Hid (s = St.bad) := by show _ = _; rw [HS.out, if_neg h10]
 have d10 : decide (10 < (((t ++ [c]).length : Nat) : Int)) = true := by simp only [decide_eq_true_eq]; omega
 simp only [List.length_append, List.length_cons, List.length_nil] at h10 d10
 go_wp2
 exact bodyPost_ret (qp (m := 15) (t := []) (a := []) (z := false) results172 rfl (put4 HR4.out)) rfl ⟨by rw [HE.out]; rfl, qq HB4.out (by omega) _ _ _ _⟩
theorem ZY (m : Int) (t a : Tx) (z : Bool) (b : UInt8) (w : World) (ha : a.length <= 1000) :
  Calls Tryz.prog 172 #[stV m t a z, .int .u8 (b.toNat : Int), .bool true] w fun e w' => e = .returned (St.v (jl m t a z b)) /\ Below w.heap.size w w' := by
 have HS : Hid (jl m t a z b = if (a ++ [lowB b]).length <= 10 then ⟨m, t, a ++ [lowB b], z⟩ else St.bad) := rfl
 generalize jl m t a z b = s at *
 have HL := qb (fun w3 (_ : Below ((w.alloc (.cells (ql m t a z) 90)).alloc (.cells qH 90)).heap.size ((w.alloc (.cells (ql m t a z) 90)).alloc (.cells qH 90)) w3) => xA [b] (by simp) w3)
 obtain ⟨g1, g2, g3⟩ := qE w (ql m t a z) qH 90 90
 have HG1 := qb g1
 have HG2 := qb g2
 have HG3 := qb g3
 have hz : w.heap.size < ((w.alloc (.cells (ql m t a z) 90)).alloc (.cells qH 90)).heap.size := by simp; omega
 obtain ⟨⟨y0, y1, y2, y3⟩, p0, p1, p2, p3⟩ := qh g2
 have HY1 := qb y1
 have HY2 := qb y2
 have hsum : (9223372036854775807 < (a).length + 1) = False := by rw [eq_iff_iff, iff_false]; omega
 rw [show qW [b] = [lowB b] from rfl] at HL
 clear g1 g2 g3
 go_enter func172, ntmps172
 go_upto_region 4 with fail
 generalize (w.alloc (.cells (ql m t a z) 90)).alloc (.cells qH 90) = wb at *
 generalize lowB b = c at *
 refine qU 9 (by kernel_rfl) (by kernel_rfl) (fun _ w => Below (World.heap wb).size wb w) KB (fun i => ([bIs (.pointer (some ⟨w.heap.size, 2, none⟩)), bIs (.pointer (some ⟨w.heap.size, 2, none⟩)), bIs (sv a), bIs (.int .u8 (b.toNat : Int)), bRow wb.heap.size 1 #[.int .u8 (b.toNat : Int)] 5, bIs (sv [b]), bIs (sv [c]), bIs (sv (a ++ [c])), bIs (.pointer (some ⟨w.heap.size, 2, none⟩))] : List TyB).getD i bAny) ?hWbB2 ?hkeepB2 ?hstepB2 ?hfinbB2
 case hkeepB2 =>
  refine qg (qg (qg (qg (qg (qg (qg (qg (qg qG ?_) ?_) ?_) ?_) ?_) ?_) ?_) ?_) ?_
  ·exact qj
  ·exact qj
  ·exact qj
  ·exact qj
  ·exact yc
  all_goals exact qj
 case hstepB2 =>
  refine qg (qg (qg (qg (qg (qg (qg (qg (qg qG ?_) ?_) ?_) ?_) ?_) ?_) ?_) ?_) ?_
  all_goals (intro o ho m' a w1 hm' hW hb hd K Q hK; obtain rfl := Option.some.inj ho)
  ·(have e0 : a.tmps[7]?.getD undef = .pointer (some ⟨w.heap.size, 2, none⟩) := (by rw [hb 7 (by decide +kernel)]; simp); go_simp; exact hK _ _ hW (VY _) rfl)
  ·(have e0 := qo (hd 0 (by kernel_rfl) 11 rfl); go_simp; exact hK _ _ hW (VY _) rfl)
  ·(have e0 := qo (hd 1 (by kernel_rfl) 12 rfl); have hcw := (hW.cell (p := ⟨w.heap.size, 2, none⟩) hz).trans HY2.out; go_simp; exact hK _ _ hW (VY _) rfl)
  ·(have e0 : a.tmps[1]?.getD undef = (.int .u8 (b.toNat : Int)) := (by rw [hb 1 (by decide +kernel)]; simp); go_simp; exact hK _ _ hW (VY _) rfl)
  ·(have e0 := qo (hd 3 (by kernel_rfl) 14 rfl); go_simp; exact hK _ _ (hW.alloc hW.size _) ((Below.refl _ _).alloc (Nat.le_refl _) _) ⟨_, rfl, hW.size, heap_alloc_new w1 _⟩)
  ·(obtain ⟨b9, e1, hB9, hh9⟩ := (hd 4 (by kernel_rfl) 15 rfl); have e1 := qo e1; have hcv9 := ZX w1 hh9; go_simp; exact hK _ _ hW (VY _) rfl)
  ·(have e0 := qo (hd 5 (by kernel_rfl) 16 rfl); go_simp; refine (HL.out _ hW).mono ?_; rintro e w2 ⟨rfl, hb2⟩; exact hK _ _ (qa3 hW hb2) hb2 rfl)
  ·(have e0 := qo (hd 2 (by kernel_rfl) 13 rfl); have e1 := qo (hd 6 (by kernel_rfl) 17 rfl); go_simp; exact hK _ _ hW (VY _) rfl)
  (have e0 := qo (hd 0 (by kernel_rfl) 11 rfl); go_simp; exact hK _ _ hW (VY _) rfl)
 case hWbB2 => exact (Below.refl _ _).drew
 intro vs w3 hW hF
 simp only [qF, hdst, List.getElem?_cons_succ, List.getElem?_cons_zero, Option.bind, List.drop_succ_cons, List.drop_zero, Act.put]
 have h1 : vs 7 = sv (a ++ [c]) := hF 7 (by omega)
 have h2 : vs 8 = .pointer (some ⟨w.heap.size, 2, none⟩) := hF 8 (by omega)
 have h3 : vs 0 = .pointer (some ⟨w.heap.size, 2, none⟩) := hF 0 (by omega)
 rw [h1, h2, h3]
 have HB3 := qb (qa3 HG1.out hW)
 have HX3 := qb (qi HG2.out hW)
 have HR3 := qb (qi HG3.out hW)
 clear hF h1 h2 h3 hW y0 y1 y2 y3 p0 p1 p2 p3 HY1 HY2 hz HG1 HG2 HG3
 have HX4 := qb (qP (o := 2) (u := sv (a ++ [c])) HX3.out)
 have HR4 := qb ((Below.heap_setCell w3 ⟨w.heap.size, 2, none⟩ (sv (a ++ [c])) (w.heap.size + 1) (show w.heap.size + 1 ≠ w.heap.size by omega)).trans HR3.out)
 have HB4 := qb (HB3.out.setCell (p := ⟨w.heap.size, 2, none⟩) (Nat.le_refl _) (sv (a ++ [c])))
 obtain ⟨⟨y0, y1, y2, y3⟩, p0, p1, p2, p3⟩ := qh HX3.out
 obtain ⟨⟨r0, r1, r2, r3⟩, k0, k1, k2, k3⟩ := qh HR3.out
 go_simp
 go_upto_region 5 with fail
 generalize w3.setCell ⟨w.heap.size, 2, none⟩ (sv (a ++ [c])) = w4 at *
 clear y0 y1 y2 y3 p0 p1 p2 p3 r0 r1 r2 r3 k0 k1 k2 k3 HB3 HX3 HR3 HL w3
 obtain ⟨⟨y0, y1, y2, y3⟩, -⟩ := qh HX4.out
 obtain ⟨⟨r0, r1, r2, r3⟩, k0, k1, k2, k3⟩ := qh HR4.out
 by_cases h10 : (a ++ [c]).length <= 10
 ·have HE : Hid (s = ⟨m, t, a ++ [c], z⟩) := by show _ = _; rw [HS.out, if_pos h10]
  have d10 : decide (10 < (((a ++ [c]).length : Nat) : Int)) = false := by simp only [decide_eq_false_iff_not]; omega
  simp only [List.length_append, List.length_cons, List.length_nil] at h10 d10
  go_wp2
  exact bodyPost_ret (qp (m := m) (t := t) (a := a ++ [c]) (z := z) results172 rfl (put4 HR4.out)) rfl ⟨by rw [HE.out], qq HB4.out (by omega) _ _ _ _⟩
 have HE : Hid (s = St.bad) := by show _ = _; rw [HS.out, if_neg h10]
 have d10 : decide (10 < (((a ++ [c]).length : Nat) : Int)) = true := by simp only [decide_eq_true_eq]; omega
 simp only [List.length_append, List.length_cons, List.length_nil] at h10 d10
 go_wp2
 exact bodyPost_ret (qp (m := 15) (t := []) (a := []) (z := false) results172 rfl (put4 HR4.out)) rfl ⟨by rw [HE.out]; rfl, qq HB4.out (by omega) _ _ _ _⟩
end Go.Proofs.YtmboieajfdkllaaGreat
