import Derived.Test.YtmboieajfdkllaaGreatU03
import Derived.Test.YtmboieajfdkllaaGreatU10
set_option maxHeartbeats 4000000
set_option maxRecDepth 100000
open Go.Proofs.Tryz
namespace Go.Proofs.YtmboieajfdkllaaGreat
open Go.RowKit Go.Deep
theorem JQ (c : UInt8) (w : World) :
  Calls Tryz.prog 175 #[.int .u8 (c.toNat : Int)] w fun e w' => e = .returned (sv (entB c)) /\ Below w.heap.size w w' := by
 by_cases h38 : c = 38
 ·
  have n38 : ((c.toNat : Int) == 38) = true := by rw [h38]; rfl
  have HE : Hid (entB c = [38, 97, 109, 112, 59]) := by show _ = _; rw [h38]; rfl
  clear h38
  go_enter func175, ntmps175
  go_wp2
  go_ret
  exact ⟨qM HE.out.symm, Below.refl _ _⟩
 have n38 := qy h38 38 rfl
 by_cases h60 : c = 60
 ·
  have n60 : ((c.toNat : Int) == 60) = true := by rw [h60]; rfl
  have HE : Hid (entB c = [38, 108, 116, 59]) := by show _ = _; rw [h60]; rfl
  clear h60
  go_enter func175, ntmps175
  go_wp2
  go_ret
  exact ⟨qM HE.out.symm, Below.refl _ _⟩
 have n60 := qy h60 60 rfl
 by_cases h62 : c = 62
 ·
  have n62 : ((c.toNat : Int) == 62) = true := by rw [h62]; rfl
  have HE : Hid (entB c = [38, 103, 116, 59]) := by show _ = _; rw [h62]; rfl
  clear h62
  go_enter func175, ntmps175
  go_wp2
  go_ret
  exact ⟨qM HE.out.symm, Below.refl _ _⟩
 have n62 := qy h62 62 rfl
 by_cases h34 : c = 34
 ·
  have n34 : ((c.toNat : Int) == 34) = true := by rw [h34]; rfl
  have HE : Hid (entB c = [38, 113, 117, 111, 116, 59]) := by show _ = _; rw [h34]; rfl
  clear h34
  go_enter func175, ntmps175
  go_wp2
  go_ret
  exact ⟨qM HE.out.symm, Below.refl _ _⟩
 have n34 := qy h34 34 rfl
 by_cases h39 : c = 39
 ·
  have n39 : ((c.toNat : Int) == 39) = true := by rw [h39]; rfl
  have HE : Hid (entB c = [38, 35, 51, 57, 59]) := by show _ = _; rw [h39]; rfl
  clear h39
  go_enter func175, ntmps175
  go_wp2
  go_ret
  exact ⟨qM HE.out.symm, Below.refl _ _⟩
 have n39 := qy h39 39 rfl
 have HE : Hid (entB c = [c]) := by show _ = _; unfold entB zy; rw [if_neg h38, if_neg h60, if_neg h62, if_neg h34, if_neg h39, if_pos rfl]
 clear h38 h60 h62 h34 h39
 have hcv := zN (P := Tryz.prog) underlying44 underlying5 underlying9 c (c.toNat : Int) rfl w
 go_enter func175, ntmps175
 go_wp2
 go_ret
 exact ⟨qM HE.out.symm, (Below.refl _ _).alloc (Nat.le_refl _) _⟩
theorem kH (l : Tx) (hl : l.length <= 1073741824) (w : World) :
  Calls Tryz.prog 155 #[.string ⟨l.toArray⟩] w fun e w' => e = .returned (.string ⟨(escT l).toArray⟩) /\ Below w.heap.size w w' := by
 unfold escT
 go_enter func155, ntmps155
 go_wp2
 go_loopw [3, 4] (fun v i wr => ∃ k : Nat, k <= l.length /\ i = .int .i64 k /\ v = .string ⟨((l.take k).flatMap entB).toArray⟩ /\ Below w.heap.size w wr) (fun _ i _ => l.length - (intOf i).toNat)
 case atStart => exact ⟨0, Nat.zero_le _, rfl, rfl, Below.refl _ _⟩
 obtain ⟨k, hk, rfl, rfl, hb⟩ := hrel
 have HB := qb hb
 by_cases hlt : k < l.length
 ·have HH := qb (fun w => JQ l[k] w)
  have HS := qb (xc entB l k hlt)
  have hlen := zU entB 6 xe l k
  have hlen2 := zU entB 6 xe l (k + 1)
  rw [HS.out, List.length_append] at hlen2
  generalize (l.take k).flatMap entB = acc at *
  generalize entB l[k] = g at *
  clear hb
  go_wp2_with fail
  refine (HH.out _).mono ?_
  rintro e w2 ⟨rfl, hb2⟩
  have HB2 := qb (qa3 HB.out hb2)
  clear hb2
  go_wp2
  go_roundw
  case rel => exact ⟨k + 1, by omega, by go_num, by rw [HS.out], HB2.out⟩
  (case measure => simp [intOf]; omega)
 ·have hkn : k = l.length := by omega
  subst hkn
  go_wp2
  go_ret
  first | exact ⟨rfl, hb⟩ | (rw [List.take_length]; exact ⟨rfl, hb⟩)
theorem JR (c : UInt8) (w : World) :
  Calls Tryz.prog 179 #[.int .u8 (c.toNat : Int)] w fun e w' => e = .returned (.bool (jA c)) /\ w = w' := by
 have T6 : Hid (jA c = (((c.toNat : Int) == 92) || (((c.toNat : Int) == 34) || (((c.toNat : Int) == 39) || (((c.toNat : Int) == 60) || (((c.toNat : Int) == 62) || (((c.toNat : Int) == 38) || (decide ((c.toNat : Int) < 32) || decide (126 < (c.toNat : Int)))))))))) := by
  show _ = _
  have hb : ∀ d : UInt8, (d == c) = ((c.toNat : Int) == (d.toNat : Int)) := fun d => by
   rw [Bool.eq_iff_iff, beq_iff_eq, beq_iff_eq]
   constructor
   ·rintro rfl; rfl
   intro h; exact UInt8.toNat_inj.1 (by omega)
  unfold jA
  simp only [List.any_cons, List.any_nil, Bool.or_false, hb]
  rw [show ((92 : UInt8).toNat : Int) = 92 from rfl, show ((34 : UInt8).toNat : Int) = 34 from rfl, show ((39 : UInt8).toNat : Int) = 39 from rfl, show ((60 : UInt8).toNat : Int) = 60 from rfl, show ((62 : UInt8).toNat : Int) = 62 from rfl, show ((38 : UInt8).toNat : Int) = 38 from rfl]
  generalize ((c.toNat : Int) == 92) = b1
  generalize ((c.toNat : Int) == 34) = b2
  generalize ((c.toNat : Int) == 39) = b3
  generalize ((c.toNat : Int) == 60) = b4
  generalize ((c.toNat : Int) == 62) = b5
  generalize ((c.toNat : Int) == 38) = b6
  generalize decide ((c.toNat : Int) < 32) = b7
  generalize decide (126 < (c.toNat : Int)) = b8
  cases b1 <;> cases b2 <;> cases b3 <;> cases b4 <;> cases b5 <;> cases b6 <;> cases b7 <;> cases b8 <;> rfl
 go_enter func179, ntmps179
 go_wp2
 all_goals (go_ret; refine ⟨qw ?_, rfl⟩; rw [T6.out]; first | (simp only [Bool.or_assoc]; done) | (simp [*]; done) | (simp [*]; omega))
theorem yB (k : Nat) (h : k < 16) : List.drop k (48 :: List.take k [49, 50, 51, 52, 53, 54, 55, 56, 57, 97, 98, 99, 100, 101, 102]) = [Yd k] := by
 have := QF k h
 simpa [jo] using this
theorem JS (c : UInt8) (w : World) :
  Calls Tryz.prog 180 #[.int .u8 (c.toNat : Int)] w fun e w' => e = .returned (.string ⟨([92, 120, Yd (c.toNat / 16), Yd (c.toNat % 16)] : Tx).toArray⟩) /\ Below w.heap.size w w' := by
 have h1 := xL c
 have h2 := xM c
 have HX := qb (And.intro (yB _ h1) (yB _ h2))
 go_enter func180, ntmps180
 go_wp2_with (go_quiet (fail))
 go_ret
 refine ⟨qM ?_, jn (Below.refl _ _) _⟩
 rw [HX.out.1, HX.out.2]
 rfl
theorem JT (l : Tx) (hl : l.length <= 1073741824) (w : World) :
  Calls Tryz.prog 159 #[.string ⟨l.toArray⟩] w fun e w' => e = .returned (.string ⟨(escS l).toArray⟩) /\ Below w.heap.size w w' := by
 unfold escS
 go_enter func159, ntmps159
 go_wp2
 go_loopw [3, 4] (fun v i wr => ∃ k : Nat, k <= l.length /\ i = .int .i64 k /\ v = .string ⟨((l.take k).flatMap scrB).toArray⟩ /\ Below w.heap.size w wr) (fun _ i _ => l.length - (intOf i).toNat)
 case atStart => exact ⟨0, Nat.zero_le _, rfl, rfl, Below.refl _ _⟩
 obtain ⟨k, hk, rfl, rfl, hb⟩ := hrel
 have HB := qb hb
 by_cases hlt : k < l.length
 ·have HP := qb (fun w => JR l[k] w)
  have HH := qb (fun w => JS l[k] w)
  have HS := qb (xc scrB l k hlt)
  have hlen := zU scrB 4 xh l k
  have hlen2 := zU scrB 4 xh l (k + 1)
  rw [HS.out, List.length_append] at hlen2
  generalize (l.take k).flatMap scrB = acc at *
  clear hb
  cases hp : jA l[k]
  ·have HPP := qb hp
   have HE : Hid (scrB l[k] = [l[k]]) := by show _ = _; rw [scrB, hp]; rfl
   have HT : Hid ((l.take (k + 1)).drop k = [l[k]]) := by show _ = _; rw [zu l k hlt, List.drop_append_of_le_length (by rw [List.length_take]; omega), List.drop_eq_nil_of_le (by rw [List.length_take]; omega)]; rfl
   rw [HE.out, List.length_singleton] at hlen2
   clear hp
   go_wp2_with (first | (go_at_call 179; refine qf (HP.out _) ?_; rw [HPP.out]))
   go_roundw
   case rel => exact ⟨k + 1, by omega, by go_num, by rw [HS.out, HE.out]; simp [HT.out], HB.out⟩
   (case measure => simp [intOf]; omega)
  ·have HPP := qb hp
   have HE : Hid (scrB l[k] = [92, 120, Yd (l[k].toNat / 16), Yd (l[k].toNat % 16)]) := by show _ = _; rw [scrB, hp]; rfl
   rw [HE.out] at hlen2
   clear hp
   go_wp2_with (first | (go_at_call 179; refine qf (HP.out _) ?_; rw [HPP.out]))
   refine (HH.out _).mono ?_
   rintro e w2 ⟨rfl, hb2⟩
   have HB2 := qb (qa3 HB.out hb2)
   clear hb2
   go_wp2
   go_roundw
   case rel => exact ⟨k + 1, by omega, by go_num, by rw [HS.out, HE.out], HB2.out⟩
   (case measure => simp [intOf]; omega)
 ·have hkn : k = l.length := by omega
  subst hkn
  go_wp2
  go_ret
  first | exact ⟨rfl, hb⟩ | (rw [List.take_length]; exact ⟨rfl, hb⟩)
def zv : Tx := [47, 58, 63, 61, 38, 37, 35, 64, 43, 44, 59]
theorem JU (c : UInt8) : pctB [45, 95, 46, 126, 47, 58, 63, 61, 38, 37, 35, 64, 43, 44, 59] c = if jr c || zv.any (fun d => d == c) then [c] else hex3 c := by
 have hb : ∀ d : UInt8, (d == c) = ((c.toNat : Int) == (d.toNat : Int)) := fun d => by
  rw [Bool.eq_iff_iff, beq_iff_eq, beq_iff_eq]
  constructor
  ·rintro rfl; rfl
  intro h; exact UInt8.toNat_inj.1 (by omega)
 unfold pctB jr zv
 congr 1
 simp only [List.any_cons, List.any_nil, Bool.or_false, hb]
 rw [show ((45 : UInt8).toNat : Int) = 45 from rfl, show ((95 : UInt8).toNat : Int) = 95 from rfl, show ((46 : UInt8).toNat : Int) = 46 from rfl, show ((126 : UInt8).toNat : Int) = 126 from rfl]
 simp only [Bool.or_assoc]
 rfl
theorem JV (l : Tx) (hl : l.length <= 1073741824) (w : World) :
  Calls Tryz.prog 157 #[.string ⟨l.toArray⟩] w fun e w' => e = .returned (.string ⟨(zp l).toArray⟩) /\ Below w.heap.size w w' := by
 unfold zp
 go_enter func157, ntmps157
 go_wp2
 go_loopw [3, 4] (fun v i wr => ∃ k : Nat, k <= l.length /\ i = .int .i64 k /\ v = .string ⟨((l.take k).flatMap (pctB [45, 95, 46, 126, 47, 58, 63, 61, 38, 37, 35, 64, 43, 44, 59])).toArray⟩ /\ Below w.heap.size w wr) (fun _ i _ => l.length - (intOf i).toNat)
 case atStart => exact ⟨0, Nat.zero_le _, rfl, rfl, Below.refl _ _⟩
 obtain ⟨k, hk, rfl, rfl, hb⟩ := hrel
 have HB := qb hb
 by_cases hlt : k < l.length
 ·have HP := qb (fun w => yT l[k] w)
  have HH := qb (fun w => yV l[k] w)
  have HS := qb (xc (pctB [45, 95, 46, 126, 47, 58, 63, 61, 38, 37, 35, 64, 43, 44, 59]) l k hlt)
  have hlen := zU _ 3 (kw [45, 95, 46, 126, 47, 58, 63, 61, 38, 37, 35, 64, 43, 44, 59]) l k
  have hlen2 := zU _ 3 (kw [45, 95, 46, 126, 47, 58, 63, 61, 38, 37, 35, 64, 43, 44, 59]) l (k + 1)
  have HQ := qb (JU l[k])
  rw [HS.out, List.length_append] at hlen2
  generalize (l.take k).flatMap (pctB [45, 95, 46, 126, 47, 58, 63, 61, 38, 37, 35, 64, 43, 44, 59]) = acc at *
  generalize pctB [45, 95, 46, 126, 47, 58, 63, 61, 38, 37, 35, 64, 43, 44, 59] l[k] = g at *
  clear hb
  generalize jr l[k] = p0 at *
  go_wp2_with (go_at_call 177; refine qf (HP.out _) ?_)
  go_loopw [5, 6] (fun v i wx => ∃ j : Nat, j <= 11 /\ i = .int .i64 j /\ v = .bool (p0 || (zv.take j).any fun d => d == l[k]) /\ Below w.heap.size w wx) (fun _ i _ => 11 - (intOf i).toNat)
  case atStart => exact ⟨0, by omega, rfl, by simp, HB.out⟩
  obtain ⟨j, hj, rfl, rfl, hbx⟩ := hrel
  have HBX := qb hbx
  clear hbx
  by_cases hj1 : j < 11
  ·have HT : Hid (((zv.take (j + 1)).any fun d => d == l[k]) = (((zv.take j).any fun d => d == l[k]) || zv[j]'(hj1) == l[k])) := by show _ = _; rw [zu zv j hj1, List.any_append]; simp
   have HE : Hid ((zv[j]'(hj1) == l[k]) = (((zv[j]'(hj1)).toNat : Int) == (l[k].toNat : Int))) := by show _ = _; rw [Bool.eq_iff_iff, beq_iff_eq, beq_iff_eq]; exact ⟨fun h => by rw [h], fun h => UInt8.toNat_inj.1 (by omega)⟩
   generalize ((zv.take j).any fun d => d == l[k]) = q0 at *
   obtain ⟨q1, hq1⟩ : ∃ q1, q1 = ((zv.take (j + 1)).any fun d => d == l[k]) := ⟨_, rfl⟩
   have HA := qb hq1.symm
   rw [<- hq1] at HT
   clear hq1
   have HR : Hid ((p0 || q1) = ((p0 || q0) || ((zv[j]'(hj1)).toNat : Int) == (l[k].toNat : Int))) := by show _ = _; rw [HT.out, HE.out, Bool.or_assoc]
   clear HT HE
   unfold zv at HR
   generalize (p0 || q0) = q at *
   have hj2 : (j : Int) < 11 := by omega
   cases q
   all_goals
    go_wp2_with (go_quiet (fail))
    go_roundw
    case rel => exact ⟨j + 1, by omega, by go_num, by rw [HA.out, HR.out]; first | done | rfl, jn HBX.out _⟩
    case measure => simp [intOf]; omega
  obtain rfl : j = 11 := by omega
  rw [show zv.take 11 = zv from rfl]
  generalize (p0 || zv.any fun d => d == l[k]) = q at *
  cases q
  ·have HE : Hid (g = hex3 l[k]) := HQ.out
   have h3 : (hex3 l[k]).length = 3 := rfl
   rw [HE.out, h3] at hlen2
   have h3b : (9223372036854775807 < acc.length + (hex3 l[k]).length) = False := by rw [eq_iff_iff, iff_false, h3]; omega
   go_wp2_with fail
   refine (HH.out _).mono ?_
   rintro e w2 ⟨rfl, hb2⟩
   have HB2 := qb (qa3 HBX.out hb2)
   clear hb2
   go_wp2
   go_roundw
   case rel => exact ⟨k + 1, by omega, by go_num, by rw [HS.out, HE.out], HB2.out⟩
   case measure => simp [intOf]; omega
  have HE : Hid (g = [l[k]]) := HQ.out
  rw [HE.out, List.length_singleton] at hlen2
  have HT : Hid ((l.take (k + 1)).drop k = [l[k]]) := by show _ = _; rw [zu l k hlt, List.drop_append_of_le_length (by rw [List.length_take]; omega), List.drop_eq_nil_of_le (by rw [List.length_take]; omega)]; rfl
  go_wp2
  go_roundw
  case rel => exact ⟨k + 1, by omega, by go_num, by rw [HS.out, HE.out]; simp [HT.out], HBX.out⟩
  case measure => simp [intOf]; omega
 have hkn : k = l.length := by omega
 subst hkn
 go_wp2
 go_ret
 first | exact ⟨rfl, hb⟩ | (rw [List.take_length]; exact ⟨rfl, hb⟩)
theorem kI (l : Tx) (k : Nat) (hk : k <= l.length) (h : (l.take k).all (fun c => !(qZ c || sep c)) = true) (he : ∀ hl : k < l.length, (qZ l[k] || sep l[k]) = true) : jK l = l.take k := by
 unfold jK
 induction l generalizing k with
 | nil => simp
 | cons c t ih =>
  cases k with
  | zero =>
   have h0 := he (by simp)
   simp only [List.getElem_cons_zero] at h0
   rw [List.takeWhile_cons, h0]; rfl
  | succ k =>
   rw [List.take_succ_cons, List.all_cons, Bool.and_eq_true] at h
   rw [List.takeWhile_cons, h.1, List.take_succ_cons, if_pos rfl, ih k (by simpa using hk) h.2 (fun hl => by have h9 := he (by simp only [List.length_cons]; omega); simp only [List.getElem_cons_succ] at h9; exact h9)]
theorem yC (l : Tx) (h : l.all (fun c => !(qZ c || sep c)) = true) : qV l = [] := by
 have hp := kI l l.length (Nat.le_refl _) (by rw [List.take_length]; exact h) (fun hl => absurd hl (by omega))
 unfold qV
 rw [hp, List.take_length, List.drop_length]
theorem yD (l : Tx) (k : Nat) (hk : k < l.length) (h : (l.take k).all (fun c => !(qZ c || sep c)) = true) (hs : sep l[k] = true) (hc : qZ l[k] = false) : qV l = [] := by
 have hp := kI l k (by omega) h (fun _ => by rw [hs, Bool.or_true])
 have hl : (l.take k).length = k := by rw [List.length_take]; omega
 unfold qV
 rw [hp, hl, qX l k hk]
 simp [hc]
theorem yE (l : Tx) (k : Nat) (hk : k < l.length) (h : (l.take k).all (fun c => !(qZ c || sep c)) = true) (hc : qZ l[k] = true) : qV l = if l.take k == [] then [63] else if (l.take k).all zk then qW (l.take k) else [63] := by
 have hp := kI l k (by omega) h (fun _ => by rw [hc, Bool.true_or])
 have hl : (l.take k).length = k := by rw [List.length_take]; omega
 unfold qV
 rw [hp, hl, qX l k hk]
 simp [hc]
theorem JW {l : Tx} {k : Nat} (hk : k < l.length) (h : (l.take k).all (fun c => !(qZ c || sep c)) = true) (hs : sep l[k] = false) (hc : qZ l[k] = false) : (l.take (k + 1)).all (fun c => !(qZ c || sep c)) = true := by
 rw [zu l k hk, List.all_append, h, List.all_cons, hs, hc]; rfl
theorem JX (l : Tx) (hl : l.length <= 1073741824) (w : World) :
  Calls Tryz.prog 176 #[.string ⟨l.toArray⟩] w fun e w' => e = .returned (.string ⟨(qV l).toArray⟩) /\ Below w.heap.size w w' := by
 have HN := qb (yC l)
 have HP := qb (yD l)
 have HC := qb (yE l)
 generalize qV l = sc at *
 go_enter func176, ntmps176
 go_wp2
 go_loop [3] (fun i => ∃ k : Nat, k <= l.length /\ i = .int .i64 k /\ (l.take k).all (fun c => !(qZ c || sep c)) = true) (fun i => l.length - (intOf i).toNat)
 case atStart => exact ⟨0, Nat.zero_le _, rfl, rfl⟩
 obtain ⟨k, hk, rfl, hall⟩ := hrel
 have HA := qb hall
 clear hall
 by_cases hlt : k < l.length
 ·cases hs : sep l[k]
  case true =>
   have HE : Hid (sc = []) := by
    show _ = _
    refine HP.out k hlt HA.out hs ?_
    unfold sep at hs
    unfold qZ
    simp only [Bool.or_eq_true, decide_eq_true_eq] at hs
    simp only [decide_eq_false_iff_not]
    omega
   unfold sep at hs
   by_cases h47 : (l[k].toNat : Int) = 47
   ·clear hs
    go_wp2
    go_ret
    exact ⟨qM HE.out.symm, Below.refl _ _⟩
   have h63 : (l[k].toNat : Int) = 63 := by simpa [h47] using hs
   clear hs
   go_wp2
   go_ret
   exact ⟨qM HE.out.symm, Below.refl _ _⟩
  have HSF := qb hs
  have n47 : ((l[k].toNat : Int) == 47) = false := by unfold sep at hs; simp only [Bool.or_eq_false_iff, decide_eq_false_iff_not] at hs; simpa using hs.1
  have n63 : ((l[k].toNat : Int) == 63) = false := by unfold sep at hs; simp only [Bool.or_eq_false_iff, decide_eq_false_iff_not] at hs; simpa using hs.2
  clear hs
  cases hc : qZ l[k]
  ·have d58 : ((l[k].toNat : Int) != 58) = true := by unfold qZ at hc; simp only [decide_eq_false_iff_not] at hc; simpa using hc
   have HNX := qb (JW hlt HA.out HSF.out hc)
   clear hc
   go_wp2
   go_round
   case rel => exact ⟨k + 1, by omega, by go_num, HNX.out⟩
   (case measure => simp [intOf]; omega)
  ·have d58 : ((l[k].toNat : Int) != 58) = false := by unfold qZ at hc; simp only [decide_eq_true_eq] at hc; simpa using hc
   have HE := qb (HC.out k hlt HA.out hc)
   have HLN : Hid ((l.take k).length = k) := by show _ = _; rw [List.length_take]; omega
   clear hc HN HP HC
   go_wp2
   go_loop [4] (fun i => ∃ j : Nat, j <= k /\ i = .int .i64 j /\ ((l.take k).drop j).all zk = (l.take k).all zk) (fun i => k - (intOf i).toNat)
   case atStart => exact ⟨0, Nat.zero_le _, rfl, rfl⟩
   obtain ⟨j, hj, rfl, hall⟩ := hrel
   have HJ := qb hall
   clear hall
   by_cases hjt : j < k
   ·have hjl : j < l.length := by omega
    have hjk : j < (l.take k).length := by rw [HLN.out]; exact hjt
    have HGT : Hid ((l.take k)[j]'hjk = l[j]) := by show _ = _; rw [List.getElem_take]
    have HLB := qb (fun w => ze l[j] w)
    have HDB := qb (fun w => xW l[j] w)
    have HY : Hid (zk l[j] = true -> ((l.take k).drop (j + 1)).all zk = (l.take k).all zk) := fun h => jD HJ.out hjk (by rw [HGT.out]; exact h)
    have HZ : Hid (zk l[j] = false -> sc = [63]) := fun h => by
     have h2 := jU HJ.out hjk (by rw [HGT.out]; exact h)
     rw [HE.out, <- h2]
     split <;> rfl
    clear HGT hjk
    cases h1 : qu l[j]
    case true =>
     have HT := qb h1
     have HX := qb (HY.out (by unfold zk; rw [h1]; rfl))
     clear h1 HY HZ
     go_wp2_with (first | (go_at_call 181; refine qf (HLB.out _) ?_; rw [HT.out]))
     go_round
     case rel => exact ⟨j + 1, by omega, by go_num, HX.out⟩
     (case measure => simp [intOf]; omega)
    have HT := qb h1
    cases h2 : qK l[j]
    case true =>
     have HD := qb h2
     have HX := qb (HY.out (by unfold zk; rw [h2, Bool.or_true]))
     clear h1 h2 HY HZ
     go_wp2_with (first | (go_at_call 181; refine qf (HLB.out _) ?_; rw [HT.out]) | (go_at_call 143; refine qf (HDB.out _) ?_; rw [HD.out]))
     go_round
     case rel => exact ⟨j + 1, by omega, by go_num, HX.out⟩
     (case measure => simp [intOf]; omega)
    have HD := qb h2
    have HX := qb (HZ.out (by unfold zk; rw [h1, h2]; rfl))
    clear h1 h2 HY HZ
    go_wp2_with (first | (go_at_call 181; refine qf (HLB.out _) ?_; rw [HT.out]) | (go_at_call 143; refine qf (HDB.out _) ?_; rw [HD.out]))
    go_ret
    exact ⟨qM HX.out.symm, Below.refl _ _⟩
   have HAL := qb (jV HJ.out (by rw [HLN.out]; exact hjt))
   by_cases hk0 : k = 0
   ·subst hk0
    have HX : Hid (sc = [63]) := by show _ = _; rw [HE.out, List.take_zero]; rfl
    go_wp2
    go_ret
    exact ⟨qM HX.out.symm, Below.refl _ _⟩
   have HX : Hid (sc = qW (l.take k)) := by
    show _ = _
    rw [HE.out, <- HAL.out, if_pos rfl, if_neg]
    intro h
    have h5 := congrArg List.length (eq_of_beq h)
    rw [HLN.out] at h5
    exact hk0 h5
   have HL := qb (fun w => vF (l.take k) (by rw [List.length_take]; omega) w)
   have k0 : ((k : Int) == 0) = false := by simpa using hk0
   clear hk0
   go_wp2_with fail
   refine (HL.out _).mono ?_
   rintro e w2 ⟨rfl, hb⟩
   have HB2 := qb hb
   clear hb
   go_wp2
   go_ret
   exact ⟨qM HX.out.symm, HB2.out⟩
 have HE : Hid (sc = []) := HN.out (by have h := HA.out; rwa [show k = l.length by omega, List.take_length] at h)
 go_wp2
 go_ret
 exact ⟨qM HE.out.symm, Below.refl _ _⟩
theorem JY (l : Tx) (hl : l.length <= 1073741824) (w : World) :
  Calls Tryz.prog 156 #[.string ⟨l.toArray⟩] w fun e w' => e = .returned (.bool (zO l)) /\ Below w.heap.size w w' := by
 have HS := qb (fun w => JX l hl w)
 have HE : Hid (zO l = (qV l == [] || (qV l == http || (qV l == xf || qV l == xg)))) := rfl
 generalize zO l = r at *
 generalize qV l = s at *
 unfold http xf xg at HE
 by_cases h0 : s = []
 ·subst h0
  have HR : Hid (r = true) := by show _ = _; rw [HE.out]; rfl
  go_enter func156, ntmps156
  go_wp2_with fail
  refine (HS.out _).mono ?_
  rintro e w2 ⟨rfl, hb⟩
  have HB2 := qb hb
  clear hb
  go_wp2
  go_ret
  exact ⟨qw HR.out.symm, HB2.out⟩
 have e0 : (s == []) = false := by simpa using h0
 have e1 : List.isEmpty s = false := by simpa using h0
 rw [e0, Bool.false_or] at HE
 clear h0
 generalize hq1 : (s == [104, 116, 116, 112]) = q1 at *
 generalize hq2 : (s == [104, 116, 116, 112, 115]) = q2 at *
 generalize hq3 : (s == [109, 97, 105, 108, 116, 111]) = q3 at *
 cases q1 <;> cases q2
 all_goals
  go_enter func156, ntmps156
  go_wp2_with fail
  refine (HS.out _).mono ?_
  rintro e w2 ⟨rfl, hb⟩
  have HB2 := qb hb
  clear hb
  cases q3
  all_goals (go_wp2; go_ret; exact ⟨qw (by rw [HE.out]; rfl), HB2.out⟩)
theorem JZ (p : Int) (s : Tx) (hl : s.length <= 1048576) (w : World) :
  Calls Tryz.prog 130 #[.int .i64 p, sv s] w fun e w' => e = .returned (sv (zP p s)) /\ Below w.heap.size w w' := by
 have HS : Hid (zP p s = if p = 1 \/ p = 2 then escT s else if p = 3 then (if zO s then escT (zp s) else [35]) else if p = 4 then zm s else if p = 5 then escS s else []) := rfl
 have hpl := kx s
 generalize zP p s = r at *
 by_cases h1 : p = 1
 ·subst h1
  have HE : Hid (r = escT s) := HS.out
  have HC := qb (fun w => kH s (by omega) w)
  generalize escT s = x at *
  go_enter func130, ntmps130
  go_wp2_with fail
  refine (HC.out _).mono ?_
  rintro e w2 ⟨rfl, hb⟩
  have HB2 := qb hb
  clear hb
  go_wp2
  go_ret
  exact ⟨qM HE.out.symm, HB2.out⟩
 have n1 : (p == 1) = false := by simpa using h1
 by_cases h2 : p = 2
 ·subst h2
  have HE : Hid (r = escT s) := HS.out
  have HC := qb (fun w => kH s (by omega) w)
  generalize escT s = x at *
  go_enter func130, ntmps130
  go_wp2_with fail
  refine (HC.out _).mono ?_
  rintro e w2 ⟨rfl, hb⟩
  have HB2 := qb hb
  clear hb
  go_wp2
  go_ret
  exact ⟨qM HE.out.symm, HB2.out⟩
 have n2 : (p == 2) = false := by simpa using h2
 rw [if_neg (by omega)] at HS
 by_cases h3 : p = 3
 ·subst h3
  rw [if_pos rfl] at HS
  have HA := qb (fun w => JY s (by omega) w)
  cases hs : zO s
  ·have HE : Hid (r = [35]) := by show _ = _; rw [HS.out, hs]; rfl
   rw [hs] at HA
   clear hs
   go_enter func130, ntmps130
   go_wp2_with fail
   refine (HA.out _).mono ?_
   rintro e w2 ⟨rfl, hb⟩
   have HB2 := qb hb
   clear hb
   go_wp2
   go_ret
   exact ⟨qM HE.out.symm, HB2.out⟩
  have HE : Hid (r = escT (zp s)) := by show _ = _; rw [HS.out, hs]; rfl
  rw [hs] at HA
  clear hs
  have HP := qb (fun w => JV s (by omega) w)
  have HC := qb (fun w => kH (zp s) (by omega) w)
  generalize escT (zp s) = x at *
  generalize zp s = y at *
  go_enter func130, ntmps130
  go_wp2_with fail
  refine (HA.out _).mono ?_
  rintro e w2 ⟨rfl, hb⟩
  have HB2 := qb hb
  clear hb
  go_wp2_with fail
  refine (HP.out _).mono ?_
  rintro e w3 ⟨rfl, hb⟩
  have HB3 := qb (qa3 HB2.out hb)
  clear hb
  go_wp2_with fail
  refine (HC.out _).mono ?_
  rintro e w4 ⟨rfl, hb⟩
  have HB4 := qb (qa3 HB3.out hb)
  clear hb
  go_wp2
  go_ret
  exact ⟨qM HE.out.symm, HB4.out⟩
 have n3 : (p == 3) = false := by simpa using h3
 rw [if_neg h3] at HS
 by_cases h4 : p = 4
 ·subst h4
  have HE : Hid (r = zm s) := HS.out
  have HC := qb (fun w => Xo s (by omega) w)
  generalize zm s = x at *
  go_enter func130, ntmps130
  go_wp2_with fail
  refine (HC.out _).mono ?_
  rintro e w2 ⟨rfl, hb⟩
  have HB2 := qb hb
  clear hb
  go_wp2
  go_ret
  exact ⟨qM HE.out.symm, HB2.out⟩
 have n4 : (p == 4) = false := by simpa using h4
 rw [if_neg h4] at HS
 by_cases h5 : p = 5
 ·subst h5
  have HE : Hid (r = escS s) := HS.out
  have HC := qb (fun w => JT s (by omega) w)
  generalize escS s = x at *
  go_enter func130, ntmps130
  go_wp2_with fail
  refine (HC.out _).mono ?_
  rintro e w2 ⟨rfl, hb⟩
  have HB2 := qb hb
  clear hb
  go_wp2
  go_ret
  exact ⟨qM HE.out.symm, HB2.out⟩
 have n5 : (p == 5) = false := by simpa using h5
 rw [if_neg h5] at HS
 clear h1 h2 h3 h4 h5
 go_enter func130, ntmps130
 go_wp2
 go_ret
 exact ⟨qM HS.out.symm, Below.refl _ _⟩
end Go.Proofs.YtmboieajfdkllaaGreat
