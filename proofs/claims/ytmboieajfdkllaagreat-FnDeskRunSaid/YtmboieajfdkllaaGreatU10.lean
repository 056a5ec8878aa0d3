import Derived.Test.YtmboieajfdkllaaGreatU03
import Derived.Test.YtmboieajfdkllaaGreatU01
import Derived.Deep.QuietTactic
import Derived.BigQuiet
import Derived.Deep.CutBlock
import Derived.RegionTactic
set_option maxHeartbeats 2000000
set_option maxRecDepth 100000
open Go.Proofs.Tryz
namespace Go.Proofs.YtmboieajfdkllaaGreat
open Go.RowKit
def tag0 (m : Int) (t : Tx) : Bool := if St.inM m 2 8 then qJ t else t == []
theorem isE (t : Tx) : List.isEmpty t = (t == []) := by cases t <;> rfl
theorem xO {m : Int} (t a : Tx) (z : Bool) : Hid (St.valid ⟨m, t, a, z⟩ = (St.inM m 0 15 && (St.tagOk m t && (St.attrOk m a && St.seenOk m z)))) := rfl
theorem kO (m : Int) (t a : Tx) (z : Bool) (w : World) (ht : t.length <= 1000) (ha : a.length <= 1000) :
  Calls Tryz.prog 121 #[stV m t a z] w fun e w' => e = .returned (.bool (St.valid ⟨m, t, a, z⟩)) /\ Below w.heap.size w w' := by
 have HV := xO (m := m) t a z
 have HB0 := qb ((Below.refl w.heap.size w).alloc (Nat.le_refl _) (.cells (ql m t a z) 90))
 have HX0 := qb (heap_alloc_new w (.cells (ql m t a z) 90))
 have HNT := qb (fun w => jR t (by unfold maxLen; omega) w)
 have HNA := qb (fun w => jR a (by unfold maxLen; omega) w)
 have hzz : w.heap.size < (w.alloc (.cells (ql m t a z) 90)).heap.size := by simp
 by_cases h0 : m < 0
 ·have HE : Hid (St.valid ⟨m, t, a, z⟩ = false) := by show _ = _; rw [HV.out]; unfold St.inM; simp [show ¬ 0 <= m by omega]
  go_enter func121, ntmps121
  go_wp2
  go_ret
  exact ⟨qw HE.out.symm, HB0.out⟩
 by_cases h15 : 15 < m
 ·have HE : Hid (St.valid ⟨m, t, a, z⟩ = false) := by show _ = _; rw [HV.out]; unfold St.inM; simp [show ¬ m <= 15 by omega]
  go_enter func121, ntmps121
  go_wp2
  go_ret
  exact ⟨qw HE.out.symm, HB0.out⟩
 have HI : Hid (St.inM m 0 15 = true) := by show _ = _; unfold St.inM; simp; omega
 go_enter func121, ntmps121
 go_upto_region 4 with fail
 generalize w.alloc (.cells (ql m t a z) 90) = wb at *
 obtain ⟨⟨y0, y1, y2, y3⟩, -⟩ := qh HX0.out
 go_cut [24] (fun v wx => v = .bool (St.inM m 2 8) /\ wb = wx)
 case first =>
  by_cases k1 : m < 2
  ·have HQ : Hid (St.inM m 2 8 = false) := by show _ = _; unfold St.inM; simp; omega
   go_wp2
   go_meet
   case rel => exact ⟨by rw [HQ.out], rfl⟩
  by_cases k2 : 8 < m
  ·have HQ : Hid (St.inM m 2 8 = false) := by show _ = _; unfold St.inM; simp; omega
   have k3 : decide (m <= 8) = false := by simp; omega
   go_wp2
   go_meet
   case rel => exact ⟨by rw [HQ.out]; first | done | rw [k3], rfl⟩
  have HQ : Hid (St.inM m 2 8 = true) := by show _ = _; unfold St.inM; simp; omega
  go_wp2
  go_meet
  case rel => exact ⟨by rw [HQ.out], rfl⟩
 case rest =>
 obtain ⟨rfl, rfl⟩ := hcut
 obtain ⟨q, hq⟩ : ∃ q, q = St.inM m 2 8 := ⟨_, rfl⟩
 have HQ := qb hq.symm
 rw [<- hq]
 clear hq
 go_upto_if 24 with fail
 go_cut [3] (fun v wx => v = .bool (St.tagOk m t) /\ wb = wx)
 case first =>
  cases q
  ·by_cases k9 : m = 9
   ·subst k9
    by_cases hT : t = []
    ·subst hT
     have HE : Hid (St.tagOk 9 [] = true) := rfl
     go_wp2_with (first | (go_at_call 109; with_reducible refine qf (HNT.out _) ?_) | (go_at_call 109; with_reducible refine qf (HNA.out _) ?_))
     go_meet
     case rel => exact ⟨by rw [HE.out]; first | done | rfl | (rw [isE]; done), rfl⟩
    have hT1 : (t == []) = false := by simpa using hT
    have hT2 : List.isEmpty t = false := by simpa using hT
    have HE : Hid (St.tagOk 9 t = qJ t) := by show _ = _; unfold St.tagOk; rw [if_neg (by decide), if_pos rfl, hT1, Bool.false_or]
    clear hT
    go_wp2_with (first | (go_at_call 109; with_reducible refine qf (HNT.out _) ?_) | (go_at_call 109; with_reducible refine qf (HNA.out _) ?_))
    go_meet
    case rel => exact ⟨by rw [HE.out]; first | done | rfl | (rw [isE]; done), rfl⟩
   have HE : Hid (St.tagOk m t = (t == [])) := by show _ = _; unfold St.tagOk; rw [HQ.out, if_neg (by decide), if_neg k9]
   have e9 : (m == 9) = false := by simpa using k9
   clear k9
   go_wp2_with (first | (go_at_call 109; with_reducible refine qf (HNT.out _) ?_) | (go_at_call 109; with_reducible refine qf (HNA.out _) ?_))
   go_meet
   case rel => exact ⟨by rw [HE.out]; first | done | rfl | (rw [isE]; done), rfl⟩
  have HE : Hid (St.tagOk m t = qJ t) := by show _ = _; unfold St.tagOk; rw [HQ.out, if_pos rfl]
  have HM : Hid (2 <= m /\ m <= 8) := by have h := HQ.out; unfold St.inM at h; simp at h; exact h
  have e9 : (m == 9) = false := by have := HM.out; simp; omega
  go_wp2_with (first | (go_at_call 109; with_reducible refine qf (HNT.out _) ?_) | (go_at_call 109; with_reducible refine qf (HNA.out _) ?_))
  go_meet
  case rel => exact ⟨by rw [HE.out]; first | done | rfl | (rw [isE]; done), rfl⟩
 case rest =>
 clear HQ q
 obtain ⟨rfl, rfl⟩ := hcut
 go_upto_region 9 with fail
 go_cut [49] (fun v wx => v = .bool (St.inM m 4 8) /\ wb = wx)
 case first =>
  by_cases k1 : m < 4
  ·have HQ : Hid (St.inM m 4 8 = false) := by show _ = _; unfold St.inM; simp; omega
   go_wp2
   go_meet
   case rel => exact ⟨by rw [HQ.out], rfl⟩
  by_cases k2 : 8 < m
  ·have HQ : Hid (St.inM m 4 8 = false) := by show _ = _; unfold St.inM; simp; omega
   have k3 : decide (m <= 8) = false := by simp; omega
   go_wp2
   go_meet
   case rel => exact ⟨by rw [HQ.out]; first | done | rw [k3], rfl⟩
  have HQ : Hid (St.inM m 4 8 = true) := by show _ = _; unfold St.inM; simp; omega
  go_wp2
  go_meet
  case rel => exact ⟨by rw [HQ.out], rfl⟩
 case rest =>
 obtain ⟨rfl, rfl⟩ := hcut
 obtain ⟨q, hq⟩ : ∃ q, q = St.inM m 4 8 := ⟨_, rfl⟩
 have HQ := qb hq.symm
 rw [<- hq]
 clear hq
 go_upto_if 49 with fail
 go_cut [4] (fun v wx => v = .bool (St.attrOk m a) /\ wb = wx)
 case first =>
  cases q
  ·have HE : Hid (St.attrOk m a = (a == [])) := by show _ = _; unfold St.attrOk; rw [HQ.out, if_neg (by decide)]
   go_wp2_with (first | (go_at_call 109; with_reducible refine qf (HNT.out _) ?_) | (go_at_call 109; with_reducible refine qf (HNA.out _) ?_))
   go_meet
   case rel => exact ⟨by rw [HE.out]; first | done | rfl | (rw [isE]; done), rfl⟩
  have HE : Hid (St.attrOk m a = qJ a) := by show _ = _; unfold St.attrOk; rw [HQ.out, if_pos rfl]
  go_wp2_with (first | (go_at_call 109; with_reducible refine qf (HNT.out _) ?_) | (go_at_call 109; with_reducible refine qf (HNA.out _) ?_))
  go_meet
  case rel => exact ⟨by rw [HE.out]; first | done | rfl | (rw [isE]; done), rfl⟩
 case rest =>
 clear HQ q
 obtain ⟨rfl, rfl⟩ := hcut
 go_upto_region 12 with fail
 go_cut [63] (fun v wx => v = .bool (decide (m = 6 \/ m = 7)) /\ wb = wx)
 case first =>
  by_cases k6 : m = 6
  ·subst k6
   go_wp2
   go_meet
   case rel => exact ⟨rfl, rfl⟩
  have e6 : (m == 6) = false := by simpa using k6
  have HQ : Hid (decide (m = 6 \/ m = 7) = (m == 7)) := by show _ = _; rw [Bool.eq_iff_iff]; simp [k6]
  clear k6
  go_wp2
  go_meet
  case rel => exact ⟨by rw [HQ.out], rfl⟩
 case rest =>
 obtain ⟨rfl, rfl⟩ := hcut
 obtain ⟨q, hq⟩ : ∃ q, q = decide (m = 6 \/ m = 7) := ⟨_, rfl⟩
 have HQ := qb hq.symm
 rw [<- hq]
 clear hq
 go_upto_if 63 with fail
 go_cut [5] (fun v wx => v = .bool (St.seenOk m z) /\ wb = wx)
 case first =>
  cases q
  ·have HE0 : Hid (St.seenOk m z = if m = 8 then z else !z) := by show _ = _; unfold St.seenOk; rw [if_neg (of_decide_eq_false HQ.out)]
   by_cases k8 : m = 8
   ·subst k8
    have HE : Hid (St.seenOk 8 z = z) := by show _ = _; rw [HE0.out, if_pos rfl]
    go_wp2_with (first | (go_at_call 109; with_reducible refine qf (HNT.out _) ?_) | (go_at_call 109; with_reducible refine qf (HNA.out _) ?_))
    go_meet
    case rel => exact ⟨by rw [HE.out]; first | done | rfl | (rw [isE]; done), rfl⟩
   have HE : Hid (St.seenOk m z = !z) := by show _ = _; rw [HE0.out, if_neg k8]
   have e8 : (m == 8) = false := by simpa using k8
   clear k8
   go_wp2_with (first | (go_at_call 109; with_reducible refine qf (HNT.out _) ?_) | (go_at_call 109; with_reducible refine qf (HNA.out _) ?_))
   go_meet
   case rel => exact ⟨by rw [HE.out]; first | done | rfl | (rw [isE]; done), rfl⟩
  have HE : Hid (St.seenOk m z = true) := by show _ = _; unfold St.seenOk; rw [if_pos (of_decide_eq_true HQ.out)]
  go_wp2_with (first | (go_at_call 109; with_reducible refine qf (HNT.out _) ?_) | (go_at_call 109; with_reducible refine qf (HNA.out _) ?_))
  go_meet
  case rel => exact ⟨by rw [HE.out]; first | done | rfl | (rw [isE]; done), rfl⟩
 case rest =>
 clear HQ q
 obtain ⟨rfl, rfl⟩ := hcut
 rw [HI.out, Bool.true_and] at HV
 generalize St.tagOk m t = q0 at *
 generalize St.attrOk m a = q1 at *
 generalize St.seenOk m z = q2 at *
 cases q0 <;> cases q1
 all_goals (go_wp2; go_ret; exact ⟨qw (by rw [HV.out]; rfl), HB0.out⟩)
theorem xP (m : Int) (t a : Tx) (z : Bool) (w : World) (ht : t.length <= 1000) (ha : a.length <= 1000) :
  Calls Tryz.prog 154 #[stV m t a z] w fun e w' => e = .returned (.bool (St.valid ⟨m, t, a, z⟩)) /\ Below w.heap.size w w' := by
 have HV := xO (m := m) t a z
 have HB0 := qb ((Below.refl w.heap.size w).alloc (Nat.le_refl _) (.cells (ql m t a z) 90))
 have HX0 := qb (heap_alloc_new w (.cells (ql m t a z) 90))
 have HNT := qb (fun w => jS t (by unfold maxLen; omega) w)
 have HNA := qb (fun w => jS a (by unfold maxLen; omega) w)
 have hzz : w.heap.size < (w.alloc (.cells (ql m t a z) 90)).heap.size := by simp
 go_enter func154, ntmps154
 go_upto_region 2 with fail
 generalize w.alloc (.cells (ql m t a z) 90) = wb at *
 obtain ⟨⟨y0, y1, y2, y3⟩, -⟩ := qh HX0.out
 go_wp2_with fail
 refine (qN _ _ _ _).mono ?_
 rintro e w' ⟨rfl, rfl⟩
 rw [show (decide (2 <= m) && decide (m <= 8)) = St.inM m 2 8 from rfl]
 obtain ⟨q, hq⟩ : ∃ q, q = St.inM m 2 8 := ⟨_, rfl⟩
 have HQ := qb hq.symm
 rw [<- hq]
 clear hq
 go_upto_if 11 with fail
 go_cut [3] (fun v wx => v = .bool (tag0 m t) /\ wb = wx)
 case first =>
  cases q
  ·have HE : Hid (tag0 m t = (t == [])) := by show _ = _; unfold tag0; rw [HQ.out]; rfl
   go_wp2_with (first | (go_at_call 106; with_reducible refine qf (HNT.out _) ?_) | (go_at_call 106; with_reducible refine qf (HNA.out _) ?_) | (go_at_call 86; refine (qN _ _ _ _).mono ?_; rintro e w' ⟨rfl, rfl⟩))
   go_meet
   case rel => exact ⟨by rw [HE.out]; first | done | rfl | (rw [isE]; done), rfl⟩
  have HE : Hid (tag0 m t = qJ t) := by show _ = _; unfold tag0; rw [HQ.out]; rfl
  go_wp2_with (first | (go_at_call 106; with_reducible refine qf (HNT.out _) ?_) | (go_at_call 106; with_reducible refine qf (HNA.out _) ?_) | (go_at_call 86; refine (qN _ _ _ _).mono ?_; rintro e w' ⟨rfl, rfl⟩))
  go_meet
  case rel => exact ⟨by rw [HE.out]; first | done | rfl | (rw [isE]; done), rfl⟩
 case rest =>
 obtain ⟨rfl, rfl⟩ := hcut
 go_upto_if 17 with fail
 go_cut [3] (fun v wx => v = .bool (St.tagOk m t) /\ wb = wx)
 case first =>
  by_cases k9 : m = 9
  ·subst k9
   by_cases hT : t = []
   ·subst hT
    have HE : Hid (St.tagOk 9 [] = true) := rfl
    go_wp2_with (first | (go_at_call 106; with_reducible refine qf (HNT.out _) ?_) | (go_at_call 106; with_reducible refine qf (HNA.out _) ?_) | (go_at_call 86; refine (qN _ _ _ _).mono ?_; rintro e w' ⟨rfl, rfl⟩))
    go_meet
    case rel => exact ⟨by rw [HE.out]; first | done | rfl | (rw [isE]; done), rfl⟩
   have hT1 : (t == []) = false := by simpa using hT
   have hT2 : List.isEmpty t = false := by simpa using hT
   have HE : Hid (St.tagOk 9 t = qJ t) := by show _ = _; unfold St.tagOk; rw [if_neg (by decide), if_pos rfl, hT1, Bool.false_or]
   clear hT
   go_wp2_with (first | (go_at_call 106; with_reducible refine qf (HNT.out _) ?_) | (go_at_call 106; with_reducible refine qf (HNA.out _) ?_) | (go_at_call 86; refine (qN _ _ _ _).mono ?_; rintro e w' ⟨rfl, rfl⟩))
   go_meet
   case rel => exact ⟨by rw [HE.out]; first | done | rfl | (rw [isE]; done), rfl⟩
  have HE : Hid (St.tagOk m t = tag0 m t) := by show _ = _; unfold St.tagOk tag0; rw [if_neg k9]
  have e9 : (m == 9) = false := by simpa using k9
  clear k9
  go_wp2_with (first | (go_at_call 106; with_reducible refine qf (HNT.out _) ?_) | (go_at_call 106; with_reducible refine qf (HNA.out _) ?_) | (go_at_call 86; refine (qN _ _ _ _).mono ?_; rintro e w' ⟨rfl, rfl⟩))
  go_meet
  case rel => exact ⟨by rw [HE.out]; first | done | rfl | (rw [isE]; done), rfl⟩
 case rest =>
 clear HQ q
 obtain ⟨rfl, rfl⟩ := hcut
 go_upto_region 7 with fail
 go_wp2_with fail
 refine (qN _ _ _ _).mono ?_
 rintro e w' ⟨rfl, rfl⟩
 rw [show (decide (4 <= m) && decide (m <= 8)) = St.inM m 4 8 from rfl]
 obtain ⟨q, hq⟩ : ∃ q, q = St.inM m 4 8 := ⟨_, rfl⟩
 have HQ := qb hq.symm
 rw [<- hq]
 clear hq
 go_upto_if 31 with fail
 go_cut [4] (fun v wx => v = .bool (St.attrOk m a) /\ wb = wx)
 case first =>
  cases q
  ·have HE : Hid (St.attrOk m a = (a == [])) := by show _ = _; unfold St.attrOk; rw [HQ.out, if_neg (by decide)]
   go_wp2_with (first | (go_at_call 106; with_reducible refine qf (HNT.out _) ?_) | (go_at_call 106; with_reducible refine qf (HNA.out _) ?_) | (go_at_call 86; refine (qN _ _ _ _).mono ?_; rintro e w' ⟨rfl, rfl⟩))
   go_meet
   case rel => exact ⟨by rw [HE.out]; first | done | rfl | (rw [isE]; done), rfl⟩
  have HE : Hid (St.attrOk m a = qJ a) := by show _ = _; unfold St.attrOk; rw [HQ.out, if_pos rfl]
  go_wp2_with (first | (go_at_call 106; with_reducible refine qf (HNT.out _) ?_) | (go_at_call 106; with_reducible refine qf (HNA.out _) ?_) | (go_at_call 86; refine (qN _ _ _ _).mono ?_; rintro e w' ⟨rfl, rfl⟩))
  go_meet
  case rel => exact ⟨by rw [HE.out]; first | done | rfl | (rw [isE]; done), rfl⟩
 case rest =>
 clear HQ q
 obtain ⟨rfl, rfl⟩ := hcut
 have HS0 : Hid (St.seenOk m z = if m = 8 then z else (!z || (decide (6 <= m) && decide (m <= 7)))) := by
  show _ = _
  unfold St.seenOk
  by_cases k8 : m = 8
  ·subst k8; rfl
  rw [if_neg k8, if_neg k8]
  by_cases k67 : m = 6 \/ m = 7
  ·rw [if_pos k67, show (decide (6 <= m) && decide (m <= 7)) = true by simp; omega, Bool.or_true]
  rw [if_neg k67, show (decide (6 <= m) && decide (m <= 7)) = false by rw [Bool.eq_false_iff]; simp; omega, Bool.or_false]
 go_upto_region 9 with fail
 obtain ⟨z2, hz2⟩ : ∃ z2, z2 = z := ⟨_, rfl⟩
 have HZ2 := qb hz2
 go_cut [5] (fun v wx => v = .bool (!z2 || (decide (6 <= m) && decide (m <= 7))) /\ wb = wx)
 case first =>
  clear hz2
  cases z
  ·have HE : Hid ((!z2 || (decide (6 <= m) && decide (m <= 7))) = true) := by show _ = _; rw [HZ2.out]; rfl
   go_wp2_with (first | (go_at_call 106; with_reducible refine qf (HNT.out _) ?_) | (go_at_call 106; with_reducible refine qf (HNA.out _) ?_) | (go_at_call 86; refine (qN _ _ _ _).mono ?_; rintro e w' ⟨rfl, rfl⟩))
   go_meet
   case rel => exact ⟨by rw [HE.out]; first | done | rfl | (rw [isE]; done), rfl⟩
  have HE : Hid ((!z2 || (decide (6 <= m) && decide (m <= 7))) = (decide (6 <= m) && decide (m <= 7))) := by show _ = _; rw [HZ2.out]; rfl
  go_wp2_with (first | (go_at_call 106; with_reducible refine qf (HNT.out _) ?_) | (go_at_call 106; with_reducible refine qf (HNA.out _) ?_) | (go_at_call 86; refine (qN _ _ _ _).mono ?_; rintro e w' ⟨rfl, rfl⟩))
  go_meet
  case rel => exact ⟨by rw [HE.out]; first | done | rfl | (rw [isE]; done), rfl⟩
 case rest =>
 subst hz2
 clear HZ2
 obtain ⟨rfl, rfl⟩ := hcut
 generalize (!z2 || (decide (6 <= m) && decide (m <= 7))) = g at *
 go_upto_if 45 with fail
 go_cut [5] (fun v wx => v = .bool (St.seenOk m z2) /\ wb = wx)
 case first =>
  by_cases k8 : m = 8
  ·subst k8
   have HE : Hid (St.seenOk 8 z2 = z2) := rfl
   go_wp2_with (first | (go_at_call 106; with_reducible refine qf (HNT.out _) ?_) | (go_at_call 106; with_reducible refine qf (HNA.out _) ?_) | (go_at_call 86; refine (qN _ _ _ _).mono ?_; rintro e w' ⟨rfl, rfl⟩))
   go_meet
   case rel => exact ⟨by rw [HE.out]; first | done | rfl | (rw [isE]; done), rfl⟩
  have HE : Hid (St.seenOk m z2 = g) := by show _ = _; rw [HS0.out, if_neg k8]
  have e8 : (m == 8) = false := by simpa using k8
  clear k8
  go_wp2_with (first | (go_at_call 106; with_reducible refine qf (HNT.out _) ?_) | (go_at_call 106; with_reducible refine qf (HNA.out _) ?_) | (go_at_call 86; refine (qN _ _ _ _).mono ?_; rintro e w' ⟨rfl, rfl⟩))
  go_meet
  case rel => exact ⟨by rw [HE.out]; first | done | rfl | (rw [isE]; done), rfl⟩
 case rest =>
 obtain ⟨rfl, rfl⟩ := hcut
 clear HS0
 generalize St.tagOk m t = q0 at *
 generalize St.attrOk m a = q1 at *
 generalize St.seenOk m z2 = q2 at *
 have HL : Hid (∀ w, Calls Tryz.prog 86 #[.int .i64 m, .int .i64 0, .int .i64 15] w fun e w' => e = .returned (.bool (St.inM m 0 15)) /\ w = w') := fun w => qN m 0 15 w
 generalize St.inM m 0 15 = q3 at *
 cases q3 <;> cases q0 <;> cases q1
 all_goals (go_wp2_with fail; refine qf (HL.out _) ?_; go_wp2; go_ret; exact ⟨qw (by rw [HV.out]; rfl), HB0.out⟩)
abbrev bvals (l : Tx) : List Value := l.map fun b => .int .u8 (b.toNat : Int)
theorem Tryz.info_uint8 : (Tryz.prog.info? 5).map (fun i => (i.zero, i.size, i.bytes)) = some (some (.int .u8 0), 1, 1) := by kernel_rfl
def OwnB (w : World) (base : Nat) (A : Option Addr) (c : Nat) (l : Tx) : Prop := w.ownsRow base 5 1 (.slice A l.length c) l.length (bvals l)
theorem Qt (w : World) (base : Nat) (h : base <= w.heap.size) : OwnB (w.alloc (.cells #[] 5)) base (some ⟨w.heap.size, 0, none⟩) 0 [] := World.ownsRow_lit w #[] 0 h (by simp [maxLen]) rfl
theorem kp {w w' : World} {base c : Nat} {A : Option Addr} {l : Tx} (h : OwnB w base A c l) (hb : Below w.heap.size w w') : OwnB w' base A c l := jy h hb
theorem kq {w : World} {base c : Nat} {A : Option Addr} {l : Tx} (h : OwnB w base A c l) : ∀ g, Value.ownBlock (.slice A l.length c) = some g -> base <= g := fun g hg => (h.lt g hg).1
theorem kr {ops : Array Oper} {rest : List Oper} {o : Oper} {a : Act} {Q : Exit -> Act -> World -> Prop} {W : World} (hgd : o.guard = none) (s x : Operand)
  (ho : o.op = .call { callee := .builtin .append, args := #[s, x], argTypes := #[44, 44] }) (base : Nat) (A : Option Addr) (c n : Nat) (l : Tx) (d : UInt8) (z : Int) (hz : z = (d.toNat : Int))
  (hs : a.eval s = .slice A n c) (hn : n = l.length) (hown : OwnB W base A c l) (g : Nat) (hx : a.eval x = .slice (some ⟨g, 0, none⟩) 1 1) (hg : g = W.heap.size) (hlen : l.length <= 4294967296) (hbase : base <= W.heap.size)
  (h : ∀ g' c' w', OwnB w' base (some ⟨g', 0, none⟩) c' (l ++ [d]) -> W.grownBy w' (Value.ownBlock (.slice A l.length c)) -> wpList Tryz.prog ops Q rest (a.put o.dst (.slice (some ⟨g', 0, none⟩) (l.length + 1) c')) w') :
  wpList Tryz.prog ops Q (o :: rest) a (W.alloc (.cells #[.int .u8 z] 5)) := by
 subst hn
 subst hg
 subst hz
 obtain ⟨i0, hi, hz0, hz1, hz2⟩ := info_parts Tryz.info_uint8
 refine wpList_append_own _ hgd s x _ ho base _ i0 _ 1 1 underlying44 hi hz0 hz1 hz2 rfl (by decide) _ _ _ hs (World.ownsRow.alloc hown _) ⟨W.heap.size, 0, none⟩ 1 1 [.int .u8 (d.toNat : Int)] hx rfl ?_ ?_ (by unfold maxLen; omega) (by omega) (by simp; omega) ?_
 ·intro j u hj
  have h1 : (W.alloc (.cells #[.int .u8 (d.toNat : Int)] 5)).cell? ⟨W.heap.size, j, none⟩ = #[Value.int .u8 (d.toNat : Int)][j]? := World.cell?_alloc_at _ _ _ _ rfl
  rw [Addr.add_lit, Nat.zero_add, h1]
  simpa using hj
 ·intro u hu
  simp at hu
  subst hu
  rfl
 intro v' w' ho' hg' _
 obtain ⟨A', c', rfl, _, _⟩ := jf ho'
 obtain ⟨g', rfl, _, _⟩ := zJ ho' (by omega)
 refine h g' c' w' ?_ (jF (World.grownBy_alloc W _ _) hg')
 unfold OwnB
 rw [List.length_append, bvals, List.map_append]
 exact ho'
theorem Qu {w : World} {base c g n : Nat} {l : Tx} (h : OwnB w base (some ⟨g, 0, none⟩) c l) (hn : n = l.length) :
  (convert 44 9 (.slice (some ⟨g, 0, none⟩) n c)).run Tryz.prog w = .ok (.string ⟨l.toArray⟩) w := by
 subst hn
 refine run_convert_bytes_back w 44 9 5 ⟨g, 0, none⟩ c l underlying44 underlying5 underlying9 ?_
 intro j hj
 have := h.cellAt (g := g) (n := l.length) j (by simpa using hj)
 rw [Addr.add_lit, Nat.zero_add, this]
 simp [hj]
theorem Qv (l : Tx) (k : Nat) (h : k < l.length) : qW (l.take (k + 1)) = qW (l.take k) ++ [lowB l[k]] := by
 unfold qW
 rw [zu l k h, List.map_append]
 rfl
theorem Qw (l : Tx) (k : Nat) (h : k <= l.length) : (qW (l.take k)).length = k := by
 unfold qW
 rw [List.length_map, List.length_take]
 omega
theorem Qx (l : Tx) : (qW l).length = l.length := by simp [qW]
theorem vF (l : Tx) (hl : l.length <= 4294967296) (w : World) :
  Calls Tryz.prog 190 #[.string ⟨l.toArray⟩] w fun e w' => e = .returned (.string ⟨(qW l).toArray⟩) /\ Below w.heap.size w w' := by
 go_enter func190, ntmps190
 go_wp2
 go_loopw [3, 4] (fun v i wr => ∃ (k g c : Nat), k <= l.length /\ i = .int .i64 k /\ v = .slice (some ⟨g, 0, none⟩) (qW (l.take k)).length c /\ OwnB wr w.heap.size (some ⟨g, 0, none⟩) c (qW (l.take k)) /\ Below w.heap.size w wr) (fun _ i _ => l.length - (intOf i).toNat)
 case atStart => exact ⟨0, _, 0, Nat.zero_le _, rfl, rfl, Qt w w.heap.size (Nat.le_refl _), (Below.refl _ _).alloc (Nat.le_refl _) _⟩
 obtain ⟨k, g, c, hk, rfl, rfl, ho, hb⟩ := hrel
 have HB := qb hb
 have HO := qb ho
 by_cases hlt : k < l.length
 ·have hsz2 := hb.size
  have hpl : (qW (l.take k)).length <= l.length := by rw [Qw l k hk]; omega
  have HS := qb (Qv l k hlt)
  generalize qW (l.take k) = hp at *
  clear hb ho
  have HS2 : Hid (qW (l.take (k + 1)) = hp ++ [lowB l[k]]) := by show _ = _; rw [HS.out]
  have hb8 := YG l[k]
  by_cases hu : isUp l[k] = true
  ·have h1 : (65 : Int) <= (l[k].toNat : Int) := by simp [isUp] at hu; omega
   have h2 : (l[k].toNat : Int) <= 90 := by simp [isUp] at hu; omega
   have HZ : Hid ((l[k].toNat : Int) + 32 = ((lowB l[k]).toNat : Int)) := (Wa hu).symm
   clear hu
   go_wp2_with (at_builtin; refine kr rfl _ _ rfl w.heap.size (some ⟨g, 0, none⟩) c _ hp (lowB l[k]) _ HZ.out rfl rfl (kp HO.out (Below.refl _ _)) _ rfl ?_ ?_ ?_ ?_; (focus (first | rfl | simp)); (focus omega); (focus omega); intro g2 c2 w3 ho3 hg3)
   go_roundw
   case rel => exact ⟨k + 1, g2, c2, by omega, by go_num, by rw [HS2.out]; simp, by rw [HS2.out]; exact ho3, HB.out.trans (zo hg3 (by omega) (kq HO.out))⟩
   case measure => simp [intOf]; omega
  have hu' : isUp l[k] = false := by simpa using hu
  have HZ : Hid ((l[k].toNat : Int) = ((lowB l[k]).toNat : Int)) := by show _ = _; rw [ye hu']
  by_cases h1 : (65 : Int) <= (l[k].toNat : Int)
  ·have h2 : ¬ (l[k].toNat : Int) <= 90 := by simp [isUp] at hu'; omega
   clear hu hu'
   go_wp2_with (at_builtin; refine kr rfl _ _ rfl w.heap.size (some ⟨g, 0, none⟩) c _ hp (lowB l[k]) _ HZ.out rfl rfl (kp HO.out (Below.refl _ _)) _ rfl ?_ ?_ ?_ ?_; (focus (first | rfl | simp)); (focus omega); (focus omega); intro g2 c2 w3 ho3 hg3)
   go_roundw
   case rel => exact ⟨k + 1, g2, c2, by omega, by go_num, by rw [HS2.out]; simp, by rw [HS2.out]; exact ho3, HB.out.trans (zo hg3 (by omega) (kq HO.out))⟩
   case measure => simp [intOf]; omega
  clear hu hu'
  go_wp2_with (at_builtin; refine kr rfl _ _ rfl w.heap.size (some ⟨g, 0, none⟩) c _ hp (lowB l[k]) _ HZ.out rfl rfl (kp HO.out (Below.refl _ _)) _ rfl ?_ ?_ ?_ ?_; (focus (first | rfl | simp)); (focus omega); (focus omega); intro g2 c2 w3 ho3 hg3)
  go_roundw
  case rel => exact ⟨k + 1, g2, c2, by omega, by go_num, by rw [HS2.out]; simp, by rw [HS2.out]; exact ho3, HB.out.trans (zo hg3 (by omega) (kq HO.out))⟩
  case measure => simp [intOf]; omega
 have hkn : k = l.length := by omega
 subst hkn
 rw [List.take_length] at *
 have hcv := Qu HO.out rfl
 have hpl : (qW l).length <= 4294967296 := by rw [Qx]; omega
 generalize hg : qW l = hp at *
 have HG := qb hg
 clear ho hg
 go_wp2
 go_ret
 rw [HG.out]
 exact ⟨rfl, hb⟩
theorem ze (c : UInt8) (w : World) :
  Calls Tryz.prog 181 #[.int .u8 (c.toNat : Int)] w fun e w' => e = .returned (.bool (qu c)) /\ w = w' := by
 go_enter func181, ntmps181
 go_wp2
 all_goals (go_ret; refine ⟨qw ?_, rfl⟩; simp [qu, zi, isUp, *]; try omega)
theorem yT (c : UInt8) (w : World) :
  Calls Tryz.prog 177 #[.int .u8 (c.toNat : Int)] w fun e w' => e = .returned (.bool (jr c)) /\ w = w' := by
 have HL := qb (fun w => ze c w)
 have HG := qb (fun w => xW c w)
 have T6 : Hid (jr c = (qu c || qK c || decide ((c.toNat : Int) = 45) || decide ((c.toNat : Int) = 95) || decide ((c.toNat : Int) = 46) || decide ((c.toNat : Int) = 126))) := rfl
 cases hl : qu c <;> cases hg : qK c
 all_goals
  have HLL := qb hl
  have HGG := qb hg
  clear hl hg
  go_enter func177, ntmps177
  go_wp2_with (first | (go_at_call 181; refine qf (HL.out _) ?_; rw [HLL.out]) | (go_at_call 143; refine qf (HG.out _) ?_; rw [HGG.out]))
  all_goals (go_ret; refine ⟨qw ?_, rfl⟩; rw [T6.out, HLL.out, HGG.out]; first | (simp [*]; done) | (rw [Bool.eq_iff_iff]; simp; done) | (rw [Bool.eq_iff_iff]; simp; omega))
theorem yU (k : Nat) (h : k < 16) : List.drop k (48 :: List.take k [49, 50, 51, 52, 53, 54, 55, 56, 57, 65, 66, 67, 68, 69, 70]) = [hexD k] := by
 have := Xh k h
 simpa [hexs] using this
theorem yV (c : UInt8) (w : World) :
  Calls Tryz.prog 178 #[.int .u8 (c.toNat : Int)] w fun e w' => e = .returned (.string ⟨(hex3 c).toArray⟩) /\ Below w.heap.size w w' := by
 have h1 := xL c
 have h2 := xM c
 have HX := qb (And.intro (yU _ h1) (yU _ h2))
 go_enter func178, ntmps178
 go_wp2_with (go_quiet (fail))
 go_ret
 refine ⟨qM ?_, jn (Below.refl _ _) _⟩
 rw [HX.out.1, HX.out.2]
 rfl
theorem Xo (l : Tx) (hl : l.length <= 1073741824) (w : World) :
  Calls Tryz.prog 158 #[.string ⟨l.toArray⟩] w fun e w' => e = .returned (.string ⟨(zm l).toArray⟩) /\ Below w.heap.size w w' := by
 go_enter func158, ntmps158
 go_wp2
 go_loopw [3, 4] (fun v i wr => ∃ k : Nat, k <= l.length /\ i = .int .i64 k /\ v = .string ⟨(zm (l.take k)).toArray⟩ /\ Below w.heap.size w wr) (fun _ i _ => l.length - (intOf i).toNat)
 case atStart => exact ⟨0, Nat.zero_le _, rfl, rfl, Below.refl _ _⟩
 obtain ⟨k, hk, rfl, rfl, hb⟩ := hrel
 have HB := qb hb
 by_cases hlt : k < l.length
 ·have HP := qb (fun w => yT l[k] w)
  have HH := qb (fun w => yV l[k] w)
  have HS := qb (Xf l k hlt)
  have hlen := yG l k
  have hlen2 := yG l (k + 1)
  rw [HS.out, List.length_append] at hlen2
  generalize zm (l.take k) = acc at *
  clear hb
  cases hp : jr l[k]
  ·have HPP := qb hp
   have HE : Hid (ji l[k] = hex3 l[k]) := by show _ = _; rw [ji, hp]; rfl
   have h3 : (hex3 l[k]).length = 3 := rfl
   rw [HE.out] at hlen2
   clear hp
   go_wp2_with (first | (go_at_call 177; refine qf (HP.out _) ?_; rw [HPP.out]))
   refine (HH.out _).mono ?_
   rintro e w2 ⟨rfl, hb2⟩
   have HB2 := qb (qa3 HB.out hb2)
   clear hb2
   go_wp2
   go_roundw
   case rel => exact ⟨k + 1, by omega, by go_num, by rw [HS.out, HE.out], HB2.out⟩
   case measure => simp [intOf]; omega
  have HPP := qb hp
  have HE : Hid (ji l[k] = [l[k]]) := by show _ = _; rw [ji, hp]; rfl
  have HT : Hid ((l.take (k + 1)).drop k = [l[k]]) := by show _ = _; rw [zu l k hlt, List.drop_append_of_le_length (by rw [List.length_take]; omega), List.drop_eq_nil_of_le (by rw [List.length_take]; omega)]; rfl
  rw [HE.out] at hlen2
  clear hp
  go_wp2_with (first | (go_at_call 177; refine qf (HP.out _) ?_; rw [HPP.out]))
  go_roundw
  case rel => exact ⟨k + 1, by omega, by go_num, by rw [HS.out, HE.out]; simp [HT.out], HB.out⟩
  case measure => simp [intOf]; omega
 have hkn : k = l.length := by omega
 subst hkn
 go_wp2
 go_ret
 first | exact ⟨rfl, hb⟩ | (rw [List.take_length]; exact ⟨rfl, hb⟩)
open Go.Deep
theorem qp {f : Func} {k b : Nat} {tmps : Array Value} {m : Int} {t a : Tx} {z : Bool} {w : World} (hf : f.results = #[.cell k 90]) (ht : tmps[k]?.getD undef = .pointer (some ⟨b, 0, none⟩)) (h : w.heap[b]? = some (.cells (ql m t a z) 90 (0, 0))) :
  (results f tmps).run Tryz.prog w = .ok (stV m t a z) w := by
 obtain ⟨⟨y0, y1, y2, y3⟩, -⟩ := qh h
 simp [results, go_sem, *]
theorem put4 {w : World} {b : Nat} {c0 c1 c2 c3 v0 v1 v2 v3 : Value} {T : TypeId} (h : w.heap[b]? = some (.cells #[c0, c1, c2, c3] T (0, 0))) :
  ((((w.setCell ⟨b, 0, none⟩ v0).setCell ⟨b, 1, none⟩ v1).setCell ⟨b, 2, none⟩ v2).setCell ⟨b, 3, none⟩ v3).heap[b]? = some (.cells #[v0, v1, v2, v3] T (0, 0)) :=
 qP (qP (qP (qP h)))
theorem qq {B : Nat} {w0 w : World} (h : Below B w0 w) {b : Nat} (hb : B <= b) (v0 v1 v2 v3 : Value) :
  Below B w0 ((((w.setCell ⟨b, 0, none⟩ v0).setCell ⟨b, 1, none⟩ v1).setCell ⟨b, 2, none⟩ v2).setCell ⟨b, 3, none⟩ v3) :=
 (((h.setCell (p := ⟨b, 0, none⟩) hb v0).setCell (p := ⟨b, 1, none⟩) hb v1).setCell (p := ⟨b, 2, none⟩) hb v2).setCell (p := ⟨b, 3, none⟩) hb v3
theorem Yn {fn : Func} {y : Act} {k B b : Nat} {m : Int} {t a : Tx} {z : Bool} {s : St} {w w0 : World} {c0 c1 c2 c3 : Value} (he : s = ⟨m, t, a, z⟩) (hf : fn.results = #[.cell k 90]) (hd : y.defers = []) (ht : y.tmps[k]?.getD undef = .pointer (some ⟨b, 0, none⟩)) (h : w.heap[b]? = some (.cells #[c0, c1, c2, c3] 90 (0, 0))) (hb : Below B w0 w) (hB : B <= b) :
  bodyPost Tryz.prog fn (fun e w' => e = .returned (St.v s) /\ Below B w0 w') .ret y ((((w.setCell ⟨b, 0, none⟩ (.int .i64 m)).setCell ⟨b, 1, none⟩ (sv t)).setCell ⟨b, 2, none⟩ (sv a)).setCell ⟨b, 3, none⟩ (.bool z)) := by
 subst he
 exact bodyPost_ret (qp hf ht (put4 h)) hd ⟨rfl, qq hb hB _ _ _ _⟩
theorem retn {fn : Func} {y : Act} {k : Nat} {m : Int} {t a : Tx} {z : Bool} {s : St} {w : World} {cs : Array Value} {T : TypeId} (he : s = ⟨m, t, a, z⟩) (hf : fn.results = #[.cell k 90]) (hd : y.defers = []) (ht : y.tmps[k]?.getD undef = .pointer (some ⟨w.heap.size + 1, 0, none⟩)) :
  bodyPost Tryz.prog fn (fun e w' => e = .returned (St.v s) /\ Below w.heap.size w w') .ret y ((w.alloc (.cells cs T)).alloc (.cells (ql m t a z) 90)) := by
 subst he
 obtain ⟨g1, -, g3⟩ := qE w cs (ql m t a z) T 90
 exact bodyPost_ret (qp hf ht g3) hd ⟨rfl, g1⟩
abbrev qH : Array Value := #[.int .i64 0, .string ⟨#[]⟩, .string ⟨#[]⟩, .bool false]
theorem zq {w w1 : World} {cs ds : Array Value} {T : TypeId} (hb : Below ((w.alloc (.cells cs T)).alloc (.cells ds T)).heap.size ((w.alloc (.cells cs T)).alloc (.cells ds T)) w1) :
  Below w.heap.size w w1 /\ w1.heap[w.heap.size]? = some (.cells cs T (0, 0)) /\ w1.heap[w.heap.size + 1]? = some (.cells ds T (0, 0)) /\ w.heap.size + 1 < w1.heap.size := by
 obtain ⟨h1, h2, h3⟩ := qE w cs ds T T
 refine ⟨h1.trans (hb.mono h1.size), qi h2 hb, qi h3 hb, ?_⟩
 have := hb.size
 simp at this
 omega
theorem two_row {w w1 : World} {cs ds es : Array Value} {T T2 : TypeId} (hb : Below (((w.alloc (.cells cs T)).alloc (.cells ds T)).alloc (.cells es T2)).heap.size (((w.alloc (.cells cs T)).alloc (.cells ds T)).alloc (.cells es T2)) w1) :
  Below w.heap.size w w1 /\ w1.heap[w.heap.size]? = some (.cells cs T (0, 0)) /\ w1.heap[w.heap.size + 1]? = some (.cells ds T (0, 0)) /\ w.heap.size + 1 < w1.heap.size :=
 zq (((Below.refl _ _).alloc (Nat.le_refl _) _).trans (hb.mono (by simp)))
theorem qy {b c : UInt8} (h : b ≠ c) (k : Int) (hk : (c.toNat : Int) = k) : ((b.toNat : Int) == k) = false := by
 subst hk
 simp only [beq_eq_false_iff_ne, ne_eq]
 intro e
 exact h (UInt8.toNat_inj.1 (by omega))
theorem yI (b : UInt8) : St.bareB b = (St.nameB b || (b == 95 || (b == 46 || (b == 47 || b == 58)))) := by
 unfold St.bareB St.nameB
 simp only [List.any_cons, List.any_nil, Bool.or_false]
 have e1 : ((45 : UInt8) == b) = decide ((b.toNat : Int) = 45) := by
  rw [Bool.eq_iff_iff]
  simp only [beq_iff_eq, decide_eq_true_eq]
  constructor
  ·rintro rfl; rfl
  intro h; exact UInt8.toNat_inj.1 (by have : (45 : UInt8).toNat = 45 := rfl; omega)
 have e2 : ∀ c : UInt8, (c == b) = (b == c) := fun c => by rw [Bool.eq_iff_iff, beq_iff_eq, beq_iff_eq]; exact ⟨Eq.symm, Eq.symm⟩
 rw [e1, e2 95, e2 46, e2 47, e2 58]
 simp only [Bool.or_assoc]
theorem qB {w w1 : World} {cs ds es : Array Value} {T : TypeId} (hb : Below (((w.alloc (.cells cs T)).alloc (.cells ds T)).alloc (.cells es T)).heap.size (((w.alloc (.cells cs T)).alloc (.cells ds T)).alloc (.cells es T)) w1) :
  Below w.heap.size w w1 /\ w1.heap[w.heap.size]? = some (.cells cs T (0, 0)) /\ w1.heap[w.heap.size + 1]? = some (.cells ds T (0, 0)) /\ w1.heap[w.heap.size + 2]? = some (.cells es T (0, 0)) /\ w.heap.size + 2 < w1.heap.size := by
 have h0 := zq (w := w) (cs := cs) (ds := ds) (T := T) ((Below.refl _ _).alloc (Nat.le_refl _) (.cells es T))
 obtain ⟨h1, h2, h3, h4⟩ := h0
 have h5 := heap_alloc_new ((w.alloc (.cells cs T)).alloc (.cells ds T)) (.cells es T)
 rw [show ((w.alloc (.cells cs T)).alloc (.cells ds T)).heap.size = w.heap.size + 2 by simp] at h5
 refine ⟨h1.trans (hb.mono h1.size), qi h2 hb, qi h3 hb, qi h5 hb, ?_⟩
 have := hb.size
 simp at this
 omega
theorem zj (c : UInt8) (w : World) :
  Calls Tryz.prog 184 #[.int .u8 (c.toNat : Int)] w fun e w' => e = .returned (.bool (St.nameB c)) /\ w = w' := by
 have HL := qb (fun w => ze c w)
 have HG := qb (fun w => xW c w)
 have T6 : Hid (St.nameB c = (qu c || qK c || decide ((c.toNat : Int) = 45))) := rfl
 cases hl : qu c <;> cases hg : qK c
 all_goals
  have HLL := qb hl
  have HGG := qb hg
  clear hl hg
  go_enter func184, ntmps184
  go_wp2_with (first | (go_at_call 181; refine qf (HL.out _) ?_; rw [HLL.out]) | (go_at_call 143; refine qf (HG.out _) ?_; rw [HGG.out]))
  all_goals (go_ret; refine ⟨qw ?_, rfl⟩; rw [T6.out, HLL.out, HGG.out]; first | rfl | (rw [Bool.eq_iff_iff]; simp))
theorem xN (t : Tx) (w : World) :
  Calls Tryz.prog 191 #[sv t] w fun e w' => e = .returned (St.v (if t == St.script then ⟨11, [], [], false⟩ else St.zero)) /\ Below w.heap.size w w' := by
 unfold St.script
 cases h : (t == [115, 99, 114, 105, 112, 116])
 ·go_enter func191, ntmps191
  go_wp2
  exact bodyPost_ret (qp (m := 0) (t := []) (a := []) (z := false) results191 rfl (heap_alloc_new _ _)) rfl ⟨rfl, (Below.refl _ _).alloc (Nat.le_refl _) _⟩
 go_enter func191, ntmps191
 go_wp2
 exact bodyPost_ret (qp (m := 11) (t := []) (a := []) (z := false) results191 rfl (heap_alloc_new _ _)) rfl ⟨rfl, (Below.refl _ _).alloc (Nat.le_refl _) _⟩
theorem yJ (m : Int) (t a : Tx) (z : Bool) (w : World) :
  Calls Tryz.prog 183 #[stV m t a z] w fun e w' => e = .returned (stV m t a true) /\ Below w.heap.size w w' := by
 go_enter func183, ntmps183
 go_wp2
 obtain ⟨h1, h2, h3⟩ := qE w (ql m t a true) (ql m t a true) 90 90
 exact bodyPost_ret (qp (m := m) (t := t) (a := a) (z := true) results183 rfl h3) rfl ⟨rfl, h1⟩
def zh (m : Int) (t a : Tx) (b : UInt8) : St := if m = 4 then St.more 4 t (a ++ [lowB b]) else St.more m (t ++ [lowB b]) a
theorem jB (m : Int) (t a : Tx) (b : UInt8) (w : World) (ht : t.length <= 1000) (ha : a.length <= 1000) :
  Calls Tryz.prog 182 #[.int .i64 m, sv t, sv a, sv [b]] w fun e w' => e = .returned (St.v (zh m t a b)) /\ Below w.heap.size w w' := by
 have HL := qb (fun w => vF [b] (by simp) w)
 rw [show qW [b] = [lowB b] from rfl] at HL
 have HMA : Hid (zh m t a b = if m = 4 then St.more 4 t (a ++ [lowB b]) else St.more m (t ++ [lowB b]) a) := rfl
 generalize zh m t a b = s at *
 generalize lowB b = c at *
 by_cases h4 : m = 4
 ·subst h4
  rw [if_pos rfl] at HMA
  go_enter func182, ntmps182
  go_wp2_with fail
  refine (HL.out _).mono ?_
  rintro e w1 ⟨rfl, hb⟩
  obtain ⟨hB, h0, h1, hz⟩ := zq hb
  clear hb
  have HB := qb hB
  have HZ := qb h0
  have H1 := qb (qP (o := 2) (u := sv (a ++ [c])) h1)
  obtain ⟨⟨y0, y1, y2, y3⟩, x0, x1, x2, x3⟩ := qh h1
  have hsum : (9223372036854775807 < a.length + 1) = False := by rw [eq_iff_iff, iff_false]; omega
  clear h0 h1 hB
  have HB2 := qb (HB.out.setCell (p := ⟨w.heap.size + 1, 2, none⟩) (show w.heap.size <= w.heap.size + 1 by omega) (sv (a ++ [c])))
  have HZ2 := qb ((Below.heap_setCell w1 ⟨w.heap.size + 1, 2, none⟩ (sv (a ++ [c])) w.heap.size (show w.heap.size ≠ w.heap.size + 1 by omega)).trans HZ.out)
  go_upto_region 5 with fail
  generalize w1.setCell ⟨w.heap.size + 1, 2, none⟩ (sv (a ++ [c])) = w2 at *
  clear y0 y1 y2 y3 x0 x1 x2 x3 hsum HB HZ hz w1
  obtain ⟨⟨y0, y1, y2, y3⟩, x0, x1, x2, x3⟩ := qh H1.out
  obtain ⟨⟨z0, z1, z2, z3⟩, u0, u1, u2, u3⟩ := qh HZ2.out
  by_cases hA : (a ++ [c]).length <= 10
  case neg =>
   have HE : Hid (s = St.bad) := by show _ = _; rw [HMA.out, St.more, if_neg (fun h => hA h.2)]
   have hA2 : decide (10 < (((a ++ [c]).length : Nat) : Int)) = true := by simp only [decide_eq_true_eq]; omega
   try simp only [List.length_append, List.length_cons, List.length_nil] at hA hA2
   go_wp2
   exact bodyPost_ret (qp (m := 15) (t := []) (a := []) (z := false) results182 rfl (put4 HZ2.out)) rfl ⟨by rw [HE.out]; rfl, qq HB2.out (Nat.le_refl _) _ _ _ _⟩
  by_cases hT : (t).length <= 10
  case neg =>
   have HE : Hid (s = St.bad) := by show _ = _; rw [HMA.out, St.more, if_neg (fun h => hT h.1)]
   have hA2 : decide (10 < (((a ++ [c]).length : Nat) : Int)) = false := by simp only [decide_eq_false_iff_not]; omega
   have hT2 : decide (10 < (((t).length : Nat) : Int)) = true := by simp only [decide_eq_true_eq]; omega
   try simp only [List.length_append, List.length_cons, List.length_nil] at hA hA2 hT hT2
   go_wp2
   exact bodyPost_ret (qp (m := 15) (t := []) (a := []) (z := false) results182 rfl (put4 HZ2.out)) rfl ⟨by rw [HE.out]; rfl, qq HB2.out (Nat.le_refl _) _ _ _ _⟩
  have HE : Hid (s = ⟨4, t, a ++ [c], false⟩) := by show _ = _; rw [HMA.out, St.more, if_pos ⟨hT, hA⟩]
  have hA2 : decide (10 < (((a ++ [c]).length : Nat) : Int)) = false := by simp only [decide_eq_false_iff_not]; omega
  have hT2 : decide (10 < (((t).length : Nat) : Int)) = false := by simp only [decide_eq_false_iff_not]; omega
  try simp only [List.length_append, List.length_cons, List.length_nil] at hA hA2 hT hT2
  go_wp2
  exact bodyPost_ret (qp (m := 4) (t := t) (a := a ++ [c]) (z := false) results182 rfl (put4 HZ2.out)) rfl ⟨by rw [HE.out], qq HB2.out (Nat.le_refl _) _ _ _ _⟩
 have h4b : (m == 4) = false := by simpa using h4
 rw [if_neg h4] at HMA
 clear h4
 go_enter func182, ntmps182
 go_wp2_with fail
 refine (HL.out _).mono ?_
 rintro e w1 ⟨rfl, hb⟩
 obtain ⟨hB, h0, h1, hz⟩ := zq hb
 clear hb
 have HB := qb hB
 have HZ := qb h0
 have H1 := qb (qP (o := 1) (u := sv (t ++ [c])) h1)
 obtain ⟨⟨y0, y1, y2, y3⟩, x0, x1, x2, x3⟩ := qh h1
 have hsum : (9223372036854775807 < t.length + 1) = False := by rw [eq_iff_iff, iff_false]; omega
 clear h0 h1 hB
 have HB2 := qb (HB.out.setCell (p := ⟨w.heap.size + 1, 1, none⟩) (show w.heap.size <= w.heap.size + 1 by omega) (sv (t ++ [c])))
 have HZ2 := qb ((Below.heap_setCell w1 ⟨w.heap.size + 1, 1, none⟩ (sv (t ++ [c])) w.heap.size (show w.heap.size ≠ w.heap.size + 1 by omega)).trans HZ.out)
 go_upto_region 5 with fail
 generalize w1.setCell ⟨w.heap.size + 1, 1, none⟩ (sv (t ++ [c])) = w2 at *
 clear y0 y1 y2 y3 x0 x1 x2 x3 hsum HB HZ hz w1
 obtain ⟨⟨y0, y1, y2, y3⟩, x0, x1, x2, x3⟩ := qh H1.out
 obtain ⟨⟨z0, z1, z2, z3⟩, u0, u1, u2, u3⟩ := qh HZ2.out
 by_cases hA : (a).length <= 10
 case neg =>
  have HE : Hid (s = St.bad) := by show _ = _; rw [HMA.out, St.more, if_neg (fun h => hA h.2)]
  have hA2 : decide (10 < (((a).length : Nat) : Int)) = true := by simp only [decide_eq_true_eq]; omega
  try simp only [List.length_append, List.length_cons, List.length_nil] at hA hA2
  go_wp2
  exact bodyPost_ret (qp (m := 15) (t := []) (a := []) (z := false) results182 rfl (put4 HZ2.out)) rfl ⟨by rw [HE.out]; rfl, qq HB2.out (Nat.le_refl _) _ _ _ _⟩
 by_cases hT : (t ++ [c]).length <= 10
 case neg =>
  have HE : Hid (s = St.bad) := by show _ = _; rw [HMA.out, St.more, if_neg (fun h => hT h.1)]
  have hA2 : decide (10 < (((a).length : Nat) : Int)) = false := by simp only [decide_eq_false_iff_not]; omega
  have hT2 : decide (10 < (((t ++ [c]).length : Nat) : Int)) = true := by simp only [decide_eq_true_eq]; omega
  try simp only [List.length_append, List.length_cons, List.length_nil] at hA hA2 hT hT2
  go_wp2
  exact bodyPost_ret (qp (m := 15) (t := []) (a := []) (z := false) results182 rfl (put4 HZ2.out)) rfl ⟨by rw [HE.out]; rfl, qq HB2.out (Nat.le_refl _) _ _ _ _⟩
 have HE : Hid (s = ⟨m, t ++ [c], a, false⟩) := by show _ = _; rw [HMA.out, St.more, if_pos ⟨hT, hA⟩]
 have hA2 : decide (10 < (((a).length : Nat) : Int)) = false := by simp only [decide_eq_false_iff_not]; omega
 have hT2 : decide (10 < (((t ++ [c]).length : Nat) : Int)) = false := by simp only [decide_eq_false_iff_not]; omega
 try simp only [List.length_append, List.length_cons, List.length_nil] at hA hA2 hT hT2
 go_wp2
 exact bodyPost_ret (qp (m := m) (t := t ++ [c]) (a := a) (z := false) results182 rfl (put4 HZ2.out)) rfl ⟨by rw [HE.out], qq HB2.out (Nat.le_refl _) _ _ _ _⟩
end Go.Proofs.YtmboieajfdkllaaGreat
