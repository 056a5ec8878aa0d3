import Derived.Test.YtmboieajfdkllaaGreatU15
import Derived.Test.YtmboieajfdkllaaGreatU00
set_option maxHeartbeats 4000000
set_option maxRecDepth 100000
open Go.Proofs.Tryz
namespace Go.Proofs.YtmboieajfdkllaaGreat
open Go.RowKit Go.Deep
theorem ZF (a : Tx) (w : World) :
  Calls Tryz.prog 123 #[sv a] w fun e w' => e = .returned (.bool (St.addrName a)) /\ w = w' := by
 have HE : Hid (St.addrName a = (a == [104, 114, 101, 102] || (a == [115, 114, 99] || a == [97, 99, 116, 105, 111, 110]))) := rfl
 generalize St.addrName a = r at *
 generalize hq1 : (a == [104, 114, 101, 102]) = q1 at *
 generalize hq2 : (a == [115, 114, 99]) = q2 at *
 generalize hq3 : (a == [97, 99, 116, 105, 111, 110]) = q3 at *
 cases q1 <;> cases q2 <;> cases q3
 all_goals (go_enter func123, ntmps123; go_wp2; go_ret; exact ⟨qw (by rw [HE.out]; rfl), rfl⟩)
theorem ZG (a : Tx) (w : World) :
  Calls Tryz.prog 160 #[sv a] w fun e w' => e = .returned (.bool (St.addrName a)) /\ w = w' := by
 have HE : Hid (St.addrName a = (a == [104, 114, 101, 102] || (a == [115, 114, 99] || a == [97, 99, 116, 105, 111, 110]))) := rfl
 generalize St.addrName a = r at *
 generalize hq1 : (a == [104, 114, 101, 102]) = q1 at *
 generalize hq2 : (a == [115, 114, 99]) = q2 at *
 generalize hq3 : (a == [97, 99, 116, 105, 111, 110]) = q3 at *
 cases q1 <;> cases q2 <;> cases q3
 all_goals (go_enter func160, ntmps160; go_wp2; go_ret; exact ⟨qw (by rw [HE.out]; rfl), rfl⟩)
theorem ZH (a : Tx) : List.isPrefixOf [111, 110] a = (decide (2 <= a.length) && (a.take 2 == [111, 110])) := by
 match a with
 | [] => rfl
 | [x] => simp [List.isPrefixOf]
 | x :: y :: t =>
  have h : decide (2 <= (x :: y :: t).length) = true := by simp
  rw [h, Bool.true_and]
  simp only [List.isPrefixOf, Bool.and_true, List.take_succ_cons, List.take_zero]
  rw [Bool.eq_iff_iff]
  simp only [Bool.and_eq_true, beq_iff_eq, List.cons.injEq, and_true]
  exact ⟨fun h => ⟨h.1.symm, h.2.symm⟩, fun h => ⟨h.1.symm, h.2.symm⟩⟩
theorem ZI {m : Int} {t a : Tx} {z : Bool} (h : St.valid ⟨m, t, a, z⟩ = true) : St.place ⟨m, t, a, z⟩ = if m = 0 then 1 else if m = 12 then 5 else if m = 6 \/ m = 7 then (if St.noName a then 0 else if St.addrName a then (if z then 4 else 3) else 2) else 0 := by
 unfold St.place
 rw [h, if_pos rfl]
theorem ZJ (a p : Tx) (w : World) : Calls Tryz.prog 122 #[sv a, sv p] w fun e w' => e = .returned (.bool (List.isPrefixOf p a)) /\ w = w' := by
 refine (Tryz.strings_HasPrefix ⟨a.toArray⟩ ⟨p.toArray⟩ w).mono ?_
 rintro e w' ⟨rfl, rfl⟩
 exact ⟨by simp [Lib.hasPrefix], rfl⟩
theorem vi (m : Int) (t a : Tx) (z : Bool) (w : World) (ht : t.length <= 1000) (ha : a.length <= 1000) :
  Calls Tryz.prog 74 #[stV m t a z] w fun e w' => e = .returned (.int .i64 (St.place ⟨m, t, a, z⟩)) /\ Below w.heap.size w w' := by
 have HV := qb (fun w => kO m t a z w (by omega) (by omega))
 have HB0 := qb ((Below.refl w.heap.size w).alloc (Nat.le_refl _) (.cells (ql m t a z) 90))
 have HX0 := qb (heap_alloc_new w (.cells (ql m t a z) 90))
 have hzz : w.heap.size < (w.alloc (.cells (ql m t a z) 90)).heap.size := by simp
 cases hv : St.valid ⟨m, t, a, z⟩
 ·have HE : Hid (St.place ⟨m, t, a, z⟩ = 0) := by show _ = _; unfold St.place; rw [hv]; rfl
  rw [hv] at HV
  clear hv
  generalize St.place ⟨m, t, a, z⟩ = r at *
  go_enter func74, ntmps74
  go_wp2_with fail
  refine (HV.out _).mono ?_
  rintro e w1 ⟨rfl, hb⟩
  have HB1 := qb (qa3 HB0.out hb)
  clear hb
  go_wp2
  go_ret
  exact ⟨qA HE.out.symm, HB1.out⟩
 have HE0 := qb (ZI hv)
 rw [hv] at HV
 clear hv
 generalize St.place ⟨m, t, a, z⟩ = r at *
 by_cases h0 : m = 0
 ·subst h0
  have HE : Hid (r = 1) := HE0.out
  go_enter func74, ntmps74
  go_wp2_with fail
  refine (HV.out _).mono ?_
  rintro e w1 ⟨rfl, hb⟩
  have HB1 := qb (qa3 HB0.out hb)
  obtain ⟨⟨y0, y1, y2, y3⟩, -⟩ := qh (qi HX0.out hb)
  have hz1 : w.heap.size < w1.heap.size := Nat.lt_of_lt_of_le hzz hb.size
  clear hb
  go_wp2_with (first | (go_at_call 123; refine qf (HA.out _) ?_) | (go_at_call 122; refine qf (HP.out _) ?_))
  go_ret
  exact ⟨qA (by rw [HE.out]; first | done | rfl), HB1.out⟩
 have n0 : (m == 0) = false := by simpa using h0
 rw [if_neg h0] at HE0
 by_cases h12 : m = 12
 ·subst h12
  have HE : Hid (r = 5) := HE0.out
  go_enter func74, ntmps74
  go_wp2_with fail
  refine (HV.out _).mono ?_
  rintro e w1 ⟨rfl, hb⟩
  have HB1 := qb (qa3 HB0.out hb)
  obtain ⟨⟨y0, y1, y2, y3⟩, -⟩ := qh (qi HX0.out hb)
  have hz1 : w.heap.size < w1.heap.size := Nat.lt_of_lt_of_le hzz hb.size
  clear hb
  go_wp2_with (first | (go_at_call 123; refine qf (HA.out _) ?_) | (go_at_call 122; refine qf (HP.out _) ?_))
  go_ret
  exact ⟨qA (by rw [HE.out]; first | done | rfl), HB1.out⟩
 have n12 : (m == 12) = false := by simpa using h12
 rw [if_neg h12] at HE0
 by_cases h6 : m = 6
 ·subst h6
  rw [if_pos (.inl rfl)] at HE0
  clear n0 n12 h0 h12
  have HP := qb (fun w => ZJ a [111, 110] w)
  have HA := qb (fun w => ZF a w)
  have HN : Hid (St.noName a = (List.isPrefixOf [111, 110] a || a == [115, 116, 121, 108, 101])) := rfl
  generalize St.noName a = qn at *
  generalize List.isPrefixOf [111, 110] a = q1 at *
  generalize hq2 : (a == [115, 116, 121, 108, 101]) = q2 at *
  generalize St.addrName a = q3 at *
  cases q1
  case true =>
   have HE : Hid (r = 0) := by show _ = _; rw [HE0.out, HN.out]; rfl
   go_enter func74, ntmps74
   go_wp2_with fail
   refine (HV.out _).mono ?_
   rintro e w1 ⟨rfl, hb⟩
   have HB1 := qb (qa3 HB0.out hb)
   obtain ⟨⟨y0, y1, y2, y3⟩, -⟩ := qh (qi HX0.out hb)
   have hz1 : w.heap.size < w1.heap.size := Nat.lt_of_lt_of_le hzz hb.size
   clear hb
   go_wp2_with (first | (go_at_call 123; refine qf (HA.out _) ?_) | (go_at_call 122; refine qf (HP.out _) ?_))
   go_ret
   exact ⟨qA (by rw [HE.out]; first | done | rfl), HB1.out⟩
  cases q2
  case true =>
   have HE : Hid (r = 0) := by show _ = _; rw [HE0.out, HN.out]; rfl
   go_enter func74, ntmps74
   go_wp2_with fail
   refine (HV.out _).mono ?_
   rintro e w1 ⟨rfl, hb⟩
   have HB1 := qb (qa3 HB0.out hb)
   obtain ⟨⟨y0, y1, y2, y3⟩, -⟩ := qh (qi HX0.out hb)
   have hz1 : w.heap.size < w1.heap.size := Nat.lt_of_lt_of_le hzz hb.size
   clear hb
   go_wp2_with (first | (go_at_call 123; refine qf (HA.out _) ?_) | (go_at_call 122; refine qf (HP.out _) ?_))
   go_ret
   exact ⟨qA (by rw [HE.out]; first | done | rfl), HB1.out⟩
  cases q3
  case false =>
   have HE : Hid (r = 2) := by show _ = _; rw [HE0.out, HN.out]; rfl
   go_enter func74, ntmps74
   go_wp2_with fail
   refine (HV.out _).mono ?_
   rintro e w1 ⟨rfl, hb⟩
   have HB1 := qb (qa3 HB0.out hb)
   obtain ⟨⟨y0, y1, y2, y3⟩, -⟩ := qh (qi HX0.out hb)
   have hz1 : w.heap.size < w1.heap.size := Nat.lt_of_lt_of_le hzz hb.size
   clear hb
   go_wp2_with (first | (go_at_call 123; refine qf (HA.out _) ?_) | (go_at_call 122; refine qf (HP.out _) ?_))
   go_ret
   exact ⟨qA (by rw [HE.out]; first | done | rfl), HB1.out⟩
  cases z
  ·have HE : Hid (r = 3) := by show _ = _; rw [HE0.out, HN.out]; rfl
   go_enter func74, ntmps74
   go_wp2_with fail
   refine (HV.out _).mono ?_
   rintro e w1 ⟨rfl, hb⟩
   have HB1 := qb (qa3 HB0.out hb)
   obtain ⟨⟨y0, y1, y2, y3⟩, -⟩ := qh (qi HX0.out hb)
   have hz1 : w.heap.size < w1.heap.size := Nat.lt_of_lt_of_le hzz hb.size
   clear hb
   go_wp2_with (first | (go_at_call 123; refine qf (HA.out _) ?_) | (go_at_call 122; refine qf (HP.out _) ?_))
   go_ret
   exact ⟨qA (by rw [HE.out]; first | done | rfl), HB1.out⟩
  have HE : Hid (r = 4) := by show _ = _; rw [HE0.out, HN.out]; rfl
  go_enter func74, ntmps74
  go_wp2_with fail
  refine (HV.out _).mono ?_
  rintro e w1 ⟨rfl, hb⟩
  have HB1 := qb (qa3 HB0.out hb)
  obtain ⟨⟨y0, y1, y2, y3⟩, -⟩ := qh (qi HX0.out hb)
  have hz1 : w.heap.size < w1.heap.size := Nat.lt_of_lt_of_le hzz hb.size
  clear hb
  go_wp2_with (first | (go_at_call 123; refine qf (HA.out _) ?_) | (go_at_call 122; refine qf (HP.out _) ?_))
  go_ret
  exact ⟨qA (by rw [HE.out]; first | done | rfl), HB1.out⟩
 have n6 : (m == 6) = false := by simpa using h6
 by_cases h7 : m = 7
 ·subst h7
  rw [if_pos (.inr rfl)] at HE0
  clear n0 n12 n6 h0 h12 h6
  have HP := qb (fun w => ZJ a [111, 110] w)
  have HA := qb (fun w => ZF a w)
  have HN : Hid (St.noName a = (List.isPrefixOf [111, 110] a || a == [115, 116, 121, 108, 101])) := rfl
  generalize St.noName a = qn at *
  generalize List.isPrefixOf [111, 110] a = q1 at *
  generalize hq2 : (a == [115, 116, 121, 108, 101]) = q2 at *
  generalize St.addrName a = q3 at *
  cases q1
  case true =>
   have HE : Hid (r = 0) := by show _ = _; rw [HE0.out, HN.out]; rfl
   go_enter func74, ntmps74
   go_wp2_with fail
   refine (HV.out _).mono ?_
   rintro e w1 ⟨rfl, hb⟩
   have HB1 := qb (qa3 HB0.out hb)
   obtain ⟨⟨y0, y1, y2, y3⟩, -⟩ := qh (qi HX0.out hb)
   have hz1 : w.heap.size < w1.heap.size := Nat.lt_of_lt_of_le hzz hb.size
   clear hb
   go_wp2_with (first | (go_at_call 123; refine qf (HA.out _) ?_) | (go_at_call 122; refine qf (HP.out _) ?_))
   go_ret
   exact ⟨qA (by rw [HE.out]; first | done | rfl), HB1.out⟩
  cases q2
  case true =>
   have HE : Hid (r = 0) := by show _ = _; rw [HE0.out, HN.out]; rfl
   go_enter func74, ntmps74
   go_wp2_with fail
   refine (HV.out _).mono ?_
   rintro e w1 ⟨rfl, hb⟩
   have HB1 := qb (qa3 HB0.out hb)
   obtain ⟨⟨y0, y1, y2, y3⟩, -⟩ := qh (qi HX0.out hb)
   have hz1 : w.heap.size < w1.heap.size := Nat.lt_of_lt_of_le hzz hb.size
   clear hb
   go_wp2_with (first | (go_at_call 123; refine qf (HA.out _) ?_) | (go_at_call 122; refine qf (HP.out _) ?_))
   go_ret
   exact ⟨qA (by rw [HE.out]; first | done | rfl), HB1.out⟩
  cases q3
  case false =>
   have HE : Hid (r = 2) := by show _ = _; rw [HE0.out, HN.out]; rfl
   go_enter func74, ntmps74
   go_wp2_with fail
   refine (HV.out _).mono ?_
   rintro e w1 ⟨rfl, hb⟩
   have HB1 := qb (qa3 HB0.out hb)
   obtain ⟨⟨y0, y1, y2, y3⟩, -⟩ := qh (qi HX0.out hb)
   have hz1 : w.heap.size < w1.heap.size := Nat.lt_of_lt_of_le hzz hb.size
   clear hb
   go_wp2_with (first | (go_at_call 123; refine qf (HA.out _) ?_) | (go_at_call 122; refine qf (HP.out _) ?_))
   go_ret
   exact ⟨qA (by rw [HE.out]; first | done | rfl), HB1.out⟩
  cases z
  ·have HE : Hid (r = 3) := by show _ = _; rw [HE0.out, HN.out]; rfl
   go_enter func74, ntmps74
   go_wp2_with fail
   refine (HV.out _).mono ?_
   rintro e w1 ⟨rfl, hb⟩
   have HB1 := qb (qa3 HB0.out hb)
   obtain ⟨⟨y0, y1, y2, y3⟩, -⟩ := qh (qi HX0.out hb)
   have hz1 : w.heap.size < w1.heap.size := Nat.lt_of_lt_of_le hzz hb.size
   clear hb
   go_wp2_with (first | (go_at_call 123; refine qf (HA.out _) ?_) | (go_at_call 122; refine qf (HP.out _) ?_))
   go_ret
   exact ⟨qA (by rw [HE.out]; first | done | rfl), HB1.out⟩
  have HE : Hid (r = 4) := by show _ = _; rw [HE0.out, HN.out]; rfl
  go_enter func74, ntmps74
  go_wp2_with fail
  refine (HV.out _).mono ?_
  rintro e w1 ⟨rfl, hb⟩
  have HB1 := qb (qa3 HB0.out hb)
  obtain ⟨⟨y0, y1, y2, y3⟩, -⟩ := qh (qi HX0.out hb)
  have hz1 : w.heap.size < w1.heap.size := Nat.lt_of_lt_of_le hzz hb.size
  clear hb
  go_wp2_with (first | (go_at_call 123; refine qf (HA.out _) ?_) | (go_at_call 122; refine qf (HP.out _) ?_))
  go_ret
  exact ⟨qA (by rw [HE.out]; first | done | rfl), HB1.out⟩
 have n7 : (m == 7) = false := by simpa using h7
 rw [if_neg (by omega)] at HE0
 have HE : Hid (r = 0) := HE0.out
 clear h0 h6 h7 h12
 go_enter func74, ntmps74
 go_wp2_with fail
 refine (HV.out _).mono ?_
 rintro e w1 ⟨rfl, hb⟩
 have HB1 := qb (qa3 HB0.out hb)
 obtain ⟨⟨y0, y1, y2, y3⟩, -⟩ := qh (qi HX0.out hb)
 have hz1 : w.heap.size < w1.heap.size := Nat.lt_of_lt_of_le hzz hb.size
 clear hb
 go_wp2_with (first | (go_at_call 123; refine qf (HA.out _) ?_) | (go_at_call 122; refine qf (HP.out _) ?_))
 go_ret
 exact ⟨qA (by rw [HE.out]; first | done | rfl), HB1.out⟩
theorem ZK (m : Int) (t a : Tx) (z : Bool) (w : World) (ht : t.length <= 1000) (ha : a.length <= 1000) :
  Calls Tryz.prog 131 #[stV m t a z] w fun e w' => e = .returned (.int .i64 (St.place ⟨m, t, a, z⟩)) /\ Below w.heap.size w w' := by
 have HV := qb (fun w => xP m t a z w (by omega) (by omega))
 have HB0 := qb ((Below.refl w.heap.size w).alloc (Nat.le_refl _) (.cells (ql m t a z) 90))
 have HX0 := qb (heap_alloc_new w (.cells (ql m t a z) 90))
 have hzz : w.heap.size < (w.alloc (.cells (ql m t a z) 90)).heap.size := by simp
 cases hv : St.valid ⟨m, t, a, z⟩
 ·have HE : Hid (St.place ⟨m, t, a, z⟩ = 0) := by show _ = _; unfold St.place; rw [hv]; rfl
  rw [hv] at HV
  clear hv
  generalize St.place ⟨m, t, a, z⟩ = r at *
  go_enter func131, ntmps131
  go_wp2_with fail
  refine (HV.out _).mono ?_
  rintro e w1 ⟨rfl, hb⟩
  have HB1 := qb (qa3 HB0.out hb)
  clear hb
  go_wp2
  go_ret
  exact ⟨qA HE.out.symm, HB1.out⟩
 have HE0 := qb (ZI hv)
 rw [hv] at HV
 clear hv
 generalize St.place ⟨m, t, a, z⟩ = r at *
 by_cases h0 : m = 0
 ·subst h0
  have HE : Hid (r = 1) := HE0.out
  go_enter func131, ntmps131
  go_wp2_with fail
  refine (HV.out _).mono ?_
  rintro e w1 ⟨rfl, hb⟩
  have HB1 := qb (qa3 HB0.out hb)
  obtain ⟨⟨y0, y1, y2, y3⟩, -⟩ := qh (qi HX0.out hb)
  have hz1 : w.heap.size < w1.heap.size := Nat.lt_of_lt_of_le hzz hb.size
  clear hb
  go_wp2_with (first | (go_at_call 160; refine qf (HA.out _) ?_))
  go_ret
  exact ⟨qA (by rw [HE.out]; first | done | rfl), HB1.out⟩
 have n0 : (m == 0) = false := by simpa using h0
 rw [if_neg h0] at HE0
 by_cases h12 : m = 12
 ·subst h12
  have HE : Hid (r = 5) := HE0.out
  go_enter func131, ntmps131
  go_wp2_with fail
  refine (HV.out _).mono ?_
  rintro e w1 ⟨rfl, hb⟩
  have HB1 := qb (qa3 HB0.out hb)
  obtain ⟨⟨y0, y1, y2, y3⟩, -⟩ := qh (qi HX0.out hb)
  have hz1 : w.heap.size < w1.heap.size := Nat.lt_of_lt_of_le hzz hb.size
  clear hb
  go_wp2_with (first | (go_at_call 160; refine qf (HA.out _) ?_))
  go_ret
  exact ⟨qA (by rw [HE.out]; first | done | rfl), HB1.out⟩
 have n12 : (m == 12) = false := by simpa using h12
 rw [if_neg h12] at HE0
 by_cases h6 : m = 6
 ·subst h6
  rw [if_pos (.inl rfl)] at HE0
  clear n0 n12 h0 h12
  have HA := qb (fun w => ZG a w)
  have HN : Hid (St.noName a = (List.isPrefixOf [111, 110] a || a == [115, 116, 121, 108, 101])) := rfl
  have hpo := ZH a
  rw [hpo] at HN
  clear hpo
  generalize St.noName a = qn at *
  generalize hq2 : (a == [115, 116, 121, 108, 101]) = q2 at *
  generalize St.addrName a = q3 at *
  cases q2
  case true =>
   have HE : Hid (r = 0) := by show _ = _; rw [HE0.out, HN.out, Bool.or_true]; rfl
   go_enter func131, ntmps131
   go_wp2_with fail
   refine (HV.out _).mono ?_
   rintro e w1 ⟨rfl, hb⟩
   have HB1 := qb (qa3 HB0.out hb)
   obtain ⟨⟨y0, y1, y2, y3⟩, -⟩ := qh (qi HX0.out hb)
   have hz1 : w.heap.size < w1.heap.size := Nat.lt_of_lt_of_le hzz hb.size
   clear hb
   go_wp2_with (first | (go_at_call 160; refine qf (HA.out _) ?_))
   go_ret
   exact ⟨qA (by rw [HE.out]; first | done | rfl), HB1.out⟩
  rw [Bool.or_false] at HN
  by_cases h2 : 2 <= a.length
  ·have d2 : decide ((2 : Int) <= (a.length : Int)) = true := by simp only [decide_eq_true_eq]; omega
   rw [decide_eq_true h2, Bool.true_and] at HN
   generalize hq1 : (a.take 2 == [111, 110]) = q1 at *
   cases q1
   case true =>
    have HE : Hid (r = 0) := by show _ = _; rw [HE0.out, HN.out]; rfl
    go_enter func131, ntmps131
    go_wp2_with fail
    refine (HV.out _).mono ?_
    rintro e w1 ⟨rfl, hb⟩
    have HB1 := qb (qa3 HB0.out hb)
    obtain ⟨⟨y0, y1, y2, y3⟩, -⟩ := qh (qi HX0.out hb)
    have hz1 : w.heap.size < w1.heap.size := Nat.lt_of_lt_of_le hzz hb.size
    clear hb
    go_wp2_with (first | (go_at_call 160; refine qf (HA.out _) ?_))
    go_ret
    exact ⟨qA (by rw [HE.out]; first | done | rfl), HB1.out⟩
   cases q3
   case false =>
    have HE : Hid (r = 2) := by show _ = _; rw [HE0.out, HN.out]; rfl
    go_enter func131, ntmps131
    go_wp2_with fail
    refine (HV.out _).mono ?_
    rintro e w1 ⟨rfl, hb⟩
    have HB1 := qb (qa3 HB0.out hb)
    obtain ⟨⟨y0, y1, y2, y3⟩, -⟩ := qh (qi HX0.out hb)
    have hz1 : w.heap.size < w1.heap.size := Nat.lt_of_lt_of_le hzz hb.size
    clear hb
    go_wp2_with (first | (go_at_call 160; refine qf (HA.out _) ?_))
    go_ret
    exact ⟨qA (by rw [HE.out]; first | done | rfl), HB1.out⟩
   cases z
   ·have HE : Hid (r = 3) := by show _ = _; rw [HE0.out, HN.out]; rfl
    go_enter func131, ntmps131
    go_wp2_with fail
    refine (HV.out _).mono ?_
    rintro e w1 ⟨rfl, hb⟩
    have HB1 := qb (qa3 HB0.out hb)
    obtain ⟨⟨y0, y1, y2, y3⟩, -⟩ := qh (qi HX0.out hb)
    have hz1 : w.heap.size < w1.heap.size := Nat.lt_of_lt_of_le hzz hb.size
    clear hb
    go_wp2_with (first | (go_at_call 160; refine qf (HA.out _) ?_))
    go_ret
    exact ⟨qA (by rw [HE.out]; first | done | rfl), HB1.out⟩
   have HE : Hid (r = 4) := by show _ = _; rw [HE0.out, HN.out]; rfl
   go_enter func131, ntmps131
   go_wp2_with fail
   refine (HV.out _).mono ?_
   rintro e w1 ⟨rfl, hb⟩
   have HB1 := qb (qa3 HB0.out hb)
   obtain ⟨⟨y0, y1, y2, y3⟩, -⟩ := qh (qi HX0.out hb)
   have hz1 : w.heap.size < w1.heap.size := Nat.lt_of_lt_of_le hzz hb.size
   clear hb
   go_wp2_with (first | (go_at_call 160; refine qf (HA.out _) ?_))
   go_ret
   exact ⟨qA (by rw [HE.out]; first | done | rfl), HB1.out⟩
  have d2 : decide ((2 : Int) <= (a.length : Int)) = false := by simp only [decide_eq_false_iff_not]; omega
  rw [decide_eq_false h2, Bool.false_and] at HN
  cases q3
  case false =>
   have HE : Hid (r = 2) := by show _ = _; rw [HE0.out, HN.out]; rfl
   go_enter func131, ntmps131
   go_wp2_with fail
   refine (HV.out _).mono ?_
   rintro e w1 ⟨rfl, hb⟩
   have HB1 := qb (qa3 HB0.out hb)
   obtain ⟨⟨y0, y1, y2, y3⟩, -⟩ := qh (qi HX0.out hb)
   have hz1 : w.heap.size < w1.heap.size := Nat.lt_of_lt_of_le hzz hb.size
   clear hb
   go_wp2_with (first | (go_at_call 160; refine qf (HA.out _) ?_))
   go_ret
   exact ⟨qA (by rw [HE.out]; first | done | rfl), HB1.out⟩
  cases z
  ·have HE : Hid (r = 3) := by show _ = _; rw [HE0.out, HN.out]; rfl
   go_enter func131, ntmps131
   go_wp2_with fail
   refine (HV.out _).mono ?_
   rintro e w1 ⟨rfl, hb⟩
   have HB1 := qb (qa3 HB0.out hb)
   obtain ⟨⟨y0, y1, y2, y3⟩, -⟩ := qh (qi HX0.out hb)
   have hz1 : w.heap.size < w1.heap.size := Nat.lt_of_lt_of_le hzz hb.size
   clear hb
   go_wp2_with (first | (go_at_call 160; refine qf (HA.out _) ?_))
   go_ret
   exact ⟨qA (by rw [HE.out]; first | done | rfl), HB1.out⟩
  have HE : Hid (r = 4) := by show _ = _; rw [HE0.out, HN.out]; rfl
  go_enter func131, ntmps131
  go_wp2_with fail
  refine (HV.out _).mono ?_
  rintro e w1 ⟨rfl, hb⟩
  have HB1 := qb (qa3 HB0.out hb)
  obtain ⟨⟨y0, y1, y2, y3⟩, -⟩ := qh (qi HX0.out hb)
  have hz1 : w.heap.size < w1.heap.size := Nat.lt_of_lt_of_le hzz hb.size
  clear hb
  go_wp2_with (first | (go_at_call 160; refine qf (HA.out _) ?_))
  go_ret
  exact ⟨qA (by rw [HE.out]; first | done | rfl), HB1.out⟩
 have n6 : (m == 6) = false := by simpa using h6
 by_cases h7 : m = 7
 ·subst h7
  rw [if_pos (.inr rfl)] at HE0
  clear n0 n12 n6 h0 h12 h6
  have HA := qb (fun w => ZG a w)
  have HN : Hid (St.noName a = (List.isPrefixOf [111, 110] a || a == [115, 116, 121, 108, 101])) := rfl
  have hpo := ZH a
  rw [hpo] at HN
  clear hpo
  generalize St.noName a = qn at *
  generalize hq2 : (a == [115, 116, 121, 108, 101]) = q2 at *
  generalize St.addrName a = q3 at *
  cases q2
  case true =>
   have HE : Hid (r = 0) := by show _ = _; rw [HE0.out, HN.out, Bool.or_true]; rfl
   go_enter func131, ntmps131
   go_wp2_with fail
   refine (HV.out _).mono ?_
   rintro e w1 ⟨rfl, hb⟩
   have HB1 := qb (qa3 HB0.out hb)
   obtain ⟨⟨y0, y1, y2, y3⟩, -⟩ := qh (qi HX0.out hb)
   have hz1 : w.heap.size < w1.heap.size := Nat.lt_of_lt_of_le hzz hb.size
   clear hb
   go_wp2_with (first | (go_at_call 160; refine qf (HA.out _) ?_))
   go_ret
   exact ⟨qA (by rw [HE.out]; first | done | rfl), HB1.out⟩
  rw [Bool.or_false] at HN
  by_cases h2 : 2 <= a.length
  ·have d2 : decide ((2 : Int) <= (a.length : Int)) = true := by simp only [decide_eq_true_eq]; omega
   rw [decide_eq_true h2, Bool.true_and] at HN
   generalize hq1 : (a.take 2 == [111, 110]) = q1 at *
   cases q1
   case true =>
    have HE : Hid (r = 0) := by show _ = _; rw [HE0.out, HN.out]; rfl
    go_enter func131, ntmps131
    go_wp2_with fail
    refine (HV.out _).mono ?_
    rintro e w1 ⟨rfl, hb⟩
    have HB1 := qb (qa3 HB0.out hb)
    obtain ⟨⟨y0, y1, y2, y3⟩, -⟩ := qh (qi HX0.out hb)
    have hz1 : w.heap.size < w1.heap.size := Nat.lt_of_lt_of_le hzz hb.size
    clear hb
    go_wp2_with (first | (go_at_call 160; refine qf (HA.out _) ?_))
    go_ret
    exact ⟨qA (by rw [HE.out]; first | done | rfl), HB1.out⟩
   cases q3
   case false =>
    have HE : Hid (r = 2) := by show _ = _; rw [HE0.out, HN.out]; rfl
    go_enter func131, ntmps131
    go_wp2_with fail
    refine (HV.out _).mono ?_
    rintro e w1 ⟨rfl, hb⟩
    have HB1 := qb (qa3 HB0.out hb)
    obtain ⟨⟨y0, y1, y2, y3⟩, -⟩ := qh (qi HX0.out hb)
    have hz1 : w.heap.size < w1.heap.size := Nat.lt_of_lt_of_le hzz hb.size
    clear hb
    go_wp2_with (first | (go_at_call 160; refine qf (HA.out _) ?_))
    go_ret
    exact ⟨qA (by rw [HE.out]; first | done | rfl), HB1.out⟩
   cases z
   ·have HE : Hid (r = 3) := by show _ = _; rw [HE0.out, HN.out]; rfl
    go_enter func131, ntmps131
    go_wp2_with fail
    refine (HV.out _).mono ?_
    rintro e w1 ⟨rfl, hb⟩
    have HB1 := qb (qa3 HB0.out hb)
    obtain ⟨⟨y0, y1, y2, y3⟩, -⟩ := qh (qi HX0.out hb)
    have hz1 : w.heap.size < w1.heap.size := Nat.lt_of_lt_of_le hzz hb.size
    clear hb
    go_wp2_with (first | (go_at_call 160; refine qf (HA.out _) ?_))
    go_ret
    exact ⟨qA (by rw [HE.out]; first | done | rfl), HB1.out⟩
   have HE : Hid (r = 4) := by show _ = _; rw [HE0.out, HN.out]; rfl
   go_enter func131, ntmps131
   go_wp2_with fail
   refine (HV.out _).mono ?_
   rintro e w1 ⟨rfl, hb⟩
   have HB1 := qb (qa3 HB0.out hb)
   obtain ⟨⟨y0, y1, y2, y3⟩, -⟩ := qh (qi HX0.out hb)
   have hz1 : w.heap.size < w1.heap.size := Nat.lt_of_lt_of_le hzz hb.size
   clear hb
   go_wp2_with (first | (go_at_call 160; refine qf (HA.out _) ?_))
   go_ret
   exact ⟨qA (by rw [HE.out]; first | done | rfl), HB1.out⟩
  have d2 : decide ((2 : Int) <= (a.length : Int)) = false := by simp only [decide_eq_false_iff_not]; omega
  rw [decide_eq_false h2, Bool.false_and] at HN
  cases q3
  case false =>
   have HE : Hid (r = 2) := by show _ = _; rw [HE0.out, HN.out]; rfl
   go_enter func131, ntmps131
   go_wp2_with fail
   refine (HV.out _).mono ?_
   rintro e w1 ⟨rfl, hb⟩
   have HB1 := qb (qa3 HB0.out hb)
   obtain ⟨⟨y0, y1, y2, y3⟩, -⟩ := qh (qi HX0.out hb)
   have hz1 : w.heap.size < w1.heap.size := Nat.lt_of_lt_of_le hzz hb.size
   clear hb
   go_wp2_with (first | (go_at_call 160; refine qf (HA.out _) ?_))
   go_ret
   exact ⟨qA (by rw [HE.out]; first | done | rfl), HB1.out⟩
  cases z
  ·have HE : Hid (r = 3) := by show _ = _; rw [HE0.out, HN.out]; rfl
   go_enter func131, ntmps131
   go_wp2_with fail
   refine (HV.out _).mono ?_
   rintro e w1 ⟨rfl, hb⟩
   have HB1 := qb (qa3 HB0.out hb)
   obtain ⟨⟨y0, y1, y2, y3⟩, -⟩ := qh (qi HX0.out hb)
   have hz1 : w.heap.size < w1.heap.size := Nat.lt_of_lt_of_le hzz hb.size
   clear hb
   go_wp2_with (first | (go_at_call 160; refine qf (HA.out _) ?_))
   go_ret
   exact ⟨qA (by rw [HE.out]; first | done | rfl), HB1.out⟩
  have HE : Hid (r = 4) := by show _ = _; rw [HE0.out, HN.out]; rfl
  go_enter func131, ntmps131
  go_wp2_with fail
  refine (HV.out _).mono ?_
  rintro e w1 ⟨rfl, hb⟩
  have HB1 := qb (qa3 HB0.out hb)
  obtain ⟨⟨y0, y1, y2, y3⟩, -⟩ := qh (qi HX0.out hb)
  have hz1 : w.heap.size < w1.heap.size := Nat.lt_of_lt_of_le hzz hb.size
  clear hb
  go_wp2_with (first | (go_at_call 160; refine qf (HA.out _) ?_))
  go_ret
  exact ⟨qA (by rw [HE.out]; first | done | rfl), HB1.out⟩
 have n7 : (m == 7) = false := by simpa using h7
 rw [if_neg (by omega)] at HE0
 have HE : Hid (r = 0) := HE0.out
 clear h0 h6 h7 h12
 go_enter func131, ntmps131
 go_wp2_with fail
 refine (HV.out _).mono ?_
 rintro e w1 ⟨rfl, hb⟩
 have HB1 := qb (qa3 HB0.out hb)
 obtain ⟨⟨y0, y1, y2, y3⟩, -⟩ := qh (qi HX0.out hb)
 have hz1 : w.heap.size < w1.heap.size := Nat.lt_of_lt_of_le hzz hb.size
 clear hb
 go_wp2_with (first | (go_at_call 160; refine qf (HA.out _) ?_))
 go_ret
 exact ⟨qA (by rw [HE.out]; first | done | rfl), HB1.out⟩
theorem ka (m : Int) (t a : Tx) (z : Bool) (w : World) (ht : t.length <= 1000) (ha : a.length <= 1000) :
  Calls Tryz.prog 113 #[stV m t a z] w fun e w' => e = .returned (St.v (St.behind ⟨m, t, a, z⟩)) /\ Below w.heap.size w w' := by
 have HP := qb (fun w => vi m t a z w (by omega) (by omega))
 have HE0 : Hid (St.behind ⟨m, t, a, z⟩ = if St.place ⟨m, t, a, z⟩ = 0 then St.bad else if m = 6 \/ m = 7 then ⟨m, t, a, true⟩ else ⟨m, t, a, z⟩) := rfl
 generalize St.behind ⟨m, t, a, z⟩ = s at *
 generalize St.place ⟨m, t, a, z⟩ = p at *
 by_cases hp : p = 0
 ·subst hp
  have HE : Hid (s = St.bad) := HE0.out
  go_enter func113, ntmps113
  go_wp2_with fail
  refine (HP.out _).mono ?_
  rintro e w1 ⟨rfl, hb⟩
  obtain ⟨hB, g0, g1, hz⟩ := zq hb
  have HB := qb hB
  have H0 := qb g0
  have H1 := qb g1
  obtain ⟨⟨y0, y1, y2, y3⟩, p0, p1, p2, p3⟩ := qh g0
  obtain ⟨⟨z0, z1, z2, z3⟩, x0, x1, x2, x3⟩ := qh g1
  clear hb hB g0 g1
  go_wp2
  exact bodyPost_ret (qp (m := 15) (t := []) (a := []) (z := false) results113 rfl (put4 H1.out)) rfl ⟨by rw [HE.out]; rfl, qq HB.out (by omega) _ _ _ _⟩
 have np : (p == 0) = false := by simpa using hp
 rw [if_neg hp] at HE0
 clear hp
 by_cases h6 : m = 6
 ·subst h6
  have HE : Hid (s = ⟨6, t, a, true⟩) := HE0.out
  go_enter func113, ntmps113
  go_wp2_with fail
  refine (HP.out _).mono ?_
  rintro e w1 ⟨rfl, hb⟩
  obtain ⟨hB, g0, g1, hz⟩ := zq hb
  have HB := qb hB
  have H0 := qb g0
  have H1 := qb g1
  obtain ⟨⟨y0, y1, y2, y3⟩, p0, p1, p2, p3⟩ := qh g0
  obtain ⟨⟨z0, z1, z2, z3⟩, x0, x1, x2, x3⟩ := qh g1
  clear hb hB g0 g1
  go_wp2
  exact bodyPost_ret (qp (m := 6) (t := t) (a := a) (z := true) results113 rfl (put4 ((Below.heap_setCell _ ⟨w.heap.size, 3, none⟩ (.bool true) (w.heap.size + 1) (show w.heap.size + 1 ≠ w.heap.size by omega)).trans H1.out))) rfl ⟨by rw [HE.out], qq (Below.setCell HB.out (p := ⟨w.heap.size, 3, none⟩) (Nat.le_refl _) (.bool true)) (by omega) _ _ _ _⟩
 have n6 : (m == 6) = false := by simpa using h6
 by_cases h7 : m = 7
 ·subst h7
  have HE : Hid (s = ⟨7, t, a, true⟩) := HE0.out
  clear n6
  go_enter func113, ntmps113
  go_wp2_with fail
  refine (HP.out _).mono ?_
  rintro e w1 ⟨rfl, hb⟩
  obtain ⟨hB, g0, g1, hz⟩ := zq hb
  have HB := qb hB
  have H0 := qb g0
  have H1 := qb g1
  obtain ⟨⟨y0, y1, y2, y3⟩, p0, p1, p2, p3⟩ := qh g0
  obtain ⟨⟨z0, z1, z2, z3⟩, x0, x1, x2, x3⟩ := qh g1
  clear hb hB g0 g1
  go_wp2
  exact bodyPost_ret (qp (m := 7) (t := t) (a := a) (z := true) results113 rfl (put4 ((Below.heap_setCell _ ⟨w.heap.size, 3, none⟩ (.bool true) (w.heap.size + 1) (show w.heap.size + 1 ≠ w.heap.size by omega)).trans H1.out))) rfl ⟨by rw [HE.out], qq (Below.setCell HB.out (p := ⟨w.heap.size, 3, none⟩) (Nat.le_refl _) (.bool true)) (by omega) _ _ _ _⟩
 have n7 : (m == 7) = false := by simpa using h7
 have HE : Hid (s = ⟨m, t, a, z⟩) := by show _ = _; rw [HE0.out, if_neg (by omega)]
 clear h6 h7
 go_enter func113, ntmps113
 go_wp2_with fail
 refine (HP.out _).mono ?_
 rintro e w1 ⟨rfl, hb⟩
 obtain ⟨hB, g0, g1, hz⟩ := zq hb
 have HB := qb hB
 have H0 := qb g0
 have H1 := qb g1
 obtain ⟨⟨y0, y1, y2, y3⟩, p0, p1, p2, p3⟩ := qh g0
 obtain ⟨⟨z0, z1, z2, z3⟩, x0, x1, x2, x3⟩ := qh g1
 clear hb hB g0 g1
 go_wp2
 exact bodyPost_ret (qp (m := m) (t := t) (a := a) (z := z) results113 rfl (put4 H1.out)) rfl ⟨by rw [HE.out], qq HB.out (by omega) _ _ _ _⟩
theorem Ke (m : Int) (t a : Tx) (z : Bool) (w : World) :
  Calls Tryz.prog 162 #[stV m t a z] w fun e w' => e = .returned (St.v (if m = 6 \/ m = 7 then ⟨m, t, a, true⟩ else ⟨m, t, a, z⟩)) /\ Below w.heap.size w w' := by
 obtain ⟨s, hs⟩ : ∃ s : St, s = if m = 6 \/ m = 7 then ⟨m, t, a, true⟩ else ⟨m, t, a, z⟩ := ⟨_, rfl⟩
 rw [<- hs]
 by_cases h6 : m = 6
 ·have HE : Hid (s = ⟨m, t, a, true⟩) := by show _ = _; rw [hs, if_pos (.inl h6)]
  have n6 : (m == 6) = true := by simpa using h6
  clear hs h6
  go_enter func162, ntmps162
  go_wp2
  obtain ⟨h1, h2, h3⟩ := qE w (ql m t a true) (ql m t a true) 90 90
  exact bodyPost_ret (qp (m := m) (t := t) (a := a) (z := true) results162 rfl h3) rfl ⟨by rw [HE.out], h1⟩
 have n6 : (m == 6) = false := by simpa using h6
 by_cases h7 : m = 7
 ·have HE : Hid (s = ⟨m, t, a, true⟩) := by show _ = _; rw [hs, if_pos (.inr h7)]
  have n7 : (m == 7) = true := by simpa using h7
  clear hs h6 h7
  go_enter func162, ntmps162
  go_wp2
  obtain ⟨h1, h2, h3⟩ := qE w (ql m t a true) (ql m t a true) 90 90
  exact bodyPost_ret (qp (m := m) (t := t) (a := a) (z := true) results162 rfl h3) rfl ⟨by rw [HE.out], h1⟩
 have n7 : (m == 7) = false := by simpa using h7
 have HE : Hid (s = ⟨m, t, a, z⟩) := by show _ = _; rw [hs, if_neg (by omega)]
 clear hs h6 h7
 go_enter func162, ntmps162
 go_wp2
 obtain ⟨h1, h2, h3⟩ := qE w (ql m t a z) (ql m t a z) 90 90
 exact bodyPost_ret (qp (m := m) (t := t) (a := a) (z := z) results162 rfl h3) rfl ⟨by rw [HE.out], h1⟩
theorem Zv (m : Int) (t a : Tx) (z : Bool) (w : World) (ht : t.length <= 1000) (ha : a.length <= 1000) :
  Calls Tryz.prog 135 #[stV m t a z] w fun e w' => e = .returned (St.v (St.behind ⟨m, t, a, z⟩)) /\ Below w.heap.size w w' := by
 have HP := qb (fun w => ZK m t a z w (by omega) (by omega))
 have HE0 : Hid (St.behind ⟨m, t, a, z⟩ = if St.place ⟨m, t, a, z⟩ = 0 then St.bad else if m = 6 \/ m = 7 then ⟨m, t, a, true⟩ else ⟨m, t, a, z⟩) := rfl
 generalize St.behind ⟨m, t, a, z⟩ = s at *
 generalize St.place ⟨m, t, a, z⟩ = p at *
 by_cases hp : p = 0
 ·subst hp
  have HE : Hid (s = St.bad) := HE0.out
  go_enter func135, ntmps135
  go_wp2_with fail
  refine (HP.out _).mono ?_
  rintro e w1 ⟨rfl, hb⟩
  obtain ⟨hB, g0, g1, hz⟩ := zq hb
  have HB := qb hB
  have H0 := qb g0
  have H1 := qb g1
  obtain ⟨⟨y0, y1, y2, y3⟩, p0, p1, p2, p3⟩ := qh g0
  obtain ⟨⟨z0, z1, z2, z3⟩, x0, x1, x2, x3⟩ := qh g1
  clear hb hB g0 g1
  go_wp2
  exact bodyPost_ret (qp (m := 15) (t := []) (a := []) (z := false) results135 rfl (put4 H1.out)) rfl ⟨by rw [HE.out]; rfl, qq HB.out (by omega) _ _ _ _⟩
 have np : (p == 0) = false := by simpa using hp
 rw [if_neg hp] at HE0
 clear hp
 have HC := qb (fun w => Ke m t a z w)
 rw [<- HE0.out] at HC
 clear HE0
 go_enter func135, ntmps135
 go_wp2_with fail
 refine (HP.out _).mono ?_
 rintro e w1 ⟨rfl, hb⟩
 obtain ⟨hB, g0, g1, hz⟩ := zq hb
 have HB := qb hB
 have H0 := qb g0
 have H1 := qb g1
 obtain ⟨⟨y0, y1, y2, y3⟩, p0, p1, p2, p3⟩ := qh g0
 obtain ⟨⟨z0, z1, z2, z3⟩, x0, x1, x2, x3⟩ := qh g1
 clear hb hB g0 g1
 go_wp2_with fail
 refine (HC.out _).mono ?_
 rintro e w2 ⟨rfl, hb⟩
 have HB2 := qb (qa3 HB.out hb)
 have H2 := qb (qi H1.out hb)
 have hz2 := hb.size
 clear hb z0 z1 z2 z3 x0 x1 x2 x3
 obtain ⟨⟨z0, z1, z2, z3⟩, x0, x1, x2, x3⟩ := qh H2.out
 obtain ⟨sm, st, sa, sz⟩ := s
 go_wp2
 exact bodyPost_ret (qp (m := sm) (t := st) (a := sa) (z := sz) results135 rfl (put4 H2.out)) rfl ⟨rfl, qq HB2.out (by omega) _ _ _ _⟩
theorem qQ {w : World} {b c : Nat} {o : Obj} (v0 v1 v2 v3 : Value) (h : w.heap[c]? = some o) (hne : c ≠ b) :
  ((((w.setCell ⟨b, 0, none⟩ v0).setCell ⟨b, 1, none⟩ v1).setCell ⟨b, 2, none⟩ v2).setCell ⟨b, 3, none⟩ v3).heap[c]? = some o := by
 rw [Below.heap_setCell _ ⟨b, 3, none⟩ _ c hne, Below.heap_setCell _ ⟨b, 2, none⟩ _ c hne, Below.heap_setCell _ ⟨b, 1, none⟩ _ c hne, Below.heap_setCell _ ⟨b, 0, none⟩ _ c hne]
 exact h
theorem xz (m : Int) (t a : Tx) (z : Bool) (l : Tx) (w : World) (ht : t.length <= 100) (ha : a.length <= 100) (hl : l.length <= 1073741824) :
  Calls Tryz.prog 112 #[stV m t a z, sv l] w fun e w' => e = .returned (St.v (St.after ⟨m, t, a, z⟩ l)) /\ Below w.heap.size w w' := by
 have HV := qb (fun w => kO m t a z w (by omega) (by omega))
 have HE0 : Hid (St.after ⟨m, t, a, z⟩ l = if St.valid ⟨m, t, a, z⟩ then l.foldl St.step ⟨m, t, a, z⟩ else St.bad) := rfl
 have HFT : Hid (St.Fit ⟨m, t, a, z⟩) := ⟨ht, ha⟩
 generalize St.after ⟨m, t, a, z⟩ l = s at *
 cases hv : St.valid ⟨m, t, a, z⟩
 ·have HE : Hid (s = St.bad) := by show _ = _; rw [HE0.out, hv]; rfl
  rw [hv] at HV
  clear hv
  go_enter func112, ntmps112
  go_wp2_with fail
  refine (HV.out _).mono ?_
  rintro e w1 ⟨rfl, hb⟩
  obtain ⟨hB, g0, g1, hz⟩ := zq hb
  have HB := qb hB
  have H1 := qb g1
  obtain ⟨⟨z0, z1, z2, z3⟩, x0, x1, x2, x3⟩ := qh g1
  clear hb hB g0 g1
  go_wp2
  exact bodyPost_ret (qp (m := 15) (t := []) (a := []) (z := false) results112 rfl (put4 H1.out)) rfl ⟨by rw [HE.out]; rfl, qq HB.out (by omega) _ _ _ _⟩
 have HE : Hid (s = l.foldl St.step ⟨m, t, a, z⟩) := by show _ = _; rw [HE0.out, hv]; rfl
 rw [hv] at HV
 clear hv HE0
 go_enter func112, ntmps112
 go_wp2_with fail
 refine (HV.out _).mono ?_
 rintro e w1 ⟨rfl, hb⟩
 obtain ⟨hB, g0, g1, hz⟩ := zq hb
 have HB := qb hB
 have H0 := qb g0
 have H1 := qb g1
 clear hb hB g0 g1
 go_wp2
 go_loopw [5] (fun i wr => ∃ k : Nat, k <= l.length /\ i = .int .i64 k /\ wr.heap[w.heap.size]? = some (.cells (ql ((l.take k).foldl St.step ⟨m, t, a, z⟩).mode ((l.take k).foldl St.step ⟨m, t, a, z⟩).tag ((l.take k).foldl St.step ⟨m, t, a, z⟩).attr ((l.take k).foldl St.step ⟨m, t, a, z⟩).seen) 90 (0, 0)) /\ wr.heap[w.heap.size + 1]? = some (.cells qH 90 (0, 0)) /\ Below w.heap.size w wr) (fun i _ => l.length - (intOf i).toNat)
 case atStart => exact ⟨0, Nat.zero_le _, rfl, H0.out, H1.out, HB.out⟩
 obtain ⟨k, hk, rfl, h0, h1, hb⟩ := hrel
 have HB2 := qb hb
 have HX := qb h0
 have HR := qb h1
 have hz2 : w.heap.size + 1 < wr.heap.size := (Array.getElem?_eq_some_iff.1 h1).1
 clear h0 h1 hb
 by_cases hlt : k < l.length
 ·have HS := qb (St.after_take ⟨m, t, a, z⟩ l k hlt)
  have HF := qb (St.fit_fold HFT.out (l.take k))
  generalize (l.take k).foldl St.step ⟨m, t, a, z⟩ = s0 at *
  obtain ⟨sm, st, sa, sz⟩ := s0
  have HC := qb (fun w3 (_ : Below wr.heap.size wr w3) => Vv ⟨sm, st, sa, sz⟩ l[k] w3 HF.out)
  generalize St.step ⟨sm, st, sa, sz⟩ l[k] = s1 at *
  obtain ⟨qm, qt, qa, qz⟩ := s1
  obtain ⟨⟨y0, y1, y2, y3⟩, p0, p1, p2, p3⟩ := qh HX.out
  have hz3 : w.heap.size < wr.heap.size := by omega
  dsimp only at *
  go_upto_region 6 with fail
  refine qU 5 (by kernel_rfl) (by kernel_rfl) (fun _ w => Below (World.heap wr).size wr w) KB (fun i => ([bIs (stV sm st sa sz), bIs (sv l), bIs (.int .i64 k), bIs (.int .u8 (l[k].toNat : Int)), bIs (stV qm qt qa qz)] : List TyB).getD i bAny) ?hWbB1 ?hkeepB1 ?hstepB1 ?hfinbB1
  case hkeepB1 =>
   refine qg (qg (qg (qg (qg qG ?_) ?_) ?_) ?_) ?_
   all_goals exact qj
  case hstepB1 =>
   refine qg (qg (qg (qg (qg qG ?_) ?_) ?_) ?_) ?_
   all_goals (intro o ho m' a w1 hm' hW hb hd K Q hK; obtain rfl := Option.some.inj ho)
   ·(have e0 : a.tmps[2]?.getD undef = .pointer (some ⟨w.heap.size, 0, none⟩) := (by rw [hb 2 (by decide +kernel)]; simp); have hbl := (hW.block _ hz3).trans HX.out; have q0 := cell_of_row w1 _ 0 _ _ _ hbl; have q1 := cell_of_row w1 _ 1 _ _ _ hbl; have q2 := cell_of_row w1 _ 2 _ _ _ hbl; have q3 := cell_of_row w1 _ 3 _ _ _ hbl; go_simp; exact hK _ _ hW (VY _) rfl)
   ·(have e0 : a.tmps[1]?.getD undef = (sv l) := (by rw [hb 1 (by decide +kernel)]; simp); go_simp; exact hK _ _ hW (VY _) rfl)
   ·(have e0 : a.tmps[5]?.getD undef = (.int .i64 k) := (by rw [hb 5 (by decide +kernel)]; simp); go_simp; exact hK _ _ hW (VY _) rfl)
   ·(have e0 := qo (hd 1 (by kernel_rfl) 17 rfl); have e1 := qo (hd 2 (by kernel_rfl) 18 rfl); go_simp; exact hK _ _ hW (VY _) rfl)
   (have e0 := qo (hd 0 (by kernel_rfl) 16 rfl); have e1 := qo (hd 3 (by kernel_rfl) 19 rfl); go_simp; refine (HC.out _ hW).mono ?_; rintro e w2 ⟨rfl, hb2⟩; exact hK _ _ (qa3 hW hb2) hb2 rfl)
  case hWbB1 => exact (Below.refl _ _).drew
  intro vs w3 hW hF
  simp only [qF, hdst, List.getElem?_cons_succ, List.getElem?_cons_zero, Option.bind, List.drop_succ_cons, List.drop_zero, Act.put]
  have h4 : vs 4 = stV qm qt qa qz := hF 4 (by omega)
  rw [h4]
  have HB3 := qb (qa3 HB2.out hW)
  have HX3 := qb (qi HX.out hW)
  have HR3 := qb (qi HR.out hW)
  have hz4 := hW.size
  clear hF h4 hW y0 y1 y2 y3 p0 p1 p2 p3
  obtain ⟨⟨y0, y1, y2, y3⟩, p0, p1, p2, p3⟩ := qh HX3.out
  go_simp
  go_wp2
  go_roundw
  case rel => exact ⟨k + 1, by omega, by go_num, by rw [HS.out]; exact put4 HX3.out, qQ _ _ _ _ HR3.out (by omega), qq HB3.out (Nat.le_refl _) _ _ _ _⟩
  case measure => simp [intOf]; omega
 have hkn : k = l.length := by omega
 subst hkn
 rw [List.take_length, <- HE.out] at HX
 obtain ⟨sm, st, sa, sz⟩ := s
 obtain ⟨⟨y0, y1, y2, y3⟩, p0, p1, p2, p3⟩ := qh HX.out
 obtain ⟨⟨z0, z1, z2, z3⟩, x0, x1, x2, x3⟩ := qh HR.out
 go_wp2
 exact bodyPost_ret (qp (m := sm) (t := st) (a := sa) (z := sz) results112 rfl (put4 HR.out)) rfl ⟨rfl, qq HB2.out (by omega) _ _ _ _⟩
theorem Wi (m : Int) (t a : Tx) (z : Bool) (l : Tx) (w : World) (ht : t.length <= 100) (ha : a.length <= 100) (hl : l.length <= 1073741824) :
  Calls Tryz.prog 134 #[stV m t a z, sv l] w fun e w' => e = .returned (St.v (St.after ⟨m, t, a, z⟩ l)) /\ Below w.heap.size w w' := by
 have HV := qb (fun w => xP m t a z w (by omega) (by omega))
 have HE0 : Hid (St.after ⟨m, t, a, z⟩ l = if St.valid ⟨m, t, a, z⟩ then l.foldl St.step ⟨m, t, a, z⟩ else St.bad) := rfl
 have HFT : Hid (St.Fit ⟨m, t, a, z⟩) := ⟨ht, ha⟩
 generalize St.after ⟨m, t, a, z⟩ l = s at *
 cases hv : St.valid ⟨m, t, a, z⟩
 ·have HE : Hid (s = St.bad) := by show _ = _; rw [HE0.out, hv]; rfl
  rw [hv] at HV
  clear hv
  go_enter func134, ntmps134
  go_wp2_with fail
  refine (HV.out _).mono ?_
  rintro e w1 ⟨rfl, hb⟩
  obtain ⟨hB, g0, g1, hz⟩ := zq hb
  have HB := qb hB
  have H1 := qb g1
  obtain ⟨⟨z0, z1, z2, z3⟩, x0, x1, x2, x3⟩ := qh g1
  clear hb hB g0 g1
  go_wp2
  exact bodyPost_ret (qp (m := 15) (t := []) (a := []) (z := false) results134 rfl (put4 H1.out)) rfl ⟨by rw [HE.out]; rfl, qq HB.out (by omega) _ _ _ _⟩
 have HE : Hid (s = l.foldl St.step ⟨m, t, a, z⟩) := by show _ = _; rw [HE0.out, hv]; rfl
 rw [hv] at HV
 clear hv HE0
 go_enter func134, ntmps134
 go_wp2_with fail
 refine (HV.out _).mono ?_
 rintro e w1 ⟨rfl, hb⟩
 obtain ⟨hB, g0, g1, hz⟩ := zq hb
 have HB := qb hB
 have H0 := qb g0
 have H1 := qb g1
 clear hb hB g0 g1
 go_wp2
 go_loopw [5] (fun i wr => ∃ k : Nat, k <= l.length /\ i = .int .i64 k /\ wr.heap[w.heap.size]? = some (.cells (ql ((l.take k).foldl St.step ⟨m, t, a, z⟩).mode ((l.take k).foldl St.step ⟨m, t, a, z⟩).tag ((l.take k).foldl St.step ⟨m, t, a, z⟩).attr ((l.take k).foldl St.step ⟨m, t, a, z⟩).seen) 90 (0, 0)) /\ wr.heap[w.heap.size + 1]? = some (.cells qH 90 (0, 0)) /\ Below w.heap.size w wr) (fun i _ => l.length - (intOf i).toNat)
 case atStart => exact ⟨0, Nat.zero_le _, rfl, H0.out, H1.out, HB.out⟩
 obtain ⟨k, hk, rfl, h0, h1, hb⟩ := hrel
 have HB2 := qb hb
 have HX := qb h0
 have HR := qb h1
 have hz2 : w.heap.size + 1 < wr.heap.size := (Array.getElem?_eq_some_iff.1 h1).1
 clear h0 h1 hb
 by_cases hlt : k < l.length
 ·have HS := qb (St.after_take ⟨m, t, a, z⟩ l k hlt)
  have HF := qb (St.fit_fold HFT.out (l.take k))
  generalize (l.take k).foldl St.step ⟨m, t, a, z⟩ = s0 at *
  obtain ⟨sm, st, sa, sz⟩ := s0
  have HC := qb (fun w3 (_ : Below wr.heap.size wr w3) => Jm ⟨sm, st, sa, sz⟩ l[k] w3 HF.out)
  generalize St.step ⟨sm, st, sa, sz⟩ l[k] = s1 at *
  obtain ⟨qm, qt, qa, qz⟩ := s1
  obtain ⟨⟨y0, y1, y2, y3⟩, p0, p1, p2, p3⟩ := qh HX.out
  have hz3 : w.heap.size < wr.heap.size := by omega
  dsimp only at *
  go_upto_region 6 with fail
  refine qU 5 (by kernel_rfl) (by kernel_rfl) (fun _ w => Below (World.heap wr).size wr w) KB (fun i => ([bIs (stV sm st sa sz), bIs (sv l), bIs (.int .i64 k), bIs (.int .u8 (l[k].toNat : Int)), bIs (stV qm qt qa qz)] : List TyB).getD i bAny) ?hWbB2 ?hkeepB2 ?hstepB2 ?hfinbB2
  case hkeepB2 =>
   refine qg (qg (qg (qg (qg qG ?_) ?_) ?_) ?_) ?_
   all_goals exact qj
  case hstepB2 =>
   refine qg (qg (qg (qg (qg qG ?_) ?_) ?_) ?_) ?_
   all_goals (intro o ho m' a w1 hm' hW hb hd K Q hK; obtain rfl := Option.some.inj ho)
   ·(have e0 : a.tmps[2]?.getD undef = .pointer (some ⟨w.heap.size, 0, none⟩) := (by rw [hb 2 (by decide +kernel)]; simp); have hbl := (hW.block _ hz3).trans HX.out; have q0 := cell_of_row w1 _ 0 _ _ _ hbl; have q1 := cell_of_row w1 _ 1 _ _ _ hbl; have q2 := cell_of_row w1 _ 2 _ _ _ hbl; have q3 := cell_of_row w1 _ 3 _ _ _ hbl; go_simp; exact hK _ _ hW (VY _) rfl)
   ·(have e0 : a.tmps[1]?.getD undef = (sv l) := (by rw [hb 1 (by decide +kernel)]; simp); go_simp; exact hK _ _ hW (VY _) rfl)
   ·(have e0 : a.tmps[5]?.getD undef = (.int .i64 k) := (by rw [hb 5 (by decide +kernel)]; simp); go_simp; exact hK _ _ hW (VY _) rfl)
   ·(have e0 := qo (hd 1 (by kernel_rfl) 17 rfl); have e1 := qo (hd 2 (by kernel_rfl) 18 rfl); go_simp; exact hK _ _ hW (VY _) rfl)
   (have e0 := qo (hd 0 (by kernel_rfl) 16 rfl); have e1 := qo (hd 3 (by kernel_rfl) 19 rfl); go_simp; refine (HC.out _ hW).mono ?_; rintro e w2 ⟨rfl, hb2⟩; exact hK _ _ (qa3 hW hb2) hb2 rfl)
  case hWbB2 => exact (Below.refl _ _).drew
  intro vs w3 hW hF
  simp only [qF, hdst, List.getElem?_cons_succ, List.getElem?_cons_zero, Option.bind, List.drop_succ_cons, List.drop_zero, Act.put]
  have h4 : vs 4 = stV qm qt qa qz := hF 4 (by omega)
  rw [h4]
  have HB3 := qb (qa3 HB2.out hW)
  have HX3 := qb (qi HX.out hW)
  have HR3 := qb (qi HR.out hW)
  have hz4 := hW.size
  clear hF h4 hW y0 y1 y2 y3 p0 p1 p2 p3
  obtain ⟨⟨y0, y1, y2, y3⟩, p0, p1, p2, p3⟩ := qh HX3.out
  go_simp
  go_wp2
  go_roundw
  case rel => exact ⟨k + 1, by omega, by go_num, by rw [HS.out]; exact put4 HX3.out, qQ _ _ _ _ HR3.out (by omega), qq HB3.out (Nat.le_refl _) _ _ _ _⟩
  case measure => simp [intOf]; omega
 have hkn : k = l.length := by omega
 subst hkn
 rw [List.take_length, <- HE.out] at HX
 obtain ⟨sm, st, sa, sz⟩ := s
 obtain ⟨⟨y0, y1, y2, y3⟩, p0, p1, p2, p3⟩ := qh HX.out
 obtain ⟨⟨z0, z1, z2, z3⟩, x0, x1, x2, x3⟩ := qh HR.out
 go_wp2
 exact bodyPost_ret (qp (m := sm) (t := st) (a := sa) (z := sz) results134 rfl (put4 HR.out)) rfl ⟨rfl, qq HB2.out (by omega) _ _ _ _⟩
end Go.Proofs.YtmboieajfdkllaaGreat
