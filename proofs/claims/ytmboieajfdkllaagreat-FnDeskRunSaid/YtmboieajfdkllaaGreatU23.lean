import Derived.Test.YtmboieajfdkllaaGreatU04
import Derived.RegionTactic
import Derived.Deep.CutBlock
open Go.Proofs.Tryz
namespace Go.Proofs.YtmboieajfdkllaaGreat
open Go.RowKit
def OkL (f : FuncId) (d : Nat) (e : Int) : Prop := ∀ (xs : List Pt) (A : Option Addr) (c : Nat) (w : World), RdP w (All w) A xs -> xs.length + Pt.sizes xs <= 1048576 -> Hm w →
  Calls Tryz.prog f #[.slice A xs.length c, .int .i64 e] w fun e w' => e = .returned (.bool (Pt.oks xs d false)) /\ Below w.heap.size w w'
set_option maxRecDepth 20000 in
set_option maxHeartbeats 8000000 in
theorem Qk (d : Nat) (e : Int) (he : e = 3 - (d : Int)) (hd : d <= 3) (ih : ∀ d', d = d' + 1 -> OkL 125 d' (e + 1)) : OkL 125 d e := by
 intro xs A c w hx hsz hm
 have HX := qb hx
 have HSZ := qb hsz
 have HM := qb hm
 have IH := qb ih
 have HEE := qb he
 have hxl : xs.length <= 1048576 := by omega
 have he0 : 0 <= e := by omega
 have he3 : e <= 3 := by omega
 clear hx hsz hm ih he
 go_enter func125, ntmps125
 go_wp2
 go_loopw [10] (fun i wr => ∃ (j : Nat), j <= xs.length /\ i = .int .i64 j /\ Pt.oks (xs.drop j) d (Pt.pvAt xs j) = Pt.oks xs d false /\ Below w.heap.size w wr) (fun i _ => xs.length - (intOf i).toNat)
 case atStart => exact ⟨0, Nat.zero_le _, rfl, rfl, Below.refl _ _⟩
 obtain ⟨j, hj, rfl, hsm, hb⟩ := hrel
 have HB := qb hb
 by_cases hlt : j < xs.length
 ·obtain ⟨b1, o1, rfl, hb1, kd, tt, nn, us, vs, Ap, cp, Ao, co, hxj, g1, g2, g3, g4, c0, c1, c2, c3, c4⟩ := (HX.out.now hb).at2 hlt
  have hst := Pt.oks_step hsm hlt
  rw [hxj] at hst
  have HST := qb hst
  have hmem := Pt.size_mem (List.getElem_mem hlt)
  rw [hxj] at hmem
  simp only [Pt.size] at hmem
  have hsz := HSZ.out
  have htt : tt.length <= 1048576 := by omega
  have hnn : nn.length <= 1048576 := by omega
  have HUS : Hid (us.length + Pt.sizes us <= 1048576) := by show _ <= _; omega
  have HVS : Hid (vs.length + Pt.sizes vs <= 1048576) := by show _ <= _; omega
  have hus : us.length <= 1048576 := by omega
  have hvs : vs.length <= 1048576 := by omega
  have HO1 : Hid (Pt.ok (.mk kd tt nn us vs) d = if kd = 1 then zA tt && (nn == [] && (us.isEmpty && vs.isEmpty)) else if kd = 2 then qJ nn && (!zY nn && (tt == [] && (us.isEmpty && vs.isEmpty))) else if kd = 3 \/ kd = 4 then qJ nn && (tt == [] && (!(decide (kd = 4) && !vs.isEmpty) && (decide (d ≠ 0) && (Pt.oks us (d - 1) false && Pt.oks vs (d - 1) false)))) else false) := by show _ = _; rw [Pt.ok]
  have HA1 := qb ((Below.refl wr.heap.size wr).alloc (Nat.le_refl _) (.cells (qD kd tt nn Ap us.length cp Ao vs.length co) 115))
  have HBB := qb (qa3 HB.out HA1.out)
  have HXB0 := qb (HX.out.now HBB.out)
  have HU := qb (g3.now HA1.out)
  have HV := qb (g4.now HA1.out)
  have HMB := qb (HM.out.below HBB.out)
  have HXB := qb (heap_alloc_new wr (.cells (qD kd tt nn Ap us.length cp Ao vs.length co) 115))
  have hsz1 : wr.heap.size < (wr.alloc (.cells (qD kd tt nn Ap us.length cp Ao vs.length co) 115)).heap.size := by simp
  clear hsm hb hst hmem hsz g1 g2 g3 g4 hxj
  go_upto_region 4 with fail
  generalize wr.alloc (.cells (qD kd tt nn Ap us.length cp Ao vs.length co) 115) = wb at *
  obtain ⟨⟨f0, f1, f2, f3, f4⟩, -⟩ := qI HXB.out
  clear c0 c1 c2 c3 c4
  by_cases hk1 : kd = 1
  ·subst hk1
   rw [if_pos rfl] at HO1
   as_aux_lemma =>
    go_upto_region 8 with fail
    obtain ⟨q0, hq0⟩ : ∃ q, q = zx tt := ⟨_, rfl⟩
    obtain ⟨q1, hq1⟩ : ∃ q, q = has2 123 tt := ⟨_, rfl⟩
    obtain ⟨q2, hq2⟩ : ∃ q, q = has2 125 tt := ⟨_, rfl⟩
    have HTX0 : Hid (zA tt = (q0 && (!(tt == []) && (!(q1 || q2) && (!zE (tt.headD 0) && !zE (tt.getLastD 0)))))) := by show _ = _; rw [hq0, hq1, hq2, <- yF]; rfl
    have HTV := qb (fun w => Zq tt (by unfold maxLen; omega) w)
    have HC1 := qb (Zl tt 123 htt wb HMB.out)
    have HC2 := qb (Zl tt 125 htt wb HMB.out)
    rw [<- hq0] at HTV
    rw [<- hq1] at HC1
    rw [<- hq2] at HC2
    clear hq0 hq1 hq2
    generalize zA tt = q at *
    go_cut [53] (fun t wx => t = .bool (!q) /\ wx = wb)
    case first =>
     have HTX := HTX0
     go_wp2_with fail
     refine (HTV.out _).mono ?_
     rintro e w2 ⟨rfl, rfl⟩
     cases q0
     ·
      go_wp2
      go_meet
      case rel => exact ⟨by rw [HTX.out]; rfl, rfl⟩
     rw [Bool.true_and] at HTX
     by_cases ht0 : tt = []
     ·have hz : ((tt.length : Int) == 0) = true := by rw [ht0]; rfl
      rw [show (tt == []) = true by rw [ht0]; rfl] at HTX
      clear ht0
      go_wp2
      go_meet
      case rel => exact ⟨by rw [HTX.out]; rfl, rfl⟩
     have hpos := List.length_pos_iff.2 ht0
     have hz : ((tt.length : Int) == 0) = false := by simp; omega
     have ha : tt.headD 0 = tt[0] := (xU ht0).1
     have hb : tt.getLastD 0 = tt[tt.length - 1] := (xU ht0).2
     rw [show (tt == []) = false by simpa using ht0, Bool.not_false, Bool.true_and, ha, hb] at HTX
     clear ht0 ha hb
     go_wp2_with fail
     refine HC1.out.mono ?_
     rintro e w2 ⟨rfl, rfl⟩
     cases q1
     case true =>
      go_wp2
      go_meet
      case rel => exact ⟨by rw [HTX.out]; rfl, rfl⟩
     rw [Bool.false_or] at HTX
     go_wp2_with fail
     refine HC2.out.mono ?_
     rintro e w2 ⟨rfl, rfl⟩
     cases q2
     case true =>
      go_wp2
      go_meet
      case rel => exact ⟨by rw [HTX.out]; rfl, rfl⟩
     rw [Bool.not_false, Bool.true_and] at HTX
     have hi1 : ((tt.length : Int) - 1).toNat = tt.length - 1 := by omega
     have hi2 : (0 : Int) <= (tt.length : Int) - 1 := by omega
     have hlt1 : tt.length - 1 < tt.length := by omega
     have HB1 := qb (fun w => Zk (tt[0]) w)
     have HB2 := qb (fun w => Zk (tt[tt.length - 1]) w)
     generalize zE (tt[0]) = e1 at *
     generalize zE (tt[tt.length - 1]) = e2 at *
     go_wp2_with fail
     refine (HB1.out _).mono ?_
     rintro e w2 ⟨rfl, rfl⟩
     cases e1
     case true =>
      go_wp2
      go_meet
      case rel => exact ⟨by rw [HTX.out]; rfl, rfl⟩
     rw [Bool.not_false, Bool.true_and] at HTX
     go_wp2_with fail
     refine (HB2.out _).mono ?_
     rintro e w2 ⟨rfl, rfl⟩
     cases e2
     all_goals (go_wp2; go_meet; (case rel => exact ⟨by rw [HTX.out]; rfl, rfl⟩))
    obtain ⟨rfl, rfl⟩ := hcut
    clear HTX0 HTV HC1 HC2
    cases q
    ·have HE : Hid (Pt.oks xs d false = false) := by show _ = _; rw [<- HST.out, HO1.out]; rfl
     go_wp2
     go_ret
     exact ⟨qw HE.out.symm, HBB.out⟩
    rw [Bool.true_and] at HO1
    rw [HO1.out] at HST
    obtain ⟨pv, hpv⟩ : ∃ pv, pv = Pt.pvAt xs j := ⟨_, rfl⟩
    rw [<- hpv] at HST
    go_upto_region 10 with fail
    rename World => wb
    go_cut [79] (fun t wx => ∃ bb, t = .bool bb /\ bb = (pv || !(nn == [] && (us.isEmpty && vs.isEmpty))) /\ wx = wb)
    case first =>
     cases j with
     | zero =>
      obtain rfl : pv = false := hpv
      by_cases hn0 : nn = []
      case neg =>
       have hnb : (nn == []) = false := by simpa using hn0
       have hnb2 : List.isEmpty nn = false := by simpa using hn0
       clear hn0
       go_wp2
       go_meet
       case rel => exact ⟨_, rfl, by rw [hnb]; rfl, rfl⟩
      subst hn0
      by_cases hz : us.length + vs.length = 0
      ·obtain rfl := List.eq_nil_of_length_eq_zero (show us.length = 0 by omega)
       obtain rfl := List.eq_nil_of_length_eq_zero (show vs.length = 0 by omega)
       clear hz
       go_wp2
       go_meet
       case rel => exact ⟨_, rfl, rfl, rfl⟩
      have hzd : decide ((0 : Int) < (us.length : Int) + (vs.length : Int)) = true := by simp; omega
      have hz2 : (us.isEmpty && vs.isEmpty) = false := by
       cases us with
       | cons => rfl
       | nil => cases vs with
        | cons => rfl
        | nil => exact absurd rfl hz
      clear hz
      go_wp2
      go_meet
      case rel => exact ⟨_, rfl, by rw [hz2]; rfl, rfl⟩
     | succ j' =>
      obtain ⟨b2, o2, hA2, hb2, kd2, tt2, nn2, us2, vs2, Ap2, cp2, Ao2, co2, hxj2, k1, k2, k3, k4, d0, d1, d2, d3, d4⟩ := (HXB0.out).at2 (show j' < xs.length by omega)
      injection hA2 with hA2
      injection hA2 with hA2a hA2b
      subst hA2a hA2b
      rw [Zj (show j' < xs.length by omega) hxj2] at hpv
      clear hxj2 k1 k2 k3 k4 d1 d2 d3 d4
      have hjj : (((j' + 1 : Nat) : Int) - 1).toNat = j' := by omega
      have hjp : (0 : Int) < ((j' + 1 : Nat) : Int) := by omega
      cases hk2 : (kd2 == 1)
      ·rw [hk2] at hpv
       subst hpv
       by_cases hn0 : nn = []
       case neg =>
        have hnb : (nn == []) = false := by simpa using hn0
        have hnb2 : List.isEmpty nn = false := by simpa using hn0
        clear hn0
        go_wp2
        go_meet
        case rel => exact ⟨_, rfl, by rw [hnb]; rfl, rfl⟩
       subst hn0
       by_cases hz : us.length + vs.length = 0
       ·obtain rfl := List.eq_nil_of_length_eq_zero (show us.length = 0 by omega)
        obtain rfl := List.eq_nil_of_length_eq_zero (show vs.length = 0 by omega)
        clear hz
        go_wp2
        go_meet
        case rel => exact ⟨_, rfl, rfl, rfl⟩
       have hzd : decide ((0 : Int) < (us.length : Int) + (vs.length : Int)) = true := by simp; omega
       have hz2 : (us.isEmpty && vs.isEmpty) = false := by
        cases us with
        | cons => rfl
        | nil => cases vs with
         | cons => rfl
         | nil => exact absurd rfl hz
       clear hz
       go_wp2
       go_meet
       case rel => exact ⟨_, rfl, by rw [hz2]; rfl, rfl⟩
      rw [hk2] at hpv
      subst hpv
      go_wp2
      go_meet
      case rel => exact ⟨_, rfl, rfl, rfl⟩
    obtain ⟨bb, rfl, hbb, rfl⟩ := hcut
    rw [show decide (Pt.kind (.mk 1 tt nn us vs) = 1) = true from rfl, Bool.and_true] at HST
    generalize (nn == [] && (us.isEmpty && vs.isEmpty)) = g at *
    cases pv with
    | true =>
     obtain rfl : bb = true := hbb
     have HE : Hid (Pt.oks xs d false = false) := by show _ = _; rw [<- HST.out, Bool.not_true, Bool.false_and, Bool.and_false]
     go_wp2
     go_ret
     exact ⟨qw HE.out.symm, HBB.out⟩
    | false =>
     cases g with
     | false =>
      obtain rfl : bb = true := hbb
      have HE : Hid (Pt.oks xs d false = false) := by show _ = _; rw [<- HST.out, Bool.false_and]
      go_wp2
      go_ret
      exact ⟨qw HE.out.symm, HBB.out⟩
     | true =>
      obtain rfl : bb = false := hbb
      rw [Bool.true_and, Bool.not_false, Bool.true_and] at HST
      go_wp2
      go_roundw
      case rel => first | exact ⟨j + 1, by omega, by go_num, HST.out, HBB.out⟩ | ((repeat apply Exists.intro); exact ⟨⟨j + 1, by omega, by go_num, HST.out, HBB.out⟩, rfl⟩)
      case measure => simp [intOf]; omega
  have n1 : (kd == 1) = false := by simpa using hk1
  by_cases hk2 : kd = 2
  ·subst hk2
   rw [if_neg (by decide), if_pos rfl] at HO1
   as_aux_lemma =>
    go_upto_region 13 with fail
    obtain ⟨q0, hq0⟩ : ∃ q, q = qJ nn := ⟨_, rfl⟩
    have HNV := qb (fun w => jR nn (by unfold maxLen; omega) w)
    rw [<- hq0] at HNV
    have HG0 : Hid ((qJ nn && (!zY nn && (tt == [] && (us.isEmpty && vs.isEmpty)))) = (q0 && (!(nn == [105, 102] || (nn == [101, 97, 99, 104] || (nn == [101, 108, 115, 101] || nn == [101, 110, 100]))) && (tt == [] && (us.isEmpty && vs.isEmpty))))) := by show _ = _; rw [hq0]; rfl
    generalize (qJ nn && (!zY nn && (tt == [] && (us.isEmpty && vs.isEmpty)))) = g at *
    clear hq0
    go_cut [120] (fun t wx => t = .bool (!g) /\ wx = wb)
    case first =>
     have HG := HG0
     go_wp2_with fail
     refine (HNV.out _).mono ?_
     rintro e w2 ⟨rfl, rfl⟩
     cases q0
     ·
      go_wp2
      go_meet
      case rel => exact ⟨by rw [HG.out]; rfl, rfl⟩
     rw [Bool.true_and] at HG
     cases e1 : (nn == [105, 102])
     case true =>
      rw [e1, Bool.true_or] at HG
      go_wp2
      go_meet
      case rel => exact ⟨by rw [HG.out]; rfl, rfl⟩
     cases e2 : (nn == [101, 97, 99, 104])
     case true =>
      rw [e1, e2, Bool.true_or] at HG
      go_wp2
      go_meet
      case rel => exact ⟨by rw [HG.out]; rfl, rfl⟩
     cases e3 : (nn == [101, 108, 115, 101])
     case true =>
      rw [e1, e2, e3, Bool.true_or] at HG
      go_wp2
      go_meet
      case rel => exact ⟨by rw [HG.out]; rfl, rfl⟩
     cases e4 : (nn == [101, 110, 100])
     case true =>
      rw [e1, e2, e3, e4] at HG
      go_wp2
      go_meet
      case rel => exact ⟨by rw [HG.out]; rfl, rfl⟩
     rw [e1, e2, e3, e4] at HG
     by_cases hn0 : tt = []
     case neg =>
      have hnb : (tt == []) = false := by simpa using hn0
      have hnb2 : List.isEmpty tt = false := by simpa using hn0
      rw [hnb] at HG
      clear hn0
      go_wp2
      go_meet
      case rel => exact ⟨by rw [HG.out]; rfl, rfl⟩
     subst hn0
     by_cases hz : us.length + vs.length = 0
     ·obtain rfl := List.eq_nil_of_length_eq_zero (show us.length = 0 by omega)
      obtain rfl := List.eq_nil_of_length_eq_zero (show vs.length = 0 by omega)
      clear hz
      go_wp2
      go_meet
      case rel => exact ⟨by rw [HG.out]; rfl, rfl⟩
     have hzd : decide ((0 : Int) < (us.length : Int) + (vs.length : Int)) = true := by simp; omega
     have hz2 : (us.isEmpty && vs.isEmpty) = false := by
      cases us with
      | cons => rfl
      | nil => cases vs with
       | cons => rfl
       | nil => exact absurd rfl hz
     clear hz
     rw [hz2] at HG
     go_wp2
     go_meet
     case rel => exact ⟨by rw [HG.out]; rfl, rfl⟩
    obtain ⟨rfl, rfl⟩ := hcut
    clear HG0 HNV
    rw [HO1.out] at HST
    cases g
    ·have HE : Hid (Pt.oks xs d false = false) := by show _ = _; rw [<- HST.out, Bool.false_and]
     go_wp2
     go_ret
     exact ⟨qw HE.out.symm, HBB.out⟩
    rw [show decide (Pt.kind (.mk 2 tt nn us vs) = 1) = false from rfl, Bool.and_false, Bool.not_false, Bool.true_and, Bool.true_and] at HST
    go_wp2
    go_roundw
    case rel => first | exact ⟨j + 1, by omega, by go_num, HST.out, HBB.out⟩ | ((repeat apply Exists.intro); exact ⟨⟨j + 1, by omega, by go_num, HST.out, HBB.out⟩, rfl⟩)
    case measure => simp [intOf]; omega
  have n2 : (kd == 2) = false := by simpa using hk2
  by_cases hk3 : kd = 3
  ·subst hk3
   as_aux_lemma =>
    rw [if_neg (by decide), if_neg (by decide), if_pos (by decide)] at HO1
    go_upto_region 17 with fail
    obtain ⟨q0, hq0⟩ : ∃ q, q = qJ nn := ⟨_, rfl⟩
    have HNV := qb (fun w => jR nn (by unfold maxLen; omega) w)
    rw [<- hq0] at HNV
    have HG0 : Hid ((qJ nn && (tt == [] && (!(decide ((3 : Int) = 4) && !vs.isEmpty) && (decide (d ≠ 0) && (Pt.oks us (d - 1) false && Pt.oks vs (d - 1) false))))) = (q0 && (tt == [] && (!(false && !vs.isEmpty) && (decide (d ≠ 0) && (Pt.oks us (d - 1) false && Pt.oks vs (d - 1) false)))))) := by show _ = _; rw [hq0]; rfl
    generalize (qJ nn && (tt == [] && (!(decide ((3 : Int) = 4) && !vs.isEmpty) && (decide (d ≠ 0) && (Pt.oks us (d - 1) false && Pt.oks vs (d - 1) false))))) = g at *
    clear hq0
    go_cut [163] (fun t wx => t = .bool (!g) /\ Below wb.heap.size wb wx)
    case first =>
     have HG := HG0
     go_wp2_with fail
     refine (HNV.out _).mono ?_
     rintro e9 w2 ⟨rfl, rfl⟩
     cases q0
     ·
      go_wp2
      go_meet
      case rel => exact ⟨by rw [HG.out]; rfl, Below.refl _ _⟩
     rw [Bool.true_and] at HG
     by_cases hn0 : tt = []
     case neg =>
      have hnb : (tt == []) = false := by simpa using hn0
      have hnb2 : List.isEmpty tt = false := by simpa using hn0
      rw [hnb] at HG
      clear hn0
      go_wp2
      go_meet
      case rel => exact ⟨by rw [HG.out]; rfl, Below.refl _ _⟩
     subst hn0
     rw [show (([] : Tx) == []) = true from rfl, Bool.true_and] at HG
     rw [Bool.false_and, Bool.not_false, Bool.true_and] at HG
     by_cases hd0 : d = 0
     ·have he9 : decide ((3 : Int) <= e) = true := by have := HEE.out; simp; omega
      rw [show decide (d ≠ 0) = false by simp [hd0]] at HG
      clear hd0
      go_wp2
      go_meet
      case rel => exact ⟨by rw [HG.out]; rfl, Below.refl _ _⟩
     obtain ⟨d', rfl⟩ : ∃ d', d = d' + 1 := ⟨d - 1, by omega⟩
     have he9 : decide ((3 : Int) <= e) = false := by have := HEE.out; simp; omega
     rw [show decide (d' + 1 ≠ 0) = true by simp, Bool.true_and, Nat.add_sub_cancel] at HG
     have HR1 := qb (IH.out d' rfl us Ap cp wb HU.out HUS.out HMB.out)
     have HR2 := qb (fun w2 (hb : Below wb.heap.size wb w2) => IH.out d' rfl vs Ao co w2 (HV.out.now hb) HVS.out (HMB.out.below hb))
     generalize Pt.oks us d' false = r1 at *
     generalize Pt.oks vs d' false = r2 at *
     clear hd0
     go_wp2_with fail
     refine HR1.out.mono ?_
     rintro e9 w2 ⟨rfl, hb⟩
     have HB2 := qb hb
     obtain ⟨⟨y0, y1, y2, y3, y4⟩, -⟩ := qI (qi HXB.out hb)
     have HR3 := qb (HR2.out w2 hb)
     clear hb
     cases r1
     ·
      go_wp2
      go_meet
      case rel => exact ⟨by rw [HG.out]; rfl, HB2.out⟩
     rw [Bool.true_and] at HG
     go_wp2_with fail
     refine HR3.out.mono ?_
     rintro e9 w3 ⟨rfl, hb⟩
     have HB3 := qb (qa3 HB2.out hb)
     clear hb
     cases r2
     ·
      go_wp2
      go_meet
      case rel => exact ⟨by rw [HG.out]; rfl, HB3.out⟩
     go_wp2
     go_meet
     case rel => exact ⟨by rw [HG.out]; rfl, HB3.out⟩
    obtain ⟨rfl, hb⟩ := hcut
    have HB9 := qb (qa3 HBB.out hb)
    clear HG0 HNV hb f0 f1 f2 f3 f4
    rw [HO1.out] at HST
    cases g
    ·have HE : Hid (Pt.oks xs d false = false) := by show _ = _; rw [<- HST.out, Bool.false_and]
     go_wp2
     go_ret
     exact ⟨qw HE.out.symm, HB9.out⟩
    rw [show decide (Pt.kind (.mk 3 tt nn us vs) = 1) = false from rfl, Bool.and_false, Bool.not_false, Bool.true_and, Bool.true_and] at HST
    go_wp2
    go_roundw
    case rel => first | exact ⟨j + 1, by omega, by go_num, HST.out, HB9.out⟩ | ((repeat apply Exists.intro); exact ⟨⟨j + 1, by omega, by go_num, HST.out, HB9.out⟩, rfl⟩)
    case measure => simp [intOf]; omega
  have n3 : (kd == 3) = false := by simpa using hk3
  by_cases hk4 : kd = 4
  ·subst hk4
   as_aux_lemma =>
    rw [if_neg (by decide), if_neg (by decide), if_pos (by decide)] at HO1
    go_upto_region 17 with fail
    obtain ⟨q0, hq0⟩ : ∃ q, q = qJ nn := ⟨_, rfl⟩
    have HNV := qb (fun w => jR nn (by unfold maxLen; omega) w)
    rw [<- hq0] at HNV
    have HG0 : Hid ((qJ nn && (tt == [] && (!(decide ((4 : Int) = 4) && !vs.isEmpty) && (decide (d ≠ 0) && (Pt.oks us (d - 1) false && Pt.oks vs (d - 1) false))))) = (q0 && (tt == [] && (!(true && !vs.isEmpty) && (decide (d ≠ 0) && (Pt.oks us (d - 1) false && Pt.oks vs (d - 1) false)))))) := by show _ = _; rw [hq0]; rfl
    generalize (qJ nn && (tt == [] && (!(decide ((4 : Int) = 4) && !vs.isEmpty) && (decide (d ≠ 0) && (Pt.oks us (d - 1) false && Pt.oks vs (d - 1) false))))) = g at *
    clear hq0
    go_cut [163] (fun t wx => t = .bool (!g) /\ Below wb.heap.size wb wx)
    case first =>
     have HG := HG0
     go_wp2_with fail
     refine (HNV.out _).mono ?_
     rintro e9 w2 ⟨rfl, rfl⟩
     cases q0
     ·
      go_wp2
      go_meet
      case rel => exact ⟨by rw [HG.out]; rfl, Below.refl _ _⟩
     rw [Bool.true_and] at HG
     by_cases hn0 : tt = []
     case neg =>
      have hnb : (tt == []) = false := by simpa using hn0
      have hnb2 : List.isEmpty tt = false := by simpa using hn0
      rw [hnb] at HG
      clear hn0
      go_wp2
      go_meet
      case rel => exact ⟨by rw [HG.out]; rfl, Below.refl _ _⟩
     subst hn0
     rw [show (([] : Tx) == []) = true from rfl, Bool.true_and] at HG
     by_cases hv0 : vs = []
     case neg =>
      have hvl : (0 < vs.length) = True := eq_true (List.length_pos_iff.2 hv0)
      rw [show vs.isEmpty = false by simpa using hv0] at HG
      clear hv0
      go_wp2
      go_meet
      case rel => exact ⟨by rw [HG.out]; rfl, Below.refl _ _⟩
     subst hv0
     rw [show (!(true && !([] : List Pt).isEmpty)) = true from rfl, Bool.true_and] at HG
     by_cases hd0 : d = 0
     ·have he9 : decide ((3 : Int) <= e) = true := by have := HEE.out; simp; omega
      rw [show decide (d ≠ 0) = false by simp [hd0]] at HG
      clear hd0
      go_wp2
      go_meet
      case rel => exact ⟨by rw [HG.out]; rfl, Below.refl _ _⟩
     obtain ⟨d', rfl⟩ : ∃ d', d = d' + 1 := ⟨d - 1, by omega⟩
     have he9 : decide ((3 : Int) <= e) = false := by have := HEE.out; simp; omega
     rw [show decide (d' + 1 ≠ 0) = true by simp, Bool.true_and, Nat.add_sub_cancel] at HG
     have HR1 := qb (IH.out d' rfl us Ap cp wb HU.out HUS.out HMB.out)
     have HR2 : Hid (∀ w2, Below wb.heap.size wb w2 -> Calls Tryz.prog 125 #[.slice Ao 0 co, .int .i64 (e + 1)] w2 fun e9 w' => e9 = .returned (.bool (Pt.oks [] d' false)) /\ Below w2.heap.size w2 w') := fun w2 hb => IH.out d' rfl [] Ao co w2 (HV.out.now hb) HVS.out (HMB.out.below hb)
     generalize Pt.oks us d' false = r1 at *
     generalize Pt.oks [] d' false = r2 at *
     clear hd0
     go_wp2_with fail
     refine HR1.out.mono ?_
     rintro e9 w2 ⟨rfl, hb⟩
     have HB2 := qb hb
     obtain ⟨⟨y0, y1, y2, y3, y4⟩, -⟩ := qI (qi HXB.out hb)
     have HR3 := qb (HR2.out w2 hb)
     clear hb
     cases r1
     ·
      go_wp2
      go_meet
      case rel => exact ⟨by rw [HG.out]; rfl, HB2.out⟩
     rw [Bool.true_and] at HG
     go_wp2_with fail
     refine HR3.out.mono ?_
     rintro e9 w3 ⟨rfl, hb⟩
     have HB3 := qb (qa3 HB2.out hb)
     clear hb
     cases r2
     ·
      go_wp2
      go_meet
      case rel => exact ⟨by rw [HG.out]; rfl, HB3.out⟩
     go_wp2
     go_meet
     case rel => exact ⟨by rw [HG.out]; rfl, HB3.out⟩
    obtain ⟨rfl, hb⟩ := hcut
    have HB9 := qb (qa3 HBB.out hb)
    clear HG0 HNV hb f0 f1 f2 f3 f4
    rw [HO1.out] at HST
    cases g
    ·have HE : Hid (Pt.oks xs d false = false) := by show _ = _; rw [<- HST.out, Bool.false_and]
     go_wp2
     go_ret
     exact ⟨qw HE.out.symm, HB9.out⟩
    rw [show decide (Pt.kind (.mk 4 tt nn us vs) = 1) = false from rfl, Bool.and_false, Bool.not_false, Bool.true_and, Bool.true_and] at HST
    go_wp2
    go_roundw
    case rel => first | exact ⟨j + 1, by omega, by go_num, HST.out, HB9.out⟩ | ((repeat apply Exists.intro); exact ⟨⟨j + 1, by omega, by go_num, HST.out, HB9.out⟩, rfl⟩)
    case measure => simp [intOf]; omega
  have n4 : (kd == 4) = false := by simpa using hk4
  rw [if_neg hk1, if_neg hk2, if_neg (by rintro (h | h) <;> first | exact hk3 h | exact hk4 h)] at HO1
  have HE : Hid (Pt.oks xs d false = false) := by show _ = _; rw [<- HST.out, HO1.out]; rfl
  clear hk1 hk2 hk3 hk4
  go_wp2
  go_ret
  exact ⟨qw HE.out.symm, HBB.out⟩
 have HE := qb (Pt.oks_end hsm hlt)
 go_wp2
 go_ret
 exact ⟨qw HE.out, HB.out⟩
theorem Vb (d : Nat) : ∀ (e : Int), e = 3 - (d : Int) -> d <= 3 -> OkL 125 d e := by
 induction d with
 | zero => exact fun e he hd => Qk 0 e he hd (fun d' h => by cases h)
 | succ d ih => exact fun e he hd => Qk (d + 1) e he hd (fun d' h => by injection h with h; subst h; exact ih _ (by omega) (by omega))
end Go.Proofs.YtmboieajfdkllaaGreat
