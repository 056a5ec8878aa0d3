import Derived.Test.YtmboieajfdkllaaGreatU04
import Derived.RegionTactic
import Derived.Deep.CutBlock
open Go.Proofs.Tryz
namespace Go.Proofs.YtmboieajfdkllaaGreat
open Go.RowKit
def jT (t : Tx) : Bool := !(t == []) && (zE (t.headD 0) || zE (t.getLastD 0))
theorem Kb (t : Tx) : zA t = (zx t && (!(t == []) && (!two t && !jT t))) := by
 unfold zA jT
 cases (t == []) <;> cases zE (t.headD 0) <;> cases zE (t.getLastD 0) <;> simp
theorem Kc {t : Tx} (h : t ≠ []) : jT t = (t[0]'(List.length_pos_iff.2 h) == 123 || (t[t.length - 1]'(by have := List.length_pos_iff.2 h; omega) == 123 || (t[0]'(List.length_pos_iff.2 h) == 125 || t[t.length - 1]'(by have := List.length_pos_iff.2 h; omega) == 125))) := by
 unfold jT
 rw [(xU h).1, (xU h).2, show (t == []) = false by simpa using h, Bool.not_false, Bool.true_and]
 unfold zE
 have key : ∀ a b c d : Bool, ((a || b) || (c || d)) = (a || (c || (b || d))) := by decide
 exact key _ _ _ _
theorem xY {b c : UInt8} (h : (b == c) = false) : ((b.toNat : Int) == (c.toNat : Int)) = false := by
 rw [beq_eq_false_iff_ne] at *
 intro e
 exact h (UInt8.toNat_inj.1 (by omega))
theorem xZ {b c : UInt8} (h : (b == c) = true) : ((b.toNat : Int) == (c.toNat : Int)) = true := by
 have := eq_of_beq h
 subst this
 simp
def OkS (d : Nat) : Prop := ∀ (xs : List Pt) (A : Option Addr) (c : Nat) (w : World), RdP w (All w) A xs -> xs.length + Pt.sizes xs <= 1048576 →
  Calls Tryz.prog 105 #[.slice A xs.length c, .int .i64 (d : Int)] w fun e w' => e = .returned (.bool (Pt.oks xs d false)) /\ Below w.heap.size w w'
set_option maxRecDepth 20000 in
set_option maxHeartbeats 8000000 in
theorem Zu (d : Nat) (hd : d <= 3) (ih : ∀ d', d = d' + 1 -> OkS d') : OkS d := by
 intro xs A c w hx hsz
 have HX := qb hx
 have HSZ := qb hsz
 have IH : Hid (∀ d', d' + 1 = d -> ∀ (xs : List Pt) (A : Option Addr) (c : Nat) (w : World), RdP w (All w) A xs -> xs.length + Pt.sizes xs <= 1048576 →
  Calls Tryz.prog 105 #[.slice A xs.length c, .int .i64 ((d : Int) - 1)] w fun e w' => e = .returned (.bool (Pt.oks xs d' false)) /\ Below w.heap.size w w') := fun d' e xs A c w h1 h2 => by
  have := ih d' e.symm xs A c w h1 h2
  rw [show (d : Int) - 1 = (d' : Int) by omega]
  exact this
 have hxl : xs.length <= 1048576 := by omega
 clear hx hsz ih
 go_enter func105, ntmps105
 go_wp2
 go_loopw [5] (fun i wr => ∃ (j : Nat), j <= xs.length /\ i = .int .i64 j /\ Pt.oks (xs.drop j) d (Pt.pvAt xs j) = Pt.oks xs d false /\ Below w.heap.size w wr) (fun i _ => xs.length - (intOf i).toNat)
 case atStart => exact ⟨0, Nat.zero_le _, rfl, rfl, Below.refl _ _⟩
 obtain ⟨j, hj, rfl, hsm, hb⟩ := hrel
 have HB := qb hb
 by_cases hlt : j < xs.length
 ·obtain ⟨b1, o1, rfl, hb1, kd, tt, nn, us, vs, Ap, cp, Ao, co, hxj, g1, g2, g3, g4, c0, c1, c2, c3, c4⟩ := (HX.out.now hb).at2 hlt
  have hst := Pt.oks_step hsm hlt
  rw [hxj] at hst
  have HST := qb hst
  have hmem := Pt.size_mem (List.getElem_mem hlt)
  rw [hxj] at hmem
  simp only [Pt.size] at hmem
  have hsz := HSZ.out
  have htt : tt.length <= 1048576 := by omega
  have hnn : nn.length <= 1048576 := by omega
  have HUS : Hid (us.length + Pt.sizes us <= 1048576) := by show _ <= _; omega
  have HVS : Hid (vs.length + Pt.sizes vs <= 1048576) := by show _ <= _; omega
  have hus : us.length <= 1048576 := by omega
  have hvs : vs.length <= 1048576 := by omega
  obtain ⟨iv, hiv⟩ : ∃ iv, iv = (us.isEmpty && vs.isEmpty) := ⟨_, rfl⟩
  have HO1 : Hid (Pt.ok (.mk kd tt nn us vs) d = if kd = 1 then zA tt && (nn == [] && iv) else if kd = 2 then qJ nn && (!zY nn && (tt == [] && iv)) else if kd = 3 \/ kd = 4 then qJ nn && (tt == [] && (!(decide (kd = 4) && !vs.isEmpty) && (decide (d ≠ 0) && (Pt.oks us (d - 1) false && Pt.oks vs (d - 1) false)))) else false) := by show _ = _; rw [Pt.ok, hiv]
  have HA1 := qb ((Below.refl wr.heap.size wr).alloc (Nat.le_refl _) (.cells (qD kd tt nn Ap us.length cp Ao vs.length co) 115))
  have HBB := qb (qa3 HB.out HA1.out)
  have HXB0 := qb (HX.out.now HBB.out)
  have HU := qb (g3.now HA1.out)
  have HV := qb (g4.now HA1.out)
  have HXB := qb (heap_alloc_new wr (.cells (qD kd tt nn Ap us.length cp Ao vs.length co) 115))
  have hsz1 : wr.heap.size < (wr.alloc (.cells (qD kd tt nn Ap us.length cp Ao vs.length co) 115)).heap.size := by simp
  clear hsm hb hst hmem hsz g1 g2 g3 g4 hxj
  go_upto_region 5 with fail
  generalize wr.alloc (.cells (qD kd tt nn Ap us.length cp Ao vs.length co) 115) = wb at *
  obtain ⟨⟨f0, f1, f2, f3, f4⟩, -⟩ := qI HXB.out
  clear c0 c1 c2 c3 c4
  go_cut [7] (fun t wx => t = .bool iv /\ wx = wb)
  case first =>
   by_cases hu0 : us.length = 0
   ·have hu1 : ((us.length : Int) == 0) = true := by rw [hu0]; rfl
    obtain rfl := List.eq_nil_of_length_eq_zero hu0
    by_cases hv0 : vs.length = 0
    ·obtain rfl := List.eq_nil_of_length_eq_zero hv0
     clear hu0 hu1 hv0
     go_wp2
     go_meet
     case rel => exact ⟨by rw [hiv]; rfl, rfl⟩
    have hv1 : ((vs.length : Int) == 0) = false := beq_eq_false_iff_ne.2 (by omega)
    have hiv2 : iv = false := by
     rw [hiv]
     cases vs with
     | nil => exact absurd rfl hv0
     | cons => rfl
    clear hu0 hu1 hv0
    go_wp2
    go_meet
    case rel => exact ⟨by rw [hiv2], rfl⟩
   have hu1 : ((us.length : Int) == 0) = false := beq_eq_false_iff_ne.2 (by omega)
   have hiv2 : iv = false := by
    rw [hiv]
    cases us with
    | nil => exact absurd rfl hu0
    | cons => rfl
   clear hu0
   go_wp2
   go_meet
   case rel => exact ⟨by rw [hiv2], rfl⟩
  obtain ⟨rfl, rfl⟩ := hcut
  clear hiv
  rename World => wb
  by_cases hk1 : kd = 1
  ·subst hk1
   rw [if_pos rfl] at HO1
   as_aux_lemma =>
    go_upto_region 9 with fail
    go_cut [8] (fun t wx => ∃ bb, t = .bool bb /\ bb = jT tt /\ wx = wb)
    case first =>
     as_aux_lemma =>
      by_cases ht0 : tt = []
      ·subst ht0
       go_wp2
       go_meet
       case rel => exact ⟨_, rfl, rfl, rfl⟩
      have hed := Kc ht0
      have hnb : (tt == []) = false := by simpa using ht0
      have hnb2 : List.isEmpty tt = false := by simpa using ht0
      have hpos := List.length_pos_iff.2 ht0
      have hi1 : ((tt.length : Int) - 1).toNat = tt.length - 1 := by omega
      have hi2 : (0 : Int) <= (tt.length : Int) - 1 := by omega
      have hlt1 : tt.length - 1 < tt.length := by omega
      have HED : Hid (jT tt = (tt[0] == 123 || (tt[tt.length - 1] == 123 || (tt[0] == 125 || tt[tt.length - 1] == 125)))) := hed
      clear hed ht0
      cases a1 : (tt[0] == 123)
      case true =>
       rw [a1, Bool.true_or] at HED
       have a1' : ((tt[0].toNat : Int) == 123) = true := xZ a1
       clear a1
       go_wp2
       go_meet
       case rel => exact ⟨_, rfl, HED.out.symm, rfl⟩
      rw [a1, Bool.false_or] at HED
      have a1' : ((tt[0].toNat : Int) == 123) = false := xY a1
      clear a1
      cases a2 : (tt[tt.length - 1] == 123)
      case true =>
       rw [a2, Bool.true_or] at HED
       have a2' : ((tt[tt.length - 1].toNat : Int) == 123) = true := xZ a2
       clear a2
       go_wp2
       go_meet
       case rel => exact ⟨_, rfl, HED.out.symm, rfl⟩
      rw [a2, Bool.false_or] at HED
      have a2' : ((tt[tt.length - 1].toNat : Int) == 123) = false := xY a2
      clear a2
      cases a3 : (tt[0] == 125)
      case true =>
       rw [a3, Bool.true_or] at HED
       have a3' : ((tt[0].toNat : Int) == 125) = true := xZ a3
       clear a3
       go_wp2
       go_meet
       case rel => exact ⟨_, rfl, HED.out.symm, rfl⟩
      rw [a3, Bool.false_or] at HED
      have a3' : ((tt[0].toNat : Int) == 125) = false := xY a3
      clear a3
      cases a4 : (tt[tt.length - 1] == 125)
      case true =>
       rw [a4] at HED
       have a4' : ((tt[tt.length - 1].toNat : Int) == 125) = true := xZ a4
       clear a4
       go_wp2
       go_meet
       case rel => exact ⟨_, rfl, HED.out.symm, rfl⟩
      rw [a4] at HED
      have a4' : ((tt[tt.length - 1].toNat : Int) == 125) = false := xY a4
      clear a4
      go_wp2
      go_meet
      case rel => exact ⟨_, rfl, HED.out.symm, rfl⟩
    as_aux_lemma =>
     obtain ⟨ed, rfl, hed, rfl⟩ := hcut
     rename World => wb
     obtain ⟨q0, hq0⟩ : ∃ q, q = zx tt := ⟨_, rfl⟩
     obtain ⟨q1, hq1⟩ : ∃ q, q = two tt := ⟨_, rfl⟩
     have HG0 : Hid ((zA tt && (nn == [] && iv)) = (q0 && (!(tt == []) && (!q1 && !ed)) && (nn == [] && iv))) := by show _ = _; rw [hq0, hq1, hed, <- Kb]
     have HTV := qb (fun w => Zr tt (by unfold maxLen; omega) w)
     have HC1 := qb (fun w => XM tt htt w)
     rw [<- hq0] at HTV
     rw [<- hq1] at HC1
     clear hq0 hq1 hed
     generalize (zA tt && (nn == [] && iv)) = g at *
     obtain ⟨pv, hpv⟩ : ∃ pv, pv = Pt.pvAt xs j := ⟨_, rfl⟩
     rw [<- hpv, HO1.out, show decide (Pt.kind (.mk 1 tt nn us vs) = 1) = true from rfl, Bool.and_true] at HST
     go_upto_region 10 with fail
     go_cut [106] (fun t wx => ∃ bb, t = .bool bb /\ bb = !(g && !pv) /\ wx = wb)
     case first =>
      as_aux_lemma =>
       have HG := HG0
       by_cases hn0 : nn = []
       case neg =>
        have hnb : (nn == []) = false := by simpa using hn0
        have hnb2 : List.isEmpty nn = false := by simpa using hn0
        rw [hnb] at HG
        clear hn0
        go_wp2
        go_meet
        case rel => exact ⟨_, rfl, by rw [HG.out]; simp, rfl⟩
       subst hn0
       cases iv
       ·
        go_wp2
        go_meet
        case rel => exact ⟨_, rfl, by rw [HG.out]; simp, rfl⟩
       by_cases ht0 : tt = []
       ·have hnb : (tt == []) = true := by rw [ht0]; rfl
        have hnb2 : List.isEmpty tt = true := by rw [ht0]; rfl
        rw [hnb] at HG
        clear ht0
        go_wp2
        go_meet
        case rel => exact ⟨_, rfl, by rw [HG.out]; simp, rfl⟩
       have hnb : (tt == []) = false := by simpa using ht0
       have hnb2 : List.isEmpty tt = false := by simpa using ht0
       rw [hnb] at HG
       clear ht0
       go_wp2_with fail
       refine (HTV.out _).mono ?_
       rintro e9 w2 ⟨rfl, rfl⟩
       cases q0
       ·
        go_wp2
        go_meet
        case rel => exact ⟨_, rfl, by rw [HG.out]; simp, rfl⟩
       go_wp2_with fail
       refine (HC1.out _).mono ?_
       rintro e9 w2 ⟨rfl, rfl⟩
       cases q1
       case true =>
        go_wp2
        go_meet
        case rel => exact ⟨_, rfl, by rw [HG.out]; simp, rfl⟩
       cases ed
       case true =>
        go_wp2
        go_meet
        case rel => exact ⟨_, rfl, by rw [HG.out]; simp, rfl⟩
       cases j with
       | zero =>
        obtain rfl : pv = false := hpv
        go_wp2
        go_meet
        case rel => exact ⟨_, rfl, by rw [HG.out]; simp, rfl⟩
       | succ j' =>
        obtain ⟨b2, o2, hA2, hb2, kd2, tt2, nn2, us2, vs2, Ap2, cp2, Ao2, co2, hxj2, k1, k2, k3, k4, d0, d1, d2, d3, d4⟩ := (HXB0.out).at2 (show j' < xs.length by omega)
        injection hA2 with hA2
        injection hA2 with hA2a hA2b
        subst hA2a hA2b
        rw [Zj (show j' < xs.length by omega) hxj2] at hpv
        clear hxj2 k1 k2 k3 k4 d1 d2 d3 d4
        have hjj : (((j' + 1 : Nat) : Int) - 1).toNat = j' := by omega
        have hjp : (0 : Int) < ((j' + 1 : Nat) : Int) := by omega
        cases hk2 : (kd2 == 1)
        ·rw [hk2] at hpv
         subst hpv
         go_wp2
         go_meet
         case rel => exact ⟨_, rfl, by rw [HG.out]; simp, rfl⟩
        rw [hk2] at hpv
        subst hpv
        go_wp2
        go_meet
        case rel => exact ⟨_, rfl, by rw [HG.out]; simp, rfl⟩
     as_aux_lemma =>
      obtain ⟨bb, rfl, hbb, rfl⟩ := hcut
      clear HG0 HTV HC1 hpv
      cases g with
      | false =>
       obtain rfl : bb = true := hbb
       have HE : Hid (Pt.oks xs d false = false) := by show _ = _; rw [<- HST.out, Bool.false_and]
       go_wp2
       go_ret
       exact ⟨qw HE.out.symm, HBB.out⟩
      | true =>
       cases pv with
       | true =>
        obtain rfl : bb = true := hbb
        have HE : Hid (Pt.oks xs d false = false) := by show _ = _; rw [<- HST.out]; rfl
        go_wp2
        go_ret
        exact ⟨qw HE.out.symm, HBB.out⟩
       | false =>
        obtain rfl : bb = false := hbb
        rw [Bool.true_and, Bool.not_false, Bool.true_and] at HST
        go_wp2
        go_roundw
        case rel => first | exact ⟨j + 1, by omega, by go_num, HST.out, HBB.out⟩ | ((repeat apply Exists.intro); exact ⟨⟨j + 1, by omega, by go_num, HST.out, HBB.out⟩, rfl⟩)
        case measure => simp [intOf]; omega
  have n1 : (kd == 1) = false := by simpa using hk1
  by_cases hk2 : kd = 2
  ·subst hk2
   rw [if_neg (by decide), if_pos rfl] at HO1
   as_aux_lemma =>
    go_upto_region 13 with fail
    obtain ⟨q0, hq0⟩ : ∃ q, q = qJ nn := ⟨_, rfl⟩
    obtain ⟨q1, hq1⟩ : ∃ q, q = zY nn := ⟨_, rfl⟩
    have HNV := qb (fun w => jS nn (by unfold maxLen; omega) w)
    have HWD := qb (fun w => XK nn w)
    rw [<- hq0] at HNV HO1
    rw [<- hq1] at HWD HO1
    clear hq0 hq1
    have HG0 : Hid ((q0 && (!q1 && (tt == [] && iv))) = (q0 && (!q1 && (tt == [] && iv)))) := rfl
    generalize hg : (q0 && (!q1 && (tt == [] && iv))) = g at HG0 HO1
    have HG0 : Hid (g = (q0 && (!q1 && (tt == [] && iv)))) := hg.symm
    clear hg
    rename Hid (g = g) => HJUNK
    clear HJUNK
    rw [HO1.out] at HST
    go_cut [126] (fun t wx => ∃ bb, t = .bool bb /\ bb = !g /\ wx = wb)
    case first =>
     have HG := HG0
     by_cases ht0 : tt = []
     case neg =>
      have hnb : (tt == []) = false := by simpa using ht0
      have hnb2 : List.isEmpty tt = false := by simpa using ht0
      rw [hnb] at HG
      clear ht0
      go_wp2
      go_meet
      case rel => exact ⟨_, rfl, by rw [HG.out]; simp, rfl⟩
     subst ht0
     go_wp2_with fail
     refine (HNV.out _).mono ?_
     rintro e9 w2 ⟨rfl, rfl⟩
     cases q0
     ·
      go_wp2
      go_meet
      case rel => exact ⟨_, rfl, by rw [HG.out]; simp, rfl⟩
     go_wp2_with fail
     refine (HWD.out _).mono ?_
     rintro e9 w2 ⟨rfl, rfl⟩
     cases q1
     case true =>
      go_wp2
      go_meet
      case rel => exact ⟨_, rfl, by rw [HG.out]; simp, rfl⟩
     cases iv
     ·
      go_wp2
      go_meet
      case rel => exact ⟨_, rfl, by rw [HG.out]; simp, rfl⟩
     go_wp2
     go_meet
     case rel => exact ⟨_, rfl, by rw [HG.out]; simp, rfl⟩
    obtain ⟨bb, rfl, rfl, rfl⟩ := hcut
    clear HG0 HNV HWD
    cases g
    ·have HE : Hid (Pt.oks xs d false = false) := by show _ = _; rw [<- HST.out, Bool.false_and]
     go_wp2
     go_ret
     exact ⟨qw HE.out.symm, HBB.out⟩
    rw [show decide (Pt.kind (.mk 2 tt nn us vs) = 1) = false from rfl, Bool.and_false, Bool.not_false, Bool.true_and, Bool.true_and] at HST
    go_wp2
    go_roundw
    case rel => first | exact ⟨j + 1, by omega, by go_num, HST.out, HBB.out⟩ | ((repeat apply Exists.intro); exact ⟨⟨j + 1, by omega, by go_num, HST.out, HBB.out⟩, rfl⟩)
    case measure => simp [intOf]; omega
  have n2 : (kd == 2) = false := by simpa using hk2
  by_cases hk3 : kd = 3
  ·subst hk3
   as_aux_lemma =>
    rw [if_neg (by decide), if_neg (by decide), if_pos (by decide)] at HO1
    go_upto_region 17 with fail
    obtain ⟨q0, hq0⟩ : ∃ q, q = qJ nn := ⟨_, rfl⟩
    have HNV := qb (fun w => jS nn (by unfold maxLen; omega) w)
    rw [<- hq0] at HNV
    have HG0 : Hid ((qJ nn && (tt == [] && (!(decide ((3 : Int) = 4) && !vs.isEmpty) && (decide (d ≠ 0) && (Pt.oks us (d - 1) false && Pt.oks vs (d - 1) false))))) = (q0 && (tt == [] && (!(false && !vs.isEmpty) && (decide (d ≠ 0) && (Pt.oks us (d - 1) false && Pt.oks vs (d - 1) false)))))) := by show _ = _; rw [hq0]; rfl
    generalize (qJ nn && (tt == [] && (!(decide ((3 : Int) = 4) && !vs.isEmpty) && (decide (d ≠ 0) && (Pt.oks us (d - 1) false && Pt.oks vs (d - 1) false))))) = g at *
    clear hq0
    rw [HO1.out] at HST
    go_cut [169] (fun t wx => ∃ bb, t = .bool bb /\ bb = !g /\ Below wb.heap.size wb wx)
    case first =>
     have HG := HG0
     by_cases ht0 : tt = []
     case neg =>
      have hnb : (tt == []) = false := by simpa using ht0
      have hnb2 : List.isEmpty tt = false := by simpa using ht0
      rw [hnb] at HG
      clear ht0
      go_wp2
      go_meet
      case rel => exact ⟨_, rfl, by rw [HG.out]; simp, Below.refl _ _⟩
     subst ht0
     go_wp2_with fail
     refine (HNV.out _).mono ?_
     rintro e9 w2 ⟨rfl, rfl⟩
     cases q0
     ·
      go_wp2
      go_meet
      case rel => exact ⟨_, rfl, by rw [HG.out]; simp, Below.refl _ _⟩
     rw [Bool.true_and, show (([] : Tx) == []) = true from rfl, Bool.true_and] at HG
     by_cases hd0 : d = 0
     ·have he9 : (((d : Nat) : Int) == 0) = true := by rw [hd0]; rfl
      rw [show decide (d ≠ 0) = false by simp [hd0]] at HG
      have hdz : (d == 0) = true := by rw [hd0]; rfl
      clear hd0
      go_wp2
      go_meet
      case rel => exact ⟨_, rfl, by rw [HG.out]; simp, Below.refl _ _⟩
     have he9 : (((d : Nat) : Int) == 0) = false := by simp; omega
     have hdz : (d == 0) = false := by simpa using hd0
     rw [show decide (d ≠ 0) = true by simp [hd0], Bool.true_and] at HG
     rw [Bool.false_and, Bool.not_false, Bool.true_and] at HG
     have HR1 := qb (IH.out (d - 1) (by omega) us Ap cp wb HU.out HUS.out)
     have HR2 := qb (fun w2 (hb : Below wb.heap.size wb w2) => IH.out (d - 1) (by omega) vs Ao co w2 (HV.out.now hb) HVS.out)
     generalize Pt.oks us (d - 1) false = r1 at *
     generalize Pt.oks vs (d - 1) false = r2 at *
     clear hd0
     go_wp2_with fail
     refine HR1.out.mono ?_
     rintro e9 w2 ⟨rfl, hb⟩
     have HB2 := qb hb
     obtain ⟨⟨y0, y1, y2, y3, y4⟩, -⟩ := qI (qi HXB.out hb)
     have HR3 := qb (HR2.out w2 hb)
     clear hb
     cases r1
     ·
      go_wp2
      go_meet
      case rel => exact ⟨_, rfl, by rw [HG.out]; simp, HB2.out⟩
     rw [Bool.true_and] at HG
     go_wp2_with fail
     refine HR3.out.mono ?_
     rintro e9 w3 ⟨rfl, hb⟩
     have HB3 := qb (qa3 HB2.out hb)
     clear hb
     cases r2
     ·
      go_wp2
      go_meet
      case rel => exact ⟨_, rfl, by rw [HG.out]; simp, HB3.out⟩
     go_wp2
     go_meet
     case rel => exact ⟨_, rfl, by rw [HG.out]; simp, HB3.out⟩
    obtain ⟨bb, rfl, rfl, hb⟩ := hcut
    have HB9 := qb (qa3 HBB.out hb)
    clear HG0 HNV hb f0 f1 f2 f3 f4
    cases g
    ·have HE : Hid (Pt.oks xs d false = false) := by show _ = _; rw [<- HST.out, Bool.false_and]
     go_wp2
     go_ret
     exact ⟨qw HE.out.symm, HB9.out⟩
    rw [show decide (Pt.kind (.mk 3 tt nn us vs) = 1) = false from rfl, Bool.and_false, Bool.not_false, Bool.true_and, Bool.true_and] at HST
    go_wp2
    go_roundw
    case rel => first | exact ⟨j + 1, by omega, by go_num, HST.out, HB9.out⟩ | ((repeat apply Exists.intro); exact ⟨⟨j + 1, by omega, by go_num, HST.out, HB9.out⟩, rfl⟩)
    case measure => simp [intOf]; omega
  have n3 : (kd == 3) = false := by simpa using hk3
  by_cases hk4 : kd = 4
  ·subst hk4
   as_aux_lemma =>
    rw [if_neg (by decide), if_neg (by decide), if_pos (by decide)] at HO1
    go_upto_region 17 with fail
    obtain ⟨q0, hq0⟩ : ∃ q, q = qJ nn := ⟨_, rfl⟩
    have HNV := qb (fun w => jS nn (by unfold maxLen; omega) w)
    rw [<- hq0] at HNV
    have HG0 : Hid ((qJ nn && (tt == [] && (!(decide ((4 : Int) = 4) && !vs.isEmpty) && (decide (d ≠ 0) && (Pt.oks us (d - 1) false && Pt.oks vs (d - 1) false))))) = (q0 && (tt == [] && (!(true && !vs.isEmpty) && (decide (d ≠ 0) && (Pt.oks us (d - 1) false && Pt.oks vs (d - 1) false)))))) := by show _ = _; rw [hq0]; rfl
    generalize (qJ nn && (tt == [] && (!(decide ((4 : Int) = 4) && !vs.isEmpty) && (decide (d ≠ 0) && (Pt.oks us (d - 1) false && Pt.oks vs (d - 1) false))))) = g at *
    clear hq0
    rw [HO1.out] at HST
    go_cut [169] (fun t wx => ∃ bb, t = .bool bb /\ bb = !g /\ Below wb.heap.size wb wx)
    case first =>
     have HG := HG0
     by_cases ht0 : tt = []
     case neg =>
      have hnb : (tt == []) = false := by simpa using ht0
      have hnb2 : List.isEmpty tt = false := by simpa using ht0
      rw [hnb] at HG
      clear ht0
      go_wp2
      go_meet
      case rel => exact ⟨_, rfl, by rw [HG.out]; simp, Below.refl _ _⟩
     subst ht0
     go_wp2_with fail
     refine (HNV.out _).mono ?_
     rintro e9 w2 ⟨rfl, rfl⟩
     cases q0
     ·
      go_wp2
      go_meet
      case rel => exact ⟨_, rfl, by rw [HG.out]; simp, Below.refl _ _⟩
     rw [Bool.true_and, show (([] : Tx) == []) = true from rfl, Bool.true_and] at HG
     by_cases hd0 : d = 0
     ·have he9 : (((d : Nat) : Int) == 0) = true := by rw [hd0]; rfl
      rw [show decide (d ≠ 0) = false by simp [hd0]] at HG
      have hdz : (d == 0) = true := by rw [hd0]; rfl
      clear hd0
      go_wp2
      go_meet
      case rel => exact ⟨_, rfl, by rw [HG.out]; simp, Below.refl _ _⟩
     have he9 : (((d : Nat) : Int) == 0) = false := by simp; omega
     have hdz : (d == 0) = false := by simpa using hd0
     rw [show decide (d ≠ 0) = true by simp [hd0], Bool.true_and] at HG
     by_cases hv0 : vs = []
     case neg =>
      have hvl : (0 < vs.length) = True := eq_true (List.length_pos_iff.2 hv0)
      rw [show vs.isEmpty = false by simpa using hv0] at HG
      clear hv0
      go_wp2
      go_meet
      case rel => exact ⟨_, rfl, by rw [HG.out]; simp, Below.refl _ _⟩
     subst hv0
     have HG1 := HG.out
     simp only [List.isEmpty_nil, Bool.not_true, Bool.not_false, Bool.true_and] at HG1
     have HG := qb HG1
     clear HG1
     have HR1 := qb (IH.out (d - 1) (by omega) us Ap cp wb HU.out HUS.out)
     have HR2 : Hid (∀ w2, Below wb.heap.size wb w2 -> Calls Tryz.prog 105 #[.slice Ao 0 co, .int .i64 ((d : Int) - 1)] w2 fun e9 w' => e9 = .returned (.bool (Pt.oks [] (d - 1) false)) /\ Below w2.heap.size w2 w') := fun w2 hb => IH.out (d - 1) (by omega) [] Ao co w2 (HV.out.now hb) HVS.out
     generalize Pt.oks us (d - 1) false = r1 at *
     generalize Pt.oks [] (d - 1) false = r2 at *
     clear hd0
     go_wp2_with fail
     refine HR1.out.mono ?_
     rintro e9 w2 ⟨rfl, hb⟩
     have HB2 := qb hb
     obtain ⟨⟨y0, y1, y2, y3, y4⟩, -⟩ := qI (qi HXB.out hb)
     have HR3 := qb (HR2.out w2 hb)
     clear hb
     cases r1
     ·
      go_wp2
      go_meet
      case rel => exact ⟨_, rfl, by rw [HG.out]; simp, HB2.out⟩
     rw [Bool.true_and] at HG
     go_wp2_with fail
     refine HR3.out.mono ?_
     rintro e9 w3 ⟨rfl, hb⟩
     have HB3 := qb (qa3 HB2.out hb)
     clear hb
     cases r2
     ·
      go_wp2
      go_meet
      case rel => exact ⟨_, rfl, by rw [HG.out]; simp, HB3.out⟩
     go_wp2
     go_meet
     case rel => exact ⟨_, rfl, by rw [HG.out]; simp, HB3.out⟩
    obtain ⟨bb, rfl, rfl, hb⟩ := hcut
    have HB9 := qb (qa3 HBB.out hb)
    clear HG0 HNV hb f0 f1 f2 f3 f4
    cases g
    ·have HE : Hid (Pt.oks xs d false = false) := by show _ = _; rw [<- HST.out, Bool.false_and]
     go_wp2
     go_ret
     exact ⟨qw HE.out.symm, HB9.out⟩
    rw [show decide (Pt.kind (.mk 4 tt nn us vs) = 1) = false from rfl, Bool.and_false, Bool.not_false, Bool.true_and, Bool.true_and] at HST
    go_wp2
    go_roundw
    case rel => first | exact ⟨j + 1, by omega, by go_num, HST.out, HB9.out⟩ | ((repeat apply Exists.intro); exact ⟨⟨j + 1, by omega, by go_num, HST.out, HB9.out⟩, rfl⟩)
    case measure => simp [intOf]; omega
  have n4 : (kd == 4) = false := by simpa using hk4
  rw [if_neg hk1, if_neg hk2, if_neg (by rintro (h | h) <;> first | exact hk3 h | exact hk4 h)] at HO1
  have HE : Hid (Pt.oks xs d false = false) := by show _ = _; rw [<- HST.out, HO1.out]; rfl
  clear hk1 hk2 hk3 hk4
  go_wp2
  go_ret
  exact ⟨qw HE.out.symm, HBB.out⟩
 have HE := qb (Pt.oks_end hsm hlt)
 go_wp2
 go_ret
 exact ⟨qw HE.out, HB.out⟩
theorem Kd (d : Nat) : d <= 3 -> OkS d := by
 induction d with
 | zero => exact fun hd => Zu 0 hd (fun d' h => by cases h)
 | succ d ih => exact fun hd => Zu (d + 1) hd (fun d' h => by injection h with h; subst h; exact ih (by omega))
end Go.Proofs.YtmboieajfdkllaaGreat
