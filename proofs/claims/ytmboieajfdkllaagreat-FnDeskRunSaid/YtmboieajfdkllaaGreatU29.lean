import Derived.Test.YtmboieajfdkllaaGreatU04
set_option maxHeartbeats 16000000
set_option maxRecDepth 100000
open Go.Proofs.Tryz
namespace Go.Proofs.YtmboieajfdkllaaGreat
open Go.RowKit Go.Deep
theorem xu (s : Tx) (i : Nat) : List.drop i (List.take (i + 2) s) = (s.drop i).take 2 := by
 rw [List.drop_take]
 congr 1
 omega
def zI (c : UInt8) (s : Tx) : Nat := match cut2 c s with
 | none => s.length
 | some r => r.1.length
theorem jW {c : UInt8} {s : Tx} (h : cut2 c s = none) : zI c s = s.length := by unfold zI; rw [h]
theorem jX {c : UInt8} {s p q : Tx} (h : cut2 c s = some (p, q)) : zI c s = p.length := by unfold zI; rw [h]
theorem Qd (c : UInt8) (s : Tx) : zI c s <= s.length := by
 cases h : cut2 c s with
 | none => rw [jW h]; omega
 | some r => obtain ⟨p, q⟩ := r; rw [jX h]; have := jk h; omega
theorem vx {c : UInt8} : ∀ (s : Tx) (i : Nat), i < zI c s -> ((s.drop i).take 2 == [c, c]) = false
 | [], i, h => by simp [zI, cut2] at h
 | [x], i, h => by
  have : i = 0 := by simp [zI, cut2] at h; omega
  subst this
  simp
 | x :: y :: t, i, h => by
  have e : zI c (x :: y :: t) = if (x == c && y == c) = true then 0 else zI c (y :: t) + 1 := by
   unfold zI
   rw [cut2]
   cases hc : (x == c && y == c)
   ·simp only [Bool.false_eq_true, if_false]
    cases cut2 c (y :: t) <;> simp
   simp
  rw [e] at h
  split at h
  ·omega
  rename_i hc
  cases i with
  | zero =>
   simp only [List.drop_zero, List.take_succ_cons, List.take_zero]
   rw [beq_eq_false_iff_ne]
   intro e2
   injection e2 with e3 e4
   injection e4 with e4
   subst e3
   rw [e4] at hc
   simp at hc
  | succ i => exact vx (y :: t) i (by omega)
theorem Qe {c : UInt8} {s p q : Tx} (h : cut2 c s = some (p, q)) : ((s.drop p.length).take 2 == [c, c]) = true := by
 rw [jb h, List.drop_left]; simp
def WordP (a : Nat) (e : Ending) : Option (Tx × Tx) -> Prop
 | none => e = .returned (.tuple #[sv [], .int .i64 (-1)])
 | some r => e = .returned (.tuple #[sv r.1, .int .i64 ((a + 2 + r.1.length + 2 : Nat) : Int)])
theorem KR (s : Tx) (a : Nat) (w : World) (ha : a + 2 <= s.length) (hs : s.length <= 1048576) :
  Calls Tryz.prog 126 #[sv s, .int .i64 (a : Int)] w fun e w' => WordP a e (cut2 125 (s.drop (a + 2))) /\ w = w' := by
 obtain ⟨M, hM⟩ : ∃ M, M = zI 125 (s.drop (a + 2)) := ⟨_, rfl⟩
 have hMl : M + (a + 2) <= s.length := by have := Qd 125 (s.drop (a + 2)); rw [List.length_drop] at this; omega
 have HM := qb hM
 obtain ⟨R, hR⟩ : ∃ R, R = cut2 125 (s.drop (a + 2)) := ⟨_, rfl⟩
 rw [<- hR]
 have HR := qb hR
 have HRS : Hid (∀ p q, R = some (p, q) -> M = p.length /\ List.drop (a + 2) (List.take (a + 2 + M) s) = p /\ (List.drop (a + 2 + M) (List.take (a + 2 + M + 2) s) == [125, 125]) = true /\ a + 2 + M + 2 <= s.length) := by
  intro p q e
  rw [e] at hR
  have hMp := hM.trans (jX hR.symm)
  have h1 := jb hR.symm
  have h2 := jk hR.symm
  rw [List.length_drop] at h2
  refine ⟨hMp, ?_, ?_, by omega⟩
  ·rw [hMp, List.drop_take, show a + 2 + p.length - (a + 2) = p.length by omega, h1, List.take_left]
  rw [xu, show a + 2 + M = (a + 2) + M by omega, <- List.drop_drop, hMp]; exact Qe hR.symm
 have HRN : Hid (R = none -> M = s.length - (a + 2)) := by
  intro e
  rw [e] at hR
  rw [hM, jW hR.symm, List.length_drop]
 have HBF : Hid (∀ i, i < M -> (List.drop (a + 2 + i) (List.take (a + 2 + i + 2) s) == [125, 125]) = false) := by
  intro i hi
  rw [xu, <- List.drop_drop]
  exact vx _ _ (by rw [<- hM]; exact hi)
 clear hM hR
 go_enter func126, ntmps126
 go_wp2
 go_loop [6] (fun e => ∃ i : Nat, i <= M /\ e = .int .i64 ((a + 2 + i : Nat) : Int)) (fun e => s.length + 5 - (intOf e).toNat)
 case atStart => exact ⟨0, Nat.zero_le _, by go_num⟩
 obtain ⟨i, hi, rfl⟩ := hrel
 by_cases hlt : i < M
 ·have hno := HBF.out i hlt
  by_cases hl : a + 2 + i + 1 < s.length
  ·go_wp2
   go_round
   case rel => exact ⟨i + 1, by omega, by go_num⟩
   case measure => simp [intOf]; omega
  obtain rfl : R = none := by
   cases hR2 : R with
   | none => rfl
   | some r => obtain ⟨p, q⟩ := r; have := HRS.out p q hR2; omega
  go_wp2
  refine bodyPost_ret (v := .tuple #[sv [], .int .i64 (-1)]) (by simp [results, results126, go_sem, *]) rfl ⟨rfl, rfl⟩
 obtain rfl : i = M := by omega
 cases hR2 : R with
 | none =>
  have hl : ¬ a + 2 + i + 1 < s.length := by have := HRN.out hR2; omega
  have HN := qb hR2
  clear hR2
  go_wp2
  refine bodyPost_ret (v := .tuple #[sv [], .int .i64 (-1)]) (by simp [results, results126, go_sem, *]) rfl ⟨by rw [HN.out]; rfl, rfl⟩
 | some r =>
  obtain ⟨p, q⟩ := r
  obtain ⟨h1, h2, h3, h4⟩ := HRS.out p q hR2
  have hl : a + 2 + i + 1 < s.length := by omega
  have HN := qb hR2
  have H1 := qb h1
  clear hR2 h1
  go_wp2
  refine bodyPost_ret (v := .tuple #[sv p, .int .i64 ((a + 2 + i + 2 : Nat) : Int)]) (by simp [results, results126, go_sem, *]) rfl ⟨?_, rfl⟩
  rw [HN.out]
  show Ending.returned _ = _
  rw [<- H1.out]
def RsP (w w' : World) (s : Tx) (e : Ending) : Option (List Pt × Tx × Tx) -> Prop
 | none => ∃ A l c a, a <= s.length /\ e = .returned (.tuple #[.slice A l c, .int .i64 ((a : Nat) : Int), sv badW])
 | some r => ∃ A c rs a, a <= s.length /\ s.drop a = r.2.1 /\ e = .returned (.tuple #[.slice A (List.length rs) c, .int .i64 ((a : Nat) : Int), sv r.2.2]) /\ PLs w' w.heap.size A c rs r.1
def RsC (d : Nat) : Prop := ∀ (D : Int) (s : Tx) (a n : Nat) (w : World), D = (d : Int) - 1 -> d <= 4 -> a <= s.length -> s.length - a < n -> s.length <= 1048576 →
  Calls Tryz.prog 81 #[sv s, .int .i64 (a : Int), .int .i64 D] w fun e w' => RsP w w' s e (Pt.rd true d n (s.drop a) []) /\ Below w.heap.size w w'
theorem Qf (p w : Tx) : Pt.pre true p w = (decide (p.length < w.length) && p.isPrefixOf w) := by
 unfold Pt.pre
 rw [Bool.and_comm]; rfl
theorem Qg (p w : Tx) : p.isPrefixOf w = (List.take p.length w == p) := by
 rw [Bool.eq_iff_iff, beq_iff_eq, List.isPrefixOf_iff_prefix]
 constructor
 ·rintro ⟨t, rfl⟩; rw [List.take_left]
 intro h; exact ⟨w.drop p.length, by conv => rhs; rw [<- List.take_append_drop p.length w, h]⟩
theorem put5 {w : World} {b : Nat} {c0 c1 c2 c3 c4 v0 v1 v2 v3 v4 : Value} {T : TypeId} (h : w.heap[b]? = some (.cells #[c0, c1, c2, c3, c4] T (0, 0))) :
  (((((w.setCell ⟨b, 0, none⟩ v0).setCell ⟨b, 1, none⟩ v1).setCell ⟨b, 2, none⟩ v2).setCell ⟨b, 3, none⟩ v3).setCell ⟨b, 4, none⟩ v4).heap[b]? = some (.cells #[v0, v1, v2, v3, v4] T (0, 0)) :=
 qP (qP (qP (qP (qP h))))
theorem vy {B : Nat} {w0 w : World} (h : Below B w0 w) {b : Nat} (hb : B <= b) (v0 v1 v2 v3 v4 : Value) :
  Below B w0 (((((w.setCell ⟨b, 0, none⟩ v0).setCell ⟨b, 1, none⟩ v1).setCell ⟨b, 2, none⟩ v2).setCell ⟨b, 3, none⟩ v3).setCell ⟨b, 4, none⟩ v4) :=
 ((((h.setCell (p := ⟨b, 0, none⟩) hb v0).setCell (p := ⟨b, 1, none⟩) hb v1).setCell (p := ⟨b, 2, none⟩) hb v2).setCell (p := ⟨b, 3, none⟩) hb v3).setCell (p := ⟨b, 4, none⟩) hb v4
theorem KS {w : World} {b j : Nat} (hj : j ≠ b) (v0 v1 v2 v3 v4 : Value) :
  (((((w.setCell ⟨b, 0, none⟩ v0).setCell ⟨b, 1, none⟩ v1).setCell ⟨b, 2, none⟩ v2).setCell ⟨b, 3, none⟩ v3).setCell ⟨b, 4, none⟩ v4).heap[j]? = w.heap[j]? := by
 rw [Below.heap_setCell _ _ _ _ hj, Below.heap_setCell _ _ _ _ hj, Below.heap_setCell _ _ _ _ hj, Below.heap_setCell _ _ _ _ hj, Below.heap_setCell _ _ _ _ hj]
theorem Qh {z : Bool} {w : Tx} (h : Pt.pre z Pt.ifW w = true) : Pt.pre z Pt.eachW w = false := by
 unfold Pt.pre at h ⊢
 rw [Bool.and_eq_true] at h
 obtain ⟨u, rfl⟩ := List.isPrefixOf_iff_prefix.1 h.1
 simp
theorem Qi (d : Nat) (ih : ∀ d', d = d' + 1 -> RsC d') : RsC d := by
 intro D s a0 n w hD hd4 ha0 hn hs
 have IH := qb ih
 obtain ⟨r, hr⟩ : ∃ r, r = Pt.rd true d n (s.drop a0) [] := ⟨_, rfl⟩
 rw [<- hr]
 have HR := qb hr.symm
 have HD := qb hD
 have hD1 : -1 <= D := by omega
 have hD2 : D <= 3 := by omega
 clear ih hr hD
 go_enter func81, ntmps81
 go_wp2
 go_loopw [1, 9] (fun m o wr => ∃ (a' : Nat) (acc : List Pt) (rs : List Raw) (A : Option Addr) (c k : Nat), m = .int .i64 (a' : Int) /\ o = .slice A rs.length c /\ a' <= s.length /\ PLs wr w.heap.size A c rs acc /\ s.length - a' < k /\ Pt.rd true d k (s.drop a') acc = r /\ acc.length <= a' /\ Below w.heap.size w wr) (fun m _ _ => s.length - (intOf m).toNat)
 case atStart => exact ⟨a0, [], [], _, 0, n, rfl, rfl, ha0, ⟨ZS w, Els.nil⟩, hn, HR.out, Nat.zero_le _, (Below.refl _ _).alloc (Nat.le_refl _) _⟩
 obtain ⟨a', acc, rs, A, c, k, rfl, rfl, hal, hP, hk, hrd, hsz, hb⟩ := hrel
 have HB := qb hb
 have HP := qb hP
 have hrl : rs.length <= 1048576 := by have := hP.len; omega
 have HA := qb hal
 obtain ⟨k, rfl⟩ : ∃ k', k = k' + 1 := ⟨k - 1, by omega⟩
 clear hP hb
 by_cases hlt : a' < s.length
 case neg =>
  have hu : s.drop a' = [] := zc s a' (by omega)
  rw [hu, Pt.rd_nil] at hrd
  have HE := qb hrd.symm
  have HU := qb hu
  clear hrd hu
  go_wp2
  refine bodyPost_ret (v := .tuple #[.slice A rs.length c, .int .i64 ((a' : Nat) : Int), sv []]) (by simp [results, results81, go_sem, *]) rfl ⟨?_, HB.out⟩
  rw [HE.out]
  exact ⟨A, c, rs, a', HA.out, HU.out, rfl, HP.out⟩
 have hul : (s.drop a').length = s.length - a' := List.length_drop
 have hu0 : s.drop a' ≠ [] := by intro e; rw [e] at hul; simp at hul; omega
 obtain ⟨M, hM⟩ : ∃ M, M = zI 123 (s.drop a') := ⟨_, rfl⟩
 have hMl : a' + M <= s.length := by have := Qd 123 (s.drop a'); omega
 by_cases hM0 : M = 0
 case neg =>
  have HBF : Hid (∀ i, i < M -> (List.drop (a' + i) (List.take (a' + i + 2) s) == [123, 123]) = false) := by
   intro i hi
   rw [xu, <- List.drop_drop]
   exact vx _ _ (by rw [<- hM]; exact hi)
  have HEND : Hid (a' + M + 1 < s.length -> (List.drop (a' + M) (List.take (a' + M + 2) s) == [123, 123]) = true) := by
   intro hl
   cases hc : cut2 123 (s.drop a') with
   | none => rw [jW hc] at hM; omega
   | some r => obtain ⟨p, q⟩ := r; rw [xu, <- List.drop_drop, hM, jX hc]; exact Qe hc
  have HEN2 : Hid (a' + M < s.length -> a' + M + 1 < s.length) := by
   intro hl
   cases hc : cut2 123 (s.drop a') with
   | none => rw [jW hc] at hM; omega
   | some r => obtain ⟨p, q⟩ := r; have := jk hc; rw [jX hc] at hM; omega
  obtain ⟨tt, htt⟩ : ∃ tt, tt = List.drop a' (List.take (a' + M) s) := ⟨_, rfl⟩
  have HGF : Hid (Pt.rd true d (k + 1) (s.drop (a' + M)) (acc ++ [Pt.txt tt]) = r) := by
   have htk : tt = (s.drop a').take M := by rw [htt, List.drop_take]; congr 1; omega
   show _ = _
   cases hc : cut2 123 (s.drop a') with
   | none =>
    rw [jW hc] at hM
    rw [Pt.rd_last true d k acc hu0 hc] at hrd
    rw [show s.drop (a' + M) = [] from zc s _ (by omega), Pt.rd_nil, <- hrd, htk, hM, List.take_length]
   | some r =>
    obtain ⟨p, q⟩ := r
    rw [jX hc] at hM
    have hce := jb hc
    have hp0 : p ≠ [] := by intro e; rw [e] at hM; simp at hM; omega
    rw [Pt.rd_text true d k acc hc hp0] at hrd
    rw [<- List.drop_drop, htk, hM, hce, List.drop_left, List.take_left]
    exact hrd
  have hpos : 0 < M := by omega
  have HTT := qb htt.symm
  clear hM htt hu0 hul hM0 hrd
  have hn0 := HBF.out 0 hpos
  rw [Nat.add_zero] at hn0
  go_upto_region 3 with fail
  go_cut [41] (fun v wx => v = .bool true /\ wr = wx)
  case first =>
   as_aux_lemma =>
    by_cases hl1 : a' + 1 < s.length
    ·go_wp2
     go_meet
     case rel => exact ⟨rfl, rfl⟩
    go_wp2
    go_meet
    case rel => exact ⟨rfl, rfl⟩
  obtain ⟨rfl, rfl⟩ := hcut
  clear hn0
  go_wp2
  go_loop [10] (fun e => ∃ i : Nat, 1 <= i /\ i <= M /\ e = .int .i64 ((a' + i : Nat) : Int)) (fun e => s.length + 5 - (intOf e).toNat)
  case atStart => exact ⟨1, Nat.le_refl _, hpos, by go_num⟩
  obtain ⟨i, hi1, hi, rfl⟩ := hrel
  by_cases hlt2 : i < M
  ·have hno := HBF.out i hlt2
   have hl0 : a' + i < s.length := by omega
   by_cases hl : a' + i + 1 < s.length
   ·
    as_aux_lemma =>
     go_wp2
     go_round
     case rel => exact ⟨i + 1, by omega, by omega, by go_num⟩
     case measure => simp [intOf]; omega
   as_aux_lemma =>
    go_wp2
    go_round
    case rel => exact ⟨i + 1, by omega, by omega, by go_num⟩
    case measure => simp [intOf]; omega
  obtain rfl : i = M := by omega
  have HA2 := qb ((Below.refl wr.heap.size wr).alloc (Nat.le_refl _) (.cells #[.int .i64 1, sv tt, sv [], .slice none 0 0, .slice none 0 0] 115))
  have HRW := qb (zH (us := [zR tt]) (heap_alloc_new wr (.cells #[.int .i64 1, sv tt, sv [], .slice none 0 0, .slice none 0 0] 115)) rfl)
  have HP2 := qb (HP.out.keep HA2.out)
  have htt := HTT.out
  by_cases hl0 : a' + i < s.length
  ·have hl := HEN2.out hl0
   have hq := HEND.out hl
   go_wp2_with (at_builtin; refine zD rfl _ _ rfl w.heap.size A c rs [zR tt] (by rfl) HP2.out.own wr.heap.size 0 1 (by rfl) HRW.out (by simp) (by first | omega | (simp; done)) (by have := HB.out.size; simp; omega) ?_; intro A3 c3 w3 ho3 hg3 hbk3; have HN3 := qb (jO (x := Pt.txt tt) HB.out HP.out HA2.out (vp 1 tt []) ho3 hg3 hbk3); clear ho3 hg3 hbk3)
   go_roundw
   case rel => exact ⟨a' + i, acc ++ [Pt.txt tt], rs ++ [zR tt], A3, c3, k + 1, by go_num, by simp, by omega, HN3.out.1, by omega, HGF.out, by simp; omega, HN3.out.2⟩
   case measure => simp [intOf]; omega
  go_wp2_with (at_builtin; refine zD rfl _ _ rfl w.heap.size A c rs [zR tt] (by rfl) HP2.out.own wr.heap.size 0 1 (by rfl) HRW.out (by simp) (by first | omega | (simp; done)) (by have := HB.out.size; simp; omega) ?_; intro A3 c3 w3 ho3 hg3 hbk3; have HN3 := qb (jO (x := Pt.txt tt) HB.out HP.out HA2.out (vp 1 tt []) ho3 hg3 hbk3); clear ho3 hg3 hbk3)
  go_roundw
  case rel => exact ⟨a' + i, acc ++ [Pt.txt tt], rs ++ [zR tt], A3, c3, k + 1, by go_num, by simp, by omega, HN3.out.1, by omega, HGF.out, by simp; omega, HN3.out.2⟩
  case measure => simp [intOf]; omega
 have hex : ∃ q, cut2 123 (s.drop a') = some ([], q) := by
  cases hc : cut2 123 (s.drop a') with
  | none => rw [jW hc] at hM; omega
  | some r => obtain ⟨p, q⟩ := r; rw [jX hc] at hM; exact ⟨q, by rw [List.eq_nil_of_length_eq_zero (show p.length = 0 by omega)]⟩
 obtain ⟨q, hc⟩ := hex
 have hcl := jk hc
 rw [hul] at hcl
 have hl1 : a' + 1 < s.length := by simp at hcl; omega
 have hqq : s.drop (a' + 2) = q := by rw [<- List.drop_drop, jb hc]; rfl
 have hq0 : (List.drop a' (List.take (a' + 2) s) == [123, 123]) = true := by rw [xu, jb hc]; simp
 have HWD := qb (KR s a' wr (by omega) hs)
 rw [hqq] at HWD
 have HC := qb hc
 have HU0 := qb hu0
 have HRD := qb hrd
 have hql : q.length + a' + 2 <= s.length := by simp at hcl; omega
 have HQQ := qb hqq
 clear hM hMl hM0 hcl hc hu0 hul hrd hqq
 cases hc2 : cut2 125 q with
 | none =>
  rw [hc2] at HWD
  have HE : Hid (r = none) := by show _ = _; rw [<- HRD.out, Pt.rd_open true d k acc HU0.out HC.out hc2]
  clear hc2
  go_wp2_with fail
  refine HWD.out.mono ?_
  rintro e w1 ⟨hwp, rfl⟩
  obtain rfl : e = .returned (.tuple #[sv [], .int .i64 (-1)]) := hwp
  as_aux_lemma =>
   go_wp2
   refine bodyPost_ret (v := .tuple #[.slice A rs.length c, .int .i64 ((a' : Nat) : Int), sv badW]) (by simp [results, results81, go_sem, badW, *]) rfl ⟨?_, HB.out⟩
   rw [HE.out]
   exact ⟨A, rs.length, c, a', HA.out, rfl⟩
 | some wq =>
  obtain ⟨wd, s2⟩ := wq
  rw [hc2] at HWD
  have hcl2 := jk hc2
  obtain ⟨b, hb0⟩ : ∃ b, b = a' + 2 + wd.length + 2 := ⟨_, rfl⟩
  have hdb : s.drop b = s2 := by
   rw [hb0, show a' + 2 + wd.length + 2 = (a' + 2) + (wd.length + 2) by omega, <- List.drop_drop, HQQ.out, jb hc2, show wd ++ 125 :: 125 :: s2 = (wd ++ [125, 125]) ++ s2 by simp, show wd.length + 2 = (wd ++ [125, 125] : Tx).length by simp, List.drop_left]
  have HC2 := qb hc2
  have hbl : b <= s.length := by omega
  have hba : a' + 4 + wd.length <= b := by omega
  have HDB := qb hdb
  have HB0 := qb hb0
  clear hcl2 hc2 hdb hb0
  go_wp2_with fail
  refine HWD.out.mono ?_
  rintro e w1 ⟨hwp, rfl⟩
  obtain rfl : e = .returned (.tuple #[sv wd, .int .i64 (b : Int)]) := by rw [HB0.out]; exact hwp
  clear hwp
  by_cases hd0 : d = 0
  ·have hDn : D < 0 := by have := HD.out; omega
   have HE : Hid (r = none) := by show _ = _; rw [<- HRD.out, Pt.rd_none true d k acc HU0.out HC.out ⟨rfl, hd0⟩]
   clear hd0
   as_aux_lemma =>
    go_wp2
    refine bodyPost_ret (v := .tuple #[.slice A rs.length c, .int .i64 ((a' : Nat) : Int), sv badW]) (by simp [results, results81, go_sem, badW, *]) rfl ⟨?_, HB.out⟩
    rw [HE.out]
    exact ⟨A, rs.length, c, a', HA.out, rfl⟩
  have hDn : ¬ D < 0 := by have := HD.out; omega
  have hz0 : ¬ (true = true /\ d = 0) := fun h => hd0 h.2
  by_cases hw1 : wd = Pt.elseW
  ·have hq1 : (wd == [101, 108, 115, 101]) = true := by rw [hw1]; rfl
   have HE : Hid (r = some (acc, s2, wd)) := by show _ = _; rw [<- HRD.out, Pt.rd_stop true d k acc HU0.out HC.out HC2.out hz0 (Or.inr hw1), if_pos rfl]
   clear hw1
   as_aux_lemma =>
    go_wp2
    refine bodyPost_ret (v := .tuple #[.slice A rs.length c, .int .i64 ((b : Nat) : Int), sv wd]) (by simp [results, results81, go_sem, *]) rfl ⟨?_, HB.out⟩
    rw [HE.out]
    exact ⟨A, c, rs, b, hbl, HDB.out, rfl, HP.out⟩
  have hq1 : (wd == [101, 108, 115, 101]) = false := by simpa using hw1
  by_cases hw2 : wd = Pt.endW
  ·have hq2 : (wd == [101, 110, 100]) = true := by rw [hw2]; rfl
   have HE : Hid (r = some (acc, s2, wd)) := by show _ = _; rw [<- HRD.out, Pt.rd_stop true d k acc HU0.out HC.out HC2.out hz0 (Or.inl hw2), if_pos rfl]
   clear hw1 hw2
   as_aux_lemma =>
    go_wp2
    refine bodyPost_ret (v := .tuple #[.slice A rs.length c, .int .i64 ((b : Nat) : Int), sv wd]) (by simp [results, results81, go_sem, *]) rfl ⟨?_, HB.out⟩
    rw [HE.out]
    exact ⟨A, c, rs, b, hbl, HDB.out, rfl, HP.out⟩
  have hq2 : (wd == [101, 110, 100]) = false := by simpa using hw2
  have HW := qb (show ¬ (wd = Pt.endW \/ wd = Pt.elseW) from fun h => h.elim hw2 hw1)
  clear hw1 hw2
  obtain ⟨bI, hbI⟩ : ∃ bI, bI = Pt.pre true Pt.ifW wd := ⟨_, rfl⟩
  obtain ⟨bE, hbE⟩ : ∃ bE, bE = Pt.pre true Pt.eachW wd := ⟨_, rfl⟩
  have HPI : Hid (bI = (decide (3 < wd.length) && (List.take 3 wd == [105, 102, 32]))) := by show _ = _; rw [hbI, Qf, Qg]; rfl
  have HPE : Hid (bE = (decide (5 < wd.length) && (List.take 5 wd == [101, 97, 99, 104, 32]))) := by show _ = _; rw [hbE, Qf, Qg]; rfl
  have HBI := qb hbI
  have HBE := qb hbE
  have HXA := qb (heap_alloc_new wr (.cells #[.int .i64 2, sv [], sv wd, .slice none 0 0, .slice none 0 0] 115))
  have HBA := qb ((Below.refl wr.heap.size wr).alloc (Nat.le_refl _) (.cells #[.int .i64 2, sv [], sv wd, .slice none 0 0, .slice none 0 0] 115))
  have hza : wr.heap.size < (wr.alloc (.cells #[.int .i64 2, sv [], sv wd, .slice none 0 0, .slice none 0 0] 115)).heap.size := by simp
  clear hbI hbE
  go_upto_region 16 with fail
  generalize wr.alloc (.cells #[.int .i64 2, sv [], sv wd, .slice none 0 0, .slice none 0 0] 115) = wa at *
  go_cut [106] (fun v wx => v = .bool bI /\ wa = wx)
  case first =>
   as_aux_lemma =>
    by_cases hl3 : 3 < wd.length
    ·cases hq3 : (List.take 3 wd == [105, 102, 32])
     ·go_wp2
      go_meet
      case rel => exact ⟨by rw [HPI.out, hq3, Bool.and_false], rfl⟩
     go_wp2
     go_meet
     case rel => exact ⟨by rw [HPI.out, hq3, decide_eq_true hl3]; rfl, rfl⟩
    go_wp2
    go_meet
    case rel => exact ⟨by rw [HPI.out, decide_eq_false hl3, Bool.false_and], rfl⟩
  obtain ⟨rfl, hwx⟩ := hcut
  subst hwx
  obtain ⟨d', rfl⟩ : ∃ d', d = d' + 1 := ⟨d - 1, by omega⟩
  have HC1 := qb (fun b3 k3 (h : b3 <= s.length) (hk3 : s.length - b3 < k3) w5 => IH.out d' rfl (D - 1) s b3 k3 w5 (by have := HD.out; omega) (by omega) h hk3 hs)
  cases bI
  case true =>
   have hpre2 : Pt.pre true Pt.ifW wd = true := HBI.out.symm
   have HBF0 : Hid (bE = false) := by show _ = _; rw [HBE.out]; exact Qh hpre2
   have hpre : ¬ Pt.pre true Pt.eachW wd = true := by rw [Qh hpre2]; simp
   have h5 := xD hpre2
   have hgo := Pt.rd_if true (d' + 1) k acc HU0.out HC.out HC2.out (fun h => Nat.succ_ne_zero d' h.2) HW.out hpre hpre2
   rw [HRD.out, if_neg (Nat.succ_ne_zero d'), Nat.add_sub_cancel, if_pos rfl] at hgo
   obtain ⟨nm, hnm⟩ : ∃ nm, List.drop 3 wd = nm := ⟨_, rfl⟩
   rw [hnm] at hgo
   have HGO := qb hgo.symm
   simp only [List.length_cons, List.length_nil] at h5
   have HXB := qb (put5 (v0 := .int .i64 3) (v1 := sv []) (v2 := sv nm) (v3 := .slice none 0 0) (v4 := .slice none 0 0) HXA.out)
   have HBB := qb (vy HBA.out (Nat.le_refl _) (.int .i64 3) (sv []) (sv nm) (.slice none 0 0) (.slice none 0 0))
   obtain ⟨⟨f0, f1, f2, f3, f4⟩, g0, g1, g2, g3, g4⟩ := qI HXA.out
   clear hpre hpre2 hgo
   go_upto_region 18 with fail
   generalize ((((wa.setCell ⟨wr.heap.size, 0, none⟩ (.int .i64 3)).setCell ⟨wr.heap.size, 1, none⟩ (sv [])).setCell ⟨wr.heap.size, 2, none⟩ (sv nm)).setCell ⟨wr.heap.size, 3, none⟩ (.slice none 0 0)).setCell ⟨wr.heap.size, 4, none⟩ (.slice none 0 0) = wb at *
   clear f0 f1 f2 f3 f4 g0 g1 g2 g3 g4
   have hzb : wr.heap.size < wb.heap.size := lt_of_block HXB.out
   go_wp2_with fail
   refine (HC1.out b k hbl (by omega) wb).mono ?_
   rintro e w5 ⟨hr1, hb5⟩
   rw [HDB.out] at hr1
   have HB5 := qb (qa3 HBB.out hb5)
   have HX5 := qb (qi HXB.out hb5)
   have hz5 := hb5.size
   obtain ⟨⟨f0, f1, f2, f3, f4⟩, g0, g1, g2, g3, g4⟩ := qI HX5.out
   have hzx : wr.heap.size < w5.heap.size := by omega
   clear hb5
   generalize hrr : Pt.rd true d' k s2 [] = r1 at *
   obtain _ | ⟨xs, s3, st⟩ := r1
   ·obtain ⟨A5, l5, c5, a5, ha5, rfl⟩ := hr1
    have HE : Hid (r = none) := HGO.out.symm
    have HXs := qb (jN HX5.out (.slice A5 l5 c5))
    have HBz := qb (HB.out.trans ((HB5.out.setCell (p := ⟨wr.heap.size, 3, none⟩) (Nat.le_refl _) (.slice A5 l5 c5)).mono HB.out.size))
    clear hrr
    go_upto_region 22 with fail
    generalize w5.setCell ⟨wr.heap.size, 3, none⟩ (.slice A5 l5 c5) = ws at *
    clear f0 f1 f2 f3 f4 g0 g1 g2 g3 g4
    obtain ⟨⟨f0, f1, f2, f3, f4⟩, -⟩ := qI HXs.out
    go_upto_region 27 with fail
    go_cut [145] (fun v wx => v = .bool bE /\ ws = wx)
    case first =>
     as_aux_lemma =>
      by_cases hl5 : 5 < wd.length
      ·cases hq5 : (List.take 5 wd == [101, 97, 99, 104, 32])
       ·go_wp2
        go_meet
        case rel => exact ⟨by rw [HPE.out, hq5, Bool.and_false], rfl⟩
       go_wp2
       go_meet
       case rel => exact ⟨by rw [HPE.out, hq5, decide_eq_true hl5]; rfl, rfl⟩
      go_wp2
      go_meet
      case rel => exact ⟨by rw [HPE.out, decide_eq_false hl5, Bool.false_and], rfl⟩
    obtain ⟨rfl, hwx⟩ := hcut
    subst hwx
    obtain rfl := HBF0.out
    as_aux_lemma =>
     go_wp2
     refine bodyPost_ret (v := .tuple #[.slice A rs.length c, .int .i64 ((a' : Nat) : Int), sv badW]) (by simp [results, results81, go_sem, badW, *]) rfl ⟨?_, HBz.out⟩
     rw [HE.out]
     exact ⟨A, rs.length, c, a', HA.out, rfl⟩
   obtain ⟨A5, c5, rs5, a5, ha5, hd5, rfl, hp5⟩ := hr1
   dsimp only at hd5 hp5
   have HP5 := qb hp5
   have HS5 := qb (Pt.rd_size true k d' s2 [] hrr)
   have HGG := qb HGO.out
   dsimp only at HGG
   have hl3 : s3.length = s.length - a5 := by rw [<- hd5, List.length_drop]
   have hl2 : s2.length = s.length - b := by rw [<- HDB.out, List.length_drop]
   have hl31 : s3.length <= s.length - a5 := by omega
   have hl32 : s.length - a5 <= s3.length := by omega
   have hl21 : s2.length <= s.length - b := by omega
   have HD5 := qb hd5
   have HL5 := qb hp5.len
   have HC5 := qb hp5.cap
   clear hp5 hrr HGO hl3 hl2 hd5
   have HKS : Hid (∀ j, j ≠ wr.heap.size -> (w5.setCell ⟨wr.heap.size, 3, none⟩ (.slice A5 rs5.length c5)).heap[j]? = w5.heap[j]?) := fun j hj => Below.heap_setCell _ _ _ _ hj
   have hss1 : w5.heap.size <= (w5.setCell ⟨wr.heap.size, 3, none⟩ (.slice A5 rs5.length c5)).heap.size := by simp [World.setCell]
   have hss2 : (w5.setCell ⟨wr.heap.size, 3, none⟩ (.slice A5 rs5.length c5)).heap.size <= w5.heap.size := by simp [World.setCell]
   have HXs := qb (jN HX5.out (.slice A5 rs5.length c5))
   have HBs := qb (HB5.out.setCell (p := ⟨wr.heap.size, 3, none⟩) (Nat.le_refl _) (.slice A5 rs5.length c5))
   have HBz := qb (qa3 HB.out HBs.out)
   clear HX5
   go_upto_region 22 with fail
   generalize w5.setCell ⟨wr.heap.size, 3, none⟩ (.slice A5 rs5.length c5) = ws at *
   clear f0 f1 f2 f3 f4 g0 g1 g2 g3 g4
   by_cases hsl : st = Pt.elseW
   ·rw [if_neg (show ¬ st = Pt.endW by rw [hsl]; decide), if_pos hsl] at HGG
    have hs31 : Pt.sz xs + s3.length + 2 <= s2.length := by have h1 := HS5.out.2.1 (by rw [hsl]; simp); have h0 : Pt.sz [] = 0 := rfl; omega
    have hq6 : (st == [101, 108, 115, 101]) = true := by rw [hsl]; rfl
    clear hsl
    go_upto_region 23 with fail
    go_wp2_with fail
    refine (HC1.out a5 k ha5 (by omega) ws).mono ?_
    rintro e w6 ⟨hr2, hb6⟩
    rw [HD5.out] at hr2
    have HB6 := qb (qa3 HBs.out hb6)
    have HX6 := qb (qi HXs.out hb6)
    have hz6 := hb6.size
    have HK6 := qb (fun j (h : j < ws.heap.size) => hb6.block j h)
    obtain ⟨⟨f0, f1, f2, f3, f4⟩, g0, g1, g2, g3, g4⟩ := qI HX6.out
    have hzx6 : wr.heap.size < w6.heap.size := by omega
    clear hb6
    generalize hrr : Pt.rd true d' k s3 [] = r2 at *
    obtain _ | ⟨ys, s4, su⟩ := r2
    ·obtain ⟨A6, l6, c6, a6, ha6, rfl⟩ := hr2
     have HE : Hid (r = none) := HGG.out.symm
     have HXt := qb (xj HX6.out (.slice A6 l6 c6))
     have HBz2 := qb (HB.out.trans ((HB6.out.setCell (p := ⟨wr.heap.size, 4, none⟩) (Nat.le_refl _) (.slice A6 l6 c6)).mono HB.out.size))
     clear hrr
     go_upto_region 26 with fail
     generalize w6.setCell ⟨wr.heap.size, 4, none⟩ (.slice A6 l6 c6) = wt at *
     clear f0 f1 f2 f3 f4 g0 g1 g2 g3 g4
     obtain ⟨⟨f0, f1, f2, f3, f4⟩, -⟩ := qI HXt.out
     go_upto_region 27 with fail
     go_cut [145] (fun v wx => v = .bool bE /\ wt = wx)
     case first =>
      as_aux_lemma =>
       by_cases hl5 : 5 < wd.length
       ·cases hq5 : (List.take 5 wd == [101, 97, 99, 104, 32])
        ·go_wp2
         go_meet
         case rel => exact ⟨by rw [HPE.out, hq5, Bool.and_false], rfl⟩
        go_wp2
        go_meet
        case rel => exact ⟨by rw [HPE.out, hq5, decide_eq_true hl5]; rfl, rfl⟩
       go_wp2
       go_meet
       case rel => exact ⟨by rw [HPE.out, decide_eq_false hl5, Bool.false_and], rfl⟩
     obtain ⟨rfl, hwx⟩ := hcut
     subst hwx
     obtain rfl := HBF0.out
     as_aux_lemma =>
      go_wp2
      refine bodyPost_ret (v := .tuple #[.slice A rs.length c, .int .i64 ((a' : Nat) : Int), sv badW]) (by simp [results, results81, go_sem, badW, *]) rfl ⟨?_, HBz2.out⟩
      rw [HE.out]
      exact ⟨A, rs.length, c, a', HA.out, rfl⟩
    obtain ⟨A6, c6, rs6, a6, ha6, hd6, rfl, hp6⟩ := hr2
    dsimp only at hd6 hp6
    have HP6 := qb hp6
    have HS6 := qb (Pt.rd_size true k d' s3 [] hrr)
    have HGH := qb HGG.out
    dsimp only at HGH
    have hl4 : s4.length = s.length - a6 := by rw [<- hd6, List.length_drop]
    have hl41 : s4.length <= s.length - a6 := by omega
    have hl42 : s.length - a6 <= s4.length := by omega
    have HD6 := qb hd6
    have HL6 := qb hp6.len
    have HC6 := qb hp6.cap
    have HKU : Hid (∀ j, j ≠ wr.heap.size -> (w6.setCell ⟨wr.heap.size, 4, none⟩ (.slice A6 rs6.length c6)).heap[j]? = w6.heap[j]?) := fun j hj => Below.heap_setCell _ _ _ _ hj
    have hst1 : w6.heap.size <= (w6.setCell ⟨wr.heap.size, 4, none⟩ (.slice A6 rs6.length c6)).heap.size := by simp [World.setCell]
    have HXT := qb (xj HX6.out (.slice A6 rs6.length c6))
    have HBT := qb (HB6.out.setCell (p := ⟨wr.heap.size, 4, none⟩) (Nat.le_refl _) (.slice A6 rs6.length c6))
    have HBz2 := qb (qa3 HB.out HBT.out)
    clear hp6 hrr HX6 HGG hl4 hd6
    go_upto_region 26 with fail
    generalize w6.setCell ⟨wr.heap.size, 4, none⟩ (.slice A6 rs6.length c6) = wt at *
    clear f0 f1 f2 f3 f4 g0 g1 g2 g3 g4
    obtain ⟨⟨f0, f1, f2, f3, f4⟩, -⟩ := qI HXT.out
    go_upto_region 27 with fail
    go_cut [145] (fun v wx => v = .bool bE /\ wt = wx)
    case first =>
     as_aux_lemma =>
      by_cases hl5 : 5 < wd.length
      ·cases hq5 : (List.take 5 wd == [101, 97, 99, 104, 32])
       ·go_wp2
        go_meet
        case rel => exact ⟨by rw [HPE.out, hq5, Bool.and_false], rfl⟩
       go_wp2
       go_meet
       case rel => exact ⟨by rw [HPE.out, hq5, decide_eq_true hl5]; rfl, rfl⟩
      go_wp2
      go_meet
      case rel => exact ⟨by rw [HPE.out, decide_eq_false hl5, Bool.false_and], rfl⟩
    obtain ⟨rfl, hwx⟩ := hcut
    subst hwx
    obtain rfl := HBF0.out
    by_cases hue : su = Pt.endW
    ·rw [if_pos hue] at HGH
     have hs41 : Pt.sz ys + s4.length + 2 <= s3.length := by have h1 := HS6.out.2.1 (by rw [hue]; simp); have h0 : Pt.sz [] = 0 := rfl; omega
     have HGF := qb HGH.out
     rw [<- HD6.out] at HGF
     have hq7 : (su == [101, 110, 100]) = true := by rw [hue]; rfl
     have HKT : Hid (∀ j, wb.heap.size <= j -> j < w5.heap.size -> wt.heap[j]? = w5.heap[j]?) := fun j h1 h2 => (HKU.out j (by omega)).trans ((HK6.out j (by omega)).trans (HKS.out j (by omega)))
     have HKV : Hid (∀ j, ws.heap.size <= j -> j < w6.heap.size -> wt.heap[j]? = w6.heap[j]?) := fun j h1 h2 => HKU.out j (by omega)
     clear hue
     have HKW : Hid (∀ j, j < wt.heap.size -> (wt.alloc (.cells #[.int .i64 3, sv [], sv nm, .slice A5 rs5.length c5, .slice A6 rs6.length c6] 115)).heap[j]? = wt.heap[j]?) := fun j hj => heap_alloc_old wt _ hj
     have hsw1 : wt.heap.size + 1 <= (wt.alloc (.cells #[.int .i64 3, sv [], sv nm, .slice A5 rs5.length c5, .slice A6 rs6.length c6] 115)).heap.size := by simp
     have HBW := qb (HBT.out.alloc HBT.out.size (.cells #[.int .i64 3, sv [], sv nm, .slice A5 rs5.length c5, .slice A6 rs6.length c6] 115))
     have HRW := qb (zH (us := [⟨3, [], nm, A5, rs5.length, c5, A6, rs6.length, c6⟩]) (heap_alloc_new wt (.cells #[.int .i64 3, sv [], sv nm, .slice A5 rs5.length c5, .slice A6 rs6.length c6] 115)) rfl)
     have HP9 := qb (HP.out.keep HBW.out)
     have HIN : Hid (InP (wt.alloc (.cells #[.int .i64 3, sv [], sv nm, .slice A5 rs5.length c5, .slice A6 rs6.length c6] 115)) (fun j => wr.heap.size <= j /\ j < (wt.alloc (.cells #[.int .i64 3, sv [], sv nm, .slice A5 rs5.length c5, .slice A6 rs6.length c6] 115)).heap.size) (.mk 3 [] nm xs ys) (Raw.v ⟨3, [], nm, A5, rs5.length, c5, A6, rs6.length, c6⟩)) := by
      refine kB HL5.out (xE HP5.out (fun j h1 h2 => ?_) (fun j h1 h2 => ⟨by omega, by omega⟩)) HC5.out HL6.out (xE HP6.out (fun j h1 h2 => (HKW.out j (by omega)).trans (HKV.out j h1 h2)) (fun j h1 h2 => ⟨by omega, by omega⟩)) HC6.out
      exact (HKW.out j (by omega)).trans (HKT.out j (by omega) (by omega))
     obtain ⟨⟨b0, b1, b2, b3, b4⟩, -⟩ := qI HXT.out
     have hr8 : rs.length <= 1048576 := hrl
     have hwz : w.heap.size <= wt.heap.size := by have := HB.out.size; have := HBT.out.size; omega
     go_wp2_with (at_builtin; refine zD rfl _ _ rfl w.heap.size A c rs [⟨3, [], nm, A5, rs5.length, c5, A6, rs6.length, c6⟩] (by rfl) HP9.out.own wt.heap.size 0 1 (by rfl) HRW.out (by simp) (by first | omega | (simp; done)) (by simp; omega) ?_; intro A3 c3 w3 ho3 hg3 hbk3; have HN3 := qb (jO HB.out HP.out HBW.out HIN.out ho3 hg3 hbk3); clear ho3 hg3 hbk3)
     go_roundw
     case rel => exact ⟨a6, acc ++ [.mk 3 [] nm xs ys], rs ++ [⟨3, [], nm, A5, rs5.length, c5, A6, rs6.length, c6⟩], A3, c3, k, rfl, by simp, ha6, HN3.out.1, by omega, HGF.out, by simp; omega, HN3.out.2⟩
     case measure => simp [intOf]; omega
    rw [if_neg hue] at HGH
    have HE : Hid (r = none) := HGH.out.symm
    have hq7 : (su == [101, 110, 100]) = false := by simpa using hue
    clear hue
    as_aux_lemma =>
     go_wp2
     refine bodyPost_ret (v := .tuple #[.slice A rs.length c, .int .i64 ((a' : Nat) : Int), sv badW]) (by simp [results, results81, go_sem, badW, *]) rfl ⟨?_, HBz2.out⟩
     rw [HE.out]
     exact ⟨A, rs.length, c, a', HA.out, rfl⟩
   have hq6 : (st == [101, 108, 115, 101]) = false := by simpa using hsl
   obtain ⟨⟨f0, f1, f2, f3, f4⟩, -⟩ := qI HXs.out
   go_upto_region 27 with fail
   go_cut [145] (fun v wx => v = .bool bE /\ ws = wx)
   case first =>
    as_aux_lemma =>
     by_cases hl5 : 5 < wd.length
     ·cases hq5 : (List.take 5 wd == [101, 97, 99, 104, 32])
      ·go_wp2
       go_meet
       case rel => exact ⟨by rw [HPE.out, hq5, Bool.and_false], rfl⟩
      go_wp2
      go_meet
      case rel => exact ⟨by rw [HPE.out, hq5, decide_eq_true hl5]; rfl, rfl⟩
     go_wp2
     go_meet
     case rel => exact ⟨by rw [HPE.out, decide_eq_false hl5, Bool.false_and], rfl⟩
   obtain ⟨rfl, hwx⟩ := hcut
   subst hwx
   obtain rfl := HBF0.out
   by_cases hse : st = Pt.endW
   ·rw [if_pos hse] at HGG
    have hs31 : Pt.sz xs + s3.length + 2 <= s2.length := by have h1 := HS5.out.2.1 (by rw [hse]; simp); have h0 : Pt.sz [] = 0 := rfl; omega
    have HGF := qb HGG.out
    rw [<- HD5.out] at HGF
    have hq7 : (st == [101, 110, 100]) = true := by rw [hse]; rfl
    have HBT := HBs
    have HXT := HXs
    have HKT : Hid (∀ j, wb.heap.size <= j -> j < w5.heap.size -> ws.heap[j]? = w5.heap[j]?) := fun j h1 h2 => HKS.out j (by omega)
    clear hse hsl
    have HKW : Hid (∀ j, j < ws.heap.size -> (ws.alloc (.cells #[.int .i64 3, sv [], sv nm, .slice A5 rs5.length c5, .slice none 0 0] 115)).heap[j]? = ws.heap[j]?) := fun j hj => heap_alloc_old ws _ hj
    have hsw1 : ws.heap.size + 1 <= (ws.alloc (.cells #[.int .i64 3, sv [], sv nm, .slice A5 rs5.length c5, .slice none 0 0] 115)).heap.size := by simp
    have HBW := qb (HBT.out.alloc HBT.out.size (.cells #[.int .i64 3, sv [], sv nm, .slice A5 rs5.length c5, .slice none 0 0] 115))
    have HRW := qb (zH (us := [⟨3, [], nm, A5, rs5.length, c5, none, 0, 0⟩]) (heap_alloc_new ws (.cells #[.int .i64 3, sv [], sv nm, .slice A5 rs5.length c5, .slice none 0 0] 115)) rfl)
    have HP9 := qb (HP.out.keep HBW.out)
    have HIN : Hid (InP (ws.alloc (.cells #[.int .i64 3, sv [], sv nm, .slice A5 rs5.length c5, .slice none 0 0] 115)) (fun j => wr.heap.size <= j /\ j < (ws.alloc (.cells #[.int .i64 3, sv [], sv nm, .slice A5 rs5.length c5, .slice none 0 0] 115)).heap.size) (.mk 3 [] nm xs []) (Raw.v ⟨3, [], nm, A5, rs5.length, c5, none, 0, 0⟩)) := by
     refine kB HL5.out (xE HP5.out (fun j h1 h2 => ?_) (fun j h1 h2 => ⟨by omega, by omega⟩)) HC5.out rfl RdP.nil_ (Nat.le_refl 0)
     exact (HKW.out j (by omega)).trans (HKT.out j (by omega) (by omega))
    obtain ⟨⟨b0, b1, b2, b3, b4⟩, -⟩ := qI HXT.out
    have hr8 : rs.length <= 1048576 := hrl
    have hwz : w.heap.size <= ws.heap.size := by have := HB.out.size; have := HBT.out.size; omega
    go_wp2_with (at_builtin; refine zD rfl _ _ rfl w.heap.size A c rs [⟨3, [], nm, A5, rs5.length, c5, none, 0, 0⟩] (by rfl) HP9.out.own ws.heap.size 0 1 (by rfl) HRW.out (by simp) (by first | omega | (simp; done)) (by simp; omega) ?_; intro A3 c3 w3 ho3 hg3 hbk3; have HN3 := qb (jO HB.out HP.out HBW.out HIN.out ho3 hg3 hbk3); clear ho3 hg3 hbk3)
    go_roundw
    case rel => exact ⟨a5, acc ++ [.mk 3 [] nm xs []], rs ++ [⟨3, [], nm, A5, rs5.length, c5, none, 0, 0⟩], A3, c3, k, rfl, by simp, ha5, HN3.out.1, by omega, HGF.out, by simp; omega, HN3.out.2⟩
    case measure => simp [intOf]; omega
   rw [if_neg hse, if_neg hsl] at HGG
   have HE : Hid (r = none) := HGG.out.symm
   have hq7 : (st == [101, 110, 100]) = false := by simpa using hse
   clear hse hsl
   as_aux_lemma =>
    go_wp2
    refine bodyPost_ret (v := .tuple #[.slice A rs.length c, .int .i64 ((a' : Nat) : Int), sv badW]) (by simp [results, results81, go_sem, badW, *]) rfl ⟨?_, HBz.out⟩
    rw [HE.out]
    exact ⟨A, rs.length, c, a', HA.out, rfl⟩
  have hpre2 : ¬ Pt.pre true Pt.ifW wd = true := by rw [<- HBI.out]; simp
  obtain ⟨⟨f0, f1, f2, f3, f4⟩, g0, g1, g2, g3, g4⟩ := qI HXA.out
  go_upto_region 27 with fail
  go_cut [145] (fun v wx => v = .bool bE /\ wa = wx)
  case first =>
   as_aux_lemma =>
    by_cases hl5 : 5 < wd.length
    ·cases hq5 : (List.take 5 wd == [101, 97, 99, 104, 32])
     ·go_wp2
      go_meet
      case rel => exact ⟨by rw [HPE.out, hq5, Bool.and_false], rfl⟩
     go_wp2
     go_meet
     case rel => exact ⟨by rw [HPE.out, hq5, decide_eq_true hl5]; rfl, rfl⟩
    go_wp2
    go_meet
    case rel => exact ⟨by rw [HPE.out, decide_eq_false hl5, Bool.false_and], rfl⟩
  obtain ⟨rfl, hwx⟩ := hcut
  subst hwx
  cases bE
  case true =>
   have hpre : Pt.pre true Pt.eachW wd = true := HBE.out.symm
   have h5 := xD hpre
   have hgo := Pt.rd_each true (d' + 1) k acc HU0.out HC.out HC2.out (fun h => Nat.succ_ne_zero d' h.2) HW.out hpre
   rw [HRD.out, if_neg (Nat.succ_ne_zero d'), Nat.add_sub_cancel, if_pos rfl] at hgo
   obtain ⟨nm, hnm⟩ : ∃ nm, List.drop 5 wd = nm := ⟨_, rfl⟩
   rw [hnm] at hgo
   have HGO := qb hgo.symm
   simp only [List.length_cons, List.length_nil] at h5
   have HXB := HXA
   have HBB := HBA
   have hzb := hza
   clear hpre hpre2 hgo f0 f1 f2 f3 f4 g0 g1 g2 g3 g4
   go_wp2_with fail
   refine (HC1.out b k hbl (by omega) wa).mono ?_
   rintro e w5 ⟨hr1, hb5⟩
   rw [HDB.out] at hr1
   have HB5 := qb (qa3 HBB.out hb5)
   have HX5 := qb (qi HXB.out hb5)
   have hz5 := hb5.size
   obtain ⟨⟨f0, f1, f2, f3, f4⟩, g0, g1, g2, g3, g4⟩ := qI HX5.out
   have hzx : wr.heap.size < w5.heap.size := by omega
   clear hb5
   generalize hrr : Pt.rd true d' k s2 [] = r1 at *
   obtain _ | ⟨xs, s3, st⟩ := r1
   ·obtain ⟨A5, l5, c5, a5, ha5, rfl⟩ := hr1
    have HE : Hid (r = none) := HGO.out.symm
    have HXs := qb (put5 (v0 := .int .i64 4) (v1 := sv []) (v2 := sv nm) (v3 := .slice A5 l5 c5) (v4 := .slice none 0 0) HX5.out)
    have HBz := qb (HB.out.trans ((vy HB5.out (Nat.le_refl _) (.int .i64 4) (sv []) (sv nm) (.slice A5 l5 c5) (.slice none 0 0)).mono HB.out.size))
    clear hrr
    go_upto_region 30 with fail
    generalize ((((w5.setCell ⟨wr.heap.size, 0, none⟩ (.int .i64 4)).setCell ⟨wr.heap.size, 1, none⟩ (sv [])).setCell ⟨wr.heap.size, 2, none⟩ (sv nm)).setCell ⟨wr.heap.size, 3, none⟩ (.slice A5 l5 c5)).setCell ⟨wr.heap.size, 4, none⟩ (.slice none 0 0) = ws at *
    clear f0 f1 f2 f3 f4 g0 g1 g2 g3 g4
    obtain ⟨⟨f0, f1, f2, f3, f4⟩, -⟩ := qI HXs.out
    as_aux_lemma =>
     go_wp2
     refine bodyPost_ret (v := .tuple #[.slice A rs.length c, .int .i64 ((a' : Nat) : Int), sv badW]) (by simp [results, results81, go_sem, badW, *]) rfl ⟨?_, HBz.out⟩
     rw [HE.out]
     exact ⟨A, rs.length, c, a', HA.out, rfl⟩
   obtain ⟨A5, c5, rs5, a5, ha5, hd5, rfl, hp5⟩ := hr1
   dsimp only at hd5 hp5
   have HP5 := qb hp5
   have HS5 := qb (Pt.rd_size true k d' s2 [] hrr)
   have HGG := qb HGO.out
   dsimp only at HGG
   have hl3 : s3.length = s.length - a5 := by rw [<- hd5, List.length_drop]
   have hl2 : s2.length = s.length - b := by rw [<- HDB.out, List.length_drop]
   have hl31 : s3.length <= s.length - a5 := by omega
   have hl32 : s.length - a5 <= s3.length := by omega
   have hl21 : s2.length <= s.length - b := by omega
   have HD5 := qb hd5
   have HL5 := qb hp5.len
   have HC5 := qb hp5.cap
   clear hp5 hrr HGO hl3 hl2 hd5
   have HKS : Hid (∀ j, j ≠ wr.heap.size -> (((((w5.setCell ⟨wr.heap.size, 0, none⟩ (.int .i64 4)).setCell ⟨wr.heap.size, 1, none⟩ (sv [])).setCell ⟨wr.heap.size, 2, none⟩ (sv nm)).setCell ⟨wr.heap.size, 3, none⟩ (.slice A5 rs5.length c5)).setCell ⟨wr.heap.size, 4, none⟩ (.slice none 0 0)).heap[j]? = w5.heap[j]?) := fun j hj => KS hj _ _ _ _ _
   have hss1 : w5.heap.size <= (((((w5.setCell ⟨wr.heap.size, 0, none⟩ (.int .i64 4)).setCell ⟨wr.heap.size, 1, none⟩ (sv [])).setCell ⟨wr.heap.size, 2, none⟩ (sv nm)).setCell ⟨wr.heap.size, 3, none⟩ (.slice A5 rs5.length c5)).setCell ⟨wr.heap.size, 4, none⟩ (.slice none 0 0)).heap.size := by simp [World.setCell]
   have HXs := qb (put5 (v0 := .int .i64 4) (v1 := sv []) (v2 := sv nm) (v3 := .slice A5 rs5.length c5) (v4 := .slice none 0 0) HX5.out)
   have HBs := qb (vy HB5.out (Nat.le_refl _) (.int .i64 4) (sv []) (sv nm) (.slice A5 rs5.length c5) (.slice none 0 0))
   have HBz := qb (qa3 HB.out HBs.out)
   clear HX5
   go_upto_region 30 with fail
   generalize ((((w5.setCell ⟨wr.heap.size, 0, none⟩ (.int .i64 4)).setCell ⟨wr.heap.size, 1, none⟩ (sv [])).setCell ⟨wr.heap.size, 2, none⟩ (sv nm)).setCell ⟨wr.heap.size, 3, none⟩ (.slice A5 rs5.length c5)).setCell ⟨wr.heap.size, 4, none⟩ (.slice none 0 0) = ws at *
   clear f0 f1 f2 f3 f4 g0 g1 g2 g3 g4
   obtain ⟨⟨f0, f1, f2, f3, f4⟩, -⟩ := qI HXs.out
   by_cases hse : st = Pt.endW
   ·rw [if_pos hse] at HGG
    have hs31 : Pt.sz xs + s3.length + 2 <= s2.length := by have h1 := HS5.out.2.1 (by rw [hse]; simp); have h0 : Pt.sz [] = 0 := rfl; omega
    have HGF := qb HGG.out
    rw [<- HD5.out] at HGF
    have hq7 : (st == [101, 110, 100]) = true := by rw [hse]; rfl
    have HBT := HBs
    have HXT := HXs
    have HKT : Hid (∀ j, wa.heap.size <= j -> j < w5.heap.size -> ws.heap[j]? = w5.heap[j]?) := fun j h1 h2 => HKS.out j (by omega)
    clear hse
    have HKW : Hid (∀ j, j < ws.heap.size -> (ws.alloc (.cells #[.int .i64 4, sv [], sv nm, .slice A5 rs5.length c5, .slice none 0 0] 115)).heap[j]? = ws.heap[j]?) := fun j hj => heap_alloc_old ws _ hj
    have hsw1 : ws.heap.size + 1 <= (ws.alloc (.cells #[.int .i64 4, sv [], sv nm, .slice A5 rs5.length c5, .slice none 0 0] 115)).heap.size := by simp
    have HBW := qb (HBT.out.alloc HBT.out.size (.cells #[.int .i64 4, sv [], sv nm, .slice A5 rs5.length c5, .slice none 0 0] 115))
    have HRW := qb (zH (us := [⟨4, [], nm, A5, rs5.length, c5, none, 0, 0⟩]) (heap_alloc_new ws (.cells #[.int .i64 4, sv [], sv nm, .slice A5 rs5.length c5, .slice none 0 0] 115)) rfl)
    have HP9 := qb (HP.out.keep HBW.out)
    have HIN : Hid (InP (ws.alloc (.cells #[.int .i64 4, sv [], sv nm, .slice A5 rs5.length c5, .slice none 0 0] 115)) (fun j => wr.heap.size <= j /\ j < (ws.alloc (.cells #[.int .i64 4, sv [], sv nm, .slice A5 rs5.length c5, .slice none 0 0] 115)).heap.size) (.mk 4 [] nm xs []) (Raw.v ⟨4, [], nm, A5, rs5.length, c5, none, 0, 0⟩)) := by
     refine kB HL5.out (xE HP5.out (fun j h1 h2 => ?_) (fun j h1 h2 => ⟨by omega, by omega⟩)) HC5.out rfl RdP.nil_ (Nat.le_refl 0)
     exact (HKW.out j (by omega)).trans (HKT.out j (by omega) (by omega))
    obtain ⟨⟨b0, b1, b2, b3, b4⟩, -⟩ := qI HXT.out
    have hr8 : rs.length <= 1048576 := hrl
    have hwz : w.heap.size <= ws.heap.size := by have := HB.out.size; have := HBT.out.size; omega
    go_wp2_with (at_builtin; refine zD rfl _ _ rfl w.heap.size A c rs [⟨4, [], nm, A5, rs5.length, c5, none, 0, 0⟩] (by rfl) HP9.out.own ws.heap.size 0 1 (by rfl) HRW.out (by simp) (by first | omega | (simp; done)) (by simp; omega) ?_; intro A3 c3 w3 ho3 hg3 hbk3; have HN3 := qb (jO HB.out HP.out HBW.out HIN.out ho3 hg3 hbk3); clear ho3 hg3 hbk3)
    go_roundw
    case rel => exact ⟨a5, acc ++ [.mk 4 [] nm xs []], rs ++ [⟨4, [], nm, A5, rs5.length, c5, none, 0, 0⟩], A3, c3, k, rfl, by simp, ha5, HN3.out.1, by omega, HGF.out, by simp; omega, HN3.out.2⟩
    case measure => simp [intOf]; omega
   rw [if_neg hse] at HGG
   have HE : Hid (r = none) := HGG.out.symm
   have hq7 : (st == [101, 110, 100]) = false := by simpa using hse
   clear hse
   as_aux_lemma =>
    go_wp2
    refine bodyPost_ret (v := .tuple #[.slice A rs.length c, .int .i64 ((a' : Nat) : Int), sv badW]) (by simp [results, results81, go_sem, badW, *]) rfl ⟨?_, HBz.out⟩
    rw [HE.out]
    exact ⟨A, rs.length, c, a', HA.out, rfl⟩
  have hpre : ¬ Pt.pre true Pt.eachW wd = true := by rw [<- HBE.out]; simp
  have hgo := Pt.rd_hole true (d' + 1) k acc HU0.out HC.out HC2.out (fun h => Nat.succ_ne_zero d' h.2) HW.out hpre hpre2
  rw [HRD.out, if_pos rfl] at hgo
  have HGF := qb hgo.symm
  rw [<- HDB.out] at HGF
  have HBW := qb (HBA.out.alloc HBA.out.size (.cells #[.int .i64 2, sv [], sv wd, .slice none 0 0, .slice none 0 0] 115))
  have HRW := qb (zH (us := [⟨2, [], wd, none, 0, 0, none, 0, 0⟩]) (heap_alloc_new wa (.cells #[.int .i64 2, sv [], sv wd, .slice none 0 0, .slice none 0 0] 115)) rfl)
  have HP9 := qb (HP.out.keep HBW.out)
  have hwz : w.heap.size <= wa.heap.size := by have := HB.out.size; have := HBA.out.size; omega
  clear hpre hpre2 hgo
  go_wp2_with (at_builtin; refine zD rfl _ _ rfl w.heap.size A c rs [⟨2, [], wd, none, 0, 0, none, 0, 0⟩] (by rfl) HP9.out.own wa.heap.size 0 1 (by rfl) HRW.out (by simp) (by first | omega | (simp; done)) (by simp; omega) ?_; intro A3 c3 w3 ho3 hg3 hbk3; have HN3 := qb (jO (x := Pt.hole wd) HB.out HP.out HBW.out (vp 2 [] wd) ho3 hg3 hbk3); clear ho3 hg3 hbk3)
  go_roundw
  case rel => exact ⟨b, acc ++ [Pt.hole wd], rs ++ [⟨2, [], wd, none, 0, 0, none, 0, 0⟩], A3, c3, k, rfl, by simp, hbl, HN3.out.1, by omega, HGF.out, by simp; omega, HN3.out.2⟩
  case measure => simp [intOf]; omega
theorem KT (d : Nat) : RsC d := by
 induction d with
 | zero => exact Qi 0 fun d' h => by omega
 | succ d ih => exact Qi (d + 1) fun d' h => by obtain rfl : d = d' := (by omega); exact ih
end Go.Proofs.YtmboieajfdkllaaGreat
