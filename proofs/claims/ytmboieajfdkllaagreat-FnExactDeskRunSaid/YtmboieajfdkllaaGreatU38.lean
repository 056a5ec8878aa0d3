import Derived.Test.YtmboieajfdkllaaGreatU05
import Derived.Test.YtmboieajfdkllaaGreatU02
import Derived.Test.YtmboieajfdkllaaGreatU01
import Derived.Test.YtmboieajfdkllaaGreatU32
set_option maxHeartbeats 8000000
set_option maxRecDepth 100000
open Go.Proofs.Tryz
namespace Go.Proofs.YtmboieajfdkllaaGreat
open Go.RowKit Go.Deep
namespace Pt
mutual
def cntM : Pt -> Nat
 | mk _ _ _ xs ys => 3 + cntMs xs + cntMs ys
def cntMs : List Pt -> Nat
 | [] => 0
 | x :: s => cntM x + cntMs s
end
mutual
def mkN : Nat -> Pt -> Pt
 | k, mk _ _ _ xs ys => mk ((k : Nat) : Int) (qL (k + 1)) (qL (k + 2)) (mkNs (k + 3) xs) (mkNs (k + 3 + cntMs xs) ys)
def mkNs : Nat -> List Pt -> List Pt
 | _, [] => []
 | k, x :: s => mkN k x :: mkNs (k + cntM x) s
end
theorem mkNs_len : ∀ (k : Nat) (xs : List Pt), (mkNs k xs).length = xs.length
 | _, [] => by simp [mkNs]
 | k, x :: s => by simp [mkNs, mkNs_len (k + cntM x) s]
theorem mkNs_snoc : ∀ (k : Nat) (xs : List Pt) (y : Pt), mkNs k (xs ++ [y]) = mkNs k xs ++ [mkN (k + cntMs xs) y]
 | k, [], y => by simp [mkNs, cntMs]
 | k, x :: s, y => by
  simp only [List.cons_append, mkNs, mkNs_snoc (k + cntM x) s y, cntMs]
  rw [Nat.add_assoc]
theorem cntMs_snoc : ∀ (xs : List Pt) (y : Pt), cntMs (xs ++ [y]) = cntMs xs + cntM y
 | [], y => by simp [cntMs]
 | x :: s, y => by simp only [List.cons_append, cntMs, cntMs_snoc s y]; omega
theorem cntMs_take (xs : List Pt) (j : Nat) (h : j < xs.length) : cntMs (xs.take (j + 1)) = cntMs (xs.take j) + cntM xs[j] := by
 rw [zu xs j h, cntMs_snoc]
theorem cntMs_take_le : ∀ (xs : List Pt) (j : Nat), cntMs (xs.take j) <= cntMs xs
 | [], j => by simp
 | x :: s, 0 => by simp [cntMs]
 | x :: s, j + 1 => by have := cntMs_take_le s j; simp only [List.take_succ_cons, cntMs]; omega
theorem cntMs_len : ∀ xs : List Pt, xs.length <= cntMs xs
 | [] => by simp
 | x :: s => by
  have := cntMs_len s
  cases x
  simp only [List.length_cons, cntMs, cntM]
  omega
theorem mkNs_get : ∀ (k : Nat) (xs : List Pt) (j : Nat) (h : j < xs.length), (mkNs k xs)[j]'(by rw [mkNs_len]; exact h) = mkN (k + cntMs (xs.take j)) xs[j]
 | k, x :: s, 0, h => by simp [mkNs, cntMs]
 | k, x :: s, j + 1, h => by
  simp only [mkNs, List.getElem_cons_succ, List.take_succ_cons, cntMs]
  rw [mkNs_get (k + cntM x) s j (by simpa using h), Nat.add_assoc]
theorem cntMs_list {xs : List Pt} (ih : ∀ x ∈ xs, cntM x <= 3 + 3 * size x) : cntMs xs <= 3 * (xs.length + sizes xs) := by
 induction xs with
 | nil => simp [cntMs]
 | cons x t ih2 =>
  have h1 := ih x (by simp)
  have h2 := ih2 fun y hy => ih y (List.mem_cons_of_mem _ hy)
  simp only [cntMs, sizes, List.length_cons]
  omega
theorem cntM_size (x : Pt) : cntM x <= 3 + 3 * size x := by
 induction x using ind with
 | h k t n xs ys ih1 ih2 =>
  simp only [cntM, size]
  have h1 := cntMs_list ih1
  have h2 := cntMs_list ih2
  omega
theorem cntMs_size (xs : List Pt) : cntMs xs <= 3 * (xs.length + sizes xs) := cntMs_list (fun x _ => cntM_size x)
end Pt
theorem KE {G L1 P M1 O M2 Lb : List Nat} (h : (G ++ (L1 ++ (((P ++ M1) ++ (O ++ M2)) ++ Lb))).Nodup) :
  (∀ b, b ∈ G -> b ∉ L1 /\ b ∉ P /\ b ∉ M1 /\ b ∉ O /\ b ∉ M2 /\ b ∉ Lb) /\ (∀ b, b ∈ P ++ M1 -> b ∉ G /\ b ∉ L1 /\ b ∉ O /\ b ∉ M2 /\ b ∉ Lb) /\ (∀ b, b ∈ O ++ M2 -> b ∉ G /\ b ∉ L1 /\ b ∉ P /\ b ∉ M1 /\ b ∉ Lb) /\ (P ++ M1).Nodup /\ (O ++ M2).Nodup := by
 simp only [List.nodup_append, List.mem_append] at h ⊢
 grind
theorem VB (rs1 rs2 : List Raw) (r r' : Raw) (i : Nat) (u : Value) (hr : r'.cs = r.cs.set i u) (hi : i < 5) : (zb (rs1 ++ r :: rs2)).set (rs1.length * 5 + i) u = zb (rs1 ++ r' :: rs2) := by
 rw [xI, xI, zb, zb, List.set_append_right _ _ (by rw [jq]; omega), jq, show rs1.length * 5 + i - rs1.length * 5 = i by omega,
  List.set_append_left _ _ (by simpa using hi), hr]
section
variable {w w' : World} {g c : Nat} {rs1 rs2 : List Raw} {r : Raw}
theorem xl (h : OwnN w 0 (some ⟨g, 0, none⟩) c (rs1 ++ r :: rs2)) :
  (w.cell? ⟨g, rs1.length * 5, none⟩ = some (.int .i64 r.k) /\ w.cell? ⟨g, rs1.length * 5 + 1, none⟩ = some (sv r.t) /\ w.cell? ⟨g, rs1.length * 5 + 2, none⟩ = some (sv r.n) /\ w.cell? ⟨g, rs1.length * 5 + 3, none⟩ = some (.slice r.Ap r.lp r.cp) /\ w.cell? ⟨g, rs1.length * 5 + 4, none⟩ = some (.slice r.Ao r.lo r.co)) ∧
  (w.frozen? ⟨g, rs1.length * 5, none⟩ = false /\ w.frozen? ⟨g, rs1.length * 5 + 1, none⟩ = false /\ w.frozen? ⟨g, rs1.length * 5 + 2, none⟩ = false) := by
 have hl : (rs1 ++ r :: rs2).length = rs1.length + 1 + rs2.length := by simp; omega
 have key : ∀ i, i < 5 -> w.cell? ⟨g, rs1.length * 5 + i, none⟩ = r.cs[i]? := fun i hi => by
  rw [h.cellAt (rs1.length * 5 + i) (by rw [hl, Nat.add_mul, Nat.add_mul]; omega)]
  exact xJ _ _ r i (by simp) hi
 exact ⟨⟨key 0 (by omega), key 1 (by omega), key 2 (by omega), key 3 (by omega), key 4 (by omega)⟩, h.frozenAt _, h.frozenAt _, h.frozenAt _⟩
theorem vA (h : OwnN w 0 (some ⟨g, 0, none⟩) c (rs1 ++ r :: rs2)) (r' : Raw) (i : Nat) (u : Value) (hr : r'.cs = r.cs.set i u) (hi : i < 5) : OwnN (w.setCell ⟨g, rs1.length * 5 + i, none⟩ u) 0 (some ⟨g, 0, none⟩) c (rs1 ++ r' :: rs2) := by
 have h1 := (h.stored (rs1.length * 5 + i) u).1
 rw [VB rs1 rs2 r r' i u hr hi] at h1
 unfold OwnN
 rw [show (rs1 ++ r' :: rs2).length = (rs1 ++ r :: rs2).length by simp]
 exact h1
end
theorem OwPs.chg {w w' : World} {xs : List Pt} {rs : List Raw} {L M : List Nat} (h : OwPs w xs rs L) (hc : Chg w w' M) (hd : ∀ b, b ∈ M -> b ∉ L) : OwPs w' xs rs L := h.keep fun b hb => hc.block b (h.lt b hb) (fun e => hd b e hb)
theorem zZ {w w' : World} {base size n c : Nat} {A : Option Addr} {e : TypeId} {xs : List Value} {M : List Nat} (h : w.ownsRow base e size (.slice A n c) n xs) (hc : Chg w w' M) (hd : ∀ b, b ∈ M -> b ∉ bk A n c) : w'.ownsRow base e size (.slice A n c) n xs :=
 zt h fun g hg => hc.block g (h.lt g hg).2 (fun e => hd g e (qO.2 hg))
theorem OwP.mk {w : World} {k : Int} {t n : Tx} {xs ys : List Pt} {rs qs : List Raw} {L1 L2 L : List Nat} {Ap Ao : Option Addr} {cp co : Nat} (h1 : OwnN w 0 Ap cp rs) (h2 : OwPs w xs rs L1) (h3 : OwnN w 0 Ao co qs) (h4 : OwPs w ys qs L2) (hL : L = (bk Ap xs.length cp ++ L1) ++ (bk Ao ys.length co ++ L2)) : OwP w (.mk k t n xs ys) ⟨k, t, n, Ap, xs.length, cp, Ao, ys.length, co⟩ L := by
 rw [OwP]
 exact ⟨rfl, rfl, rfl, rfl, rfl, rs, L1, qs, L2, h1, h2, h3, h4, hL⟩
def MkC (xs : List Pt) : Prop := ∀ (rs : List Raw) (A : Option Addr) (c k : Nat) (z : Int) (L : List Nat) (w : World), z = (k : Int) -> OwnN w 0 A c rs -> OwPs w xs rs L -> (bk A rs.length c ++ L).Nodup -> 0 < k -> k + Pt.cntMs xs <= 4611686018427387904 →
 Calls Tryz.prog 53 #[.slice A xs.length c, .int .i64 z] w fun e w' => e = .returned (.int .i64 ((k : Int) + (Pt.cntMs xs : Int))) /\ ∃ rs', rs'.length = rs.length /\ OwnN w' 0 A c rs' /\ OwPs w' (Pt.mkNs k xs) rs' L /\ Chg w w' (bk A rs.length c ++ L)
theorem kF (xs : List Pt) (ih : ∀ x ∈ xs, MkC x.parts /\ MkC x.other) : MkC xs := by
 intro rs A c k z L w hz ho ht hnd hk0 hkn
 subst hz
 have IH := qb ih
 have HO := qb ho
 have HT := qb ht
 have HND := qb hnd
 have hrx : rs.length = xs.length := ht.len
 have hxl : xs.length <= 4611686018427387904 := by have := Pt.cntMs_len xs; omega
 clear ih ho ht hnd
 go_enter func53, ntmps53
 go_wp2
 go_loopw [1, 5] (fun m i wr => ∃ (j : Nat) (rs1 rs2 : List Raw) (L1 L2 : List Nat), j <= xs.length /\ i = .int .i64 j /\ m = .int .i64 ((k : Int) + (Pt.cntMs (xs.take j) : Int)) /\ rs1.length = j /\ (rs1 ++ rs2).length = rs.length /\ L = L1 ++ L2 /\ OwnN wr 0 A c (rs1 ++ rs2) /\ OwPs wr (Pt.mkNs k (xs.take j)) rs1 L1 /\ OwPs wr (xs.drop j) rs2 L2 /\ Chg w wr (bk A rs.length c ++ L)) (fun _ i _ => xs.length - (intOf i).toNat)
 case atStart => exact ⟨0, [], rs, [], L, Nat.zero_le _, rfl, by simp [Pt.cntMs], rfl, rfl, rfl, HO.out, by simp [Pt.mkNs, OwPs], by simpa using HT.out, Chg.refl _ _⟩
 obtain ⟨j, rs1, rs2, L1, L2, hj, rfl, rfl, hr1, hr12, rfl, ho, ht1, ht2, hc⟩ := hrel
 by_cases hlt : j < xs.length
 ·rw [qX xs j hlt, OwPs] at ht2
  obtain ⟨r, rs2', La, Lb, rfl, rfl, ht, ht2⟩ := ht2
  have HCT := qb (Pt.cntMs_take xs j hlt)
  have hle := Pt.cntMs_take_le xs (j + 1)
  rw [HCT.out] at hle
  have IHX := qb (IH.out xs[j] (List.getElem_mem hlt))
  have HMK : Hid (Pt.mkNs k (xs.take (j + 1)) = Pt.mkNs k (xs.take j) ++ [Pt.mkN (k + Pt.cntMs (xs.take j)) xs[j]]) := by
   show _ = _
   rw [zu xs j hlt, Pt.mkNs_snoc]
  generalize xs[j] = x at *
  cases x with
  | mk kd tt nn us vs =>
  simp only [Pt.cntM, Pt.parts, Pt.other] at hle HCT IHX
  generalize Pt.cntMs (xs.take j) = ct at *
  rw [OwP] at ht
  obtain ⟨e1, e2, e3, e4, e5, rsp, M1, rso, M2, hop, hpp, hoo, hpo, rfl⟩ := ht
  obtain ⟨rk, rt, rn, Ap, rlp, cp, Ao, rlo, co⟩ := r
  simp only at e1 e2 e3 e4 e5 hop hoo
  subst e1 e2 e3 e4 e5
  have hrpos : 0 < (rs1 ++ ⟨rk, rt, rn, Ap, us.length, cp, Ao, vs.length, co⟩ :: rs2').length := by simp; omega
  obtain ⟨g, rfl, -, hgs⟩ := zJ ho hrpos
  have hbg : bk (some ⟨g, 0, none⟩) rs.length c = [g] := rfl
  rw [hbg] at hc HND
  obtain ⟨hG, hP, hQ, hPn, hQn⟩ := KE HND.out
  have HG := qb (hG g (by simp))
  have HP := qb hP
  have HQ := qb hQ
  have HPN := qb hPn
  have HQN := qb hQn
  obtain ⟨⟨x0, x1, x2, x3, x4⟩, x5, x6, x7⟩ := xl ho
  have hset1 := vA ho ⟨((k + ct : Nat) : Int), rt, rn, Ap, us.length, cp, Ao, vs.length, co⟩ 0 (.int .i64 ((k : Int) + (ct : Int))) (by simp) (by omega)
  have hcg : Chg wr (wr.setCell ⟨g, rs1.length * 5 + 0, none⟩ (.int .i64 ((k : Int) + (ct : Int)))) [g] := Chg.setCell (by simp)
  rw [Nat.add_zero] at hset1 hcg
  subst hr1
  have HS2 := qb hset1
  have HC0 := qb (hc.trans hcg (fun b hb => .inl (by simp at hb; simp [hb])))
  have hyp := hpp.len
  have hyo := hpo.len
  have HT10 := qb ht1
  have HT20 := qb ht2
  have HOP0 := qb hop
  have HPP0 := qb hpp
  have HOO0 := qb hoo
  have HPO0 := qb hpo
  clear ho ht1 ht2 hc hop hoo hpp hpo hset1 hG hP hQ hPn hQn
  have HT1a := qb (HT10.out.chg hcg (fun b hb => by simp at hb; subst hb; exact HG.out.1))
  have HT2a := qb (HT20.out.chg hcg (fun b hb => by simp at hb; subst hb; exact HG.out.2.2.2.2.2))
  have HOPa := qb (zZ HOP0.out hcg (fun b hb => by simp at hb; subst hb; rw [hyp]; exact HG.out.2.1))
  have HPPa := qb (HPP0.out.chg hcg (fun b hb => by simp at hb; subst hb; exact HG.out.2.2.1))
  have HOOa := qb (zZ HOO0.out hcg (fun b hb => by simp at hb; subst hb; rw [hyo]; exact HG.out.2.2.2.1))
  have HPOa := qb (HPO0.out.chg hcg (fun b hb => by simp at hb; subst hb; exact HG.out.2.2.2.2.1))
  clear HT10 HT20 HOP0 HPP0 HOO0 HPO0 hcg
  go_wp2_with fail
  generalize wr.setCell ⟨g, rs1.length * 5, none⟩ (.int .i64 ((k : Int) + (ct : Int))) = wa at *
  refine (je (k + ct + 1) _ (by omega) (by omega) (by omega) _).mono ?_
  rintro e w1 ⟨rfl, hb1⟩
  have hs1 := jy HS2.out hb1
  clear x0 x1 x2 x3 x4 x5 x6 x7
  obtain ⟨⟨x0, x1, x2, x3, x4⟩, x5, x6, x7⟩ := xl hs1
  have hset3 := vA hs1 ⟨((k + ct : Nat) : Int), qL (k + ct + 1), rn, Ap, us.length, cp, Ao, vs.length, co⟩ 1 (sv (qL (k + ct + 1))) (by simp) (by omega)
  have hcb : Chg wa (w1.setCell ⟨g, rs1.length * 5 + 1, none⟩ (sv (qL (k + ct + 1)))) [g] := (Chg.of_below hb1 [g]).trans (Chg.setCell (L := [g]) (by simp)) (fun b hb => .inl hb)
  have HS3 := qb hset3
  have HC1 := qb (HC0.out.trans hcb (fun b hb => .inl (by simp at hb; simp [hb])))
  have HT1b := qb (HT1a.out.chg hcb (fun b hb => by simp at hb; subst hb; exact HG.out.1))
  have HT2b := qb (HT2a.out.chg hcb (fun b hb => by simp at hb; subst hb; exact HG.out.2.2.2.2.2))
  have HOPb := qb (zZ HOPa.out hcb (fun b hb => by simp at hb; subst hb; rw [hyp]; exact HG.out.2.1))
  have HPPb := qb (HPPa.out.chg hcb (fun b hb => by simp at hb; subst hb; exact HG.out.2.2.1))
  have HOOb := qb (zZ HOOa.out hcb (fun b hb => by simp at hb; subst hb; rw [hyo]; exact HG.out.2.2.2.1))
  have HPOb := qb (HPOa.out.chg hcb (fun b hb => by simp at hb; subst hb; exact HG.out.2.2.2.2.1))
  clear HT1a HT2a HOPa HPPa HOOa HPOa hcb hb1 hs1 hset3 HS2 HC0
  go_wp2_with fail
  generalize w1.setCell ⟨g, rs1.length * 5 + 1, none⟩ (sv (qL (k + ct + 1))) = wb at *
  refine (je (k + ct + 2) _ (by omega) (by omega) (by omega) _).mono ?_
  rintro e w2 ⟨rfl, hb1⟩
  have hs1 := jy HS3.out hb1
  clear x0 x1 x2 x3 x4 x5 x6 x7
  obtain ⟨⟨x0, x1, x2, x3, x4⟩, x5, x6, x7⟩ := xl hs1
  have hset3 := vA hs1 ⟨((k + ct : Nat) : Int), qL (k + ct + 1), qL (k + ct + 2), Ap, us.length, cp, Ao, vs.length, co⟩ 2 (sv (qL (k + ct + 2))) (by simp) (by omega)
  have hcb : Chg wb (w2.setCell ⟨g, rs1.length * 5 + 2, none⟩ (sv (qL (k + ct + 2)))) [g] := (Chg.of_below hb1 [g]).trans (Chg.setCell (L := [g]) (by simp)) (fun b hb => .inl hb)
  have HS4 := qb hset3
  have HC2 := qb (HC1.out.trans hcb (fun b hb => .inl (by simp at hb; simp [hb])))
  have HT1c := qb (HT1b.out.chg hcb (fun b hb => by simp at hb; subst hb; exact HG.out.1))
  have HT2c := qb (HT2b.out.chg hcb (fun b hb => by simp at hb; subst hb; exact HG.out.2.2.2.2.2))
  have HOPc := qb (zZ HOPb.out hcb (fun b hb => by simp at hb; subst hb; rw [hyp]; exact HG.out.2.1))
  have HPPc := qb (HPPb.out.chg hcb (fun b hb => by simp at hb; subst hb; exact HG.out.2.2.1))
  have HOOc := qb (zZ HOOb.out hcb (fun b hb => by simp at hb; subst hb; rw [hyo]; exact HG.out.2.2.2.1))
  have HPOc := qb (HPOb.out.chg hcb (fun b hb => by simp at hb; subst hb; exact HG.out.2.2.2.2.1))
  clear HT1b HT2b HOPb HPPb HOOb HPOb hcb hb1 hs1 hset3 HS3 HC1
  go_upto_region 12 with fail
  generalize w2.setCell ⟨g, rs1.length * 5 + 2, none⟩ (sv (qL (k + ct + 2))) = wc at *
  clear x0 x1 x2 x3 x4 x5 x6 x7
  obtain ⟨⟨x0, x1, x2, x3, x4⟩, -⟩ := xl HS4.out
  go_wp2_with fail
  refine (IHX.out.1 rsp Ap cp (k + ct + 3) _ M1 wc (by omega) HOPc.out HPPc.out (by rw [hyp]; exact HPN.out) (by omega) (by omega)).mono ?_
  rintro e w3 ⟨rfl, rsp', hlp, hop3, hpp3, hcd⟩
  rw [hyp] at hcd
  have HC3 := qb (HC2.out.trans hcd (fun b hb => .inl (by simp only [List.mem_append] at hb ⊢; exact .inr (.inr (.inl (.inl hb))))))
  have HS5 := qb (zZ HS4.out hcd (fun b hb e => (HP.out b hb).1 e))
  have HT1d := qb (HT1c.out.chg hcd (fun b hb => (HP.out b hb).2.1))
  have HT2d := qb (HT2c.out.chg hcd (fun b hb => (HP.out b hb).2.2.2.2))
  have HOOd := qb (zZ HOOc.out hcd (fun b hb => by rw [hyo]; exact (HP.out b hb).2.2.1))
  have HPOd := qb (HPOc.out.chg hcd (fun b hb => (HP.out b hb).2.2.2.1))
  have HOPd := qb hop3
  have HPPd := qb hpp3
  clear hcd hop3 hpp3 HC2 HS4 HT1c HT2c HOOc HPOc HOPc HPPc x0 x1 x2 x3 x4
  obtain ⟨⟨x0, x1, x2, x3, x4⟩, -⟩ := xl (r := ⟨((k + ct : Nat) : Int), qL (k + ct + 1), qL (k + ct + 2), Ap, us.length, cp, Ao, vs.length, co⟩) HS5.out
  go_wp2_with fail
  refine (IHX.out.2 rso Ao co (k + ct + 3 + Pt.cntMs us) _ M2 w3 (by omega) HOOd.out HPOd.out (by rw [hyo]; exact HQN.out) (by omega) (by omega)).mono ?_
  rintro e w4 ⟨rfl, rso', hlo, hoo4, hpo4, hcd⟩
  rw [hyo] at hcd
  have HC4 := qb (HC3.out.trans hcd (fun b hb => .inl (by simp only [List.mem_append] at hb ⊢; exact .inr (.inr (.inl (.inr hb))))))
  have HS6 := qb (zZ HS5.out hcd (fun b hb e => (HQ.out b hb).1 e))
  have HT1e := qb (HT1d.out.chg hcd (fun b hb => (HQ.out b hb).2.1))
  have HT2e := qb (HT2d.out.chg hcd (fun b hb => (HQ.out b hb).2.2.2.2))
  have HOPe := qb (zZ HOPd.out hcd (fun b hb => by rw [hlp, hyp]; exact (HQ.out b hb).2.2.1))
  have HPPe := qb (HPPd.out.chg hcd (fun b hb => (HQ.out b hb).2.2.2.1))
  have HOOe := qb hoo4
  have HPOe := qb hpo4
  clear hcd hoo4 hpo4 HC3 HS5 HT1d HT2d HOOd HPOd HOPd HPPd x0 x1 x2 x3 x4
  go_wp2
  go_roundw
  case rel =>
   refine ⟨rs1.length + 1, rs1 ++ [⟨((k + ct : Nat) : Int), qL (k + ct + 1), qL (k + ct + 2), Ap, us.length, cp, Ao, vs.length, co⟩], rs2', L1 ++ ((bk Ap us.length cp ++ M1) ++ (bk Ao vs.length co ++ M2)), Lb, by omega, by go_num, ?_, by simp, by rw [<- hr12]; simp, by simp [List.append_assoc], ?_, ?_, HT2e.out, ?_⟩
   ·rw [HCT.out]; go_num
   ·have h := HS6.out; unfold OwnN; rw [List.append_assoc]; exact h
   ·rw [HMK.out]
    refine HT1e.out.snoc ?_
    have hw := OwP.mk (k := ((k + ct : Nat) : Int)) (t := qL (k + ct + 1)) (n := qL (k + ct + 2)) (L := (bk Ap us.length cp ++ M1) ++ (bk Ao vs.length co ++ M2)) HOPe.out HPPe.out HOOe.out HPOe.out (by rw [Pt.mkNs_len, Pt.mkNs_len])
    rw [Pt.mkNs_len, Pt.mkNs_len] at hw
    rw [Pt.mkN]
    exact hw
   exact HC4.out
  case measure => simp [intOf]; omega
 have hjx : xs.take j = xs := List.take_of_length_le (by omega)
 have hdx : xs.drop j = [] := zc xs j (by omega)
 rw [hjx] at ht1
 rw [hdx, OwPs] at ht2
 obtain ⟨rfl, rfl⟩ := ht2
 have HT1 := qb ht1
 have HO1 := qb ho
 have HC1 := qb hc
 clear ht1 ho hc
 go_wp2
 go_ret
 refine ⟨qA (by rw [hjx]), rs1, by simpa using hr12, by simpa using HO1.out, by simpa using HT1.out, HC1.out⟩
theorem Xt (x : Pt) : MkC x.parts /\ MkC x.other := by
 induction x using Pt.ind with
 | h k t n xs ys ih1 ih2 => exact ⟨kF xs ih1, kF ys ih2⟩
theorem Xu (xs : List Pt) : MkC xs := kF xs (fun x _ => Xt x)
namespace Fd
def cntM (f : Fd) : Nat := 3 + f.items.length
def cntMs : List Fd -> Nat
 | [] => 0
 | x :: s => cntM x + cntMs s
def third (k : Nat) : Bool := decide ((k : Int) % 3 = 0)
def mkN (k : Nat) (f : Fd) : Fd := ⟨qL k, qL (k + 1), third (k + 2), zr (k + 3) f.items.length⟩
def mkNs : Nat -> List Fd -> List Fd
 | _, [] => []
 | k, x :: s => mkN k x :: mkNs (k + cntM x) s
theorem mkNs_len : ∀ (k : Nat) (xs : List Fd), (mkNs k xs).length = xs.length
 | _, [] => by simp [mkNs]
 | k, x :: s => by simp [mkNs, mkNs_len (k + cntM x) s]
theorem mkNs_snoc : ∀ (k : Nat) (xs : List Fd) (y : Fd), mkNs k (xs ++ [y]) = mkNs k xs ++ [mkN (k + cntMs xs) y]
 | k, [], y => by simp [mkNs, cntMs]
 | k, x :: s, y => by
  simp only [List.cons_append, mkNs, mkNs_snoc (k + cntM x) s y, cntMs]
  rw [Nat.add_assoc]
theorem cntMs_snoc : ∀ (xs : List Fd) (y : Fd), cntMs (xs ++ [y]) = cntMs xs + cntM y
 | [], y => by simp [cntMs]
 | x :: s, y => by simp only [List.cons_append, cntMs, cntMs_snoc s y]; omega
theorem cntMs_take (xs : List Fd) (j : Nat) (h : j < xs.length) : cntMs (xs.take (j + 1)) = cntMs (xs.take j) + cntM xs[j] := by
 rw [zu xs j h, cntMs_snoc]
theorem cntMs_take_le : ∀ (xs : List Fd) (j : Nat), cntMs (xs.take j) <= cntMs xs
 | [], j => by simp
 | x :: s, 0 => by simp [cntMs]
 | x :: s, j + 1 => by have := cntMs_take_le s j; simp only [List.take_succ_cons, cntMs]; omega
theorem cntMs_len : ∀ xs : List Fd, xs.length <= cntMs xs
 | [] => by simp
 | x :: s => by
  have := cntMs_len s
  simp only [List.length_cons, cntMs, cntM]
  omega
theorem mkNs_get : ∀ (k : Nat) (xs : List Fd) (j : Nat) (h : j < xs.length), (mkNs k xs)[j]'(by rw [mkNs_len]; exact h) = mkN (k + cntMs (xs.take j)) xs[j]
 | k, x :: s, 0, h => by simp [mkNs, cntMs]
 | k, x :: s, j + 1, h => by
  simp only [mkNs, List.getElem_cons_succ, List.take_succ_cons, cntMs]
  rw [mkNs_get (k + cntM x) s j (by simpa using h), Nat.add_assoc]
theorem cntMs_size : ∀ xs : List Fd, cntMs xs <= 3 * (xs.length + sizes xs)
 | [] => by simp [cntMs]
 | x :: s => by
  have := cntMs_size s
  have h2 : sizes (x :: s) = size x + sizes s := by simp [sizes]
  rw [h2]
  simp only [cntMs, cntM, size, List.length_cons]
  omega
end Fd
theorem xy {α : Type} {a b : List α} {x y : α} {j : Nat} (h : a.length = j) : (a ++ x :: b).set j y = a ++ y :: b := by
 subst h
 rw [List.set_append_right _ _ (Nat.le_refl _), Nat.sub_self, List.set_cons_zero]
theorem jh {α : Type} {a b : List α} {x : α} {j : Nat} (h : a.length = j) : (a ++ x :: b)[j]? = some x := by
 subst h
 rw [List.getElem?_append_right (Nat.le_refl _), Nat.sub_self, List.getElem?_cons_zero]
theorem kz {α : Type} {l : List α} {j : Nat} {x y : α} (h : l[j]? = some x) : (l.set j y)[j]? = some y := List.getElem?_set_self (List.getElem?_eq_some_iff.1 h).1
def Stay (B E : Nat) (w w' : World) : Prop := w.heap.size <= w'.heap.size /\ ∀ j, j < w.heap.size -> (j < B \/ E <= j) -> w'.heap[j]? = w.heap[j]?
theorem Stay.refl (B E : Nat) (w : World) : Stay B E w w := ⟨Nat.le_refl _, fun _ _ _ => rfl⟩
theorem Stay.trans {B E : Nat} {a b c : World} (h : Stay B E a b) (k : Stay B E b c) : Stay B E a c := ⟨Nat.le_trans h.1 k.1, fun j hj hn => (k.2 j (Nat.lt_of_lt_of_le hj h.1) hn).trans (h.2 j hj hn)⟩
theorem Stay.of_below {B E : Nat} {w w' : World} (h : Below w.heap.size w w') : Stay B E w w' := ⟨h.size, fun j hj _ => h.block j hj⟩
theorem Stay.set {B E : Nat} {w : World} {p : Addr} {v : Value} (h1 : B <= p.block) (h2 : p.block < E) : Stay B E w (w.setCell p v) := ⟨by simp [World.setCell], fun j _ hn => Below.heap_setCell _ _ _ _ (fun e => by rcases hn with hn | hn <;> omega)⟩
theorem Stay.grown {B E : Nat} {w w' : World} {row : Option Nat} (h : w.grownBy w' row) (hr : ∀ g, row = some g -> B <= g /\ g < E) : Stay B E w w' := ⟨h.size, fun j hj hn => h.block j hj (fun e => by have := hr j e.symm; rcases hn with hn | hn <;> omega)⟩
theorem Stay.chg {B E : Nat} {w w' : World} {L : List Nat} (h : Chg w w' L) (hL : ∀ b ∈ L, B <= b /\ b < E) : Stay B E w w' := ⟨h.size, fun j hj hn => h.block j hj (fun e => by have := hL j e; rcases hn with hn | hn <;> omega)⟩
theorem KD (ps : List Tx) (base : Nat) (A : Option Addr) (c k : Nat) (z : Int) (w : World) (hz : z = (k : Int)) (hown : OwnS w base A c ps) (hk0 : 0 < k) (hkn : k + ps.length <= 4611686018427387904) :
  Calls Tryz.prog 20 #[.slice A ps.length c, .int .i64 z] w fun e w' => e = .returned (.int .i64 ((k : Int) + (ps.length : Int))) /\ OwnS w' base A c (zr k ps.length) /\ w.grownBy w' (Value.ownBlock (.slice A ps.length c)) := by
 subst hz
 exact (Kq ps base A c k w hown hk0 hkn).mono fun _ _ ⟨h1, h2, h3⟩ => ⟨by rw [h1]; exact qA (by omega), h2, h3⟩
theorem Xs (xs : List Fd) (rs : List FRaw) (A : Option Addr) (c k B : Nat) (z : Int) (E : Nat) (w : World) (hz : z = (k : Int)) (h : FLo w B A c rs xs) (hE : ∀ b ∈ bk A rs.length c ++ fblk rs, b < E) (hBw : B <= w.heap.size) (hk0 : 0 < k) (hkn : k + Fd.cntMs xs <= 4611686018427387904) :
  Calls Tryz.prog 54 #[.slice A xs.length c, .int .i64 z] w fun e w' => e = .returned (.int .i64 ((k : Int) + (Fd.cntMs xs : Int))) /\ (∃ rs', rs'.length = rs.length /\ FLo w' B A c rs' (Fd.mkNs k xs) /\ (∀ b ∈ bk A rs'.length c ++ fblk rs', b < E)) /\ Below B w w' /\ OffT 115 w w' /\ Stay B E w w' := by
 subst hz
 have HL := qb h
 have HLT : Hid (∀ (i : Nat) (r : FRaw), rs[i]? = some r -> ∀ b ∈ bk r.A r.l r.c, b < E) := fun i r hr b hb => hE b (List.mem_append_right _ (jm.2 ⟨r, List.mem_of_getElem? hr, hb⟩))
 have HGT : Hid (∀ b ∈ bk A rs.length c, b < E) := fun b hb => hE b (List.mem_append_left _ hb)
 have hrx : rs.length <= xs.length := Nat.le_of_eq h.len
 have hrx2 : xs.length <= rs.length := Nat.le_of_eq h.len.symm
 have hxl : xs.length <= 4611686018427387904 := by have := Fd.cntMs_len xs; omega
 clear h hE
 go_enter func54, ntmps54
 go_wp2
 go_loopw [1, 5] (fun m i wr => ∃ (j : Nat) (rs1 : List FRaw), j <= xs.length /\ i = .int .i64 j /\ m = .int .i64 ((k : Int) + (Fd.cntMs (xs.take j) : Int)) /\ rs1.length = rs.length /\ FLo wr B A c rs1 (Fd.mkNs k (xs.take j) ++ xs.drop j) /\ Below B w wr /\ OffT 115 w wr /\ Stay B E w wr /\ (∀ (i : Nat) (r : FRaw), rs1[i]? = some r -> ∀ b ∈ bk r.A r.l r.c, b < E)) (fun _ i _ => xs.length - (intOf i).toNat)
 case atStart => exact ⟨0, rs, Nat.zero_le _, rfl, by simp [Fd.cntMs], rfl, by simpa [Fd.mkNs] using HL.out, Below.refl _ _, OffT.refl _ _, Stay.refl _ _ _, HLT.out⟩
 obtain ⟨j, rs1, hj, rfl, rfl, hr1, hl, hb, hof, hst, hlt1⟩ := hrel
 have HST := qb hst
 have HL1T := qb hlt1
 have HB := qb hb
 have HF := qb hof
 clear hb hof hst hlt1
 by_cases hlt : j < xs.length
 ·rw [qX xs j hlt] at hl
  have HCT := qb (Fd.cntMs_take xs j hlt)
  have hle := Fd.cntMs_take_le xs (j + 1)
  rw [HCT.out] at hle
  have HMK : Hid (Fd.mkNs k (xs.take (j + 1)) = Fd.mkNs k (xs.take j) ++ [Fd.mkN (k + Fd.cntMs (xs.take j)) xs[j]]) := by
   show _ = _
   rw [zu xs j hlt, Fd.mkNs_snoc]
  generalize xs[j] = x at *
  obtain ⟨n0, t0, h0, is⟩ := x
  simp only [Fd.cntM] at hle HCT
  have hP : (Fd.mkNs k (xs.take j)).length = j := by rw [Fd.mkNs_len, List.length_take]; omega
  generalize Fd.mkNs k (xs.take j) = P at *
  generalize Fd.cntMs (xs.take j) = ct at *
  obtain ⟨g, rfl, hgB, hgs⟩ := zJ hl.own (by rw [hl.len]; simp; omega)
  have hjl : j < rs1.length := by rw [hl.len]; simp; omega
  have hrj : rs1[j]? = some rs1[j] := List.getElem?_eq_getElem hjl
  generalize rs1[j] = r1 at hrj
  obtain ⟨n1, t1, h1, A1, l1, c1⟩ := r1
  have hel := hl.els j _ _ hrj (jh hP)
  have hl1 : l1 = is.length := hel.2.2.2.1
  subst hl1
  have HLr := qb hl
  have HRJ := qb hrj
  have HPL := qb hP
  have hBr : B <= wr.heap.size := Nat.le_trans hBw HB.out.size
  have hgw : g < wr.heap.size := hgs
  clear hl hel hrj hP
  go_wp2_with fail
  refine (je (k + ct) _ (by omega) (by omega) (by omega) _).mono ?_
  rintro e w1 ⟨rfl, hb1⟩
  have h1k := HLr.out.keep hb1
  obtain ⟨x0, x1, x2, x3, y0, y1, y2, y3⟩ := h1k.cells_of HRJ.out
  have h2 := h1k.cell HRJ.out (jh HPL.out) (j := 0) (by omega) ⟨qL (k + ct), t1, h1, A1, is.length, c1⟩ ⟨qL (k + ct), t0, h0, is⟩ (v := sv (qL (k + ct))) rfl ⟨rfl, rfl, rfl⟩ ⟨rfl, (h1k.els j _ _ HRJ.out (jh HPL.out)).2.1, (h1k.els j _ _ HRJ.out (jh HPL.out)).2.2.1, rfl⟩
  have hb2 : Below B w (w1.setCell ⟨g, j * 4 + 0, none⟩ (sv (qL (k + ct)))) := (HB.out.trans (hb1.mono hBr)).setCell (by show B <= g; omega) _
  rw [xy HPL.out, Nat.add_zero] at h2
  rw [Nat.add_zero] at hb2
  have HL2 := qb h2
  have HB2 := qb hb2
  have HF2 := qb ((HF.out.trans (OffT.of_below hb1)).trans (OffT.set (p := ⟨g, j * 4, none⟩) (v := sv (qL (k + ct))) (h1k.ty.1 g rfl) (by decide)))
  have hgE : g < E := HGT.out g (by show g ∈ [g]; simp)
  have HST2 := qb ((HST.out.trans (Stay.of_below hb1)).trans (Stay.set (p := ⟨g, j * 4, none⟩) (v := sv (qL (k + ct))) hgB hgE))
  have HR2 := qb (kz (y := (⟨qL (k + ct), t1, h1, A1, is.length, c1⟩ : FRaw)) HRJ.out)
  clear h1k h2 hb2 hb1
  go_wp2_with fail
  generalize w1.setCell ⟨g, j * 4, none⟩ (sv (qL (k + ct))) = wa at *
  refine (je (k + ct + 1) _ (by omega) (by omega) (by omega) _).mono ?_
  rintro e w2 ⟨rfl, hb1⟩
  have h1k := HL2.out.keep hb1
  clear x0 x1 x2 x3 y0 y1 y2 y3
  obtain ⟨x0, x1, x2, x3, y0, y1, y2, y3⟩ := h1k.cells_of HR2.out
  have hBa : B <= wa.heap.size := Nat.le_trans hBw HB2.out.size
  have h2 := h1k.cell HR2.out (jh HPL.out) (j := 1) (by omega) ⟨qL (k + ct), qL (k + ct + 1), h1, A1, is.length, c1⟩ ⟨qL (k + ct), qL (k + ct + 1), h0, is⟩ (v := sv (qL (k + ct + 1))) rfl ⟨rfl, rfl, rfl⟩ ⟨rfl, rfl, (h1k.els j _ _ HR2.out (jh HPL.out)).2.2.1, rfl⟩
  have hb2 : Below B w (w2.setCell ⟨g, j * 4 + 1, none⟩ (sv (qL (k + ct + 1)))) := (HB2.out.trans (hb1.mono hBa)).setCell (by show B <= g; omega) _
  rw [xy HPL.out] at h2
  have HR3 := qb (kz (y := (⟨qL (k + ct), qL (k + ct + 1), h1, A1, is.length, c1⟩ : FRaw)) HR2.out)
  have h3 := h2.cell HR3.out (jh HPL.out) (j := 2) (by omega) ⟨qL (k + ct), qL (k + ct + 1), Fd.third (k + ct + 2), A1, is.length, c1⟩ ⟨qL (k + ct), qL (k + ct + 1), Fd.third (k + ct + 2), is⟩ (v := .bool (Fd.third (k + ct + 2))) rfl ⟨rfl, rfl, rfl⟩ ⟨rfl, rfl, rfl, rfl⟩
  rw [xy HPL.out] at h3
  have HF3 := qb (((HF2.out.trans (OffT.of_below hb1)).trans (OffT.set (p := ⟨g, j * 4 + 1, none⟩) (v := sv (qL (k + ct + 1))) (h1k.ty.1 g rfl) (by decide))).trans (OffT.set (p := ⟨g, j * 4 + 2, none⟩) (v := .bool (Fd.third (k + ct + 2))) (h2.ty.1 g rfl) (by decide)))
  have HST3 := qb (((HST2.out.trans (Stay.of_below hb1)).trans (Stay.set (p := ⟨g, j * 4 + 1, none⟩) (v := sv (qL (k + ct + 1))) hgB hgE)).trans (Stay.set (p := ⟨g, j * 4 + 2, none⟩) (v := .bool (Fd.third (k + ct + 2))) hgB hgE))
  have HL3 := qb h3
  have HB3 := qb (hb2.setCell (p := ⟨g, j * 4 + 2, none⟩) (by show B <= g; omega) (.bool (Fd.third (k + ct + 2))))
  have HR4 := qb (kz (y := (⟨qL (k + ct), qL (k + ct + 1), Fd.third (k + ct + 2), A1, is.length, c1⟩ : FRaw)) HR3.out)
  clear h1k h2 h3 hb2 hb1
  have H33 : Hid ((((k : Int) + (ct : Int) + 1 + 1) % 3 == 0) = Fd.third (k + ct + 2)) := by
   show _ = _
   unfold Fd.third
   rw [Bool.eq_iff_iff, decide_eq_true_eq, beq_iff_eq]
   omega
  go_upto_region 10 with fail
  rw [H33.out]
  generalize (w2.setCell ⟨g, j * 4 + 1, none⟩ (sv (qL (k + ct + 1)))).setCell ⟨g, j * 4 + 2, none⟩ (.bool (Fd.third (k + ct + 2))) = w3 at *
  clear x0 x1 x2 x3 y0 y1 y2 y3
  obtain ⟨x0, x1, x2, x3, y0, y1, y2, y3⟩ := HL3.out.cells_of HR4.out
  have hoi := (HL3.out.els j _ _ HR4.out (jh HPL.out)).2.2.2.2
  have hBb : B <= w3.heap.size := Nat.le_trans hBw HB3.out.size
  have HMS := qb (KD is B A1 c1 (k + ct + 3) ((k : Int) + (ct : Int) + 1 + 1 + 1) w3 (by omega) hoi (by omega) (by omega))
  have HTY := qb (zT hoi)
  have HIE : Hid (∀ g2, Value.ownBlock (.slice A1 is.length c1) = some g2 -> B <= g2 /\ g2 < E) := fun g2 hg => ⟨(hoi.lt g2 hg).1, HL1T.out j _ HRJ.out g2 (qO.2 hg)⟩
  have HOB := qb (fun g2 (hg : Value.ownBlock (.slice A1 is.length c1) = some g2) => (hoi.lt g2 hg).1)
  clear hoi
  go_wp2_with fail
  refine HMS.out.mono ?_
  rintro e w4 ⟨rfl, ho4, hg4⟩
  have h4 := HL3.out.items0 HR4.out (jh HPL.out) (by rw [ja]) ho4 hg4
  rw [xy HPL.out] at h4
  have HST4 := qb (HST3.out.trans (Stay.grown hg4 HIE.out))
  have HL4 : Hid (∃ rs5, List.length rs5 = rs.length /\ (∀ (i : Nat) (r : FRaw), rs5[i]? = some r -> ∀ b ∈ bk r.A r.l r.c, b < E) /\ FLo w4 B (some ⟨g, 0, none⟩) c rs5 (Fd.mkNs k (xs.take (j + 1)) ++ xs.drop (j + 1))) := by
   refine ⟨_, ?_, ?_, by rw [HMK.out, List.append_assoc]; exact h4⟩
   ·simp [hr1]
   intro i r hr b hb
   by_cases hij : j = i
   ·subst hij
    rw [HR4.out] at hr
    injection hr with hr
    subst hr
    exact HL1T.out j _ HRJ.out b hb
   rw [List.getElem?_set_ne hij, List.getElem?_set_ne hij, List.getElem?_set_ne hij] at hr
   exact HL1T.out i r hr b hb
  have HB4 := qb (HB3.out.trans (zo hg4 hBb HOB.out))
  have HF4 := qb (HF3.out.trans (OffT.grown hg4 HTY.out (by decide)))
  clear h4 ho4 hg4
  go_wp2
  go_roundw
  case rel =>
   obtain ⟨rs5, h5, h7, h6⟩ := HL4.out
   exact ⟨j + 1, rs5, by omega, by go_num, by rw [HCT.out]; go_num, h5, h6, HB4.out, HF4.out, HST4.out, h7⟩
  case measure => simp [intOf]; omega
 have hjx : xs.take j = xs := List.take_of_length_le (by omega)
 have hdx : xs.drop j = [] := zc xs j (by omega)
 rw [hjx, hdx, List.append_nil] at hl
 have HL1 := qb hl
 clear hl
 go_wp2
 go_ret
 exact ⟨qA (by rw [hjx]), ⟨rs1, hr1, HL1.out, fun b hb => by
  rcases List.mem_append.1 hb with hb | hb
  ·rw [hr1] at hb
   exact HGT.out b hb
  ·obtain ⟨r, hr, hb⟩ := jm.1 hb
   obtain ⟨i, hi, e⟩ := List.mem_iff_getElem.1 hr
   exact HL1T.out i r (by rw [List.getElem?_eq_getElem hi, e]) b hb⟩, HB.out, HF.out, HST.out⟩
namespace Dk
def cntD (d : Dk) : Nat := Pt.cntMs d.parts + Fd.cntMs d.data
def mkD (k : Nat) (d : Dk) : Dk := ⟨Pt.mkNs k d.parts, Fd.mkNs (k + Pt.cntMs d.parts) d.data⟩
theorem cntD_size (d : Dk) : cntD d <= 3 * size d := by
 have h1 := Pt.cntMs_size d.parts
 have h2 := Fd.cntMs_size d.data
 unfold cntD size
 omega
end Dk
theorem PLo.offT {w w' : World} {B c : Nat} {A : Option Addr} {rs : List Raw} {xs : List Pt} {L : List Nat} (h : PLo w B A c rs xs L) (hk : OffT 115 w w') : PLo w' B A c rs xs L := by
 have hk2 : ∀ j ∈ bk A rs.length c ++ L, w'.heap[j]? = w.heap[j]? := fun j hj => (h.ty j hj).elim fun cs hc => hk j cs hc
 exact ⟨zt h.own (fun g hg => hk2 g (List.mem_append_left _ (qO.2 hg))), h.els.keep (fun j hj => hk2 j (List.mem_append_right _ hj)), h.nodup, h.rng⟩
theorem DOE.cut {w : World} {B E cp cd : Nat} {Ap Ad : Option Addr} {rs : List Raw} {fs : List FRaw} {d : Dk} (h : DOE w B E Ap cp rs Ad cd fs d) : DOE w B (min E w.heap.size) Ap cp rs Ad cd fs d := by
 obtain ⟨L, hp, hf, h1, h2⟩ := h
 exact ⟨L, hp, hf, fun b hb => by have := h1 b hb; have := (hp.lts b hb).2; omega, fun b hb => by have := h2 b hb; have := (hf.lts b hb).2; omega⟩
theorem Xr (d : Dk) (B k : Nat) (z : Int) (Ap Ad : Option Addr) (cp cd : Nat) (rs : List Raw) (fs : List FRaw) (E : Nat) (w : World) (hz : z = (k : Int)) (h : DOE w B E Ap cp rs Ad cd fs d) (hBw : B <= w.heap.size) (hk0 : 0 < k) (hkn : k + Dk.cntD d <= 4611686018427387904) :
  Calls Tryz.prog 13 #[dkV Ap rs.length cp Ad fs.length cd, .int .i64 z] w fun e w' => e = .returned (.int .i64 ((k : Int) + (Dk.cntD d : Int))) /\ (∃ rs' fs', rs'.length = rs.length /\ fs'.length = fs.length /\ DOE w' B E Ap cp rs' Ad cd fs' (Dk.mkD k d)) /\ Below B w w' /\ Stay B E w w' := by
 subst hz
 obtain ⟨ps, xs⟩ := d
 obtain ⟨L, hp, hf, hpE, hfE⟩ := h
 dsimp only at hp hf
 have HPE : Hid (∀ b ∈ bk Ap rs.length cp ++ L, B <= b /\ b < E) := fun b hb => ⟨(hp.lts b hb).1, hpE b hb⟩
 have HFE := qb hfE
 unfold Dk.cntD at hkn
 dsimp only at hkn
 have HE : Hid ((Dk.cntD ⟨ps, xs⟩ : Int) = (Pt.cntMs ps : Int) + (Fd.cntMs xs : Int)) := by show _ = _; unfold Dk.cntD; dsimp only; omega
 have hA0 := (Below.refl w.heap.size w).alloc (Nat.le_refl _) (.cells (qx Ap rs.length cp Ad fs.length cd) 30)
 have HX0 := qb (heap_alloc_new w (.cells (qx Ap rs.length cp Ad fs.length cd) 30))
 have HP0 := qb (hp.keep hA0)
 have HF0 := qb (hf.keep hA0)
 have HST0 : Hid (Stay B E w (w.alloc (.cells (qx Ap rs.length cp Ad fs.length cd) 30))) := Stay.of_below hA0
 have HB0 := qb (hA0.mono hBw)
 have hs0 : w.heap.size + 1 <= (w.alloc (.cells (qx Ap rs.length cp Ad fs.length cd) 30)).heap.size := by simp
 have HRL := qb hp.len
 have HFL := qb hf.len
 have HLT := qb (fun b hb => (hp.lts b hb).2)
 have HLB := qb (fun b hb => (hp.lts b hb).1)
 clear hp hf hA0 hpE hfE
 go_enter func13, ntmps13
 obtain ⟨x0, x1, -⟩ := qr HX0.out
 go_upto_region 1 with fail
 generalize w.alloc (.cells (qx Ap rs.length cp Ad fs.length cd) 30) = w0 at *
 have HMP := qb (Xu ps rs Ap cp k _ L w0 rfl (zC HP0.out.own (Nat.zero_le _)) HP0.out.els HP0.out.nodup hk0 (by omega))
 rw [<- HRL.out] at HMP
 go_wp2_with fail
 refine HMP.out.mono ?_
 rintro e w1 ⟨rfl, rs1, hl1, ho1, he1, hc1⟩
 have HX1 := qb ((hc1.block w.heap.size (by omega) (fun e => by have := HLT.out _ e; omega)).trans HX0.out)
 have HB1 := qb (HB0.out.trans (hc1.below (Nat.le_trans hBw (by omega)) HLB.out))
 have HST1 := qb (HST0.out.trans (Stay.chg hc1 HPE.out))
 have hob : OwnN w1 B Ap cp rs1 := by
  refine ⟨ho1.1, ?_⟩
  rcases ho1.2 with hn | ⟨g, cap, cur, e1, e2, e3⟩
  ·exact .inl hn
  refine .inr ⟨g, cap, cur, e1, ?_, e3⟩
  refine HLB.out g (List.mem_append_left _ (qO.2 ?_))
  injection e1 with e1
  rw [e1]
  rfl
 have hP1 : PLo w1 B Ap cp rs1 (Pt.mkNs k ps) L := ⟨hob, he1, by rw [hl1]; exact HP0.out.nodup, HP0.out.rng⟩
 have HPo := qb hP1
 have HF1 := qb (HF0.out.other (w' := w1) (fun j cs T hT hc => hc1.block j (lt_of_block hc) (fun e => by
  obtain ⟨cs2, h2⟩ := HP0.out.ty j e
  rw [hc] at h2
  injection h2 with h2
  injection h2 with _ h2
  rcases hT with rfl | rfl <;> exact absurd h2 (by decide))))
 have hz1 : w.heap.size + 1 <= w1.heap.size := Nat.le_trans hs0 hc1.size
 have HMF := qb (Xs xs fs Ad cd (k + Pt.cntMs ps) B ((k : Int) + (Pt.cntMs ps : Int)) E w1 (by omega) HF1.out HFE.out (Nat.le_trans hBw (by omega)) (by omega) (by omega))
 rw [<- HFL.out] at HMF
 have HL1 := qb hl1
 clear x0 x1 hc1 ho1 he1 hob hP1 hl1
 obtain ⟨x0, x1, -⟩ := qr HX1.out
 go_wp2_with fail
 refine HMF.out.mono ?_
 rintro e w2 ⟨rfl, ⟨fs2, hl2, hf2, hfe⟩, hb2, ho2, hs2⟩
 have HST2 := qb (HST1.out.trans hs2)
 have HR : Hid (DOE w2 B E Ap cp rs1 Ad cd fs2 (Dk.mkD k ⟨ps, xs⟩)) := ⟨L, HPo.out.offT ho2, hf2, fun b hb => (HPE.out b (by rw [<- HL1.out]; exact hb)).2, hfe⟩
 have HB2 := qb (HB1.out.trans hb2)
 have HL2 := qb hl2
 clear hf2 hb2 ho2 hl2 hs2
 go_wp2
 go_ret
 exact ⟨qA (by rw [HE.out]; omega), ⟨rs1, fs2, HL1.out, HL2.out, HR.out⟩, HB2.out, HST2.out⟩
end Go.Proofs.YtmboieajfdkllaaGreat
