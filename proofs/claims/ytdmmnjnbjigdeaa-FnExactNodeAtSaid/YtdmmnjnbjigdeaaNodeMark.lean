/- Marks of nodes: walks. -/
import Derived.Test.YtdmmnjnbjigdeaaNodeOw
import Derived.Test.YtdmmnjnbjigdeaaNodeWalkP
import Derived.Test.YtdmmnjnbjigdeaaMark
namespace Go.Proofs.Ytdmmnjnbjigdeaa
open Go.RowKit

namespace Nd
mutual
/-- how many marks a node in a row takes -/
def cntM : Nd → Nat
  | mk _ _ _ ns xs => 3 + ns.length + cntMs xs
def cntMs : List Nd → Nat
  | [] => 0
  | x :: s => cntM x + cntMs s
end
mutual
/-- a node in a row, marked -/
def mkN : Nat → Nd → Nd
  | k, mk _ _ _ ns xs => mk ((k : Nat) : Int) ((k + 1 : Nat) : Int) (markOf (k + 2)) (marksS (k + 3) ns.length) (mkNs (k + 3 + ns.length) xs)
def mkNs : Nat → List Nd → List Nd
  | _, [] => []
  | k, x :: s => mkN k x :: mkNs (k + cntM x) s
end
/-- a node that stands alone, marked -/
def mkTop (k : Nat) : Nd → Nd
  | mk kd n t ns xs => mk kd n t (marksS k ns.length) (mkNs (k + ns.length) xs)
def cntT : Nd → Nat
  | mk _ _ _ ns xs => ns.length + cntMs xs
theorem mkNs_len : ∀ (k : Nat) (xs : List Nd), (mkNs k xs).length = xs.length
  | _, [] => by simp [mkNs]
  | k, x :: s => by simp [mkNs, mkNs_len (k + cntM x) s]
theorem mkNs_snoc : ∀ (k : Nat) (xs : List Nd) (y : Nd), mkNs k (xs ++ [y]) = mkNs k xs ++ [mkN (k + cntMs xs) y]
  | k, [], y => by simp [mkNs, cntMs]
  | k, x :: s, y => by
    simp only [List.cons_append, mkNs, mkNs_snoc (k + cntM x) s y, cntMs]
    rw [Nat.add_assoc]
theorem cntMs_snoc : ∀ (xs : List Nd) (y : Nd), cntMs (xs ++ [y]) = cntMs xs + cntM y
  | [], y => by simp [cntMs]
  | x :: s, y => by simp only [List.cons_append, cntMs, cntMs_snoc s y]; omega
theorem cntMs_take (xs : List Nd) (j : Nat) (h : j < xs.length) : cntMs (xs.take (j + 1)) = cntMs (xs.take j) + cntM xs[j] := by
  rw [take_snoc xs j h, cntMs_snoc]
theorem cntMs_take_le : ∀ (xs : List Nd) (j : Nat), cntMs (xs.take j) ≤ cntMs xs
  | [], j => by simp
  | x :: s, 0 => by simp [cntMs]
  | x :: s, j + 1 => by have := cntMs_take_le s j; simp only [List.take_succ_cons, cntMs]; omega
theorem cntMs_len : ∀ xs : List Nd, xs.length ≤ cntMs xs
  | [] => by simp
  | x :: s => by
    have := cntMs_len s
    cases x
    simp only [List.length_cons, cntMs, cntM]
    omega
theorem mkNs_get : ∀ (k : Nat) (xs : List Nd) (j : Nat) (h : j < xs.length), (mkNs k xs)[j]'(by rw [mkNs_len]; exact h) = mkN (k + cntMs (xs.take j)) xs[j]
  | k, x :: s, 0, h => by simp [mkNs, cntMs]
  | k, x :: s, j + 1, h => by
    simp only [mkNs, List.getElem_cons_succ, List.take_succ_cons, cntMs]
    rw [mkNs_get (k + cntM x) s j (by simpa using h), Nat.add_assoc]
theorem cntM_size (x : Nd) : cntM x ≤ 3 + 3 * size x := by
  induction x using ind with
  | h k n t ns xs ih =>
    simp only [cntM, size]
    have : cntMs xs ≤ 3 * xs.length + 3 * sizes xs := by
      clear t ns
      induction xs with
      | nil => simp [cntMs]
      | cons x t ih2 =>
        have h1 := ih x (by simp)
        have h2 := ih2 fun y hy => ih y (List.mem_cons_of_mem _ hy)
        simp only [cntMs, sizes, List.length_cons]
        omega
    omega
theorem cntT_size (x : Nd) : cntT x ≤ 3 * size x + 3 := by
  have := cntM_size x
  cases x
  simp only [cntM, cntT] at *
  omega
end Nd

theorem nodup_parts {G L1 N I L3 Lb : List Nat} (h : (G ++ (L1 ++ ((N ++ (I ++ L3)) ++ Lb))).Nodup) :
    (∀ b, b ∈ G → b ∉ L1 ∧ b ∉ N ∧ b ∉ I ∧ b ∉ L3 ∧ b ∉ Lb) ∧ (∀ b, b ∈ N → b ∉ G ∧ b ∉ L1 ∧ b ∉ I ∧ b ∉ L3 ∧ b ∉ Lb) ∧ (∀ b, b ∈ I ++ L3 → b ∉ G ∧ b ∉ L1 ∧ b ∉ N ∧ b ∉ Lb) ∧ (I ++ L3).Nodup := by
  simp only [List.nodup_append, List.mem_append] at h ⊢
  grind
theorem rcells_set (rs1 rs2 : List Raw) (r r' : Raw) (i : Nat) (u : Value) (hr : r'.cs = r.cs.set i u) (hi : i < 5) : (rcells (rs1 ++ r :: rs2)).set (rs1.length * 5 + i) u = rcells (rs1 ++ r' :: rs2) := by
  rw [rcells_append, rcells_append, rcells, rcells, List.set_append_right _ _ (by rw [rcells_length]; omega), rcells_length, show rs1.length * 5 + i - rs1.length * 5 = i by omega,
    List.set_append_left _ _ (by simpa using hi), hr]
section
variable {w w' : World} {g c : Nat} {rs1 rs2 : List Raw} {r : Raw}
theorem rowN_cells (h : OwnN w 0 (some ⟨g, 0, none⟩) c (rs1 ++ r :: rs2)) :
    (w.cell? ⟨g, rs1.length * 5, none⟩ = some (.int .i64 r.k) ∧ w.cell? ⟨g, rs1.length * 5 + 1, none⟩ = some (.int .i64 r.n) ∧ w.cell? ⟨g, rs1.length * 5 + 2, none⟩ = some (sv r.t) ∧ w.cell? ⟨g, rs1.length * 5 + 3, none⟩ = some (.slice r.An r.ln r.cn) ∧ w.cell? ⟨g, rs1.length * 5 + 4, none⟩ = some (.slice r.Ai r.li r.ci)) ∧
    (w.frozen? ⟨g, rs1.length * 5, none⟩ = false ∧ w.frozen? ⟨g, rs1.length * 5 + 1, none⟩ = false ∧ w.frozen? ⟨g, rs1.length * 5 + 2, none⟩ = false) := by
  have hl : (rs1 ++ r :: rs2).length = rs1.length + 1 + rs2.length := by simp; omega
  have key : ∀ i, i < 5 → w.cell? ⟨g, rs1.length * 5 + i, none⟩ = r.cs[i]? := fun i hi => by
    rw [h.cellAt (rs1.length * 5 + i) (by rw [hl, Nat.add_mul, Nat.add_mul]; omega)]
    exact rcells_get _ _ r i (by simp) hi
  exact ⟨⟨key 0 (by omega), key 1 (by omega), key 2 (by omega), key 3 (by omega), key 4 (by omega)⟩, h.frozenAt _, h.frozenAt _, h.frozenAt _⟩
theorem rowN_set (h : OwnN w 0 (some ⟨g, 0, none⟩) c (rs1 ++ r :: rs2)) (r' : Raw) (i : Nat) (u : Value) (hr : r'.cs = r.cs.set i u) (hi : i < 5) : OwnN (w.setCell ⟨g, rs1.length * 5 + i, none⟩ u) 0 (some ⟨g, 0, none⟩) c (rs1 ++ r' :: rs2) := by
  have h1 := (h.stored (rs1.length * 5 + i) u).1
  rw [rcells_set rs1 rs2 r r' i u hr hi] at h1
  unfold OwnN
  rw [show (rs1 ++ r' :: rs2).length = (rs1 ++ r :: rs2).length by simp]
  exact h1
end
theorem OwTs.chg {w w' : World} {xs : List Nd} {rs : List Raw} {L M : List Nat} (h : OwTs w xs rs L) (hc : Chg w w' M) (hd : ∀ b, b ∈ M → b ∉ L) : OwTs w' xs rs L := h.keep fun b hb => hc.block b (h.lt b hb) (fun e => hd b e hb)
theorem own_chg {w w' : World} {base size n c : Nat} {A : Option Addr} {e : TypeId} {xs : List Value} {M : List Nat} (h : w.ownsRow base e size (.slice A n c) n xs) (hc : Chg w w' M) (hd : ∀ b, b ∈ M → b ∉ bk A n c) : w'.ownsRow base e size (.slice A n c) n xs :=
  own_at h fun g hg => hc.block g (h.lt g hg).2 (fun e => hd g e (bk_mem.2 hg))
theorem OwT.mk {w : World} {k n : Int} {t : Tx} {ns : List Tx} {xs : List Nd} {rs : List Raw} {L2 L : List Nat} {An Ai : Option Addr} {cn ci : Nat} (h1 : OwnS w 0 An cn ns) (h2 : OwnN w 0 Ai ci rs) (h3 : OwTs w xs rs L2) (hL : L = bk An ns.length cn ++ (bk Ai xs.length ci ++ L2)) : OwT w (.mk k n t ns xs) ⟨k, n, t, An, ns.length, cn, Ai, xs.length, ci⟩ L := by
  rw [OwT]
  exact ⟨rfl, rfl, rfl, rfl, rfl, h1, rs, L2, h2, h3, hL⟩

theorem laws_markStringS_at (ps : List Tx) (base : Nat) (A : Option Addr) (c k : Nat) (z : Int) (w : World) (hz : z = (k : Int)) (hown : OwnS w base A c ps) (hk0 : 0 < k) (hkn : k + ps.length ≤ 4611686018427387904) :
    Calls Try.prog 39 #[.slice A ps.length c, .int .i64 z] w fun e w' => e = .returned (.int .i64 ((k : Int) + (ps.length : Int))) ∧ OwnS w' base A c (marksS k ps.length) ∧ w.grownBy w' (Value.ownBlock (.slice A ps.length c)) := by
  subst hz
  exact (laws_markStringS ps base A c k w hown hk0 hkn).mono fun _ _ ⟨h1, h2, h3⟩ => ⟨by rw [h1]; exact ret_int (by omega), h2, h3⟩
/-- what markNodeS' contract says of these nodes -/
def MkC (xs : List Nd) : Prop := ∀ (rs : List Raw) (A : Option Addr) (c k : Nat) (z : Int) (L : List Nat) (w : World), z = (k : Int) → OwnN w 0 A c rs → OwTs w xs rs L → (bk A rs.length c ++ L).Nodup → 0 < k → k + Nd.cntMs xs ≤ 4611686018427387904 →
  Calls Try.prog 40 #[.slice A xs.length c, .int .i64 z] w fun e w' => e = .returned (.int .i64 ((k : Int) + (Nd.cntMs xs : Int))) ∧ ∃ rs', rs'.length = rs.length ∧ OwnN w' 0 A c rs' ∧ OwTs w' (Nd.mkNs k xs) rs' L ∧ Chg w w' (bk A rs.length c ++ L)
set_option maxRecDepth 100000 in
set_option maxHeartbeats 8000000 in
theorem laws_markNodeS (xs : List Nd) (ih : ∀ x ∈ xs, MkC x.inside) : MkC xs := by
  intro rs A c k z L w hz ho ht hnd hk0 hkn
  subst hz
  have IH := Lib.hid ih
  have HO := Lib.hid ho
  have HT := Lib.hid ht
  have HND := Lib.hid hnd
  have hrx : rs.length = xs.length := ht.len
  have hxl : xs.length ≤ 4611686018427387904 := by have := Nd.cntMs_len xs; omega
  clear ih ho ht hnd
  go_enter Try.func40, Try.ntmps40
  go_wp2
  go_loopw [1, 5] (fun m i wr => ∃ (j : Nat) (rs1 rs2 : List Raw) (L1 L2 : List Nat), j ≤ xs.length ∧ i = .int .i64 j ∧ m = .int .i64 ((k : Int) + (Nd.cntMs (xs.take j) : Int)) ∧ rs1.length = j ∧ (rs1 ++ rs2).length = rs.length ∧ L = L1 ++ L2 ∧ OwnN wr 0 A c (rs1 ++ rs2) ∧ OwTs wr (Nd.mkNs k (xs.take j)) rs1 L1 ∧ OwTs wr (xs.drop j) rs2 L2 ∧ Chg w wr (bk A rs.length c ++ L)) (fun _ i _ => xs.length - (intOf i).toNat)
  case atStart => exact ⟨0, [], rs, [], L, Nat.zero_le _, rfl, by simp [Nd.cntMs], rfl, rfl, rfl, HO.out, by simp [Nd.mkNs, OwTs], by simpa using HT.out, Chg.refl _ _⟩
  case round =>
    obtain ⟨j, rs1, rs2, L1, L2, hj, rfl, rfl, hr1, hr12, rfl, ho, ht1, ht2, hc⟩ := hrel
    by_cases hlt : j < xs.length
    · rw [drop_cons xs j hlt, OwTs] at ht2
      obtain ⟨r, rs2', La, Lb, rfl, rfl, ht, ht2⟩ := ht2
      have HCT := Lib.hid (Nd.cntMs_take xs j hlt)
      have hle := Nd.cntMs_take_le xs (j + 1)
      rw [HCT.out] at hle
      have IHX := Lib.hid (IH.out xs[j] (List.getElem_mem hlt))
      have HMK : Hid (Nd.mkNs k (xs.take (j + 1)) = Nd.mkNs k (xs.take j) ++ [Nd.mkN (k + Nd.cntMs (xs.take j)) xs[j]]) := by
        show _ = _
        rw [take_snoc xs j hlt, Nd.mkNs_snoc]
      generalize xs[j] = x at *
      cases x with
      | mk kd nn tt ns ys =>
      simp only [Nd.cntM, Nd.inside] at hle HCT IHX
      generalize Nd.cntMs (xs.take j) = ct at *
      rw [OwT] at ht
      obtain ⟨e1, e2, e3, e4, e5, hon, rs3, L3, hoi, hty, rfl⟩ := ht
      obtain ⟨rk, rn, rt, An, rln, cn, Ai, rli, ci⟩ := r
      simp only at e1 e2 e3 e4 e5 hon hoi
      subst e1 e2 e3 e4 e5
      have hrpos : 0 < (rs1 ++ ⟨rk, rn, rt, An, ns.length, cn, Ai, ys.length, ci⟩ :: rs2').length := by simp; omega
      obtain ⟨g, rfl, -, hgs⟩ := own_some ho hrpos
      have hbg : bk (some ⟨g, 0, none⟩) rs.length c = [g] := rfl
      rw [hbg] at hc HND
      obtain ⟨hG, hN, hI, hIn⟩ := nodup_parts HND.out
      have hG1 := hG g (by simp)
      obtain ⟨⟨x0, x1, x2, x3, x4⟩, x5, x6, x7⟩ := rowN_cells ho
      have hset1 := rowN_set ho ⟨((k + ct : Nat) : Int), rn, rt, An, ns.length, cn, Ai, ys.length, ci⟩ 0 (.int .i64 ((k : Int) + (ct : Int))) (by simp) (by omega)
      have hset2 := rowN_set hset1 ⟨((k + ct : Nat) : Int), ((k + ct + 1 : Nat) : Int), rt, An, ns.length, cn, Ai, ys.length, ci⟩ 1 (.int .i64 ((k : Int) + (ct : Int) + 1)) (by simp) (by omega)
      have hcg : Chg wr ((wr.setCell ⟨g, rs1.length * 5 + 0, none⟩ (.int .i64 ((k : Int) + (ct : Int)))).setCell ⟨g, rs1.length * 5 + 1, none⟩ (.int .i64 ((k : Int) + (ct : Int) + 1))) [g] := (Chg.setCell (by simp)).trans (Chg.setCell (L := [g]) (by simp)) (fun b hb => .inl hb)
      rw [Nat.add_zero] at hset1 hset2 hcg
      subst hr1
      have HS2 := Lib.hid hset2
      have HC0 := Lib.hid (hc.trans hcg (fun b hb => .inl (by simp at hb; simp [hb])))
      have HT1 := Lib.hid (ht1.chg hcg (fun b hb => by simp at hb; subst hb; exact hG1.1))
      have HT2 := Lib.hid (ht2.chg hcg (fun b hb => by simp at hb; subst hb; exact hG1.2.2.2.2))
      have HON := Lib.hid (own_chg hon hcg (fun b hb => by simp at hb; subst hb; exact hG1.2.1))
      have HOI := Lib.hid (own_chg hoi hcg (fun b hb => by simp at hb; subst hb; rw [hty.len]; exact hG1.2.2.1))
      have HTY := Lib.hid (hty.chg hcg (fun b hb => by simp at hb; subst hb; exact hG1.2.2.2.1))
      have hyl := hty.len
      have HG := Lib.hid hG1
      have HN := Lib.hid hN
      have HI := Lib.hid hI
      have HIN := Lib.hid hIn
      clear ho ht1 ht2 hc hon hoi hty hset1 hset2 hG hN hI hIn hG1
      go_wp2_with fail
      generalize (wr.setCell ⟨g, rs1.length * 5, none⟩ (.int .i64 ((k : Int) + (ct : Int)))).setCell ⟨g, rs1.length * 5 + 1, none⟩ (.int .i64 ((k : Int) + (ct : Int) + 1)) = wa at *
      refine (laws_markText_at (k + ct + 2) _ (by omega) (by omega) (by omega) _).mono ?_
      rintro e w1 ⟨rfl, hb1⟩
      have hs1 := own_below HS2.out hb1
      obtain ⟨-, y5, y6, y7⟩ := rowN_cells hs1
      obtain ⟨⟨y0, y1, y2, y3, y4⟩, -⟩ := rowN_cells hs1
      have hset3 := rowN_set hs1 ⟨((k + ct : Nat) : Int), ((k + ct + 1 : Nat) : Int), markOf (k + ct + 2), An, ns.length, cn, Ai, ys.length, ci⟩ 2 (sv (markOf (k + ct + 2))) (by simp) (by omega)
      have hcb : Chg wa (w1.setCell ⟨g, rs1.length * 5 + 2, none⟩ (sv (markOf (k + ct + 2)))) [g] := (Chg.of_below hb1 [g]).trans (Chg.setCell (L := [g]) (by simp)) (fun b hb => .inl hb)
      have HS3 := Lib.hid hset3
      have HC1 := Lib.hid (HC0.out.trans hcb (fun b hb => .inl (by simp at hb; simp [hb])))
      have HT1b := Lib.hid (HT1.out.chg hcb (fun b hb => by simp at hb; subst hb; exact HG.out.1))
      have HT2b := Lib.hid (HT2.out.chg hcb (fun b hb => by simp at hb; subst hb; exact HG.out.2.2.2.2))
      have HONb := Lib.hid (own_chg HON.out hcb (fun b hb => by simp at hb; subst hb; exact HG.out.2.1))
      have HOIb := Lib.hid (own_chg HOI.out hcb (fun b hb => by simp at hb; subst hb; rw [hyl]; exact HG.out.2.2.1))
      have HTYb := Lib.hid (HTY.out.chg hcb (fun b hb => by simp at hb; subst hb; exact HG.out.2.2.2.1))
      clear hb1 hs1 hset3 hcb HS2 HC0 HT1 HT2 HON HOI HTY x0 x1 x2 x3 x4 x5 x6 x7 hcg
      go_upto_region 10 with fail
      generalize w1.setCell ⟨g, rs1.length * 5 + 2, none⟩ (sv (markOf (k + ct + 2))) = wb at *
      clear y0 y1 y2 y3 y4 y5 y6 y7
      obtain ⟨⟨x0, x1, x2, x3, x4⟩, -⟩ := rowN_cells HS3.out
      go_wp2_with fail
      refine (laws_markStringS_at ns 0 An cn (k + ct + 3) _ wb (by omega) HONb.out (by omega) (by omega)).mono ?_
      rintro e w2 ⟨rfl, hon2, hg2⟩
      have hcc := Chg.of_grown hg2 (L := bk An ns.length cn) (fun b hb => bk_mem.2 hb)
      have HC2 := Lib.hid (HC1.out.trans hcc (fun b hb => .inl (by simp only [List.mem_append]; exact .inr (.inr (.inl (.inl hb))))))
      have HS4 := Lib.hid (own_chg HS3.out hcc (fun b hb e => (HN.out b hb).1 e))
      have HT1c := Lib.hid (HT1b.out.chg hcc (fun b hb => (HN.out b hb).2.1))
      have HT2c := Lib.hid (HT2b.out.chg hcc (fun b hb => (HN.out b hb).2.2.2.2))
      have HOIc := Lib.hid (own_chg HOIb.out hcc (fun b hb => by rw [hyl]; exact (HN.out b hb).2.2.1))
      have HTYc := Lib.hid (HTYb.out.chg hcc (fun b hb => (HN.out b hb).2.2.2.1))
      have HONc := Lib.hid hon2
      clear hg2 hon2 hcc HC1 HS3 HT1b HT2b HONb HOIb HTYb x0 x1 x2 x3 x4
      obtain ⟨⟨x0, x1, x2, x3, x4⟩, -⟩ := rowN_cells (r := ⟨((k + ct : Nat) : Int), ((k + ct + 1 : Nat) : Int), markOf (k + ct + 2), An, ns.length, cn, Ai, ys.length, ci⟩) HS4.out
      go_wp2_with fail
      refine (IHX.out rs3 Ai ci (k + ct + 3 + ns.length) _ L3 w2 (by omega) HOIc.out HTYc.out (by rw [hyl]; exact HIN.out) (by omega) (by omega)).mono ?_
      rintro e w3 ⟨rfl, rs4, hl4, hoi3, hty3, hcd⟩
      rw [hyl] at hcd
      have hcd2 : ∀ b, b ∈ bk Ai ys.length ci ++ L3 → b ∈ [g] ++ (L1 ++ ((bk An ns.length cn ++ (bk Ai ys.length ci ++ L3)) ++ Lb)) := fun b hb => by simp only [List.mem_append]; rw [List.mem_append] at hb; exact .inr (.inr (.inl (.inr hb)))
      have HC3 := Lib.hid (HC2.out.trans hcd (fun b hb => .inl (hcd2 b hb)))
      have HS5 := Lib.hid (own_chg HS4.out hcd (fun b hb e => (HI.out b hb).1 e))
      have HT1d := Lib.hid (HT1c.out.chg hcd (fun b hb => (HI.out b hb).2.1))
      have HT2d := Lib.hid (HT2c.out.chg hcd (fun b hb => (HI.out b hb).2.2.2))
      have HONd := Lib.hid (own_chg HONc.out hcd (fun b hb => by rw [marksS_length]; exact (HI.out b hb).2.2.1))
      have HOId := Lib.hid hoi3
      have HTYd := Lib.hid hty3
      clear hcd hcd2 hoi3 hty3 HC2 HS4 HT1c HT2c HOIc HTYc HONc x0 x1 x2 x3 x4
      go_wp2
      go_roundw
      case rel =>
        refine ⟨rs1.length + 1, rs1 ++ [⟨((k + ct : Nat) : Int), ((k + ct + 1 : Nat) : Int), markOf (k + ct + 2), An, ns.length, cn, Ai, ys.length, ci⟩], rs2', L1 ++ (bk An ns.length cn ++ (bk Ai ys.length ci ++ L3)), Lb, by omega, by go_num, ?_, by simp, by rw [← hr12]; simp, by simp [List.append_assoc], ?_, ?_, HT2d.out, ?_⟩
        · rw [HCT.out]; go_num
        · have h := HS5.out; unfold OwnN; rw [List.append_assoc]; exact h
        · rw [HMK.out]
          refine HT1d.out.snoc ?_
          have hw := OwT.mk (k := ((k + ct : Nat) : Int)) (n := ((k + ct + 1 : Nat) : Int)) (t := markOf (k + ct + 2)) (L := bk An ns.length cn ++ (bk Ai ys.length ci ++ L3)) HONd.out HOId.out HTYd.out (by rw [marksS_length, Nd.mkNs_len])
          rw [marksS_length, Nd.mkNs_len] at hw
          rw [Nd.mkN]
          exact hw
        · exact HC3.out
      case measure => simp [intOf]; omega
    · have hjx : xs.take j = xs := List.take_of_length_le (by omega)
      have hdx : xs.drop j = [] := drop_nil xs j (by omega)
      rw [hjx] at ht1
      rw [hdx, OwTs] at ht2
      obtain ⟨rfl, rfl⟩ := ht2
      have HT1 := Lib.hid ht1
      have HO1 := Lib.hid ho
      have HC1 := Lib.hid hc
      clear ht1 ho hc
      go_wp2
      go_ret
      refine ⟨ret_int (by rw [hjx]), rs1, by simpa using hr12, by simpa using HO1.out, by simpa using HT1.out, HC1.out⟩
theorem laws_markNodeS_all (x : Nd) : MkC x.inside := by
  induction x using Nd.ind with
  | h k n t ns xs ih => exact laws_markNodeS xs ih
end Go.Proofs.Ytdmmnjnbjigdeaa
