import Derived.Test.YtmboieajfdkllaaGreatU42
import Derived.Test.YtmboieajfdkllaaGreatU02
import Derived.Test.YtmboieajfdkllaaGreatU52
set_option maxHeartbeats 8000000
set_option maxRecDepth 100000
open Go.Proofs.Tryz
namespace Go.Proofs.YtmboieajfdkllaaGreat
open Go.RowKit
theorem Yr (B g q : Nat) (n : Int) (w : World) (h : Rdr w B g q) (hq : q <= 900000000) (hn : n <= 1000000000) (hn0 : -1000000000 <= n) :
  Calls Tryz.prog 102 #[.pointer (some ⟨g, 0, none⟩), .int .i64 n] w fun e w' => ∃ t : Tx, e = .returned (sv t) /\ t.length <= 20 /\ Rdr w' B g (q + 5) /\ w.grownBy w' (some g) := by
 have hlt := h.lt
 have H := qb h
 clear h
 go_enter func102, ntmps102
 go_wp2_with fail
 refine (Yu B g q n w H.out (by omega) hn hn0).mono ?_
 rintro e w1 ⟨bo, rfl, hr1, hg1⟩
 have HR1 := qb hr1
 have HG1 := qb hg1
 have hz1 := hg1.size
 clear hr1 hg1
 cases bo
 ·go_wp2_with fail
  refine (Yf B g _ 7 _ (HR1.out.keep ((Below.refl _ _).alloc (Nat.le_refl _) _)) (by omega) (by omega) (by omega)).mono ?_
  rintro e w2 ⟨k, rfl, hk, hr2, hg2⟩
  have hlit : w2.heap[w1.heap.size]? = _ := (hg2.block w1.heap.size (by simp) (by simp; omega)).trans (heap_alloc_new w1 _)
  obtain ⟨x, hxc, hx⟩ := Ym (k := k) (B := 20) (n := 7) hlit (by decide +kernel) (by omega)
  have hk' : k < 7 := by omega
  have HR2 := qb hr2
  have HG2 := qb (jF HG1.out (jF (World.grownBy_alloc w1 _ _) hg2))
  clear hlit hk hr2 hg2
  go_wp2
  go_ret
  exact ⟨x, rfl, hx, HR2.out.more (by omega), HG2.out⟩
 go_wp2_with fail
 refine (Yf B g _ 6 _ (HR1.out.keep ((Below.refl _ _).alloc (Nat.le_refl _) _)) (by omega) (by omega) (by omega)).mono ?_
 rintro e w2 ⟨k, rfl, hk, hr2, hg2⟩
 have hlit : w2.heap[w1.heap.size]? = _ := (hg2.block w1.heap.size (by simp) (by simp; omega)).trans (heap_alloc_new w1 _)
 obtain ⟨x, hxc, hx⟩ := Ym (k := k) (B := 20) (n := 6) hlit (by decide +kernel) (by omega)
 have hk' : k < 6 := by omega
 have HR2 := qb hr2
 have HG2 := qb (jF HG1.out (jF (World.grownBy_alloc w1 _ _) hg2))
 clear hlit hk hr2 hg2
 go_wp2
 go_ret
 exact ⟨x, rfl, hx, HR2.out.more (by omega), HG2.out⟩
def DrnP (w : World) (B g q n m : Nat) (e : Ending) (w' : World) : Prop :=
 ∃ A c rs xs, e = .returned (.slice A (List.length rs) c) /\ PLs w' w.heap.size A c rs xs /\ wt xs <= n /\ Rdr w' B g (q + m) /\ w.grownBy w' (some g)
def fAdd (N B n : Nat) (row : Option Nat) : TyB := fun w v => ∃ A c rs xs, v = .slice A (List.length rs) c /\ PLs w B A c rs xs /\ wt xs <= n /\ (Value.ownBlock (.slice A rs.length c) = row \/ ∀ j, Value.ownBlock (.slice A rs.length c) = some j -> N <= j)
theorem Yx {N B n : Nat} {row : Option Nat} : ∀ w w' x, KB w w' -> fAdd N B n row w x -> fAdd N B n row w' x := fun _ _ _ hk ⟨A, c, rs, xs, h1, h2, h3, h4⟩ => ⟨A, c, rs, xs, h1, h2.keep hk, h3, h4⟩
theorem YE {o : Oper} {a : Act} {v : World} {K : Act -> World -> Prop} {Q : Exit -> Act -> World -> Prop} (s : Nat) (hop : o.op = Op.buildSlice 27 1 #[(0, .tmp s)]) (r0 : Raw) (e1 : a.tmps[s]?.getD undef = r0.v)
  (hK : K (a.put o.dst (.slice (some ⟨v.heap.size, 0, none⟩) 1 1)) (v.alloc (.cells (qD r0.k r0.t r0.n r0.Ap r0.lp r0.cp r0.Ao r0.lo r0.co) 115))) : o.wp Tryz.prog a v K Q := by
 obtain ⟨dst, op, ty, pos, aft, gu⟩ := o
 simp only at hop hK
 subst hop
 cases dst <;> (go_simp; exact hK)
theorem Yi (xs : List Pt) : xs.length <= wt xs := by unfold wt; omega
theorem in_mk {w : World} {S : Nat -> Prop} {Aa Ab : Option Addr} {ca cb : Nat} {rsa rsb : List Raw} {xsa xsb : List Pt} (k : Int) (t n : Tx) (la : rsa.length = xsa.length) (lb : rsb.length = xsb.length) (c1 : rsa.length <= ca) (c2 : rsb.length <= cb) (h1 : RdP w S Aa xsa) (h2 : RdP w S Ab xsb) :
  InP w S (.mk k t n xsa xsb) (Raw.v ⟨k, t, n, Aa, rsa.length, ca, Ab, rsb.length, cb⟩) := by
 have h := InP.mk (k := k) (t := t) (n := n) (xs := xsa) (ys := xsb) (cp := ca) (co := cb) (by omega) (by omega) h1 h2
 rw [<- la, <- lb] at h
 exact h
abbrev holeRaw (n : Tx) : Raw := ⟨2, [], n, none, 0, 0, none, 0, 0⟩
theorem YW (d W' C' R Q : Nat) (hR : R = 100 + 2 * W') (hQ : Q = 50 + 2 * C') (hW : R <= 100000) (hC : Q <= 100000) (hd : d <= 3)
  (ih : ∀ d', d = d' + 1 -> ∀ (B g q : Nat) (w : World), Rdr w B g q -> q <= 400000000 - d' * 100000000 -> Calls Tryz.prog 137 #[.pointer (some ⟨g, 0, none⟩), .int .i64 (d' : Int)] w (DrnP w B g q W' C'))
  (B g q : Nat) (w : World) (h : Rdr w B g q) (hq : q <= 400000000 - d * 100000000) :
  Calls Tryz.prog 137 #[.pointer (some ⟨g, 0, none⟩), .int .i64 (d : Int)] w (DrnP w B g q (3 * R) (1 + 3 * Q)) := by
 have hlt := h.lt
 have H := qb h
 have IH := qb ih
 have HRE := qb hR
 have HQE := qb hQ
 clear h ih hR hQ
 go_enter func137, ntmps137
 go_wp2_with fail
 refine (Yf B g q 3 _ (H.out.keep ((Below.refl _ _).alloc (Nat.le_refl _) _)) (by omega) (by omega) (by omega)).mono ?_
 rintro e w1 ⟨k1, rfl, hk1, hr1, hg1⟩
 have HR1 := qb hr1
 have HG1 := qb (jF (World.grownBy_alloc w (.cells #[] 115) (some g)) hg1)
 have HP1 : Hid (PLs w1 w.heap.size (some ⟨w.heap.size, 0, none⟩) 0 [] []) := PLs.grow ⟨ZS w, Els.nil⟩ hg1 (fun j hj => by injection hj with hj; omega)
 have hk1' : k1 <= 2 := by omega
 clear hr1 hg1 hk1
 go_wp2
 go_loopw [5, 6] (fun l i wr => ∃ (k : Nat) (A : Option Addr) (c : Nat) (rs : List Raw) (xs : List Pt) (qk : Nat), k <= 3 /\ i = .int .i64 (k : Int) /\ l = .slice A rs.length c /\ PLs wr w.heap.size A c rs xs /\ wt xs + k * R <= 3 * R /\ Rdr wr B g qk /\ qk + k * Q <= q + 1 + 3 * Q /\ w.grownBy wr (some g)) (fun _ i _ => (intOf i).toNat)
 case atStart => exact ⟨k1 + 1, some ⟨w.heap.size, 0, none⟩, 0, [], [], q + 1, by omega, by go_num, rfl, HP1.out, by rw [Yg, Nat.zero_add]; exact Nat.mul_le_mul_right R (by omega), HR1.out, by have := Nat.mul_le_mul_right Q (show k1 + 1 <= 3 by omega); omega, HG1.out⟩
 obtain ⟨k, A, c, rs, xs, qk, hk, rfl, rfl, hp, hwt, hr, hqk, hg⟩ := hrel
 have HP := qb hp
 have HR := qb hr
 have HG := qb hg
 clear hp hr hg HP1 HR1 HG1
 by_cases hk0 : k = 0
 ·subst hk0
  go_wp2
  go_ret
  exact ⟨A, c, rs, xs, rfl, HP.out, by omega, HR.out.more (by omega), HG.out⟩
 obtain ⟨k, rfl⟩ : ∃ k', k = k' + 1 := ⟨k - 1, by omega⟩
 have hwt2 : wt xs + R + k * R <= 3 * R := by have e := Nat.succ_mul k R; rw [Nat.succ_eq_add_one] at e; omega
 have hqk2 : qk + Q + k * Q <= q + 1 + 3 * Q := by have e := Nat.succ_mul k Q; rw [Nat.succ_eq_add_one] at e; omega
 have hkR : k * R <= 3 * R := Nat.mul_le_mul_right R (by omega)
 have hkQ : k * Q <= 3 * Q := Nat.mul_le_mul_right Q (by omega)
 have HWT := qb hwt2
 have HQK := qb hqk2
 have hwx : wt xs <= 300000 := by omega
 have hqx : qk <= 400000000 - d * 100000000 + 400000 := by omega
 clear hk0 hwt hqk hwt2 hqk2 hkR hkQ
 have HOB : Hid (∀ j, Value.ownBlock (.slice A rs.length c) = some j -> j < wr.heap.size) := fun j hj => (HP.out.own.lt j hj).2
 go_wp2_with fail
 refine (Yr B g qk 0 _ HR.out (by omega) (by omega) (by omega)).mono ?_
 rintro e w2 ⟨nm, rfl, hnm, hr2, hg2⟩
 have HP := qb ((HP.out.grow hg2 (fun j hj => by injection hj with hj; omega)).keep ((Below.refl _ _).alloc (Nat.le_refl _) (.cells (qD 2 [] nm none 0 0 none 0 0) 115)))
 have HR := qb (hr2.keep ((Below.refl _ _).alloc (Nat.le_refl _) (.cells (qD 2 [] nm none 0 0 none 0 0) 115)))
 have HG := qb (jF (jF HG.out hg2) (World.grownBy_alloc w2 (.cells (qD 2 [] nm none 0 0 none 0 0) 115) (some g)))
 have HX := qb (heap_alloc_new w2 (.cells (qD 2 [] nm none 0 0 none 0 0) 115))
 have hzx : w2.heap.size < (w2.alloc (.cells (qD 2 [] nm none 0 0 none 0 0) 115)).heap.size := by simp
 have HNE : Hid (∀ j, Value.ownBlock (.slice A rs.length c) = some j -> j < w2.heap.size) := fun j hj => Nat.lt_of_lt_of_le (HOB.out j hj) hg2.size
 have hgx : g < w2.heap.size := by have := HG.out.size; have := hr2.lt; omega
 clear hr2 hg2 HOB
 go_upto_region 6 with fail
 generalize w2.alloc (.cells (qD 2 [] nm none 0 0 none 0 0) 115) = w3 at *
 go_wp2_with fail
 refine (Yf B g _ 9 _ HR.out (by omega) (by omega) (by omega)).mono ?_
 rintro e w4 ⟨z, rfl, hz, hr4, hg4⟩
 have HP := qb (HP.out.grow hg4 (fun j hj => by injection hj with hj; omega))
 have HR := qb hr4
 have HG := qb (jF HG.out hg4)
 have HX := qb ((hg4.block w2.heap.size hzx (by simp; omega)).trans HX.out)
 have hzx : w2.heap.size < w4.heap.size := Nat.lt_of_lt_of_le hzx hg4.size
 obtain ⟨r0, hr0⟩ : ∃ r0, r0 = holeRaw nm := ⟨_, rfl⟩
 have HRAW := qb hr0
 have HX : Hid (w4.heap[w2.heap.size]? = some (.cells (qD r0.k r0.t r0.n r0.Ap r0.lp r0.cp r0.Ao r0.lo r0.co) 115 (0, 0))) := by show _ = _; rw [hr0]; exact HX.out
 clear hr4 hg4 hr0
 have HP0 := HP
 have hz9 : z = 0 \/ z = 1 \/ z = 2 \/ z = 3 \/ z = 4 \/ z = 5 \/ z = 6 \/ z = 7 \/ z = 8 := by omega
 clear hz
 rcases hz9 with rfl | rfl | rfl | rfl | rfl | rfl | rfl | rfl | rfl
 ·
   go_wp2_with fail
   refine (Yj [116, 101, 120, 116, 32, 38, 32, 60, 98, 62, 120, 60, 47, 98, 62] w.heap.size _ _ _ _ _ HP.out (by have := HG.out.size; omega) (by omega) (by simp)).mono ?_
   rintro e w6 ⟨A6, c6, rs6, xs6, rfl, hp6, hw6, hg6, hor6⟩
   have HR := qb (HR.out.frame hg6 (Yb HP.out.own hlt))
   have HG := qb (Ya HG.out hg6 (Nat.le_refl _) (Xb HP.out.own))
   have HP := qb hp6
   simp only [List.length_cons, List.length_nil] at hw6
   clear hp6 hg6 hor6
   go_wp2
   go_roundw
   case rel => exact ⟨k, _, _, _, _, _, by omega, by go_num, by first | rfl | simp, HP.out, by have := HWT.out; have := HRE.out; omega, HR.out, by have := HQK.out; have := HQE.out; omega, HG.out⟩
   case measure => first | (simp [intOf]; done) | (simp [intOf]; omega)
 ·
   have HQX := qb hqx
   have HWX := qb hwx
   have HKX := qb hk
   clear hq hqx hwx hW hC hk
   go_upto_region 12 with fail
   go_wp2_with fail
   refine YDd 4 (by kernel_rfl) (by kernel_rfl) (fun L v => w4.grownBy v (Value.ownBlock (.slice A rs.length c)) /\ (L 1 = false -> Below w4.heap.size w4 v)) (fun i v v' => if i = 1 then v.grownBy v' (Value.ownBlock (.slice A rs.length c)) else KB v v') (fun i => ([bIs (.slice A rs.length c), fAdd w4.heap.size w.heap.size (wt xs + 1 + List.length ([60, 112, 62] : Tx)) (Value.ownBlock (.slice A rs.length c)), bIs r0.v, bRow (World.heap w4).size 1 (qD r0.k r0.t r0.n r0.Ap r0.lp r0.cp r0.Ao r0.lo r0.co) 115] : List TyB).getD i bAny) ?hWL ?hkeepL ?hstepL ?hfinL
   case hWL => exact ⟨Yp (xb _ _), fun _ => (Below.refl _ _).drew⟩
   case hkeepL =>
    intro i hi j hj hji v v' x hk hf
    have hj4 : j = 0 \/ j = 1 \/ j = 2 \/ j = 3 := by omega
    by_cases h1 : i = 1
    ·subst h1
     rw [if_pos rfl] at hk
     rcases hj4 with rfl | rfl | rfl | rfl
     ·exact hf
     ·exact absurd rfl hji
     ·exact hf
     obtain ⟨b, e, h2, h3⟩ := hf
     exact ⟨b, e, h2, (hk.block b (lt_of_block h3) (fun e2 => by have := HNE.out _ e2.symm; omega)).trans h3⟩
    rw [if_neg h1] at hk
    rcases hj4 with rfl | rfl | rfl | rfl
    ·exact hf
    ·exact Yx _ _ _ hk hf
    ·exact hf
    exact yc _ _ _ hk hf
   case hstepL =>
    refine qg (qg (qg (qg qG ?_) ?_) ?_) ?_
    ·intro o ho L a v hL hV hb hd K Q hK
     obtain rfl := Option.some.inj ho
     have e0 : a.tmps[5]?.getD undef = .slice A rs.length c := by rw [hb 5 (by decide +kernel)]; simp
     go_simp
     exact hK _ _ ⟨hV.1, fun h => hV.2 (by simpa [updd] using h)⟩ (show (if (_ : Nat) = 1 then _ else KB _ _) by rw [if_neg (by decide)]; exact VY _) rfl
    ·intro o ho L a v hL hV hb hd K Q hK
     obtain rfl := Option.some.inj ho
     have hbv := hV.2 hL
     have e1 := qo (hd 0 (by kernel_rfl) 42 rfl)
     go_simp
     refine (Yj [60, 112, 62] w.heap.size A c rs xs v (HP.out.keep hbv) (by have := hbv.size; have := HG.out.size; omega) (by have := HWX.out; omega) (by simp)).mono ?_
     rintro e v2 ⟨A5, c5, rs5, xs5, rfl, hp5, hw5, hg5, hor5⟩
     exact hK _ _ ⟨jF hV.1 hg5, fun h => by simp [updd] at h⟩ (show (if (1 : Nat) = 1 then _ else _) by rw [if_pos rfl]; exact hg5) ⟨A5, c5, rs5, xs5, rfl, hp5, hw5, hor5.imp id (fun h j hj => Nat.le_trans hbv.size (h j hj))⟩
    ·intro o ho L a v hL hV hb hd K Q hK
     obtain rfl := Option.some.inj ho
     have e0 : a.tmps[7]?.getD undef = .pointer (some ⟨w2.heap.size, 0, none⟩) := by rw [hb 7 (by decide +kernel)]; simp
     obtain ⟨⟨q0, q1, q2, q3, q4⟩, -⟩ := qI ((hV.1.block w2.heap.size hzx (fun e2 => by have := HNE.out _ e2.symm; omega)).trans HX.out)
     go_simp
     exact hK _ _ ⟨hV.1, fun h => hV.2 (by simpa [updd] using h)⟩ (show (if (_ : Nat) = 1 then _ else KB _ _) by rw [if_neg (by decide)]; exact VY _) rfl
    intro o ho L a v hL hV hb hd K Q hK
    obtain rfl := Option.some.inj ho
    exact YE 44 rfl r0 (qo (hd 2 (by kernel_rfl) 44 rfl)) (hK _ _ ⟨jF hV.1 (World.grownBy_alloc _ _ _), fun h => (hV.2 (by simpa [updd] using h)).alloc (hV.2 (by simpa [updd] using h)).size _⟩ (show (if (3 : Nat) = 1 then _ else KB _ _) by rw [if_neg (by decide)]; exact (Below.refl _ _).alloc (Nat.le_refl _) _) ⟨_, rfl, hV.1.size, heap_alloc_new v _⟩)
   case hfinL =>
    intro vs w5 L hL hV hF
    simp only [qF, hdst, List.getElem?_cons_succ, List.getElem?_cons_zero, Option.bind, List.drop_succ_cons, List.drop_zero, Act.put]
    obtain ⟨A5, c5, rs5, xs5, h1, hp5, hw5, hor5⟩ := hF 1 (by omega)
    obtain ⟨b5, h3, hb5, hh5⟩ := hF 3 (by omega)
    rw [h1, h3]
    have HP := qb hp5
    have HR := qb (HR.out.frame hV.1 (Yb HP0.out.own hlt))
    have HG := qb (Ya HG.out hV.1 (Nat.le_refl _) (Xb HP0.out.own))
    have HRW := qb (zH (us := [r0]) hh5 rfl)
    have hqx := HQX.out
    have hwx := HWX.out
    have hk := HKX.out
    have hrl5 : rs5.length <= 1000000 := by rw [hp5.len]; have := Yi xs5; have := HWX.out; simp only [List.length_cons, List.length_nil] at hw5; omega
    have hz5 := HG.out.size
    simp only [List.length_cons, List.length_nil] at hw5
    clear hF h1 h3 hV hL hp5 hh5 HX HNE hor5
    go_simp
    go_wp2_with (first | (at_builtin; refine zD rfl _ _ rfl w.heap.size A5 c5 rs5 [r0] (by rfl) HP.out.own b5 0 1 (by rfl) HRW.out (by simp) (by omega) (by omega) ?_; intro A7 c7 w7 ho7 hg7 hbk7) | fail)
    have HP7 := HP.out.app (ys := [.mk 2 [] nm [] []]) ho7 hg7 hbk7 (Els.cons (by rw [HRAW.out]; exact vp 2 [] nm) Els.nil)
    have HR := qb (HR.out.frame hg7 (Yb HP.out.own hlt))
    have HG := qb (Ya HG.out hg7 (Nat.le_refl _) (Xb HP.out.own))
    have hw7 : wt (xs5 ++ [.mk 2 [] nm [] []]) <= wt xs + 60 := by rw [Yh, Ye, Yg]; simp only [List.length_nil]; omega
    have h7 : rs5.length + 1 = (rs5 ++ [r0]).length := by simp
    rw [h7]
    generalize rs5 ++ [r0] = rs7 at *
    generalize xs5 ++ [.mk 2 [] nm [] []] = xs7 at *
    have HP := qb HP7
    clear HP7 ho7 hg7 hbk7 hw5 hrl5 h7 HRW
    refine (Yj [60, 47, 112, 62] w.heap.size _ _ _ _ _ HP.out (by have := HG.out.size; omega) (by omega) (by simp)).mono ?_
    rintro e w8 ⟨A8, c8, rs8, xs8, rfl, hp8, hw8, hg8, hor8⟩
    have HR := qb (HR.out.frame hg8 (Yb HP.out.own hlt))
    have HG := qb (Ya HG.out hg8 (Nat.le_refl _) (Xb HP.out.own))
    have HP := qb hp8
    simp only [List.length_cons, List.length_nil] at hw8
    clear hp8 hg8 hor8
    go_wp2
    go_roundw
    case rel => exact ⟨k, _, _, _, _, _, by omega, by go_num, by first | rfl | simp, HP.out, by have := HWT.out; have := HRE.out; omega, HR.out, by have := HQK.out; have := HQE.out; omega, HG.out⟩
    case measure => first | (simp [intOf]; done) | (simp [intOf]; omega)
 ·
   have HQX := qb hqx
   have HWX := qb hwx
   have HKX := qb hk
   clear hq hqx hwx hW hC hk
   go_upto_region 15 with fail
   go_wp2_with fail
   refine YDd 4 (by kernel_rfl) (by kernel_rfl) (fun L v => w4.grownBy v (Value.ownBlock (.slice A rs.length c)) /\ (L 1 = false -> Below w4.heap.size w4 v)) (fun i v v' => if i = 1 then v.grownBy v' (Value.ownBlock (.slice A rs.length c)) else KB v v') (fun i => ([bIs (.slice A rs.length c), fAdd w4.heap.size w.heap.size (wt xs + 1 + List.length ([60, 97, 32, 104, 114, 101, 102, 61, 34] : Tx)) (Value.ownBlock (.slice A rs.length c)), bIs r0.v, bRow (World.heap w4).size 1 (qD r0.k r0.t r0.n r0.Ap r0.lp r0.cp r0.Ao r0.lo r0.co) 115] : List TyB).getD i bAny) ?hWL ?hkeepL ?hstepL ?hfinL
   case hWL => exact ⟨Yp (xb _ _), fun _ => (Below.refl _ _).drew⟩
   case hkeepL =>
    intro i hi j hj hji v v' x hk hf
    have hj4 : j = 0 \/ j = 1 \/ j = 2 \/ j = 3 := by omega
    by_cases h1 : i = 1
    ·subst h1
     rw [if_pos rfl] at hk
     rcases hj4 with rfl | rfl | rfl | rfl
     ·exact hf
     ·exact absurd rfl hji
     ·exact hf
     obtain ⟨b, e, h2, h3⟩ := hf
     exact ⟨b, e, h2, (hk.block b (lt_of_block h3) (fun e2 => by have := HNE.out _ e2.symm; omega)).trans h3⟩
    rw [if_neg h1] at hk
    rcases hj4 with rfl | rfl | rfl | rfl
    ·exact hf
    ·exact Yx _ _ _ hk hf
    ·exact hf
    exact yc _ _ _ hk hf
   case hstepL =>
    refine qg (qg (qg (qg qG ?_) ?_) ?_) ?_
    ·intro o ho L a v hL hV hb hd K Q hK
     obtain rfl := Option.some.inj ho
     have e0 : a.tmps[5]?.getD undef = .slice A rs.length c := by rw [hb 5 (by decide +kernel)]; simp
     go_simp
     exact hK _ _ ⟨hV.1, fun h => hV.2 (by simpa [updd] using h)⟩ (show (if (_ : Nat) = 1 then _ else KB _ _) by rw [if_neg (by decide)]; exact VY _) rfl
    ·intro o ho L a v hL hV hb hd K Q hK
     obtain rfl := Option.some.inj ho
     have hbv := hV.2 hL
     have e1 := qo (hd 0 (by kernel_rfl) 51 rfl)
     go_simp
     refine (Yj [60, 97, 32, 104, 114, 101, 102, 61, 34] w.heap.size A c rs xs v (HP.out.keep hbv) (by have := hbv.size; have := HG.out.size; omega) (by have := HWX.out; omega) (by simp)).mono ?_
     rintro e v2 ⟨A5, c5, rs5, xs5, rfl, hp5, hw5, hg5, hor5⟩
     exact hK _ _ ⟨jF hV.1 hg5, fun h => by simp [updd] at h⟩ (show (if (1 : Nat) = 1 then _ else _) by rw [if_pos rfl]; exact hg5) ⟨A5, c5, rs5, xs5, rfl, hp5, hw5, hor5.imp id (fun h j hj => Nat.le_trans hbv.size (h j hj))⟩
    ·intro o ho L a v hL hV hb hd K Q hK
     obtain rfl := Option.some.inj ho
     have e0 : a.tmps[7]?.getD undef = .pointer (some ⟨w2.heap.size, 0, none⟩) := by rw [hb 7 (by decide +kernel)]; simp
     obtain ⟨⟨q0, q1, q2, q3, q4⟩, -⟩ := qI ((hV.1.block w2.heap.size hzx (fun e2 => by have := HNE.out _ e2.symm; omega)).trans HX.out)
     go_simp
     exact hK _ _ ⟨hV.1, fun h => hV.2 (by simpa [updd] using h)⟩ (show (if (_ : Nat) = 1 then _ else KB _ _) by rw [if_neg (by decide)]; exact VY _) rfl
    intro o ho L a v hL hV hb hd K Q hK
    obtain rfl := Option.some.inj ho
    exact YE 53 rfl r0 (qo (hd 2 (by kernel_rfl) 53 rfl)) (hK _ _ ⟨jF hV.1 (World.grownBy_alloc _ _ _), fun h => (hV.2 (by simpa [updd] using h)).alloc (hV.2 (by simpa [updd] using h)).size _⟩ (show (if (3 : Nat) = 1 then _ else KB _ _) by rw [if_neg (by decide)]; exact (Below.refl _ _).alloc (Nat.le_refl _) _) ⟨_, rfl, hV.1.size, heap_alloc_new v _⟩)
   case hfinL =>
    intro vs w5 L hL hV hF
    simp only [qF, hdst, List.getElem?_cons_succ, List.getElem?_cons_zero, Option.bind, List.drop_succ_cons, List.drop_zero, Act.put]
    obtain ⟨A5, c5, rs5, xs5, h1, hp5, hw5, hor5⟩ := hF 1 (by omega)
    obtain ⟨b5, h3, hb5, hh5⟩ := hF 3 (by omega)
    rw [h1, h3]
    have HP := qb hp5
    have HR := qb (HR.out.frame hV.1 (Yb HP0.out.own hlt))
    have HG := qb (Ya HG.out hV.1 (Nat.le_refl _) (Xb HP0.out.own))
    have HRW := qb (zH (us := [r0]) hh5 rfl)
    have hqx := HQX.out
    have hwx := HWX.out
    have hk := HKX.out
    have hrl5 : rs5.length <= 1000000 := by rw [hp5.len]; have := Yi xs5; have := HWX.out; simp only [List.length_cons, List.length_nil] at hw5; omega
    have hz5 := HG.out.size
    simp only [List.length_cons, List.length_nil] at hw5
    clear hF h1 h3 hV hL hp5 hh5 HX HNE hor5
    go_simp
    go_wp2_with (first | (at_builtin; refine zD rfl _ _ rfl w.heap.size A5 c5 rs5 [r0] (by rfl) HP.out.own b5 0 1 (by rfl) HRW.out (by simp) (by omega) (by omega) ?_; intro A7 c7 w7 ho7 hg7 hbk7) | fail)
    have HP7 := HP.out.app (ys := [.mk 2 [] nm [] []]) ho7 hg7 hbk7 (Els.cons (by rw [HRAW.out]; exact vp 2 [] nm) Els.nil)
    have HR := qb (HR.out.frame hg7 (Yb HP.out.own hlt))
    have HG := qb (Ya HG.out hg7 (Nat.le_refl _) (Xb HP.out.own))
    have hw7 : wt (xs5 ++ [.mk 2 [] nm [] []]) <= wt xs + 60 := by rw [Yh, Ye, Yg]; simp only [List.length_nil]; omega
    have h7 : rs5.length + 1 = (rs5 ++ [r0]).length := by simp
    rw [h7]
    generalize rs5 ++ [r0] = rs7 at *
    generalize xs5 ++ [.mk 2 [] nm [] []] = xs7 at *
    have HP := qb HP7
    clear HP7 ho7 hg7 hbk7 hw5 hrl5 h7 HRW
    refine (Yj [34, 62, 121, 60, 47, 97, 62] w.heap.size _ _ _ _ _ HP.out (by have := HG.out.size; omega) (by omega) (by simp)).mono ?_
    rintro e w8 ⟨A8, c8, rs8, xs8, rfl, hp8, hw8, hg8, hor8⟩
    have HR := qb (HR.out.frame hg8 (Yb HP.out.own hlt))
    have HG := qb (Ya HG.out hg8 (Nat.le_refl _) (Xb HP.out.own))
    have HP := qb hp8
    simp only [List.length_cons, List.length_nil] at hw8
    clear hp8 hg8 hor8
    go_wp2
    go_roundw
    case rel => exact ⟨k, _, _, _, _, _, by omega, by go_num, by first | rfl | simp, HP.out, by have := HWT.out; have := HRE.out; omega, HR.out, by have := HQK.out; have := HQE.out; omega, HG.out⟩
    case measure => first | (simp [intOf]; done) | (simp [intOf]; omega)
 ·
   have HQX := qb hqx
   have HWX := qb hwx
   have HKX := qb hk
   clear hq hqx hwx hW hC hk
   go_upto_region 18 with fail
   go_wp2_with fail
   refine YDd 4 (by kernel_rfl) (by kernel_rfl) (fun L v => w4.grownBy v (Value.ownBlock (.slice A rs.length c)) /\ (L 1 = false -> Below w4.heap.size w4 v)) (fun i v v' => if i = 1 then v.grownBy v' (Value.ownBlock (.slice A rs.length c)) else KB v v') (fun i => ([bIs (.slice A rs.length c), fAdd w4.heap.size w.heap.size (wt xs + 1 + List.length ([60, 97, 32, 104, 114, 101, 102, 61, 39, 47, 115, 63, 113, 61] : Tx)) (Value.ownBlock (.slice A rs.length c)), bIs r0.v, bRow (World.heap w4).size 1 (qD r0.k r0.t r0.n r0.Ap r0.lp r0.cp r0.Ao r0.lo r0.co) 115] : List TyB).getD i bAny) ?hWL ?hkeepL ?hstepL ?hfinL
   case hWL => exact ⟨Yp (xb _ _), fun _ => (Below.refl _ _).drew⟩
   case hkeepL =>
    intro i hi j hj hji v v' x hk hf
    have hj4 : j = 0 \/ j = 1 \/ j = 2 \/ j = 3 := by omega
    by_cases h1 : i = 1
    ·subst h1
     rw [if_pos rfl] at hk
     rcases hj4 with rfl | rfl | rfl | rfl
     ·exact hf
     ·exact absurd rfl hji
     ·exact hf
     obtain ⟨b, e, h2, h3⟩ := hf
     exact ⟨b, e, h2, (hk.block b (lt_of_block h3) (fun e2 => by have := HNE.out _ e2.symm; omega)).trans h3⟩
    rw [if_neg h1] at hk
    rcases hj4 with rfl | rfl | rfl | rfl
    ·exact hf
    ·exact Yx _ _ _ hk hf
    ·exact hf
    exact yc _ _ _ hk hf
   case hstepL =>
    refine qg (qg (qg (qg qG ?_) ?_) ?_) ?_
    ·intro o ho L a v hL hV hb hd K Q hK
     obtain rfl := Option.some.inj ho
     have e0 : a.tmps[5]?.getD undef = .slice A rs.length c := by rw [hb 5 (by decide +kernel)]; simp
     go_simp
     exact hK _ _ ⟨hV.1, fun h => hV.2 (by simpa [updd] using h)⟩ (show (if (_ : Nat) = 1 then _ else KB _ _) by rw [if_neg (by decide)]; exact VY _) rfl
    ·intro o ho L a v hL hV hb hd K Q hK
     obtain rfl := Option.some.inj ho
     have hbv := hV.2 hL
     have e1 := qo (hd 0 (by kernel_rfl) 60 rfl)
     go_simp
     refine (Yj [60, 97, 32, 104, 114, 101, 102, 61, 39, 47, 115, 63, 113, 61] w.heap.size A c rs xs v (HP.out.keep hbv) (by have := hbv.size; have := HG.out.size; omega) (by have := HWX.out; omega) (by simp)).mono ?_
     rintro e v2 ⟨A5, c5, rs5, xs5, rfl, hp5, hw5, hg5, hor5⟩
     exact hK _ _ ⟨jF hV.1 hg5, fun h => by simp [updd] at h⟩ (show (if (1 : Nat) = 1 then _ else _) by rw [if_pos rfl]; exact hg5) ⟨A5, c5, rs5, xs5, rfl, hp5, hw5, hor5.imp id (fun h j hj => Nat.le_trans hbv.size (h j hj))⟩
    ·intro o ho L a v hL hV hb hd K Q hK
     obtain rfl := Option.some.inj ho
     have e0 : a.tmps[7]?.getD undef = .pointer (some ⟨w2.heap.size, 0, none⟩) := by rw [hb 7 (by decide +kernel)]; simp
     obtain ⟨⟨q0, q1, q2, q3, q4⟩, -⟩ := qI ((hV.1.block w2.heap.size hzx (fun e2 => by have := HNE.out _ e2.symm; omega)).trans HX.out)
     go_simp
     exact hK _ _ ⟨hV.1, fun h => hV.2 (by simpa [updd] using h)⟩ (show (if (_ : Nat) = 1 then _ else KB _ _) by rw [if_neg (by decide)]; exact VY _) rfl
    intro o ho L a v hL hV hb hd K Q hK
    obtain rfl := Option.some.inj ho
    exact YE 62 rfl r0 (qo (hd 2 (by kernel_rfl) 62 rfl)) (hK _ _ ⟨jF hV.1 (World.grownBy_alloc _ _ _), fun h => (hV.2 (by simpa [updd] using h)).alloc (hV.2 (by simpa [updd] using h)).size _⟩ (show (if (3 : Nat) = 1 then _ else KB _ _) by rw [if_neg (by decide)]; exact (Below.refl _ _).alloc (Nat.le_refl _) _) ⟨_, rfl, hV.1.size, heap_alloc_new v _⟩)
   case hfinL =>
    intro vs w5 L hL hV hF
    simp only [qF, hdst, List.getElem?_cons_succ, List.getElem?_cons_zero, Option.bind, List.drop_succ_cons, List.drop_zero, Act.put]
    obtain ⟨A5, c5, rs5, xs5, h1, hp5, hw5, hor5⟩ := hF 1 (by omega)
    obtain ⟨b5, h3, hb5, hh5⟩ := hF 3 (by omega)
    rw [h1, h3]
    have HP := qb hp5
    have HR := qb (HR.out.frame hV.1 (Yb HP0.out.own hlt))
    have HG := qb (Ya HG.out hV.1 (Nat.le_refl _) (Xb HP0.out.own))
    have HRW := qb (zH (us := [r0]) hh5 rfl)
    have hqx := HQX.out
    have hwx := HWX.out
    have hk := HKX.out
    have hrl5 : rs5.length <= 1000000 := by rw [hp5.len]; have := Yi xs5; have := HWX.out; simp only [List.length_cons, List.length_nil] at hw5; omega
    have hz5 := HG.out.size
    simp only [List.length_cons, List.length_nil] at hw5
    clear hF h1 h3 hV hL hp5 hh5 HX HNE hor5
    go_simp
    go_wp2_with (first | (at_builtin; refine zD rfl _ _ rfl w.heap.size A5 c5 rs5 [r0] (by rfl) HP.out.own b5 0 1 (by rfl) HRW.out (by simp) (by omega) (by omega) ?_; intro A7 c7 w7 ho7 hg7 hbk7) | fail)
    have HP7 := HP.out.app (ys := [.mk 2 [] nm [] []]) ho7 hg7 hbk7 (Els.cons (by rw [HRAW.out]; exact vp 2 [] nm) Els.nil)
    have HR := qb (HR.out.frame hg7 (Yb HP.out.own hlt))
    have HG := qb (Ya HG.out hg7 (Nat.le_refl _) (Xb HP.out.own))
    have hw7 : wt (xs5 ++ [.mk 2 [] nm [] []]) <= wt xs + 60 := by rw [Yh, Ye, Yg]; simp only [List.length_nil]; omega
    have h7 : rs5.length + 1 = (rs5 ++ [r0]).length := by simp
    rw [h7]
    generalize rs5 ++ [r0] = rs7 at *
    generalize xs5 ++ [.mk 2 [] nm [] []] = xs7 at *
    have HP := qb HP7
    clear HP7 ho7 hg7 hbk7 hw5 hrl5 h7 HRW
    refine (Yj [39, 62, 122, 60, 47, 97, 62] w.heap.size _ _ _ _ _ HP.out (by have := HG.out.size; omega) (by omega) (by simp)).mono ?_
    rintro e w8 ⟨A8, c8, rs8, xs8, rfl, hp8, hw8, hg8, hor8⟩
    have HR := qb (HR.out.frame hg8 (Yb HP.out.own hlt))
    have HG := qb (Ya HG.out hg8 (Nat.le_refl _) (Xb HP.out.own))
    have HP := qb hp8
    simp only [List.length_cons, List.length_nil] at hw8
    clear hp8 hg8 hor8
    go_wp2
    go_roundw
    case rel => exact ⟨k, _, _, _, _, _, by omega, by go_num, by first | rfl | simp, HP.out, by have := HWT.out; have := HRE.out; omega, HR.out, by have := HQK.out; have := HQE.out; omega, HG.out⟩
    case measure => first | (simp [intOf]; done) | (simp [intOf]; omega)
 ·
   have HQX := qb hqx
   have HWX := qb hwx
   have HKX := qb hk
   clear hq hqx hwx hW hC hk
   go_upto_region 21 with fail
   go_wp2_with fail
   refine YDd 4 (by kernel_rfl) (by kernel_rfl) (fun L v => w4.grownBy v (Value.ownBlock (.slice A rs.length c)) /\ (L 1 = false -> Below w4.heap.size w4 v)) (fun i v v' => if i = 1 then v.grownBy v' (Value.ownBlock (.slice A rs.length c)) else KB v v') (fun i => ([bIs (.slice A rs.length c), fAdd w4.heap.size w.heap.size (wt xs + 1 + List.length ([60, 105, 32, 116, 105, 116, 108, 101, 61, 34] : Tx)) (Value.ownBlock (.slice A rs.length c)), bIs r0.v, bRow (World.heap w4).size 1 (qD r0.k r0.t r0.n r0.Ap r0.lp r0.cp r0.Ao r0.lo r0.co) 115] : List TyB).getD i bAny) ?hWL ?hkeepL ?hstepL ?hfinL
   case hWL => exact ⟨Yp (xb _ _), fun _ => (Below.refl _ _).drew⟩
   case hkeepL =>
    intro i hi j hj hji v v' x hk hf
    have hj4 : j = 0 \/ j = 1 \/ j = 2 \/ j = 3 := by omega
    by_cases h1 : i = 1
    ·subst h1
     rw [if_pos rfl] at hk
     rcases hj4 with rfl | rfl | rfl | rfl
     ·exact hf
     ·exact absurd rfl hji
     ·exact hf
     obtain ⟨b, e, h2, h3⟩ := hf
     exact ⟨b, e, h2, (hk.block b (lt_of_block h3) (fun e2 => by have := HNE.out _ e2.symm; omega)).trans h3⟩
    rw [if_neg h1] at hk
    rcases hj4 with rfl | rfl | rfl | rfl
    ·exact hf
    ·exact Yx _ _ _ hk hf
    ·exact hf
    exact yc _ _ _ hk hf
   case hstepL =>
    refine qg (qg (qg (qg qG ?_) ?_) ?_) ?_
    ·intro o ho L a v hL hV hb hd K Q hK
     obtain rfl := Option.some.inj ho
     have e0 : a.tmps[5]?.getD undef = .slice A rs.length c := by rw [hb 5 (by decide +kernel)]; simp
     go_simp
     exact hK _ _ ⟨hV.1, fun h => hV.2 (by simpa [updd] using h)⟩ (show (if (_ : Nat) = 1 then _ else KB _ _) by rw [if_neg (by decide)]; exact VY _) rfl
    ·intro o ho L a v hL hV hb hd K Q hK
     obtain rfl := Option.some.inj ho
     have hbv := hV.2 hL
     have e1 := qo (hd 0 (by kernel_rfl) 69 rfl)
     go_simp
     refine (Yj [60, 105, 32, 116, 105, 116, 108, 101, 61, 34] w.heap.size A c rs xs v (HP.out.keep hbv) (by have := hbv.size; have := HG.out.size; omega) (by have := HWX.out; omega) (by simp)).mono ?_
     rintro e v2 ⟨A5, c5, rs5, xs5, rfl, hp5, hw5, hg5, hor5⟩
     exact hK _ _ ⟨jF hV.1 hg5, fun h => by simp [updd] at h⟩ (show (if (1 : Nat) = 1 then _ else _) by rw [if_pos rfl]; exact hg5) ⟨A5, c5, rs5, xs5, rfl, hp5, hw5, hor5.imp id (fun h j hj => Nat.le_trans hbv.size (h j hj))⟩
    ·intro o ho L a v hL hV hb hd K Q hK
     obtain rfl := Option.some.inj ho
     have e0 : a.tmps[7]?.getD undef = .pointer (some ⟨w2.heap.size, 0, none⟩) := by rw [hb 7 (by decide +kernel)]; simp
     obtain ⟨⟨q0, q1, q2, q3, q4⟩, -⟩ := qI ((hV.1.block w2.heap.size hzx (fun e2 => by have := HNE.out _ e2.symm; omega)).trans HX.out)
     go_simp
     exact hK _ _ ⟨hV.1, fun h => hV.2 (by simpa [updd] using h)⟩ (show (if (_ : Nat) = 1 then _ else KB _ _) by rw [if_neg (by decide)]; exact VY _) rfl
    intro o ho L a v hL hV hb hd K Q hK
    obtain rfl := Option.some.inj ho
    exact YE 71 rfl r0 (qo (hd 2 (by kernel_rfl) 71 rfl)) (hK _ _ ⟨jF hV.1 (World.grownBy_alloc _ _ _), fun h => (hV.2 (by simpa [updd] using h)).alloc (hV.2 (by simpa [updd] using h)).size _⟩ (show (if (3 : Nat) = 1 then _ else KB _ _) by rw [if_neg (by decide)]; exact (Below.refl _ _).alloc (Nat.le_refl _) _) ⟨_, rfl, hV.1.size, heap_alloc_new v _⟩)
   case hfinL =>
    intro vs w5 L hL hV hF
    simp only [qF, hdst, List.getElem?_cons_succ, List.getElem?_cons_zero, Option.bind, List.drop_succ_cons, List.drop_zero, Act.put]
    obtain ⟨A5, c5, rs5, xs5, h1, hp5, hw5, hor5⟩ := hF 1 (by omega)
    obtain ⟨b5, h3, hb5, hh5⟩ := hF 3 (by omega)
    rw [h1, h3]
    have HP := qb hp5
    have HR := qb (HR.out.frame hV.1 (Yb HP0.out.own hlt))
    have HG := qb (Ya HG.out hV.1 (Nat.le_refl _) (Xb HP0.out.own))
    have HRW := qb (zH (us := [r0]) hh5 rfl)
    have hqx := HQX.out
    have hwx := HWX.out
    have hk := HKX.out
    have hrl5 : rs5.length <= 1000000 := by rw [hp5.len]; have := Yi xs5; have := HWX.out; simp only [List.length_cons, List.length_nil] at hw5; omega
    have hz5 := HG.out.size
    simp only [List.length_cons, List.length_nil] at hw5
    clear hF h1 h3 hV hL hp5 hh5 HX HNE hor5
    go_simp
    go_wp2_with (first | (at_builtin; refine zD rfl _ _ rfl w.heap.size A5 c5 rs5 [r0] (by rfl) HP.out.own b5 0 1 (by rfl) HRW.out (by simp) (by omega) (by omega) ?_; intro A7 c7 w7 ho7 hg7 hbk7) | fail)
    have HP7 := HP.out.app (ys := [.mk 2 [] nm [] []]) ho7 hg7 hbk7 (Els.cons (by rw [HRAW.out]; exact vp 2 [] nm) Els.nil)
    have HR := qb (HR.out.frame hg7 (Yb HP.out.own hlt))
    have HG := qb (Ya HG.out hg7 (Nat.le_refl _) (Xb HP.out.own))
    have hw7 : wt (xs5 ++ [.mk 2 [] nm [] []]) <= wt xs + 60 := by rw [Yh, Ye, Yg]; simp only [List.length_nil]; omega
    have h7 : rs5.length + 1 = (rs5 ++ [r0]).length := by simp
    rw [h7]
    generalize rs5 ++ [r0] = rs7 at *
    generalize xs5 ++ [.mk 2 [] nm [] []] = xs7 at *
    have HP := qb HP7
    clear HP7 ho7 hg7 hbk7 hw5 hrl5 h7 HRW
    refine (Yj [34, 62, 116, 60, 47, 105, 62] w.heap.size _ _ _ _ _ HP.out (by have := HG.out.size; omega) (by omega) (by simp)).mono ?_
    rintro e w8 ⟨A8, c8, rs8, xs8, rfl, hp8, hw8, hg8, hor8⟩
    have HR := qb (HR.out.frame hg8 (Yb HP.out.own hlt))
    have HG := qb (Ya HG.out hg8 (Nat.le_refl _) (Xb HP.out.own))
    have HP := qb hp8
    simp only [List.length_cons, List.length_nil] at hw8
    clear hp8 hg8 hor8
    go_wp2
    go_roundw
    case rel => exact ⟨k, _, _, _, _, _, by omega, by go_num, by first | rfl | simp, HP.out, by have := HWT.out; have := HRE.out; omega, HR.out, by have := HQK.out; have := HQE.out; omega, HG.out⟩
    case measure => first | (simp [intOf]; done) | (simp [intOf]; omega)
 ·
   have HQX := qb hqx
   have HWX := qb hwx
   have HKX := qb hk
   clear hq hqx hwx hW hC hk
   go_upto_region 24 with fail
   go_wp2_with fail
   refine YDd 4 (by kernel_rfl) (by kernel_rfl) (fun L v => w4.grownBy v (Value.ownBlock (.slice A rs.length c)) /\ (L 1 = false -> Below w4.heap.size w4 v)) (fun i v v' => if i = 1 then v.grownBy v' (Value.ownBlock (.slice A rs.length c)) else KB v v') (fun i => ([bIs (.slice A rs.length c), fAdd w4.heap.size w.heap.size (wt xs + 1 + List.length ([60, 115, 99, 114, 105, 112, 116, 62, 118, 97, 114, 32, 97, 61, 34] : Tx)) (Value.ownBlock (.slice A rs.length c)), bIs r0.v, bRow (World.heap w4).size 1 (qD r0.k r0.t r0.n r0.Ap r0.lp r0.cp r0.Ao r0.lo r0.co) 115] : List TyB).getD i bAny) ?hWL ?hkeepL ?hstepL ?hfinL
   case hWL => exact ⟨Yp (xb _ _), fun _ => (Below.refl _ _).drew⟩
   case hkeepL =>
    intro i hi j hj hji v v' x hk hf
    have hj4 : j = 0 \/ j = 1 \/ j = 2 \/ j = 3 := by omega
    by_cases h1 : i = 1
    ·subst h1
     rw [if_pos rfl] at hk
     rcases hj4 with rfl | rfl | rfl | rfl
     ·exact hf
     ·exact absurd rfl hji
     ·exact hf
     obtain ⟨b, e, h2, h3⟩ := hf
     exact ⟨b, e, h2, (hk.block b (lt_of_block h3) (fun e2 => by have := HNE.out _ e2.symm; omega)).trans h3⟩
    rw [if_neg h1] at hk
    rcases hj4 with rfl | rfl | rfl | rfl
    ·exact hf
    ·exact Yx _ _ _ hk hf
    ·exact hf
    exact yc _ _ _ hk hf
   case hstepL =>
    refine qg (qg (qg (qg qG ?_) ?_) ?_) ?_
    ·intro o ho L a v hL hV hb hd K Q hK
     obtain rfl := Option.some.inj ho
     have e0 : a.tmps[5]?.getD undef = .slice A rs.length c := by rw [hb 5 (by decide +kernel)]; simp
     go_simp
     exact hK _ _ ⟨hV.1, fun h => hV.2 (by simpa [updd] using h)⟩ (show (if (_ : Nat) = 1 then _ else KB _ _) by rw [if_neg (by decide)]; exact VY _) rfl
    ·intro o ho L a v hL hV hb hd K Q hK
     obtain rfl := Option.some.inj ho
     have hbv := hV.2 hL
     have e1 := qo (hd 0 (by kernel_rfl) 78 rfl)
     go_simp
     refine (Yj [60, 115, 99, 114, 105, 112, 116, 62, 118, 97, 114, 32, 97, 61, 34] w.heap.size A c rs xs v (HP.out.keep hbv) (by have := hbv.size; have := HG.out.size; omega) (by have := HWX.out; omega) (by simp)).mono ?_
     rintro e v2 ⟨A5, c5, rs5, xs5, rfl, hp5, hw5, hg5, hor5⟩
     exact hK _ _ ⟨jF hV.1 hg5, fun h => by simp [updd] at h⟩ (show (if (1 : Nat) = 1 then _ else _) by rw [if_pos rfl]; exact hg5) ⟨A5, c5, rs5, xs5, rfl, hp5, hw5, hor5.imp id (fun h j hj => Nat.le_trans hbv.size (h j hj))⟩
    ·intro o ho L a v hL hV hb hd K Q hK
     obtain rfl := Option.some.inj ho
     have e0 : a.tmps[7]?.getD undef = .pointer (some ⟨w2.heap.size, 0, none⟩) := by rw [hb 7 (by decide +kernel)]; simp
     obtain ⟨⟨q0, q1, q2, q3, q4⟩, -⟩ := qI ((hV.1.block w2.heap.size hzx (fun e2 => by have := HNE.out _ e2.symm; omega)).trans HX.out)
     go_simp
     exact hK _ _ ⟨hV.1, fun h => hV.2 (by simpa [updd] using h)⟩ (show (if (_ : Nat) = 1 then _ else KB _ _) by rw [if_neg (by decide)]; exact VY _) rfl
    intro o ho L a v hL hV hb hd K Q hK
    obtain rfl := Option.some.inj ho
    exact YE 80 rfl r0 (qo (hd 2 (by kernel_rfl) 80 rfl)) (hK _ _ ⟨jF hV.1 (World.grownBy_alloc _ _ _), fun h => (hV.2 (by simpa [updd] using h)).alloc (hV.2 (by simpa [updd] using h)).size _⟩ (show (if (3 : Nat) = 1 then _ else KB _ _) by rw [if_neg (by decide)]; exact (Below.refl _ _).alloc (Nat.le_refl _) _) ⟨_, rfl, hV.1.size, heap_alloc_new v _⟩)
   case hfinL =>
    intro vs w5 L hL hV hF
    simp only [qF, hdst, List.getElem?_cons_succ, List.getElem?_cons_zero, Option.bind, List.drop_succ_cons, List.drop_zero, Act.put]
    obtain ⟨A5, c5, rs5, xs5, h1, hp5, hw5, hor5⟩ := hF 1 (by omega)
    obtain ⟨b5, h3, hb5, hh5⟩ := hF 3 (by omega)
    rw [h1, h3]
    have HP := qb hp5
    have HR := qb (HR.out.frame hV.1 (Yb HP0.out.own hlt))
    have HG := qb (Ya HG.out hV.1 (Nat.le_refl _) (Xb HP0.out.own))
    have HRW := qb (zH (us := [r0]) hh5 rfl)
    have hqx := HQX.out
    have hwx := HWX.out
    have hk := HKX.out
    have hrl5 : rs5.length <= 1000000 := by rw [hp5.len]; have := Yi xs5; have := HWX.out; simp only [List.length_cons, List.length_nil] at hw5; omega
    have hz5 := HG.out.size
    simp only [List.length_cons, List.length_nil] at hw5
    clear hF h1 h3 hV hL hp5 hh5 HX HNE hor5
    go_simp
    go_wp2_with (first | (at_builtin; refine zD rfl _ _ rfl w.heap.size A5 c5 rs5 [r0] (by rfl) HP.out.own b5 0 1 (by rfl) HRW.out (by simp) (by omega) (by omega) ?_; intro A7 c7 w7 ho7 hg7 hbk7) | fail)
    have HP7 := HP.out.app (ys := [.mk 2 [] nm [] []]) ho7 hg7 hbk7 (Els.cons (by rw [HRAW.out]; exact vp 2 [] nm) Els.nil)
    have HR := qb (HR.out.frame hg7 (Yb HP.out.own hlt))
    have HG := qb (Ya HG.out hg7 (Nat.le_refl _) (Xb HP.out.own))
    have hw7 : wt (xs5 ++ [.mk 2 [] nm [] []]) <= wt xs + 60 := by rw [Yh, Ye, Yg]; simp only [List.length_nil]; omega
    have h7 : rs5.length + 1 = (rs5 ++ [r0]).length := by simp
    rw [h7]
    generalize rs5 ++ [r0] = rs7 at *
    generalize xs5 ++ [.mk 2 [] nm [] []] = xs7 at *
    have HP := qb HP7
    clear HP7 ho7 hg7 hbk7 hw5 hrl5 h7 HRW
    refine (Yj [34, 59, 60, 47, 115, 99, 114, 105, 112, 116, 62] w.heap.size _ _ _ _ _ HP.out (by have := HG.out.size; omega) (by omega) (by simp)).mono ?_
    rintro e w8 ⟨A8, c8, rs8, xs8, rfl, hp8, hw8, hg8, hor8⟩
    have HR := qb (HR.out.frame hg8 (Yb HP.out.own hlt))
    have HG := qb (Ya HG.out hg8 (Nat.le_refl _) (Xb HP.out.own))
    have HP := qb hp8
    simp only [List.length_cons, List.length_nil] at hw8
    clear hp8 hg8 hor8
    go_wp2
    go_roundw
    case rel => exact ⟨k, _, _, _, _, _, by omega, by go_num, by first | rfl | simp, HP.out, by have := HWT.out; have := HRE.out; omega, HR.out, by have := HQK.out; have := HQE.out; omega, HG.out⟩
    case measure => first | (simp [intOf]; done) | (simp [intOf]; omega)
 ·
   obtain ⟨⟨f0, f1, f2, f3, f4⟩, -⟩ := qI HX.out
   have hrl : rs.length <= 1000000 := by rw [HP.out.len]; have := Yi xs; omega
   have HA := qb ((Below.refl w4.heap.size w4).alloc (Nat.le_refl _) (.cells (qD r0.k r0.t r0.n r0.Ap r0.lp r0.cp r0.Ao r0.lo r0.co) 115))
   have HPA := qb (HP.out.keep HA.out)
   have HRA := qb (HR.out.keep HA.out)
   have HGA := qb (jF HG.out (World.grownBy_alloc w4 (.cells (qD r0.k r0.t r0.n r0.Ap r0.lp r0.cp r0.Ao r0.lo r0.co) 115) (some g)))
   have HRW := qb (zH (us := [r0]) (heap_alloc_new w4 (.cells (qD r0.k r0.t r0.n r0.Ap r0.lp r0.cp r0.Ao r0.lo r0.co) 115)) rfl)
   have HSW : Hid (w.heap.size <= (w4.alloc (.cells (qD r0.k r0.t r0.n r0.Ap r0.lp r0.cp r0.Ao r0.lo r0.co) 115)).heap.size) := by show _ <= _; have := HG.out.size; simp; omega
   have HRL : Hid (rs.length <= 4294967296) := by show _ <= _; omega
   go_wp2_with (at_builtin; refine zD rfl _ _ rfl w.heap.size A c rs [r0] (by rfl) HPA.out.own w4.heap.size 0 1 (by rfl) HRW.out (by simp) HRL.out HSW.out ?_; intro A7 c7 w7 ho7 hg7 hbk7)
   have HP := qb (HPA.out.app (ys := [.mk 2 [] nm [] []]) ho7 hg7 hbk7 (Els.cons (by rw [HRAW.out]; exact vp 2 [] nm) Els.nil))
   have HR := qb (HRA.out.frame hg7 (Yb HPA.out.own hlt))
   have HG := qb (Ya HGA.out hg7 (Nat.le_refl _) (Xb HPA.out.own))
   clear ho7 hg7 hbk7
   go_roundw
   case rel => exact ⟨k, _, _, _, _, _, by omega, by go_num, by first | rfl | simp, HP.out, by rw [Yh, Ye, Yg]; simp only [List.length_nil]; have := HWT.out; have := HRE.out; omega, HR.out, by have := HQK.out; have := HQE.out; omega, HG.out⟩
   case measure => first | (simp [intOf]; done) | (simp [intOf]; omega)
 ·
   by_cases hd0 : d = 0
   ·have hdn : (0 < d) = False := by rw [hd0]; simp
    clear hd0
    go_wp2
    go_roundw
    case rel => exact ⟨k, _, _, _, _, _, by omega, by go_num, by first | rfl | simp, HP.out, by have := HWT.out; omega, HR.out, by have := HQK.out; have := HQE.out; omega, HG.out⟩
    case measure => first | (simp [intOf]; done) | (simp [intOf]; omega)
   obtain ⟨d', hd'⟩ : ∃ d', d = d' + 1 := ⟨d - 1, by omega⟩
   have hdn : (0 < d) = True := eq_true (by omega)
   have hdm : (d : Int) - 1 = (d' : Int) := by omega
   have HI := qb (fun B g q w => IH.out d' hd' B g q w)
   have hcc : C' <= 50000 := by have := HQE.out; omega
   have hww : W' <= 50000 := by have := HRE.out; omega
   have HDD := qb hd'
   clear hd' hd0
   go_wp2_with fail
   refine (Yr B g _ 0 _ HR.out (by omega) (by omega) (by omega)).mono ?_
   rintro e w5 ⟨n2, rfl, hn2, hr5, hg5⟩
   have HR5 := qb hr5
   have G45 := qb hg5
   clear hr5 hg5
   go_wp2_with fail
   refine (HI.out B g _ _ HR5.out (by have := HDD.out; omega)).mono ?_
   rintro e w6 ⟨Aa, ca, rsa, xsa, rfl, hpa, hwa, hr6, hg6⟩
   have HPA6 := qb hpa
   have hz45 := G45.out.size
   have hz56 := hg6.size
   have G4 := qb (jF (jF G45.out hg6) (World.grownBy_alloc w6 (.cells (qD 3 [] n2 Aa rsa.length ca none 0 0) 115) (some g)))
   have G6 := qb (World.grownBy_alloc w6 (.cells (qD 3 [] n2 Aa rsa.length ca none 0 0) 115) (some g))
   have HR6 := qb (hr6.keep ((Below.refl _ _).alloc (Nat.le_refl _) (.cells (qD 3 [] n2 Aa rsa.length ca none 0 0) 115)))
   have HXP := qb (heap_alloc_new w6 (.cells (qD 3 [] n2 Aa rsa.length ca none 0 0) 115))
   have hzb : w6.heap.size < (w6.alloc (.cells (qD 3 [] n2 Aa rsa.length ca none 0 0) 115)).heap.size := by simp
   have hg5 : g < w5.heap.size := by omega
   have hg66 : g < w6.heap.size := by omega
   clear hpa hr6 hg6
   go_upto_region 31 with fail
   generalize w6.alloc (.cells (qD 3 [] n2 Aa rsa.length ca none 0 0) 115) = wb at *
   go_wp2_with fail
   refine (Yf B g _ 2 _ HR6.out (by omega) (by omega) (by omega)).mono ?_
   rintro e w7 ⟨z2, rfl, hz2, hr7, hg7⟩
   have G4 := qb (jF G4.out hg7)
   have G6 := qb (jF G6.out hg7)
   have HXP := qb ((hg7.block w6.heap.size hzb (by simp; omega)).trans HXP.out)
   have hz67 : w6.heap.size < w7.heap.size := Nat.lt_of_lt_of_le hzb hg7.size
   have HR7 := qb hr7
   clear hr7 hg7
   by_cases hz20 : z2 = 0
   ·subst hz20
    go_wp2_with fail
    refine (HI.out B g _ _ HR7.out (by have := HDD.out; omega)).mono ?_
    rintro e w8 ⟨Ab, cb, rsb, xsb, rfl, hpb, hwb, hr8, hg8⟩
    have hx8 := (hg8.block w6.heap.size hz67 (by simp; omega)).trans HXP.out
    obtain ⟨⟨y0, y1, y2, y3, y4⟩, y5, y6, y7, y8, y9⟩ := qI hx8
    have HXV : Hid ((w8.setCell ⟨w6.heap.size, 4, none⟩ (.slice Ab rsb.length cb)).heap[w6.heap.size]? = some (.cells (qD 3 [] n2 Aa rsa.length ca Ab rsb.length cb) 115 (0, 0))) := qP hx8
    have G4 := qb (YI (jF G4.out hg8) (p := ⟨w6.heap.size, 4, none⟩) (show w4.heap.size <= w6.heap.size by omega) (.slice Ab rsb.length cb))
    have G6 := qb (YI (jF G6.out hg8) (p := ⟨w6.heap.size, 4, none⟩) (Nat.le_refl _) (.slice Ab rsb.length cb))
    have HRV := qb (hr8.frame (row := some w6.heap.size) (vD (xb _ _) 4 (.slice Ab rsb.length cb)) (fun j hj => by injection hj with hj; omega))
    have HPB := qb (hpb.grow (row := some w6.heap.size) (vD (xb _ _) 4 (.slice Ab rsb.length cb)) (fun j hj => by injection hj with hj; omega))
    have hz78 := hg8.size
    clear hpb hr8 hg8 hx8
    go_upto_region 33 with fail
    generalize w8.setCell ⟨w6.heap.size, 4, none⟩ (.slice Ab rsb.length cb) = wv at *
    clear y0 y1 y2 y3 y4 y5 y6 y7 y8 y9
    have HPA := qb (HPA6.out.grow G6.out (fun j hj => by injection hj with hj; omega))
    have hEL : InP wv (fun j => w4.heap.size <= j /\ j < wv.heap.size) (.mk 3 [] n2 xsa xsb) (Raw.v ⟨3, [], n2, Aa, rsa.length, ca, Ab, rsb.length, cb⟩) := in_mk 3 [] n2 HPA.out.len HPB.out.len HPA.out.cap HPB.out.cap (HPA.out.rd.keep (fun _ _ => rfl) (fun j hj => ⟨by have := hj.1; omega, hj.2⟩)) (HPB.out.rd.keep (fun _ _ => rfl) (fun j hj => ⟨by have := hj.1; omega, hj.2⟩))
    have HWX : Hid (wt [.mk 3 [] n2 xsa xsb] <= 30 + 2 * W') := by show _ <= _; rw [Ye]; simp only [List.length_nil]; omega
    obtain ⟨r2, hr2⟩ : ∃ r2 : Raw, r2 = ⟨3, [], n2, Aa, rsa.length, ca, Ab, rsb.length, cb⟩ := ⟨_, rfl⟩
    have HXV : Hid (wv.heap[w6.heap.size]? = some (.cells (qD r2.k r2.t r2.n r2.Ap r2.lp r2.cp r2.Ao r2.lo r2.co) 115 (0, 0))) := by show _ = _; rw [hr2]; exact HXV.out
    rw [<- hr2] at hEL
    clear hr2
    obtain ⟨⟨f0, f1, f2, f3, f4⟩, -⟩ := qI HXV.out
    have HA := qb ((Below.refl wv.heap.size wv).alloc (Nat.le_refl _) (.cells (qD r2.k r2.t r2.n r2.Ap r2.lp r2.cp r2.Ao r2.lo r2.co) 115))
    have HPV := qb ((HP.out.grow G4.out (fun j hj => by injection hj with hj; omega)).keep HA.out)
    have hzv := G4.out.size
    have hzw4 := HG.out.size
    have HIN : Hid (InP (wv.alloc (.cells (qD r2.k r2.t r2.n r2.Ap r2.lp r2.cp r2.Ao r2.lo r2.co) 115)) (fun j => w.heap.size <= j /\ j < (wv.alloc (.cells (qD r2.k r2.t r2.n r2.Ap r2.lp r2.cp r2.Ao r2.lo r2.co) 115)).heap.size /\ Value.ownBlock (.slice A rs.length c) ≠ some j) (.mk 3 [] n2 xsa xsb) r2.v) := InP.keep (fun p hp => HA.out.cell hp.2) (fun j hj => ⟨by have := hj.1; omega, by have := hj.2; simp; omega, fun e => by have := (HP.out.own.lt j e).2; have := hj.1; omega⟩) _ _ hEL
    have HRA := qb (HRV.out.keep HA.out)
    have HGA := qb (jF (jF HG.out G4.out) (World.grownBy_alloc wv (.cells (qD r2.k r2.t r2.n r2.Ap r2.lp r2.cp r2.Ao r2.lo r2.co) 115) (some g)))
    have HRW := qb (zH (us := [r2]) (heap_alloc_new wv (.cells (qD r2.k r2.t r2.n r2.Ap r2.lp r2.cp r2.Ao r2.lo r2.co) 115)) rfl)
    have hrl : rs.length <= 1000000 := by rw [HP.out.len]; have := Yi xs; omega
    have hsw : w.heap.size <= (wv.alloc (.cells (qD r2.k r2.t r2.n r2.Ap r2.lp r2.cp r2.Ao r2.lo r2.co) 115)).heap.size := by simp; omega
    clear hEL
    go_wp2_with (at_builtin; refine zD rfl _ _ rfl w.heap.size A c rs [r2] (by rfl) HPV.out.own wv.heap.size 0 1 (by rfl) HRW.out (by simp) (by omega) hsw ?_; intro A9 c9 w9 ho9 hg9 hbk9)
    have HP := qb (HPV.out.app (ys := [(.mk 3 [] n2 xsa xsb)]) ho9 hg9 hbk9 (Els.cons HIN.out Els.nil))
    have HR := qb (HRA.out.frame hg9 (Yb HPV.out.own hlt))
    have HG := qb (Ya HGA.out hg9 (Nat.le_refl _) (Xb HPV.out.own))
    clear ho9 hg9 hbk9
    go_roundw
    case rel => exact ⟨k, _, _, _, _, _, by omega, by go_num, by first | rfl | simp, HP.out, by rw [Yh]; have := HWX.out; have := HWT.out; have := HRE.out; omega, HR.out, by have := HQK.out; have := HQE.out; omega, HG.out⟩
    case measure => first | (simp [intOf]; done) | (simp [intOf]; omega)
   have hz21 : ((z2 : Int) == 0) = false := by simp; omega
   clear hz20
   have HXV := HXP
   have HRV := HR7
   go_upto_region 33 with fail
   rename World => wv
   have HPA := qb (HPA6.out.grow G6.out (fun j hj => by injection hj with hj; omega))
   have hEL : InP wv (fun j => w4.heap.size <= j /\ j < wv.heap.size) (.mk 3 [] n2 xsa []) (Raw.v ⟨3, [], n2, Aa, rsa.length, ca, none, 0, 0⟩) := in_mk (rsb := []) 3 [] n2 HPA.out.len rfl HPA.out.cap (Nat.le_refl _) (HPA.out.rd.keep (fun _ _ => rfl) (fun j hj => ⟨by have := hj.1; omega, hj.2⟩)) RdP.nil_
   have HWX : Hid (wt [.mk 3 [] n2 xsa []] <= 30 + 2 * W') := by show _ <= _; rw [Ye, Yg]; simp only [List.length_nil]; omega
   obtain ⟨r2, hr2⟩ : ∃ r2 : Raw, r2 = ⟨3, [], n2, Aa, rsa.length, ca, none, 0, 0⟩ := ⟨_, rfl⟩
   have HXV : Hid (wv.heap[w6.heap.size]? = some (.cells (qD r2.k r2.t r2.n r2.Ap r2.lp r2.cp r2.Ao r2.lo r2.co) 115 (0, 0))) := by show _ = _; rw [hr2]; exact HXV.out
   rw [<- hr2] at hEL
   clear hr2
   obtain ⟨⟨f0, f1, f2, f3, f4⟩, -⟩ := qI HXV.out
   have HA := qb ((Below.refl wv.heap.size wv).alloc (Nat.le_refl _) (.cells (qD r2.k r2.t r2.n r2.Ap r2.lp r2.cp r2.Ao r2.lo r2.co) 115))
   have HPV := qb ((HP.out.grow G4.out (fun j hj => by injection hj with hj; omega)).keep HA.out)
   have hzv := G4.out.size
   have hzw4 := HG.out.size
   have HIN : Hid (InP (wv.alloc (.cells (qD r2.k r2.t r2.n r2.Ap r2.lp r2.cp r2.Ao r2.lo r2.co) 115)) (fun j => w.heap.size <= j /\ j < (wv.alloc (.cells (qD r2.k r2.t r2.n r2.Ap r2.lp r2.cp r2.Ao r2.lo r2.co) 115)).heap.size /\ Value.ownBlock (.slice A rs.length c) ≠ some j) (.mk 3 [] n2 xsa []) r2.v) := InP.keep (fun p hp => HA.out.cell hp.2) (fun j hj => ⟨by have := hj.1; omega, by have := hj.2; simp; omega, fun e => by have := (HP.out.own.lt j e).2; have := hj.1; omega⟩) _ _ hEL
   have HRA := qb (HRV.out.keep HA.out)
   have HGA := qb (jF (jF HG.out G4.out) (World.grownBy_alloc wv (.cells (qD r2.k r2.t r2.n r2.Ap r2.lp r2.cp r2.Ao r2.lo r2.co) 115) (some g)))
   have HRW := qb (zH (us := [r2]) (heap_alloc_new wv (.cells (qD r2.k r2.t r2.n r2.Ap r2.lp r2.cp r2.Ao r2.lo r2.co) 115)) rfl)
   have hrl : rs.length <= 1000000 := by rw [HP.out.len]; have := Yi xs; omega
   have hsw : w.heap.size <= (wv.alloc (.cells (qD r2.k r2.t r2.n r2.Ap r2.lp r2.cp r2.Ao r2.lo r2.co) 115)).heap.size := by simp; omega
   clear hEL
   go_wp2_with (at_builtin; refine zD rfl _ _ rfl w.heap.size A c rs [r2] (by rfl) HPV.out.own wv.heap.size 0 1 (by rfl) HRW.out (by simp) (by omega) hsw ?_; intro A9 c9 w9 ho9 hg9 hbk9)
   have HP := qb (HPV.out.app (ys := [(.mk 3 [] n2 xsa [])]) ho9 hg9 hbk9 (Els.cons HIN.out Els.nil))
   have HR := qb (HRA.out.frame hg9 (Yb HPV.out.own hlt))
   have HG := qb (Ya HGA.out hg9 (Nat.le_refl _) (Xb HPV.out.own))
   clear ho9 hg9 hbk9
   go_roundw
   case rel => exact ⟨k, _, _, _, _, _, by omega, by go_num, by first | rfl | simp, HP.out, by rw [Yh]; have := HWX.out; have := HWT.out; have := HRE.out; omega, HR.out, by have := HQK.out; have := HQE.out; omega, HG.out⟩
   case measure => first | (simp [intOf]; done) | (simp [intOf]; omega)
 by_cases hd0 : d = 0
 ·have hdn : (0 < d) = False := by rw [hd0]; simp
  clear hd0
  go_wp2
  go_roundw
  case rel => exact ⟨k, _, _, _, _, _, by omega, by go_num, by first | rfl | simp, HP.out, by have := HWT.out; omega, HR.out, by have := HQK.out; have := HQE.out; omega, HG.out⟩
  case measure => first | (simp [intOf]; done) | (simp [intOf]; omega)
 obtain ⟨d', hd'⟩ : ∃ d', d = d' + 1 := ⟨d - 1, by omega⟩
 have hdn : (0 < d) = True := eq_true (by omega)
 have hdm : (d : Int) - 1 = (d' : Int) := by omega
 have HI := qb (fun B g q w => IH.out d' hd' B g q w)
 have hcc : C' <= 50000 := by have := HQE.out; omega
 have hww : W' <= 50000 := by have := HRE.out; omega
 have HDD := qb hd'
 clear hd' hd0
 go_wp2_with fail
 refine (Yr B g _ 0 _ HR.out (by omega) (by omega) (by omega)).mono ?_
 rintro e w5 ⟨n2, rfl, hn2, hr5, hg5⟩
 have hz45 := hg5.size
 have G4 := qb (jF hg5 (World.grownBy_alloc w5 (.cells #[] 115) (some g)))
 have HR5 := qb (hr5.keep ((Below.refl _ _).alloc (Nat.le_refl _) (.cells #[] 115)))
 have hg5' : g < w5.heap.size := by omega
 clear hr5 hg5
 go_wp2_with fail
 refine (HI.out B g _ _ HR5.out (by have := HDD.out; omega)).mono ?_
 rintro e w6 ⟨Aa, ca, rsa, xsa, rfl, hpa, hwa, hr6, hg6⟩
 rw [hpa.len]
 have hz5 : (w5.alloc (.cells #[] 115)).heap.size = w5.heap.size + 1 := by simp
 have hzz := hg6.size
 have hPe : PLs w6 w5.heap.size (some ⟨w5.heap.size, 0, none⟩) 0 [] [] := PLs.grow ⟨ZS w5, Els.nil⟩ hg6 (fun j hj => by injection hj with hj; omega)
 have HPUT := qb (WT w5.heap.size (w5.heap.size + 1) (some ⟨w5.heap.size, 0, none⟩) 0 [] [] Aa ca xsa w6 hPe (by omega) (by omega) (fun j hj => by injection hj with hj; have h9 : w5.heap.size = j := hj; omega) (by rw [<- hz5]; exact hpa.rd) (by rw [Yg]; omega))
 have HR6 := qb hr6
 have G4 := qb (jF G4.out hg6)
 have hz56 : w5.heap.size < w6.heap.size := by omega
 clear hr6 hg6 hpa hPe hz5 hzz
 go_wp2_with fail
 refine HPUT.out.mono ?_
 rintro e wv ⟨Ab, cb, rsb, xsb, rfl, hpb, hwb, hgb, hob⟩
 have G4 := qb (Ya G4.out hgb (show w4.heap.size <= w5.heap.size by omega) (fun j hj => by injection hj with hj; have h9 : w5.heap.size = j := hj; omega))
 have HRV := qb (HR6.out.frame hgb (fun j hj => by injection hj with hj; have h9 : w5.heap.size = j := hj; omega))
 have HPA := qb hpb
 rw [Yg, Nat.zero_add] at hwb
 have hzp := hgb.size
 clear hpb hgb hob HPUT
 have hEL : InP wv (fun j => w4.heap.size <= j /\ j < wv.heap.size) (.mk 4 [] n2 xsb []) (Raw.v ⟨4, [], n2, Ab, rsb.length, cb, none, 0, 0⟩) := in_mk (rsb := []) 4 [] n2 HPA.out.len rfl HPA.out.cap (Nat.le_refl _) (HPA.out.rd.keep (fun _ _ => rfl) (fun j hj => ⟨by have := hj.1; omega, hj.2⟩)) RdP.nil_
 have HWX : Hid (wt [.mk 4 [] n2 xsb []] <= 30 + 2 * W') := by show _ <= _; rw [Ye, Yg]; simp only [List.length_nil]; omega
 have HA := qb ((Below.refl wv.heap.size wv).alloc (Nat.le_refl _) (.cells (qD 4 [] n2 Ab rsb.length cb none 0 0) 115))
 have HPV := qb ((HP.out.grow G4.out (fun j hj => by injection hj with hj; omega)).keep HA.out)
 have hzv := G4.out.size
 have hzw4 := HG.out.size
 have HIN : Hid (InP (wv.alloc (.cells (qD 4 [] n2 Ab rsb.length cb none 0 0) 115)) (fun j => w.heap.size <= j /\ j < (wv.alloc (.cells (qD 4 [] n2 Ab rsb.length cb none 0 0) 115)).heap.size /\ Value.ownBlock (.slice A rs.length c) ≠ some j) (.mk 4 [] n2 xsb []) (Raw.v ⟨4, [], n2, Ab, rsb.length, cb, none, 0, 0⟩)) := InP.keep (fun p hp => HA.out.cell hp.2) (fun j hj => ⟨by have := hj.1; omega, by have := hj.2; simp; omega, fun e => by have := (HP.out.own.lt j e).2; have := hj.1; omega⟩) _ _ hEL
 have HRA := qb (HRV.out.keep HA.out)
 have HGA := qb (jF (jF HG.out G4.out) (World.grownBy_alloc wv (.cells (qD 4 [] n2 Ab rsb.length cb none 0 0) 115) (some g)))
 have HRW := qb (zH (us := [⟨4, [], n2, Ab, rsb.length, cb, none, 0, 0⟩]) (heap_alloc_new wv (.cells (qD 4 [] n2 Ab rsb.length cb none 0 0) 115)) rfl)
 have hrl : rs.length <= 1000000 := by rw [HP.out.len]; have := Yi xs; omega
 have hsw : w.heap.size <= (wv.alloc (.cells (qD 4 [] n2 Ab rsb.length cb none 0 0) 115)).heap.size := by simp; omega
 clear hEL
 go_wp2_with (at_builtin; refine zD rfl _ _ rfl w.heap.size A c rs [⟨4, [], n2, Ab, rsb.length, cb, none, 0, 0⟩] (by rfl) HPV.out.own wv.heap.size 0 1 (by rfl) HRW.out (by simp) (by omega) hsw ?_; intro A9 c9 w9 ho9 hg9 hbk9)
 have HP := qb (HPV.out.app (ys := [.mk 4 [] n2 xsb []]) ho9 hg9 hbk9 (Els.cons HIN.out Els.nil))
 have HR := qb (HRA.out.frame hg9 (Yb HPV.out.own hlt))
 have HG := qb (Ya HGA.out hg9 (Nat.le_refl _) (Xb HPV.out.own))
 clear ho9 hg9 hbk9
 go_roundw
 case rel => exact ⟨k, _, _, _, _, _, by omega, by go_num, by first | rfl | simp, HP.out, by rw [Yh]; have := HWX.out; have := HWT.out; have := HRE.out; omega, HR.out, by have := HQK.out; have := HQE.out; omega, HG.out⟩
 case measure => first | (simp [intOf]; done) | (simp [intOf]; omega)
def Wm : Nat -> Nat
 | 0 => 300
 | d + 1 => 3 * (100 + 2 * Wm d)
def Cm : Nat -> Nat
 | 0 => 151
 | d + 1 => 1 + 3 * (50 + 2 * Cm d)
theorem WR (B g q : Nat) (w : World) (h : Rdr w B g q) (hq : q <= 400000000 - 0 * 100000000) : Calls Tryz.prog 137 #[.pointer (some ⟨g, 0, none⟩), .int .i64 ((0 : Nat) : Int)] w (DrnP w B g q (Wm 0) (Cm 0)) :=
 YW 0 0 0 100 50 rfl rfl (by omega) (by omega) (by omega) (fun _ e => absurd e (by omega)) B g q w h hq
theorem WS (B g q : Nat) (w : World) (h : Rdr w B g q) (hq : q <= 400000000 - 1 * 100000000) : Calls Tryz.prog 137 #[.pointer (some ⟨g, 0, none⟩), .int .i64 ((1 : Nat) : Int)] w (DrnP w B g q (Wm 1) (Cm 1)) :=
 YW 1 (Wm 0) (Cm 0) (100 + 2 * Wm 0) (50 + 2 * Cm 0) rfl rfl (by decide) (by decide) (by omega) (fun d' e => by have e2 : d' = 0 := (Nat.succ.inj e).symm; subst e2; exact WR) B g q w h hq
theorem WQ (B g q : Nat) (w : World) (h : Rdr w B g q) (hq : q <= 200000000) : Calls Tryz.prog 137 #[.pointer (some ⟨g, 0, none⟩), .int .i64 2] w (DrnP w B g q 12900 7000) := by
 have h2 := YW 2 (Wm 1) (Cm 1) (100 + 2 * Wm 1) (50 + 2 * Cm 1) rfl rfl (by decide) (by decide) (by omega) (fun d' e => by have e2 : d' = 1 := (Nat.succ.inj e).symm; subst e2; exact WS) B g q w h (by omega)
 refine h2.mono ?_
 rintro e w' ⟨A, c, rs, xs, he, hp, hw, hr, hg⟩
 exact ⟨A, c, rs, xs, he, hp, Nat.le_trans hw (by decide), hr.more (Nat.add_le_add_left (by decide) q), hg⟩
theorem YJ {w : World} {S : Nat -> Prop} {b : Nat} {k : Int} {t n : Tx} {Ap Ao : Option Addr} {cp co : Nat} {xs ys : List Pt} {ty : TypeId} (hS : S b) (h : w.heap[b]? = some (.cells (qD k t n Ap xs.length cp Ao ys.length co) ty (0, 0))) (hx : InP w S (.mk k t n xs ys) (ptV k t n Ap xs.length cp Ao ys.length co)) : RdP w S (some ⟨b, 0, none⟩) [.mk k t n xs ys] := fun _ => by
 obtain ⟨⟨y0, y1, y2, y3, y4⟩, -⟩ := qI h
 refine ⟨b, 0, rfl, hS, ?_⟩
 simp only [InPs]
 exact ⟨⟨_, ⟨_, _, _, _, _, rfl, y0, y1, y2, y3, y4⟩, hx⟩, trivial⟩
theorem YO {w : World} (o o' : Obj) : ((w.alloc o).alloc o').heap[w.heap.size]? = some o := (heap_alloc_old (w.alloc o) o' (by simp)).trans (heap_alloc_new w o)
theorem YP {w : World} (o o' : Obj) : ((w.alloc o).alloc o').heap[w.heap.size + 1]? = some o' := by
 have h := heap_alloc_new (w.alloc o) o'
 simpa using h
theorem WL {w : World} (o o' : Obj) : ((w.alloc o).alloc o').heap.size = w.heap.size + 2 := by simp
theorem Wn (B g q : Nat) (n : Int) (w : World) (h : Rdr w B g q) (hq : q <= 200000000) (hn : n <= 1000000000) (hn0 : -1000000000 <= n) : Calls Tryz.prog 100 #[.pointer (some ⟨g, 0, none⟩), .int .i64 n] w (DrnP w B g q 13100 7010) := by
 have hlt := h.lt
 have H := qb h
 clear h
 go_enter func100, ntmps100
 go_wp2_with fail
 refine (WQ B g q w H.out hq).mono ?_
 rintro e wv ⟨A, c, rs, xs, rfl, hp, hwt, hr, hg⟩
 have HP := qb hp
 have HR := qb hr
 have HG := qb hg
 clear hp hr hg H
 go_wp2_with fail
 refine (Yu B g _ n wv HR.out (by omega) hn hn0).mono ?_
 rintro e w1 ⟨bo, rfl, hr1, hg1⟩
 have HP := qb (HP.out.grow hg1 (fun j hj => by injection hj with hj; omega))
 have HR := qb hr1
 have HG := qb (jF HG.out hg1)
 clear hr1 hg1
 cases bo
 ·go_wp2
  go_ret
  exact ⟨A, c, rs, xs, rfl, HP.out, by omega, HR.out.more (by omega), HG.out⟩
 go_wp2_with fail
 refine (Yf B g _ 9 _ HR.out (by omega) (by omega) (by omega)).mono ?_
 rintro e wv ⟨z, rfl, hz, hr4, hg4⟩
 have HP := qb (HP.out.grow hg4 (fun j hj => by injection hj with hj; omega))
 have HR := qb hr4
 have HG := qb (jF HG.out hg4)
 clear hr4 hg4
 have hz9 : z = 0 \/ z = 1 \/ z = 2 \/ z = 3 \/ z = 4 \/ z = 5 \/ z = 6 \/ z = 7 \/ z = 8 := by omega
 clear hz
 rcases hz9 with rfl | rfl | rfl | rfl | rfl | rfl | rfl | rfl | rfl
 ·
  go_wp2_with fail
  refine (Yj [60, 97] w.heap.size _ _ _ _ _ HP.out (by have := HG.out.size; omega) (by omega) (by simp)).mono ?_
  rintro e wv ⟨A6, c6, rs6, xs6, rfl, hp6, hw6, hg6, hor6⟩
  have HR := qb (HR.out.frame hg6 (Yb HP.out.own hlt))
  have HG := qb (Ya HG.out hg6 (Nat.le_refl _) (Xb HP.out.own))
  have HP := qb hp6
  simp only [List.length_cons, List.length_nil] at hw6
  clear hp6 hg6 hor6
  go_wp2
  go_ret
  exact ⟨_, _, _, _, (by first | rfl | (simp; done)), HP.out, by omega, HR.out.more (by omega), HG.out⟩
 ·
  go_wp2_with fail
  refine (Yj [60] w.heap.size _ _ _ _ _ HP.out (by have := HG.out.size; omega) (by omega) (by simp)).mono ?_
  rintro e wv ⟨A6, c6, rs6, xs6, rfl, hp6, hw6, hg6, hor6⟩
  have HR := qb (HR.out.frame hg6 (Yb HP.out.own hlt))
  have HG := qb (Ya HG.out hg6 (Nat.le_refl _) (Xb HP.out.own))
  have HP := qb hp6
  simp only [List.length_cons, List.length_nil] at hw6
  clear hp6 hg6 hor6
  have HB := qb ((Below.refl wv.heap.size wv).alloc (Nat.le_refl _) (.cells (qD 2 [] [97] none 0 0 none 0 0) 115))
  have HRW := qb (zH (us := [⟨2, [], [97], none, 0, 0, none, 0, 0⟩]) (heap_alloc_new wv (.cells (qD 2 [] [97] none 0 0 none 0 0) 115)) rfl)
  have hrl : rs6.length <= 1000000 := by rw [HP.out.len]; have := Yi xs6; omega
  have HPA := qb (HP.out.keep HB.out)
  have HRA := qb (HR.out.keep HB.out)
  have HGA := qb (jF HG.out (jg HB.out (some g)))
  have hsw : w.heap.size <= (wv.alloc (.cells (qD 2 [] [97] none 0 0 none 0 0) 115)).heap.size := HGA.out.size
  have hsv := HG.out.size
  have hql : ∀ j, Value.ownBlock (.slice A6 rs6.length c6) = some j -> j < wv.heap.size := fun j hj => (HP.out.own.lt j hj).2
  go_wp2_with (at_builtin; refine zD rfl _ _ rfl w.heap.size A6 c6 rs6 [⟨2, [], [97], none, 0, 0, none, 0, 0⟩] (by rfl) HPA.out.own wv.heap.size 0 1 (by rfl) HRW.out (by simp) (by omega) hsw ?_; intro A9 c9 w9 ho9 hg9 hbk9)
  have HP := qb (HPA.out.app (ys := [.mk 2 [] [97] [] []]) ho9 hg9 hbk9 (Els.cons (vp 2 [] [97]) Els.nil))
  have HR := qb (HRA.out.frame hg9 (Yb HPA.out.own hlt))
  have HG := qb (Ya HGA.out hg9 (Nat.le_refl _) (Xb HPA.out.own))
  clear ho9 hg9 hbk9 hql
  have h7 : rs6.length + 1 = (rs6 ++ [(⟨2, [], [97], none, 0, 0, none, 0, 0⟩ : Raw)]).length := by simp
  have hw7 : wt (xs6 ++ [.mk 2 [] [97] [] []]) <= 13000 := by rw [Yh, Ye, Yg]; simp only [List.length_nil, List.length_cons]; omega
  rw [h7]
  generalize rs6 ++ [(⟨2, [], [97], none, 0, 0, none, 0, 0⟩ : Raw)] = rs7 at *
  generalize xs6 ++ [.mk 2 [] [97] [] []] = xs7 at *
  clear h7
  go_wp2_with fail
  refine (Yj [62] w.heap.size _ _ _ _ _ HP.out (by have := HG.out.size; omega) (by omega) (by simp)).mono ?_
  rintro e wy ⟨A8, c8, rs8, xs8, rfl, hp8, hw8, hg8, hor8⟩
  have HR := qb (HR.out.frame hg8 (Yb HP.out.own hlt))
  have HG := qb (Ya HG.out hg8 (Nat.le_refl _) (Xb HP.out.own))
  have HP := qb hp8
  simp only [List.length_cons, List.length_nil] at hw8
  clear hp8 hg8 hor8
  go_wp2
  go_ret
  exact ⟨_, _, _, _, (by first | rfl | (simp; done)), HP.out, by omega, HR.out.more (by omega), HG.out⟩
 ·
  go_wp2_with fail
  refine (Yj [60, 97, 32, 111, 110, 99, 108, 105, 99, 107, 61, 34] w.heap.size _ _ _ _ _ HP.out (by have := HG.out.size; omega) (by omega) (by simp)).mono ?_
  rintro e wv ⟨A6, c6, rs6, xs6, rfl, hp6, hw6, hg6, hor6⟩
  have HR := qb (HR.out.frame hg6 (Yb HP.out.own hlt))
  have HG := qb (Ya HG.out hg6 (Nat.le_refl _) (Xb HP.out.own))
  have HP := qb hp6
  simp only [List.length_cons, List.length_nil] at hw6
  clear hp6 hg6 hor6
  have HB := qb ((Below.refl wv.heap.size wv).alloc (Nat.le_refl _) (.cells (qD 2 [] [97] none 0 0 none 0 0) 115))
  have HRW := qb (zH (us := [⟨2, [], [97], none, 0, 0, none, 0, 0⟩]) (heap_alloc_new wv (.cells (qD 2 [] [97] none 0 0 none 0 0) 115)) rfl)
  have hrl : rs6.length <= 1000000 := by rw [HP.out.len]; have := Yi xs6; omega
  have HPA := qb (HP.out.keep HB.out)
  have HRA := qb (HR.out.keep HB.out)
  have HGA := qb (jF HG.out (jg HB.out (some g)))
  have hsw : w.heap.size <= (wv.alloc (.cells (qD 2 [] [97] none 0 0 none 0 0) 115)).heap.size := HGA.out.size
  have hsv := HG.out.size
  have hql : ∀ j, Value.ownBlock (.slice A6 rs6.length c6) = some j -> j < wv.heap.size := fun j hj => (HP.out.own.lt j hj).2
  go_wp2_with (at_builtin; refine zD rfl _ _ rfl w.heap.size A6 c6 rs6 [⟨2, [], [97], none, 0, 0, none, 0, 0⟩] (by rfl) HPA.out.own wv.heap.size 0 1 (by rfl) HRW.out (by simp) (by omega) hsw ?_; intro A9 c9 w9 ho9 hg9 hbk9)
  have HP := qb (HPA.out.app (ys := [.mk 2 [] [97] [] []]) ho9 hg9 hbk9 (Els.cons (vp 2 [] [97]) Els.nil))
  have HR := qb (HRA.out.frame hg9 (Yb HPA.out.own hlt))
  have HG := qb (Ya HGA.out hg9 (Nat.le_refl _) (Xb HPA.out.own))
  clear ho9 hg9 hbk9 hql
  have h7 : rs6.length + 1 = (rs6 ++ [(⟨2, [], [97], none, 0, 0, none, 0, 0⟩ : Raw)]).length := by simp
  have hw7 : wt (xs6 ++ [.mk 2 [] [97] [] []]) <= 13000 := by rw [Yh, Ye, Yg]; simp only [List.length_nil, List.length_cons]; omega
  rw [h7]
  generalize rs6 ++ [(⟨2, [], [97], none, 0, 0, none, 0, 0⟩ : Raw)] = rs7 at *
  generalize xs6 ++ [.mk 2 [] [97] [] []] = xs7 at *
  clear h7
  go_wp2_with fail
  refine (Yj [34, 62] w.heap.size _ _ _ _ _ HP.out (by have := HG.out.size; omega) (by omega) (by simp)).mono ?_
  rintro e wy ⟨A8, c8, rs8, xs8, rfl, hp8, hw8, hg8, hor8⟩
  have HR := qb (HR.out.frame hg8 (Yb HP.out.own hlt))
  have HG := qb (Ya HG.out hg8 (Nat.le_refl _) (Xb HP.out.own))
  have HP := qb hp8
  simp only [List.length_cons, List.length_nil] at hw8
  clear hp8 hg8 hor8
  go_wp2
  go_ret
  exact ⟨_, _, _, _, (by first | rfl | (simp; done)), HP.out, by omega, HR.out.more (by omega), HG.out⟩
 ·
  have HB := qb ((((Below.refl wv.heap.size wv).alloc (Nat.le_refl _) (.cells (qD 1 [60, 97, 32, 116, 105, 116, 108, 101, 61, 34] [] none 0 0 none 0 0) 115)).alloc (by simp) (.cells (qD 1 [60, 98, 32, 116, 105, 116, 108, 101, 61, 34] [] none 0 0 none 0 0) 115)).alloc (by simp; try omega) (.cells (qD 3 [] [102, 108, 97, 103] (some ⟨wv.heap.size, 0, none⟩) 1 1 (some ⟨wv.heap.size + 1, 0, none⟩) 1 1) 115))
  have hcx : ((wv.alloc (.cells (qD 1 [60, 97, 32, 116, 105, 116, 108, 101, 61, 34] [] none 0 0 none 0 0) 115)).alloc (.cells (qD 1 [60, 98, 32, 116, 105, 116, 108, 101, 61, 34] [] none 0 0 none 0 0) 115)).heap.size = wv.heap.size + 2 := WL _ _
  have hcl := heap_alloc_new ((wv.alloc (.cells (qD 1 [60, 97, 32, 116, 105, 116, 108, 101, 61, 34] [] none 0 0 none 0 0) 115)).alloc (.cells (qD 1 [60, 98, 32, 116, 105, 116, 108, 101, 61, 34] [] none 0 0 none 0 0) 115)) (.cells (qD 3 [] [102, 108, 97, 103] (some ⟨wv.heap.size, 0, none⟩) 1 1 (some ⟨wv.heap.size + 1, 0, none⟩) 1 1) 115)
  rw [hcx] at hcl
  have HRW := qb (zH (us := [⟨3, [], [102, 108, 97, 103], some ⟨wv.heap.size, 0, none⟩, 1, 1, some ⟨wv.heap.size + 1, 0, none⟩, 1, 1⟩]) hcl rfl)
  have ha : (((wv.alloc (.cells (qD 1 [60, 97, 32, 116, 105, 116, 108, 101, 61, 34] [] none 0 0 none 0 0) 115)).alloc (.cells (qD 1 [60, 98, 32, 116, 105, 116, 108, 101, 61, 34] [] none 0 0 none 0 0) 115)).alloc (.cells (qD 3 [] [102, 108, 97, 103] (some ⟨wv.heap.size, 0, none⟩) 1 1 (some ⟨wv.heap.size + 1, 0, none⟩) 1 1) 115)).heap[wv.heap.size]? = some (.cells (qD 1 [60, 97, 32, 116, 105, 116, 108, 101, 61, 34] [] none 0 0 none 0 0) 115) := (heap_alloc_old _ _ (by rw [hcx]; omega)).trans (YO _ _)
  have hb : (((wv.alloc (.cells (qD 1 [60, 97, 32, 116, 105, 116, 108, 101, 61, 34] [] none 0 0 none 0 0) 115)).alloc (.cells (qD 1 [60, 98, 32, 116, 105, 116, 108, 101, 61, 34] [] none 0 0 none 0 0) 115)).alloc (.cells (qD 3 [] [102, 108, 97, 103] (some ⟨wv.heap.size, 0, none⟩) 1 1 (some ⟨wv.heap.size + 1, 0, none⟩) 1 1) 115)).heap[wv.heap.size + 1]? = some (.cells (qD 1 [60, 98, 32, 116, 105, 116, 108, 101, 61, 34] [] none 0 0 none 0 0) 115) := (heap_alloc_old _ _ (by rw [hcx]; omega)).trans (YP _ _)
  have HIN : Hid (∀ S : Nat -> Prop, S wv.heap.size -> S (wv.heap.size + 1) -> InP (((wv.alloc (.cells (qD 1 [60, 97, 32, 116, 105, 116, 108, 101, 61, 34] [] none 0 0 none 0 0) 115)).alloc (.cells (qD 1 [60, 98, 32, 116, 105, 116, 108, 101, 61, 34] [] none 0 0 none 0 0) 115)).alloc (.cells (qD 3 [] [102, 108, 97, 103] (some ⟨wv.heap.size, 0, none⟩) 1 1 (some ⟨wv.heap.size + 1, 0, none⟩) 1 1) 115)) S (.mk 3 [] [102, 108, 97, 103] [(.mk 1 [60, 97, 32, 116, 105, 116, 108, 101, 61, 34] [] [] [])] [(.mk 1 [60, 98, 32, 116, 105, 116, 108, 101, 61, 34] [] [] [])]) (Raw.v ⟨3, [], [102, 108, 97, 103], some ⟨wv.heap.size, 0, none⟩, 1, 1, some ⟨wv.heap.size + 1, 0, none⟩, 1, 1⟩)) := fun S h1 h2 => InP.mk (xs := [(.mk 1 [60, 97, 32, 116, 105, 116, 108, 101, 61, 34] [] [] [])]) (ys := [(.mk 1 [60, 98, 32, 116, 105, 116, 108, 101, 61, 34] [] [] [])]) (Nat.le_refl _) (Nat.le_refl _) (YJ (xs := []) (ys := []) h1 ha (vp _ _ _)) (YJ (xs := []) (ys := []) h2 hb (vp _ _ _))
  clear hcl ha hb hcx
  have hrl : rs.length <= 1000000 := by rw [HP.out.len]; have := Yi xs; omega
  have HPA := qb (HP.out.keep HB.out)
  have HRA := qb (HR.out.keep HB.out)
  have HGA := qb (jF HG.out (jg HB.out (some g)))
  have hsw : w.heap.size <= (((wv.alloc (.cells (qD 1 [60, 97, 32, 116, 105, 116, 108, 101, 61, 34] [] none 0 0 none 0 0) 115)).alloc (.cells (qD 1 [60, 98, 32, 116, 105, 116, 108, 101, 61, 34] [] none 0 0 none 0 0) 115)).alloc (.cells (qD 3 [] [102, 108, 97, 103] (some ⟨wv.heap.size, 0, none⟩) 1 1 (some ⟨wv.heap.size + 1, 0, none⟩) 1 1) 115)).heap.size := HGA.out.size
  have hsv := HG.out.size
  have hql : ∀ j, Value.ownBlock (.slice A rs.length c) = some j -> j < wv.heap.size := fun j hj => (HP.out.own.lt j hj).2
  go_wp2_with (at_builtin; refine zD rfl _ _ rfl w.heap.size A c rs [⟨3, [], [102, 108, 97, 103], some ⟨wv.heap.size, 0, none⟩, 1, 1, some ⟨wv.heap.size + 1, 0, none⟩, 1, 1⟩] (by rfl) HPA.out.own (wv.heap.size + 2) 0 1 (by rfl) HRW.out (by simp) (by omega) hsw ?_; intro A9 c9 w9 ho9 hg9 hbk9)
  have HP := qb (HPA.out.app (ys := [.mk 3 [] [102, 108, 97, 103] [(.mk 1 [60, 97, 32, 116, 105, 116, 108, 101, 61, 34] [] [] [])] [(.mk 1 [60, 98, 32, 116, 105, 116, 108, 101, 61, 34] [] [] [])]]) ho9 hg9 hbk9 (Els.cons (HIN.out _ ⟨by omega, by simp; try omega, fun e => by have := hql _ e; omega⟩ ⟨by omega, by simp; try omega, fun e => by have := hql _ e; omega⟩) Els.nil))
  have HR := qb (HRA.out.frame hg9 (Yb HPA.out.own hlt))
  have HG := qb (Ya HGA.out hg9 (Nat.le_refl _) (Xb HPA.out.own))
  clear ho9 hg9 hbk9 hql
  go_wp2
  go_ret
  exact ⟨_, _, _, _, (by first | rfl | (simp; done)), HP.out, by rw [Yh, Ye, Ye, Ye, Yg]; simp only [List.length_nil, List.length_cons]; omega, HR.out.more (by omega), HG.out⟩
 ·
  have HB := qb (((Below.refl wv.heap.size wv).alloc (Nat.le_refl _) (.cells (qD 1 [60, 97, 32, 116, 105, 116, 108, 101, 61, 34] [] none 0 0 none 0 0) 115)).alloc (by simp; try omega) (.cells (qD 4 [] [108, 105, 115, 116] (some ⟨wv.heap.size, 0, none⟩) 1 1 none 0 0) 115))
  have HRW := qb (zH (us := [⟨4, [], [108, 105, 115, 116], some ⟨wv.heap.size, 0, none⟩, 1, 1, none, 0, 0⟩]) (YP (w := wv) (.cells (qD 1 [60, 97, 32, 116, 105, 116, 108, 101, 61, 34] [] none 0 0 none 0 0) 115) (.cells (qD 4 [] [108, 105, 115, 116] (some ⟨wv.heap.size, 0, none⟩) 1 1 none 0 0) 115)) rfl)
  have HIN : Hid (∀ S : Nat -> Prop, S wv.heap.size -> InP ((wv.alloc (.cells (qD 1 [60, 97, 32, 116, 105, 116, 108, 101, 61, 34] [] none 0 0 none 0 0) 115)).alloc (.cells (qD 4 [] [108, 105, 115, 116] (some ⟨wv.heap.size, 0, none⟩) 1 1 none 0 0) 115)) S (.mk 4 [] [108, 105, 115, 116] [(.mk 1 [60, 97, 32, 116, 105, 116, 108, 101, 61, 34] [] [] [])] []) (Raw.v ⟨4, [], [108, 105, 115, 116], some ⟨wv.heap.size, 0, none⟩, 1, 1, none, 0, 0⟩)) := fun S h1 => InP.mk (xs := [(.mk 1 [60, 97, 32, 116, 105, 116, 108, 101, 61, 34] [] [] [])]) (ys := []) (Nat.le_refl _) (Nat.le_refl _) (YJ (xs := []) (ys := []) h1 (YO _ _) (vp _ _ _)) RdP.nil_
  have hrl : rs.length <= 1000000 := by rw [HP.out.len]; have := Yi xs; omega
  have HPA := qb (HP.out.keep HB.out)
  have HRA := qb (HR.out.keep HB.out)
  have HGA := qb (jF HG.out (jg HB.out (some g)))
  have hsw : w.heap.size <= ((wv.alloc (.cells (qD 1 [60, 97, 32, 116, 105, 116, 108, 101, 61, 34] [] none 0 0 none 0 0) 115)).alloc (.cells (qD 4 [] [108, 105, 115, 116] (some ⟨wv.heap.size, 0, none⟩) 1 1 none 0 0) 115)).heap.size := HGA.out.size
  have hsv := HG.out.size
  have hql : ∀ j, Value.ownBlock (.slice A rs.length c) = some j -> j < wv.heap.size := fun j hj => (HP.out.own.lt j hj).2
  go_wp2_with (at_builtin; refine zD rfl _ _ rfl w.heap.size A c rs [⟨4, [], [108, 105, 115, 116], some ⟨wv.heap.size, 0, none⟩, 1, 1, none, 0, 0⟩] (by rfl) HPA.out.own (wv.heap.size + 1) 0 1 (by rfl) HRW.out (by simp) (by omega) hsw ?_; intro A9 c9 w9 ho9 hg9 hbk9)
  have HP := qb (HPA.out.app (ys := [.mk 4 [] [108, 105, 115, 116] [(.mk 1 [60, 97, 32, 116, 105, 116, 108, 101, 61, 34] [] [] [])] []]) ho9 hg9 hbk9 (Els.cons (HIN.out _ ⟨by omega, by simp; try omega, fun e => by have := hql _ e; omega⟩) Els.nil))
  have HR := qb (HRA.out.frame hg9 (Yb HPA.out.own hlt))
  have HG := qb (Ya HGA.out hg9 (Nat.le_refl _) (Xb HPA.out.own))
  clear ho9 hg9 hbk9 hql
  go_wp2
  go_ret
  exact ⟨_, _, _, _, (by first | rfl | (simp; done)), HP.out, by rw [Yh, Ye, Ye, Yg]; simp only [List.length_nil, List.length_cons]; omega, HR.out.more (by omega), HG.out⟩
 ·
  have HB := qb ((Below.refl wv.heap.size wv).alloc (Nat.le_refl _) (.cells (qD 1 [97, 123, 123, 98] [] none 0 0 none 0 0) 115))
  have HRW := qb (zH (us := [⟨1, [97, 123, 123, 98], [], none, 0, 0, none, 0, 0⟩]) (heap_alloc_new wv (.cells (qD 1 [97, 123, 123, 98] [] none 0 0 none 0 0) 115)) rfl)
  have hrl : rs.length <= 1000000 := by rw [HP.out.len]; have := Yi xs; omega
  have HPA := qb (HP.out.keep HB.out)
  have HRA := qb (HR.out.keep HB.out)
  have HGA := qb (jF HG.out (jg HB.out (some g)))
  have hsw : w.heap.size <= (wv.alloc (.cells (qD 1 [97, 123, 123, 98] [] none 0 0 none 0 0) 115)).heap.size := HGA.out.size
  have hsv := HG.out.size
  have hql : ∀ j, Value.ownBlock (.slice A rs.length c) = some j -> j < wv.heap.size := fun j hj => (HP.out.own.lt j hj).2
  go_wp2_with (at_builtin; refine zD rfl _ _ rfl w.heap.size A c rs [⟨1, [97, 123, 123, 98], [], none, 0, 0, none, 0, 0⟩] (by rfl) HPA.out.own wv.heap.size 0 1 (by rfl) HRW.out (by simp) (by omega) hsw ?_; intro A9 c9 w9 ho9 hg9 hbk9)
  have HP := qb (HPA.out.app (ys := [.mk 1 [97, 123, 123, 98] [] [] []]) ho9 hg9 hbk9 (Els.cons (vp 1 [97, 123, 123, 98] []) Els.nil))
  have HR := qb (HRA.out.frame hg9 (Yb HPA.out.own hlt))
  have HG := qb (Ya HGA.out hg9 (Nat.le_refl _) (Xb HPA.out.own))
  clear ho9 hg9 hbk9 hql
  go_wp2
  go_ret
  exact ⟨_, _, _, _, (by first | rfl | (simp; done)), HP.out, by rw [Yh, Ye, Yg]; simp only [List.length_nil, List.length_cons]; omega, HR.out.more (by omega), HG.out⟩
 ·
  go_wp2_with fail
  refine (Yf B g _ 3 (wv.alloc (.cells #[sv [105, 102], sv [65], sv [101, 110, 100]] 9)) (HR.out.keep ((Below.refl _ _).alloc (Nat.le_refl _) _)) (by omega) (by omega) (by omega)).mono ?_
  rintro e w5 ⟨k, rfl, hk, hr5, hg5⟩
  have hlit : w5.heap[wv.heap.size]? = _ := (hg5.block wv.heap.size (by simp) (by simp; have := HG.out.size; omega)).trans (heap_alloc_new wv _)
  obtain ⟨x, hxc, hx⟩ := Ym (k := k) (B := 20) (n := 3) hlit (by decide +kernel) (by omega)
  have hk' : k < 3 := by omega
  have hg6 := jF (World.grownBy_alloc wv (.cells #[sv [105, 102], sv [65], sv [101, 110, 100]] 9) (some g)) hg5
  have HP := qb (HP.out.grow hg6 (fun j hj => by injection hj with hj; omega))
  have HR := qb hr5
  have HG := qb (jF HG.out hg6)
  clear hlit hr5 hg5 hg6 hk
  have HB := qb ((Below.refl w5.heap.size w5).alloc (Nat.le_refl _) (.cells (qD 2 [] x none 0 0 none 0 0) 115))
  have HRW := qb (zH (us := [⟨2, [], x, none, 0, 0, none, 0, 0⟩]) (heap_alloc_new w5 (.cells (qD 2 [] x none 0 0 none 0 0) 115)) rfl)
  have hrl : rs.length <= 1000000 := by rw [HP.out.len]; have := Yi xs; omega
  have HPA := qb (HP.out.keep HB.out)
  have HRA := qb (HR.out.keep HB.out)
  have HGA := qb (jF HG.out (jg HB.out (some g)))
  have hsw : w.heap.size <= (w5.alloc (.cells (qD 2 [] x none 0 0 none 0 0) 115)).heap.size := HGA.out.size
  have hsv := HG.out.size
  have hql : ∀ j, Value.ownBlock (.slice A rs.length c) = some j -> j < w5.heap.size := fun j hj => (HP.out.own.lt j hj).2
  go_wp2_with (at_builtin; refine zD rfl _ _ rfl w.heap.size A c rs [⟨2, [], x, none, 0, 0, none, 0, 0⟩] (by rfl) HPA.out.own w5.heap.size 0 1 (by rfl) HRW.out (by simp) (by omega) hsw ?_; intro A9 c9 w9 ho9 hg9 hbk9)
  have HP := qb (HPA.out.app (ys := [.mk 2 [] x [] []]) ho9 hg9 hbk9 (Els.cons (vp 2 [] x) Els.nil))
  have HR := qb (HRA.out.frame hg9 (Yb HPA.out.own hlt))
  have HG := qb (Ya HGA.out hg9 (Nat.le_refl _) (Xb HPA.out.own))
  clear ho9 hg9 hbk9 hql
  go_wp2
  go_ret
  exact ⟨_, _, _, _, (by first | rfl | (simp; done)), HP.out, by rw [Yh, Ye, Yg]; simp only [List.length_nil]; omega, HR.out.more (by omega), HG.out⟩
 ·
  have HB := qb ((Below.refl wv.heap.size wv).alloc (Nat.le_refl _) (.cells (qD 5 [] [] none 0 0 none 0 0) 115))
  have HRW := qb (zH (us := [⟨5, [], [], none, 0, 0, none, 0, 0⟩]) (heap_alloc_new wv (.cells (qD 5 [] [] none 0 0 none 0 0) 115)) rfl)
  have hrl : rs.length <= 1000000 := by rw [HP.out.len]; have := Yi xs; omega
  have HPA := qb (HP.out.keep HB.out)
  have HRA := qb (HR.out.keep HB.out)
  have HGA := qb (jF HG.out (jg HB.out (some g)))
  have hsw : w.heap.size <= (wv.alloc (.cells (qD 5 [] [] none 0 0 none 0 0) 115)).heap.size := HGA.out.size
  have hsv := HG.out.size
  have hql : ∀ j, Value.ownBlock (.slice A rs.length c) = some j -> j < wv.heap.size := fun j hj => (HP.out.own.lt j hj).2
  go_wp2_with (at_builtin; refine zD rfl _ _ rfl w.heap.size A c rs [⟨5, [], [], none, 0, 0, none, 0, 0⟩] (by rfl) HPA.out.own wv.heap.size 0 1 (by rfl) HRW.out (by simp) (by omega) hsw ?_; intro A9 c9 w9 ho9 hg9 hbk9)
  have HP := qb (HPA.out.app (ys := [.mk 5 [] [] [] []]) ho9 hg9 hbk9 (Els.cons (vp 5 [] []) Els.nil))
  have HR := qb (HRA.out.frame hg9 (Yb HPA.out.own hlt))
  have HG := qb (Ya HGA.out hg9 (Nat.le_refl _) (Xb HPA.out.own))
  clear ho9 hg9 hbk9 hql
  go_wp2
  go_ret
  exact ⟨_, _, _, _, (by first | rfl | (simp; done)), HP.out, by rw [Yh, Ye, Yg]; simp only [List.length_nil]; omega, HR.out.more (by omega), HG.out⟩
 have HB := qb (((Below.refl wv.heap.size wv).alloc (Nat.le_refl _) (.cells (qD 2 [] [97] none 0 0 none 0 0) 115)).alloc (by simp; try omega) (.cells #[.int .i64 1, sv [], sv [], .slice none 0 0, .slice none 0 0, .int .i64 4, sv [], sv [120], .slice none 0 0, .slice (some ⟨wv.heap.size, 0, none⟩) 1 1] 115))
 have HRW := qb (zH (us := [⟨1, [], [], none, 0, 0, none, 0, 0⟩, ⟨4, [], [120], none, 0, 0, some ⟨wv.heap.size, 0, none⟩, 1, 1⟩]) (YP (w := wv) (.cells (qD 2 [] [97] none 0 0 none 0 0) 115) (.cells #[.int .i64 1, sv [], sv [], .slice none 0 0, .slice none 0 0, .int .i64 4, sv [], sv [120], .slice none 0 0, .slice (some ⟨wv.heap.size, 0, none⟩) 1 1] 115)) rfl)
 have HIN : Hid (∀ S : Nat -> Prop, S wv.heap.size -> InP ((wv.alloc (.cells (qD 2 [] [97] none 0 0 none 0 0) 115)).alloc (.cells #[.int .i64 1, sv [], sv [], .slice none 0 0, .slice none 0 0, .int .i64 4, sv [], sv [120], .slice none 0 0, .slice (some ⟨wv.heap.size, 0, none⟩) 1 1] 115)) S (.mk 4 [] [120] [] [(.mk 2 [] [97] [] [])]) (Raw.v ⟨4, [], [120], none, 0, 0, some ⟨wv.heap.size, 0, none⟩, 1, 1⟩)) := fun S h1 => InP.mk (xs := []) (ys := [(.mk 2 [] [97] [] [])]) (Nat.le_refl _) (Nat.le_refl _) RdP.nil_ (YJ (xs := []) (ys := []) h1 (YO _ _) (vp _ _ _))
 have hrl : rs.length <= 1000000 := by rw [HP.out.len]; have := Yi xs; omega
 have HPA := qb (HP.out.keep HB.out)
 have HRA := qb (HR.out.keep HB.out)
 have HGA := qb (jF HG.out (jg HB.out (some g)))
 have hsw : w.heap.size <= ((wv.alloc (.cells (qD 2 [] [97] none 0 0 none 0 0) 115)).alloc (.cells #[.int .i64 1, sv [], sv [], .slice none 0 0, .slice none 0 0, .int .i64 4, sv [], sv [120], .slice none 0 0, .slice (some ⟨wv.heap.size, 0, none⟩) 1 1] 115)).heap.size := HGA.out.size
 have hsv := HG.out.size
 have hql : ∀ j, Value.ownBlock (.slice A rs.length c) = some j -> j < wv.heap.size := fun j hj => (HP.out.own.lt j hj).2
 go_wp2_with (at_builtin; refine zD rfl _ _ rfl w.heap.size A c rs [⟨1, [], [], none, 0, 0, none, 0, 0⟩, ⟨4, [], [120], none, 0, 0, some ⟨wv.heap.size, 0, none⟩, 1, 1⟩] (by rfl) HPA.out.own (wv.heap.size + 1) 0 2 (by rfl) HRW.out (by simp) (by omega) hsw ?_; intro A9 c9 w9 ho9 hg9 hbk9)
 have HP := qb (HPA.out.app (ys := [.mk 1 [] [] [] [], .mk 4 [] [120] [] [(.mk 2 [] [97] [] [])]]) ho9 hg9 hbk9 (Els.cons (vp 1 [] []) (Els.cons (HIN.out _ ⟨by omega, by simp; try omega, fun e => by have := hql _ e; omega⟩) Els.nil)))
 have HR := qb (HRA.out.frame hg9 (Yb HPA.out.own hlt))
 have HG := qb (Ya HGA.out hg9 (Nat.le_refl _) (Xb HPA.out.own))
 clear ho9 hg9 hbk9 hql
 go_wp2
 go_ret
 exact ⟨_, _, _, _, (by first | rfl | (simp; done)), HP.out, by rw [Yh, show wt [.mk 1 [] [] [] [], .mk 4 [] [120] [] [(.mk 2 [] [97] [] [])]] = 5 from rfl]; omega, HR.out.more (by omega), HG.out⟩
end Go.Proofs.YtmboieajfdkllaaGreat
