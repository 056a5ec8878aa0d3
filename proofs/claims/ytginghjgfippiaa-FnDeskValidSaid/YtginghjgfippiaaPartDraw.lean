/- Drawn parts: walks. -/
import Derived.Test.YtginghjgfippiaaPartAdd
import Derived.Test.YtginghjgfippiaaTypedL
namespace Go.Proofs.Ytginghjgfippiaa
open Go.RowKit

set_option maxRecDepth 100000 in
set_option maxHeartbeats 1000000 in
theorem spec_l20Name (B g q : Nat) (n : Int) (w : World) (h : Rdr w B g q) (hq : q ≤ 900000000) (hn : n ≤ 1000000000) (hn0 : -1000000000 ≤ n) :
    Calls Try.prog 60 #[.pointer (some ⟨g, 0, none⟩), .int .i64 n] w fun e w' => ∃ t : Tx, e = .returned (sv t) ∧ t.length ≤ 20 ∧ Rdr w' B g (q + 5) ∧ w.grownBy w' (some g) := by
  have hlt := h.lt
  have H := Lib.hid h
  clear h
  go_enter Try.func60, Try.ntmps60
  go_wp2_with fail
  refine (spec_odd B g q n w H.out (by omega) hn hn0).mono ?_
  rintro e w1 ⟨bo, rfl, hr1, hg1⟩
  have HR1 := Lib.hid hr1
  have HG1 := Lib.hid hg1
  have hz1 := hg1.size
  clear hr1 hg1
  cases bo
  · go_wp2_with fail
    refine (spec_pick B g _ 7 _ (HR1.out.keep ((Below.refl _ _).alloc (Nat.le_refl _) _)) (by omega) (by omega) (by omega)).mono ?_
    rintro e w2 ⟨k, rfl, hk, hr2, hg2⟩
    have hlit : w2.heap[w1.heap.size]? = _ := (hg2.block w1.heap.size (by simp) (by simp; omega)).trans (heap_alloc_new w1 _)
    obtain ⟨x, hxc, hx⟩ := lit_str (k := k) (B := 20) (n := 7) hlit (by decide +kernel) (by omega)
    have hk' : k < 7 := by omega
    have HR2 := Lib.hid hr2
    have HG2 := Lib.hid (grown_trans HG1.out (grown_trans (World.grownBy_alloc w1 _ _) hg2))
    clear hlit hk hr2 hg2
    go_wp2
    go_ret
    exact ⟨x, rfl, hx, HR2.out.more (by omega), HG2.out⟩
  · go_wp2_with fail
    refine (spec_pick B g _ 6 _ (HR1.out.keep ((Below.refl _ _).alloc (Nat.le_refl _) _)) (by omega) (by omega) (by omega)).mono ?_
    rintro e w2 ⟨k, rfl, hk, hr2, hg2⟩
    have hlit : w2.heap[w1.heap.size]? = _ := (hg2.block w1.heap.size (by simp) (by simp; omega)).trans (heap_alloc_new w1 _)
    obtain ⟨x, hxc, hx⟩ := lit_str (k := k) (B := 20) (n := 6) hlit (by decide +kernel) (by omega)
    have hk' : k < 6 := by omega
    have HR2 := Lib.hid hr2
    have HG2 := Lib.hid (grown_trans HG1.out (grown_trans (World.grownBy_alloc w1 _ _) hg2))
    clear hlit hk hr2 hg2
    go_wp2
    go_ret
    exact ⟨x, rfl, hx, HR2.out.more (by omega), HG2.out⟩
/-- the call drew parts of the call's own -/
def DrnP (w : World) (B g q n m : Nat) (e : Ending) (w' : World) : Prop :=
  ∃ A c rs xs, e = .returned (.slice A (List.length rs) c) ∧ PLs w' w.heap.size A c rs xs ∧ wt xs ≤ n ∧ Rdr w' B g (q + m) ∧ w.grownBy w' (some g)
/-- what the list has become -/
def fAdd (N B n : Nat) (row : Option Nat) : TyB := fun w v => ∃ A c rs xs, v = .slice A (List.length rs) c ∧ PLs w B A c rs xs ∧ wt xs ≤ n ∧ (Value.ownBlock (.slice A rs.length c) = row ∨ ∀ j, Value.ownBlock (.slice A rs.length c) = some j → N ≤ j)
theorem keeps_fAdd {N B n : Nat} {row : Option Nat} : ∀ w w' x, KB w w' → fAdd N B n row w x → fAdd N B n row w' x := fun _ _ _ hk ⟨A, c, rs, xs, h1, h2, h3, h4⟩ => ⟨A, c, rs, xs, h1, h2.keep hk, h3, h4⟩
/-- a row of one part -/
theorem wp_row_one {o : Oper} {a : Act} {v : World} {K : Act → World → Prop} {Q : Exit → Act → World → Prop} (s : Nat) (hop : o.op = Op.buildSlice 23 1 #[(0, .tmp s)]) (r0 : Raw) (e1 : a.tmps[s]?.getD undef = r0.v)
    (hK : K (a.put o.dst (.slice (some ⟨v.heap.size, 0, none⟩) 1 1)) (v.alloc (.cells (ptCells r0.k r0.t r0.n r0.Ap r0.lp r0.cp r0.Ao r0.lo r0.co) 66))) : o.wp Try.prog a v K Q := by
  obtain ⟨dst, op, ty, pos, aft, gu⟩ := o
  simp only at hop hK
  subst hop
  cases dst <;> (go_simp; exact hK)
theorem len_wt (xs : List Pt) : xs.length ≤ wt xs := by unfold wt; omega
theorem in_mk {w : World} {S : Nat → Prop} {Aa Ab : Option Addr} {ca cb : Nat} {rsa rsb : List Raw} {xsa xsb : List Pt} (k : Int) (t n : Tx) (la : rsa.length = xsa.length) (lb : rsb.length = xsb.length) (c1 : rsa.length ≤ ca) (c2 : rsb.length ≤ cb) (h1 : RdP w S Aa xsa) (h2 : RdP w S Ab xsb) :
    InP w S (.mk k t n xsa xsb) (Raw.v ⟨k, t, n, Aa, rsa.length, ca, Ab, rsb.length, cb⟩) := by
  have h := InP.mk (k := k) (t := t) (n := n) (xs := xsa) (ys := xsb) (cp := ca) (co := cb) (by omega) (by omega) h1 h2
  rw [← la, ← lb] at h
  exact h
abbrev holeRaw (n : Tx) : Raw := ⟨2, [], n, none, 0, 0, none, 0, 0⟩
set_option maxRecDepth 20000 in
set_option maxHeartbeats 8000000 in
theorem spec_l20Parts_round (d W' C' R Q : Nat) (hR : R = 100 + 2 * W') (hQ : Q = 50 + 2 * C') (hW : R ≤ 100000) (hC : Q ≤ 100000) (hd : d ≤ 3)
    (ih : ∀ d', d = d' + 1 → ∀ (B g q : Nat) (w : World), Rdr w B g q → q ≤ 400000000 - d' * 100000000 → Calls Try.prog 40 #[.pointer (some ⟨g, 0, none⟩), .int .i64 (d' : Int)] w (DrnP w B g q W' C'))
    (B g q : Nat) (w : World) (h : Rdr w B g q) (hq : q ≤ 400000000 - d * 100000000) :
    Calls Try.prog 40 #[.pointer (some ⟨g, 0, none⟩), .int .i64 (d : Int)] w (DrnP w B g q (3 * R) (1 + 3 * Q)) := by
  have hlt := h.lt
  have H := Lib.hid h
  have IH := Lib.hid ih
  have HRE := Lib.hid hR
  have HQE := Lib.hid hQ
  clear h ih hR hQ
  go_enter Try.func40, Try.ntmps40
  go_wp2_with fail
  refine (spec_pick B g q 3 _ (H.out.keep ((Below.refl _ _).alloc (Nat.le_refl _) _)) (by omega) (by omega) (by omega)).mono ?_
  rintro e w1 ⟨k1, rfl, hk1, hr1, hg1⟩
  have HR1 := Lib.hid hr1
  have HG1 := Lib.hid (grown_trans (World.grownBy_alloc w (.cells #[] 66) (some g)) hg1)
  have HP1 : Hid (PLs w1 w.heap.size (some ⟨w.heap.size, 0, none⟩) 0 [] []) := PLs.grow ⟨own_empty w, Els.nil⟩ hg1 (fun j hj => by injection hj with hj; omega)
  have hk1' : k1 ≤ 2 := by omega
  clear hr1 hg1 hk1
  go_wp2
  go_loopw [5, 6] (fun l i wr => ∃ (k : Nat) (A : Option Addr) (c : Nat) (rs : List Raw) (xs : List Pt) (qk : Nat), k ≤ 3 ∧ i = .int .i64 (k : Int) ∧ l = .slice A rs.length c ∧ PLs wr w.heap.size A c rs xs ∧ wt xs + k * R ≤ 3 * R ∧ Rdr wr B g qk ∧ qk + k * Q ≤ q + 1 + 3 * Q ∧ w.grownBy wr (some g)) (fun _ i _ => (intOf i).toNat)
  case atStart => exact ⟨k1 + 1, some ⟨w.heap.size, 0, none⟩, 0, [], [], q + 1, by omega, by go_num, rfl, HP1.out, by rw [wt_nil, Nat.zero_add]; exact Nat.mul_le_mul_right R (by omega), HR1.out, by have := Nat.mul_le_mul_right Q (show k1 + 1 ≤ 3 by omega); omega, HG1.out⟩
  case round =>
    obtain ⟨k, A, c, rs, xs, qk, hk, rfl, rfl, hp, hwt, hr, hqk, hg⟩ := hrel
    have HP := Lib.hid hp
    have HR := Lib.hid hr
    have HG := Lib.hid hg
    clear hp hr hg HP1 HR1 HG1
    by_cases hk0 : k = 0
    · subst hk0
      go_wp2
      go_ret
      exact ⟨A, c, rs, xs, rfl, HP.out, by omega, HR.out.more (by omega), HG.out⟩
    · obtain ⟨k, rfl⟩ : ∃ k', k = k' + 1 := ⟨k - 1, by omega⟩
      have hwt2 : wt xs + R + k * R ≤ 3 * R := by have e := Nat.succ_mul k R; rw [Nat.succ_eq_add_one] at e; omega
      have hqk2 : qk + Q + k * Q ≤ q + 1 + 3 * Q := by have e := Nat.succ_mul k Q; rw [Nat.succ_eq_add_one] at e; omega
      have hkR : k * R ≤ 3 * R := Nat.mul_le_mul_right R (by omega)
      have hkQ : k * Q ≤ 3 * Q := Nat.mul_le_mul_right Q (by omega)
      have HWT := Lib.hid hwt2
      have HQK := Lib.hid hqk2
      have hwx : wt xs ≤ 300000 := by omega
      have hqx : qk ≤ 400000000 - d * 100000000 + 400000 := by omega
      clear hk0 hwt hqk hwt2 hqk2 hkR hkQ
      have HOB : Hid (∀ j, Value.ownBlock (.slice A rs.length c) = some j → j < wr.heap.size) := fun j hj => (HP.out.own.lt j hj).2
      go_wp2_with fail
      refine (spec_l20Name B g qk 0 _ HR.out (by omega) (by omega) (by omega)).mono ?_
      rintro e w2 ⟨nm, rfl, hnm, hr2, hg2⟩
      have HP := Lib.hid ((HP.out.grow hg2 (fun j hj => by injection hj with hj; omega)).keep ((Below.refl _ _).alloc (Nat.le_refl _) (.cells (ptCells 2 [] nm none 0 0 none 0 0) 66)))
      have HR := Lib.hid (hr2.keep ((Below.refl _ _).alloc (Nat.le_refl _) (.cells (ptCells 2 [] nm none 0 0 none 0 0) 66)))
      have HG := Lib.hid (grown_trans (grown_trans HG.out hg2) (World.grownBy_alloc w2 (.cells (ptCells 2 [] nm none 0 0 none 0 0) 66) (some g)))
      have HX := Lib.hid (heap_alloc_new w2 (.cells (ptCells 2 [] nm none 0 0 none 0 0) 66))
      have hzx : w2.heap.size < (w2.alloc (.cells (ptCells 2 [] nm none 0 0 none 0 0) 66)).heap.size := by simp
      have HNE : Hid (∀ j, Value.ownBlock (.slice A rs.length c) = some j → j < w2.heap.size) := fun j hj => Nat.lt_of_lt_of_le (HOB.out j hj) hg2.size
      have hgx : g < w2.heap.size := by have := HG.out.size; have := hr2.lt; omega
      clear hr2 hg2 HOB
      go_upto_region 6 with fail
      generalize w2.alloc (.cells (ptCells 2 [] nm none 0 0 none 0 0) 66) = w3 at *
      go_wp2_with fail
      refine (spec_pick B g _ 9 _ HR.out (by omega) (by omega) (by omega)).mono ?_
      rintro e w4 ⟨z, rfl, hz, hr4, hg4⟩
      have HP := Lib.hid (HP.out.grow hg4 (fun j hj => by injection hj with hj; omega))
      have HR := Lib.hid hr4
      have HG := Lib.hid (grown_trans HG.out hg4)
      have HX := Lib.hid ((hg4.block w2.heap.size hzx (by simp; omega)).trans HX.out)
      have hzx : w2.heap.size < w4.heap.size := Nat.lt_of_lt_of_le hzx hg4.size
      obtain ⟨r0, hr0⟩ : ∃ r0, r0 = holeRaw nm := ⟨_, rfl⟩
      have HRAW := Lib.hid hr0
      have HX : Hid (w4.heap[w2.heap.size]? = some (.cells (ptCells r0.k r0.t r0.n r0.Ap r0.lp r0.cp r0.Ao r0.lo r0.co) 66 (0, 0))) := by show _ = _; rw [hr0]; exact HX.out
      clear hr4 hg4 hr0
      have HP0 := HP
      have hz9 : z = 0 ∨ z = 1 ∨ z = 2 ∨ z = 3 ∨ z = 4 ∨ z = 5 ∨ z = 6 ∨ z = 7 ∨ z = 8 := by omega
      clear hz
      rcases hz9 with rfl | rfl | rfl | rfl | rfl | rfl | rfl | rfl | rfl
      ·
          go_wp2_with fail
          refine (spec_l20Add [116, 101, 120, 116, 32, 38, 32, 60, 98, 62, 120, 60, 47, 98, 62] w.heap.size _ _ _ _ _ HP.out (by have := HG.out.size; omega) (by omega) (by simp)).mono ?_
          rintro e w6 ⟨A6, c6, rs6, xs6, rfl, hp6, hw6, hg6, hor6⟩
          have HR := Lib.hid (HR.out.frame hg6 (own_lt HP.out.own hlt))
          have HG := Lib.hid (grown_own HG.out hg6 (Nat.le_refl _) (ownN_row HP.out.own))
          have HP := Lib.hid hp6
          simp only [List.length_cons, List.length_nil] at hw6
          clear hp6 hg6 hor6
          go_wp2
          go_roundw
          case rel => exact ⟨k, _, _, _, _, _, by omega, by go_num, by first | rfl | simp, HP.out, by have := HWT.out; have := HRE.out; omega, HR.out, by have := HQK.out; have := HQE.out; omega, HG.out⟩
          case measure => first | (simp [intOf]; done) | (simp [intOf]; omega)
      ·
          have HQX := Lib.hid hqx
          have HWX := Lib.hid hwx
          have HKX := Lib.hid hk
          clear hq hqx hwx hW hC hk
          go_upto_region 12 with fail
          go_wp2_with fail
          refine wp_region_typedL 4 (by kernel_rfl) (by kernel_rfl) (fun L v => w4.grownBy v (Value.ownBlock (.slice A rs.length c)) ∧ (L 1 = false → Below w4.heap.size w4 v)) (fun i v v' => if i = 1 then v.grownBy v' (Value.ownBlock (.slice A rs.length c)) else KB v v') (fun i => ([bIs (.slice A rs.length c), fAdd w4.heap.size w.heap.size (wt xs + 1 + List.length ([60, 112, 62] : Tx)) (Value.ownBlock (.slice A rs.length c)), bIs r0.v, bRow (World.heap w4).size 1 (ptCells r0.k r0.t r0.n r0.Ap r0.lp r0.cp r0.Ao r0.lo r0.co) 66] : List TyB).getD i bAny) ?hWL ?hkeepL ?hstepL ?hfinL
          case hWL => exact ⟨grown_drew (grown_refl _ _), fun _ => (Below.refl _ _).drew⟩
          case hkeepL =>
            intro i hi j hj hji v v' x hk hf
            have hj4 : j = 0 ∨ j = 1 ∨ j = 2 ∨ j = 3 := by omega
            by_cases h1 : i = 1
            · subst h1
              rw [if_pos rfl] at hk
              rcases hj4 with rfl | rfl | rfl | rfl
              · exact hf
              · exact absurd rfl hji
              · exact hf
              · obtain ⟨b, e, h2, h3⟩ := hf
                exact ⟨b, e, h2, (hk.block b (lt_of_block h3) (fun e2 => by have := HNE.out _ e2.symm; omega)).trans h3⟩
            · rw [if_neg h1] at hk
              rcases hj4 with rfl | rfl | rfl | rfl
              · exact hf
              · exact keeps_fAdd _ _ _ hk hf
              · exact hf
              · exact keeps_bRow _ _ _ hk hf
          case hstepL =>
            refine all_lt_succ (all_lt_succ (all_lt_succ (all_lt_succ all_lt_zero ?_) ?_) ?_) ?_
            · intro o ho L a v hL hV hb hd K Q hK
              obtain rfl := Option.some.inj ho
              have e0 : a.tmps[5]?.getD undef = .slice A rs.length c := by rw [hb 5 (by decide +kernel)]; simp
              go_simp
              exact hK _ _ ⟨hV.1, fun h => hV.2 (by simpa [upd] using h)⟩ (show (if (_ : Nat) = 1 then _ else KB _ _) by rw [if_neg (by decide)]; exact kb_refl _) rfl
            · intro o ho L a v hL hV hb hd K Q hK
              obtain rfl := Option.some.inj ho
              have hbv := hV.2 hL
              have e1 := slotB (hd 0 (by kernel_rfl) 42 rfl)
              go_simp
              refine (spec_l20Add [60, 112, 62] w.heap.size A c rs xs v (HP.out.keep hbv) (by have := hbv.size; have := HG.out.size; omega) (by have := HWX.out; omega) (by simp)).mono ?_
              rintro e v2 ⟨A5, c5, rs5, xs5, rfl, hp5, hw5, hg5, hor5⟩
              exact hK _ _ ⟨grown_trans hV.1 hg5, fun h => by simp [upd] at h⟩ (show (if (1 : Nat) = 1 then _ else _) by rw [if_pos rfl]; exact hg5) ⟨A5, c5, rs5, xs5, rfl, hp5, hw5, hor5.imp id (fun h j hj => Nat.le_trans hbv.size (h j hj))⟩
            · intro o ho L a v hL hV hb hd K Q hK
              obtain rfl := Option.some.inj ho
              have e0 : a.tmps[7]?.getD undef = .pointer (some ⟨w2.heap.size, 0, none⟩) := by rw [hb 7 (by decide +kernel)]; simp
              obtain ⟨⟨q0, q1, q2, q3, q4⟩, -⟩ := box_five ((hV.1.block w2.heap.size hzx (fun e2 => by have := HNE.out _ e2.symm; omega)).trans HX.out)
              go_simp
              exact hK _ _ ⟨hV.1, fun h => hV.2 (by simpa [upd] using h)⟩ (show (if (_ : Nat) = 1 then _ else KB _ _) by rw [if_neg (by decide)]; exact kb_refl _) rfl
            · intro o ho L a v hL hV hb hd K Q hK
              obtain rfl := Option.some.inj ho
              exact wp_row_one 44 rfl r0 (slotB (hd 2 (by kernel_rfl) 44 rfl)) (hK _ _ ⟨grown_trans hV.1 (World.grownBy_alloc _ _ _), fun h => (hV.2 (by simpa [upd] using h)).alloc (hV.2 (by simpa [upd] using h)).size _⟩ (show (if (3 : Nat) = 1 then _ else KB _ _) by rw [if_neg (by decide)]; exact (Below.refl _ _).alloc (Nat.le_refl _) _) ⟨_, rfl, hV.1.size, heap_alloc_new v _⟩)
          case hfinL =>
            intro vs w5 L hL hV hF
            simp only [putAll, hdst, List.getElem?_cons_succ, List.getElem?_cons_zero, Option.bind, List.drop_succ_cons, List.drop_zero, Act.put]
            obtain ⟨A5, c5, rs5, xs5, h1, hp5, hw5, hor5⟩ := hF 1 (by omega)
            obtain ⟨b5, h3, hb5, hh5⟩ := hF 3 (by omega)
            rw [h1, h3]
            have HP := Lib.hid hp5
            have HR := Lib.hid (HR.out.frame hV.1 (own_lt HP0.out.own hlt))
            have HG := Lib.hid (grown_own HG.out hV.1 (Nat.le_refl _) (ownN_row HP0.out.own))
            have HRW := Lib.hid (raw_row (us := [r0]) hh5 rfl)
            have hqx := HQX.out
            have hwx := HWX.out
            have hk := HKX.out
            have hrl5 : rs5.length ≤ 1000000 := by rw [hp5.len]; have := len_wt xs5; have := HWX.out; simp only [List.length_cons, List.length_nil] at hw5; omega
            have hz5 := HG.out.size
            simp only [List.length_cons, List.length_nil] at hw5
            clear hF h1 h3 hV hL hp5 hh5 HX HNE hor5
            go_simp
            go_wp2_with (first | (at_builtin; refine app_parts_at rfl _ _ rfl w.heap.size A5 c5 rs5 [r0] (by rfl) HP.out.own b5 0 1 (by rfl) HRW.out (by simp) (by omega) (by omega) ?_; intro A7 c7 w7 ho7 hg7 hbk7) | fail)
            have HP7 := HP.out.app (ys := [.mk 2 [] nm [] []]) ho7 hg7 hbk7 (Els.cons (by rw [HRAW.out]; exact raw_in 2 [] nm) Els.nil)
            have HR := Lib.hid (HR.out.frame hg7 (own_lt HP.out.own hlt))
            have HG := Lib.hid (grown_own HG.out hg7 (Nat.le_refl _) (ownN_row HP.out.own))
            have hw7 : wt (xs5 ++ [.mk 2 [] nm [] []]) ≤ wt xs + 60 := by rw [wt_append, wt_one, wt_nil]; simp only [List.length_nil]; omega
            have h7 : rs5.length + 1 = (rs5 ++ [r0]).length := by simp
            rw [h7]
            generalize rs5 ++ [r0] = rs7 at *
            generalize xs5 ++ [.mk 2 [] nm [] []] = xs7 at *
            have HP := Lib.hid HP7
            clear HP7 ho7 hg7 hbk7 hw5 hrl5 h7 HRW
            refine (spec_l20Add [60, 47, 112, 62] w.heap.size _ _ _ _ _ HP.out (by have := HG.out.size; omega) (by omega) (by simp)).mono ?_
            rintro e w8 ⟨A8, c8, rs8, xs8, rfl, hp8, hw8, hg8, hor8⟩
            have HR := Lib.hid (HR.out.frame hg8 (own_lt HP.out.own hlt))
            have HG := Lib.hid (grown_own HG.out hg8 (Nat.le_refl _) (ownN_row HP.out.own))
            have HP := Lib.hid hp8
            simp only [List.length_cons, List.length_nil] at hw8
            clear hp8 hg8 hor8
            go_wp2
            go_roundw
            case rel => exact ⟨k, _, _, _, _, _, by omega, by go_num, by first | rfl | simp, HP.out, by have := HWT.out; have := HRE.out; omega, HR.out, by have := HQK.out; have := HQE.out; omega, HG.out⟩
            case measure => first | (simp [intOf]; done) | (simp [intOf]; omega)
      ·
          have HQX := Lib.hid hqx
          have HWX := Lib.hid hwx
          have HKX := Lib.hid hk
          clear hq hqx hwx hW hC hk
          go_upto_region 15 with fail
          go_wp2_with fail
          refine wp_region_typedL 4 (by kernel_rfl) (by kernel_rfl) (fun L v => w4.grownBy v (Value.ownBlock (.slice A rs.length c)) ∧ (L 1 = false → Below w4.heap.size w4 v)) (fun i v v' => if i = 1 then v.grownBy v' (Value.ownBlock (.slice A rs.length c)) else KB v v') (fun i => ([bIs (.slice A rs.length c), fAdd w4.heap.size w.heap.size (wt xs + 1 + List.length ([60, 97, 32, 104, 114, 101, 102, 61, 34] : Tx)) (Value.ownBlock (.slice A rs.length c)), bIs r0.v, bRow (World.heap w4).size 1 (ptCells r0.k r0.t r0.n r0.Ap r0.lp r0.cp r0.Ao r0.lo r0.co) 66] : List TyB).getD i bAny) ?hWL ?hkeepL ?hstepL ?hfinL
          case hWL => exact ⟨grown_drew (grown_refl _ _), fun _ => (Below.refl _ _).drew⟩
          case hkeepL =>
            intro i hi j hj hji v v' x hk hf
            have hj4 : j = 0 ∨ j = 1 ∨ j = 2 ∨ j = 3 := by omega
            by_cases h1 : i = 1
            · subst h1
              rw [if_pos rfl] at hk
              rcases hj4 with rfl | rfl | rfl | rfl
              · exact hf
              · exact absurd rfl hji
              · exact hf
              · obtain ⟨b, e, h2, h3⟩ := hf
                exact ⟨b, e, h2, (hk.block b (lt_of_block h3) (fun e2 => by have := HNE.out _ e2.symm; omega)).trans h3⟩
            · rw [if_neg h1] at hk
              rcases hj4 with rfl | rfl | rfl | rfl
              · exact hf
              · exact keeps_fAdd _ _ _ hk hf
              · exact hf
              · exact keeps_bRow _ _ _ hk hf
          case hstepL =>
            refine all_lt_succ (all_lt_succ (all_lt_succ (all_lt_succ all_lt_zero ?_) ?_) ?_) ?_
            · intro o ho L a v hL hV hb hd K Q hK
              obtain rfl := Option.some.inj ho
              have e0 : a.tmps[5]?.getD undef = .slice A rs.length c := by rw [hb 5 (by decide +kernel)]; simp
              go_simp
              exact hK _ _ ⟨hV.1, fun h => hV.2 (by simpa [upd] using h)⟩ (show (if (_ : Nat) = 1 then _ else KB _ _) by rw [if_neg (by decide)]; exact kb_refl _) rfl
            · intro o ho L a v hL hV hb hd K Q hK
              obtain rfl := Option.some.inj ho
              have hbv := hV.2 hL
              have e1 := slotB (hd 0 (by kernel_rfl) 51 rfl)
              go_simp
              refine (spec_l20Add [60, 97, 32, 104, 114, 101, 102, 61, 34] w.heap.size A c rs xs v (HP.out.keep hbv) (by have := hbv.size; have := HG.out.size; omega) (by have := HWX.out; omega) (by simp)).mono ?_
              rintro e v2 ⟨A5, c5, rs5, xs5, rfl, hp5, hw5, hg5, hor5⟩
              exact hK _ _ ⟨grown_trans hV.1 hg5, fun h => by simp [upd] at h⟩ (show (if (1 : Nat) = 1 then _ else _) by rw [if_pos rfl]; exact hg5) ⟨A5, c5, rs5, xs5, rfl, hp5, hw5, hor5.imp id (fun h j hj => Nat.le_trans hbv.size (h j hj))⟩
            · intro o ho L a v hL hV hb hd K Q hK
              obtain rfl := Option.some.inj ho
              have e0 : a.tmps[7]?.getD undef = .pointer (some ⟨w2.heap.size, 0, none⟩) := by rw [hb 7 (by decide +kernel)]; simp
              obtain ⟨⟨q0, q1, q2, q3, q4⟩, -⟩ := box_five ((hV.1.block w2.heap.size hzx (fun e2 => by have := HNE.out _ e2.symm; omega)).trans HX.out)
              go_simp
              exact hK _ _ ⟨hV.1, fun h => hV.2 (by simpa [upd] using h)⟩ (show (if (_ : Nat) = 1 then _ else KB _ _) by rw [if_neg (by decide)]; exact kb_refl _) rfl
            · intro o ho L a v hL hV hb hd K Q hK
              obtain rfl := Option.some.inj ho
              exact wp_row_one 53 rfl r0 (slotB (hd 2 (by kernel_rfl) 53 rfl)) (hK _ _ ⟨grown_trans hV.1 (World.grownBy_alloc _ _ _), fun h => (hV.2 (by simpa [upd] using h)).alloc (hV.2 (by simpa [upd] using h)).size _⟩ (show (if (3 : Nat) = 1 then _ else KB _ _) by rw [if_neg (by decide)]; exact (Below.refl _ _).alloc (Nat.le_refl _) _) ⟨_, rfl, hV.1.size, heap_alloc_new v _⟩)
          case hfinL =>
            intro vs w5 L hL hV hF
            simp only [putAll, hdst, List.getElem?_cons_succ, List.getElem?_cons_zero, Option.bind, List.drop_succ_cons, List.drop_zero, Act.put]
            obtain ⟨A5, c5, rs5, xs5, h1, hp5, hw5, hor5⟩ := hF 1 (by omega)
            obtain ⟨b5, h3, hb5, hh5⟩ := hF 3 (by omega)
            rw [h1, h3]
            have HP := Lib.hid hp5
            have HR := Lib.hid (HR.out.frame hV.1 (own_lt HP0.out.own hlt))
            have HG := Lib.hid (grown_own HG.out hV.1 (Nat.le_refl _) (ownN_row HP0.out.own))
            have HRW := Lib.hid (raw_row (us := [r0]) hh5 rfl)
            have hqx := HQX.out
            have hwx := HWX.out
            have hk := HKX.out
            have hrl5 : rs5.length ≤ 1000000 := by rw [hp5.len]; have := len_wt xs5; have := HWX.out; simp only [List.length_cons, List.length_nil] at hw5; omega
            have hz5 := HG.out.size
            simp only [List.length_cons, List.length_nil] at hw5
            clear hF h1 h3 hV hL hp5 hh5 HX HNE hor5
            go_simp
            go_wp2_with (first | (at_builtin; refine app_parts_at rfl _ _ rfl w.heap.size A5 c5 rs5 [r0] (by rfl) HP.out.own b5 0 1 (by rfl) HRW.out (by simp) (by omega) (by omega) ?_; intro A7 c7 w7 ho7 hg7 hbk7) | fail)
            have HP7 := HP.out.app (ys := [.mk 2 [] nm [] []]) ho7 hg7 hbk7 (Els.cons (by rw [HRAW.out]; exact raw_in 2 [] nm) Els.nil)
            have HR := Lib.hid (HR.out.frame hg7 (own_lt HP.out.own hlt))
            have HG := Lib.hid (grown_own HG.out hg7 (Nat.le_refl _) (ownN_row HP.out.own))
            have hw7 : wt (xs5 ++ [.mk 2 [] nm [] []]) ≤ wt xs + 60 := by rw [wt_append, wt_one, wt_nil]; simp only [List.length_nil]; omega
            have h7 : rs5.length + 1 = (rs5 ++ [r0]).length := by simp
            rw [h7]
            generalize rs5 ++ [r0] = rs7 at *
            generalize xs5 ++ [.mk 2 [] nm [] []] = xs7 at *
            have HP := Lib.hid HP7
            clear HP7 ho7 hg7 hbk7 hw5 hrl5 h7 HRW
            refine (spec_l20Add [34, 62, 121, 60, 47, 97, 62] w.heap.size _ _ _ _ _ HP.out (by have := HG.out.size; omega) (by omega) (by simp)).mono ?_
            rintro e w8 ⟨A8, c8, rs8, xs8, rfl, hp8, hw8, hg8, hor8⟩
            have HR := Lib.hid (HR.out.frame hg8 (own_lt HP.out.own hlt))
            have HG := Lib.hid (grown_own HG.out hg8 (Nat.le_refl _) (ownN_row HP.out.own))
            have HP := Lib.hid hp8
            simp only [List.length_cons, List.length_nil] at hw8
            clear hp8 hg8 hor8
            go_wp2
            go_roundw
            case rel => exact ⟨k, _, _, _, _, _, by omega, by go_num, by first | rfl | simp, HP.out, by have := HWT.out; have := HRE.out; omega, HR.out, by have := HQK.out; have := HQE.out; omega, HG.out⟩
            case measure => first | (simp [intOf]; done) | (simp [intOf]; omega)
      ·
          have HQX := Lib.hid hqx
          have HWX := Lib.hid hwx
          have HKX := Lib.hid hk
          clear hq hqx hwx hW hC hk
          go_upto_region 18 with fail
          go_wp2_with fail
          refine wp_region_typedL 4 (by kernel_rfl) (by kernel_rfl) (fun L v => w4.grownBy v (Value.ownBlock (.slice A rs.length c)) ∧ (L 1 = false → Below w4.heap.size w4 v)) (fun i v v' => if i = 1 then v.grownBy v' (Value.ownBlock (.slice A rs.length c)) else KB v v') (fun i => ([bIs (.slice A rs.length c), fAdd w4.heap.size w.heap.size (wt xs + 1 + List.length ([60, 97, 32, 104, 114, 101, 102, 61, 39, 47, 115, 63, 113, 61] : Tx)) (Value.ownBlock (.slice A rs.length c)), bIs r0.v, bRow (World.heap w4).size 1 (ptCells r0.k r0.t r0.n r0.Ap r0.lp r0.cp r0.Ao r0.lo r0.co) 66] : List TyB).getD i bAny) ?hWL ?hkeepL ?hstepL ?hfinL
          case hWL => exact ⟨grown_drew (grown_refl _ _), fun _ => (Below.refl _ _).drew⟩
          case hkeepL =>
            intro i hi j hj hji v v' x hk hf
            have hj4 : j = 0 ∨ j = 1 ∨ j = 2 ∨ j = 3 := by omega
            by_cases h1 : i = 1
            · subst h1
              rw [if_pos rfl] at hk
              rcases hj4 with rfl | rfl | rfl | rfl
              · exact hf
              · exact absurd rfl hji
              · exact hf
              · obtain ⟨b, e, h2, h3⟩ := hf
                exact ⟨b, e, h2, (hk.block b (lt_of_block h3) (fun e2 => by have := HNE.out _ e2.symm; omega)).trans h3⟩
            · rw [if_neg h1] at hk
              rcases hj4 with rfl | rfl | rfl | rfl
              · exact hf
              · exact keeps_fAdd _ _ _ hk hf
              · exact hf
              · exact keeps_bRow _ _ _ hk hf
          case hstepL =>
            refine all_lt_succ (all_lt_succ (all_lt_succ (all_lt_succ all_lt_zero ?_) ?_) ?_) ?_
            · intro o ho L a v hL hV hb hd K Q hK
              obtain rfl := Option.some.inj ho
              have e0 : a.tmps[5]?.getD undef = .slice A rs.length c := by rw [hb 5 (by decide +kernel)]; simp
              go_simp
              exact hK _ _ ⟨hV.1, fun h => hV.2 (by simpa [upd] using h)⟩ (show (if (_ : Nat) = 1 then _ else KB _ _) by rw [if_neg (by decide)]; exact kb_refl _) rfl
            · intro o ho L a v hL hV hb hd K Q hK
              obtain rfl := Option.some.inj ho
              have hbv := hV.2 hL
              have e1 := slotB (hd 0 (by kernel_rfl) 60 rfl)
              go_simp
              refine (spec_l20Add [60, 97, 32, 104, 114, 101, 102, 61, 39, 47, 115, 63, 113, 61] w.heap.size A c rs xs v (HP.out.keep hbv) (by have := hbv.size; have := HG.out.size; omega) (by have := HWX.out; omega) (by simp)).mono ?_
              rintro e v2 ⟨A5, c5, rs5, xs5, rfl, hp5, hw5, hg5, hor5⟩
              exact hK _ _ ⟨grown_trans hV.1 hg5, fun h => by simp [upd] at h⟩ (show (if (1 : Nat) = 1 then _ else _) by rw [if_pos rfl]; exact hg5) ⟨A5, c5, rs5, xs5, rfl, hp5, hw5, hor5.imp id (fun h j hj => Nat.le_trans hbv.size (h j hj))⟩
            · intro o ho L a v hL hV hb hd K Q hK
              obtain rfl := Option.some.inj ho
              have e0 : a.tmps[7]?.getD undef = .pointer (some ⟨w2.heap.size, 0, none⟩) := by rw [hb 7 (by decide +kernel)]; simp
              obtain ⟨⟨q0, q1, q2, q3, q4⟩, -⟩ := box_five ((hV.1.block w2.heap.size hzx (fun e2 => by have := HNE.out _ e2.symm; omega)).trans HX.out)
              go_simp
              exact hK _ _ ⟨hV.1, fun h => hV.2 (by simpa [upd] using h)⟩ (show (if (_ : Nat) = 1 then _ else KB _ _) by rw [if_neg (by decide)]; exact kb_refl _) rfl
            · intro o ho L a v hL hV hb hd K Q hK
              obtain rfl := Option.some.inj ho
              exact wp_row_one 62 rfl r0 (slotB (hd 2 (by kernel_rfl) 62 rfl)) (hK _ _ ⟨grown_trans hV.1 (World.grownBy_alloc _ _ _), fun h => (hV.2 (by simpa [upd] using h)).alloc (hV.2 (by simpa [upd] using h)).size _⟩ (show (if (3 : Nat) = 1 then _ else KB _ _) by rw [if_neg (by decide)]; exact (Below.refl _ _).alloc (Nat.le_refl _) _) ⟨_, rfl, hV.1.size, heap_alloc_new v _⟩)
          case hfinL =>
            intro vs w5 L hL hV hF
            simp only [putAll, hdst, List.getElem?_cons_succ, List.getElem?_cons_zero, Option.bind, List.drop_succ_cons, List.drop_zero, Act.put]
            obtain ⟨A5, c5, rs5, xs5, h1, hp5, hw5, hor5⟩ := hF 1 (by omega)
            obtain ⟨b5, h3, hb5, hh5⟩ := hF 3 (by omega)
            rw [h1, h3]
            have HP := Lib.hid hp5
            have HR := Lib.hid (HR.out.frame hV.1 (own_lt HP0.out.own hlt))
            have HG := Lib.hid (grown_own HG.out hV.1 (Nat.le_refl _) (ownN_row HP0.out.own))
            have HRW := Lib.hid (raw_row (us := [r0]) hh5 rfl)
            have hqx := HQX.out
            have hwx := HWX.out
            have hk := HKX.out
            have hrl5 : rs5.length ≤ 1000000 := by rw [hp5.len]; have := len_wt xs5; have := HWX.out; simp only [List.length_cons, List.length_nil] at hw5; omega
            have hz5 := HG.out.size
            simp only [List.length_cons, List.length_nil] at hw5
            clear hF h1 h3 hV hL hp5 hh5 HX HNE hor5
            go_simp
            go_wp2_with (first | (at_builtin; refine app_parts_at rfl _ _ rfl w.heap.size A5 c5 rs5 [r0] (by rfl) HP.out.own b5 0 1 (by rfl) HRW.out (by simp) (by omega) (by omega) ?_; intro A7 c7 w7 ho7 hg7 hbk7) | fail)
            have HP7 := HP.out.app (ys := [.mk 2 [] nm [] []]) ho7 hg7 hbk7 (Els.cons (by rw [HRAW.out]; exact raw_in 2 [] nm) Els.nil)
            have HR := Lib.hid (HR.out.frame hg7 (own_lt HP.out.own hlt))
            have HG := Lib.hid (grown_own HG.out hg7 (Nat.le_refl _) (ownN_row HP.out.own))
            have hw7 : wt (xs5 ++ [.mk 2 [] nm [] []]) ≤ wt xs + 60 := by rw [wt_append, wt_one, wt_nil]; simp only [List.length_nil]; omega
            have h7 : rs5.length + 1 = (rs5 ++ [r0]).length := by simp
            rw [h7]
            generalize rs5 ++ [r0] = rs7 at *
            generalize xs5 ++ [.mk 2 [] nm [] []] = xs7 at *
            have HP := Lib.hid HP7
            clear HP7 ho7 hg7 hbk7 hw5 hrl5 h7 HRW
            refine (spec_l20Add [39, 62, 122, 60, 47, 97, 62] w.heap.size _ _ _ _ _ HP.out (by have := HG.out.size; omega) (by omega) (by simp)).mono ?_
            rintro e w8 ⟨A8, c8, rs8, xs8, rfl, hp8, hw8, hg8, hor8⟩
            have HR := Lib.hid (HR.out.frame hg8 (own_lt HP.out.own hlt))
            have HG := Lib.hid (grown_own HG.out hg8 (Nat.le_refl _) (ownN_row HP.out.own))
            have HP := Lib.hid hp8
            simp only [List.length_cons, List.length_nil] at hw8
            clear hp8 hg8 hor8
            go_wp2
            go_roundw
            case rel => exact ⟨k, _, _, _, _, _, by omega, by go_num, by first | rfl | simp, HP.out, by have := HWT.out; have := HRE.out; omega, HR.out, by have := HQK.out; have := HQE.out; omega, HG.out⟩
            case measure => first | (simp [intOf]; done) | (simp [intOf]; omega)
      ·
          have HQX := Lib.hid hqx
          have HWX := Lib.hid hwx
          have HKX := Lib.hid hk
          clear hq hqx hwx hW hC hk
          go_upto_region 21 with fail
          go_wp2_with fail
          refine wp_region_typedL 4 (by kernel_rfl) (by kernel_rfl) (fun L v => w4.grownBy v (Value.ownBlock (.slice A rs.length c)) ∧ (L 1 = false → Below w4.heap.size w4 v)) (fun i v v' => if i = 1 then v.grownBy v' (Value.ownBlock (.slice A rs.length c)) else KB v v') (fun i => ([bIs (.slice A rs.length c), fAdd w4.heap.size w.heap.size (wt xs + 1 + List.length ([60, 105, 32, 116, 105, 116, 108, 101, 61, 34] : Tx)) (Value.ownBlock (.slice A rs.length c)), bIs r0.v, bRow (World.heap w4).size 1 (ptCells r0.k r0.t r0.n r0.Ap r0.lp r0.cp r0.Ao r0.lo r0.co) 66] : List TyB).getD i bAny) ?hWL ?hkeepL ?hstepL ?hfinL
          case hWL => exact ⟨grown_drew (grown_refl _ _), fun _ => (Below.refl _ _).drew⟩
          case hkeepL =>
            intro i hi j hj hji v v' x hk hf
            have hj4 : j = 0 ∨ j = 1 ∨ j = 2 ∨ j = 3 := by omega
            by_cases h1 : i = 1
            · subst h1
              rw [if_pos rfl] at hk
              rcases hj4 with rfl | rfl | rfl | rfl
              · exact hf
              · exact absurd rfl hji
              · exact hf
              · obtain ⟨b, e, h2, h3⟩ := hf
                exact ⟨b, e, h2, (hk.block b (lt_of_block h3) (fun e2 => by have := HNE.out _ e2.symm; omega)).trans h3⟩
            · rw [if_neg h1] at hk
              rcases hj4 with rfl | rfl | rfl | rfl
              · exact hf
              · exact keeps_fAdd _ _ _ hk hf
              · exact hf
              · exact keeps_bRow _ _ _ hk hf
          case hstepL =>
            refine all_lt_succ (all_lt_succ (all_lt_succ (all_lt_succ all_lt_zero ?_) ?_) ?_) ?_
            · intro o ho L a v hL hV hb hd K Q hK
              obtain rfl := Option.some.inj ho
              have e0 : a.tmps[5]?.getD undef = .slice A rs.length c := by rw [hb 5 (by decide +kernel)]; simp
              go_simp
              exact hK _ _ ⟨hV.1, fun h => hV.2 (by simpa [upd] using h)⟩ (show (if (_ : Nat) = 1 then _ else KB _ _) by rw [if_neg (by decide)]; exact kb_refl _) rfl
            · intro o ho L a v hL hV hb hd K Q hK
              obtain rfl := Option.some.inj ho
              have hbv := hV.2 hL
              have e1 := slotB (hd 0 (by kernel_rfl) 69 rfl)
              go_simp
              refine (spec_l20Add [60, 105, 32, 116, 105, 116, 108, 101, 61, 34] w.heap.size A c rs xs v (HP.out.keep hbv) (by have := hbv.size; have := HG.out.size; omega) (by have := HWX.out; omega) (by simp)).mono ?_
              rintro e v2 ⟨A5, c5, rs5, xs5, rfl, hp5, hw5, hg5, hor5⟩
              exact hK _ _ ⟨grown_trans hV.1 hg5, fun h => by simp [upd] at h⟩ (show (if (1 : Nat) = 1 then _ else _) by rw [if_pos rfl]; exact hg5) ⟨A5, c5, rs5, xs5, rfl, hp5, hw5, hor5.imp id (fun h j hj => Nat.le_trans hbv.size (h j hj))⟩
            · intro o ho L a v hL hV hb hd K Q hK
              obtain rfl := Option.some.inj ho
              have e0 : a.tmps[7]?.getD undef = .pointer (some ⟨w2.heap.size, 0, none⟩) := by rw [hb 7 (by decide +kernel)]; simp
              obtain ⟨⟨q0, q1, q2, q3, q4⟩, -⟩ := box_five ((hV.1.block w2.heap.size hzx (fun e2 => by have := HNE.out _ e2.symm; omega)).trans HX.out)
              go_simp
              exact hK _ _ ⟨hV.1, fun h => hV.2 (by simpa [upd] using h)⟩ (show (if (_ : Nat) = 1 then _ else KB _ _) by rw [if_neg (by decide)]; exact kb_refl _) rfl
            · intro o ho L a v hL hV hb hd K Q hK
              obtain rfl := Option.some.inj ho
              exact wp_row_one 71 rfl r0 (slotB (hd 2 (by kernel_rfl) 71 rfl)) (hK _ _ ⟨grown_trans hV.1 (World.grownBy_alloc _ _ _), fun h => (hV.2 (by simpa [upd] using h)).alloc (hV.2 (by simpa [upd] using h)).size _⟩ (show (if (3 : Nat) = 1 then _ else KB _ _) by rw [if_neg (by decide)]; exact (Below.refl _ _).alloc (Nat.le_refl _) _) ⟨_, rfl, hV.1.size, heap_alloc_new v _⟩)
          case hfinL =>
            intro vs w5 L hL hV hF
            simp only [putAll, hdst, List.getElem?_cons_succ, List.getElem?_cons_zero, Option.bind, List.drop_succ_cons, List.drop_zero, Act.put]
            obtain ⟨A5, c5, rs5, xs5, h1, hp5, hw5, hor5⟩ := hF 1 (by omega)
            obtain ⟨b5, h3, hb5, hh5⟩ := hF 3 (by omega)
            rw [h1, h3]
            have HP := Lib.hid hp5
            have HR := Lib.hid (HR.out.frame hV.1 (own_lt HP0.out.own hlt))
            have HG := Lib.hid (grown_own HG.out hV.1 (Nat.le_refl _) (ownN_row HP0.out.own))
            have HRW := Lib.hid (raw_row (us := [r0]) hh5 rfl)
            have hqx := HQX.out
            have hwx := HWX.out
            have hk := HKX.out
            have hrl5 : rs5.length ≤ 1000000 := by rw [hp5.len]; have := len_wt xs5; have := HWX.out; simp only [List.length_cons, List.length_nil] at hw5; omega
            have hz5 := HG.out.size
            simp only [List.length_cons, List.length_nil] at hw5
            clear hF h1 h3 hV hL hp5 hh5 HX HNE hor5
            go_simp
            go_wp2_with (first | (at_builtin; refine app_parts_at rfl _ _ rfl w.heap.size A5 c5 rs5 [r0] (by rfl) HP.out.own b5 0 1 (by rfl) HRW.out (by simp) (by omega) (by omega) ?_; intro A7 c7 w7 ho7 hg7 hbk7) | fail)
            have HP7 := HP.out.app (ys := [.mk 2 [] nm [] []]) ho7 hg7 hbk7 (Els.cons (by rw [HRAW.out]; exact raw_in 2 [] nm) Els.nil)
            have HR := Lib.hid (HR.out.frame hg7 (own_lt HP.out.own hlt))
            have HG := Lib.hid (grown_own HG.out hg7 (Nat.le_refl _) (ownN_row HP.out.own))
            have hw7 : wt (xs5 ++ [.mk 2 [] nm [] []]) ≤ wt xs + 60 := by rw [wt_append, wt_one, wt_nil]; simp only [List.length_nil]; omega
            have h7 : rs5.length + 1 = (rs5 ++ [r0]).length := by simp
            rw [h7]
            generalize rs5 ++ [r0] = rs7 at *
            generalize xs5 ++ [.mk 2 [] nm [] []] = xs7 at *
            have HP := Lib.hid HP7
            clear HP7 ho7 hg7 hbk7 hw5 hrl5 h7 HRW
            refine (spec_l20Add [34, 62, 116, 60, 47, 105, 62] w.heap.size _ _ _ _ _ HP.out (by have := HG.out.size; omega) (by omega) (by simp)).mono ?_
            rintro e w8 ⟨A8, c8, rs8, xs8, rfl, hp8, hw8, hg8, hor8⟩
            have HR := Lib.hid (HR.out.frame hg8 (own_lt HP.out.own hlt))
            have HG := Lib.hid (grown_own HG.out hg8 (Nat.le_refl _) (ownN_row HP.out.own))
            have HP := Lib.hid hp8
            simp only [List.length_cons, List.length_nil] at hw8
            clear hp8 hg8 hor8
            go_wp2
            go_roundw
            case rel => exact ⟨k, _, _, _, _, _, by omega, by go_num, by first | rfl | simp, HP.out, by have := HWT.out; have := HRE.out; omega, HR.out, by have := HQK.out; have := HQE.out; omega, HG.out⟩
            case measure => first | (simp [intOf]; done) | (simp [intOf]; omega)
      ·
          have HQX := Lib.hid hqx
          have HWX := Lib.hid hwx
          have HKX := Lib.hid hk
          clear hq hqx hwx hW hC hk
          go_upto_region 24 with fail
          go_wp2_with fail
          refine wp_region_typedL 4 (by kernel_rfl) (by kernel_rfl) (fun L v => w4.grownBy v (Value.ownBlock (.slice A rs.length c)) ∧ (L 1 = false → Below w4.heap.size w4 v)) (fun i v v' => if i = 1 then v.grownBy v' (Value.ownBlock (.slice A rs.length c)) else KB v v') (fun i => ([bIs (.slice A rs.length c), fAdd w4.heap.size w.heap.size (wt xs + 1 + List.length ([60, 115, 99, 114, 105, 112, 116, 62, 118, 97, 114, 32, 97, 61, 34] : Tx)) (Value.ownBlock (.slice A rs.length c)), bIs r0.v, bRow (World.heap w4).size 1 (ptCells r0.k r0.t r0.n r0.Ap r0.lp r0.cp r0.Ao r0.lo r0.co) 66] : List TyB).getD i bAny) ?hWL ?hkeepL ?hstepL ?hfinL
          case hWL => exact ⟨grown_drew (grown_refl _ _), fun _ => (Below.refl _ _).drew⟩
          case hkeepL =>
            intro i hi j hj hji v v' x hk hf
            have hj4 : j = 0 ∨ j = 1 ∨ j = 2 ∨ j = 3 := by omega
            by_cases h1 : i = 1
            · subst h1
              rw [if_pos rfl] at hk
              rcases hj4 with rfl | rfl | rfl | rfl
              · exact hf
              · exact absurd rfl hji
              · exact hf
              · obtain ⟨b, e, h2, h3⟩ := hf
                exact ⟨b, e, h2, (hk.block b (lt_of_block h3) (fun e2 => by have := HNE.out _ e2.symm; omega)).trans h3⟩
            · rw [if_neg h1] at hk
              rcases hj4 with rfl | rfl | rfl | rfl
              · exact hf
              · exact keeps_fAdd _ _ _ hk hf
              · exact hf
              · exact keeps_bRow _ _ _ hk hf
          case hstepL =>
            refine all_lt_succ (all_lt_succ (all_lt_succ (all_lt_succ all_lt_zero ?_) ?_) ?_) ?_
            · intro o ho L a v hL hV hb hd K Q hK
              obtain rfl := Option.some.inj ho
              have e0 : a.tmps[5]?.getD undef = .slice A rs.length c := by rw [hb 5 (by decide +kernel)]; simp
              go_simp
              exact hK _ _ ⟨hV.1, fun h => hV.2 (by simpa [upd] using h)⟩ (show (if (_ : Nat) = 1 then _ else KB _ _) by rw [if_neg (by decide)]; exact kb_refl _) rfl
            · intro o ho L a v hL hV hb hd K Q hK
              obtain rfl := Option.some.inj ho
              have hbv := hV.2 hL
              have e1 := slotB (hd 0 (by kernel_rfl) 78 rfl)
              go_simp
              refine (spec_l20Add [60, 115, 99, 114, 105, 112, 116, 62, 118, 97, 114, 32, 97, 61, 34] w.heap.size A c rs xs v (HP.out.keep hbv) (by have := hbv.size; have := HG.out.size; omega) (by have := HWX.out; omega) (by simp)).mono ?_
              rintro e v2 ⟨A5, c5, rs5, xs5, rfl, hp5, hw5, hg5, hor5⟩
              exact hK _ _ ⟨grown_trans hV.1 hg5, fun h => by simp [upd] at h⟩ (show (if (1 : Nat) = 1 then _ else _) by rw [if_pos rfl]; exact hg5) ⟨A5, c5, rs5, xs5, rfl, hp5, hw5, hor5.imp id (fun h j hj => Nat.le_trans hbv.size (h j hj))⟩
            · intro o ho L a v hL hV hb hd K Q hK
              obtain rfl := Option.some.inj ho
              have e0 : a.tmps[7]?.getD undef = .pointer (some ⟨w2.heap.size, 0, none⟩) := by rw [hb 7 (by decide +kernel)]; simp
              obtain ⟨⟨q0, q1, q2, q3, q4⟩, -⟩ := box_five ((hV.1.block w2.heap.size hzx (fun e2 => by have := HNE.out _ e2.symm; omega)).trans HX.out)
              go_simp
              exact hK _ _ ⟨hV.1, fun h => hV.2 (by simpa [upd] using h)⟩ (show (if (_ : Nat) = 1 then _ else KB _ _) by rw [if_neg (by decide)]; exact kb_refl _) rfl
            · intro o ho L a v hL hV hb hd K Q hK
              obtain rfl := Option.some.inj ho
              exact wp_row_one 80 rfl r0 (slotB (hd 2 (by kernel_rfl) 80 rfl)) (hK _ _ ⟨grown_trans hV.1 (World.grownBy_alloc _ _ _), fun h => (hV.2 (by simpa [upd] using h)).alloc (hV.2 (by simpa [upd] using h)).size _⟩ (show (if (3 : Nat) = 1 then _ else KB _ _) by rw [if_neg (by decide)]; exact (Below.refl _ _).alloc (Nat.le_refl _) _) ⟨_, rfl, hV.1.size, heap_alloc_new v _⟩)
          case hfinL =>
            intro vs w5 L hL hV hF
            simp only [putAll, hdst, List.getElem?_cons_succ, List.getElem?_cons_zero, Option.bind, List.drop_succ_cons, List.drop_zero, Act.put]
            obtain ⟨A5, c5, rs5, xs5, h1, hp5, hw5, hor5⟩ := hF 1 (by omega)
            obtain ⟨b5, h3, hb5, hh5⟩ := hF 3 (by omega)
            rw [h1, h3]
            have HP := Lib.hid hp5
            have HR := Lib.hid (HR.out.frame hV.1 (own_lt HP0.out.own hlt))
            have HG := Lib.hid (grown_own HG.out hV.1 (Nat.le_refl _) (ownN_row HP0.out.own))
            have HRW := Lib.hid (raw_row (us := [r0]) hh5 rfl)
            have hqx := HQX.out
            have hwx := HWX.out
            have hk := HKX.out
            have hrl5 : rs5.length ≤ 1000000 := by rw [hp5.len]; have := len_wt xs5; have := HWX.out; simp only [List.length_cons, List.length_nil] at hw5; omega
            have hz5 := HG.out.size
            simp only [List.length_cons, List.length_nil] at hw5
            clear hF h1 h3 hV hL hp5 hh5 HX HNE hor5
            go_simp
            go_wp2_with (first | (at_builtin; refine app_parts_at rfl _ _ rfl w.heap.size A5 c5 rs5 [r0] (by rfl) HP.out.own b5 0 1 (by rfl) HRW.out (by simp) (by omega) (by omega) ?_; intro A7 c7 w7 ho7 hg7 hbk7) | fail)
            have HP7 := HP.out.app (ys := [.mk 2 [] nm [] []]) ho7 hg7 hbk7 (Els.cons (by rw [HRAW.out]; exact raw_in 2 [] nm) Els.nil)
            have HR := Lib.hid (HR.out.frame hg7 (own_lt HP.out.own hlt))
            have HG := Lib.hid (grown_own HG.out hg7 (Nat.le_refl _) (ownN_row HP.out.own))
            have hw7 : wt (xs5 ++ [.mk 2 [] nm [] []]) ≤ wt xs + 60 := by rw [wt_append, wt_one, wt_nil]; simp only [List.length_nil]; omega
            have h7 : rs5.length + 1 = (rs5 ++ [r0]).length := by simp
            rw [h7]
            generalize rs5 ++ [r0] = rs7 at *
            generalize xs5 ++ [.mk 2 [] nm [] []] = xs7 at *
            have HP := Lib.hid HP7
            clear HP7 ho7 hg7 hbk7 hw5 hrl5 h7 HRW
            refine (spec_l20Add [34, 59, 60, 47, 115, 99, 114, 105, 112, 116, 62] w.heap.size _ _ _ _ _ HP.out (by have := HG.out.size; omega) (by omega) (by simp)).mono ?_
            rintro e w8 ⟨A8, c8, rs8, xs8, rfl, hp8, hw8, hg8, hor8⟩
            have HR := Lib.hid (HR.out.frame hg8 (own_lt HP.out.own hlt))
            have HG := Lib.hid (grown_own HG.out hg8 (Nat.le_refl _) (ownN_row HP.out.own))
            have HP := Lib.hid hp8
            simp only [List.length_cons, List.length_nil] at hw8
            clear hp8 hg8 hor8
            go_wp2
            go_roundw
            case rel => exact ⟨k, _, _, _, _, _, by omega, by go_num, by first | rfl | simp, HP.out, by have := HWT.out; have := HRE.out; omega, HR.out, by have := HQK.out; have := HQE.out; omega, HG.out⟩
            case measure => first | (simp [intOf]; done) | (simp [intOf]; omega)
      ·
          obtain ⟨⟨f0, f1, f2, f3, f4⟩, -⟩ := box_five HX.out
          have hrl : rs.length ≤ 1000000 := by rw [HP.out.len]; have := len_wt xs; omega
          have HA := Lib.hid ((Below.refl w4.heap.size w4).alloc (Nat.le_refl _) (.cells (ptCells r0.k r0.t r0.n r0.Ap r0.lp r0.cp r0.Ao r0.lo r0.co) 66))
          have HPA := Lib.hid (HP.out.keep HA.out)
          have HRA := Lib.hid (HR.out.keep HA.out)
          have HGA := Lib.hid (grown_trans HG.out (World.grownBy_alloc w4 (.cells (ptCells r0.k r0.t r0.n r0.Ap r0.lp r0.cp r0.Ao r0.lo r0.co) 66) (some g)))
          have HRW := Lib.hid (raw_row (us := [r0]) (heap_alloc_new w4 (.cells (ptCells r0.k r0.t r0.n r0.Ap r0.lp r0.cp r0.Ao r0.lo r0.co) 66)) rfl)
          have HSW : Hid (w.heap.size ≤ (w4.alloc (.cells (ptCells r0.k r0.t r0.n r0.Ap r0.lp r0.cp r0.Ao r0.lo r0.co) 66)).heap.size) := by show _ ≤ _; have := HG.out.size; simp; omega
          have HRL : Hid (rs.length ≤ 4294967296) := by show _ ≤ _; omega
          go_wp2_with (at_builtin; refine app_parts_at rfl _ _ rfl w.heap.size A c rs [r0] (by rfl) HPA.out.own w4.heap.size 0 1 (by rfl) HRW.out (by simp) HRL.out HSW.out ?_; intro A7 c7 w7 ho7 hg7 hbk7)
          have HP := Lib.hid (HPA.out.app (ys := [.mk 2 [] nm [] []]) ho7 hg7 hbk7 (Els.cons (by rw [HRAW.out]; exact raw_in 2 [] nm) Els.nil))
          have HR := Lib.hid (HRA.out.frame hg7 (own_lt HPA.out.own hlt))
          have HG := Lib.hid (grown_own HGA.out hg7 (Nat.le_refl _) (ownN_row HPA.out.own))
          clear ho7 hg7 hbk7
          go_roundw
          case rel => exact ⟨k, _, _, _, _, _, by omega, by go_num, by first | rfl | simp, HP.out, by rw [wt_append, wt_one, wt_nil]; simp only [List.length_nil]; have := HWT.out; have := HRE.out; omega, HR.out, by have := HQK.out; have := HQE.out; omega, HG.out⟩
          case measure => first | (simp [intOf]; done) | (simp [intOf]; omega)
      ·
          by_cases hd0 : d = 0
          · have hdn : (0 < d) = False := by rw [hd0]; simp
            clear hd0
            go_wp2
            go_roundw
            case rel => exact ⟨k, _, _, _, _, _, by omega, by go_num, by first | rfl | simp, HP.out, by have := HWT.out; omega, HR.out, by have := HQK.out; have := HQE.out; omega, HG.out⟩
            case measure => first | (simp [intOf]; done) | (simp [intOf]; omega)
          obtain ⟨d', hd'⟩ : ∃ d', d = d' + 1 := ⟨d - 1, by omega⟩
          have hdn : (0 < d) = True := eq_true (by omega)
          have hdm : (d : Int) - 1 = (d' : Int) := by omega
          have HI := Lib.hid (fun B g q w => IH.out d' hd' B g q w)
          have hcc : C' ≤ 50000 := by have := HQE.out; omega
          have hww : W' ≤ 50000 := by have := HRE.out; omega
          have HDD := Lib.hid hd'
          clear hd' hd0
          go_wp2_with fail
          refine (spec_l20Name B g _ 0 _ HR.out (by omega) (by omega) (by omega)).mono ?_
          rintro e w5 ⟨n2, rfl, hn2, hr5, hg5⟩
          have HR5 := Lib.hid hr5
          have G45 := Lib.hid hg5
          clear hr5 hg5
          go_wp2_with fail
          refine (HI.out B g _ _ HR5.out (by have := HDD.out; omega)).mono ?_
          rintro e w6 ⟨Aa, ca, rsa, xsa, rfl, hpa, hwa, hr6, hg6⟩
          have HPA6 := Lib.hid hpa
          have hz45 := G45.out.size
          have hz56 := hg6.size
          have G4 := Lib.hid (grown_trans (grown_trans G45.out hg6) (World.grownBy_alloc w6 (.cells (ptCells 3 [] n2 Aa rsa.length ca none 0 0) 66) (some g)))
          have G6 := Lib.hid (World.grownBy_alloc w6 (.cells (ptCells 3 [] n2 Aa rsa.length ca none 0 0) 66) (some g))
          have HR6 := Lib.hid (hr6.keep ((Below.refl _ _).alloc (Nat.le_refl _) (.cells (ptCells 3 [] n2 Aa rsa.length ca none 0 0) 66)))
          have HXP := Lib.hid (heap_alloc_new w6 (.cells (ptCells 3 [] n2 Aa rsa.length ca none 0 0) 66))
          have hzb : w6.heap.size < (w6.alloc (.cells (ptCells 3 [] n2 Aa rsa.length ca none 0 0) 66)).heap.size := by simp
          have hg5 : g < w5.heap.size := by omega
          have hg66 : g < w6.heap.size := by omega
          clear hpa hr6 hg6
          go_upto_region 31 with fail
          generalize w6.alloc (.cells (ptCells 3 [] n2 Aa rsa.length ca none 0 0) 66) = wb at *
          go_wp2_with fail
          refine (spec_pick B g _ 2 _ HR6.out (by omega) (by omega) (by omega)).mono ?_
          rintro e w7 ⟨z2, rfl, hz2, hr7, hg7⟩
          have G4 := Lib.hid (grown_trans G4.out hg7)
          have G6 := Lib.hid (grown_trans G6.out hg7)
          have HXP := Lib.hid ((hg7.block w6.heap.size hzb (by simp; omega)).trans HXP.out)
          have hz67 : w6.heap.size < w7.heap.size := Nat.lt_of_lt_of_le hzb hg7.size
          have HR7 := Lib.hid hr7
          clear hr7 hg7
          by_cases hz20 : z2 = 0
          · subst hz20
            go_wp2_with fail
            refine (HI.out B g _ _ HR7.out (by have := HDD.out; omega)).mono ?_
            rintro e w8 ⟨Ab, cb, rsb, xsb, rfl, hpb, hwb, hr8, hg8⟩
            have hx8 := (hg8.block w6.heap.size hz67 (by simp; omega)).trans HXP.out
            obtain ⟨⟨y0, y1, y2, y3, y4⟩, y5, y6, y7, y8, y9⟩ := box_five hx8
            have HXV : Hid ((w8.setCell ⟨w6.heap.size, 4, none⟩ (.slice Ab rsb.length cb)).heap[w6.heap.size]? = some (.cells (ptCells 3 [] n2 Aa rsa.length ca Ab rsb.length cb) 66 (0, 0))) := cells_set hx8
            have G4 := Lib.hid (grown_set_new (grown_trans G4.out hg8) (p := ⟨w6.heap.size, 4, none⟩) (show w4.heap.size ≤ w6.heap.size by omega) (.slice Ab rsb.length cb))
            have G6 := Lib.hid (grown_set_new (grown_trans G6.out hg8) (p := ⟨w6.heap.size, 4, none⟩) (Nat.le_refl _) (.slice Ab rsb.length cb))
            have HRV := Lib.hid (hr8.frame (row := some w6.heap.size) (grown_set (grown_refl _ _) 4 (.slice Ab rsb.length cb)) (fun j hj => by injection hj with hj; omega))
            have HPB := Lib.hid (hpb.grow (row := some w6.heap.size) (grown_set (grown_refl _ _) 4 (.slice Ab rsb.length cb)) (fun j hj => by injection hj with hj; omega))
            have hz78 := hg8.size
            clear hpb hr8 hg8 hx8
            go_upto_region 33 with fail
            generalize w8.setCell ⟨w6.heap.size, 4, none⟩ (.slice Ab rsb.length cb) = wv at *
            clear y0 y1 y2 y3 y4 y5 y6 y7 y8 y9
            have HPA := Lib.hid (HPA6.out.grow G6.out (fun j hj => by injection hj with hj; omega))
            have hEL : InP wv (fun j => w4.heap.size ≤ j ∧ j < wv.heap.size) (.mk 3 [] n2 xsa xsb) (Raw.v ⟨3, [], n2, Aa, rsa.length, ca, Ab, rsb.length, cb⟩) := in_mk 3 [] n2 HPA.out.len HPB.out.len HPA.out.cap HPB.out.cap (HPA.out.rd.keep (fun _ _ => rfl) (fun j hj => ⟨by have := hj.1; omega, hj.2⟩)) (HPB.out.rd.keep (fun _ _ => rfl) (fun j hj => ⟨by have := hj.1; omega, hj.2⟩))
            have HWX : Hid (wt [.mk 3 [] n2 xsa xsb] ≤ 30 + 2 * W') := by show _ ≤ _; rw [wt_one]; simp only [List.length_nil]; omega
            obtain ⟨r2, hr2⟩ : ∃ r2 : Raw, r2 = ⟨3, [], n2, Aa, rsa.length, ca, Ab, rsb.length, cb⟩ := ⟨_, rfl⟩
            have HXV : Hid (wv.heap[w6.heap.size]? = some (.cells (ptCells r2.k r2.t r2.n r2.Ap r2.lp r2.cp r2.Ao r2.lo r2.co) 66 (0, 0))) := by show _ = _; rw [hr2]; exact HXV.out
            rw [← hr2] at hEL
            clear hr2
            obtain ⟨⟨f0, f1, f2, f3, f4⟩, -⟩ := box_five HXV.out
            have HA := Lib.hid ((Below.refl wv.heap.size wv).alloc (Nat.le_refl _) (.cells (ptCells r2.k r2.t r2.n r2.Ap r2.lp r2.cp r2.Ao r2.lo r2.co) 66))
            have HPV := Lib.hid ((HP.out.grow G4.out (fun j hj => by injection hj with hj; omega)).keep HA.out)
            have hzv := G4.out.size
            have hzw4 := HG.out.size
            have HIN : Hid (InP (wv.alloc (.cells (ptCells r2.k r2.t r2.n r2.Ap r2.lp r2.cp r2.Ao r2.lo r2.co) 66)) (fun j => w.heap.size ≤ j ∧ j < (wv.alloc (.cells (ptCells r2.k r2.t r2.n r2.Ap r2.lp r2.cp r2.Ao r2.lo r2.co) 66)).heap.size ∧ Value.ownBlock (.slice A rs.length c) ≠ some j) (.mk 3 [] n2 xsa xsb) r2.v) := InP.keep (fun p hp => HA.out.cell hp.2) (fun j hj => ⟨by have := hj.1; omega, by have := hj.2; simp; omega, fun e => by have := (HP.out.own.lt j e).2; have := hj.1; omega⟩) _ _ hEL
            have HRA := Lib.hid (HRV.out.keep HA.out)
            have HGA := Lib.hid (grown_trans (grown_trans HG.out G4.out) (World.grownBy_alloc wv (.cells (ptCells r2.k r2.t r2.n r2.Ap r2.lp r2.cp r2.Ao r2.lo r2.co) 66) (some g)))
            have HRW := Lib.hid (raw_row (us := [r2]) (heap_alloc_new wv (.cells (ptCells r2.k r2.t r2.n r2.Ap r2.lp r2.cp r2.Ao r2.lo r2.co) 66)) rfl)
            have hrl : rs.length ≤ 1000000 := by rw [HP.out.len]; have := len_wt xs; omega
            have hsw : w.heap.size ≤ (wv.alloc (.cells (ptCells r2.k r2.t r2.n r2.Ap r2.lp r2.cp r2.Ao r2.lo r2.co) 66)).heap.size := by simp; omega
            clear hEL
            go_wp2_with (at_builtin; refine app_parts_at rfl _ _ rfl w.heap.size A c rs [r2] (by rfl) HPV.out.own wv.heap.size 0 1 (by rfl) HRW.out (by simp) (by omega) hsw ?_; intro A9 c9 w9 ho9 hg9 hbk9)
            have HP := Lib.hid (HPV.out.app (ys := [(.mk 3 [] n2 xsa xsb)]) ho9 hg9 hbk9 (Els.cons HIN.out Els.nil))
            have HR := Lib.hid (HRA.out.frame hg9 (own_lt HPV.out.own hlt))
            have HG := Lib.hid (grown_own HGA.out hg9 (Nat.le_refl _) (ownN_row HPV.out.own))
            clear ho9 hg9 hbk9
            go_roundw
            case rel => exact ⟨k, _, _, _, _, _, by omega, by go_num, by first | rfl | simp, HP.out, by rw [wt_append]; have := HWX.out; have := HWT.out; have := HRE.out; omega, HR.out, by have := HQK.out; have := HQE.out; omega, HG.out⟩
            case measure => first | (simp [intOf]; done) | (simp [intOf]; omega)
          · have hz21 : ((z2 : Int) == 0) = false := by simp; omega
            clear hz20
            have HXV := HXP
            have HRV := HR7
            go_upto_region 33 with fail
            rename World => wv
            have HPA := Lib.hid (HPA6.out.grow G6.out (fun j hj => by injection hj with hj; omega))
            have hEL : InP wv (fun j => w4.heap.size ≤ j ∧ j < wv.heap.size) (.mk 3 [] n2 xsa []) (Raw.v ⟨3, [], n2, Aa, rsa.length, ca, none, 0, 0⟩) := in_mk (rsb := []) 3 [] n2 HPA.out.len rfl HPA.out.cap (Nat.le_refl _) (HPA.out.rd.keep (fun _ _ => rfl) (fun j hj => ⟨by have := hj.1; omega, hj.2⟩)) RdP.nil_
            have HWX : Hid (wt [.mk 3 [] n2 xsa []] ≤ 30 + 2 * W') := by show _ ≤ _; rw [wt_one, wt_nil]; simp only [List.length_nil]; omega
            obtain ⟨r2, hr2⟩ : ∃ r2 : Raw, r2 = ⟨3, [], n2, Aa, rsa.length, ca, none, 0, 0⟩ := ⟨_, rfl⟩
            have HXV : Hid (wv.heap[w6.heap.size]? = some (.cells (ptCells r2.k r2.t r2.n r2.Ap r2.lp r2.cp r2.Ao r2.lo r2.co) 66 (0, 0))) := by show _ = _; rw [hr2]; exact HXV.out
            rw [← hr2] at hEL
            clear hr2
            obtain ⟨⟨f0, f1, f2, f3, f4⟩, -⟩ := box_five HXV.out
            have HA := Lib.hid ((Below.refl wv.heap.size wv).alloc (Nat.le_refl _) (.cells (ptCells r2.k r2.t r2.n r2.Ap r2.lp r2.cp r2.Ao r2.lo r2.co) 66))
            have HPV := Lib.hid ((HP.out.grow G4.out (fun j hj => by injection hj with hj; omega)).keep HA.out)
            have hzv := G4.out.size
            have hzw4 := HG.out.size
            have HIN : Hid (InP (wv.alloc (.cells (ptCells r2.k r2.t r2.n r2.Ap r2.lp r2.cp r2.Ao r2.lo r2.co) 66)) (fun j => w.heap.size ≤ j ∧ j < (wv.alloc (.cells (ptCells r2.k r2.t r2.n r2.Ap r2.lp r2.cp r2.Ao r2.lo r2.co) 66)).heap.size ∧ Value.ownBlock (.slice A rs.length c) ≠ some j) (.mk 3 [] n2 xsa []) r2.v) := InP.keep (fun p hp => HA.out.cell hp.2) (fun j hj => ⟨by have := hj.1; omega, by have := hj.2; simp; omega, fun e => by have := (HP.out.own.lt j e).2; have := hj.1; omega⟩) _ _ hEL
            have HRA := Lib.hid (HRV.out.keep HA.out)
            have HGA := Lib.hid (grown_trans (grown_trans HG.out G4.out) (World.grownBy_alloc wv (.cells (ptCells r2.k r2.t r2.n r2.Ap r2.lp r2.cp r2.Ao r2.lo r2.co) 66) (some g)))
            have HRW := Lib.hid (raw_row (us := [r2]) (heap_alloc_new wv (.cells (ptCells r2.k r2.t r2.n r2.Ap r2.lp r2.cp r2.Ao r2.lo r2.co) 66)) rfl)
            have hrl : rs.length ≤ 1000000 := by rw [HP.out.len]; have := len_wt xs; omega
            have hsw : w.heap.size ≤ (wv.alloc (.cells (ptCells r2.k r2.t r2.n r2.Ap r2.lp r2.cp r2.Ao r2.lo r2.co) 66)).heap.size := by simp; omega
            clear hEL
            go_wp2_with (at_builtin; refine app_parts_at rfl _ _ rfl w.heap.size A c rs [r2] (by rfl) HPV.out.own wv.heap.size 0 1 (by rfl) HRW.out (by simp) (by omega) hsw ?_; intro A9 c9 w9 ho9 hg9 hbk9)
            have HP := Lib.hid (HPV.out.app (ys := [(.mk 3 [] n2 xsa [])]) ho9 hg9 hbk9 (Els.cons HIN.out Els.nil))
            have HR := Lib.hid (HRA.out.frame hg9 (own_lt HPV.out.own hlt))
            have HG := Lib.hid (grown_own HGA.out hg9 (Nat.le_refl _) (ownN_row HPV.out.own))
            clear ho9 hg9 hbk9
            go_roundw
            case rel => exact ⟨k, _, _, _, _, _, by omega, by go_num, by first | rfl | simp, HP.out, by rw [wt_append]; have := HWX.out; have := HWT.out; have := HRE.out; omega, HR.out, by have := HQK.out; have := HQE.out; omega, HG.out⟩
            case measure => first | (simp [intOf]; done) | (simp [intOf]; omega)
      ·
          by_cases hd0 : d = 0
          · have hdn : (0 < d) = False := by rw [hd0]; simp
            clear hd0
            go_wp2
            go_roundw
            case rel => exact ⟨k, _, _, _, _, _, by omega, by go_num, by first | rfl | simp, HP.out, by have := HWT.out; omega, HR.out, by have := HQK.out; have := HQE.out; omega, HG.out⟩
            case measure => first | (simp [intOf]; done) | (simp [intOf]; omega)
          obtain ⟨d', hd'⟩ : ∃ d', d = d' + 1 := ⟨d - 1, by omega⟩
          have hdn : (0 < d) = True := eq_true (by omega)
          have hdm : (d : Int) - 1 = (d' : Int) := by omega
          have HI := Lib.hid (fun B g q w => IH.out d' hd' B g q w)
          have hcc : C' ≤ 50000 := by have := HQE.out; omega
          have hww : W' ≤ 50000 := by have := HRE.out; omega
          have HDD := Lib.hid hd'
          clear hd' hd0
          go_wp2_with fail
          refine (spec_l20Name B g _ 0 _ HR.out (by omega) (by omega) (by omega)).mono ?_
          rintro e w5 ⟨n2, rfl, hn2, hr5, hg5⟩
          have hz45 := hg5.size
          have G4 := Lib.hid (grown_trans hg5 (World.grownBy_alloc w5 (.cells #[] 66) (some g)))
          have HR5 := Lib.hid (hr5.keep ((Below.refl _ _).alloc (Nat.le_refl _) (.cells #[] 66)))
          have hg5' : g < w5.heap.size := by omega
          clear hr5 hg5
          go_wp2_with fail
          refine (HI.out B g _ _ HR5.out (by have := HDD.out; omega)).mono ?_
          rintro e w6 ⟨Aa, ca, rsa, xsa, rfl, hpa, hwa, hr6, hg6⟩
          rw [hpa.len]
          have hz5 : (w5.alloc (.cells #[] 66)).heap.size = w5.heap.size + 1 := by simp
          have hzz := hg6.size
          have hPe : PLs w6 w5.heap.size (some ⟨w5.heap.size, 0, none⟩) 0 [] [] := PLs.grow ⟨own_empty w5, Els.nil⟩ hg6 (fun j hj => by injection hj with hj; omega)
          have HPUT := Lib.hid (spec_l20Put w5.heap.size (w5.heap.size + 1) (some ⟨w5.heap.size, 0, none⟩) 0 [] [] Aa ca xsa w6 hPe (by omega) (by omega) (fun j hj => by injection hj with hj; have h9 : w5.heap.size = j := hj; omega) (by rw [← hz5]; exact hpa.rd) (by rw [wt_nil]; omega))
          have HR6 := Lib.hid hr6
          have G4 := Lib.hid (grown_trans G4.out hg6)
          have hz56 : w5.heap.size < w6.heap.size := by omega
          clear hr6 hg6 hpa hPe hz5 hzz
          go_wp2_with fail
          refine HPUT.out.mono ?_
          rintro e wv ⟨Ab, cb, rsb, xsb, rfl, hpb, hwb, hgb, hob⟩
          have G4 := Lib.hid (grown_own G4.out hgb (show w4.heap.size ≤ w5.heap.size by omega) (fun j hj => by injection hj with hj; have h9 : w5.heap.size = j := hj; omega))
          have HRV := Lib.hid (HR6.out.frame hgb (fun j hj => by injection hj with hj; have h9 : w5.heap.size = j := hj; omega))
          have HPA := Lib.hid hpb
          rw [wt_nil, Nat.zero_add] at hwb
          have hzp := hgb.size
          clear hpb hgb hob HPUT
          have hEL : InP wv (fun j => w4.heap.size ≤ j ∧ j < wv.heap.size) (.mk 4 [] n2 xsb []) (Raw.v ⟨4, [], n2, Ab, rsb.length, cb, none, 0, 0⟩) := in_mk (rsb := []) 4 [] n2 HPA.out.len rfl HPA.out.cap (Nat.le_refl _) (HPA.out.rd.keep (fun _ _ => rfl) (fun j hj => ⟨by have := hj.1; omega, hj.2⟩)) RdP.nil_
          have HWX : Hid (wt [.mk 4 [] n2 xsb []] ≤ 30 + 2 * W') := by show _ ≤ _; rw [wt_one, wt_nil]; simp only [List.length_nil]; omega
          have HA := Lib.hid ((Below.refl wv.heap.size wv).alloc (Nat.le_refl _) (.cells (ptCells 4 [] n2 Ab rsb.length cb none 0 0) 66))
          have HPV := Lib.hid ((HP.out.grow G4.out (fun j hj => by injection hj with hj; omega)).keep HA.out)
          have hzv := G4.out.size
          have hzw4 := HG.out.size
          have HIN : Hid (InP (wv.alloc (.cells (ptCells 4 [] n2 Ab rsb.length cb none 0 0) 66)) (fun j => w.heap.size ≤ j ∧ j < (wv.alloc (.cells (ptCells 4 [] n2 Ab rsb.length cb none 0 0) 66)).heap.size ∧ Value.ownBlock (.slice A rs.length c) ≠ some j) (.mk 4 [] n2 xsb []) (Raw.v ⟨4, [], n2, Ab, rsb.length, cb, none, 0, 0⟩)) := InP.keep (fun p hp => HA.out.cell hp.2) (fun j hj => ⟨by have := hj.1; omega, by have := hj.2; simp; omega, fun e => by have := (HP.out.own.lt j e).2; have := hj.1; omega⟩) _ _ hEL
          have HRA := Lib.hid (HRV.out.keep HA.out)
          have HGA := Lib.hid (grown_trans (grown_trans HG.out G4.out) (World.grownBy_alloc wv (.cells (ptCells 4 [] n2 Ab rsb.length cb none 0 0) 66) (some g)))
          have HRW := Lib.hid (raw_row (us := [⟨4, [], n2, Ab, rsb.length, cb, none, 0, 0⟩]) (heap_alloc_new wv (.cells (ptCells 4 [] n2 Ab rsb.length cb none 0 0) 66)) rfl)
          have hrl : rs.length ≤ 1000000 := by rw [HP.out.len]; have := len_wt xs; omega
          have hsw : w.heap.size ≤ (wv.alloc (.cells (ptCells 4 [] n2 Ab rsb.length cb none 0 0) 66)).heap.size := by simp; omega
          clear hEL
          go_wp2_with (at_builtin; refine app_parts_at rfl _ _ rfl w.heap.size A c rs [⟨4, [], n2, Ab, rsb.length, cb, none, 0, 0⟩] (by rfl) HPV.out.own wv.heap.size 0 1 (by rfl) HRW.out (by simp) (by omega) hsw ?_; intro A9 c9 w9 ho9 hg9 hbk9)
          have HP := Lib.hid (HPV.out.app (ys := [.mk 4 [] n2 xsb []]) ho9 hg9 hbk9 (Els.cons HIN.out Els.nil))
          have HR := Lib.hid (HRA.out.frame hg9 (own_lt HPV.out.own hlt))
          have HG := Lib.hid (grown_own HGA.out hg9 (Nat.le_refl _) (ownN_row HPV.out.own))
          clear ho9 hg9 hbk9
          go_roundw
          case rel => exact ⟨k, _, _, _, _, _, by omega, by go_num, by first | rfl | simp, HP.out, by rw [wt_append]; have := HWX.out; have := HWT.out; have := HRE.out; omega, HR.out, by have := HQK.out; have := HQE.out; omega, HG.out⟩
          case measure => first | (simp [intOf]; done) | (simp [intOf]; omega)
def Wm : Nat → Nat
  | 0 => 300
  | d + 1 => 3 * (100 + 2 * Wm d)
def Cm : Nat → Nat
  | 0 => 151
  | d + 1 => 1 + 3 * (50 + 2 * Cm d)
theorem spec_l20Parts0 (B g q : Nat) (w : World) (h : Rdr w B g q) (hq : q ≤ 400000000 - 0 * 100000000) : Calls Try.prog 40 #[.pointer (some ⟨g, 0, none⟩), .int .i64 ((0 : Nat) : Int)] w (DrnP w B g q (Wm 0) (Cm 0)) :=
  spec_l20Parts_round 0 0 0 100 50 rfl rfl (by omega) (by omega) (by omega) (fun _ e => absurd e (by omega)) B g q w h hq
theorem spec_l20Parts1 (B g q : Nat) (w : World) (h : Rdr w B g q) (hq : q ≤ 400000000 - 1 * 100000000) : Calls Try.prog 40 #[.pointer (some ⟨g, 0, none⟩), .int .i64 ((1 : Nat) : Int)] w (DrnP w B g q (Wm 1) (Cm 1)) :=
  spec_l20Parts_round 1 (Wm 0) (Cm 0) (100 + 2 * Wm 0) (50 + 2 * Cm 0) rfl rfl (by decide) (by decide) (by omega) (fun d' e => by have e2 : d' = 0 := (Nat.succ.inj e).symm; subst e2; exact spec_l20Parts0) B g q w h hq
theorem spec_l20Parts (B g q : Nat) (w : World) (h : Rdr w B g q) (hq : q ≤ 200000000) : Calls Try.prog 40 #[.pointer (some ⟨g, 0, none⟩), .int .i64 2] w (DrnP w B g q 12900 7000) := by
  have h2 := spec_l20Parts_round 2 (Wm 1) (Cm 1) (100 + 2 * Wm 1) (50 + 2 * Cm 1) rfl rfl (by decide) (by decide) (by omega) (fun d' e => by have e2 : d' = 1 := (Nat.succ.inj e).symm; subst e2; exact spec_l20Parts1) B g q w h (by omega)
  refine h2.mono ?_
  rintro e w' ⟨A, c, rs, xs, he, hp, hw, hr, hg⟩
  exact ⟨A, c, rs, xs, he, hp, Nat.le_trans hw (by decide), hr.more (Nat.add_le_add_left (by decide) q), hg⟩
end Go.Proofs.Ytginghjgfippiaa
