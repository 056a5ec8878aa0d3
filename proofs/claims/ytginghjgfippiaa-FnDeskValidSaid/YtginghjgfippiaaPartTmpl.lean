/- Drawn templates: a walk. -/
import Derived.Test.YtginghjgfippiaaPartDraw
namespace Go.Proofs.Ytginghjgfippiaa
open Go.RowKit

theorem rdp_lit {w : World} {S : Nat → Prop} {b : Nat} {k : Int} {t n : Tx} {Ap Ao : Option Addr} {cp co : Nat} {xs ys : List Pt} {ty : TypeId} (hS : S b) (h : w.heap[b]? = some (.cells (ptCells k t n Ap xs.length cp Ao ys.length co) ty (0, 0))) (hx : InP w S (.mk k t n xs ys) (ptV k t n Ap xs.length cp Ao ys.length co)) : RdP w S (some ⟨b, 0, none⟩) [.mk k t n xs ys] := fun _ => by
  obtain ⟨⟨y0, y1, y2, y3, y4⟩, -⟩ := box_five h
  refine ⟨b, 0, rfl, hS, ?_⟩
  simp only [InPs]
  exact ⟨⟨_, ⟨_, _, _, _, _, rfl, y0, y1, y2, y3, y4⟩, hx⟩, trivial⟩
theorem heap_two {w : World} (o o' : Obj) : ((w.alloc o).alloc o').heap[w.heap.size]? = some o := (heap_alloc_old (w.alloc o) o' (by simp)).trans (heap_alloc_new w o)
theorem heap_two2 {w : World} (o o' : Obj) : ((w.alloc o).alloc o').heap[w.heap.size + 1]? = some o' := by
  have h := heap_alloc_new (w.alloc o) o'
  simpa using h
theorem size_two {w : World} (o o' : Obj) : ((w.alloc o).alloc o').heap.size = w.heap.size + 2 := by simp
set_option maxRecDepth 20000 in
set_option maxHeartbeats 8000000 in
theorem spec_l20Template (B g q : Nat) (n : Int) (w : World) (h : Rdr w B g q) (hq : q ≤ 200000000) (hn : n ≤ 1000000000) (hn0 : -1000000000 ≤ n) : Calls Try.prog 21 #[.pointer (some ⟨g, 0, none⟩), .int .i64 n] w (DrnP w B g q 13100 7010) := by
  have hlt := h.lt
  have H := Lib.hid h
  clear h
  go_enter Try.func21, Try.ntmps21
  go_wp2_with fail
  refine (spec_l20Parts B g q w H.out hq).mono ?_
  rintro e wv ⟨A, c, rs, xs, rfl, hp, hwt, hr, hg⟩
  have HP := Lib.hid hp
  have HR := Lib.hid hr
  have HG := Lib.hid hg
  clear hp hr hg H
  go_wp2_with fail
  refine (spec_odd B g _ n wv HR.out (by omega) hn hn0).mono ?_
  rintro e w1 ⟨bo, rfl, hr1, hg1⟩
  have HP := Lib.hid (HP.out.grow hg1 (fun j hj => by injection hj with hj; omega))
  have HR := Lib.hid hr1
  have HG := Lib.hid (grown_trans HG.out hg1)
  clear hr1 hg1
  cases bo
  · go_wp2
    go_ret
    exact ⟨A, c, rs, xs, rfl, HP.out, by omega, HR.out.more (by omega), HG.out⟩
  · go_wp2_with fail
    refine (spec_pick B g _ 9 _ HR.out (by omega) (by omega) (by omega)).mono ?_
    rintro e wv ⟨z, rfl, hz, hr4, hg4⟩
    have HP := Lib.hid (HP.out.grow hg4 (fun j hj => by injection hj with hj; omega))
    have HR := Lib.hid hr4
    have HG := Lib.hid (grown_trans HG.out hg4)
    clear hr4 hg4
    have hz9 : z = 0 ∨ z = 1 ∨ z = 2 ∨ z = 3 ∨ z = 4 ∨ z = 5 ∨ z = 6 ∨ z = 7 ∨ z = 8 := by omega
    clear hz
    rcases hz9 with rfl | rfl | rfl | rfl | rfl | rfl | rfl | rfl | rfl
    ·
      go_wp2_with fail
      refine (spec_l20Add [60, 97] w.heap.size _ _ _ _ _ HP.out (by have := HG.out.size; omega) (by omega) (by simp)).mono ?_
      rintro e wv ⟨A6, c6, rs6, xs6, rfl, hp6, hw6, hg6, hor6⟩
      have HR := Lib.hid (HR.out.frame hg6 (own_lt HP.out.own hlt))
      have HG := Lib.hid (grown_own HG.out hg6 (Nat.le_refl _) (ownN_row HP.out.own))
      have HP := Lib.hid hp6
      simp only [List.length_cons, List.length_nil] at hw6
      clear hp6 hg6 hor6
      go_wp2
      go_ret
      exact ⟨_, _, _, _, (by first | rfl | (simp; done)), HP.out, by omega, HR.out.more (by omega), HG.out⟩
    ·
      go_wp2_with fail
      refine (spec_l20Add [60] w.heap.size _ _ _ _ _ HP.out (by have := HG.out.size; omega) (by omega) (by simp)).mono ?_
      rintro e wv ⟨A6, c6, rs6, xs6, rfl, hp6, hw6, hg6, hor6⟩
      have HR := Lib.hid (HR.out.frame hg6 (own_lt HP.out.own hlt))
      have HG := Lib.hid (grown_own HG.out hg6 (Nat.le_refl _) (ownN_row HP.out.own))
      have HP := Lib.hid hp6
      simp only [List.length_cons, List.length_nil] at hw6
      clear hp6 hg6 hor6
      have HB := Lib.hid ((Below.refl wv.heap.size wv).alloc (Nat.le_refl _) (.cells (ptCells 2 [] [97] none 0 0 none 0 0) 66))
      have HRW := Lib.hid (raw_row (us := [⟨2, [], [97], none, 0, 0, none, 0, 0⟩]) (heap_alloc_new wv (.cells (ptCells 2 [] [97] none 0 0 none 0 0) 66)) rfl)
      have hrl : rs6.length ≤ 1000000 := by rw [HP.out.len]; have := len_wt xs6; omega
      have HPA := Lib.hid (HP.out.keep HB.out)
      have HRA := Lib.hid (HR.out.keep HB.out)
      have HGA := Lib.hid (grown_trans HG.out (below_grownBy HB.out (some g)))
      have hsw : w.heap.size ≤ (wv.alloc (.cells (ptCells 2 [] [97] none 0 0 none 0 0) 66)).heap.size := HGA.out.size
      have hsv := HG.out.size
      have hql : ∀ j, Value.ownBlock (.slice A6 rs6.length c6) = some j → j < wv.heap.size := fun j hj => (HP.out.own.lt j hj).2
      go_wp2_with (at_builtin; refine app_parts_at rfl _ _ rfl w.heap.size A6 c6 rs6 [⟨2, [], [97], none, 0, 0, none, 0, 0⟩] (by rfl) HPA.out.own wv.heap.size 0 1 (by rfl) HRW.out (by simp) (by omega) hsw ?_; intro A9 c9 w9 ho9 hg9 hbk9)
      have HP := Lib.hid (HPA.out.app (ys := [.mk 2 [] [97] [] []]) ho9 hg9 hbk9 (Els.cons (raw_in 2 [] [97]) Els.nil))
      have HR := Lib.hid (HRA.out.frame hg9 (own_lt HPA.out.own hlt))
      have HG := Lib.hid (grown_own HGA.out hg9 (Nat.le_refl _) (ownN_row HPA.out.own))
      clear ho9 hg9 hbk9 hql
      have h7 : rs6.length + 1 = (rs6 ++ [(⟨2, [], [97], none, 0, 0, none, 0, 0⟩ : Raw)]).length := by simp
      have hw7 : wt (xs6 ++ [.mk 2 [] [97] [] []]) ≤ 13000 := by rw [wt_append, wt_one, wt_nil]; simp only [List.length_nil, List.length_cons]; omega
      rw [h7]
      generalize rs6 ++ [(⟨2, [], [97], none, 0, 0, none, 0, 0⟩ : Raw)] = rs7 at *
      generalize xs6 ++ [.mk 2 [] [97] [] []] = xs7 at *
      clear h7
      go_wp2_with fail
      refine (spec_l20Add [62] w.heap.size _ _ _ _ _ HP.out (by have := HG.out.size; omega) (by omega) (by simp)).mono ?_
      rintro e wy ⟨A8, c8, rs8, xs8, rfl, hp8, hw8, hg8, hor8⟩
      have HR := Lib.hid (HR.out.frame hg8 (own_lt HP.out.own hlt))
      have HG := Lib.hid (grown_own HG.out hg8 (Nat.le_refl _) (ownN_row HP.out.own))
      have HP := Lib.hid hp8
      simp only [List.length_cons, List.length_nil] at hw8
      clear hp8 hg8 hor8
      go_wp2
      go_ret
      exact ⟨_, _, _, _, (by first | rfl | (simp; done)), HP.out, by omega, HR.out.more (by omega), HG.out⟩
    ·
      go_wp2_with fail
      refine (spec_l20Add [60, 97, 32, 111, 110, 99, 108, 105, 99, 107, 61, 34] w.heap.size _ _ _ _ _ HP.out (by have := HG.out.size; omega) (by omega) (by simp)).mono ?_
      rintro e wv ⟨A6, c6, rs6, xs6, rfl, hp6, hw6, hg6, hor6⟩
      have HR := Lib.hid (HR.out.frame hg6 (own_lt HP.out.own hlt))
      have HG := Lib.hid (grown_own HG.out hg6 (Nat.le_refl _) (ownN_row HP.out.own))
      have HP := Lib.hid hp6
      simp only [List.length_cons, List.length_nil] at hw6
      clear hp6 hg6 hor6
      have HB := Lib.hid ((Below.refl wv.heap.size wv).alloc (Nat.le_refl _) (.cells (ptCells 2 [] [97] none 0 0 none 0 0) 66))
      have HRW := Lib.hid (raw_row (us := [⟨2, [], [97], none, 0, 0, none, 0, 0⟩]) (heap_alloc_new wv (.cells (ptCells 2 [] [97] none 0 0 none 0 0) 66)) rfl)
      have hrl : rs6.length ≤ 1000000 := by rw [HP.out.len]; have := len_wt xs6; omega
      have HPA := Lib.hid (HP.out.keep HB.out)
      have HRA := Lib.hid (HR.out.keep HB.out)
      have HGA := Lib.hid (grown_trans HG.out (below_grownBy HB.out (some g)))
      have hsw : w.heap.size ≤ (wv.alloc (.cells (ptCells 2 [] [97] none 0 0 none 0 0) 66)).heap.size := HGA.out.size
      have hsv := HG.out.size
      have hql : ∀ j, Value.ownBlock (.slice A6 rs6.length c6) = some j → j < wv.heap.size := fun j hj => (HP.out.own.lt j hj).2
      go_wp2_with (at_builtin; refine app_parts_at rfl _ _ rfl w.heap.size A6 c6 rs6 [⟨2, [], [97], none, 0, 0, none, 0, 0⟩] (by rfl) HPA.out.own wv.heap.size 0 1 (by rfl) HRW.out (by simp) (by omega) hsw ?_; intro A9 c9 w9 ho9 hg9 hbk9)
      have HP := Lib.hid (HPA.out.app (ys := [.mk 2 [] [97] [] []]) ho9 hg9 hbk9 (Els.cons (raw_in 2 [] [97]) Els.nil))
      have HR := Lib.hid (HRA.out.frame hg9 (own_lt HPA.out.own hlt))
      have HG := Lib.hid (grown_own HGA.out hg9 (Nat.le_refl _) (ownN_row HPA.out.own))
      clear ho9 hg9 hbk9 hql
      have h7 : rs6.length + 1 = (rs6 ++ [(⟨2, [], [97], none, 0, 0, none, 0, 0⟩ : Raw)]).length := by simp
      have hw7 : wt (xs6 ++ [.mk 2 [] [97] [] []]) ≤ 13000 := by rw [wt_append, wt_one, wt_nil]; simp only [List.length_nil, List.length_cons]; omega
      rw [h7]
      generalize rs6 ++ [(⟨2, [], [97], none, 0, 0, none, 0, 0⟩ : Raw)] = rs7 at *
      generalize xs6 ++ [.mk 2 [] [97] [] []] = xs7 at *
      clear h7
      go_wp2_with fail
      refine (spec_l20Add [34, 62] w.heap.size _ _ _ _ _ HP.out (by have := HG.out.size; omega) (by omega) (by simp)).mono ?_
      rintro e wy ⟨A8, c8, rs8, xs8, rfl, hp8, hw8, hg8, hor8⟩
      have HR := Lib.hid (HR.out.frame hg8 (own_lt HP.out.own hlt))
      have HG := Lib.hid (grown_own HG.out hg8 (Nat.le_refl _) (ownN_row HP.out.own))
      have HP := Lib.hid hp8
      simp only [List.length_cons, List.length_nil] at hw8
      clear hp8 hg8 hor8
      go_wp2
      go_ret
      exact ⟨_, _, _, _, (by first | rfl | (simp; done)), HP.out, by omega, HR.out.more (by omega), HG.out⟩
    ·
      have HB := Lib.hid ((((Below.refl wv.heap.size wv).alloc (Nat.le_refl _) (.cells (ptCells 1 [60, 97, 32, 116, 105, 116, 108, 101, 61, 34] [] none 0 0 none 0 0) 66)).alloc (by simp) (.cells (ptCells 1 [60, 98, 32, 116, 105, 116, 108, 101, 61, 34] [] none 0 0 none 0 0) 66)).alloc (by simp; try omega) (.cells (ptCells 3 [] [102, 108, 97, 103] (some ⟨wv.heap.size, 0, none⟩) 1 1 (some ⟨wv.heap.size + 1, 0, none⟩) 1 1) 66))
      have hcx : ((wv.alloc (.cells (ptCells 1 [60, 97, 32, 116, 105, 116, 108, 101, 61, 34] [] none 0 0 none 0 0) 66)).alloc (.cells (ptCells 1 [60, 98, 32, 116, 105, 116, 108, 101, 61, 34] [] none 0 0 none 0 0) 66)).heap.size = wv.heap.size + 2 := size_two _ _
      have hcl := heap_alloc_new ((wv.alloc (.cells (ptCells 1 [60, 97, 32, 116, 105, 116, 108, 101, 61, 34] [] none 0 0 none 0 0) 66)).alloc (.cells (ptCells 1 [60, 98, 32, 116, 105, 116, 108, 101, 61, 34] [] none 0 0 none 0 0) 66)) (.cells (ptCells 3 [] [102, 108, 97, 103] (some ⟨wv.heap.size, 0, none⟩) 1 1 (some ⟨wv.heap.size + 1, 0, none⟩) 1 1) 66)
      rw [hcx] at hcl
      have HRW := Lib.hid (raw_row (us := [⟨3, [], [102, 108, 97, 103], some ⟨wv.heap.size, 0, none⟩, 1, 1, some ⟨wv.heap.size + 1, 0, none⟩, 1, 1⟩]) hcl rfl)
      have ha : (((wv.alloc (.cells (ptCells 1 [60, 97, 32, 116, 105, 116, 108, 101, 61, 34] [] none 0 0 none 0 0) 66)).alloc (.cells (ptCells 1 [60, 98, 32, 116, 105, 116, 108, 101, 61, 34] [] none 0 0 none 0 0) 66)).alloc (.cells (ptCells 3 [] [102, 108, 97, 103] (some ⟨wv.heap.size, 0, none⟩) 1 1 (some ⟨wv.heap.size + 1, 0, none⟩) 1 1) 66)).heap[wv.heap.size]? = some (.cells (ptCells 1 [60, 97, 32, 116, 105, 116, 108, 101, 61, 34] [] none 0 0 none 0 0) 66) := (heap_alloc_old _ _ (by rw [hcx]; omega)).trans (heap_two _ _)
      have hb : (((wv.alloc (.cells (ptCells 1 [60, 97, 32, 116, 105, 116, 108, 101, 61, 34] [] none 0 0 none 0 0) 66)).alloc (.cells (ptCells 1 [60, 98, 32, 116, 105, 116, 108, 101, 61, 34] [] none 0 0 none 0 0) 66)).alloc (.cells (ptCells 3 [] [102, 108, 97, 103] (some ⟨wv.heap.size, 0, none⟩) 1 1 (some ⟨wv.heap.size + 1, 0, none⟩) 1 1) 66)).heap[wv.heap.size + 1]? = some (.cells (ptCells 1 [60, 98, 32, 116, 105, 116, 108, 101, 61, 34] [] none 0 0 none 0 0) 66) := (heap_alloc_old _ _ (by rw [hcx]; omega)).trans (heap_two2 _ _)
      have HIN : Hid (∀ S : Nat → Prop, S wv.heap.size → S (wv.heap.size + 1) → InP (((wv.alloc (.cells (ptCells 1 [60, 97, 32, 116, 105, 116, 108, 101, 61, 34] [] none 0 0 none 0 0) 66)).alloc (.cells (ptCells 1 [60, 98, 32, 116, 105, 116, 108, 101, 61, 34] [] none 0 0 none 0 0) 66)).alloc (.cells (ptCells 3 [] [102, 108, 97, 103] (some ⟨wv.heap.size, 0, none⟩) 1 1 (some ⟨wv.heap.size + 1, 0, none⟩) 1 1) 66)) S (.mk 3 [] [102, 108, 97, 103] [(.mk 1 [60, 97, 32, 116, 105, 116, 108, 101, 61, 34] [] [] [])] [(.mk 1 [60, 98, 32, 116, 105, 116, 108, 101, 61, 34] [] [] [])]) (Raw.v ⟨3, [], [102, 108, 97, 103], some ⟨wv.heap.size, 0, none⟩, 1, 1, some ⟨wv.heap.size + 1, 0, none⟩, 1, 1⟩)) := fun S h1 h2 => InP.mk (xs := [(.mk 1 [60, 97, 32, 116, 105, 116, 108, 101, 61, 34] [] [] [])]) (ys := [(.mk 1 [60, 98, 32, 116, 105, 116, 108, 101, 61, 34] [] [] [])]) (Nat.le_refl _) (Nat.le_refl _) (rdp_lit (xs := []) (ys := []) h1 ha (raw_in _ _ _)) (rdp_lit (xs := []) (ys := []) h2 hb (raw_in _ _ _))
      clear hcl ha hb hcx
      have hrl : rs.length ≤ 1000000 := by rw [HP.out.len]; have := len_wt xs; omega
      have HPA := Lib.hid (HP.out.keep HB.out)
      have HRA := Lib.hid (HR.out.keep HB.out)
      have HGA := Lib.hid (grown_trans HG.out (below_grownBy HB.out (some g)))
      have hsw : w.heap.size ≤ (((wv.alloc (.cells (ptCells 1 [60, 97, 32, 116, 105, 116, 108, 101, 61, 34] [] none 0 0 none 0 0) 66)).alloc (.cells (ptCells 1 [60, 98, 32, 116, 105, 116, 108, 101, 61, 34] [] none 0 0 none 0 0) 66)).alloc (.cells (ptCells 3 [] [102, 108, 97, 103] (some ⟨wv.heap.size, 0, none⟩) 1 1 (some ⟨wv.heap.size + 1, 0, none⟩) 1 1) 66)).heap.size := HGA.out.size
      have hsv := HG.out.size
      have hql : ∀ j, Value.ownBlock (.slice A rs.length c) = some j → j < wv.heap.size := fun j hj => (HP.out.own.lt j hj).2
      go_wp2_with (at_builtin; refine app_parts_at rfl _ _ rfl w.heap.size A c rs [⟨3, [], [102, 108, 97, 103], some ⟨wv.heap.size, 0, none⟩, 1, 1, some ⟨wv.heap.size + 1, 0, none⟩, 1, 1⟩] (by rfl) HPA.out.own (wv.heap.size + 2) 0 1 (by rfl) HRW.out (by simp) (by omega) hsw ?_; intro A9 c9 w9 ho9 hg9 hbk9)
      have HP := Lib.hid (HPA.out.app (ys := [.mk 3 [] [102, 108, 97, 103] [(.mk 1 [60, 97, 32, 116, 105, 116, 108, 101, 61, 34] [] [] [])] [(.mk 1 [60, 98, 32, 116, 105, 116, 108, 101, 61, 34] [] [] [])]]) ho9 hg9 hbk9 (Els.cons (HIN.out _ ⟨by omega, by simp; try omega, fun e => by have := hql _ e; omega⟩ ⟨by omega, by simp; try omega, fun e => by have := hql _ e; omega⟩) Els.nil))
      have HR := Lib.hid (HRA.out.frame hg9 (own_lt HPA.out.own hlt))
      have HG := Lib.hid (grown_own HGA.out hg9 (Nat.le_refl _) (ownN_row HPA.out.own))
      clear ho9 hg9 hbk9 hql
      go_wp2
      go_ret
      exact ⟨_, _, _, _, (by first | rfl | (simp; done)), HP.out, by rw [wt_append, wt_one, wt_one, wt_one, wt_nil]; simp only [List.length_nil, List.length_cons]; omega, HR.out.more (by omega), HG.out⟩
    ·
      have HB := Lib.hid (((Below.refl wv.heap.size wv).alloc (Nat.le_refl _) (.cells (ptCells 1 [60, 97, 32, 116, 105, 116, 108, 101, 61, 34] [] none 0 0 none 0 0) 66)).alloc (by simp; try omega) (.cells (ptCells 4 [] [108, 105, 115, 116] (some ⟨wv.heap.size, 0, none⟩) 1 1 none 0 0) 66))
      have HRW := Lib.hid (raw_row (us := [⟨4, [], [108, 105, 115, 116], some ⟨wv.heap.size, 0, none⟩, 1, 1, none, 0, 0⟩]) (heap_two2 (w := wv) (.cells (ptCells 1 [60, 97, 32, 116, 105, 116, 108, 101, 61, 34] [] none 0 0 none 0 0) 66) (.cells (ptCells 4 [] [108, 105, 115, 116] (some ⟨wv.heap.size, 0, none⟩) 1 1 none 0 0) 66)) rfl)
      have HIN : Hid (∀ S : Nat → Prop, S wv.heap.size → InP ((wv.alloc (.cells (ptCells 1 [60, 97, 32, 116, 105, 116, 108, 101, 61, 34] [] none 0 0 none 0 0) 66)).alloc (.cells (ptCells 4 [] [108, 105, 115, 116] (some ⟨wv.heap.size, 0, none⟩) 1 1 none 0 0) 66)) S (.mk 4 [] [108, 105, 115, 116] [(.mk 1 [60, 97, 32, 116, 105, 116, 108, 101, 61, 34] [] [] [])] []) (Raw.v ⟨4, [], [108, 105, 115, 116], some ⟨wv.heap.size, 0, none⟩, 1, 1, none, 0, 0⟩)) := fun S h1 => InP.mk (xs := [(.mk 1 [60, 97, 32, 116, 105, 116, 108, 101, 61, 34] [] [] [])]) (ys := []) (Nat.le_refl _) (Nat.le_refl _) (rdp_lit (xs := []) (ys := []) h1 (heap_two _ _) (raw_in _ _ _)) RdP.nil_
      have hrl : rs.length ≤ 1000000 := by rw [HP.out.len]; have := len_wt xs; omega
      have HPA := Lib.hid (HP.out.keep HB.out)
      have HRA := Lib.hid (HR.out.keep HB.out)
      have HGA := Lib.hid (grown_trans HG.out (below_grownBy HB.out (some g)))
      have hsw : w.heap.size ≤ ((wv.alloc (.cells (ptCells 1 [60, 97, 32, 116, 105, 116, 108, 101, 61, 34] [] none 0 0 none 0 0) 66)).alloc (.cells (ptCells 4 [] [108, 105, 115, 116] (some ⟨wv.heap.size, 0, none⟩) 1 1 none 0 0) 66)).heap.size := HGA.out.size
      have hsv := HG.out.size
      have hql : ∀ j, Value.ownBlock (.slice A rs.length c) = some j → j < wv.heap.size := fun j hj => (HP.out.own.lt j hj).2
      go_wp2_with (at_builtin; refine app_parts_at rfl _ _ rfl w.heap.size A c rs [⟨4, [], [108, 105, 115, 116], some ⟨wv.heap.size, 0, none⟩, 1, 1, none, 0, 0⟩] (by rfl) HPA.out.own (wv.heap.size + 1) 0 1 (by rfl) HRW.out (by simp) (by omega) hsw ?_; intro A9 c9 w9 ho9 hg9 hbk9)
      have HP := Lib.hid (HPA.out.app (ys := [.mk 4 [] [108, 105, 115, 116] [(.mk 1 [60, 97, 32, 116, 105, 116, 108, 101, 61, 34] [] [] [])] []]) ho9 hg9 hbk9 (Els.cons (HIN.out _ ⟨by omega, by simp; try omega, fun e => by have := hql _ e; omega⟩) Els.nil))
      have HR := Lib.hid (HRA.out.frame hg9 (own_lt HPA.out.own hlt))
      have HG := Lib.hid (grown_own HGA.out hg9 (Nat.le_refl _) (ownN_row HPA.out.own))
      clear ho9 hg9 hbk9 hql
      go_wp2
      go_ret
      exact ⟨_, _, _, _, (by first | rfl | (simp; done)), HP.out, by rw [wt_append, wt_one, wt_one, wt_nil]; simp only [List.length_nil, List.length_cons]; omega, HR.out.more (by omega), HG.out⟩
    ·
      have HB := Lib.hid ((Below.refl wv.heap.size wv).alloc (Nat.le_refl _) (.cells (ptCells 1 [97, 123, 123, 98] [] none 0 0 none 0 0) 66))
      have HRW := Lib.hid (raw_row (us := [⟨1, [97, 123, 123, 98], [], none, 0, 0, none, 0, 0⟩]) (heap_alloc_new wv (.cells (ptCells 1 [97, 123, 123, 98] [] none 0 0 none 0 0) 66)) rfl)
      have hrl : rs.length ≤ 1000000 := by rw [HP.out.len]; have := len_wt xs; omega
      have HPA := Lib.hid (HP.out.keep HB.out)
      have HRA := Lib.hid (HR.out.keep HB.out)
      have HGA := Lib.hid (grown_trans HG.out (below_grownBy HB.out (some g)))
      have hsw : w.heap.size ≤ (wv.alloc (.cells (ptCells 1 [97, 123, 123, 98] [] none 0 0 none 0 0) 66)).heap.size := HGA.out.size
      have hsv := HG.out.size
      have hql : ∀ j, Value.ownBlock (.slice A rs.length c) = some j → j < wv.heap.size := fun j hj => (HP.out.own.lt j hj).2
      go_wp2_with (at_builtin; refine app_parts_at rfl _ _ rfl w.heap.size A c rs [⟨1, [97, 123, 123, 98], [], none, 0, 0, none, 0, 0⟩] (by rfl) HPA.out.own wv.heap.size 0 1 (by rfl) HRW.out (by simp) (by omega) hsw ?_; intro A9 c9 w9 ho9 hg9 hbk9)
      have HP := Lib.hid (HPA.out.app (ys := [.mk 1 [97, 123, 123, 98] [] [] []]) ho9 hg9 hbk9 (Els.cons (raw_in 1 [97, 123, 123, 98] []) Els.nil))
      have HR := Lib.hid (HRA.out.frame hg9 (own_lt HPA.out.own hlt))
      have HG := Lib.hid (grown_own HGA.out hg9 (Nat.le_refl _) (ownN_row HPA.out.own))
      clear ho9 hg9 hbk9 hql
      go_wp2
      go_ret
      exact ⟨_, _, _, _, (by first | rfl | (simp; done)), HP.out, by rw [wt_append, wt_one, wt_nil]; simp only [List.length_nil, List.length_cons]; omega, HR.out.more (by omega), HG.out⟩
    ·
      go_wp2_with fail
      refine (spec_pick B g _ 3 (wv.alloc (.cells #[sv [105, 102], sv [65], sv [101, 110, 100]] 9)) (HR.out.keep ((Below.refl _ _).alloc (Nat.le_refl _) _)) (by omega) (by omega) (by omega)).mono ?_
      rintro e w5 ⟨k, rfl, hk, hr5, hg5⟩
      have hlit : w5.heap[wv.heap.size]? = _ := (hg5.block wv.heap.size (by simp) (by simp; have := HG.out.size; omega)).trans (heap_alloc_new wv _)
      obtain ⟨x, hxc, hx⟩ := lit_str (k := k) (B := 20) (n := 3) hlit (by decide +kernel) (by omega)
      have hk' : k < 3 := by omega
      have hg6 := grown_trans (World.grownBy_alloc wv (.cells #[sv [105, 102], sv [65], sv [101, 110, 100]] 9) (some g)) hg5
      have HP := Lib.hid (HP.out.grow hg6 (fun j hj => by injection hj with hj; omega))
      have HR := Lib.hid hr5
      have HG := Lib.hid (grown_trans HG.out hg6)
      clear hlit hr5 hg5 hg6 hk
      have HB := Lib.hid ((Below.refl w5.heap.size w5).alloc (Nat.le_refl _) (.cells (ptCells 2 [] x none 0 0 none 0 0) 66))
      have HRW := Lib.hid (raw_row (us := [⟨2, [], x, none, 0, 0, none, 0, 0⟩]) (heap_alloc_new w5 (.cells (ptCells 2 [] x none 0 0 none 0 0) 66)) rfl)
      have hrl : rs.length ≤ 1000000 := by rw [HP.out.len]; have := len_wt xs; omega
      have HPA := Lib.hid (HP.out.keep HB.out)
      have HRA := Lib.hid (HR.out.keep HB.out)
      have HGA := Lib.hid (grown_trans HG.out (below_grownBy HB.out (some g)))
      have hsw : w.heap.size ≤ (w5.alloc (.cells (ptCells 2 [] x none 0 0 none 0 0) 66)).heap.size := HGA.out.size
      have hsv := HG.out.size
      have hql : ∀ j, Value.ownBlock (.slice A rs.length c) = some j → j < w5.heap.size := fun j hj => (HP.out.own.lt j hj).2
      go_wp2_with (at_builtin; refine app_parts_at rfl _ _ rfl w.heap.size A c rs [⟨2, [], x, none, 0, 0, none, 0, 0⟩] (by rfl) HPA.out.own w5.heap.size 0 1 (by rfl) HRW.out (by simp) (by omega) hsw ?_; intro A9 c9 w9 ho9 hg9 hbk9)
      have HP := Lib.hid (HPA.out.app (ys := [.mk 2 [] x [] []]) ho9 hg9 hbk9 (Els.cons (raw_in 2 [] x) Els.nil))
      have HR := Lib.hid (HRA.out.frame hg9 (own_lt HPA.out.own hlt))
      have HG := Lib.hid (grown_own HGA.out hg9 (Nat.le_refl _) (ownN_row HPA.out.own))
      clear ho9 hg9 hbk9 hql
      go_wp2
      go_ret
      exact ⟨_, _, _, _, (by first | rfl | (simp; done)), HP.out, by rw [wt_append, wt_one, wt_nil]; simp only [List.length_nil]; omega, HR.out.more (by omega), HG.out⟩
    ·
      have HB := Lib.hid ((Below.refl wv.heap.size wv).alloc (Nat.le_refl _) (.cells (ptCells 5 [] [] none 0 0 none 0 0) 66))
      have HRW := Lib.hid (raw_row (us := [⟨5, [], [], none, 0, 0, none, 0, 0⟩]) (heap_alloc_new wv (.cells (ptCells 5 [] [] none 0 0 none 0 0) 66)) rfl)
      have hrl : rs.length ≤ 1000000 := by rw [HP.out.len]; have := len_wt xs; omega
      have HPA := Lib.hid (HP.out.keep HB.out)
      have HRA := Lib.hid (HR.out.keep HB.out)
      have HGA := Lib.hid (grown_trans HG.out (below_grownBy HB.out (some g)))
      have hsw : w.heap.size ≤ (wv.alloc (.cells (ptCells 5 [] [] none 0 0 none 0 0) 66)).heap.size := HGA.out.size
      have hsv := HG.out.size
      have hql : ∀ j, Value.ownBlock (.slice A rs.length c) = some j → j < wv.heap.size := fun j hj => (HP.out.own.lt j hj).2
      go_wp2_with (at_builtin; refine app_parts_at rfl _ _ rfl w.heap.size A c rs [⟨5, [], [], none, 0, 0, none, 0, 0⟩] (by rfl) HPA.out.own wv.heap.size 0 1 (by rfl) HRW.out (by simp) (by omega) hsw ?_; intro A9 c9 w9 ho9 hg9 hbk9)
      have HP := Lib.hid (HPA.out.app (ys := [.mk 5 [] [] [] []]) ho9 hg9 hbk9 (Els.cons (raw_in 5 [] []) Els.nil))
      have HR := Lib.hid (HRA.out.frame hg9 (own_lt HPA.out.own hlt))
      have HG := Lib.hid (grown_own HGA.out hg9 (Nat.le_refl _) (ownN_row HPA.out.own))
      clear ho9 hg9 hbk9 hql
      go_wp2
      go_ret
      exact ⟨_, _, _, _, (by first | rfl | (simp; done)), HP.out, by rw [wt_append, wt_one, wt_nil]; simp only [List.length_nil]; omega, HR.out.more (by omega), HG.out⟩
    ·
      have HB := Lib.hid (((Below.refl wv.heap.size wv).alloc (Nat.le_refl _) (.cells (ptCells 2 [] [97] none 0 0 none 0 0) 66)).alloc (by simp; try omega) (.cells #[.int .i64 1, sv [], sv [], .slice none 0 0, .slice none 0 0, .int .i64 4, sv [], sv [120], .slice none 0 0, .slice (some ⟨wv.heap.size, 0, none⟩) 1 1] 66))
      have HRW := Lib.hid (raw_row (us := [⟨1, [], [], none, 0, 0, none, 0, 0⟩, ⟨4, [], [120], none, 0, 0, some ⟨wv.heap.size, 0, none⟩, 1, 1⟩]) (heap_two2 (w := wv) (.cells (ptCells 2 [] [97] none 0 0 none 0 0) 66) (.cells #[.int .i64 1, sv [], sv [], .slice none 0 0, .slice none 0 0, .int .i64 4, sv [], sv [120], .slice none 0 0, .slice (some ⟨wv.heap.size, 0, none⟩) 1 1] 66)) rfl)
      have HIN : Hid (∀ S : Nat → Prop, S wv.heap.size → InP ((wv.alloc (.cells (ptCells 2 [] [97] none 0 0 none 0 0) 66)).alloc (.cells #[.int .i64 1, sv [], sv [], .slice none 0 0, .slice none 0 0, .int .i64 4, sv [], sv [120], .slice none 0 0, .slice (some ⟨wv.heap.size, 0, none⟩) 1 1] 66)) S (.mk 4 [] [120] [] [(.mk 2 [] [97] [] [])]) (Raw.v ⟨4, [], [120], none, 0, 0, some ⟨wv.heap.size, 0, none⟩, 1, 1⟩)) := fun S h1 => InP.mk (xs := []) (ys := [(.mk 2 [] [97] [] [])]) (Nat.le_refl _) (Nat.le_refl _) RdP.nil_ (rdp_lit (xs := []) (ys := []) h1 (heap_two _ _) (raw_in _ _ _))
      have hrl : rs.length ≤ 1000000 := by rw [HP.out.len]; have := len_wt xs; omega
      have HPA := Lib.hid (HP.out.keep HB.out)
      have HRA := Lib.hid (HR.out.keep HB.out)
      have HGA := Lib.hid (grown_trans HG.out (below_grownBy HB.out (some g)))
      have hsw : w.heap.size ≤ ((wv.alloc (.cells (ptCells 2 [] [97] none 0 0 none 0 0) 66)).alloc (.cells #[.int .i64 1, sv [], sv [], .slice none 0 0, .slice none 0 0, .int .i64 4, sv [], sv [120], .slice none 0 0, .slice (some ⟨wv.heap.size, 0, none⟩) 1 1] 66)).heap.size := HGA.out.size
      have hsv := HG.out.size
      have hql : ∀ j, Value.ownBlock (.slice A rs.length c) = some j → j < wv.heap.size := fun j hj => (HP.out.own.lt j hj).2
      go_wp2_with (at_builtin; refine app_parts_at rfl _ _ rfl w.heap.size A c rs [⟨1, [], [], none, 0, 0, none, 0, 0⟩, ⟨4, [], [120], none, 0, 0, some ⟨wv.heap.size, 0, none⟩, 1, 1⟩] (by rfl) HPA.out.own (wv.heap.size + 1) 0 2 (by rfl) HRW.out (by simp) (by omega) hsw ?_; intro A9 c9 w9 ho9 hg9 hbk9)
      have HP := Lib.hid (HPA.out.app (ys := [.mk 1 [] [] [] [], .mk 4 [] [120] [] [(.mk 2 [] [97] [] [])]]) ho9 hg9 hbk9 (Els.cons (raw_in 1 [] []) (Els.cons (HIN.out _ ⟨by omega, by simp; try omega, fun e => by have := hql _ e; omega⟩) Els.nil)))
      have HR := Lib.hid (HRA.out.frame hg9 (own_lt HPA.out.own hlt))
      have HG := Lib.hid (grown_own HGA.out hg9 (Nat.le_refl _) (ownN_row HPA.out.own))
      clear ho9 hg9 hbk9 hql
      go_wp2
      go_ret
      exact ⟨_, _, _, _, (by first | rfl | (simp; done)), HP.out, by rw [wt_append, show wt [.mk 1 [] [] [] [], .mk 4 [] [120] [] [(.mk 2 [] [97] [] [])]] = 5 from rfl]; omega, HR.out.more (by omega), HG.out⟩
end Go.Proofs.Ytginghjgfippiaa
