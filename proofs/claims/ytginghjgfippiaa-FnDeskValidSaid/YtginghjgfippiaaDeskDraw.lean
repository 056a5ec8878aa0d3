/- Drawn desks: walks. -/
import Derived.Test.YtginghjgfippiaaDataDraw
import Derived.Test.YtginghjgfippiaaPartTmpl
import Derived.Test.YtginghjgfippiaaDeskV
namespace Go.Proofs.Ytginghjgfippiaa
open Go.RowKit

/-- the call drew data -/
def DrnD (w : World) (B g q : Nat) (e : Ending) (w' : World) : Prop :=
  ∃ A c rs xs, e = .returned (.slice A (List.length rs) c) ∧ FLs w' w.heap.size A c rs xs ∧ fwt xs ≤ 10000 ∧ Rdr w' B g (q + 1000) ∧ w.grownBy w' (some g)
set_option maxRecDepth 20000 in
set_option maxHeartbeats 8000000 in
theorem spec_l20Data (B g q : Nat) (n : Int) (w : World) (h : Rdr w B g q) (hq : q ≤ 700000000) (hn : n ≤ 1000000000) (hn0 : -1000000000 ≤ n) : Calls Try.prog 48 #[.pointer (some ⟨g, 0, none⟩), .int .i64 n] w (DrnD w B g q) := by
  have hlt := h.lt
  have HB1 := Lib.hid ((Below.refl w.heap.size w).alloc (Nat.le_refl _) (.cells #[] 54))
  have HB2 := Lib.hid ((Below.refl (w.alloc (.cells #[] 54)).heap.size (w.alloc (.cells #[] 54))).alloc (Nat.le_refl _) (.cells #[sv [97], sv [98], sv [117, 115, 101, 114], sv [120, 45, 49], sv [108, 105, 115, 116], sv [102, 108, 97, 103]] 9))
  have HR := Lib.hid ((h.keep HB1.out).keep HB2.out)
  have HP0 : FLs (w.alloc (.cells #[] 54)) w.heap.size (some ⟨w.heap.size, 0, none⟩) 0 [] [] := ⟨own_emptyF w, ElsF.nil⟩
  have HP := Lib.hid (HP0.keep HB2.out)
  have hs1 : (w.alloc (.cells #[] 54)).heap.size = w.heap.size + 1 := by simp
  have hnm := heap_alloc_new (w.alloc (.cells #[] 54)) (.cells #[sv [97], sv [98], sv [117, 115, 101, 114], sv [120, 45, 49], sv [108, 105, 115, 116], sv [102, 108, 97, 103]] 9)
  rw [hs1] at hnm
  have HN := Lib.hid hnm
  have HG := Lib.hid (grown_trans (World.grownBy_alloc w (.cells #[] 54) (some g)) (World.grownBy_alloc _ (.cells #[sv [97], sv [98], sv [117, 115, 101, 114], sv [120, 45, 49], sv [108, 105, 115, 116], sv [102, 108, 97, 103]] 9) (some g)))
  clear h HB1 HB2 HP0 hnm hs1
  go_enter Try.func48, Try.ntmps48
  go_upto_region 3 with fail
  generalize (w.alloc (.cells #[] 54)).alloc (.cells #[sv [97], sv [98], sv [117, 115, 101, 114], sv [120, 45, 49], sv [108, 105, 115, 116], sv [102, 108, 97, 103]] 9) = wv at *
  go_wp2
  go_loopw [5, 7] (fun l i wr => ∃ (k : Nat) (A : Option Addr) (c : Nat) (rs : List FRaw) (xs : List Fd) (qk : Nat), k ≤ 6 ∧ i = .int .i64 (k : Int) ∧ l = .slice A rs.length c ∧ FLs wr w.heap.size A c rs xs ∧ fwt xs ≤ 900 * k ∧ (∀ j, Value.ownBlock (.slice A rs.length c) = some j → j ≠ w.heap.size + 1) ∧ wr.heap[w.heap.size + 1]? = some (.cells #[sv [97], sv [98], sv [117, 115, 101, 114], sv [120, 45, 49], sv [108, 105, 115, 116], sv [102, 108, 97, 103]] 9 (0, 0)) ∧ Rdr wr B g qk ∧ qk ≤ q + 90 * k ∧ w.grownBy wr (some g)) (fun _ i _ => 6 - (intOf i).toNat)
  case atStart => exact ⟨0, _, 0, [], [], q, by omega, rfl, rfl, HP.out, by rw [fwt_nil]; omega, (fun j hj => by injection hj with hj; have h9 : w.heap.size = j := hj; omega), HN.out, HR.out, by omega, HG.out⟩
  case round =>
    obtain ⟨k, A, c, rs, xs, qk, hk, rfl, rfl, hp, hwt, hne, hnm, hr, hqk, hg⟩ := hrel
    clear HP HR HG HN
    have HP := Lib.hid hp
    have HR := Lib.hid hr
    have HG := Lib.hid hg
    have HN := Lib.hid hnm
    have HNE := Lib.hid hne
    clear hp hr hg hnm hne
    have hgw : g < wr.heap.size := HR.out.lt
    have hnl : w.heap.size + 1 < wr.heap.size := lt_of_block HN.out
    by_cases hk6 : k < 6
    · go_wp2_with fail
      refine (spec_pick B g _ 4 _ HR.out (by omega) (by omega) (by omega)).mono ?_
      rintro e w2 ⟨k4, rfl, hk4, hr2, hg2⟩
      have HP := Lib.hid (HP.out.grow hg2 (fun j hj => by injection hj with hj; omega))
      have HR := Lib.hid hr2
      have HG := Lib.hid (grown_trans HG.out hg2)
      have HN := Lib.hid ((hg2.block _ hnl (by simp; omega)).trans HN.out)
      have hnl2 : w.heap.size + 1 < w2.heap.size := Nat.lt_of_lt_of_le hnl hg2.size
      clear hr2 hg2 hk4
      by_cases hk0 : k4 = 0
      · subst hk0
        go_wp2
        go_roundw
        case rel => exact ⟨k + 1, A, c, rs, xs, qk + 1, by omega, by go_num, rfl, HP.out, by omega, HNE.out, HN.out, HR.out, by omega, HG.out⟩
        case measure => first | (simp [intOf]; done) | (simp [intOf]; omega)
      · have hk1 : ((0 : Int) < (k4 : Int)) = True := eq_true (by omega)
        have hk2 : (0 < k4) = True := eq_true (by omega)
        clear hk0
        obtain ⟨nm, hnc, hnl4⟩ := lit_str (k := k) (B := 20) (n := 6) HN.out (by decide +kernel) hk6
        go_wp2_with fail
        refine (spec_l20Field B g _ nm _ HR.out (by omega)).mono ?_
        rintro e w3 ⟨t, hh, Ai, ci, is, rfl, ho3, ht, hil, hib, hr3, hg3⟩
        have HPO := HP
        have HP := Lib.hid (HP.out.grow hg3 (fun j hj => by injection hj with hj; omega))
        have HR := Lib.hid hr3
        have HG := Lib.hid (grown_trans HG.out hg3)
        have HN := Lib.hid ((hg3.block _ hnl2 (by simp; omega)).trans HN.out)
        have hs3 := hg3.size
        have hW1 := fwt_one (hh := hh) (show nm.length ≤ 100 by omega) ht (show is.length ≤ 6 by omega) hib
        have HB := Lib.hid ((Below.refl w3.heap.size w3).alloc (Nat.le_refl _) (.cells (fdCells nm t hh Ai is.length ci) 54))
        have HRW := Lib.hid (rawf_row (us := [⟨nm, t, hh, Ai, is.length, ci⟩]) (heap_alloc_new w3 (.cells (fdCells nm t hh Ai is.length ci) 54)) rfl)
        have ho4 := ownS_keep ho3 HB.out
        have HIN : Hid (InF (w3.alloc (.cells (fdCells nm t hh Ai is.length ci) 54)) (fun j => w.heap.size ≤ j ∧ j < (w3.alloc (.cells (fdCells nm t hh Ai is.length ci) 54)).heap.size ∧ Value.ownBlock (.slice A rs.length c) ≠ some j) ⟨nm, t, hh, is⟩ (FRaw.v ⟨nm, t, hh, Ai, is.length, ci⟩)) := by
          refine ⟨Ai, ci, rfl, ?_, ownS_cap ho3⟩
          intro hne
          obtain ⟨r, rfl, h1, h2⟩ := own_some ho4 (by have : 0 < (scells is).length := List.length_pos_iff.2 hne; simpa [scells] using this)
          obtain ⟨b, o, e, hb, hc⟩ := ownS_rd ho4 hne
          injection e with e
          injection e with e1 e2
          subst e1 e2
          exact ⟨_, _, rfl, ⟨by have := HG.out.size; have := HPO.out.own.lt; have := hnl2; omega, h2, fun e => by have := (HPO.out.own.lt _ e).2; omega⟩, hc⟩
        clear ho3 ho4 hr3 hg3 hib
        have hrl : rs.length ≤ 1000000 := by rw [HP.out.len]; have : xs.length ≤ fwt xs := by unfold fwt; omega
                                             omega
        have HPA := Lib.hid (HP.out.keep HB.out)
        have HRA := Lib.hid (HR.out.keep HB.out)
        have HGA := Lib.hid (grown_trans HG.out (below_grownBy HB.out (some g)))
        have hsw : w.heap.size ≤ (w3.alloc (.cells (fdCells nm t hh Ai is.length ci) 54)).heap.size := HGA.out.size
        have hsv := HG.out.size
        have hql : ∀ j, Value.ownBlock (.slice A rs.length c) = some j → j < w3.heap.size := fun j hj => (HP.out.own.lt j hj).2
        go_wp2_with (at_builtin; refine app_fields_at rfl _ _ rfl w.heap.size A c rs [⟨nm, t, hh, Ai, is.length, ci⟩] (by rfl) HPA.out.own w3.heap.size 0 1 (by rfl) HRW.out (by simp) (by omega) hsw ?_; intro A9 c9 w9 ho9 hg9 hbk9)
        have HP9 := Lib.hid (HPA.out.app (ys := [⟨nm, t, hh, is⟩]) ho9 hg9 hbk9 (ElsF.cons HIN.out ElsF.nil))
        have HR9 := Lib.hid (HRA.out.frame hg9 (own_lt HPA.out.own hlt))
        have HG9 := Lib.hid (grown_own HGA.out hg9 (Nat.le_refl _) (ownF_row HPA.out.own))
        have HN9 := Lib.hid ((hg9.block _ (by simp; omega) (fun e => HNE.out _ e.symm rfl)).trans ((HB.out.block _ (by omega)).trans HN.out))
        have HNE9 : Hid (∀ j, Value.ownBlock (.slice A9 (rs ++ [(⟨nm, t, hh, Ai, is.length, ci⟩ : FRaw)]).length c9) = some j → j ≠ w.heap.size + 1) := fun j hj => by
          rw [List.length_append] at hj
          rcases hbk9 with e | e
          · exact HNE.out j (by rw [← e]; exact hj)
          · have h9 := e.symm.trans hj
            injection h9 with h9
            simp at h9
            omega
        clear ho9 hg9 hbk9
        go_wp2
        go_roundw
        case rel => exact ⟨k + 1, A9, c9, _, _, qk + 1 + 80, by omega, by go_num, by first | rfl | (simp; done), HP9.out, by rw [fwt_append]; omega, HNE9.out, HN9.out, HR9.out, by omega, HG9.out⟩
        case measure => first | (simp [intOf]; done) | (simp [intOf]; omega)
    · go_wp2_with fail
      refine (spec_odd B g _ n _ HR.out (by omega) hn hn0).mono ?_
      rintro e w2 ⟨bo, rfl, hr2, hg2⟩
      have HP := Lib.hid (HP.out.grow hg2 (fun j hj => by injection hj with hj; omega))
      have HR := Lib.hid hr2
      have HG := Lib.hid (grown_trans HG.out hg2)
      have hgw2 : g < w2.heap.size := HR.out.lt
      clear hr2 hg2 HN HNE
      cases bo
      · go_wp2
        go_ret
        exact ⟨A, c, rs, xs, rfl, HP.out, by omega, HR.out.more (by omega), HG.out⟩
      · go_wp2_with fail
        refine (spec_pick B g _ 4 _ HR.out (by omega) (by omega) (by omega)).mono ?_
        rintro e wv ⟨z, rfl, hz, hr3, hg3⟩
        have HP := Lib.hid (HP.out.grow hg3 (fun j hj => by injection hj with hj; omega))
        have HR := Lib.hid hr3
        have HG := Lib.hid (grown_trans HG.out hg3)
        clear hr3 hg3
        have hz4 : z = 0 ∨ z = 1 ∨ z = 2 ∨ z = 3 := by omega
        clear hz
        rcases hz4 with rfl | rfl | rfl | rfl
        · go_wp2_with fail
          refine (spec_l20Name B g _ 1 wv HR.out (by omega) (by omega) (by omega)).mono ?_
          rintro e w5 ⟨nm, rfl, hnm, hr5, hg5⟩
          have HP := Lib.hid (HP.out.grow hg5 (fun j hj => by injection hj with hj; omega))
          have HR := Lib.hid hr5
          have HG := Lib.hid (grown_trans HG.out hg5)
          clear hr5 hg5
          have HB := Lib.hid ((Below.refl w5.heap.size w5).alloc (Nat.le_refl _) (.cells (fdCells nm [] false none 0 0) 54))
          have HRW := Lib.hid (rawf_row (us := [⟨nm, [], false, none, 0, 0⟩]) (heap_alloc_new w5 (.cells (fdCells nm [] false none 0 0) 54)) rfl)
          have hW1 := fwt_one (hh := false) (show nm.length ≤ 100 by omega) (show ([] : Tx).length ≤ 100 by simp) (show ([] : List Tx).length ≤ 6 by simp) (fun x hx => by cases hx)
          have hrl : rs.length ≤ 1000000 := by rw [HP.out.len]; have : xs.length ≤ fwt xs := by unfold fwt; omega
                                               omega
          have HPA := Lib.hid (HP.out.keep HB.out)
          have HRA := Lib.hid (HR.out.keep HB.out)
          have HGA := Lib.hid (grown_trans HG.out (below_grownBy HB.out (some g)))
          have hsw : w.heap.size ≤ (w5.alloc (.cells (fdCells nm [] false none 0 0) 54)).heap.size := HGA.out.size
          have hsv := HG.out.size
          have hql : ∀ j, Value.ownBlock (.slice A rs.length c) = some j → j < w5.heap.size := fun j hj => (HP.out.own.lt j hj).2
          go_wp2_with (at_builtin; refine app_fields_at rfl _ _ rfl w.heap.size A c rs [⟨nm, [], false, none, 0, 0⟩] (by rfl) HPA.out.own w5.heap.size 0 1 (by rfl) HRW.out (by simp) (by omega) hsw ?_; intro A9 c9 w9 ho9 hg9 hbk9)
          have HP9 := Lib.hid (HPA.out.app (ys := [⟨nm, [], false, []⟩]) ho9 hg9 hbk9 (ElsF.cons (rawf_in nm [] false) ElsF.nil))
          have HR9 := Lib.hid (HRA.out.frame hg9 (own_lt HPA.out.own hlt))
          have HG9 := Lib.hid (grown_own HGA.out hg9 (Nat.le_refl _) (ownF_row HPA.out.own))
          go_wp2
          go_ret
          exact ⟨_, _, _, _, (by first | rfl | (simp; done)), HP9.out, by rw [fwt_append]; omega, HR9.out.more (by omega), HG9.out⟩
        ·
          have HB := Lib.hid ((Below.refl wv.heap.size wv).alloc (Nat.le_refl _) (.cells #[sv [115, 97, 109, 101], sv [], .bool false, .slice none 0 0, sv [115, 97, 109, 101], sv [], .bool false, .slice none 0 0] 54))
          have HRW := Lib.hid (rawf_row (us := [⟨[115, 97, 109, 101], [], false, none, 0, 0⟩, ⟨[115, 97, 109, 101], [], false, none, 0, 0⟩]) (heap_alloc_new wv (.cells #[sv [115, 97, 109, 101], sv [], .bool false, .slice none 0 0, sv [115, 97, 109, 101], sv [], .bool false, .slice none 0 0] 54)) rfl)
          have hrl : rs.length ≤ 1000000 := by rw [HP.out.len]; have : xs.length ≤ fwt xs := by unfold fwt; omega
                                               omega
          have HPA := Lib.hid (HP.out.keep HB.out)
          have HRA := Lib.hid (HR.out.keep HB.out)
          have HGA := Lib.hid (grown_trans HG.out (below_grownBy HB.out (some g)))
          have hsw : w.heap.size ≤ (wv.alloc (.cells #[sv [115, 97, 109, 101], sv [], .bool false, .slice none 0 0, sv [115, 97, 109, 101], sv [], .bool false, .slice none 0 0] 54)).heap.size := HGA.out.size
          have hsv := HG.out.size
          have hql : ∀ j, Value.ownBlock (.slice A rs.length c) = some j → j < wv.heap.size := fun j hj => (HP.out.own.lt j hj).2
          go_wp2_with (at_builtin; refine app_fields_at rfl _ _ rfl w.heap.size A c rs [⟨[115, 97, 109, 101], [], false, none, 0, 0⟩, ⟨[115, 97, 109, 101], [], false, none, 0, 0⟩] (by rfl) HPA.out.own wv.heap.size 0 2 (by rfl) HRW.out (by simp) (by omega) hsw ?_; intro A9 c9 w9 ho9 hg9 hbk9)
          have HP9 := Lib.hid (HPA.out.app (ys := [⟨[115, 97, 109, 101], [], false, []⟩, ⟨[115, 97, 109, 101], [], false, []⟩]) ho9 hg9 hbk9 (ElsF.cons (rawf_in _ [] false) (ElsF.cons (rawf_in _ [] false) ElsF.nil)))
          have HR9 := Lib.hid (HRA.out.frame hg9 (own_lt HPA.out.own hlt))
          have HG9 := Lib.hid (grown_own HGA.out hg9 (Nat.le_refl _) (ownF_row HPA.out.own))
          go_wp2
          go_ret
          exact ⟨_, _, _, _, (by first | rfl | (simp; done)), HP9.out, by rw [fwt_append, show fwt [⟨[115, 97, 109, 101], [], false, []⟩, ⟨[115, 97, 109, 101], [], false, []⟩] = 10 from rfl]; omega, HR9.out.more (by omega), HG9.out⟩
        ·
          have HB := Lib.hid ((Below.refl wv.heap.size wv).alloc (Nat.le_refl _) (.cells (fdCells [108, 111, 110, 103] [49, 50, 51, 52, 53, 54, 55, 56, 57, 48, 49, 50, 51, 52, 53, 54, 55, 56, 57, 48, 49, 50, 51, 52, 53, 54, 55, 56, 57, 48, 49, 50, 51, 52, 53, 54, 55, 56, 57, 48, 49] false none 0 0) 54))
          have HRW := Lib.hid (rawf_row (us := [⟨[108, 111, 110, 103], [49, 50, 51, 52, 53, 54, 55, 56, 57, 48, 49, 50, 51, 52, 53, 54, 55, 56, 57, 48, 49, 50, 51, 52, 53, 54, 55, 56, 57, 48, 49, 50, 51, 52, 53, 54, 55, 56, 57, 48, 49], false, none, 0, 0⟩]) (heap_alloc_new wv (.cells (fdCells [108, 111, 110, 103] [49, 50, 51, 52, 53, 54, 55, 56, 57, 48, 49, 50, 51, 52, 53, 54, 55, 56, 57, 48, 49, 50, 51, 52, 53, 54, 55, 56, 57, 48, 49, 50, 51, 52, 53, 54, 55, 56, 57, 48, 49] false none 0 0) 54)) rfl)
          have hrl : rs.length ≤ 1000000 := by rw [HP.out.len]; have : xs.length ≤ fwt xs := by unfold fwt; omega
                                               omega
          have HPA := Lib.hid (HP.out.keep HB.out)
          have HRA := Lib.hid (HR.out.keep HB.out)
          have HGA := Lib.hid (grown_trans HG.out (below_grownBy HB.out (some g)))
          have hsw : w.heap.size ≤ (wv.alloc (.cells (fdCells [108, 111, 110, 103] [49, 50, 51, 52, 53, 54, 55, 56, 57, 48, 49, 50, 51, 52, 53, 54, 55, 56, 57, 48, 49, 50, 51, 52, 53, 54, 55, 56, 57, 48, 49, 50, 51, 52, 53, 54, 55, 56, 57, 48, 49] false none 0 0) 54)).heap.size := HGA.out.size
          have hsv := HG.out.size
          have hql : ∀ j, Value.ownBlock (.slice A rs.length c) = some j → j < wv.heap.size := fun j hj => (HP.out.own.lt j hj).2
          go_wp2_with (at_builtin; refine app_fields_at rfl _ _ rfl w.heap.size A c rs [⟨[108, 111, 110, 103], [49, 50, 51, 52, 53, 54, 55, 56, 57, 48, 49, 50, 51, 52, 53, 54, 55, 56, 57, 48, 49, 50, 51, 52, 53, 54, 55, 56, 57, 48, 49, 50, 51, 52, 53, 54, 55, 56, 57, 48, 49], false, none, 0, 0⟩] (by rfl) HPA.out.own wv.heap.size 0 1 (by rfl) HRW.out (by simp) (by omega) hsw ?_; intro A9 c9 w9 ho9 hg9 hbk9)
          have HP9 := Lib.hid (HPA.out.app (ys := [⟨[108, 111, 110, 103], [49, 50, 51, 52, 53, 54, 55, 56, 57, 48, 49, 50, 51, 52, 53, 54, 55, 56, 57, 48, 49, 50, 51, 52, 53, 54, 55, 56, 57, 48, 49, 50, 51, 52, 53, 54, 55, 56, 57, 48, 49], false, []⟩]) ho9 hg9 hbk9 (ElsF.cons (rawf_in _ _ false) ElsF.nil))
          have HR9 := Lib.hid (HRA.out.frame hg9 (own_lt HPA.out.own hlt))
          have HG9 := Lib.hid (grown_own HGA.out hg9 (Nat.le_refl _) (ownF_row HPA.out.own))
          go_wp2
          go_ret
          exact ⟨_, _, _, _, (by first | rfl | (simp; done)), HP9.out, by rw [fwt_append, show fwt [⟨[108, 111, 110, 103], [49, 50, 51, 52, 53, 54, 55, 56, 57, 48, 49, 50, 51, 52, 53, 54, 55, 56, 57, 48, 49, 50, 51, 52, 53, 54, 55, 56, 57, 48, 49, 50, 51, 52, 53, 54, 55, 56, 57, 48, 49], false, []⟩] = 46 from rfl]; omega, HR9.out.more (by omega), HG9.out⟩
        ·
          have HB := Lib.hid (((Below.refl wv.heap.size wv).alloc (Nat.le_refl _) (.cells #[sv [49], sv [50], sv [51], sv [52], sv [53], sv [54]] 9)).alloc (by simp) (.cells (fdCells [109, 97, 110, 121] [] false (some ⟨wv.heap.size, 0, none⟩) 6 6) 54))
          have hsx : (wv.alloc (.cells #[sv [49], sv [50], sv [51], sv [52], sv [53], sv [54]] 9)).heap.size = wv.heap.size + 1 := by simp
          have hcl := heap_alloc_new (wv.alloc (.cells #[sv [49], sv [50], sv [51], sv [52], sv [53], sv [54]] 9)) (.cells (fdCells [109, 97, 110, 121] [] false (some ⟨wv.heap.size, 0, none⟩) 6 6) 54)
          rw [hsx] at hcl
          have HRW := Lib.hid (rawf_row (us := [⟨[109, 97, 110, 121], [], false, some ⟨wv.heap.size, 0, none⟩, 6, 6⟩]) hcl rfl)
          have hit : ((wv.alloc (.cells #[sv [49], sv [50], sv [51], sv [52], sv [53], sv [54]] 9)).alloc (.cells (fdCells [109, 97, 110, 121] [] false (some ⟨wv.heap.size, 0, none⟩) 6 6) 54)).heap[wv.heap.size]? = some (.cells #[sv [49], sv [50], sv [51], sv [52], sv [53], sv [54]] 9) := (heap_alloc_old (wv.alloc (.cells #[sv [49], sv [50], sv [51], sv [52], sv [53], sv [54]] 9)) (.cells (fdCells [109, 97, 110, 121] [] false (some ⟨wv.heap.size, 0, none⟩) 6 6) 54) (by simp)).trans (heap_alloc_new wv (.cells #[sv [49], sv [50], sv [51], sv [52], sv [53], sv [54]] 9))
          have HIN : Hid (∀ S : Nat → Prop, S wv.heap.size → InF ((wv.alloc (.cells #[sv [49], sv [50], sv [51], sv [52], sv [53], sv [54]] 9)).alloc (.cells (fdCells [109, 97, 110, 121] [] false (some ⟨wv.heap.size, 0, none⟩) 6 6) 54)) S ⟨[109, 97, 110, 121], [], false, [[49], [50], [51], [52], [53], [54]]⟩ (FRaw.v ⟨[109, 97, 110, 121], [], false, some ⟨wv.heap.size, 0, none⟩, 6, 6⟩)) := fun S h1 => ⟨some ⟨wv.heap.size, 0, none⟩, 6, rfl, (fun _ => ⟨wv.heap.size, 0, rfl, h1, fun j u hu => by rw [Nat.zero_add, cell_of_row _ _ j _ _ _ hit, ← Array.getElem?_toList]; exact hu⟩), Nat.le_refl _⟩
          clear hit hcl hsx
          have hrl : rs.length ≤ 1000000 := by rw [HP.out.len]; have : xs.length ≤ fwt xs := by unfold fwt; omega
                                               omega
          have HPA := Lib.hid (HP.out.keep HB.out)
          have HRA := Lib.hid (HR.out.keep HB.out)
          have HGA := Lib.hid (grown_trans HG.out (below_grownBy HB.out (some g)))
          have hsw : w.heap.size ≤ ((wv.alloc (.cells #[sv [49], sv [50], sv [51], sv [52], sv [53], sv [54]] 9)).alloc (.cells (fdCells [109, 97, 110, 121] [] false (some ⟨wv.heap.size, 0, none⟩) 6 6) 54)).heap.size := HGA.out.size
          have hsv := HG.out.size
          have hql : ∀ j, Value.ownBlock (.slice A rs.length c) = some j → j < wv.heap.size := fun j hj => (HP.out.own.lt j hj).2
          go_wp2_with (at_builtin; refine app_fields_at rfl _ _ rfl w.heap.size A c rs [⟨[109, 97, 110, 121], [], false, some ⟨wv.heap.size, 0, none⟩, 6, 6⟩] (by rfl) HPA.out.own (wv.heap.size + 1) 0 1 (by rfl) HRW.out (by simp) (by omega) hsw ?_; intro A9 c9 w9 ho9 hg9 hbk9)
          have HP9 := Lib.hid (HPA.out.app (ys := [⟨[109, 97, 110, 121], [], false, [[49], [50], [51], [52], [53], [54]]⟩]) ho9 hg9 hbk9 (ElsF.cons (HIN.out _ ⟨by omega, by simp; omega, fun e => by have := hql _ e; omega⟩) ElsF.nil))
          have HR9 := Lib.hid (HRA.out.frame hg9 (own_lt HPA.out.own hlt))
          have HG9 := Lib.hid (grown_own HGA.out hg9 (Nat.le_refl _) (ownF_row HPA.out.own))
          go_wp2
          go_ret
          exact ⟨_, _, _, _, (by first | rfl | (simp; done)), HP9.out, by rw [fwt_append, show fwt [⟨[109, 97, 110, 121], [], false, [[49], [50], [51], [52], [53], [54]]⟩] = 17 from rfl]; omega, HR9.out.more (by omega), HG9.out⟩
/-- the call drew a desk -/
def DrnK (w : World) (B g q : Nat) (e : Ending) (w' : World) : Prop :=
  ∃ A c A2 c2, ∃ x : Dk, e = .returned (dkV A x.parts.length c A2 x.data.length c2) ∧ InD w' (fun j => w.heap.size < j ∧ j < w'.heap.size) x (dkV A x.parts.length c A2 x.data.length c2) ∧ Dk.size x ≤ 30000 ∧ Rdr w' B g (q + 10000) ∧ w.grownBy w' (some g)
theorem box_twoK {w : World} {b : Nat} {c0 c1 : Value} {t : TypeId} (h : w.heap[b]? = some (.cells #[c0, c1] t (0, 0))) :
    (w.cell? ⟨b, 0, none⟩ = some c0 ∧ w.cell? ⟨b, 1, none⟩ = some c1) ∧ (w.frozen? ⟨b, 0, none⟩ = false ∧ w.frozen? ⟨b, 1, none⟩ = false) := by
  simp [World.cell?, World.frozen?, h]
theorem set_cellK {w : World} {b o : Nat} {v : Value} {p : Addr} (h : p.block ≠ b) : (w.setCell ⟨b, o, none⟩ v).cell? p = w.cell? p := World.cell?_of_block (Below.heap_setCell _ _ _ _ (fun e => h e))
set_option maxRecDepth 100000 in
set_option maxHeartbeats 2000000 in
theorem spec_l20Desk (B g q : Nat) (n : Int) (w : World) (h : Rdr w B g q) (hq : q ≤ 100000000) (hn : n ≤ 1000000000) (hn0 : -1000000000 ≤ n) : Calls Try.prog 29 #[.pointer (some ⟨g, 0, none⟩), .int .i64 n] w (DrnK w B g q) := by
  have hlt := h.lt
  have HR := Lib.hid (h.keep ((Below.refl w.heap.size w).alloc (Nat.le_refl _) (.cells #[.slice none 0 0, .slice none 0 0] 34)))
  have HZ := Lib.hid (heap_alloc_new w (.cells #[.slice none 0 0, .slice none 0 0] 34))
  have hs0 : (w.alloc (.cells #[.slice none 0 0, .slice none 0 0] 34)).heap.size = w.heap.size + 1 := by simp
  have HG := Lib.hid (World.grownBy_alloc w (.cells #[.slice none 0 0, .slice none 0 0] 34) (some g))
  clear h
  go_enter Try.func29, Try.ntmps29
  go_upto_region 1 with fail
  generalize w.alloc (.cells #[.slice none 0 0, .slice none 0 0] 34) = w0 at *
  go_wp2_with fail
  refine (spec_l20Template B g q n _ HR.out (by omega) hn hn0).mono ?_
  rintro e w1 ⟨A1, c1, rs, xs, rfl, hp, hw1, hr1, hg1⟩
  rw [hp.len]
  have HP := Lib.hid hp
  have HR := Lib.hid hr1
  have HG := Lib.hid (grown_trans HG.out hg1)
  have HZ := Lib.hid ((hg1.block w.heap.size (by omega) (by simp; omega)).trans HZ.out)
  have hz1 := hg1.size
  clear hp hr1 hg1
  go_wp2_with fail
  refine (spec_l20Data B g _ n w1 HR.out (by omega) hn hn0).mono ?_
  rintro e w2 ⟨A2, c2, rs2, ys, rfl, hp2, hw2, hr2, hg2⟩
  rw [hp2.len]
  have HF := Lib.hid hp2
  have HP := Lib.hid (HP.out.grow hg2 (fun j hj => by injection hj with hj; omega))
  have HR := Lib.hid hr2
  have HG := Lib.hid (grown_trans HG.out hg2)
  have HZ := Lib.hid ((hg2.block w.heap.size (by omega) (by simp; omega)).trans HZ.out)
  have hz2 := hg2.size
  clear hp2 hr2 hg2
  obtain ⟨⟨z0, z1⟩, z2, z3⟩ := box_twoK HZ.out
  have hgy : w2.grownBy ((w2.setCell ⟨w.heap.size, 0, none⟩ (.slice A1 xs.length c1)).setCell ⟨w.heap.size, 1, none⟩ (.slice A2 ys.length c2)) (some w.heap.size) := grown_set (grown_set (grown_refl _ _) 0 _) 1 _
  have HRF := Lib.hid ((HR.out.frame hgy (fun k hk => by injection hk with hk; omega)).more (show q + 7010 + 1000 ≤ q + 10000 by omega))
  have HGF := Lib.hid (grown_own HG.out hgy (Nat.le_refl _) (fun k hk => by injection hk with hk; omega))
  have hk : ∀ p : Addr, w.heap.size < p.block → ((w2.setCell ⟨w.heap.size, 0, none⟩ (.slice A1 xs.length c1)).setCell ⟨w.heap.size, 1, none⟩ (.slice A2 ys.length c2)).cell? p = w2.cell? p := fun p hp => by rw [set_cellK (by omega), set_cellK (by omega)]
  have HIN : Hid (InD ((w2.setCell ⟨w.heap.size, 0, none⟩ (.slice A1 xs.length c1)).setCell ⟨w.heap.size, 1, none⟩ (.slice A2 ys.length c2)) (fun j => w.heap.size < j ∧ j < ((w2.setCell ⟨w.heap.size, 0, none⟩ (.slice A1 xs.length c1)).setCell ⟨w.heap.size, 1, none⟩ (.slice A2 ys.length c2)).heap.size) ⟨xs, ys⟩ (dkV A1 xs.length c1 A2 ys.length c2)) :=
    ⟨A1, c1, A2, c2, rfl, HP.out.rd.keep (fun p hp => hk p (by have := hp.1; omega)) (fun j hj => ⟨by have := hj.1; omega, by have := hj.2; simpa [World.setCell] using this⟩), by rw [← HP.out.len]; exact HP.out.cap, HF.out.rd.keep (fun p hp => hk p (by have := hp.1; omega)) (fun j hj => ⟨by have := hj.1; omega, by have := hj.2; simpa [World.setCell] using this⟩), by rw [← HF.out.len]; exact HF.out.cap⟩
  clear hgy hk
  go_wp2_with fail
  refine bodyPost_ret (v := dkV A1 xs.length c1 A2 ys.length c2) (by simp [results, Try.results29, go_sem, *]) rfl ?_
  exact ⟨A1, c1, A2, c2, ⟨xs, ys⟩, rfl, HIN.out, by unfold Dk.size; unfold wt at hw1; unfold fwt at hw2; show xs.length + Pt.sizes xs + (ys.length + Fd.sizes ys) ≤ 30000; omega, HRF.out, HGF.out⟩
/-- the call drew a desk of its own -/
def DrewD (w : World) (e : Ending) (w' : World) : Prop :=
  ∃ A c A2 c2, ∃ x : Dk, e = .returned (dkV A x.parts.length c A2 x.data.length c2) ∧ InD w' (All w') x (dkV A x.parts.length c A2 x.data.length c2) ∧ Dk.size x ≤ 30000 ∧ Below w.heap.size w w'
set_option maxRecDepth 100000 in
set_option maxHeartbeats 2000000 in
theorem spec_DrawDeskValid (bs : Tx) (A : Option Addr) (c : Nat) (w : World) (hr : Rd w w.heap.size A (bcells bs)) (hc : bs.length ≤ c) (hm : bs.length ≤ 1048576) :
    Calls Try.prog 13 #[.slice A bs.length c] w (DrewD w) := by
  have HA := Lib.hid ((Below.refl w.heap.size w).alloc (Nat.le_refl _) (.cells #[.slice none 0 0, .slice none 0 0] 34))
  have HR := Lib.hid (hr.below HA.out)
  have HZ := Lib.hid (heap_alloc_new w (.cells #[.slice none 0 0, .slice none 0 0] 34))
  have hs0 : (w.alloc (.cells #[.slice none 0 0, .slice none 0 0] 34)).heap.size = w.heap.size + 1 := by simp
  clear hr
  go_enter Try.func13, Try.ntmps13
  go_upto_region 1 with fail
  generalize w.alloc (.cells #[.slice none 0 0, .slice none 0 0] 34) = w0 at *
  go_wp2_with fail
  refine (spec_l20Open bs w.heap.size A c _ HR.out HA.out.size hc hm).mono ?_
  rintro e w1 ⟨rfl, hr1, hb1⟩
  rw [hs0] at hr1 ⊢
  have HR1 := Lib.hid hr1
  have HB1 := Lib.hid (HA.out.trans (hb1.mono HA.out.size))
  have HZ1 := Lib.hid ((hb1.block w.heap.size (by omega)).trans HZ.out)
  have hl1 := hr1.lt
  clear hr1 hb1
  go_wp2_with fail
  refine (spec_l20Desk w.heap.size (w.heap.size + 1) 0 3 w1 HR1.out (by omega) (by omega) (by omega)).mono ?_
  rintro e w2 ⟨A1, c1, A2, c2, x, rfl, hin, hsz, _, hg2⟩
  have HB2 : Hid (Below w.heap.size w w2) := HB1.out.trans (grown_to_below hg2 (by omega) (fun g h => by injection h with h; omega))
  have hz2 := hg2.size
  obtain ⟨⟨z0, z1⟩, z2, z3⟩ := box_twoK ((hg2.block w.heap.size (by omega) (by simp)).trans HZ1.out)
  have hk : ∀ p : Addr, w.heap.size < p.block → ((w2.setCell ⟨w.heap.size, 0, none⟩ (.slice A1 x.parts.length c1)).setCell ⟨w.heap.size, 1, none⟩ (.slice A2 x.data.length c2)).cell? p = w2.cell? p := fun p hp => by rw [set_cellK (by omega), set_cellK (by omega)]
  have HIN : Hid (InD ((w2.setCell ⟨w.heap.size, 0, none⟩ (.slice A1 x.parts.length c1)).setCell ⟨w.heap.size, 1, none⟩ (.slice A2 x.data.length c2)) (All ((w2.setCell ⟨w.heap.size, 0, none⟩ (.slice A1 x.parts.length c1)).setCell ⟨w.heap.size, 1, none⟩ (.slice A2 x.data.length c2))) x (dkV A1 x.parts.length c1 A2 x.data.length c2)) :=
    InD.keep (fun p hp => hk p (by have := hp.1; omega)) (fun j hj => by have := hj.2; simpa [World.setCell] using this) _ _ hin
  clear hin hg2 hk
  go_wp2_with fail
  refine bodyPost_ret (v := dkV A1 x.parts.length c1 A2 x.data.length c2) (by simp [results, Try.results13, go_sem, *]) rfl ?_
  exact ⟨A1, c1, A2, c2, x, rfl, HIN.out, hsz, Below.setCell (Below.setCell HB2.out (Nat.le_refl _) _) (Nat.le_refl _) _⟩
end Go.Proofs.Ytginghjgfippiaa
