import Derived.Test.YtmboieajfdkllaaGreatU43
import Derived.Test.YtmboieajfdkllaaGreatU25
set_option maxHeartbeats 8000000
set_option maxRecDepth 100000
open Go.Proofs.Tryz
namespace Go.Proofs.YtmboieajfdkllaaGreat
open Go.RowKit
def DrnD (w : World) (B g q : Nat) (e : Ending) (w' : World) : Prop :=
 ∃ A c rs xs, e = .returned (.slice A (List.length rs) c) /\ FLs w' w.heap.size A c rs xs /\ fwt xs <= 10000 /\ Rdr w' B g (q + 1000) /\ w.grownBy w' (some g)
theorem WO (B g q : Nat) (n : Int) (w : World) (h : Rdr w B g q) (hq : q <= 700000000) (hn : n <= 1000000000) (hn0 : -1000000000 <= n) : Calls Tryz.prog 101 #[.pointer (some ⟨g, 0, none⟩), .int .i64 n] w (DrnD w B g q) := by
 have hlt := h.lt
 have HB1 := qb ((Below.refl w.heap.size w).alloc (Nat.le_refl _) (.cells #[] 62))
 have HB2 := qb ((Below.refl (w.alloc (.cells #[] 62)).heap.size (w.alloc (.cells #[] 62))).alloc (Nat.le_refl _) (.cells #[sv [97], sv [98], sv [117, 115, 101, 114], sv [120, 45, 49], sv [108, 105, 115, 116], sv [102, 108, 97, 103]] 9))
 have HR := qb ((h.keep HB1.out).keep HB2.out)
 have HP0 : FLs (w.alloc (.cells #[] 62)) w.heap.size (some ⟨w.heap.size, 0, none⟩) 0 [] [] := ⟨WI w, ElsF.nil⟩
 have HP := qb (HP0.keep HB2.out)
 have hs1 : (w.alloc (.cells #[] 62)).heap.size = w.heap.size + 1 := by simp
 have hnm := heap_alloc_new (w.alloc (.cells #[] 62)) (.cells #[sv [97], sv [98], sv [117, 115, 101, 114], sv [120, 45, 49], sv [108, 105, 115, 116], sv [102, 108, 97, 103]] 9)
 rw [hs1] at hnm
 have HN := qb hnm
 have HG := qb (jF (World.grownBy_alloc w (.cells #[] 62) (some g)) (World.grownBy_alloc _ (.cells #[sv [97], sv [98], sv [117, 115, 101, 114], sv [120, 45, 49], sv [108, 105, 115, 116], sv [102, 108, 97, 103]] 9) (some g)))
 clear h HB1 HB2 HP0 hnm hs1
 go_enter func101, ntmps101
 go_upto_region 3 with fail
 generalize (w.alloc (.cells #[] 62)).alloc (.cells #[sv [97], sv [98], sv [117, 115, 101, 114], sv [120, 45, 49], sv [108, 105, 115, 116], sv [102, 108, 97, 103]] 9) = wv at *
 go_wp2
 go_loopw [5, 7] (fun l i wr => ∃ (k : Nat) (A : Option Addr) (c : Nat) (rs : List FRaw) (xs : List Fd) (qk : Nat), k <= 6 /\ i = .int .i64 (k : Int) /\ l = .slice A rs.length c /\ FLs wr w.heap.size A c rs xs /\ fwt xs <= 900 * k /\ (∀ j, Value.ownBlock (.slice A rs.length c) = some j -> j ≠ w.heap.size + 1) /\ wr.heap[w.heap.size + 1]? = some (.cells #[sv [97], sv [98], sv [117, 115, 101, 114], sv [120, 45, 49], sv [108, 105, 115, 116], sv [102, 108, 97, 103]] 9 (0, 0)) /\ Rdr wr B g qk /\ qk <= q + 90 * k /\ w.grownBy wr (some g)) (fun _ i _ => 6 - (intOf i).toNat)
 case atStart => exact ⟨0, _, 0, [], [], q, by omega, rfl, rfl, HP.out, by rw [fwt_nil]; omega, (fun j hj => by injection hj with hj; have h9 : w.heap.size = j := hj; omega), HN.out, HR.out, by omega, HG.out⟩
 obtain ⟨k, A, c, rs, xs, qk, hk, rfl, rfl, hp, hwt, hne, hnm, hr, hqk, hg⟩ := hrel
 clear HP HR HG HN
 have HP := qb hp
 have HR := qb hr
 have HG := qb hg
 have HN := qb hnm
 have HNE := qb hne
 clear hp hr hg hnm hne
 have hgw : g < wr.heap.size := HR.out.lt
 have hnl : w.heap.size + 1 < wr.heap.size := lt_of_block HN.out
 by_cases hk6 : k < 6
 ·go_wp2_with fail
  refine (Yf B g _ 4 _ HR.out (by omega) (by omega) (by omega)).mono ?_
  rintro e w2 ⟨k4, rfl, hk4, hr2, hg2⟩
  have HP := qb (HP.out.grow hg2 (fun j hj => by injection hj with hj; omega))
  have HR := qb hr2
  have HG := qb (jF HG.out hg2)
  have HN := qb ((hg2.block _ hnl (by simp; omega)).trans HN.out)
  have hnl2 : w.heap.size + 1 < w2.heap.size := Nat.lt_of_lt_of_le hnl hg2.size
  clear hr2 hg2 hk4
  by_cases hk0 : k4 = 0
  ·subst hk0
   go_wp2
   go_roundw
   case rel => exact ⟨k + 1, A, c, rs, xs, qk + 1, by omega, by go_num, rfl, HP.out, by omega, HNE.out, HN.out, HR.out, by omega, HG.out⟩
   case measure => first | (simp [intOf]; done) | (simp [intOf]; omega)
  have hk1 : ((0 : Int) < (k4 : Int)) = True := eq_true (by omega)
  have hk2 : (0 < k4) = True := eq_true (by omega)
  clear hk0
  obtain ⟨nm, hnc, hnl4⟩ := Ym (k := k) (B := 20) (n := 6) HN.out (by decide +kernel) hk6
  go_wp2_with fail
  refine (WP B g _ nm _ HR.out (by omega)).mono ?_
  rintro e w3 ⟨t, hh, Ai, ci, is, rfl, ho3, ht, hil, hib, hr3, hg3⟩
  have HPO := HP
  have HP := qb (HP.out.grow hg3 (fun j hj => by injection hj with hj; omega))
  have HR := qb hr3
  have HG := qb (jF HG.out hg3)
  have HN := qb ((hg3.block _ hnl2 (by simp; omega)).trans HN.out)
  have hs3 := hg3.size
  have hW1 := YY (hh := hh) (show nm.length <= 100 by omega) ht (show is.length <= 6 by omega) hib
  have HB := qb ((Below.refl w3.heap.size w3).alloc (Nat.le_refl _) (.cells (qC nm t hh Ai is.length ci) 62))
  have HRW := qb (jJ (us := [⟨nm, t, hh, Ai, is.length, ci⟩]) (heap_alloc_new w3 (.cells (qC nm t hh Ai is.length ci) 62)) rfl)
  have ho4 := kC ho3 HB.out
  have HIN : Hid (InF (w3.alloc (.cells (qC nm t hh Ai is.length ci) 62)) (fun j => w.heap.size <= j /\ j < (w3.alloc (.cells (qC nm t hh Ai is.length ci) 62)).heap.size /\ Value.ownBlock (.slice A rs.length c) ≠ some j) ⟨nm, t, hh, is⟩ (FRaw.v ⟨nm, t, hh, Ai, is.length, ci⟩)) := by
   refine ⟨Ai, ci, rfl, ?_, Jp ho3⟩
   intro hne
   obtain ⟨r, rfl, h1, h2⟩ := zJ ho4 (by have : 0 < (qS is).length := List.length_pos_iff.2 hne; simpa [qS] using this)
   obtain ⟨b, o, e, hb, hc⟩ := yi ho4 hne
   injection e with e
   injection e with e1 e2
   subst e1 e2
   exact ⟨_, _, rfl, ⟨by have := HG.out.size; have := HPO.out.own.lt; have := hnl2; omega, h2, fun e => by have := (HPO.out.own.lt _ e).2; omega⟩, hc⟩
  clear ho3 ho4 hr3 hg3 hib
  have hrl : rs.length <= 1000000 := by rw [HP.out.len]; have h8 : xs.length <= fwt xs := (by unfold fwt; omega); omega
  have HPA := qb (HP.out.keep HB.out)
  have HRA := qb (HR.out.keep HB.out)
  have HGA := qb (jF HG.out (jg HB.out (some g)))
  have hsw : w.heap.size <= (w3.alloc (.cells (qC nm t hh Ai is.length ci) 62)).heap.size := HGA.out.size
  have hsv := HG.out.size
  have hql : ∀ j, Value.ownBlock (.slice A rs.length c) = some j -> j < w3.heap.size := fun j hj => (HP.out.own.lt j hj).2
  go_wp2_with (at_builtin; refine jI rfl _ _ rfl w.heap.size A c rs [⟨nm, t, hh, Ai, is.length, ci⟩] (by rfl) HPA.out.own w3.heap.size 0 1 (by rfl) HRW.out (by simp) (by omega) hsw ?_; intro A9 c9 w9 ho9 hg9 hbk9)
  have HP9 := qb (HPA.out.app (ys := [⟨nm, t, hh, is⟩]) ho9 hg9 hbk9 (ElsF.cons HIN.out ElsF.nil))
  have HR9 := qb (HRA.out.frame hg9 (Yb HPA.out.own hlt))
  have HG9 := qb (Ya HGA.out hg9 (Nat.le_refl _) (Yt HPA.out.own))
  have HN9 := qb ((hg9.block _ (by simp; omega) (fun e => HNE.out _ e.symm rfl)).trans ((HB.out.block _ (by omega)).trans HN.out))
  have HNE9 : Hid (∀ j, Value.ownBlock (.slice A9 (rs ++ [(⟨nm, t, hh, Ai, is.length, ci⟩ : FRaw)]).length c9) = some j -> j ≠ w.heap.size + 1) := fun j hj => by
   rw [List.length_append] at hj
   rcases hbk9 with e | e
   ·exact HNE.out j (by rw [<- e]; exact hj)
   have h9 := e.symm.trans hj
   injection h9 with h9
   simp at h9
   omega
  clear ho9 hg9 hbk9
  go_wp2
  go_roundw
  case rel => exact ⟨k + 1, A9, c9, _, _, qk + 1 + 80, by omega, by go_num, by first | rfl | (simp; done), HP9.out, by rw [Yw]; omega, HNE9.out, HN9.out, HR9.out, by omega, HG9.out⟩
  case measure => first | (simp [intOf]; done) | (simp [intOf]; omega)
 go_wp2_with fail
 refine (Yu B g _ n _ HR.out (by omega) hn hn0).mono ?_
 rintro e w2 ⟨bo, rfl, hr2, hg2⟩
 have HP := qb (HP.out.grow hg2 (fun j hj => by injection hj with hj; omega))
 have HR := qb hr2
 have HG := qb (jF HG.out hg2)
 have hgw2 : g < w2.heap.size := HR.out.lt
 clear hr2 hg2 HN HNE
 cases bo
 ·go_wp2
  go_ret
  exact ⟨A, c, rs, xs, rfl, HP.out, by omega, HR.out.more (by omega), HG.out⟩
 go_wp2_with fail
 refine (Yf B g _ 4 _ HR.out (by omega) (by omega) (by omega)).mono ?_
 rintro e wv ⟨z, rfl, hz, hr3, hg3⟩
 have HP := qb (HP.out.grow hg3 (fun j hj => by injection hj with hj; omega))
 have HR := qb hr3
 have HG := qb (jF HG.out hg3)
 clear hr3 hg3
 have hz4 : z = 0 \/ z = 1 \/ z = 2 \/ z = 3 := by omega
 clear hz
 rcases hz4 with rfl | rfl | rfl | rfl
 ·go_wp2_with fail
  refine (Yr B g _ 1 wv HR.out (by omega) (by omega) (by omega)).mono ?_
  rintro e w5 ⟨nm, rfl, hnm, hr5, hg5⟩
  have HP := qb (HP.out.grow hg5 (fun j hj => by injection hj with hj; omega))
  have HR := qb hr5
  have HG := qb (jF HG.out hg5)
  clear hr5 hg5
  have HB := qb ((Below.refl w5.heap.size w5).alloc (Nat.le_refl _) (.cells (qC nm [] false none 0 0) 62))
  have HRW := qb (jJ (us := [⟨nm, [], false, none, 0, 0⟩]) (heap_alloc_new w5 (.cells (qC nm [] false none 0 0) 62)) rfl)
  have hW1 := YY (hh := false) (show nm.length <= 100 by omega) (show ([] : Tx).length <= 100 by simp) (show ([] : List Tx).length <= 6 by simp) (fun x hx => by cases hx)
  have hrl : rs.length <= 1000000 := by rw [HP.out.len]; have h8 : xs.length <= fwt xs := (by unfold fwt; omega); omega
  have HPA := qb (HP.out.keep HB.out)
  have HRA := qb (HR.out.keep HB.out)
  have HGA := qb (jF HG.out (jg HB.out (some g)))
  have hsw : w.heap.size <= (w5.alloc (.cells (qC nm [] false none 0 0) 62)).heap.size := HGA.out.size
  have hsv := HG.out.size
  have hql : ∀ j, Value.ownBlock (.slice A rs.length c) = some j -> j < w5.heap.size := fun j hj => (HP.out.own.lt j hj).2
  go_wp2_with (at_builtin; refine jI rfl _ _ rfl w.heap.size A c rs [⟨nm, [], false, none, 0, 0⟩] (by rfl) HPA.out.own w5.heap.size 0 1 (by rfl) HRW.out (by simp) (by omega) hsw ?_; intro A9 c9 w9 ho9 hg9 hbk9)
  have HP9 := qb (HPA.out.app (ys := [⟨nm, [], false, []⟩]) ho9 hg9 hbk9 (ElsF.cons (vK nm [] false) ElsF.nil))
  have HR9 := qb (HRA.out.frame hg9 (Yb HPA.out.own hlt))
  have HG9 := qb (Ya HGA.out hg9 (Nat.le_refl _) (Yt HPA.out.own))
  go_wp2
  go_ret
  exact ⟨_, _, _, _, (by first | rfl | (simp; done)), HP9.out, by rw [Yw]; omega, HR9.out.more (by omega), HG9.out⟩
 ·
  have HB := qb ((Below.refl wv.heap.size wv).alloc (Nat.le_refl _) (.cells #[sv [115, 97, 109, 101], sv [], .bool false, .slice none 0 0, sv [115, 97, 109, 101], sv [], .bool false, .slice none 0 0] 62))
  have HRW := qb (jJ (us := [⟨[115, 97, 109, 101], [], false, none, 0, 0⟩, ⟨[115, 97, 109, 101], [], false, none, 0, 0⟩]) (heap_alloc_new wv (.cells #[sv [115, 97, 109, 101], sv [], .bool false, .slice none 0 0, sv [115, 97, 109, 101], sv [], .bool false, .slice none 0 0] 62)) rfl)
  have hrl : rs.length <= 1000000 := by rw [HP.out.len]; have h8 : xs.length <= fwt xs := (by unfold fwt; omega); omega
  have HPA := qb (HP.out.keep HB.out)
  have HRA := qb (HR.out.keep HB.out)
  have HGA := qb (jF HG.out (jg HB.out (some g)))
  have hsw : w.heap.size <= (wv.alloc (.cells #[sv [115, 97, 109, 101], sv [], .bool false, .slice none 0 0, sv [115, 97, 109, 101], sv [], .bool false, .slice none 0 0] 62)).heap.size := HGA.out.size
  have hsv := HG.out.size
  have hql : ∀ j, Value.ownBlock (.slice A rs.length c) = some j -> j < wv.heap.size := fun j hj => (HP.out.own.lt j hj).2
  go_wp2_with (at_builtin; refine jI rfl _ _ rfl w.heap.size A c rs [⟨[115, 97, 109, 101], [], false, none, 0, 0⟩, ⟨[115, 97, 109, 101], [], false, none, 0, 0⟩] (by rfl) HPA.out.own wv.heap.size 0 2 (by rfl) HRW.out (by simp) (by omega) hsw ?_; intro A9 c9 w9 ho9 hg9 hbk9)
  have HP9 := qb (HPA.out.app (ys := [⟨[115, 97, 109, 101], [], false, []⟩, ⟨[115, 97, 109, 101], [], false, []⟩]) ho9 hg9 hbk9 (ElsF.cons (vK _ [] false) (ElsF.cons (vK _ [] false) ElsF.nil)))
  have HR9 := qb (HRA.out.frame hg9 (Yb HPA.out.own hlt))
  have HG9 := qb (Ya HGA.out hg9 (Nat.le_refl _) (Yt HPA.out.own))
  go_wp2
  go_ret
  exact ⟨_, _, _, _, (by first | rfl | (simp; done)), HP9.out, by rw [Yw, show fwt [⟨[115, 97, 109, 101], [], false, []⟩, ⟨[115, 97, 109, 101], [], false, []⟩] = 10 from rfl]; omega, HR9.out.more (by omega), HG9.out⟩
 ·
  have HB := qb ((Below.refl wv.heap.size wv).alloc (Nat.le_refl _) (.cells (qC [108, 111, 110, 103] [49, 50, 51, 52, 53, 54, 55, 56, 57, 48, 49, 50, 51, 52, 53, 54, 55, 56, 57, 48, 49, 50, 51, 52, 53, 54, 55, 56, 57, 48, 49, 50, 51, 52, 53, 54, 55, 56, 57, 48, 49] false none 0 0) 62))
  have HRW := qb (jJ (us := [⟨[108, 111, 110, 103], [49, 50, 51, 52, 53, 54, 55, 56, 57, 48, 49, 50, 51, 52, 53, 54, 55, 56, 57, 48, 49, 50, 51, 52, 53, 54, 55, 56, 57, 48, 49, 50, 51, 52, 53, 54, 55, 56, 57, 48, 49], false, none, 0, 0⟩]) (heap_alloc_new wv (.cells (qC [108, 111, 110, 103] [49, 50, 51, 52, 53, 54, 55, 56, 57, 48, 49, 50, 51, 52, 53, 54, 55, 56, 57, 48, 49, 50, 51, 52, 53, 54, 55, 56, 57, 48, 49, 50, 51, 52, 53, 54, 55, 56, 57, 48, 49] false none 0 0) 62)) rfl)
  have hrl : rs.length <= 1000000 := by rw [HP.out.len]; have h8 : xs.length <= fwt xs := (by unfold fwt; omega); omega
  have HPA := qb (HP.out.keep HB.out)
  have HRA := qb (HR.out.keep HB.out)
  have HGA := qb (jF HG.out (jg HB.out (some g)))
  have hsw : w.heap.size <= (wv.alloc (.cells (qC [108, 111, 110, 103] [49, 50, 51, 52, 53, 54, 55, 56, 57, 48, 49, 50, 51, 52, 53, 54, 55, 56, 57, 48, 49, 50, 51, 52, 53, 54, 55, 56, 57, 48, 49, 50, 51, 52, 53, 54, 55, 56, 57, 48, 49] false none 0 0) 62)).heap.size := HGA.out.size
  have hsv := HG.out.size
  have hql : ∀ j, Value.ownBlock (.slice A rs.length c) = some j -> j < wv.heap.size := fun j hj => (HP.out.own.lt j hj).2
  go_wp2_with (at_builtin; refine jI rfl _ _ rfl w.heap.size A c rs [⟨[108, 111, 110, 103], [49, 50, 51, 52, 53, 54, 55, 56, 57, 48, 49, 50, 51, 52, 53, 54, 55, 56, 57, 48, 49, 50, 51, 52, 53, 54, 55, 56, 57, 48, 49, 50, 51, 52, 53, 54, 55, 56, 57, 48, 49], false, none, 0, 0⟩] (by rfl) HPA.out.own wv.heap.size 0 1 (by rfl) HRW.out (by simp) (by omega) hsw ?_; intro A9 c9 w9 ho9 hg9 hbk9)
  have HP9 := qb (HPA.out.app (ys := [⟨[108, 111, 110, 103], [49, 50, 51, 52, 53, 54, 55, 56, 57, 48, 49, 50, 51, 52, 53, 54, 55, 56, 57, 48, 49, 50, 51, 52, 53, 54, 55, 56, 57, 48, 49, 50, 51, 52, 53, 54, 55, 56, 57, 48, 49], false, []⟩]) ho9 hg9 hbk9 (ElsF.cons (vK _ _ false) ElsF.nil))
  have HR9 := qb (HRA.out.frame hg9 (Yb HPA.out.own hlt))
  have HG9 := qb (Ya HGA.out hg9 (Nat.le_refl _) (Yt HPA.out.own))
  go_wp2
  go_ret
  exact ⟨_, _, _, _, (by first | rfl | (simp; done)), HP9.out, by rw [Yw, show fwt [⟨[108, 111, 110, 103], [49, 50, 51, 52, 53, 54, 55, 56, 57, 48, 49, 50, 51, 52, 53, 54, 55, 56, 57, 48, 49, 50, 51, 52, 53, 54, 55, 56, 57, 48, 49, 50, 51, 52, 53, 54, 55, 56, 57, 48, 49], false, []⟩] = 46 from rfl]; omega, HR9.out.more (by omega), HG9.out⟩
 have HB := qb (((Below.refl wv.heap.size wv).alloc (Nat.le_refl _) (.cells #[sv [49], sv [50], sv [51], sv [52], sv [53], sv [54]] 9)).alloc (by simp) (.cells (qC [109, 97, 110, 121] [] false (some ⟨wv.heap.size, 0, none⟩) 6 6) 62))
 have hsx : (wv.alloc (.cells #[sv [49], sv [50], sv [51], sv [52], sv [53], sv [54]] 9)).heap.size = wv.heap.size + 1 := by simp
 have hcl := heap_alloc_new (wv.alloc (.cells #[sv [49], sv [50], sv [51], sv [52], sv [53], sv [54]] 9)) (.cells (qC [109, 97, 110, 121] [] false (some ⟨wv.heap.size, 0, none⟩) 6 6) 62)
 rw [hsx] at hcl
 have HRW := qb (jJ (us := [⟨[109, 97, 110, 121], [], false, some ⟨wv.heap.size, 0, none⟩, 6, 6⟩]) hcl rfl)
 have hit : ((wv.alloc (.cells #[sv [49], sv [50], sv [51], sv [52], sv [53], sv [54]] 9)).alloc (.cells (qC [109, 97, 110, 121] [] false (some ⟨wv.heap.size, 0, none⟩) 6 6) 62)).heap[wv.heap.size]? = some (.cells #[sv [49], sv [50], sv [51], sv [52], sv [53], sv [54]] 9) := (heap_alloc_old (wv.alloc (.cells #[sv [49], sv [50], sv [51], sv [52], sv [53], sv [54]] 9)) (.cells (qC [109, 97, 110, 121] [] false (some ⟨wv.heap.size, 0, none⟩) 6 6) 62) (by simp)).trans (heap_alloc_new wv (.cells #[sv [49], sv [50], sv [51], sv [52], sv [53], sv [54]] 9))
 have HIN : Hid (∀ S : Nat -> Prop, S wv.heap.size -> InF ((wv.alloc (.cells #[sv [49], sv [50], sv [51], sv [52], sv [53], sv [54]] 9)).alloc (.cells (qC [109, 97, 110, 121] [] false (some ⟨wv.heap.size, 0, none⟩) 6 6) 62)) S ⟨[109, 97, 110, 121], [], false, [[49], [50], [51], [52], [53], [54]]⟩ (FRaw.v ⟨[109, 97, 110, 121], [], false, some ⟨wv.heap.size, 0, none⟩, 6, 6⟩)) := fun S h1 => ⟨some ⟨wv.heap.size, 0, none⟩, 6, rfl, (fun _ => ⟨wv.heap.size, 0, rfl, h1, fun j u hu => by rw [Nat.zero_add, cell_of_row _ _ j _ _ _ hit, <- Array.getElem?_toList]; exact hu⟩), Nat.le_refl _⟩
 clear hit hcl hsx
 have hrl : rs.length <= 1000000 := by rw [HP.out.len]; have h8 : xs.length <= fwt xs := (by unfold fwt; omega); omega
 have HPA := qb (HP.out.keep HB.out)
 have HRA := qb (HR.out.keep HB.out)
 have HGA := qb (jF HG.out (jg HB.out (some g)))
 have hsw : w.heap.size <= ((wv.alloc (.cells #[sv [49], sv [50], sv [51], sv [52], sv [53], sv [54]] 9)).alloc (.cells (qC [109, 97, 110, 121] [] false (some ⟨wv.heap.size, 0, none⟩) 6 6) 62)).heap.size := HGA.out.size
 have hsv := HG.out.size
 have hql : ∀ j, Value.ownBlock (.slice A rs.length c) = some j -> j < wv.heap.size := fun j hj => (HP.out.own.lt j hj).2
 go_wp2_with (at_builtin; refine jI rfl _ _ rfl w.heap.size A c rs [⟨[109, 97, 110, 121], [], false, some ⟨wv.heap.size, 0, none⟩, 6, 6⟩] (by rfl) HPA.out.own (wv.heap.size + 1) 0 1 (by rfl) HRW.out (by simp) (by omega) hsw ?_; intro A9 c9 w9 ho9 hg9 hbk9)
 have HP9 := qb (HPA.out.app (ys := [⟨[109, 97, 110, 121], [], false, [[49], [50], [51], [52], [53], [54]]⟩]) ho9 hg9 hbk9 (ElsF.cons (HIN.out _ ⟨by omega, by simp; omega, fun e => by have := hql _ e; omega⟩) ElsF.nil))
 have HR9 := qb (HRA.out.frame hg9 (Yb HPA.out.own hlt))
 have HG9 := qb (Ya HGA.out hg9 (Nat.le_refl _) (Yt HPA.out.own))
 go_wp2
 go_ret
 exact ⟨_, _, _, _, (by first | rfl | (simp; done)), HP9.out, by rw [Yw, show fwt [⟨[109, 97, 110, 121], [], false, [[49], [50], [51], [52], [53], [54]]⟩] = 17 from rfl]; omega, HR9.out.more (by omega), HG9.out⟩
def DrnK (w : World) (B g q : Nat) (e : Ending) (w' : World) : Prop :=
 ∃ A c A2 c2, ∃ x : Dk, e = .returned (dkV A x.parts.length c A2 x.data.length c2) /\ InD w' (fun j => w.heap.size < j /\ j < w'.heap.size) x (dkV A x.parts.length c A2 x.data.length c2) /\ Dk.size x <= 30000 /\ Rdr w' B g (q + 10000) /\ w.grownBy w' (some g)
theorem Ws {w : World} {b : Nat} {c0 c1 : Value} {t : TypeId} (h : w.heap[b]? = some (.cells #[c0, c1] t (0, 0))) :
  (w.cell? ⟨b, 0, none⟩ = some c0 /\ w.cell? ⟨b, 1, none⟩ = some c1) /\ (w.frozen? ⟨b, 0, none⟩ = false /\ w.frozen? ⟨b, 1, none⟩ = false) := by
 simp [World.cell?, World.frozen?, h]
theorem Wf {w : World} {b o : Nat} {v : Value} {p : Addr} (h : p.block ≠ b) : (w.setCell ⟨b, o, none⟩ v).cell? p = w.cell? p := World.cell?_of_block (Below.heap_setCell _ _ _ _ (fun e => h e))
theorem Wj (B g q : Nat) (n : Int) (w : World) (h : Rdr w B g q) (hq : q <= 100000000) (hn : n <= 1000000000) (hn0 : -1000000000 <= n) : Calls Tryz.prog 59 #[.pointer (some ⟨g, 0, none⟩), .int .i64 n] w (DrnK w B g q) := by
 have hlt := h.lt
 have HR := qb (h.keep ((Below.refl w.heap.size w).alloc (Nat.le_refl _) (.cells #[.slice none 0 0, .slice none 0 0] 30)))
 have HZ := qb (heap_alloc_new w (.cells #[.slice none 0 0, .slice none 0 0] 30))
 have hs0 : (w.alloc (.cells #[.slice none 0 0, .slice none 0 0] 30)).heap.size = w.heap.size + 1 := by simp
 have HG := qb (World.grownBy_alloc w (.cells #[.slice none 0 0, .slice none 0 0] 30) (some g))
 clear h
 go_enter func59, ntmps59
 go_upto_region 1 with fail
 generalize w.alloc (.cells #[.slice none 0 0, .slice none 0 0] 30) = w0 at *
 go_wp2_with fail
 refine (Wn B g q n _ HR.out (by omega) hn hn0).mono ?_
 rintro e w1 ⟨A1, c1, rs, xs, rfl, hp, hw1, hr1, hg1⟩
 rw [hp.len]
 have HP := qb hp
 have HR := qb hr1
 have HG := qb (jF HG.out hg1)
 have HZ := qb ((hg1.block w.heap.size (by omega) (by simp; omega)).trans HZ.out)
 have hz1 := hg1.size
 clear hp hr1 hg1
 go_wp2_with fail
 refine (WO B g _ n w1 HR.out (by omega) hn hn0).mono ?_
 rintro e w2 ⟨A2, c2, rs2, ys, rfl, hp2, hw2, hr2, hg2⟩
 rw [hp2.len]
 have HF := qb hp2
 have HP := qb (HP.out.grow hg2 (fun j hj => by injection hj with hj; omega))
 have HR := qb hr2
 have HG := qb (jF HG.out hg2)
 have HZ := qb ((hg2.block w.heap.size (by omega) (by simp; omega)).trans HZ.out)
 have hz2 := hg2.size
 clear hp2 hr2 hg2
 obtain ⟨⟨z0, z1⟩, z2, z3⟩ := Ws HZ.out
 have hgy : w2.grownBy ((w2.setCell ⟨w.heap.size, 0, none⟩ (.slice A1 xs.length c1)).setCell ⟨w.heap.size, 1, none⟩ (.slice A2 ys.length c2)) (some w.heap.size) := vD (vD (xb _ _) 0 _) 1 _
 have HRF := qb ((HR.out.frame hgy (fun k hk => by injection hk with hk; omega)).more (show q + 7010 + 1000 <= q + 10000 by omega))
 have HGF := qb (Ya HG.out hgy (Nat.le_refl _) (fun k hk => by injection hk with hk; omega))
 have hk : ∀ p : Addr, w.heap.size < p.block -> ((w2.setCell ⟨w.heap.size, 0, none⟩ (.slice A1 xs.length c1)).setCell ⟨w.heap.size, 1, none⟩ (.slice A2 ys.length c2)).cell? p = w2.cell? p := fun p hp => by rw [Wf (by omega), Wf (by omega)]
 have HIN : Hid (InD ((w2.setCell ⟨w.heap.size, 0, none⟩ (.slice A1 xs.length c1)).setCell ⟨w.heap.size, 1, none⟩ (.slice A2 ys.length c2)) (fun j => w.heap.size < j /\ j < ((w2.setCell ⟨w.heap.size, 0, none⟩ (.slice A1 xs.length c1)).setCell ⟨w.heap.size, 1, none⟩ (.slice A2 ys.length c2)).heap.size) ⟨xs, ys⟩ (dkV A1 xs.length c1 A2 ys.length c2)) :=
  ⟨A1, c1, A2, c2, rfl, HP.out.rd.keep (fun p hp => hk p (by have := hp.1; omega)) (fun j hj => ⟨by have := hj.1; omega, by have := hj.2; simpa [World.setCell] using this⟩), by rw [<- HP.out.len]; exact HP.out.cap, HF.out.rd.keep (fun p hp => hk p (by have := hp.1; omega)) (fun j hj => ⟨by have := hj.1; omega, by have := hj.2; simpa [World.setCell] using this⟩), by rw [<- HF.out.len]; exact HF.out.cap⟩
 clear hgy hk
 go_wp2_with fail
 refine bodyPost_ret (v := dkV A1 xs.length c1 A2 ys.length c2) (by simp [results, results59, go_sem, *]) rfl ?_
 exact ⟨A1, c1, A2, c2, ⟨xs, ys⟩, rfl, HIN.out, by unfold Dk.size; unfold wt at hw1; unfold fwt at hw2; show xs.length + Pt.sizes xs + (ys.length + Fd.sizes ys) <= 30000; omega, HRF.out, HGF.out⟩
end Go.Proofs.YtmboieajfdkllaaGreat
