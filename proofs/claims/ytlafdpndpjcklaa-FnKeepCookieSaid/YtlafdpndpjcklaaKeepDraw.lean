/- A drawn cookie besides drawn cookies, and a drawn time: a walk. -/
import Derived.Test.YtlafdpndpjcklaaCookiesDraw
import Derived.Test.YtlafdpndpjcklaaTypedS
namespace Go.Proofs.Ytlafdpndpjcklaa
open Go.RowKit

/-- a box of cells of its own, made since the block B -/
def tBoxN (g B : Nat) (cs : Array Value) (t : TypeId) : Ty := fun w v => ∃ b, v = .pointer (some ⟨b, 0, none⟩) ∧ b ≠ g ∧ B ≤ b ∧ w.heap[b]? = some (.cells cs t (0, 0))
theorem stays_tBoxN {g B : Nat} {cs : Array Value} {t : TypeId} : Stays g (tBoxN g B cs t) := fun _ _ _ hk ⟨b, h1, h2, h3, h4⟩ => ⟨b, h1, h2, h3, kp_block hk h2 h4⟩
theorem num_quo {w : World} (k : Nat) (_ : Nat) (h : (k : Int) < 9) : tInt 0 1 w (.int .i64 (IntKind.i64.wrap ((k : Int) / 8))) := by
  have h9 : k = 0 ∨ k = 1 ∨ k = 2 ∨ k = 3 ∨ k = 4 ∨ k = 5 ∨ k = 6 ∨ k = 7 ∨ k = 8 := by omega
  rcases h9 with rfl | rfl | rfl | rfl | rfl | rfl | rfl | rfl | rfl <;> exact ⟨_, rfl, by decide, by decide⟩
def tCk2 (B : Nat) : Ty := fun _ v => ∃ a b : Tx, ∃ z : Int, v = .agg #[sv a, sv b, .int .i64 z] ∧ a.length ≤ B ∧ b.length ≤ B ∧ 0 ≤ z ∧ z ≤ 10000
theorem stays_tCk2 {g n : Nat} : Stays g (tCk2 n) := fun _ _ _ _ h => h
theorem own_at {w w' : World} {base size n : Nat} {e : TypeId} {v : Value} {xs : List Value} (h : w.ownsRow base e size v n xs) (hk : ∀ g, v.ownBlock = some g → w'.heap[g]? = w.heap[g]?) : w'.ownsRow base e size v n xs := by
  refine ⟨h.1, ?_⟩
  rcases h.2 with hn | ⟨g, cap, cur, rfl, hb, hgg, rest⟩
  · exact .inl hn
  · refine .inr ⟨g, cap, cur, rfl, hb, ?_, rest⟩
    rw [hk g rfl]
    exact hgg
theorem lt_of_block3 {w : World} {b : Nat} {x : Obj} (h : w.heap[b]? = some x) : b < w.heap.size := by
  rcases Nat.lt_or_ge b w.heap.size with h1 | h1
  · exact h1
  · rw [Array.getElem?_eq_none h1] at h; cases h
def GoodK (a b : Tx) (u : Int) (k : Nat) (w : World) : Prop := w.heap[k]? = some (.cells #[sv a, sv b, .int .i64 u] 25 (0, 0))
theorem solid_goodK {g : Nat} {R : List Nat} {a b : Tx} {u : Int} : Solid g R (GoodK a b u) := fun _ _ _ _ _ h => ⟨lt_of_block3 h, fun e => e.trans h⟩
/-- the call drew cookies, one more and a time -/
def DrewK (w : World) (e : Ending) (w' : World) : Prop :=
  ∃ A c ps, ∃ a b : Tx, ∃ u now : Int, e = .returned (.tuple #[.slice A (List.length ps) c, .agg #[sv a, sv b, .int .i64 u], .int .i64 now]) ∧ OwnC w' w.heap.size A c ps ∧ SmallC ps ∧ ps.length ≤ 10 ∧ a.length ≤ 100 ∧ b.length ≤ 100 ∧ (0 ≤ u ∧ u ≤ 10000) ∧ (-1 ≤ now ∧ now ≤ 10000) ∧ Below w.heap.size w w'
set_option maxRecDepth 100000 in
set_option maxHeartbeats 4000000 in
theorem spec_DrawKeepCookie (bs : Tx) (A : Option Addr) (c : Nat) (w : World) (hr : Rd w w.heap.size A (bcells bs)) (hc : bs.length ≤ c) (hm : bs.length ≤ 1048576) :
    Calls Try.prog 4 #[.slice A bs.length c] w (DrewK w) := by
  have HA := Lib.hid ((Below.refl w.heap.size w).alloc (Nat.le_refl _) (.cells #[.string ⟨#[]⟩, .string ⟨#[]⟩, .int .i64 0] 25))
  have HR := Lib.hid (hr.below HA.out)
  have HZ0 := Lib.hid (heap_alloc_new w (.cells #[.string ⟨#[]⟩, .string ⟨#[]⟩, .int .i64 0] 25))
  clear hr
  go_enter Try.func4, Try.ntmps4
  go_wp2_with fail
  refine (spec_l20Open bs w.heap.size A c _ HR.out HA.out.size hc hm).mono ?_
  rintro e w1 ⟨rfl, hr1, hb1⟩
  have HR1 : Hid (Rdr w1 w.heap.size (w.heap.size + 1) 0) := by show Rdr _ _ _ _; simpa using hr1
  have HB1 := Lib.hid (HA.out.trans (hb1.mono HA.out.size))
  have HZ1 := Lib.hid ((hb1.block w.heap.size (by simp)).trans HZ0.out)
  have hl1 : w.heap.size + 1 < w1.heap.size := HR1.out.lt
  clear hr1 hb1
  go_wp2_with fail
  refine (spec_l20Cookies w.heap.size (w.heap.size + 1) 0 _ _ HR1.out (by omega) (by omega) (by omega)).mono ?_
  rintro e w2 ⟨A2, c2, ps, rfl, ho2, hs2, hn2, hr2, hg2⟩
  have HS2 := Lib.hid hs2
  have HO2 := Lib.hid ho2
  have HR2 := Lib.hid hr2
  have HZ2 := Lib.hid ((hg2.block w.heap.size (by omega) (by simp)).trans HZ1.out)
  have HB2 := Lib.hid (HB1.out.trans (grown_to_below hg2 HB1.out.size (fun g h => by injection h; omega)))
  have hz2 := hg2.size
  clear ho2 hs2 hr2 hg2
  go_wp2_with fail
  refine wp_region_typed 26 (by kernel_rfl) (by kernel_rfl) (DW w2 w.heap.size (w.heap.size + 1) (0 + 200)) (Kp (w.heap.size + 1)) (fun i => ([tRow (w.heap.size + 1) 4 (cTxt 100 4), tRow (w.heap.size + 1) 5 (cInt 0 3 5), tIs (.pointer (some ⟨w.heap.size + 1, 0, none⟩)), tNum 5, tAdrI (w.heap.size + 1) 0 3, tInt 0 3, tAdrS (w.heap.size + 1) 100, tTxt 100, tRow (w.heap.size + 1) 2 (cTxt 100 2), tIs (.pointer (some ⟨w.heap.size + 1, 0, none⟩)), tNum 9, tInt 0 1, tAdrS (w.heap.size + 1) 100, tTxt 100, tIs (.pointer (some ⟨w.heap.size + 1, 0, none⟩)), tNum 40, tRow (w.heap.size + 1) 3 (cInt 0 10000 3), tRow (w.heap.size + 1) 5 (cInt 0 2 5), tIs (.pointer (some ⟨w.heap.size + 1, 0, none⟩)), tNum 5, tAdrI (w.heap.size + 1) 0 2, tInt 0 2, tAdrI (w.heap.size + 1) 0 10000, tInt 0 10000, tCk2 100, tBoxN (w.heap.size + 1) w2.heap.size #[.string ⟨#[]⟩, .string ⟨#[]⟩, .int .i64 0] 25] : List Ty).getD i tAny) ?hW ?hkeep ?hstep ?hfin
  case hkeep =>
    refine all_lt_succ (all_lt_succ (all_lt_succ (all_lt_succ (all_lt_succ (all_lt_succ (all_lt_succ (all_lt_succ (all_lt_succ (all_lt_succ (all_lt_succ (all_lt_succ (all_lt_succ (all_lt_succ (all_lt_succ (all_lt_succ (all_lt_succ (all_lt_succ (all_lt_succ (all_lt_succ (all_lt_succ (all_lt_succ (all_lt_succ (all_lt_succ (all_lt_succ (all_lt_succ all_lt_zero ?_) ?_) ?_) ?_) ?_) ?_) ?_) ?_) ?_) ?_) ?_) ?_) ?_) ?_) ?_) ?_) ?_) ?_) ?_) ?_) ?_) ?_) ?_) ?_) ?_) ?_
    · exact stays_row _ _
    · exact stays_row _ _
    · exact stays_is _
    · exact stays_num _
    · exact stays_adrI _ _
    · exact stays_int _ _
    · exact stays_adrS _
    · exact stays_txt _
    · exact stays_row _ _
    · exact stays_is _
    · exact stays_num _
    · exact stays_int _ _
    · exact stays_adrS _
    · exact stays_txt _
    · exact stays_is _
    · exact stays_num _
    · exact stays_row _ _
    · exact stays_row _ _
    · exact stays_is _
    · exact stays_num _
    · exact stays_adrI _ _
    · exact stays_int _ _
    · exact stays_adrI _ _
    · exact stays_int _ _
    · exact stays_tCk2
    · exact stays_tBoxN
  case hstep =>
    refine all_lt_succ (all_lt_succ (all_lt_succ (all_lt_succ (all_lt_succ (all_lt_succ (all_lt_succ (all_lt_succ (all_lt_succ (all_lt_succ (all_lt_succ (all_lt_succ (all_lt_succ (all_lt_succ (all_lt_succ (all_lt_succ (all_lt_succ (all_lt_succ (all_lt_succ (all_lt_succ (all_lt_succ (all_lt_succ (all_lt_succ (all_lt_succ (all_lt_succ (all_lt_succ all_lt_zero ?_) ?_) ?_) ?_) ?_) ?_) ?_) ?_) ?_) ?_) ?_) ?_) ?_) ?_) ?_) ?_) ?_) ?_) ?_) ?_) ?_) ?_) ?_) ?_) ?_) ?_
    · (intro o ho m a w1 hm hW hb hd K Q hK; obtain rfl := Option.some.inj ho; go_simp; exact hK _ _ (hW.next ((Below.refl _ _).alloc (Nat.le_refl _) _)) (kp_below ((Below.refl _ _).alloc (Nat.le_refl _) _)) ⟨_, _, _, _, rfl, hW.new, heap_alloc_new w1 _, by decide +kernel⟩)
    · (intro o ho m a w1 hm hW hb hd K Q hK; obtain rfl := Option.some.inj ho; go_simp; exact hK _ _ (hW.next ((Below.refl _ _).alloc (Nat.le_refl _) _)) (kp_below ((Below.refl _ _).alloc (Nat.le_refl _) _)) ⟨_, _, _, _, rfl, hW.new, heap_alloc_new w1 _, by decide +kernel⟩)
    · (intro o ho m a w1 hm hW hb hd K Q hK; obtain rfl := Option.some.inj ho; have e0 : a.tmps[5]?.getD undef = (.pointer (some ⟨w.heap.size + 1, 0, none⟩)) := (by rw [hb 5 (by decide +kernel)]; simp); go_simp; exact hK _ _ hW.same (kp_refl _) rfl)
    · (intro o ho m a w1 hm hW hb hd K Q hK; obtain rfl := Option.some.inj ho; have e1 := slotE (hd 2 (by kernel_rfl) 14 rfl); go_simp; refine (spec_pick _ _ _ _ w1 hW.1 (by omega) (by omega) (by omega)).mono ?_; rintro e w2 ⟨k, rfl, hk, hr2, hg2⟩; exact hK _ _ ⟨hr2.more (by omega), grown_trans hW.2 hg2⟩ hg2 ⟨k, rfl, hk⟩)
    · (intro o ho m a w1 hm hW hb hd K Q hK; obtain rfl := Option.some.inj ho; obtain ⟨b, cs, t, fr, e1, hbg, hh, hC⟩ := (hd 1 (by kernel_rfl) 13 rfl); obtain ⟨k, e2, hk⟩ := (hd 3 (by kernel_rfl) 15 rfl); have e1 := slotE e1; have e2 := slotE e2; have hk2 := num_lt hk (by omega); go_simp; exact hK _ _ hW.same (kp_refl _) (row_int hbg hh hC (by omega)))
    · (intro o ho m a w1 hm hW hb hd K Q hK; obtain rfl := Option.some.inj ho; obtain ⟨b, o, x, e1, hbg, hc, hx⟩ := (hd 4 (by kernel_rfl) 16 rfl); have e1 := slotE e1; go_simp; exact hK _ _ hW.same (kp_refl _) ⟨x, rfl, hx⟩)
    · (intro o ho m a w1 hm hW hb hd K Q hK; obtain rfl := Option.some.inj ho; obtain ⟨b, cs, t, fr, e1, hbg, hh, hC⟩ := (hd 0 (by kernel_rfl) 12 rfl); obtain ⟨z, e2, hz0, hz1⟩ := (hd 5 (by kernel_rfl) 17 rfl); obtain ⟨k, rfl⟩ := Int.eq_ofNat_of_zero_le hz0; have e1 := slotE e1; have e2 := slotE e2; have hk2 : (k : Int) < 4 := (by omega); go_simp; exact hK _ _ hW.same (kp_refl _) (row_txt hbg hh hC (by omega)))
    · (intro o ho m a w1 hm hW hb hd K Q hK; obtain rfl := Option.some.inj ho; obtain ⟨b, o, x, e1, hbg, hc, hx⟩ := (hd 6 (by kernel_rfl) 18 rfl); have e1 := slotE e1; go_simp; exact hK _ _ hW.same (kp_refl _) ⟨x, rfl, hx⟩)
    · (intro o ho m a w1 hm hW hb hd K Q hK; obtain rfl := Option.some.inj ho; go_simp; exact hK _ _ (hW.next ((Below.refl _ _).alloc (Nat.le_refl _) _)) (kp_below ((Below.refl _ _).alloc (Nat.le_refl _) _)) ⟨_, _, _, _, rfl, hW.new, heap_alloc_new w1 _, by decide +kernel⟩)
    · (intro o ho m a w1 hm hW hb hd K Q hK; obtain rfl := Option.some.inj ho; have e0 : a.tmps[5]?.getD undef = (.pointer (some ⟨w.heap.size + 1, 0, none⟩)) := (by rw [hb 5 (by decide +kernel)]; simp); go_simp; exact hK _ _ hW.same (kp_refl _) rfl)
    · (intro o ho m a w1 hm hW hb hd K Q hK; obtain rfl := Option.some.inj ho; have e1 := slotE (hd 9 (by kernel_rfl) 21 rfl); go_simp; refine (spec_pick _ _ _ _ w1 hW.1 (by omega) (by omega) (by omega)).mono ?_; rintro e w2 ⟨k, rfl, hk, hr2, hg2⟩; exact hK _ _ ⟨hr2.more (by omega), grown_trans hW.2 hg2⟩ hg2 ⟨k, rfl, hk⟩)
    · (intro o ho m a w1 hm hW hb hd K Q hK; obtain rfl := Option.some.inj ho; obtain ⟨k, e1, hk⟩ := (hd 10 (by kernel_rfl) 22 rfl); have e1 := slotE e1; go_simp; exact hK _ _ hW.same (kp_refl _) (num_quo (w := w1) k 8 (by omega)))
    · (intro o ho m a w1 hm hW hb hd K Q hK; obtain rfl := Option.some.inj ho; obtain ⟨b, cs, t, fr, e1, hbg, hh, hC⟩ := (hd 8 (by kernel_rfl) 20 rfl); obtain ⟨z, e2, hz0, hz1⟩ := (hd 11 (by kernel_rfl) 23 rfl); obtain ⟨k, rfl⟩ := Int.eq_ofNat_of_zero_le hz0; have e1 := slotE e1; have e2 := slotE e2; have hk2 : (k : Int) < 2 := (by omega); go_simp; exact hK _ _ hW.same (kp_refl _) (row_txt hbg hh hC (by omega)))
    · (intro o ho m a w1 hm hW hb hd K Q hK; obtain rfl := Option.some.inj ho; obtain ⟨b, o, x, e1, hbg, hc, hx⟩ := (hd 12 (by kernel_rfl) 24 rfl); have e1 := slotE e1; go_simp; exact hK _ _ hW.same (kp_refl _) ⟨x, rfl, hx⟩)
    · (intro o ho m a w1 hm hW hb hd K Q hK; obtain rfl := Option.some.inj ho; have e0 : a.tmps[5]?.getD undef = (.pointer (some ⟨w.heap.size + 1, 0, none⟩)) := (by rw [hb 5 (by decide +kernel)]; simp); go_simp; exact hK _ _ hW.same (kp_refl _) rfl)
    · (intro o ho m a w1 hm hW hb hd K Q hK; obtain rfl := Option.some.inj ho; have e1 := slotE (hd 14 (by kernel_rfl) 26 rfl); go_simp; refine (spec_pick _ _ _ _ w1 hW.1 (by omega) (by omega) (by omega)).mono ?_; rintro e w2 ⟨k, rfl, hk, hr2, hg2⟩; exact hK _ _ ⟨hr2.more (by omega), grown_trans hW.2 hg2⟩ hg2 ⟨k, rfl, hk⟩)
    · (intro o ho m a w1 hm hW hb hd K Q hK; obtain rfl := Option.some.inj ho; obtain ⟨k, e1, hk⟩ := (hd 15 (by kernel_rfl) 27 rfl); have e1 := slotE e1; go_simp; exact hK _ _ (hW.next ((Below.refl _ _).alloc (Nat.le_refl _) _)) (kp_below ((Below.refl _ _).alloc (Nat.le_refl _) _)) ⟨_, _, _, _, rfl, hW.new, heap_alloc_new w1 _, by show okI _ _ _ _ = true; simp [okI]; omega⟩)
    · (intro o ho m a w1 hm hW hb hd K Q hK; obtain rfl := Option.some.inj ho; go_simp; exact hK _ _ (hW.next ((Below.refl _ _).alloc (Nat.le_refl _) _)) (kp_below ((Below.refl _ _).alloc (Nat.le_refl _) _)) ⟨_, _, _, _, rfl, hW.new, heap_alloc_new w1 _, by decide +kernel⟩)
    · (intro o ho m a w1 hm hW hb hd K Q hK; obtain rfl := Option.some.inj ho; have e0 : a.tmps[5]?.getD undef = (.pointer (some ⟨w.heap.size + 1, 0, none⟩)) := (by rw [hb 5 (by decide +kernel)]; simp); go_simp; exact hK _ _ hW.same (kp_refl _) rfl)
    · (intro o ho m a w1 hm hW hb hd K Q hK; obtain rfl := Option.some.inj ho; have e1 := slotE (hd 18 (by kernel_rfl) 30 rfl); go_simp; refine (spec_pick _ _ _ _ w1 hW.1 (by omega) (by omega) (by omega)).mono ?_; rintro e w2 ⟨k, rfl, hk, hr2, hg2⟩; exact hK _ _ ⟨hr2.more (by omega), grown_trans hW.2 hg2⟩ hg2 ⟨k, rfl, hk⟩)
    · (intro o ho m a w1 hm hW hb hd K Q hK; obtain rfl := Option.some.inj ho; obtain ⟨b, cs, t, fr, e1, hbg, hh, hC⟩ := (hd 17 (by kernel_rfl) 29 rfl); obtain ⟨k, e2, hk⟩ := (hd 19 (by kernel_rfl) 31 rfl); have e1 := slotE e1; have e2 := slotE e2; have hk2 := num_lt hk (by omega); go_simp; exact hK _ _ hW.same (kp_refl _) (row_int hbg hh hC (by omega)))
    · (intro o ho m a w1 hm hW hb hd K Q hK; obtain rfl := Option.some.inj ho; obtain ⟨b, o, x, e1, hbg, hc, hx⟩ := (hd 20 (by kernel_rfl) 32 rfl); have e1 := slotE e1; go_simp; exact hK _ _ hW.same (kp_refl _) ⟨x, rfl, hx⟩)
    · (intro o ho m a w1 hm hW hb hd K Q hK; obtain rfl := Option.some.inj ho; obtain ⟨b, cs, t, fr, e1, hbg, hh, hC⟩ := (hd 16 (by kernel_rfl) 28 rfl); obtain ⟨z, e2, hz0, hz1⟩ := (hd 21 (by kernel_rfl) 33 rfl); obtain ⟨k, rfl⟩ := Int.eq_ofNat_of_zero_le hz0; have e1 := slotE e1; have e2 := slotE e2; have hk2 : (k : Int) < 3 := (by omega); go_simp; exact hK _ _ hW.same (kp_refl _) (row_int hbg hh hC (by omega)))
    · (intro o ho m a w1 hm hW hb hd K Q hK; obtain rfl := Option.some.inj ho; obtain ⟨b, o, x, e1, hbg, hc, hx⟩ := (hd 22 (by kernel_rfl) 34 rfl); have e1 := slotE e1; go_simp; exact hK _ _ hW.same (kp_refl _) ⟨x, rfl, hx⟩)
    · (intro o ho m a w1 hm hW hb hd K Q hK; obtain rfl := Option.some.inj ho; obtain ⟨x, e1, hx⟩ := (hd 7 (by kernel_rfl) 19 rfl); obtain ⟨y, e2, hy⟩ := (hd 13 (by kernel_rfl) 25 rfl); obtain ⟨z, e3, hz0, hz1⟩ := (hd 23 (by kernel_rfl) 35 rfl); have e1 := slotE e1; have e2 := slotE e2; have e3 := slotE e3; go_simp; exact hK _ _ hW.same (kp_refl _) ⟨x, y, _, rfl, hx, hy, by omega, by omega⟩)
    · (intro o ho m a w1 hm hW hb hd K Q hK; obtain rfl := Option.some.inj ho; go_simp; exact hK _ _ (hW.next ((Below.refl _ _).alloc (Nat.le_refl _) _)) (kp_below ((Below.refl _ _).alloc (Nat.le_refl _) _)) ⟨_, rfl, hW.new, (by have hzz := hW.2.size; first | exact hzz | (simp at hzz; omega)), heap_alloc_new w1 _⟩)
  case hW => exact ⟨(HR2.out.keep (Below.refl _ _).drew).more (by omega), grown_drew (grown_refl _ _)⟩
  case hfin =>
    intro vs w3 hW hF
    simp only [putAll, hdst, List.getElem?_cons_succ, List.getElem?_cons_zero, Option.bind, List.drop_succ_cons, List.drop_zero, Act.put]
    obtain ⟨ta, tb, u, h24, ha, hb, hu0, hu1⟩ := hF 24 (by omega)
    obtain ⟨n, h25, hng, hnB, hnn⟩ := hF 25 (by omega)
    rw [h24, h25]
    obtain ⟨hr3, hg3⟩ := hW
    have hO3 := own_g HO2.out hg3 hl1
    have hZ3 : w3.heap[w.heap.size]? = some (.cells #[.string ⟨#[]⟩, .string ⟨#[]⟩, .int .i64 0] 25 (0, 0)) := (hg3.block w.heap.size (by omega) (by simp)).trans HZ2.out
    have hst := chg_set3 (v0 := sv ta) (v1 := sv tb) (v2 := .int .i64 u) hnn
    have hrow : ∀ g, Value.ownBlock (.slice A2 ps.length c2) = some g → w1.heap.size ≤ g ∧ g < w2.heap.size := fun g hg => HO2.out.lt g hg
    have HB3 := Lib.hid (HB2.out.trans (grown_to_below hg3 HB2.out.size (fun g h => by injection h; omega)))
    have hz3 := hg3.size
    have hnl : n < w3.heap.size := lt_of_block3 hnn
    obtain ⟨⟨f0, f1, f2⟩, f3, f4, f5⟩ := box_threeQ hnn
    have HR4 := Lib.hid (rdr_chg hr3 hst.1 (by simp; omega) (fun j hj => by simp at hj; omega))
    have HO4 := Lib.hid (own_at hO3 (fun g hg => hst.1.block g (by have := hrow g hg; omega) (by have := hrow g hg; simp; omega)))
    have HZ4 := Lib.hid ((hst.1.block w.heap.size (by omega) (by simp; omega)).trans hZ3)
    have HB4 := Lib.hid (HB3.out.trans (hst.1.below (B := w.heap.size) (by omega) (by simp; omega)))
    have HX4 := Lib.hid (And.intro hst.2 (And.intro hng (show n ∉ [w.heap.size] by simp; omega)))
    have hz4 := hst.1.size
    clear hF h24 h25 hr3 hg3 hO3 hZ3 hst hnn
    go_simp
    go_upto_region 4 with fail
    generalize ((w3.setCell ⟨n, 0, none⟩ (sv ta)).setCell ⟨n, 1, none⟩ (sv tb)).setCell ⟨n, 2, none⟩ (.int .i64 u) = w4 at *
    clear f0 f1 f2 f3 f4 f5
    have hgW : w.heap.size + 1 < w4.heap.size := by omega
    have HSOLID := Lib.hid (solid_goodK (g := w.heap.size + 1) (R := [w.heap.size]) (a := ta) (b := tb) (u := u))
    go_wp2_with fail
    refine wp_region_all 15 (by kernel_rfl) (by kernel_rfl) (by kernel_rfl) (DWQ w4 w.heap.size (w.heap.size + 1) [w.heap.size] 25 3 (0 + 200 + 26) 1) (Kq (w.heap.size + 1) [w.heap.size] (GoodK ta tb u)) (fun i => ([tIs (.slice A2 ps.length c2), tIs (.agg #[sv ta, sv tb, .int .i64 u]), tIs (.pointer (some ⟨w.heap.size + 1, 0, none⟩)), tNum 40, qRow (w.heap.size + 1) [w.heap.size] 3 (cInt (-1) 10000 3), qRow (w.heap.size + 1) [w.heap.size] 6 (cInt 0 2 6), tIs (.pointer (some ⟨w.heap.size + 1, 0, none⟩)), tNum 6, qAdrI (w.heap.size + 1) [w.heap.size] 0 2, tInt 0 2, qAdrI (w.heap.size + 1) [w.heap.size] (-1) 10000, tInt (-1) 10000, tIs (.slice A2 ps.length c2), qGood (GoodK ta tb u) w.heap.size, tInt (-1) 10000] : List Ty).getD i tAny) ?hWsS1 ?hkeepS1 ?hstepS1 ?hfinsS1
    case hkeepS1 =>
      refine all_lt_succ (all_lt_succ (all_lt_succ (all_lt_succ (all_lt_succ (all_lt_succ (all_lt_succ (all_lt_succ (all_lt_succ (all_lt_succ (all_lt_succ (all_lt_succ (all_lt_succ (all_lt_succ (all_lt_succ all_lt_zero ?_) ?_) ?_) ?_) ?_) ?_) ?_) ?_) ?_) ?_) ?_) ?_) ?_) ?_) ?_
      · exact staysQ_tIs
      · exact staysQ_tIs
      · exact staysQ_tIs
      · exact staysQ_tNum
      · exact staysQ_qRow
      · exact staysQ_qRow
      · exact staysQ_tIs
      · exact staysQ_tNum
      · exact staysQ_qAdrI
      · exact staysQ_tInt
      · exact staysQ_qAdrI
      · exact staysQ_tInt
      · exact staysQ_tIs
      · exact stays_qGood HSOLID.out (by simp)
      · exact staysQ_tInt
    case hstepS1 =>
      refine all_lt_succ (all_lt_succ (all_lt_succ (all_lt_succ (all_lt_succ (all_lt_succ (all_lt_succ (all_lt_succ (all_lt_succ (all_lt_succ (all_lt_succ (all_lt_succ (all_lt_succ (all_lt_succ (all_lt_succ all_lt_zero ?_) ?_) ?_) ?_) ?_) ?_) ?_) ?_) ?_) ?_) ?_) ?_) ?_) ?_) ?_
      · (intro o ho m a w1 hm hW hb hd K Q hK; obtain rfl := Option.some.inj ho; have e0 : a.tmps[6]?.getD undef = (.slice A2 ps.length c2) := (by rw [hb 6 (by decide +kernel)]; simp); go_simp; exact hK _ _ hW.same kq_refl rfl)
      · (intro o ho m a w1 hm hW hb hd K Q hK; obtain rfl := Option.some.inj ho; have e0 : a.tmps[7]?.getD undef = .pointer (some ⟨n, 0, none⟩) := (by rw [hb 7 (by decide +kernel)]; simp); have hbl := hW.old HX4.out; obtain ⟨⟨q0, q1, q2⟩, -⟩ := box_threeQ hbl; go_simp; exact hK _ _ hW.same kq_refl rfl)
      · (intro o ho m a w1 hm hW hb hd K Q hK; obtain rfl := Option.some.inj ho; have e0 : a.tmps[5]?.getD undef = (.pointer (some ⟨w.heap.size + 1, 0, none⟩)) := (by rw [hb 5 (by decide +kernel)]; simp); go_simp; exact hK _ _ hW.same kq_refl rfl)
      · (intro o ho m a w1 hm hW hb hd K Q hK; obtain rfl := Option.some.inj ho; have e1 := slotE (hd 2 (by kernel_rfl) 39 rfl); go_simp; have hm2 := Nat.mul_le_mul_right (1) (Nat.le_of_lt hm); refine (spec_pick _ _ _ _ w1 hW.rdr (by omega) (by omega) (by omega)).mono ?_; rintro e w2 ⟨k, rfl, hk, hr2, hg2⟩; exact hK _ _ (hW.call (hr2.more (by rw [Nat.succ_mul m]; omega)) hg2) (kq_kp hg2 hW.ne) ⟨k, rfl, hk⟩)
      · (intro o ho m a w1 hm hW hb hd K Q hK; obtain rfl := Option.some.inj ho; obtain ⟨k, e1, hk⟩ := (hd 3 (by kernel_rfl) 40 rfl); have e1 := slotE e1; go_simp; exact hK _ _ (hW.next ((Below.refl _ _).alloc (Nat.le_refl _) _)) (kq_below ((Below.refl _ _).alloc (Nat.le_refl _) _)) ⟨_, _, _, _, rfl, hW.new, hW.new2, heap_alloc_new w1 _, by show okI _ _ _ _ = true; simp [okI]; omega⟩)
      · (intro o ho m a w1 hm hW hb hd K Q hK; obtain rfl := Option.some.inj ho; go_simp; exact hK _ _ (hW.next ((Below.refl _ _).alloc (Nat.le_refl _) _)) (kq_below ((Below.refl _ _).alloc (Nat.le_refl _) _)) ⟨_, _, _, _, rfl, hW.new, hW.new2, heap_alloc_new w1 _, by decide +kernel⟩)
      · (intro o ho m a w1 hm hW hb hd K Q hK; obtain rfl := Option.some.inj ho; have e0 : a.tmps[5]?.getD undef = (.pointer (some ⟨w.heap.size + 1, 0, none⟩)) := (by rw [hb 5 (by decide +kernel)]; simp); go_simp; exact hK _ _ hW.same kq_refl rfl)
      · (intro o ho m a w1 hm hW hb hd K Q hK; obtain rfl := Option.some.inj ho; have e1 := slotE (hd 6 (by kernel_rfl) 43 rfl); go_simp; have hm2 := Nat.mul_le_mul_right (1) (Nat.le_of_lt hm); refine (spec_pick _ _ _ _ w1 hW.rdr (by omega) (by omega) (by omega)).mono ?_; rintro e w2 ⟨k, rfl, hk, hr2, hg2⟩; exact hK _ _ (hW.call (hr2.more (by rw [Nat.succ_mul m]; omega)) hg2) (kq_kp hg2 hW.ne) ⟨k, rfl, hk⟩)
      · (intro o ho m a w1 hm hW hb hd K Q hK; obtain rfl := Option.some.inj ho; obtain ⟨b, cs, t, fr, e1, hbg, hbq, hh, hC⟩ := (hd 5 (by kernel_rfl) 42 rfl); obtain ⟨k, e2, hk⟩ := (hd 7 (by kernel_rfl) 44 rfl); have e1 := slotE e1; have e2 := slotE e2; have hk2 := num_lt hk (by omega); go_simp; exact hK _ _ hW.same kq_refl (rowQ_int hbg hbq hh hC (by omega)))
      · (intro o ho m a w1 hm hW hb hd K Q hK; obtain rfl := Option.some.inj ho; obtain ⟨b, o, x, e1, hbg, hbq, hc, hx⟩ := (hd 8 (by kernel_rfl) 45 rfl); have e1 := slotE e1; go_simp; exact hK _ _ hW.same kq_refl ⟨x, rfl, hx⟩)
      · (intro o ho m a w1 hm hW hb hd K Q hK; obtain rfl := Option.some.inj ho; obtain ⟨b, cs, t, fr, e1, hbg, hbq, hh, hC⟩ := (hd 4 (by kernel_rfl) 41 rfl); obtain ⟨z, e2, hz0, hz1⟩ := (hd 9 (by kernel_rfl) 46 rfl); obtain ⟨k, rfl⟩ := Int.eq_ofNat_of_zero_le hz0; have e1 := slotE e1; have e2 := slotE e2; have hk2 : (k : Int) < 3 := (by omega); go_simp; exact hK _ _ hW.same kq_refl (rowQ_int hbg hbq hh hC (by omega)))
      · (intro o ho m a w1 hm hW hb hd K Q hK; obtain rfl := Option.some.inj ho; obtain ⟨b, o, x, e1, hbg, hbq, hc, hx⟩ := (hd 10 (by kernel_rfl) 47 rfl); have e1 := slotE e1; go_simp; exact hK _ _ hW.same kq_refl ⟨x, rfl, hx⟩)
      · (intro o ho m a w1 hm hW hb hd K Q hK; obtain rfl := Option.some.inj ho; have e1 := slotE (hd 0 (by kernel_rfl) 37 rfl); go_simp; exact hK _ _ hW.same kq_refl rfl)
      · (intro o ho m a w1 hm hW hb hd K Q hK; obtain rfl := Option.some.inj ho; have e1 := slotE (hd 1 (by kernel_rfl) 38 rfl); have e0 : a.tmps[3]?.getD undef = .pointer (some ⟨w.heap.size, 0, none⟩) := (by rw [hb 3 (by decide +kernel)]; simp); have hbR : w.heap.size ∈ [w.heap.size] := (by simp); obtain ⟨cs, hcs, hcn⟩ := hW.box _ hbR; obtain ⟨z0, z1, z2, rfl⟩ := size_three hcn; obtain ⟨⟨r0, r1, r2⟩, r3, r4, r5⟩ := box_threeQ hcs; go_simp; have hst := chg_set3 (v0 := sv ta) (v1 := sv tb) (v2 := .int .i64 u) hcs; exact hK undef _ (hW.stored hbR hst.1 hst.2 rfl) (kq_good hbR hst.1 hst.2) hst.2)
      · (intro o ho m a w1 hm hW hb hd K Q hK; obtain rfl := Option.some.inj ho; obtain ⟨x, e1, hx⟩ := (hd 11 (by kernel_rfl) 48 rfl); have e1 := slotE e1; go_simp; exact hK _ _ hW.same kq_refl ⟨x, rfl, hx⟩)
    case hWsS1 => exact ⟨HR4.out.keep (Below.refl _ _).drew, (Chg.refl _ _).drew, hgW, by simp; omega, by simp, by simp, by simp; exact ⟨_, HZ4.out, rfl⟩⟩
    case hfinsS1 =>
      intro vs w5 hW hF
      simp only [putAll, hdst, List.getElem?_cons_succ, List.getElem?_cons_zero, Option.bind, List.drop_succ_cons, List.drop_zero, Act.put]
      have h12 : vs 12 = .slice A2 ps.length c2 := hF 12 (by omega)
      have h13 : w5.heap[w.heap.size]? = some (.cells #[sv ta, sv tb, .int .i64 u] 25 (0, 0)) := hF 13 (by omega)
      obtain ⟨now, h14, hn0, hn1⟩ := hF 14 (by omega)
      rw [h12, h14]
      have HBW := Lib.hid (HB4.out.trans (hW.chg.below (B := w.heap.size) HB4.out.size (by simp)))
      have HO5 := Lib.hid (own_at HO4.out (fun g hg => hW.chg.block g (by have := hrow g hg; omega) (by have := hrow g hg; simp; omega)))
      obtain ⟨⟨f0, f1, f2⟩, -⟩ := box_threeQ h13
      clear hF h12 h13 h14 hW
      go_simp
      go_wp2
      refine bodyPost_ret (v := .tuple #[.slice A2 ps.length c2, .agg #[sv ta, sv tb, .int .i64 u], .int .i64 now]) (by simp [results, Try.results4, go_sem, *]) rfl ?_
      exact ⟨A2, c2, ps, ta, tb, u, now, rfl, own_base HO5.out (by omega), HS2.out, hn2, ha, hb, ⟨hu0, hu1⟩, ⟨hn0, hn1⟩, HBW.out⟩
end Go.Proofs.Ytlafdpndpjcklaa
