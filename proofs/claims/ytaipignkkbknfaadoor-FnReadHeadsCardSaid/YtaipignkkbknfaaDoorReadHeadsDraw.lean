/- Drawn lines of headers: a walk. -/
import Derived.Test.YtaipignkkbknfaaDoorHeadsDraw
import Derived.Test.YtaipignkkbknfaaDoorHeadsLines
import Derived.Test.YtaipignkkbknfaaDoorStrS
namespace Go.Proofs.YtaipignkkbknfaaDoor
open Go.RowKit

/-- one text that lies in a block of its own, appended to texts of the call's own -/
theorem app_str_at {ops : Array Oper} {rest : List Oper} {o : Oper} {a : Act} {Q : Exit → Act → World → Prop} {W : World} (hgd : o.guard = none) (s x : Operand)
    (ho : o.op = .call { callee := .builtin .append, args := #[s, x], argTypes := #[35, 35] }) (base : Nat) (A : Option Addr) (c : Nat) (xs : List Tx) (u : Tx)
    (hs : a.eval s = .slice A xs.length c) (hown : OwnS W base A c xs) (b : Nat) (hx : a.eval x = .slice (some ⟨b, 0, none⟩) 1 1) (hh : W.heap[b]? = some (.cells #[sv u] 9 (0, 0))) (hlen : xs.length ≤ 4294967296) (hbase : base ≤ W.heap.size)
    (h : ∀ A' c' w', OwnS w' base A' c' (xs ++ [u]) → W.grownBy w' (Value.ownBlock (.slice A xs.length c)) → wpList Tryd.prog ops Q rest (a.put o.dst (.slice A' (xs ++ [u]).length c')) w') :
    wpList Tryd.prog ops Q (o :: rest) a W := by
  obtain ⟨i0, hi, hz0, hz1, hz2⟩ := info_parts Tryd.info_string
  refine wpList_append_own _ hgd s x _ ho base _ i0 _ 1 16 Tryd.underlying35 hi hz0 hz1 hz2 rfl (by decide) _ _ _ hs hown ⟨b, 0, none⟩ 1 1 [sv u] hx rfl ?_ ?_ (by unfold maxLen; omega) (by omega) hbase ?_
  · intro j z hj
    rw [Addr.add_lit, Nat.zero_add, cell_of_row W b j _ _ _ hh]
    simpa using hj
  · intro z hz
    simp at hz
    subst hz
    rfl
  · intro v' w' ho' hg' _
    obtain ⟨A', c', rfl, _, _⟩ := own_shape ho'
    have hl : (xs ++ [u]).length = xs.length + 1 := by simp
    rw [hl] at h
    refine h A' c' w' ?_ hg'
    unfold OwnS
    rw [List.length_append, List.map_append]
    exact ho'

/-- short texts -/
def SmallS (n : Nat) (xs : List Tx) : Prop := xs.length ≤ n ∧ ∀ x ∈ xs, x.length ≤ 300
def DrewSs (w : World) (e : Ending) (w' : World) : Prop :=
  ∃ A c xs, e = .returned (.slice A (List.length xs) c) ∧ OwnS w' w.heap.size A c xs ∧ SmallS 12 xs ∧ Below w.heap.size w w'
theorem small_size' : ∀ {ps : List Pr}, Small ps → psize ps ≤ 200 * ps.length
  | [], _ => by simp [psize]
  | p :: t, h => by
    have h1 := small_size' (ps := t) ⟨by have := h.1; simp at this; omega, fun q hq => h.2 q (by simp [hq])⟩
    have h2 := h.2 p (by simp)
    simp only [psize, List.length_cons]
    omega
theorem headsLines_small {ps : List Pr} (h : Small ps) : ∀ x ∈ headsLines ps, x.length ≤ 202 := by
  unfold headsLines
  split
  · intro x hx
    unfold hdLines at hx
    obtain ⟨p, hp, rfl⟩ := List.mem_map.1 hx
    have := h.2 p (List.mem_of_mem_take hp)
    simp [lineOf]; omega
  · intro x hx; cases hx
theorem ownS_set {w : World} {base c g k : Nat} {xs : List Tx} (h : OwnS w base (some ⟨g, 0, none⟩) c xs) (t : Tx) : OwnS (w.setCell ⟨g, k, none⟩ (sv t)) base (some ⟨g, 0, none⟩) c (xs.set k t) := by
  have h1 := (h.stored k (sv t)).1
  unfold OwnS
  rw [List.length_set, List.map_set]
  exact h1

set_option maxHeartbeats 1600000 in
theorem spec_DrawReadHeads (bs : Tx) (A : Option Addr) (c : Nat) (w : World) (hr : Rd w w.heap.size A (bcells bs)) (hc : bs.length ≤ c) (hm : bs.length ≤ 1048576) :
    Calls Tryd.prog 31 #[.slice A bs.length c] w (DrewSs w) := by
  have HR := Lib.hid hr
  clear hr
  go_enter Tryd.func31, Tryd.ntmps31
  go_wp2_with fail
  refine (spec_l20Open bs w.heap.size A c _ HR.out (Nat.le_refl _) hc hm).mono ?_
  rintro e w1 ⟨rfl, hr1, hb1⟩
  have HR1 := Lib.hid hr1
  have HB1 := Lib.hid hb1
  have hz1 : w.heap.size < w1.heap.size := hr1.lt
  clear hr1 hb1
  go_wp2_with fail
  refine (spec_l20Heads w.heap.size w.heap.size 0 _ _ HR1.out (by omega) (by omega) (by omega)).mono ?_
  rintro e w2 ⟨A2, c2, ps, rfl, ho2, hs2, hn2, hr2, hg2⟩
  have hps := small_size' hs2
  have HO2 := Lib.hid ho2
  have HR2 := Lib.hid hr2
  have HF := Lib.hid (small_fit hs2)
  have HSL := Lib.hid (headsLines_small hs2)
  have hxl0 := headsLines_len ps hn2
  have HB2 := Lib.hid (HB1.out.trans (grown_to_below hg2 HB1.out.size (fun g h => by injection h; omega)))
  have hz2 : w.heap.size < w2.heap.size := hr2.lt
  clear ho2 hs2 hr2 hg2
  go_wp2_with fail
  refine (spec_HeadsLines ps A2 c2 _ (ownP_rd HO2.out) (own_none HO2.out) HF.out (by unfold maxLen; omega) (by omega)).mono ?_
  rintro e w3 ⟨A3, c3, rfl, ho3, hb3⟩
  generalize headsLines ps = xs0 at *
  have HO3 := Lib.hid ho3
  have HR3 := Lib.hid (HR2.out.keep hb3)
  have HB3 := Lib.hid (HB2.out.trans (hb3.mono HB2.out.size))
  have hz23 := hb3.size
  obtain ⟨N, hN⟩ : ∃ N, N = xs0.length := ⟨_, rfl⟩
  rw [← hN]
  have hN11 : N ≤ 11 := by omega
  have HN := Lib.hid hN
  clear ho3 hb3 hN
  go_wp2
  go_loopw [5] (fun i wr => ∃ (k : Nat) (xs : List Tx), k ≤ xs.length ∧ xs.length = N ∧ i = .int .i64 k ∧ OwnS wr w2.heap.size A3 c3 xs ∧ (∀ x ∈ xs, x.length ≤ 300) ∧ (∀ x ∈ xs.drop k, x.length ≤ 202) ∧ Rdr wr w.heap.size w.heap.size (200 + 20 * k) ∧ Below w.heap.size w wr ∧ w2.heap.size ≤ wr.heap.size) (fun i _ => N - (intOf i).toNat)
  case atStart => exact ⟨0, xs0, Nat.zero_le _, HN.out.symm, rfl, HO3.out, fun x hx => Nat.le_trans (HSL.out x hx) (by omega), fun x hx => HSL.out x hx, HR3.out.more (by omega), HB3.out, hz23⟩
  case round =>
    obtain ⟨k, xs, hk, hxl, rfl, ho, hsm, hsd, hrd, hb, hzr⟩ := hrel
    subst hxl
    have HO := Lib.hid ho
    have HSM := Lib.hid hsm
    have HSD := Lib.hid hsd
    have HRD := Lib.hid hrd
    have HB := Lib.hid hb
    have hz := hb.size
    have hxn : xs.length ≤ 11 := by omega
    clear ho hsm hsd hrd hb
    by_cases hlt : k < xs.length
    · obtain ⟨g, rfl, hbg, hgw⟩ := own_some HO.out (by omega)
      go_wp2_with fail
      refine (spec_pick w.heap.size w.heap.size _ 4 _ HRD.out (by omega) (by omega) (by omega)).mono ?_
      rintro e w4 ⟨k4, rfl, hk4, hr4, hg4⟩
      have HR4 := Lib.hid hr4
      have HO4 := Lib.hid (own_g HO.out hg4 hz2)
      have HB4 := Lib.hid (HB.out.trans (grown_to_below hg4 hz (fun g h => by injection h; omega)))
      have hz4 := HB4.out.size
      have hz24 : w2.heap.size ≤ w4.heap.size := Nat.le_trans hzr hg4.size
      clear hr4 hg4
      by_cases h40 : k4 = 0
      · subst h40
        obtain ⟨b, o, hA, hab, hc0⟩ := (ownS_rd HO4.out).str hlt
        obtain ⟨rfl, rfl⟩ : b = g ∧ o = 0 := by injection hA with hA; injection hA with h1 h2; exact ⟨h1.symm, h2.symm⟩
        rw [Nat.zero_add] at hc0
        have HCELL := Lib.hid hc0
        have hne : b ≠ w.heap.size := by omega
        have hwb : w.heap.size ≤ b := by omega
        have hx202 : xs[k].length ≤ 202 := HSD.out _ (by rw [drop_cons xs k hlt]; exact List.mem_cons_self)
        have hs1 : (9223372036854775807 < xs[k].length + 2) = False := by rw [eq_iff_iff, iff_false]; omega
        have hfz := HO4.out.frozenAt (g := b) k
        have HFZ := Lib.hid hfz
        clear hA hc0 hfz
        go_wp2_with fail
        refine wp_region_typed 13 (by kernel_rfl) (by kernel_rfl) (DW w4 w.heap.size w.heap.size (200 + 20 * k + 1)) (Kp w.heap.size) (fun i => ([tIs (.slice (some ⟨b, 0, none⟩) xs.length c3), tIs (.int .i64 (k : Int)), tIs (.slice (some ⟨b, 0, none⟩) xs.length c3), tIs (.int .i64 (k : Int)), tIs (.pointer (some ⟨b, k, none⟩)), tIs (sv xs[k]), tIs (sv (xs[k] ++ [32, 32])), tRow w.heap.size 3 (cTxt 300 3), tIs (.pointer (some ⟨w.heap.size, 0, none⟩)), tNum 3, tAdrS w.heap.size 300, tTxt 300, tIs (.pointer (some ⟨b, k, none⟩))] : List Ty).getD i tAny) ?hW ?hkeep ?hstep ?hfin
        case hkeep =>
          refine all_lt_succ (all_lt_succ (all_lt_succ (all_lt_succ (all_lt_succ (all_lt_succ (all_lt_succ (all_lt_succ (all_lt_succ (all_lt_succ (all_lt_succ (all_lt_succ (all_lt_succ all_lt_zero ?_) ?_) ?_) ?_) ?_) ?_) ?_) ?_) ?_) ?_) ?_) ?_) ?_
          · exact stays_is _
          · exact stays_is _
          · exact stays_is _
          · exact stays_is _
          · exact stays_is _
          · exact stays_is _
          · exact stays_is _
          · exact stays_row _ _
          · exact stays_is _
          · exact stays_num _
          · exact stays_adrS _
          · exact stays_txt _
          · exact stays_is _
        case hstep =>
          refine all_lt_succ (all_lt_succ (all_lt_succ (all_lt_succ (all_lt_succ (all_lt_succ (all_lt_succ (all_lt_succ (all_lt_succ (all_lt_succ (all_lt_succ (all_lt_succ (all_lt_succ all_lt_zero ?_) ?_) ?_) ?_) ?_) ?_) ?_) ?_) ?_) ?_) ?_) ?_) ?_
          · (intro o ho m a w1 hm hW hb hd K Q hK; obtain rfl := Option.some.inj ho; have e0 : a.tmps[4]?.getD undef = (.slice (some ⟨b, 0, none⟩) xs.length c3) := (by rw [hb 4 (by decide +kernel)]; simp); go_simp; exact hK _ _ hW.same (kp_refl _) rfl)
          · (intro o ho m a w1 hm hW hb hd K Q hK; obtain rfl := Option.some.inj ho; have e0 : a.tmps[5]?.getD undef = (.int .i64 (k : Int)) := (by rw [hb 5 (by decide +kernel)]; simp); go_simp; exact hK _ _ hW.same (kp_refl _) rfl)
          · (intro o ho m a w1 hm hW hb hd K Q hK; obtain rfl := Option.some.inj ho; have e0 : a.tmps[4]?.getD undef = (.slice (some ⟨b, 0, none⟩) xs.length c3) := (by rw [hb 4 (by decide +kernel)]; simp); go_simp; exact hK _ _ hW.same (kp_refl _) rfl)
          · (intro o ho m a w1 hm hW hb hd K Q hK; obtain rfl := Option.some.inj ho; have e0 : a.tmps[5]?.getD undef = (.int .i64 (k : Int)) := (by rw [hb 5 (by decide +kernel)]; simp); go_simp; exact hK _ _ hW.same (kp_refl _) rfl)
          · (intro o ho m a w1 hm hW hb hd K Q hK; obtain rfl := Option.some.inj ho; have e1 := slotE (hd 2 (by kernel_rfl) 22 rfl); have e2 := slotE (hd 3 (by kernel_rfl) 23 rfl); go_simp; exact hK _ _ hW.same (kp_refl _) rfl)
          · (intro o ho m a w1 hm hW hb hd K Q hK; obtain rfl := Option.some.inj ho; have e1 := slotE (hd 4 (by kernel_rfl) 24 rfl); have hcw := kp_cell hW.2 hne HCELL.out; go_simp; exact hK _ _ hW.same (kp_refl _) rfl)
          · (intro o ho m a w1 hm hW hb hd K Q hK; obtain rfl := Option.some.inj ho; have e1 := slotE (hd 5 (by kernel_rfl) 25 rfl); go_simp; exact hK _ _ hW.same (kp_refl _) rfl)
          · (intro o ho m a w1 hm hW hb hd K Q hK; obtain rfl := Option.some.inj ho; have e1 := slotE (hd 6 (by kernel_rfl) 26 rfl); go_simp; exact hK _ _ (hW.next ((Below.refl _ _).alloc (Nat.le_refl _) _)) (kp_below ((Below.refl _ _).alloc (Nat.le_refl _) _)) ⟨_, _, _, _, rfl, hW.new, heap_alloc_new w1 _, by show okS _ _ _ = true; simp only [okS, Bool.and_eq_true, decide_eq_true_eq]; (repeat' apply And.intro) <;> first | assumption | trivial | decide | (simp [ByteArray.size]; omega)⟩)
          · (intro o ho m a w1 hm hW hb hd K Q hK; obtain rfl := Option.some.inj ho; have e0 : a.tmps[3]?.getD undef = (.pointer (some ⟨w.heap.size, 0, none⟩)) := (by rw [hb 3 (by decide +kernel)]; simp); go_simp; exact hK _ _ hW.same (kp_refl _) rfl)
          · (intro o ho m a w1 hm hW hb hd K Q hK; obtain rfl := Option.some.inj ho; have e1 := slotE (hd 8 (by kernel_rfl) 28 rfl); go_simp; refine (spec_pick _ _ _ _ w1 hW.1 (by omega) (by omega) (by omega)).mono ?_; rintro e w2 ⟨k, rfl, hk, hr2, hg2⟩; exact hK _ _ ⟨hr2.more (by omega), grown_trans hW.2 hg2⟩ hg2 ⟨k, rfl, hk⟩)
          · (intro o ho m a w1 hm hW hb hd K Q hK; obtain rfl := Option.some.inj ho; obtain ⟨b, cs, t, fr, e1, hbg, hh, hC⟩ := (hd 7 (by kernel_rfl) 27 rfl); obtain ⟨k, e2, hk⟩ := (hd 9 (by kernel_rfl) 29 rfl); have e1 := slotE e1; have e2 := slotE e2; have hk2 := num_lt hk (by omega); go_simp; exact hK _ _ hW.same (kp_refl _) (row_txt hbg hh hC (by omega)))
          · (intro o ho m a w1 hm hW hb hd K Q hK; obtain rfl := Option.some.inj ho; obtain ⟨b, o, x, e1, hbg, hc, hx⟩ := (hd 10 (by kernel_rfl) 30 rfl); have e1 := slotE e1; go_simp; exact hK _ _ hW.same (kp_refl _) ⟨x, rfl, hx⟩)
          · (intro o ho m a w1 hm hW hb hd K Q hK; obtain rfl := Option.some.inj ho; have e1 := slotE (hd 0 (by kernel_rfl) 20 rfl); have e2 := slotE (hd 1 (by kernel_rfl) 21 rfl); go_simp; exact hK _ _ hW.same (kp_refl _) rfl)
        case hW => exact ⟨(HR4.out.keep (Below.refl _ _).drew).more (by omega), grown_drew (grown_refl _ _)⟩
        case hfin =>
          intro vs w5 hW hF
          simp only [putAll, hdst, List.getElem?_cons_succ, List.getElem?_cons_zero, Option.bind, List.drop_succ_cons, List.drop_zero, Act.put]
          have h12 : vs 12 = .pointer (some ⟨b, k, none⟩) := hF 12 (by omega)
          obtain ⟨t, h11, ht⟩ := hF 11 (by omega)
          rw [h12, h11]
          obtain ⟨hr5, hg5⟩ := hW
          have HR5 := Lib.hid hr5
          have HO5 := Lib.hid (own_g HO4.out hg5 hz2)
          have HB5 := Lib.hid (HB4.out.trans (grown_to_below hg5 hz4 (fun g h => by injection h; omega)))
          have hc5 := kp_cell hg5 hne HCELL.out
          have hz25 : w2.heap.size ≤ w5.heap.size := Nat.le_trans hz24 hg5.size
          have hf5 := HO5.out.frozenAt (g := b) k
          clear hF h12 h11 hr5 hg5
          go_simp
          go_wp2
          go_roundw
          case rel =>
            refine ⟨k + 1, xs.set k t, by simp; omega, by rw [List.length_set], by go_num, ownS_set HO5.out t, ?_, ?_, ?_, HB5.out.setCell hwb _, by simpa [World.setCell] using hz25⟩
            · intro x hx
              rcases List.mem_or_eq_of_mem_set hx with h | h
              · exact HSM.out x h
              · rw [h]; exact ht
            · intro x hx
              rw [List.drop_set_of_lt (by omega)] at hx
              exact HSD.out x (by rw [drop_cons xs k hlt]; exact List.mem_cons_of_mem _ hx)
            · exact (HR5.out.frame (row := some b) (grown_set (grown_refl _ _) _ _) (fun k hk => by injection hk; omega)).more (by omega)
          case measure => simp [intOf]; omega
      · have b1 : ((k4 : Int) == 0) = false := by simp; omega
        clear h40
        go_wp2
        go_roundw
        case rel =>
          refine ⟨k + 1, xs, by omega, rfl, by go_num, HO4.out, HSM.out, ?_, HR4.out.more (by omega), HB4.out, hz24⟩
          intro x hx
          exact HSD.out x (by rw [drop_cons xs k hlt]; exact List.mem_cons_of_mem _ hx)
        case measure => simp [intOf]; omega
    · have hkn : k = xs.length := by omega
      subst hkn
      go_wp2_with fail
      refine (spec_odd w.heap.size w.heap.size _ 4 _ HRD.out (by omega) (by omega) (by omega)).mono ?_
      rintro e w4 ⟨b4, rfl, hr4, hg4⟩
      have HR4 := Lib.hid hr4
      have HO4 := Lib.hid (own_g HO.out hg4 hz2)
      have HB4 := Lib.hid (HB.out.trans (grown_to_below hg4 hz (fun g h => by injection h; omega)))
      have hz4 := HB4.out.size
      have hz24 : w2.heap.size ≤ w4.heap.size := Nat.le_trans hzr hg4.size
      clear hr4 hg4
      cases b4
      · go_wp2_with fail
        refine (spec_odd w.heap.size w.heap.size _ 24 _ HR4.out (by omega) (by omega) (by omega)).mono ?_
        rintro e w5 ⟨b5, rfl, hr5, hg5⟩
        have HO5 := Lib.hid (own_g HO4.out hg5 hz2)
        have HB5 := Lib.hid (HB4.out.trans (grown_to_below hg5 hz4 (fun g h => by injection h; omega)))
        have hz5 := HB5.out.size
        clear hr5 hg5
        cases b5
        · go_wp2
          go_ret
          exact ⟨A3, c3, xs, rfl, own_base HO5.out (by omega), ⟨by omega, HSM.out⟩, HB5.out⟩
        · go_wp2
          go_ret
          refine ⟨_, 7, [[97, 58], [97, 58], [97, 58], [97, 58], [97, 58], [97, 58], [97, 58]], rfl, World.ownsRow_lit w5 #[sv [97, 58], sv [97, 58], sv [97, 58], sv [97, 58], sv [97, 58], sv [97, 58], sv [97, 58]] 7 hz5 (by simp [maxLen]) rfl, ⟨by simp, ?_⟩, HB5.out.alloc hz5 _⟩
          intro y hy
          simp at hy
          subst hy
          simp
      · go_wp2_with fail
        refine (spec_pick w.heap.size w.heap.size _ 5 _ (HR4.out.keep ((Below.refl _ _).alloc (Nat.le_refl _) _)) (by omega) (by omega) (by omega)).mono ?_
        rintro e w6 ⟨k6, rfl, hk6, hr6, hg6⟩
        have hlt4 := HR4.out.lt
        have hlit : w6.heap[w4.heap.size]? = _ := (hg6.block w4.heap.size (by simp) (by simp; omega)).trans (heap_alloc_new w4 _)
        obtain ⟨x, hx, hxl⟩ := lit_str (k := k6) (B := 300) (n := 5) hlit (by decide +kernel) (by rcases hk6 with hk6 | hk6 <;> omega)
        have HR6 := Lib.hid hr6
        have HO6 := Lib.hid (own_g (own_below HO4.out ((Below.refl _ _).alloc (Nat.le_refl _) _)) hg6 hz2)
        have HB6 := Lib.hid ((HB4.out.alloc hz4 _).trans (grown_to_below hg6 (by simp; omega) (fun g h => by injection h; omega)))
        have hz6 := HB6.out.size
        have hz26 : w2.heap.size ≤ w6.heap.size := by have := hg6.size; simp at this; omega
        clear hlit hr6 hg6
        go_wp2_with (at_builtin; refine app_str rfl _ _ rfl w2.heap.size A3 c3 _ xs x (by rfl) rfl HO6.out _ (by rfl) rfl ?_ ?_ ?_; (focus omega); (focus omega); intro A7 c7 w7 ho7 hg7)
        have HO7 := Lib.hid ho7
        have HR7 := Lib.hid (HR6.out.frame hg7 (own_lt HO6.out hz2))
        have HB7 := Lib.hid (HB6.out.trans (grown_to_below hg7 hz6 (fun g h => Nat.le_trans (Nat.le_of_lt hz2) (ownS_row HO6.out g h))))
        have hz7 := HB7.out.size
        have hSM7 : ∀ y ∈ xs ++ [x], y.length ≤ 300 := by
          intro y hy
          rcases List.mem_append.1 hy with hy | hy
          · exact HSM.out y hy
          · simp at hy; subst hy; exact hxl
        have HSM := Lib.hid hSM7
        clear ho7 hg7 hSM7
        go_wp2_with fail
        refine (spec_odd w.heap.size w.heap.size _ 24 _ HR7.out (by omega) (by omega) (by omega)).mono ?_
        rintro e w5 ⟨b5, rfl, hr5, hg5⟩
        have HO5 := Lib.hid (own_g HO7.out hg5 hz2)
        have HB5 := Lib.hid (HB7.out.trans (grown_to_below hg5 hz7 (fun g h => by injection h; omega)))
        have hz5 := HB5.out.size
        clear hr5 hg5
        cases b5
        · go_wp2
          go_ret
          exact ⟨A7, c7, xs ++ [x], by simp, own_base HO5.out (by omega), ⟨by simp; omega, HSM.out⟩, HB5.out⟩
        · go_wp2
          go_ret
          refine ⟨_, 7, [[97, 58], [97, 58], [97, 58], [97, 58], [97, 58], [97, 58], [97, 58]], rfl, World.ownsRow_lit w5 #[sv [97, 58], sv [97, 58], sv [97, 58], sv [97, 58], sv [97, 58], sv [97, 58], sv [97, 58]] 7 hz5 (by simp [maxLen]) rfl, ⟨by simp, ?_⟩, HB5.out.alloc hz5 _⟩
          intro y hy
          simp at hy
          subst hy
          simp
end Go.Proofs.YtaipignkkbknfaaDoor
