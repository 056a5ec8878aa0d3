/- LocationText of impl and of spec: walks. -/
import Derived.Test.YtjlaelkdmgcniaaDoorLocTP
import Derived.Test.YtjlaelkdmgcniaaDoorLocValid
import Derived.Test.YtjlaelkdmgcniaaDoorTypedB
import Derived.Test.YtjlaelkdmgcniaaDoorJoin
namespace Go.Proofs.YtjlaelkdmgcniaaDoor
open Go.RowKit

theorem step_sum (n : Nat) : ∀ (xs : List Tx), (∀ x ∈ xs, x.length ≤ 40) → (xs.map (fun x => x.length + [(47 : UInt8)].length)).sum ≤ 41 * xs.length
  | [], _ => by simp
  | x :: t, h => by
    have h1 := h x (by simp)
    have h2 := step_sum n t fun y hy => h y (List.mem_cons_of_mem _ hy)
    simp at h2 ⊢
    omega
theorem loc_lens {l : Lc} (h : locOk l = true) : l.sch.length ≤ 5 ∧ l.host.length ≤ 40 ∧ (Lib.join l.path [47]).length ≤ 246 := by
  have H := locOk_parts h
  refine ⟨?_, ?_, ?_⟩
  · have := H.sch
    unfold schOk at this
    rw [Bool.or_eq_true, beq_iff_eq, beq_iff_eq] at this
    rcases this with e | e <;> rw [e] <;> decide
  · have := H.host
    simp only [hostOk, Bool.and_eq_true, decide_eq_true_eq] at this
    exact this.1.2
  · refine join_len l.path [47] 246 246 ?_ (Nat.le_refl _)
    have h6 := H.six
    have hp : ∀ x ∈ l.path, x.length ≤ 40 := fun x hx => by
      have := H.path x hx
      simp only [stepOk, Bool.and_eq_true, decide_eq_true_eq] at this
      exact this.1.1.1.2
    have := step_sum 0 l.path hp
    omega

set_option maxRecDepth 100000 in
set_option maxHeartbeats 4000000 in
theorem impl_LocationText (l : Lc) (A : Option Addr) (c : Nat) (w : World) (hr : Rd w w.heap.size A (scells l.path)) (hc : l.path.length ≤ c) (hf : FitL l) (hm : Hm w) :
    Calls Tryd.prog 30 #[lcV l A c] w fun e w' => e = .returned (sv (locText l)) ∧ Below w.heap.size w w' := by
  have HB0 := Lib.hid (Below.alloc (o := .cells (lcCells l A c) 25) (Below.refl w.heap.size w) (Nat.le_refl _))
  have HBX0 := Lib.hid (loc_box w l A c 25)
  have HV := Lib.hid (impl_LocationValid l A c _ (hr.below HB0.out |>.more HB0.out.size) hf (hm.below HB0.out))
  have hz0 : w.heap.size < (w.alloc (.cells (lcCells l A c) 25)).heap.size := by simp
  have HRW := Lib.hid hr
  have hq3 := hf.2.2.1
  have hp6 := hf.2.2.2.1
  clear hr hm hf
  cases hok : locOk l
  · have HNIL := hok
    clear HNIL
    have HT : Hid (locText l = []) := by show _ = _; unfold locText; rw [hok]; rfl
    rw [hok] at HV
    clear hok
    go_enter Tryd.func30, Tryd.ntmps30
    go_wp2_with fail
    refine HV.out.mono ?_
    rintro e w1 ⟨rfl, hb⟩
    have HB1 := Lib.hid (HB0.out.trans (hb.mono HB0.out.size))
    clear hb
    go_wp2
    go_ret
    exact ⟨ret_str HT.out.symm, HB1.out⟩
  · have HT : Hid (locText l = l.sch ++ [58, 47, 47] ++ l.host ++ [47] ++ Lib.join l.path [47] ++ (if l.qu = [] then [] else 63 :: l.qu)) := by show _ = _; unfold locText; rw [if_pos hok]; rfl
    obtain ⟨hl1, hl2, hl3⟩ := loc_lens hok
    have HJ := Lib.hid (fun w2 (hb : Below w.heap.size w w2) => join_tx l.path [47] A c w2 (HRW.out.below hb |>.more hb.size) (by omega) hc (by omega))
    generalize Lib.join l.path [47] = j at *
    rw [hok] at HV
    clear hok
    have d1 : (9223372036854775807 < l.sch.length + 3) = False := by rw [eq_iff_iff, iff_false]; omega
    have d2 : (9223372036854775807 < l.sch.length + 3 + l.host.length) = False := by rw [eq_iff_iff, iff_false]; omega
    have d3 : (9223372036854775807 < l.sch.length + (l.host.length + 1 + 1 + 1) + 1) = False := by rw [eq_iff_iff, iff_false]; omega
    have d4 : (9223372036854775807 < l.sch.length + (l.host.length + 1 + 1 + 1 + 1) + j.length) = False := by rw [eq_iff_iff, iff_false]; omega
    have d5 : (9223372036854775807 < 1 + l.qu.length) = False := by rw [eq_iff_iff, iff_false]; omega
    have d6 : (9223372036854775807 < l.sch.length + 3 + l.host.length + 1 + j.length + (l.qu.length + 1)) = False := by rw [eq_iff_iff, iff_false]; omega
    go_enter Tryd.func30, Tryd.ntmps30
    go_wp2_with fail
    refine HV.out.mono ?_
    rintro e w1 ⟨rfl, hb⟩
    have HB1 := Lib.hid (HB0.out.trans (hb.mono HB0.out.size))
    have HBX1 := Lib.hid ((hb.block w.heap.size hz0).trans HBX0.out)
    have hz1 : w.heap.size < w1.heap.size := Nat.lt_of_lt_of_le hz0 hb.size
    clear hb
    have q0 : w1.cell? ⟨w.heap.size, 0, none⟩ = some (sv l.sch) := cell_of_row w1 _ 0 _ _ _ HBX1.out
    have q1 : w1.cell? ⟨w.heap.size, 1, none⟩ = some (sv l.host) := cell_of_row w1 _ 1 _ _ _ HBX1.out
    have q2 : w1.cell? ⟨w.heap.size, 2, none⟩ = some (.slice A l.path.length c) := cell_of_row w1 _ 2 _ _ _ HBX1.out
    have HQ0 := Lib.hid q0
    have HQ1 := Lib.hid q1
    have HQ2 := Lib.hid q2
    clear q0 q1 q2
    have HJ1 := Lib.hid (fun w2 (hb : Below w1.heap.size w1 w2) => HJ.out w2 (HB1.out.trans (hb.mono HB1.out.size)))
    go_wp2_with fail
    refine wp_region_typed 11 (by kernel_rfl) (by kernel_rfl) (fun _ w => Below (World.heap w1).size w1 w) KB (fun i => ([bIs (.pointer (some ⟨w.heap.size, 0, none⟩)), bIs (sv l.sch), bIs (sv (l.sch ++ [58, 47, 47])), bIs (.pointer (some ⟨w.heap.size, 1, none⟩)), bIs (sv l.host), bIs (sv (l.sch ++ 58 :: 47 :: 47 :: l.host)), bIs (sv (l.sch ++ 58 :: 47 :: 47 :: (l.host ++ [47]))), bIs (.pointer (some ⟨w.heap.size, 2, none⟩)), bIs (.slice A l.path.length c), bIs (sv j), bIs (sv (l.sch ++ 58 :: 47 :: 47 :: (l.host ++ 47 :: j)))] : List TyB).getD i bAny) ?hWbB1 ?hkeepB1 ?hstepB1 ?hfinbB1
    case hkeepB1 =>
      refine all_lt_succ (all_lt_succ (all_lt_succ (all_lt_succ (all_lt_succ (all_lt_succ (all_lt_succ (all_lt_succ (all_lt_succ (all_lt_succ (all_lt_succ all_lt_zero ?_) ?_) ?_) ?_) ?_) ?_) ?_) ?_) ?_) ?_) ?_
      · exact keeps_bIs
      · exact keeps_bIs
      · exact keeps_bIs
      · exact keeps_bIs
      · exact keeps_bIs
      · exact keeps_bIs
      · exact keeps_bIs
      · exact keeps_bIs
      · exact keeps_bIs
      · exact keeps_bIs
      · exact keeps_bIs
    case hstepB1 =>
      refine all_lt_succ (all_lt_succ (all_lt_succ (all_lt_succ (all_lt_succ (all_lt_succ (all_lt_succ (all_lt_succ (all_lt_succ (all_lt_succ (all_lt_succ all_lt_zero ?_) ?_) ?_) ?_) ?_) ?_) ?_) ?_) ?_) ?_) ?_
      · (intro o ho m' a w1 hm' hW hb hd K Q hK; obtain rfl := Option.some.inj ho; have e0 : a.tmps[1]?.getD undef = .pointer (some ⟨w.heap.size, 0, none⟩) := (by rw [hb 1 (by decide +kernel)]; simp); go_simp; exact hK _ _ hW (kb_refl _) rfl)
      · (intro o ho m' a w1 hm' hW hb hd K Q hK; obtain rfl := Option.some.inj ho; have e0 := slotB (hd 0 (by kernel_rfl) 7 rfl); have hcw := (hW.cell (p := ⟨w.heap.size, 0, none⟩) hz1).trans HQ0.out; go_simp; exact hK _ _ hW (kb_refl _) rfl)
      · (intro o ho m' a w1 hm' hW hb hd K Q hK; obtain rfl := Option.some.inj ho; have e0 := slotB (hd 1 (by kernel_rfl) 8 rfl); go_simp; exact hK _ _ hW (kb_refl _) rfl)
      · (intro o ho m' a w1 hm' hW hb hd K Q hK; obtain rfl := Option.some.inj ho; have e0 : a.tmps[1]?.getD undef = .pointer (some ⟨w.heap.size, 0, none⟩) := (by rw [hb 1 (by decide +kernel)]; simp); go_simp; exact hK _ _ hW (kb_refl _) rfl)
      · (intro o ho m' a w1 hm' hW hb hd K Q hK; obtain rfl := Option.some.inj ho; have e0 := slotB (hd 3 (by kernel_rfl) 10 rfl); have hcw := (hW.cell (p := ⟨w.heap.size, 1, none⟩) hz1).trans HQ1.out; go_simp; exact hK _ _ hW (kb_refl _) rfl)
      · (intro o ho m' a w1 hm' hW hb hd K Q hK; obtain rfl := Option.some.inj ho; have e0 := slotB (hd 2 (by kernel_rfl) 9 rfl); have e1 := slotB (hd 4 (by kernel_rfl) 11 rfl); go_simp; exact hK _ _ hW (kb_refl _) rfl)
      · (intro o ho m' a w1 hm' hW hb hd K Q hK; obtain rfl := Option.some.inj ho; have e0 := slotB (hd 5 (by kernel_rfl) 12 rfl); go_simp; exact hK _ _ hW (kb_refl _) rfl)
      · (intro o ho m' a w1 hm' hW hb hd K Q hK; obtain rfl := Option.some.inj ho; have e0 : a.tmps[1]?.getD undef = .pointer (some ⟨w.heap.size, 0, none⟩) := (by rw [hb 1 (by decide +kernel)]; simp); go_simp; exact hK _ _ hW (kb_refl _) rfl)
      · (intro o ho m' a w1 hm' hW hb hd K Q hK; obtain rfl := Option.some.inj ho; have e0 := slotB (hd 7 (by kernel_rfl) 14 rfl); have hcw := (hW.cell (p := ⟨w.heap.size, 2, none⟩) hz1).trans HQ2.out; go_simp; exact hK _ _ hW (kb_refl _) rfl)
      · (intro o ho m' a w1 hm' hW hb hd K Q hK; obtain rfl := Option.some.inj ho; have e0 := slotB (hd 8 (by kernel_rfl) 15 rfl); go_simp; refine (HJ1.out _ hW).mono ?_; rintro e w2 ⟨rfl, hb2⟩; exact hK _ _ (hW.trans (hb2.mono hW.size)) hb2 rfl)
      · (intro o ho m' a w1 hm' hW hb hd K Q hK; obtain rfl := Option.some.inj ho; have e0 := slotB (hd 6 (by kernel_rfl) 13 rfl); have e1 := slotB (hd 9 (by kernel_rfl) 16 rfl); go_simp; exact hK _ _ hW (kb_refl _) rfl)
    case hWbB1 => exact (Below.refl _ _).drew
    case hfinbB1 =>
      intro vs w2 hW hF
      simp only [putAll, hdst, List.getElem?_cons_succ, List.getElem?_cons_zero, Option.bind, List.drop_succ_cons, List.drop_zero, Act.put]
      have h10 : vs 10 = sv (l.sch ++ 58 :: 47 :: 47 :: (l.host ++ 47 :: j)) := hF 10 (by omega)
      rw [h10]
      have q3 : w2.cell? ⟨w.heap.size, 3, none⟩ = some (sv l.qu) := (hW.cell (p := ⟨w.heap.size, 3, none⟩) hz1).trans (cell_of_row w1 _ 3 _ _ _ HBX1.out)
      have HB2 := Lib.hid (HB1.out.trans (hW.mono HB1.out.size))
      clear hW hF h10
      go_simp
      by_cases hqe : l.qu = []
      · have hq0 : List.isEmpty l.qu = true := by rw [hqe]; rfl
        have HT2 : Hid (locText l = l.sch ++ 58 :: 47 :: 47 :: (l.host ++ 47 :: j)) := by show _ = _; rw [HT.out, if_pos hqe, List.append_nil]; simp
        clear hqe
        go_wp2
        go_ret
        exact ⟨ret_str HT2.out.symm, HB2.out⟩
      · have hq0 : List.isEmpty l.qu = false := by simpa using hqe
        have HT2 : Hid (locText l = l.sch ++ [58, 47, 47] ++ l.host ++ [47] ++ j ++ 63 :: l.qu) := by show _ = _; rw [HT.out, if_neg hqe]
        clear hqe
        go_wp2
        go_ret
        exact ⟨ret_str (by rw [HT2.out]; simp), HB2.out⟩
set_option maxRecDepth 100000 in
set_option maxHeartbeats 1000000 in
theorem spec_l32Path (xs : List Tx) (A : Option Addr) (c : Nat) (w : World) (hr : Rd w w.heap.size A (scells xs)) (hn : xs.length ≤ 6) (hx : ∀ x ∈ xs, x.length ≤ 40) :
    Calls Tryd.prog 32 #[.slice A xs.length c] w fun e w' => e = .returned (sv (47 :: Lib.join xs [47])) ∧ w = w' := by
  have HX := Lib.hid hx
  have HS := Lib.hid (step_sum 0 xs hx)
  clear hx
  go_enter Tryd.func32, Tryd.ntmps32
  go_wp2
  go_loop [3, 4] (fun o i => ∃ (k : Nat) (t : Tx), k ≤ xs.length ∧ i = .int .i64 k ∧ o = sv t ∧ t.length ≤ 41 * k ∧ (if k = 0 then t = [] else t = 47 :: Lib.join (xs.take k) [47])) (fun _ i => xs.length - (intOf i).toNat)
  case atStart => exact ⟨0, [], Nat.zero_le _, rfl, rfl, by simp, by simp⟩
  case round =>
    obtain ⟨k, t, hk, rfl, rfl, htl, ht⟩ := hrel
    have HT := Lib.hid ht
    clear ht
    by_cases hlt : k < xs.length
    · obtain ⟨b, o, rfl, hab, hc0⟩ := hr.str hlt
      have hxl := HX.out _ (List.getElem_mem hlt)
      have HTS := Lib.hid (take_snoc xs k hlt)
      generalize xs[k] = x at *
      have HTL := Lib.hid (And.intro htl hxl)
      have e1 : (9223372036854775807 < t.length + 1) = False := by rw [eq_iff_iff, iff_false]; omega
      have e2 : (9223372036854775807 < t.length + 1 + x.length) = False := by rw [eq_iff_iff, iff_false]; omega
      go_wp2
      go_round
      case rel =>
        refine ⟨k + 1, t ++ 47 :: x, by omega, by go_num, by simp, by have := HTL.out; simp; omega, ?_⟩
        rw [if_neg (by omega), HTS.out, join_snoc]
        have h := HT.out
        by_cases h0 : k = 0
        · subst h0
          rw [if_pos rfl] at h
          rw [h]
          simp
        · rw [if_neg h0] at h
          rw [if_neg (by intro e; have := congrArg List.length e; rw [List.length_take, List.length_nil] at this; omega), h]
          simp
      case measure => simp [intOf]; omega
    · have hkn : k = xs.length := by omega
      have h := HT.out
      rw [hkn, List.take_length] at h
      by_cases h0 : xs.length = 0
      · rw [if_pos h0] at h
        have hxn : xs = [] := List.eq_nil_of_length_eq_zero h0
        subst h
        go_wp2
        go_ret
        exact ⟨ret_str (by first | rfl | (rw [hxn]; rfl)), rfl⟩
      · rw [if_neg h0] at h
        have HH := Lib.hid h
        have he : List.isEmpty t = false := by rw [h]; rfl
        clear h h0
        go_wp2
        go_ret
        exact ⟨ret_str HH.out, rfl⟩
set_option maxRecDepth 100000 in
set_option maxHeartbeats 4000000 in
theorem spec_LocationText (l : Lc) (A : Option Addr) (c : Nat) (w : World) (hr : Rd w w.heap.size A (scells l.path)) (hf : FitL l) :
    Calls Tryd.prog 15 #[lcV l A c] w fun e w' => e = .returned (sv (locText l)) ∧ Below w.heap.size w w' := by
  have HB0 := Lib.hid (Below.alloc (o := .cells (lcCells l A c) 25) (Below.refl w.heap.size w) (Nat.le_refl _))
  have HBX0 := Lib.hid (loc_box w l A c 25)
  have HV := Lib.hid (spec_LocationValid l A c _ (hr.below HB0.out |>.more HB0.out.size) hf)
  have hz0 : w.heap.size < (w.alloc (.cells (lcCells l A c) 25)).heap.size := by simp
  have HRW := Lib.hid hr
  have hq3 := hf.2.2.1
  have hp6 := hf.2.2.2.1
  clear hr hf
  cases hok : locOk l
  · have HNIL := hok
    clear HNIL
    have HT : Hid (locText l = []) := by show _ = _; unfold locText; rw [hok]; rfl
    rw [hok] at HV
    clear hok
    go_enter Tryd.func15, Tryd.ntmps15
    go_wp2_with fail
    refine HV.out.mono ?_
    rintro e w1 ⟨rfl, hb⟩
    have HB1 := Lib.hid (HB0.out.trans (hb.mono HB0.out.size))
    clear hb
    go_wp2
    go_ret
    exact ⟨ret_str HT.out.symm, HB1.out⟩
  · have HT : Hid (locText l = l.sch ++ [58, 47, 47] ++ l.host ++ [47] ++ Lib.join l.path [47] ++ (if l.qu = [] then [] else 63 :: l.qu)) := by show _ = _; unfold locText; rw [if_pos hok]; rfl
    obtain ⟨hl1, hl2, hl3⟩ := loc_lens hok
    have HLO := Lib.hid (locOk_parts hok)
    have HJ := Lib.hid (fun w2 (hb : Below w.heap.size w w2) => spec_l32Path l.path A c w2 (HRW.out.below hb |>.more hb.size) HLO.out.six (fun x hx => by have := HLO.out.path x hx; simp only [stepOk, Bool.and_eq_true, decide_eq_true_eq] at this; exact this.1.1.1.2))
    generalize Lib.join l.path [47] = j at *
    rw [hok] at HV
    clear hok
    have d1 : (9223372036854775807 < l.sch.length + 3) = False := by rw [eq_iff_iff, iff_false]; omega
    have d2 : (9223372036854775807 < l.sch.length + 3 + l.host.length) = False := by rw [eq_iff_iff, iff_false]; omega
    have d3 : (9223372036854775807 < l.sch.length + (l.host.length + 1 + 1 + 1) + (j.length + 1)) = False := by rw [eq_iff_iff, iff_false]; omega
    go_enter Tryd.func15, Tryd.ntmps15
    go_wp2_with fail
    refine HV.out.mono ?_
    rintro e w1 ⟨rfl, hb⟩
    have HB1 := Lib.hid (HB0.out.trans (hb.mono HB0.out.size))
    have HBX1 := Lib.hid ((hb.block w.heap.size hz0).trans HBX0.out)
    have hz1 : w.heap.size < w1.heap.size := Nat.lt_of_lt_of_le hz0 hb.size
    clear hb
    have q0 : w1.cell? ⟨w.heap.size, 0, none⟩ = some (sv l.sch) := cell_of_row w1 _ 0 _ _ _ HBX1.out
    have q1 : w1.cell? ⟨w.heap.size, 1, none⟩ = some (sv l.host) := cell_of_row w1 _ 1 _ _ _ HBX1.out
    have q2 : w1.cell? ⟨w.heap.size, 2, none⟩ = some (.slice A l.path.length c) := cell_of_row w1 _ 2 _ _ _ HBX1.out
    have HQ0 := Lib.hid q0
    have HQ1 := Lib.hid q1
    have HQ2 := Lib.hid q2
    clear q0 q1 q2
    have HJ1 := Lib.hid (fun w2 (hb : Below w1.heap.size w1 w2) => HJ.out w2 (HB1.out.trans (hb.mono HB1.out.size)))
    go_wp2_with fail
    refine wp_region_typed 10 (by kernel_rfl) (by kernel_rfl) (fun _ w => Below (World.heap w1).size w1 w) KB (fun i => ([bIs (.pointer (some ⟨w.heap.size, 0, none⟩)), bIs (sv l.sch), bIs (sv (l.sch ++ [58, 47, 47])), bIs (.pointer (some ⟨w.heap.size, 1, none⟩)), bIs (sv l.host), bIs (sv (l.sch ++ 58 :: 47 :: 47 :: l.host)), bIs (.pointer (some ⟨w.heap.size, 2, none⟩)), bIs (.slice A l.path.length c), bIs (sv (47 :: j)), bIs (sv (l.sch ++ 58 :: 47 :: 47 :: (l.host ++ 47 :: j)))] : List TyB).getD i bAny) ?hWbB2 ?hkeepB2 ?hstepB2 ?hfinbB2
    case hkeepB2 =>
      refine all_lt_succ (all_lt_succ (all_lt_succ (all_lt_succ (all_lt_succ (all_lt_succ (all_lt_succ (all_lt_succ (all_lt_succ (all_lt_succ all_lt_zero ?_) ?_) ?_) ?_) ?_) ?_) ?_) ?_) ?_) ?_
      · exact keeps_bIs
      · exact keeps_bIs
      · exact keeps_bIs
      · exact keeps_bIs
      · exact keeps_bIs
      · exact keeps_bIs
      · exact keeps_bIs
      · exact keeps_bIs
      · exact keeps_bIs
      · exact keeps_bIs
    case hstepB2 =>
      refine all_lt_succ (all_lt_succ (all_lt_succ (all_lt_succ (all_lt_succ (all_lt_succ (all_lt_succ (all_lt_succ (all_lt_succ (all_lt_succ all_lt_zero ?_) ?_) ?_) ?_) ?_) ?_) ?_) ?_) ?_) ?_
      · (intro o ho m' a w1 hm' hW hb hd K Q hK; obtain rfl := Option.some.inj ho; have e0 : a.tmps[1]?.getD undef = .pointer (some ⟨w.heap.size, 0, none⟩) := (by rw [hb 1 (by decide +kernel)]; simp); go_simp; exact hK _ _ hW (kb_refl _) rfl)
      · (intro o ho m' a w1 hm' hW hb hd K Q hK; obtain rfl := Option.some.inj ho; have e0 := slotB (hd 0 (by kernel_rfl) 7 rfl); have hcw := (hW.cell (p := ⟨w.heap.size, 0, none⟩) hz1).trans HQ0.out; go_simp; exact hK _ _ hW (kb_refl _) rfl)
      · (intro o ho m' a w1 hm' hW hb hd K Q hK; obtain rfl := Option.some.inj ho; have e0 := slotB (hd 1 (by kernel_rfl) 8 rfl); go_simp; exact hK _ _ hW (kb_refl _) rfl)
      · (intro o ho m' a w1 hm' hW hb hd K Q hK; obtain rfl := Option.some.inj ho; have e0 : a.tmps[1]?.getD undef = .pointer (some ⟨w.heap.size, 0, none⟩) := (by rw [hb 1 (by decide +kernel)]; simp); go_simp; exact hK _ _ hW (kb_refl _) rfl)
      · (intro o ho m' a w1 hm' hW hb hd K Q hK; obtain rfl := Option.some.inj ho; have e0 := slotB (hd 3 (by kernel_rfl) 10 rfl); have hcw := (hW.cell (p := ⟨w.heap.size, 1, none⟩) hz1).trans HQ1.out; go_simp; exact hK _ _ hW (kb_refl _) rfl)
      · (intro o ho m' a w1 hm' hW hb hd K Q hK; obtain rfl := Option.some.inj ho; have e0 := slotB (hd 2 (by kernel_rfl) 9 rfl); have e1 := slotB (hd 4 (by kernel_rfl) 11 rfl); go_simp; exact hK _ _ hW (kb_refl _) rfl)
      · (intro o ho m' a w1 hm' hW hb hd K Q hK; obtain rfl := Option.some.inj ho; have e0 : a.tmps[1]?.getD undef = .pointer (some ⟨w.heap.size, 0, none⟩) := (by rw [hb 1 (by decide +kernel)]; simp); go_simp; exact hK _ _ hW (kb_refl _) rfl)
      · (intro o ho m' a w1 hm' hW hb hd K Q hK; obtain rfl := Option.some.inj ho; have e0 := slotB (hd 6 (by kernel_rfl) 13 rfl); have hcw := (hW.cell (p := ⟨w.heap.size, 2, none⟩) hz1).trans HQ2.out; go_simp; exact hK _ _ hW (kb_refl _) rfl)
      · (intro o ho m' a w1 hm' hW hb hd K Q hK; obtain rfl := Option.some.inj ho; have e0 := slotB (hd 7 (by kernel_rfl) 14 rfl); go_simp; refine (HJ1.out _ hW).mono ?_; rintro e w2 ⟨rfl, rfl⟩; exact hK _ _ hW (kb_refl _) rfl)
      · (intro o ho m' a w1 hm' hW hb hd K Q hK; obtain rfl := Option.some.inj ho; have e0 := slotB (hd 5 (by kernel_rfl) 12 rfl); have e1 := slotB (hd 8 (by kernel_rfl) 15 rfl); go_simp; exact hK _ _ hW (kb_refl _) rfl)
    case hWbB2 => exact (Below.refl _ _).drew
    case hfinbB2 =>
      intro vs w2 hW hF
      simp only [putAll, hdst, List.getElem?_cons_succ, List.getElem?_cons_zero, Option.bind, List.drop_succ_cons, List.drop_zero, Act.put]
      have h9 : vs 9 = sv (l.sch ++ 58 :: 47 :: 47 :: (l.host ++ 47 :: j)) := hF 9 (by omega)
      rw [h9]
      have q3 : w2.cell? ⟨w.heap.size, 3, none⟩ = some (sv l.qu) := (hW.cell (p := ⟨w.heap.size, 3, none⟩) hz1).trans (cell_of_row w1 _ 3 _ _ _ HBX1.out)
      have HB2 := Lib.hid (HB1.out.trans (hW.mono HB1.out.size))
      clear hW hF h9
      go_simp
      by_cases hqe : l.qu = []
      · have hq0 : List.isEmpty l.qu = true := by rw [hqe]; rfl
        have HT2 : Hid (locText l = l.sch ++ 58 :: 47 :: 47 :: (l.host ++ 47 :: j)) := by show _ = _; rw [HT.out, if_pos hqe, List.append_nil]; simp
        clear hqe
        go_wp2
        go_ret
        exact ⟨ret_str HT2.out.symm, HB2.out⟩
      · have hq0 : List.isEmpty l.qu = false := by simpa using hqe
        have HT2 : Hid (locText l = l.sch ++ [58, 47, 47] ++ l.host ++ [47] ++ j ++ 63 :: l.qu) := by show _ = _; rw [HT.out, if_neg hqe]
        clear hqe
        go_wp2
        go_ret
        exact ⟨ret_str (by rw [HT2.out]; simp), HB2.out⟩
end Go.Proofs.YtjlaelkdmgcniaaDoor
