/- Nodes, read, of impl: a walk. -/
import Derived.Test.YtdmmnjnbjigdeaaDoorNodeMp
import Derived.Test.YtdmmnjnbjigdeaaDoorNodeRR
import Derived.Test.YtdmmnjnbjigdeaaDoorNodeNum
import Derived.Test.YtdmmnjnbjigdeaaDoorNodeAto
import Derived.RegionTactic
import Derived.BigRegion
namespace Go.Proofs.YtdmmnjnbjigdeaaDoor
open Go.RowKit
open Go.ChangeMaps (setBlock)
theorem newRd_drew {w w' : World} {s : Tx} {o : Option (Nd × Tx)} {e : Ending} (h : NewRd w s o e w') : NewRd w s o e w'.drew := by
  obtain ⟨raw, L, x, r, he, ho, hn, hL, hb, hr, hs⟩ := h
  exact ⟨raw, L, x, r, he, OwT.keep _ _ _ ho (fun j _ => rfl), hn, hL, hb.drew, hr, hs⟩
set_option maxRecDepth 100000 in
set_option maxHeartbeats 4000000 in
theorem impl_readNode0 (s : Tx) (w : World) : Calls Tryd.prog 42 #[sv s, .int .i64 (0 : Nat)] w (NewRd w s (rdI 0 s)) := by
  have hX0 := heap_alloc_new w (.cells #[.int .i64 0, .int .i64 0, .string ⟨#[]⟩, .slice none 0 0, .slice none 0 0] 26)
  obtain ⟨⟨y0, y1, y2, y3, y4⟩, y5, y6, y7, y8, y9⟩ := box_five hX0
  have hb := (Below.refl w.heap.size w).alloc (Nat.le_refl _) (.cells #[.int .i64 0, .int .i64 0, .string ⟨#[]⟩, .slice none 0 0, .slice none 0 0] 26)
  go_enter Tryd.func42, Tryd.ntmps42
  go_upto_region 1 with fail
  generalize w.alloc (.cells #[.int .i64 0, .int .i64 0, .string ⟨#[]⟩, .slice none 0 0, .slice none 0 0] 26) = w0 at *
  go_wp2
  refine bodyPost_ret (v := .tuple #[ndV 0 0 [] none 0 0 none 0 0, sv s, .bool false]) (by simp [results, Tryd.results42, go_sem, *]) rfl ?_
  refine newRd_end (raw := ⟨0, 0, [], none, 0, 0, none, 0, 0⟩) (L := []) (x := .mk 0 0 [] [] []) (r := s) (w' := _) w.heap.size (.int .i64 0) (.int .i64 0) (sv []) (.slice none 0 0) (.slice none 0 0) false ?_ ?_ ?_ ?_ ?_ ?_ ?_ ?_
  · exact owT_flat _ 0 0 []
  · exact List.nodup_nil
  · intro b hb; cases hb
  · exact hb
  · exact Nat.le_refl _
  · exact Nat.le_refl _
  · rfl
  · intro q hq; cases hq
set_option maxRecDepth 100000 in
set_option maxHeartbeats 4000000 in
theorem impl_readNode1 (d : Nat) (HC : RdC d) (hd : d ≤ 10) (s : Tx) (w : World) (hl : s.length ≤ 4000000) (hE : Env w) (hR : ErrIs w) : Calls Tryd.prog 42 #[sv s, .int .i64 ((d : Int) + 1)] w (NewRd w s (rdI (d + 1) s)) := by
  have hX0 := heap_alloc_new w (.cells #[.int .i64 0, .int .i64 0, .string ⟨#[]⟩, .slice none 0 0, .slice none 0 0] 26)
  have hb := (Below.refl w.heap.size w).alloc (Nat.le_refl _) (.cells #[.int .i64 0, .int .i64 0, .string ⟨#[]⟩, .slice none 0 0, .slice none 0 0] 26)
  have hq : ((d : Int) + 1 = 0) = False := by simp; omega
  have hs0 : (w.alloc (.cells #[.int .i64 0, .int .i64 0, .string ⟨#[]⟩, .slice none 0 0, .slice none 0 0] 26)).heap.size = w.heap.size + 1 := by simp
  have hmk := fun w => run_makeMap (P := Tryd.prog) 71 w
  go_enter Tryd.func42, Tryd.ntmps42
  go_upto_region 3 with fail
  generalize w.alloc (.cells #[.int .i64 0, .int .i64 0, .string ⟨#[]⟩, .slice none 0 0, .slice none 0 0] 26) = w0 at *
  have h1 : (w0.alloc (.map #[] 0)).heap[w.heap.size + 1]? = some (.map #[] 0) := by rw [← hs0]; exact heap_alloc_new _ _
  obtain ⟨W1, hi1, hm1, ho1, hs1, hb1⟩ := ins_word (w0.alloc (.map #[] 0)) (w.heap.size + 1) 0 #[] ⟨#[110, 117, 108, 108]⟩ (.agg #[.int .i64 1, .int .i64 0, .string ⟨#[]⟩, .slice none 0 0, .slice none 0 0]) (by rfl) h1
  obtain ⟨W2, hi2, hm2, ho2, hs2, hb2⟩ := ins_word W1 (w.heap.size + 1) 1 _ ⟨#[116, 114, 117, 101]⟩ (.agg #[.int .i64 2, .int .i64 1, .string ⟨#[]⟩, .slice none 0 0, .slice none 0 0]) (by rfl) hm1
  obtain ⟨W3, hi3, hm3, ho3, hs3, hb3⟩ := ins_word W2 (w.heap.size + 1) 2 _ ⟨#[102, 97, 108, 115, 101]⟩ (.agg #[.int .i64 2, .int .i64 0, .string ⟨#[]⟩, .slice none 0 0, .slice none 0 0]) (by rfl) hm2
  have hrg := run_range_map (P := Tryd.prog) W3 71 9 26 (w.heap.size + 1) _ _ Tryd.underlying71 hm3
  go_wp2_with fail
  have hm : W3.heap[w.heap.size + 1]? = some (.map wents 3) := hm3
  have hsw : W3.heap.size = w.heap.size + 2 := by rw [hs3, hs2, hs1]; simp [hs0]
  have hX3 : W3.heap[w.heap.size]? = some (.cells #[.int .i64 0, .int .i64 0, .string ⟨#[]⟩, .slice none 0 0, .slice none 0 0] 26 (0, 0)) := by
    rw [ho3 _ (by omega), ho2 _ (by omega), ho1 _ (by omega), heap_alloc_old _ _ (by omega)]
    exact hX0
  have hB3 : Below w.heap.size w W3 := (((hb.trans ((Below.refl _ _).alloc (by omega) _)).trans (hb1 _ (by omega))).trans (hb2 _ (by omega))).trans (hb3 _ (by omega))
  have HE := Lib.hid hE
  have HR := Lib.hid hR
  have HX3 := Lib.hid hX3
  have HB3 := Lib.hid hB3
  have HM := Lib.hid hm
  clear hE hR hX3 hB3 hm hm1 hm2 hm3 ho1 ho2 ho3 hs1 hs2 hs3 hb1 hb2 hb3 hi1 hi2 hi3 hmk hrg h1 hX0 hb
  go_loopw [] (fun wr => ∃ (seen : Array Nat) (c0 : Nat), wr.heap[w.heap.size + 2]? = some (.mapIter (some (w.heap.size + 1)) 3 seen c0) ∧ 3 ≤ c0 ∧ wr.heap[w.heap.size + 1]? = some (.map wents 3) ∧ wr.heap[w.heap.size]? = some (.cells #[.int .i64 0, .int .i64 0, .string ⟨#[]⟩, .slice none 0 0, .slice none 0 0] 26 (0, 0)) ∧ Below w.heap.size w wr ∧ ∀ x ∈ wents.toList, seen.contains x.born = true → ∀ t : Tx, x.key = sv t → Lib.hasPrefix s t = false) (fun wr => (leftOf wents (wr.iterSeen (w.heap.size + 2))).size)
  case atStart =>
    have hn := heap_alloc_new W3 (.mapIter (some (w.heap.size + 1)) 3 #[] 3)
    rw [hsw] at hn
    exact ⟨#[], 3, hn, Nat.le_refl _, (heap_alloc_old _ _ (by omega)).trans HM.out, (heap_alloc_old _ _ (by omega)).trans HX3.out, HB3.out.alloc (by omega) _, fun x _ h => by simp at h⟩
  case round =>
    obtain ⟨seen, c0, hit, hc0, hmp, hy, hb, hno⟩ := hrel
    rcases run_next_at (P := Tryd.prog) wr 0 (w.heap.size + 2) (w.heap.size + 1) 3 c0 seen wents 3 hit hmp wents_born hc0 with ⟨h0, hrun⟩ | ⟨e, he, w1, hal, hrun⟩
    · have hp0 := hno (went wNull 1 0 0) (by simp [wents]) (all_seen wents seen h0 _ (by simp [wents])) wNull rfl
      have hp1 := hno (went wTrue 2 1 1) (by simp [wents]) (all_seen wents seen h0 _ (by simp [wents])) wTrue rfl
      have hp2 := hno (went wFalse 2 0 2) (by simp [wents]) (all_seen wents seen h0 _ (by simp [wents])) wFalse rfl
      have HY := Lib.hid hy
      have HB := Lib.hid hb
      obtain ⟨⟨y0, y1, y2, y3, y4⟩, y5, y6, y7, y8, y9⟩ := box_five HY.out
      clear hno hit hmp hy hb
      cases s with
      | nil =>
        have HRD : Hid (rdI (d + 1) [] = none) := rfl
        go_wp2
        refine bodyPost_ret (v := .tuple #[ndV 0 0 [] none 0 0 none 0 0, sv [], .bool false]) (by simp [results, Tryd.results42, go_sem, *]) rfl ?_
        rw [HRD.out]
        refine newRd_end (raw := ⟨0, 0, [], none, 0, 0, none, 0, 0⟩) (L := []) (x := .mk 0 0 [] [] []) (r := []) (w' := _) w.heap.size (.int .i64 0) (.int .i64 0) (sv []) (.slice none 0 0) (.slice none 0 0) false ?_ ?_ ?_ ?_ ?_ ?_ ?_ ?_
        · exact owT_flat _ 0 0 []
        · exact List.nodup_nil
        · intro b hb; cases hb
        · exact HB.out
        · exact Nat.le_refl _
        · exact Nat.le_refl _
        · rfl
        · intro q hq; cases hq
      | cons c t =>
        have HRD : Hid (rdI (d + 1) (c :: t) = if c == 34 then (rdT [] t).map fun q => (.mk 4 0 q.1 [] [], q.2) else if c == 91 then inI (rdI d) false t else if c == 123 then inI (rdI d) true t
          else (Lib.atoi ((c :: t).take (numEnd (c :: t)))).map fun n => (.mk 3 n [] [] [], (c :: t).drop (numEnd (c :: t)))) := by
          show _ = _
          rw [rdI_cons, if_neg (by rw [hp0]; decide), if_neg (by rw [hp1]; decide), if_neg (by rw [hp2]; decide)]
        clear hp0 hp1 hp2
        have hemp : (c :: t == []) = false := by simp
        cases h34 : (c == 34)
        · have m34 : ((c.toNat : Int) == 34) = false := byte_neR h34
          cases h91 : (c == 91)
          · have m91 : ((c.toNat : Int) == 91) = false := byte_neR h91
            cases h123 : (c == 123)
            · have m123 : ((c.toNat : Int) == 123) = false := byte_neR h123
              have HNUM : Hid (rdI (d + 1) (c :: t) = (Lib.atoi ((c :: t).take (numEnd (c :: t)))).map fun n => (.mk 3 n [] [] [], (c :: t).drop (numEnd (c :: t)))) := by
                show _ = _; rw [HRD.out, if_neg (by rw [h34]; decide), if_neg (by rw [h91]; decide), if_neg (by rw [h123]; decide)]
              clear HRD h34 h91 h123
              have HNE : Hid (c :: t ≠ []) := by show _ ≠ _; simp
              go_wp2_with fail
              generalize hss : c :: t = s at *
              go_loopw [14] (fun i wr2 => ∃ (k : Nat), i = .int .i64 (k : Int) ∧ k ≤ s.length ∧ k ≤ 8 ∧ ne s k = numEnd s ∧ wr2 = wr) (fun i _ => s.length - (intOf i).toNat)
              case atStart => exact ⟨0, rfl, Nat.zero_le _, by omega, ne_zero s, rfl⟩
              case round =>
                obtain ⟨k, rfl, hk, h8, hne, rfl⟩ := hrel
                have HN := Lib.hid hne
                clear hne
                by_cases hlt : k < s.length
                · by_cases hl8 : k < 8
                  · cases hD : isDig s[k] with
                    | true =>
                      have HN2 : Hid (ne s (k + 1) = numEnd s) := by show _ = _; rw [← HN.out, ne_hit hlt hl8 (by rw [isD_dig, hD]; rfl)]
                      go_wp2_with (go_at_call 64; refine (impl_isDigit _ _).mono ?_; rintro e w' ⟨rfl, rfl⟩)
                      go_roundw
                      case rel => ((repeat apply Exists.intro); exact ⟨⟨k + 1, rfl, by omega, by omega, HN2.out, trivial⟩, rfl⟩)
                      case measure => simp [intOf]; omega
                    | false =>
                      by_cases h0 : k = 0
                      · subst h0
                        cases h45 : (s[0] == 45) with
                        | true =>
                          have HN2 : Hid (ne s (0 + 1) = numEnd s) := by show _ = _; rw [← HN.out, ne_hit hlt hl8 (by rw [h45]; simp)]
                          have m45 : ((s[0].toNat : Int) == 45) = true := byte_eqR h45
                          clear h45
                          go_wp2_with (go_at_call 64; refine (impl_isDigit _ _).mono ?_; rintro e w' ⟨rfl, rfl⟩)
                          go_roundw
                          case rel => ((repeat apply Exists.intro); exact ⟨⟨0 + 1, rfl, by omega, by omega, HN2.out, trivial⟩, rfl⟩)
                          case measure => simp [intOf]; omega
                        | false =>
                          have HK : Hid (numEnd s = 0) := by show _ = _; rw [← HN.out, ne_miss hlt hl8 (by rw [isD_dig, hD, h45]; simp)]
                          have m45 : ((s[0].toNat : Int) == 45) = false := byte_neR h45
                          clear h45 HN
                          rw [HK.out] at HNUM
                          have HAT : Hid (Lib.atoi [] = none) := by show _ = _; decide
                          go_wp2_with (go_at_call 64; refine (impl_isDigit _ _).mono ?_; rintro e w' ⟨rfl, rfl⟩)
                          refine (atoi_miss (s := []) (by decide) HAT.out _ (HR.out.below HB.out)).mono ?_
                          rintro e w5 ⟨N, rfl, hb5⟩
                          have HNU2 : Hid (rdI (d + 1) s = none) := by show _ = _; rw [HNUM.out]; rfl
                          clear HNUM
                          have HNUM := HNU2
                          have HB5 := Lib.hid (HB.out.trans (hb5.mono HB.out.size))
                          have HY5 := Lib.hid (bx_keep HY.out hb5)
                          clear y0 y1 y2 y3 y4 y5 y6 y7 y8 y9
                          obtain ⟨⟨y0, y1, y2, y3, y4⟩, y5, y6, y7, y8, y9⟩ := box_five HY5.out
                          have hkl : (s.drop 0).length ≤ s.length := by simp
                          go_wp2
                          go_region
                          go_wp2
                          refine bodyPost_ret (v := .tuple #[ndV 3 0 [] none 0 0 none 0 0, sv (s.drop 0), .bool false]) (by simp [results, Tryd.results42, go_sem, *]) rfl ?_
                          rw [HNUM.out]
                          refine newRd_drew (newRd_end (raw := ⟨3, 0, [], none, 0, 0, none, 0, 0⟩) (L := []) (x := .mk 3 0 [] [] []) (r := s.drop 0) (w' := _) w.heap.size (.int .i64 3) (.int .i64 0) (sv []) (.slice none 0 0) (.slice none 0 0) false ?_ ?_ ?_ ?_ ?_ ?_ ?_ ?_)
                          · exact owT_flat _ 3 0 []
                          · exact List.nodup_nil
                          · intro b hb; cases hb
                          · exact HB5.out
                          · exact Nat.le_refl _
                          · exact hkl
                          · rfl
                          · intro q hq; cases hq
                      · have HK : Hid (numEnd s = k) := by show _ = _; rw [← HN.out, ne_miss hlt hl8 (by rw [isD_dig, hD]; simp [h0])]
                        clear HN
                        have hk0 : ((k : Int) == 0) = false := by simp; omega
                        go_wp2_with (go_at_call 64; refine (impl_isDigit _ _).mono ?_; rintro e w' ⟨rfl, rfl⟩)
                        rw [HK.out] at HNUM
                        clear HK
                        cases hat : Lib.atoi (s.take k) with
                        | none =>
                          have HAT := Lib.hid hat
                          rw [hat] at HNUM
                          clear hat
                          refine (atoi_miss (by simp; omega) HAT.out _ (HR.out.below HB.out)).mono ?_
                          rintro e w5 ⟨N, rfl, hb5⟩
                          have HB5 := Lib.hid (HB.out.trans (hb5.mono HB.out.size))
                          have HY5 := Lib.hid (bx_keep HY.out hb5)
                          clear y0 y1 y2 y3 y4 y5 y6 y7 y8 y9
                          obtain ⟨⟨y0, y1, y2, y3, y4⟩, y5, y6, y7, y8, y9⟩ := box_five HY5.out
                          have hkl : (s.drop k).length ≤ s.length := by simp
                          go_wp2
                          go_region
                          go_wp2
                          refine bodyPost_ret (v := .tuple #[ndV 3 0 [] none 0 0 none 0 0, sv (s.drop k), .bool false]) (by simp [results, Tryd.results42, go_sem, *]) rfl ?_
                          rw [HNUM.out]
                          refine newRd_drew (newRd_end (raw := ⟨3, 0, [], none, 0, 0, none, 0, 0⟩) (L := []) (x := .mk 3 0 [] [] []) (r := s.drop k) (w' := _) w.heap.size (.int .i64 3) (.int .i64 0) (sv []) (.slice none 0 0) (.slice none 0 0) false ?_ ?_ ?_ ?_ ?_ ?_ ?_ ?_)
                          · exact owT_flat _ 3 0 []
                          · exact List.nodup_nil
                          · intro b hb; cases hb
                          · exact HB5.out
                          · exact Nat.le_refl _
                          · exact hkl
                          · rfl
                          · intro q hq; cases hq
                        | some n =>
                          have HAT := Lib.hid hat
                          rw [hat] at HNUM
                          clear hat
                          refine (atoi_hit (by simp; omega) HAT.out _).mono ?_
                          rintro e w5 ⟨rfl, hb5⟩
                          have HB5 := Lib.hid (HB.out.trans (hb5.mono HB.out.size))
                          have HY5 := Lib.hid (bx_keep HY.out hb5)
                          clear y0 y1 y2 y3 y4 y5 y6 y7 y8 y9
                          obtain ⟨⟨y0, y1, y2, y3, y4⟩, y5, y6, y7, y8, y9⟩ := box_five HY5.out
                          have hkl : (s.drop k).length ≤ s.length := by simp
                          go_wp2
                          go_region
                          go_wp2
                          refine bodyPost_ret (v := .tuple #[ndV 3 n [] none 0 0 none 0 0, sv (s.drop k), .bool true]) (by simp [results, Tryd.results42, go_sem, *]) rfl ?_
                          rw [HNUM.out]
                          refine newRd_drew (newRd_end (raw := ⟨3, n, [], none, 0, 0, none, 0, 0⟩) (L := []) (x := .mk 3 n [] [] []) (r := s.drop k) (w' := _) w.heap.size (.int .i64 3) (.int .i64 n) (sv []) (.slice none 0 0) (.slice none 0 0) true ?_ ?_ ?_ ?_ ?_ ?_ ?_ ?_)
                          · exact owT_flat _ 3 n []
                          · exact List.nodup_nil
                          · intro b hb; cases hb
                          · exact HB5.out
                          · exact Nat.le_refl _
                          · exact hkl
                          · rfl
                          · intro q hq; injection hq with hq; subst hq; exact ⟨rfl, rfl⟩
                  · have HK : Hid (numEnd s = k) := by show _ = _; rw [← HN.out, ne_end HNE.out (.inr (by omega))]
                    clear HN
                    go_wp2_with fail
                    rw [HK.out] at HNUM
                    clear HK
                    cases hat : Lib.atoi (s.take k) with
                    | none =>
                      have HAT := Lib.hid hat
                      rw [hat] at HNUM
                      clear hat
                      refine (atoi_miss (by simp; omega) HAT.out _ (HR.out.below HB.out)).mono ?_
                      rintro e w5 ⟨N, rfl, hb5⟩
                      have HB5 := Lib.hid (HB.out.trans (hb5.mono HB.out.size))
                      have HY5 := Lib.hid (bx_keep HY.out hb5)
                      clear y0 y1 y2 y3 y4 y5 y6 y7 y8 y9
                      obtain ⟨⟨y0, y1, y2, y3, y4⟩, y5, y6, y7, y8, y9⟩ := box_five HY5.out
                      have hkl : (s.drop k).length ≤ s.length := by simp
                      go_wp2
                      go_region
                      go_wp2
                      refine bodyPost_ret (v := .tuple #[ndV 3 0 [] none 0 0 none 0 0, sv (s.drop k), .bool false]) (by simp [results, Tryd.results42, go_sem, *]) rfl ?_
                      rw [HNUM.out]
                      refine newRd_drew (newRd_end (raw := ⟨3, 0, [], none, 0, 0, none, 0, 0⟩) (L := []) (x := .mk 3 0 [] [] []) (r := s.drop k) (w' := _) w.heap.size (.int .i64 3) (.int .i64 0) (sv []) (.slice none 0 0) (.slice none 0 0) false ?_ ?_ ?_ ?_ ?_ ?_ ?_ ?_)
                      · exact owT_flat _ 3 0 []
                      · exact List.nodup_nil
                      · intro b hb; cases hb
                      · exact HB5.out
                      · exact Nat.le_refl _
                      · exact hkl
                      · rfl
                      · intro q hq; cases hq
                    | some n =>
                      have HAT := Lib.hid hat
                      rw [hat] at HNUM
                      clear hat
                      refine (atoi_hit (by simp; omega) HAT.out _).mono ?_
                      rintro e w5 ⟨rfl, hb5⟩
                      have HB5 := Lib.hid (HB.out.trans (hb5.mono HB.out.size))
                      have HY5 := Lib.hid (bx_keep HY.out hb5)
                      clear y0 y1 y2 y3 y4 y5 y6 y7 y8 y9
                      obtain ⟨⟨y0, y1, y2, y3, y4⟩, y5, y6, y7, y8, y9⟩ := box_five HY5.out
                      have hkl : (s.drop k).length ≤ s.length := by simp
                      go_wp2
                      go_region
                      go_wp2
                      refine bodyPost_ret (v := .tuple #[ndV 3 n [] none 0 0 none 0 0, sv (s.drop k), .bool true]) (by simp [results, Tryd.results42, go_sem, *]) rfl ?_
                      rw [HNUM.out]
                      refine newRd_drew (newRd_end (raw := ⟨3, n, [], none, 0, 0, none, 0, 0⟩) (L := []) (x := .mk 3 n [] [] []) (r := s.drop k) (w' := _) w.heap.size (.int .i64 3) (.int .i64 n) (sv []) (.slice none 0 0) (.slice none 0 0) true ?_ ?_ ?_ ?_ ?_ ?_ ?_ ?_)
                      · exact owT_flat _ 3 n []
                      · exact List.nodup_nil
                      · intro b hb; cases hb
                      · exact HB5.out
                      · exact Nat.le_refl _
                      · exact hkl
                      · rfl
                      · intro q hq; injection hq with hq; subst hq; exact ⟨rfl, rfl⟩
                · have HK : Hid (numEnd s = k) := by show _ = _; rw [← HN.out, ne_end HNE.out (.inl (by omega))]
                  clear HN
                  go_wp2_with fail
                  rw [HK.out] at HNUM
                  clear HK
                  cases hat : Lib.atoi (s.take k) with
                  | none =>
                    have HAT := Lib.hid hat
                    rw [hat] at HNUM
                    clear hat
                    refine (atoi_miss (by simp; omega) HAT.out _ (HR.out.below HB.out)).mono ?_
                    rintro e w5 ⟨N, rfl, hb5⟩
                    have HB5 := Lib.hid (HB.out.trans (hb5.mono HB.out.size))
                    have HY5 := Lib.hid (bx_keep HY.out hb5)
                    clear y0 y1 y2 y3 y4 y5 y6 y7 y8 y9
                    obtain ⟨⟨y0, y1, y2, y3, y4⟩, y5, y6, y7, y8, y9⟩ := box_five HY5.out
                    have hkl : (s.drop k).length ≤ s.length := by simp
                    go_wp2
                    go_region
                    go_wp2
                    refine bodyPost_ret (v := .tuple #[ndV 3 0 [] none 0 0 none 0 0, sv (s.drop k), .bool false]) (by simp [results, Tryd.results42, go_sem, *]) rfl ?_
                    rw [HNUM.out]
                    refine newRd_drew (newRd_end (raw := ⟨3, 0, [], none, 0, 0, none, 0, 0⟩) (L := []) (x := .mk 3 0 [] [] []) (r := s.drop k) (w' := _) w.heap.size (.int .i64 3) (.int .i64 0) (sv []) (.slice none 0 0) (.slice none 0 0) false ?_ ?_ ?_ ?_ ?_ ?_ ?_ ?_)
                    · exact owT_flat _ 3 0 []
                    · exact List.nodup_nil
                    · intro b hb; cases hb
                    · exact HB5.out
                    · exact Nat.le_refl _
                    · exact hkl
                    · rfl
                    · intro q hq; cases hq
                  | some n =>
                    have HAT := Lib.hid hat
                    rw [hat] at HNUM
                    clear hat
                    refine (atoi_hit (by simp; omega) HAT.out _).mono ?_
                    rintro e w5 ⟨rfl, hb5⟩
                    have HB5 := Lib.hid (HB.out.trans (hb5.mono HB.out.size))
                    have HY5 := Lib.hid (bx_keep HY.out hb5)
                    clear y0 y1 y2 y3 y4 y5 y6 y7 y8 y9
                    obtain ⟨⟨y0, y1, y2, y3, y4⟩, y5, y6, y7, y8, y9⟩ := box_five HY5.out
                    have hkl : (s.drop k).length ≤ s.length := by simp
                    go_wp2
                    go_region
                    go_wp2
                    refine bodyPost_ret (v := .tuple #[ndV 3 n [] none 0 0 none 0 0, sv (s.drop k), .bool true]) (by simp [results, Tryd.results42, go_sem, *]) rfl ?_
                    rw [HNUM.out]
                    refine newRd_drew (newRd_end (raw := ⟨3, n, [], none, 0, 0, none, 0, 0⟩) (L := []) (x := .mk 3 n [] [] []) (r := s.drop k) (w' := _) w.heap.size (.int .i64 3) (.int .i64 n) (sv []) (.slice none 0 0) (.slice none 0 0) true ?_ ?_ ?_ ?_ ?_ ?_ ?_ ?_)
                    · exact owT_flat _ 3 n []
                    · exact List.nodup_nil
                    · intro b hb; cases hb
                    · exact HB5.out
                    · exact Nat.le_refl _
                    · exact hkl
                    · rfl
                    · intro q hq; injection hq with hq; subst hq; exact ⟨rfl, rfl⟩
            · have hc : c = 123 := eq_of_beq h123
              subst hc
              have m91 : (((123 : UInt8).toNat : Int) == 123) = true := by decide
              have HRQ : Hid (rdI (d + 1) (123 :: t) = inI (rdI d) true t) := by show _ = _; rw [HRD.out]; rfl
              have hc1 : t.length + 1 ≤ 4000000 := hl
              have HIN := Lib.hid (impl_insideR d HC t wr hc1 (HE.out.below HB.out) (HR.out.below HB.out) hd)
              go_wp2_with fail
              refine HIN.out.mono ?_
              rintro e w5 ⟨raw, L, x, r, rfl, ho5, hn5, hg5, hb5, hlr, hso⟩
              have HB5 := Lib.hid (HB.out.trans (hb5.mono HB.out.size))
              have HY5 := Lib.hid (bx_keep HY.out hb5)
              clear y0 y1 y2 y3 y4 y5 y6 y7 y8 y9
              obtain ⟨⟨y0, y1, y2, y3, y4⟩, y5, y6, y7, y8, y9⟩ := box_five HY5.out
              have hsz5 := HB.out.size
              obtain ⟨rk, rn, rt, rAn, rln, rcn, rAi, rli, rci⟩ := raw
              go_wp2
              refine bodyPost_ret (v := .tuple #[ndV rk rn rt rAn rln rcn rAi rli rci, sv r, .bool (inI (rdI d) true t).isSome]) (by simp [results, Tryd.results42, go_sem, *]) rfl ?_
              rw [HRQ.out]
              refine newRd_end (raw := ⟨rk, rn, rt, rAn, rln, rcn, rAi, rli, rci⟩) (L := L) (x := x) (r := r) (w' := _) w.heap.size (.int .i64 rk) (.int .i64 rn) (sv rt) (.slice rAn rln rcn) (.slice rAi rli rci) (inI (rdI d) true t).isSome ?_ ?_ ?_ ?_ ?_ ?_ ?_ ?_
              · exact ho5
              · exact hn5
              · intro j hj; have := hg5 j hj; have := lt_of_block HY.out; omega
              · exact HB5.out
              · exact Nat.le_refl _
              · exact hlr
              · rfl
              · exact hso
          · have hc : c = 91 := eq_of_beq h91
            subst hc
            have m91 : (((91 : UInt8).toNat : Int) == 91) = true := by decide
            have HRQ : Hid (rdI (d + 1) (91 :: t) = inI (rdI d) false t) := by show _ = _; rw [HRD.out]; rfl
            have hc1 : t.length + 1 ≤ 4000000 := hl
            have HIN := Lib.hid (impl_insideL d HC t wr hc1 (HE.out.below HB.out) (HR.out.below HB.out) hd)
            go_wp2_with fail
            refine HIN.out.mono ?_
            rintro e w5 ⟨raw, L, x, r, rfl, ho5, hn5, hg5, hb5, hlr, hso⟩
            have HB5 := Lib.hid (HB.out.trans (hb5.mono HB.out.size))
            have HY5 := Lib.hid (bx_keep HY.out hb5)
            clear y0 y1 y2 y3 y4 y5 y6 y7 y8 y9
            obtain ⟨⟨y0, y1, y2, y3, y4⟩, y5, y6, y7, y8, y9⟩ := box_five HY5.out
            have hsz5 := HB.out.size
            obtain ⟨rk, rn, rt, rAn, rln, rcn, rAi, rli, rci⟩ := raw
            go_wp2
            refine bodyPost_ret (v := .tuple #[ndV rk rn rt rAn rln rcn rAi rli rci, sv r, .bool (inI (rdI d) false t).isSome]) (by simp [results, Tryd.results42, go_sem, *]) rfl ?_
            rw [HRQ.out]
            refine newRd_end (raw := ⟨rk, rn, rt, rAn, rln, rcn, rAi, rli, rci⟩) (L := L) (x := x) (r := r) (w' := _) w.heap.size (.int .i64 rk) (.int .i64 rn) (sv rt) (.slice rAn rln rcn) (.slice rAi rli rci) (inI (rdI d) false t).isSome ?_ ?_ ?_ ?_ ?_ ?_ ?_ ?_
            · exact ho5
            · exact hn5
            · intro j hj; have := hg5 j hj; have := lt_of_block HY.out; omega
            · exact HB5.out
            · exact Nat.le_refl _
            · exact hlr
            · rfl
            · exact hso
        · have m34 : ((c.toNat : Int) == 34) = true := byte_eqR h34
          have hc : c = 34 := eq_of_beq h34
          subst hc
          have HRQ : Hid (rdI (d + 1) (34 :: t) = (rdQ (34 :: t)).map fun q => (.mk 4 0 q.1 [] [], q.2)) := by show _ = _; rw [HRD.out, if_pos (by decide)]; rfl
          have hcl : (34 :: t).length ≤ 4000000 := hl
          have HRT : Hid (∀ w, Calls Tryd.prog 62 #[sv (34 :: t)] w fun e w' => e = .returned (rdV (34 :: t) (rdQ (34 :: t))) ∧ Below w.heap.size w w') := fun w => impl_readText (34 :: t) hcl w
          generalize hg : rdQ (34 :: t) = oq at *
          clear h34
          cases oq with
          | none =>
            go_wp2_with fail
            refine (HRT.out _).mono ?_
            rintro e w5 ⟨rfl, hb5⟩
            have HB5 := Lib.hid (HB.out.trans (hb5.mono HB.out.size))
            have HY5 := Lib.hid (bx_keep HY.out hb5)
            clear y0 y1 y2 y3 y4 y5 y6 y7 y8 y9
            obtain ⟨⟨y0, y1, y2, y3, y4⟩, y5, y6, y7, y8, y9⟩ := box_five HY5.out
            simp only [rdV]
            go_wp2
            refine bodyPost_ret (v := .tuple #[ndV 4 0 [] none 0 0 none 0 0, sv (34 :: t), .bool false]) (by simp [results, Tryd.results42, go_sem, *]) rfl ?_
            rw [HRQ.out]
            refine newRd_end (raw := ⟨4, 0, [], none, 0, 0, none, 0, 0⟩) (L := []) (x := .mk 4 0 [] [] []) (r := (34 :: t)) (w' := _) w.heap.size (.int .i64 4) (.int .i64 0) (sv []) (.slice none 0 0) (.slice none 0 0) false ?_ ?_ ?_ ?_ ?_ ?_ ?_ ?_
            · exact owT_flat _ 4 0 []
            · exact List.nodup_nil
            · intro b hb; cases hb
            · exact HB5.out
            · exact Nat.le_refl _
            · exact Nat.le_refl _
            · rfl
            · intro q hq; cases hq
          | some p =>
            have hpl : p.2.length ≤ (34 :: t).length := rdQ_len hg
            go_wp2_with fail
            refine (HRT.out _).mono ?_
            rintro e w5 ⟨rfl, hb5⟩
            have HB5 := Lib.hid (HB.out.trans (hb5.mono HB.out.size))
            have HY5 := Lib.hid (bx_keep HY.out hb5)
            clear y0 y1 y2 y3 y4 y5 y6 y7 y8 y9
            obtain ⟨⟨y0, y1, y2, y3, y4⟩, y5, y6, y7, y8, y9⟩ := box_five HY5.out
            simp only [rdV]
            go_wp2
            refine bodyPost_ret (v := .tuple #[ndV 4 0 p.1 none 0 0 none 0 0, sv p.2, .bool true]) (by simp [results, Tryd.results42, go_sem, *]) rfl ?_
            rw [HRQ.out]
            refine newRd_end (raw := ⟨4, 0, p.1, none, 0, 0, none, 0, 0⟩) (L := []) (x := .mk 4 0 p.1 [] []) (r := p.2) (w' := _) w.heap.size (.int .i64 4) (.int .i64 0) (sv p.1) (.slice none 0 0) (.slice none 0 0) true ?_ ?_ ?_ ?_ ?_ ?_ ?_ ?_
            · exact owT_flat _ 4 0 p.1
            · exact List.nodup_nil
            · intro b hb; cases hb
            · exact HB5.out
            · exact Nat.le_refl _
            · exact hpl
            · rfl
            · intro q hq; injection hq with hq; subst hq; exact ⟨rfl, rfl⟩
    · obtain ⟨k, kd, nn, b, rfl, hkl, hrd⟩ := rd_word d s (mem_left he).1
      have hw1 : w1.heap = wr.heap := by rcases hal with rfl | rfl <;> rfl
      have hit1 : w1.heap[w.heap.size + 2]? = some (.mapIter (some (w.heap.size + 1)) 3 seen c0) := by rw [hw1]; exact hit
      have hmp1 : w1.heap[w.heap.size + 1]? = some (.map wents 3) := by rw [hw1]; exact hmp
      have hy1 : w1.heap[w.heap.size]? = some (.cells #[.int .i64 0, .int .i64 0, .string ⟨#[]⟩, .slice none 0 0, .slice none 0 0] 26 (0, 0)) := by rw [hw1]; exact hy
      have hit2 := setBlock_at (o' := .mapIter (some (w.heap.size + 1)) 3 (seen.push b) 3) hit1
      have hmp2 := (setBlock_else (o' := .mapIter (some (w.heap.size + 1)) 3 (seen.push b) 3) hit1 (j := w.heap.size + 1) (by omega)).trans hmp1
      have hy2 := (setBlock_else (o' := .mapIter (some (w.heap.size + 1)) 3 (seen.push b) 3) hit1 (j := w.heap.size) (by omega)).trans hy1
      have hb2 : Below w.heap.size w (setBlock w1 (w.heap.size + 2) (.mapIter (some (w.heap.size + 1)) 3 (seen.push b) 3)) := below_setBlock (by rcases hal with rfl | rfl; exact hb; exact hb.drew) _ hit1 (by omega)
      have hen := run_entry_at (P := Tryd.prog) _ (w.heap.size + 2) (w.heap.size + 1) 3 seen wents 3 (went k kd nn b) hit2 hmp2 (mem_left he).1 wents_nodup
      have hrun2 : (Instr.next (.pointer (some ⟨w.heap.size + 2, 0, none⟩)) false 0).run Tryd.prog wr = .ok (.tuple #[.bool true, sv k, .agg #[.int .i64 kd, .int .i64 nn, .string ⟨#[]⟩, .slice none 0 0, .slice none 0 0]]) (setBlock w1 (w.heap.size + 2) (.mapIter (some (w.heap.size + 1)) 3 (seen.push b) 3)) := hrun
      have hen2 : (Instr.entry (.pointer (some ⟨w.heap.size + 2, 0, none⟩))).run Tryd.prog (setBlock w1 (w.heap.size + 2) (.mapIter (some (w.heap.size + 1)) 3 (seen.push b) 3)) = .ok (.tuple #[sv k, .agg #[.int .i64 kd, .int .i64 nn, .string ⟨#[]⟩, .slice none 0 0, .slice none 0 0]]) (setBlock w1 (w.heap.size + 2) (.mapIter (some (w.heap.size + 1)) 3 (seen.push b) 3)) := hen
      have hleft := left_shrinks wents seen (went k kd nn b) he
      have hseen : wr.iterSeen (w.heap.size + 2) = seen := by unfold World.iterSeen; rw [hit]
      clear hrun hen
      generalize setBlock w1 (w.heap.size + 2) (.mapIter (some (w.heap.size + 1)) 3 (seen.push b) 3) = W5 at *
      have HA := Lib.hid ((Below.refl W5.heap.size W5).alloc (Nat.le_refl _) (.cells (ndCells kd nn [] none 0 0 none 0 0) 26))
      have HX5 := Lib.hid (heap_alloc_new W5 (.cells (ndCells kd nn [] none 0 0 none 0 0) 26))
      have HIT := Lib.hid (bx_keep hit2 HA.out)
      have HMP := Lib.hid (bx_keep hmp2 HA.out)
      have HY := Lib.hid (bx_keep hy2 HA.out)
      have HB := Lib.hid (hb2.alloc hb2.size (.cells (ndCells kd nn [] none 0 0 none 0 0) 26))
      obtain ⟨⟨y0, y1, y2, y3, y4⟩, y5, y6, y7, y8, y9⟩ := box_five HY.out
      obtain ⟨⟨v0, v1, v2, v3, v4⟩, -⟩ := box_five HX5.out
      have HCUT : Hid (∀ w, Calls Tryd.prog 61 #[.string ⟨s.toArray⟩, .string ⟨k.toArray⟩] w fun e w' => e = .returned (.tuple #[.string ⟨(Lib.trimPrefix s k).toArray⟩, .bool (Lib.hasPrefix s k)]) ∧ w' = w) := fun w => Tryd.strings_CutPrefix ⟨s.toArray⟩ ⟨k.toArray⟩ w
      clear hit hmp hy hb hit1 hit2 hmp1 hy1 hmp2 hy2 hb2
      cases hpk : Lib.hasPrefix s k with
      | true =>
        obtain ⟨hr1, hr2⟩ := hrd hpk
        rw [hpk, hr2] at HCUT
        have HRD := Lib.hid hr1
        clear hrd hr1 hr2 hpk hno
        go_wp2_with (go_at_call 61; refine (HCUT.out _).mono ?_; rintro e w3 ⟨rfl, rfl⟩)
        refine bodyPost_ret (v := .tuple #[ndV kd nn [] none 0 0 none 0 0, sv (s.drop k.length), .bool true]) (by simp [results, Tryd.results42, go_sem, *]) rfl ?_
        rw [HRD.out]
        refine newRd_end (raw := ⟨kd, nn, [], none, 0, 0, none, 0, 0⟩) (L := []) (x := .mk kd nn [] [] []) (r := s.drop k.length) (w' := _) w.heap.size (.int .i64 kd) (.int .i64 nn) (sv []) (.slice none 0 0) (.slice none 0 0) true ?_ ?_ ?_ ?_ ?_ ?_ ?_ ?_
        · exact owT_flat _ kd nn []
        · exact List.nodup_nil
        · intro b hb; cases hb
        · exact HB.out
        · exact Nat.le_refl _
        · simp
        · rfl
        · intro q hq; injection hq with hq; subst hq; exact ⟨rfl, rfl⟩
      | false =>
        rw [hpk] at HCUT
        clear hrd
        go_wp2_with (go_at_call 61; refine (HCUT.out _).mono ?_; rintro e w3 ⟨rfl, rfl⟩)
        go_roundw
        case rel =>
          have hno2 : ∀ x ∈ wents.toList, (seen.push b).contains x.born = true → ∀ t : Tx, x.key = sv t → Lib.hasPrefix s t = false := by
            intro x hx hc t ht
            rw [contains_push] at hc
            rcases Bool.or_eq_true _ _ ▸ hc with h1 | h1
            · exact hno x hx h1 t ht
            · have hxe : x = went k kd nn b := born_inj wents_nodup hx (mem_left he).1 (beq_iff_eq.1 h1)
              subst hxe
              have e2 : k = t := by simpa [went] using ht
              rw [← e2]; exact hpk
          (repeat apply Exists.intro)
          exact ⟨⟨seen.push b, 3, HIT.out, Nat.le_refl _, HMP.out, HY.out, HB.out, hno2⟩, rfl⟩
        case measure =>
          have h9 : World.iterSeen (W5.alloc (.cells (ndCells kd nn [] none 0 0 none 0 0) 26)) (w.heap.size + 2) = seen.push b := by unfold World.iterSeen; rw [HIT.out]
          rw [hseen]
          exact (congrArg (fun z => (leftOf wents z).size) h9) ▸ hleft
end Go.Proofs.YtdmmnjnbjigdeaaDoor
