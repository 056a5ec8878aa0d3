/- Records, read, of impl: a walk. -/
import Derived.Test.YtdmmnjnbjigdeaaDoorNodeRI
namespace Go.Proofs.YtdmmnjnbjigdeaaDoor
open Go.RowKit
theorem rdT_len : ∀ (s acc : Tx) (p : Tx × Tx), rdT acc s = some p → p.2.length ≤ s.length
  | [], acc, p, h => by simp [rdT] at h
  | [b], acc, p, h => by
    simp only [rdT] at h
    split at h
    · injection h with h; subst h; simp
    · cases h
  | b :: c :: u, acc, p, h => by
    simp only [rdT] at h
    split at h
    · injection h with h; subst h; simp
    · split at h
      · have := rdT_len u _ p h; simp; omega
      · have := rdT_len (c :: u) _ p h; simp at this ⊢; omega
theorem rdQ_len {s : Tx} {p : Tx × Tx} (h : rdQ s = some p) : p.2.length ≤ s.length := by
  cases s with
  | nil => simp [rdQ] at h
  | cons b t =>
    simp only [rdQ] at h
    split at h
    · have := rdT_len t _ p h; simp; omega
    · cases h
set_option maxRecDepth 100000 in
set_option maxHeartbeats 2000000 in
theorem impl_insideR (d : Nat) (HC : RdC d) (t : Tx) (w : World) (hl : t.length + 1 ≤ 4000000) (hE : Env w) (hR : ErrIs w) (hd : d ≤ 10) :
    Calls Tryd.prog 63 #[.string ⟨((123 : UInt8) :: t).toArray⟩, .int .i64 ((d : Int) + 1)] w (NewRd w (123 :: t) (inI (rdI d) true t)) := by
  have HE := Lib.hid hE
  have HR := Lib.hid hR
  have HC := Lib.hid HC
  clear hE hR
  obtain ⟨hB0, hX0, hY0⟩ := two_boxes w #[.int .i64 0, .int .i64 0, .string ⟨#[]⟩, .slice none 0 0, .slice none 0 0] (ndCells 5 0 [] none 0 0 none 0 0) 26 26
  have hs0 : ((w.alloc (.cells #[.int .i64 0, .int .i64 0, .string ⟨#[]⟩, .slice none 0 0, .slice none 0 0] 26)).alloc (.cells (ndCells 5 0 [] none 0 0 none 0 0) 26)).heap.size = w.heap.size + 2 := by simp
  have HBa := Lib.hid hB0
  have HXa := Lib.hid hX0
  have HYa := Lib.hid hY0
  have HSa := Lib.hid hs0
  clear hB0 hX0 hY0 hs0
  cases hend : after 125 t with
  | some u =>
    have HI : Hid (inI (rdI d) true t = some (.mk 6 0 [] [] [], u)) := by show _ = _; unfold inI; rw [show endB true = 125 from rfl, hend]; rfl
    have HCUT := Lib.hid (fun w => cut_hit hend w)
    have HLU := Lib.hid (after_len hend)
    clear hend
    go_enter Tryd.func63, Tryd.ntmps63
    go_upto_region 4 with fail
    generalize (w.alloc (.cells #[.int .i64 0, .int .i64 0, .string ⟨#[]⟩, .slice none 0 0, .slice none 0 0] 26)).alloc (.cells (ndCells 5 0 [] none 0 0 none 0 0) 26) = wa0 at *
    obtain ⟨⟨y0, y1, y2, y3, y4⟩, y5, y6, y7, y8, y9⟩ := box_five HYa.out
    go_upto_region 6 with fail
    have HB0 := Lib.hid (Below.setCell HBa.out (p := ⟨w.heap.size + 1, 0, none⟩) (Nat.le_succ _) (.int .i64 6))
    have HX0 : Hid ((wa0.setCell ⟨w.heap.size + 1, 0, none⟩ (.int .i64 6)).heap[w.heap.size]? = some (.cells #[.int .i64 0, .int .i64 0, .string ⟨#[]⟩, .slice none 0 0, .slice none 0 0] 26 (0, 0))) := (Below.heap_setCell _ _ _ _ (by show w.heap.size ≠ w.heap.size + 1; omega)).trans HXa.out
    have HY0 : Hid ((wa0.setCell ⟨w.heap.size + 1, 0, none⟩ (.int .i64 6)).heap[w.heap.size + 1]? = some (.cells (ndCells 6 0 [] none 0 0 none 0 0) 26 (0, 0))) := cells_set HYa.out
    have HS0 : Hid ((wa0.setCell ⟨w.heap.size + 1, 0, none⟩ (.int .i64 6)).heap.size = w.heap.size + 2) := by show _ = _; rw [← HSa.out]; simp [World.setCell]
    clear y0 y1 y2 y3 y4 y5 y6 y7 y8 y9
    generalize wa0.setCell ⟨w.heap.size + 1, 0, none⟩ (.int .i64 6) = w0 at *
    obtain ⟨⟨y0, y1, y2, y3, y4⟩, y5, y6, y7, y8, y9⟩ := box_five HX0.out
    obtain ⟨⟨z0, z1, z2, z3, z4⟩, z5, z6, z7, z8, z9⟩ := box_five HY0.out
    go_wp2_with (go_at_call 61; refine (HCUT.out _).mono ?_; rintro e w2 ⟨rfl, rfl⟩)
    refine bodyPost_ret (v := .tuple #[ndV 6 0 [] none 0 0 none 0 0, sv u, .bool true]) (by simp [results, Tryd.results63, go_sem, *]) rfl ?_
    rw [HI.out]
    clear y0 y1 y2 y3 y4 y5 y6 y7 y8 y9 z0 z1 z2 z3 z4 z5 z6 z7 z8 z9
    refine newRd_end (raw := ⟨6, 0, [], none, 0, 0, none, 0, 0⟩) (L := []) (x := .mk 6 0 [] [] []) (r := u) (w' := w2) w.heap.size (.int .i64 6) (.int .i64 0) (sv []) (.slice none 0 0) (.slice none 0 0) true ?_ ?_ ?_ ?_ ?_ ?_ ?_ ?_
    · exact owT_flat _ 6 0 []
    · exact List.nodup_nil
    · intro b hb; cases hb
    · exact HB0.out
    · exact Nat.le_refl _
    · have := HLU.out; simp; omega
    · rfl
    · intro q hq; injection hq with hq; subst hq; exact ⟨rfl, rfl⟩
  | none =>
    have HI : Hid (inI (rdI d) true t = insI (rdI d) true 6 [] [] t) := by show _ = _; unfold inI; rw [show endB true = 125 from rfl, hend]
    have HCUT := Lib.hid (fun w => cut_miss hend w)
    clear hend
    go_enter Tryd.func63, Tryd.ntmps63
    go_upto_region 4 with fail
    generalize (w.alloc (.cells #[.int .i64 0, .int .i64 0, .string ⟨#[]⟩, .slice none 0 0, .slice none 0 0] 26)).alloc (.cells (ndCells 5 0 [] none 0 0 none 0 0) 26) = wa0 at *
    obtain ⟨⟨y0, y1, y2, y3, y4⟩, y5, y6, y7, y8, y9⟩ := box_five HYa.out
    go_upto_region 6 with fail
    have HB0 := Lib.hid (Below.setCell HBa.out (p := ⟨w.heap.size + 1, 0, none⟩) (Nat.le_succ _) (.int .i64 6))
    have HX0 : Hid ((wa0.setCell ⟨w.heap.size + 1, 0, none⟩ (.int .i64 6)).heap[w.heap.size]? = some (.cells #[.int .i64 0, .int .i64 0, .string ⟨#[]⟩, .slice none 0 0, .slice none 0 0] 26 (0, 0))) := (Below.heap_setCell _ _ _ _ (by show w.heap.size ≠ w.heap.size + 1; omega)).trans HXa.out
    have HY0 : Hid ((wa0.setCell ⟨w.heap.size + 1, 0, none⟩ (.int .i64 6)).heap[w.heap.size + 1]? = some (.cells (ndCells 6 0 [] none 0 0 none 0 0) 26 (0, 0))) := cells_set HYa.out
    have HS0 : Hid ((wa0.setCell ⟨w.heap.size + 1, 0, none⟩ (.int .i64 6)).heap.size = w.heap.size + 2) := by show _ = _; rw [← HSa.out]; simp [World.setCell]
    clear y0 y1 y2 y3 y4 y5 y6 y7 y8 y9
    generalize wa0.setCell ⟨w.heap.size + 1, 0, none⟩ (.int .i64 6) = w0 at *
    go_wp2_with (go_at_call 61; refine (HCUT.out _).mono ?_; rintro e w2 ⟨rfl, rfl⟩)
    have hs0 := HS0.out
    have HT0 : Hid (TBx w2 (w.heap.size + 1) (w.heap.size + 2) 6 0 [] none 0 [] none 0 [] [] []) := ⟨HY0.out, ownS_nil _ _, ownN_nil _ _, by simp [OwTs], by simp [bk, Value.ownBlock], (by intro j hj; cases hj), by omega, by omega⟩
    go_loopw [0] (fun i wr => ∃ (u : Tx) (ns : List Tx) (A0 : Option Addr) (c0 : Nat) (A1 : Option Addr) (c1 : Nat) (rs : List Raw) (xs : List Nd) (L : List Nat), i = sv u ∧ u.length ≤ t.length ∧ xs.length ≤ 6 ∧ insI (rdI d) true (6 - xs.length) ns xs u = inI (rdI d) true t ∧ ns.length = xs.length ∧ TBx wr (w.heap.size + 1) (w.heap.size + 2) 6 0 [] A0 c0 ns A1 c1 rs xs L ∧ wr.heap[w.heap.size]? = some (.cells #[.int .i64 0, .int .i64 0, .string ⟨#[]⟩, .slice none 0 0, .slice none 0 0] 26 (0, 0)) ∧ Below w.heap.size w wr) (fun i _ => txLen i)
    case atStart => exact ⟨t, [], none, 0, none, 0, [], [], [], rfl, Nat.le_refl _, by simp, HI.out.symm, rfl, HT0.out, HX0.out, HB0.out⟩
    case round =>
      obtain ⟨u, ns, A0, c0, A1, c1, rs, xs, L, rfl, hut, hxl, hin, hnl, ht, hy, hb⟩ := hrel
      have HT := Lib.hid ht
      have HY := Lib.hid hy
      have HB := Lib.hid hb
      have HIN := Lib.hid hin
      have hrl : rs.length = xs.length := ht.els.len
      have HRL := Lib.hid hrl
      have HNL := Lib.hid hnl
      have hn6 : ns.length ≤ 6 := by omega
      clear hnl
      have hr6 : rs.length ≤ 6 := by omega
      obtain ⟨⟨y0, y1, y2, y3, y4⟩, y5, y6, y7, y8, y9⟩ := box_five HY.out
      obtain ⟨⟨z0, z1, z2, z3, z4⟩, z5, z6, z7, z8, z9⟩ := box_five HT.out.box
      clear ht hy hb hin
      by_cases hlt : rs.length ≤ 5
      · have hq : ((rs.length : Int) ≤ 5) = True := by simp; omega
        have hf : 6 - xs.length = (5 - xs.length) + 1 := by omega
        clear hrl
        have hulen : u.length ≤ 4000000 := by omega
        go_wp2_with fail
        cases hq0 : rdQ u with
        | none =>
          have HN : Hid (inI (rdI d) true t = none) := by show _ = _; rw [← HIN.out, hf, insI, show rdName true ns u = none by simp [rdName, hq0]]
          have HRT : Hid (∀ w, Calls Tryd.prog 62 #[sv u] w fun e w' => e = .returned (.tuple #[sv [], sv u, .bool false]) ∧ Below w.heap.size w w') := fun w => by
            have := impl_readText u hulen w
            rw [hq0] at this
            exact this
          clear hq0 hf
          refine (HRT.out wr).mono ?_
          rintro e w1 ⟨rfl, hb1⟩
          have HB1 := Lib.hid (HB.out.trans (hb1.mono HB.out.size))
          have HY1 := Lib.hid (bx_keep HY.out hb1)
          clear y0 y1 y2 y3 y4 y5 y6 y7 y8 y9 z0 z1 z2 z3 z4 z5 z6 z7 z8 z9 hb1
          obtain ⟨⟨y0, y1, y2, y3, y4⟩, y5, y6, y7, y8, y9⟩ := box_five HY1.out
          go_wp2_with fail
          refine (cut_byte u 58 _).mono ?_
          rintro e w3 ⟨rfl, rfl⟩
          go_wp2
          refine bodyPost_ret (v := .tuple #[ndV 0 0 [] none 0 0 none 0 0, sv u, .bool false]) (by simp [results, Tryd.results63, go_sem, *]) rfl ?_
          rw [HN.out]
          refine newRd_end (raw := ⟨0, 0, [], none, 0, 0, none, 0, 0⟩) (L := []) (x := .mk 0 0 [] [] []) (r := u) (w' := _) w.heap.size (.int .i64 0) (.int .i64 0) (sv []) (.slice none 0 0) (.slice none 0 0) false ?_ ?_ ?_ ?_ ?_ ?_ ?_ ?_
          · exact owT_flat _ 0 0 []
          · exact List.nodup_nil
          · intro b hb; cases hb
          · exact HB1.out
          · exact Nat.le_refl _
          · simp; omega
          · rfl
          · intro q hq; cases hq
        | some p =>
          have HRT : Hid (∀ w, Calls Tryd.prog 62 #[sv u] w fun e w' => e = .returned (.tuple #[sv p.1, sv p.2, .bool true]) ∧ Below w.heap.size w w') := fun w => by
            have := impl_readText u hulen w
            rw [hq0] at this
            exact this
          have hpl : p.2.length ≤ u.length := rdQ_len hq0
          refine (HRT.out wr).mono ?_
          rintro e w1 ⟨rfl, hb1⟩
          have HB1 := Lib.hid (HB.out.trans (hb1.mono HB.out.size))
          have HY1 := Lib.hid (bx_keep HY.out hb1)
          have HT1 := Lib.hid (HT.out.keep hb1)
          clear y0 y1 y2 y3 y4 y5 y6 y7 y8 y9 z0 z1 z2 z3 z4 z5 z6 z7 z8 z9 hb1
          cases hc0 : after 58 p.2 with
          | none =>
            have HN : Hid (inI (rdI d) true t = none) := by show _ = _; rw [← HIN.out, hf, insI, show rdName true ns u = none by simp [rdName, hq0, hc0]]
            have HCQ := Lib.hid (fun w => cut_miss hc0 w)
            clear hq0 hc0 hf
            obtain ⟨⟨y0, y1, y2, y3, y4⟩, y5, y6, y7, y8, y9⟩ := box_five HY1.out
            go_wp2_with fail
            refine (HCQ.out _).mono ?_
            rintro e w3 ⟨rfl, rfl⟩
            go_wp2
            refine bodyPost_ret (v := .tuple #[ndV 0 0 [] none 0 0 none 0 0, sv u, .bool false]) (by simp [results, Tryd.results63, go_sem, *]) rfl ?_
            rw [HN.out]
            refine newRd_end (raw := ⟨0, 0, [], none, 0, 0, none, 0, 0⟩) (L := []) (x := .mk 0 0 [] [] []) (r := u) (w' := _) w.heap.size (.int .i64 0) (.int .i64 0) (sv []) (.slice none 0 0) (.slice none 0 0) false ?_ ?_ ?_ ?_ ?_ ?_ ?_ ?_
            · exact owT_flat _ 0 0 []
            · exact List.nodup_nil
            · intro b hb; cases hb
            · exact HB1.out
            · exact Nat.le_refl _
            · simp; omega
            · rfl
            · intro q hq; cases hq
          | some u0 =>
            have hrn : rdName true ns u = some (ns ++ [p.1], u0) := by simp [rdName, hq0, hc0]
            have hu0 : u0.length < p.2.length := after_len hc0
            have HCQ := Lib.hid (fun w => cut_hit hc0 w)
            clear hq0 hc0
            have HA1 := Lib.hid ((Below.refl w1.heap.size w1).alloc (Nat.le_refl _) (.cells #[sv p.1] 9))
            have HXA := Lib.hid (heap_alloc_new w1 (.cells #[sv p.1] 9))
            have HTA := Lib.hid (HT1.out.keep HA1.out)
            have HYA := Lib.hid (bx_keep HY1.out HA1.out)
            have HBA := Lib.hid (HB1.out.trans (HA1.out.mono HB1.out.size))
            obtain ⟨⟨z0, z1, z2, z3, z4⟩, z5, z6, z7, z8, z9⟩ := box_five HT1.out.box
            go_wp2_with fail
            refine (HCQ.out _).mono ?_
            rintro e w3 ⟨rfl, rfl⟩
            go_wp2_with (at_builtin; refine app_strb_at rfl _ _ rfl (w.heap.size + 2) A0 c0 ns p.1 (by rfl) HTA.out.nown w3.heap.size (by rfl) HXA.out ?_ HTA.out.le ?_; (focus omega); intro A3 c3 w5 ho5 hg5 hbk5; obtain ⟨⟨f0, f1, f2, f3, f4⟩, f5, f6, f7, f8, f9⟩ := box_five (HTA.out.boxN hg5))
            have HT9 := Lib.hid (HTA.out.appN ho5 hg5 (by rw [show (ns ++ [p.1]).length = ns.length + 1 by simp]; exact hbk5) (.slice A3 (ns.length + 1) c3) (by simp))
            have HB9 := Lib.hid (Below.setCell (HBA.out.trans (grown_to_below hg5 HBA.out.size (fun g e => by have := ownS_row HTA.out.nown g e; omega))) (p := ⟨w.heap.size + 1, 3, none⟩) (Nat.le_succ _) (.slice A3 (ns.length + 1) c3))
            have HY9 : Hid ((w5.setCell ⟨w.heap.size + 1, 3, none⟩ (.slice A3 (ns.length + 1) c3)).heap[w.heap.size]? = some (.cells #[.int .i64 0, .int .i64 0, .string ⟨#[]⟩, .slice none 0 0, .slice none 0 0] 26 (0, 0))) := (Below.heap_setCell _ _ _ _ (by show w.heap.size ≠ w.heap.size + 1; omega)).trans ((hg5.block _ (Nat.lt_of_lt_of_le (Nat.lt_add_of_pos_right (by decide)) HTA.out.le) (fun e => by have := ownS_row HTA.out.nown _ e.symm; omega)).trans HYA.out)
            generalize w5.setCell ⟨w.heap.size + 1, 3, none⟩ (.slice A3 (ns.length + 1) c3) = w4 at *
            clear z0 z1 z2 z3 z4 z5 z6 z7 z8 z9 f0 f1 f2 f3 f4 f5 f6 f7 f8 f9
            have hl0 : u0.length ≤ 4000000 := by omega
            have HCALL := Lib.hid (fun w3 (hb : Below _ _ w3) => HC.out u0 w3 hl0 (HE.out.below (HB9.out.trans (hb.mono HB9.out.size))) (HR.out.below (HB9.out.trans (hb.mono HB9.out.size))))
            refine (HCALL.out w4 (Below.refl _ _)).mono ?_
            rintro e w2 ⟨raw, L2, x, r, rfl, ho2, hn2, hr2, hb2, hlr, hso⟩
            have HT2 := Lib.hid (HT9.out.keep hb2)
            have HY2 := Lib.hid (bx_keep HY9.out hb2)
            have HB2 := Lib.hid (HB9.out.trans (hb2.mono HB9.out.size))
            have HO2 := Lib.hid ho2
            have HN2 := Lib.hid hn2
            have HR2 := Lib.hid hr2
            have HND := Lib.hid (HT9.out.more hn2 hr2)
            have HZ := Lib.hid (And.intro (HB9.out.size) (And.intro hb2.size HT9.out.le))
            clear ho2 hn2 hr2 hb2
            have HA := Lib.hid ((Below.refl w2.heap.size w2).alloc (Nat.le_refl _) (.cells (ndCells raw.k raw.n raw.t raw.An raw.ln raw.cn raw.Ai raw.li raw.ci) 26))
            have HX3 := Lib.hid (heap_alloc_new w2 (.cells (ndCells raw.k raw.n raw.t raw.An raw.ln raw.cn raw.Ai raw.li raw.ci) 26))
            have HT3 := Lib.hid (HT2.out.keep HA.out)
            have HY3 := Lib.hid (bx_keep HY2.out HA.out)
            have HB3 := Lib.hid (HB2.out.trans (HA.out.mono HB2.out.size))
            have hsa : (w2.alloc (.cells (ndCells raw.k raw.n raw.t raw.An raw.ln raw.cn raw.Ai raw.li raw.ci) 26)).heap.size = w2.heap.size + 1 := by simp
            have HO3 := Lib.hid (OwT.keep _ _ _ HO2.out (fun b hb => HA.out.block b (OwT.lt _ _ _ HO2.out b hb)))
            obtain ⟨⟨y0, y1, y2, y3, y4⟩, y5, y6, y7, y8, y9⟩ := box_five HY3.out
            obtain ⟨⟨z0, z1, z2, z3, z4⟩, z5, z6, z7, z8, z9⟩ := box_five HT3.out.box
            obtain ⟨⟨v0, v1, v2, v3, v4⟩, -⟩ := box_five HX3.out
            have HA4 := Lib.hid ((Below.refl (w2.alloc (.cells (ndCells raw.k raw.n raw.t raw.An raw.ln raw.cn raw.Ai raw.li raw.ci) 26)).heap.size (w2.alloc (.cells (ndCells raw.k raw.n raw.t raw.An raw.ln raw.cn raw.Ai raw.li raw.ci) 26))).alloc (Nat.le_refl _) (.cells (ndCells raw.k raw.n raw.t raw.An raw.ln raw.cn raw.Ai raw.li raw.ci) 26))
            have HX4 := Lib.hid (heap_alloc_new (w2.alloc (.cells (ndCells raw.k raw.n raw.t raw.An raw.ln raw.cn raw.Ai raw.li raw.ci) 26)) (.cells (ndCells raw.k raw.n raw.t raw.An raw.ln raw.cn raw.Ai raw.li raw.ci) 26))
            have HT4 := Lib.hid (HT3.out.keep HA4.out)
            have HY4 := Lib.hid (bx_keep HY3.out HA4.out)
            have HB4 := Lib.hid (HB3.out.trans (HA4.out.mono HB3.out.size))
            have HO4 := Lib.hid (OwT.keep _ _ _ HO3.out (fun b hb => HA4.out.block b (OwT.lt _ _ _ HO3.out b hb)))
            have hz4 := HT4.out.le
            cases ho : rdI d u0 with
            | none =>
              have HN : Hid (inI (rdI d) true t = none) := by show _ = _; rw [← HIN.out, hf, insI, hrn]; simp only []; rw [ho]
              clear hso hf
              go_wp2
              refine bodyPost_ret (v := .tuple #[ndV 0 0 [] none 0 0 none 0 0, sv u0, .bool false]) (by simp [results, Tryd.results63, go_sem, *]) rfl ?_
              rw [HN.out]
              refine newRd_end (raw := ⟨0, 0, [], none, 0, 0, none, 0, 0⟩) (L := []) (x := .mk 0 0 [] [] []) (r := u0) (w' := _) w.heap.size (.int .i64 0) (.int .i64 0) (sv []) (.slice none 0 0) (.slice none 0 0) false ?_ ?_ ?_ ?_ ?_ ?_ ?_ ?_
              · exact owT_flat _ 0 0 []
              · exact List.nodup_nil
              · intro b hb; cases hb
              · exact HB3.out
              · exact Nat.le_refl _
              · simp; omega
              · rfl
              · intro q hq; cases hq
            | some q =>
              obtain ⟨rfl, rfl⟩ := hso q ho
              have HS : Hid (insI (rdI d) true (6 - xs.length) ns xs u = match after 44 q.2 with | some u2 => insI (rdI d) true (5 - xs.length) (ns ++ [p.1]) (xs ++ [q.1]) u2 | none => (after 125 q.2).map fun u2 => (.mk 6 0 [] (ns ++ [p.1]) (xs ++ [q.1]), u2)) := by show _ = _; rw [hf, insI, hrn]; simp only []; rw [ho]; rfl
              clear hso hf ho
              obtain ⟨rk, rn, rt, rAn, rln, rcn, rAi, rli, rci⟩ := raw
              go_upto_region 20 with fail
              generalize w2.alloc (.cells (ndCells rk rn rt rAn rln rcn rAi rli rci) 26) = wa at *
              have hzx : w2.heap.size < wa.heap.size := by omega
              have hz0 : w.heap.size + 1 < wa.heap.size := by have := HT3.out.lt; have := HT3.out.le; omega
              have HC4 := Lib.hid z4
              have HX5 : Hid ((wa.alloc (.cells (ndCells rk rn rt rAn rln rcn rAi rli rci) 26)).heap[w2.heap.size + 1]? = some (.cells (ndCells rk rn rt rAn rln rcn rAi rli rci) 26 (0, 0))) := by show _ = _; rw [← hsa]; exact HX4.out
              go_wp2_with (at_builtin; refine app_node_at rfl _ _ rfl (w.heap.size + 2) A1 c1 rs ⟨rk, rn, rt, rAn, rln, rcn, rAi, rli, rci⟩ (by rfl) HT4.out.iown (w2.heap.size + 1) (by rfl) HX5.out ?_ HT4.out.le ?_; (focus omega); intro A6 c6 w6 ho6 hg6 hbk6; obtain ⟨⟨f0, f1, f2, f3, f4⟩, f5, f6, f7, f8, f9⟩ := box_five (HT4.out.boxI hg6))
              have HT7 := Lib.hid (HT4.out.appI ho6 hg6 hbk6 HO4.out HND.out (fun j hj => by have := HR2.out j hj; have := HT9.out.le; omega) (.slice A6 (rs.length + 1) c6) (by simp))
              have HB7 := Lib.hid (Below.setCell (HB4.out.trans (grown_to_below hg6 HB4.out.size (fun g e => by have := ownN_row HT4.out.iown g e; omega))) (p := ⟨w.heap.size + 1, 4, none⟩) (Nat.le_succ _) (.slice A6 (rs.length + 1) c6))
              have HY7 : Hid ((w6.setCell ⟨w.heap.size + 1, 4, none⟩ (.slice A6 (rs.length + 1) c6)).heap[w.heap.size]? = some (.cells #[.int .i64 0, .int .i64 0, .string ⟨#[]⟩, .slice none 0 0, .slice none 0 0] 26 (0, 0))) := (Below.heap_setCell _ _ _ _ (by show w.heap.size ≠ w.heap.size + 1; omega)).trans ((hg6.block _ (Nat.lt_of_lt_of_le (Nat.lt_add_of_pos_right (by decide)) HT4.out.le) (fun e => by have := ownN_row HT4.out.iown _ e.symm; omega)).trans HY4.out)
              generalize w6.setCell ⟨w.heap.size + 1, 4, none⟩ (.slice A6 (rs.length + 1) c6) = w7 at *
              clear y0 y1 y2 y3 y4 y5 y6 y7 y8 y9 z0 z1 z2 z3 z4 z5 z6 z7 z8 z9 v0 v1 v2 v3 v4 f0 f1 f2 f3 f4 f5 f6 f7 f8 f9
              have HN7 : Hid (OwT w7 (.mk 6 0 [] (ns ++ [p.1]) (xs ++ [q.1])) ⟨6, 0, [], A3, ns.length + 1, c3, A6, rs.length + 1, c6⟩ (bk A3 (ns.length + 1) c3 ++ (bk A6 (rs.length + 1) c6 ++ (L ++ L2)))) := by
                have h9 := HT7.out.node; simp only [List.length_append, List.length_cons, List.length_nil] at h9; exact h9
              have HD7 : Hid ((bk A3 (ns.length + 1) c3 ++ (bk A6 (rs.length + 1) c6 ++ (L ++ L2))).Nodup) := by
                have h9 := HT7.out.nodup; simp only [List.length_append, List.length_cons, List.length_nil] at h9; exact h9
              have HG7 : Hid (∀ j ∈ bk A3 (ns.length + 1) c3 ++ (bk A6 (rs.length + 1) c6 ++ (L ++ L2)), w.heap.size ≤ j ∧ j ≠ w.heap.size) := by
                have h9 := HT7.out.lts; simp only [List.length_append, List.length_cons, List.length_nil] at h9
                intro j hj; have := h9 j hj; omega
              cases hcm : after 44 q.2 with
              | some u2 =>
                have HC2 := Lib.hid (fun w => cut_hit hcm w)
                have HL2 := Lib.hid (after_len hcm)
                have HS2 : Hid (insI (rdI d) true (5 - xs.length) (ns ++ [p.1]) (xs ++ [q.1]) u2 = inI (rdI d) true t) := by show _ = _; rw [← HIN.out, HS.out, hcm]
                clear hcm
                go_wp2_with (go_at_call 61; refine (HC2.out _).mono ?_; rintro e w2 ⟨rfl, rfl⟩)
                go_roundw
                case rel => exact ⟨u2, ns ++ [p.1], A3, c3, A6, c6, _, xs ++ [q.1], _, rfl, by have := HL2.out; omega, by have := HRL.out; simp; omega, by rw [← HS2.out]; congr 1; (first | omega | (simp; done) | (simp; omega)), by have := HNL.out; simp; omega, HT7.out, HY7.out, HB7.out⟩
                case measure => have := HL2.out; simp [txLen, ByteArray.size]; omega
              | none =>
                have HC2 := Lib.hid (fun w => cut_miss hcm w)
                obtain ⟨⟨y0, y1, y2, y3, y4⟩, y5, y6, y7, y8, y9⟩ := box_five HY7.out
                obtain ⟨⟨z0, z1, z2, z3, z4⟩, z5, z6, z7, z8, z9⟩ := box_five HT7.out.box
                cases hce : after 125 q.2 with
                | some u2 =>
                  have HC3 := Lib.hid (fun w => cut_hit hce w)
                  have HL2 := Lib.hid (after_len hce)
                  have HS2 : Hid (inI (rdI d) true t = some (.mk 6 0 [] (ns ++ [p.1]) (xs ++ [q.1]), u2)) := by show _ = _; rw [← HIN.out, HS.out, hcm, hce]; rfl
                  clear hcm hce
                  go_wp2_with fail
                  refine (HC2.out _).mono ?_
                  rintro e w3 ⟨rfl, rfl⟩
                  go_wp2_with fail
                  refine (HC3.out _).mono ?_
                  rintro e w3 ⟨rfl, rfl⟩
                  go_wp2
                  refine bodyPost_ret (v := .tuple #[ndV 6 0 [] A3 (ns.length + 1) c3 A6 (rs.length + 1) c6, sv u2, .bool true]) (by simp [results, Tryd.results63, go_sem, *]) rfl ?_
                  rw [HS2.out]
                  refine newRd_end (raw := ⟨6, 0, [], A3, ns.length + 1, c3, A6, rs.length + 1, c6⟩) (L := bk A3 (ns.length + 1) c3 ++ (bk A6 (rs.length + 1) c6 ++ (L ++ L2))) (x := .mk 6 0 [] (ns ++ [p.1]) (xs ++ [q.1])) (r := u2) (w' := _) w.heap.size (.int .i64 6) (.int .i64 0) (sv []) (.slice A3 (ns.length + 1) c3) (.slice A6 (rs.length + 1) c6) true ?_ ?_ ?_ ?_ ?_ ?_ ?_ ?_
                  · exact HN7.out
                  · exact HD7.out
                  · exact HG7.out
                  · exact HB7.out
                  · exact Nat.le_refl _
                  · have := HL2.out; simp; omega
                  · rfl
                  · intro q hq; injection hq with hq; subst hq; exact ⟨rfl, rfl⟩
                | none =>
                  have HC3 := Lib.hid (fun w => cut_miss hce w)
                  have HS2 : Hid (inI (rdI d) true t = none) := by show _ = _; rw [← HIN.out, HS.out, hcm, hce]; rfl
                  clear hcm hce
                  go_wp2_with fail
                  refine (HC2.out _).mono ?_
                  rintro e w3 ⟨rfl, rfl⟩
                  go_wp2_with fail
                  refine (HC3.out _).mono ?_
                  rintro e w3 ⟨rfl, rfl⟩
                  go_wp2
                  refine bodyPost_ret (v := .tuple #[ndV 6 0 [] A3 (ns.length + 1) c3 A6 (rs.length + 1) c6, sv q.2, .bool false]) (by simp [results, Tryd.results63, go_sem, *]) rfl ?_
                  rw [HS2.out]
                  refine newRd_end (raw := ⟨6, 0, [], A3, ns.length + 1, c3, A6, rs.length + 1, c6⟩) (L := bk A3 (ns.length + 1) c3 ++ (bk A6 (rs.length + 1) c6 ++ (L ++ L2))) (x := .mk 6 0 [] (ns ++ [p.1]) (xs ++ [q.1])) (r := q.2) (w' := _) w.heap.size (.int .i64 6) (.int .i64 0) (sv []) (.slice A3 (ns.length + 1) c3) (.slice A6 (rs.length + 1) c6) false ?_ ?_ ?_ ?_ ?_ ?_ ?_ ?_
                  · exact HN7.out
                  · exact HD7.out
                  · exact HG7.out
                  · exact HB7.out
                  · exact Nat.le_refl _
                  · simp; omega
                  · rfl
                  · intro q hq; cases hq
      · have hq : ((rs.length : Int) ≤ 5) = False := by simp; omega
        have HN : Hid (inI (rdI d) true t = none) := by show _ = _; rw [← HIN.out, show 6 - xs.length = 0 by omega]; rfl
        clear hrl
        go_wp2
        refine bodyPost_ret (v := .tuple #[ndV 0 0 [] none 0 0 none 0 0, sv u, .bool false]) (by simp [results, Tryd.results63, go_sem, *]) rfl ?_
        rw [HN.out]
        refine newRd_end (raw := ⟨0, 0, [], none, 0, 0, none, 0, 0⟩) (L := []) (x := .mk 0 0 [] [] []) (r := u) (w' := _) w.heap.size (.int .i64 0) (.int .i64 0) (sv []) (.slice none 0 0) (.slice none 0 0) false ?_ ?_ ?_ ?_ ?_ ?_ ?_ ?_
        · exact owT_flat _ 0 0 []
        · exact List.nodup_nil
        · intro b hb; cases hb
        · exact HB.out
        · exact Nat.le_refl _
        · simp; omega
        · rfl
        · intro q hq; cases hq
end Go.Proofs.YtdmmnjnbjigdeaaDoor
