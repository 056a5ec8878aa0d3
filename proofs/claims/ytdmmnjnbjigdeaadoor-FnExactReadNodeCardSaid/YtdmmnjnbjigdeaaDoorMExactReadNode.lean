/- For all texts: ReadNode of the program returns what the reference's returns, and its result shares no memory with another call's: the card FnExactReadNodeCardSaid holds. No conditions. -/
import Derived.Test.YtdmmnjnbjigdeaaDoorNodeSI
import Derived.Test.YtdmmnjnbjigdeaaDoorNodeNum
import Derived.Deep.CutBlock
import Derived.Test.YtdmmnjnbjigdeaaDoorNodeRP
import Derived.Test.YtdmmnjnbjigdeaaDoorNodeRN
import Derived.Test.YtdmmnjnbjigdeaaDoorNodeWT
import Derived.Test.YtdmmnjnbjigdeaaDoorBase
import Derived.Test.YtdmmnjnbjigdeaaDoorTie
import Derived.Test.YtdmmnjnbjigdeaaDoorCards
import Derived.ProofKit
import Derived.OpenShut
import Derived.LaidMore
import Derived.Lay
import Derived.SevenTiedAt
import Derived.Stop.Joined
import Derived.Test.YtdmmnjnbjigdeaaDoorNodeOw
import Derived.Test.YtdmmnjnbjigdeaaDoorNodeTo
import Derived.Test.YtdmmnjnbjigdeaaDoorNodeWalkP
import Derived.Test.YtdmmnjnbjigdeaaDoorMark
import Derived.Deep.RegionHeld3
import Derived.Test.YtdmmnjnbjigdeaaDoorOpenN
/- Records, read, of spec: a walk. -/
namespace Go.Proofs.YtdmmnjnbjigdeaaDoor
open Go.RowKit

theorem rdName_hit {ns : List Tx} {s u : Tx} {p : Tx × Tx} (h : rdQ s = some p) (hp : after 58 p.2 = some u) : rdName true ns s = some (ns ++ [p.1], u) := by simp [rdName, h, hp]
theorem rdName_miss {ns : List Tx} {s : Tx} {p : Tx × Tx} (h : rdQ s = some p) (hp : after 58 p.2 = none) : rdName true ns s = none := by simp [rdName, h, hp]
set_option maxRecDepth 100000 in
set_option maxHeartbeats 4000000 in
theorem spec_insideR (d : Nat) (HC : RsC d) (s : Tx) (i : Nat) (w : World) (hl : s.length ≤ 4000000) (hd : d ≤ 10) (hi : i < s.length) (h123 : s[i] = 123) :
    Calls Tryd.prog 67 #[.string ⟨s.toArray⟩, .int .i64 i, .int .i64 ((d : Int) + 1)] w (NewRs w s i (insS (rdS d) true 7 [] [] (s.drop (i + 1)))) := by
  have HC := Lib.hid HC
  obtain ⟨hB0, hX0, hY0⟩ := two_boxes w #[.int .i64 0, .int .i64 0, .string ⟨#[]⟩, .slice none 0 0, .slice none 0 0] (ndCells 5 0 [] none 0 0 none 0 0) 26 26
  have hs0 : ((w.alloc (.cells #[.int .i64 0, .int .i64 0, .string ⟨#[]⟩, .slice none 0 0, .slice none 0 0] 26)).alloc (.cells (ndCells 5 0 [] none 0 0 none 0 0) 26)).heap.size = w.heap.size + 2 := by simp
  have HBa := Lib.hid hB0
  have HXa := Lib.hid hX0
  have HYa := Lib.hid hY0
  have HSa := Lib.hid hs0
  clear hB0 hX0 hY0 hs0
  have m91 : ((s[i].toNat : Int) == 123) = true := by rw [h123]; decide
  obtain ⟨O, hoo⟩ : ∃ O, insS (rdS d) true 7 [] [] (s.drop (i + 1)) = O := ⟨_, rfl⟩
  rw [hoo]
  have HO := Lib.hid hoo
  clear hoo
  go_enter Tryd.func67, Tryd.ntmps67
  go_upto_region 3 with fail
  generalize (w.alloc (.cells #[.int .i64 0, .int .i64 0, .string ⟨#[]⟩, .slice none 0 0, .slice none 0 0] 26)).alloc (.cells (ndCells 5 0 [] none 0 0 none 0 0) 26) = wa0 at *
  obtain ⟨⟨y0, y1, y2, y3, y4⟩, y5, y6, y7, y8, y9⟩ := box_five HYa.out
  go_upto_region 6 with fail
  have HB0 := Lib.hid (Below.setCell HBa.out (p := ⟨w.heap.size + 1, 0, none⟩) (Nat.le_succ _) (.int .i64 6))
  have HX0 : Hid ((wa0.setCell ⟨w.heap.size + 1, 0, none⟩ (.int .i64 6)).heap[w.heap.size]? = some (.cells #[.int .i64 0, .int .i64 0, .string ⟨#[]⟩, .slice none 0 0, .slice none 0 0] 26 (0, 0))) := (Below.heap_setCell _ _ _ _ (by show w.heap.size ≠ w.heap.size + 1; omega)).trans HXa.out
  have HY0 : Hid ((wa0.setCell ⟨w.heap.size + 1, 0, none⟩ (.int .i64 6)).heap[w.heap.size + 1]? = some (.cells (ndCells 6 0 [] none 0 0 none 0 0) 26 (0, 0))) := cells_set HYa.out
  have HS0 : Hid ((wa0.setCell ⟨w.heap.size + 1, 0, none⟩ (.int .i64 6)).heap.size = w.heap.size + 2) := by show _ = _; rw [← HSa.out]; simp [World.setCell]
  clear y0 y1 y2 y3 y4 y5 y6 y7 y8 y9
  generalize wa0.setCell ⟨w.heap.size + 1, 0, none⟩ (.int .i64 6) = w0 at *
  go_wp2
  have hs0 := HS0.out
  have HT0 : Hid (TBx w0 (w.heap.size + 1) (w.heap.size + 2) 6 0 [] none 0 [] none 0 [] [] []) := ⟨HY0.out, ownS_nil _ _, ownN_nil _ _, by simp [OwTs], by simp [bk, Value.ownBlock], (by intro j hj; cases hj), by omega, by omega⟩
  go_loopw [1] (fun v wr => ∃ (a : Nat) (ns : List Tx) (A0 : Option Addr) (c0 : Nat) (A1 : Option Addr) (c1 : Nat) (rs : List Raw) (xs : List Nd) (L : List Nat), v = .int .i64 a ∧ i < a ∧ a ≤ s.length ∧ xs.length ≤ 6 ∧ insS (rdS d) true (7 - xs.length) ns xs (s.drop a) = O ∧ ns.length = xs.length ∧ TBx wr (w.heap.size + 1) (w.heap.size + 2) 6 0 [] A0 c0 ns A1 c1 rs xs L ∧ wr.heap[w.heap.size]? = some (.cells #[.int .i64 0, .int .i64 0, .string ⟨#[]⟩, .slice none 0 0, .slice none 0 0] 26 (0, 0)) ∧ Below w.heap.size w wr) (fun v _ => s.length - (intOf v).toNat)
  case atStart => exact ⟨i + 1, [], none, 0, none, 0, [], [], [], by go_num, by omega, by omega, by simp, HO.out, rfl, HT0.out, HX0.out, HB0.out⟩
  case round =>
    obtain ⟨a, ns, A0, c0, A1, c1, rs, xs, L, rfl, hia, hal, hxl, hin, hnl, ht, hy, hb⟩ := hrel
    have HNL := Lib.hid hnl
    have hn6 : ns.length ≤ 6 := by omega
    clear hnl
    have HT := Lib.hid ht
    have HY := Lib.hid hy
    have HB := Lib.hid hb
    have HIN := Lib.hid hin
    have hrl : rs.length = xs.length := ht.els.len
    have HRL := Lib.hid hrl
    have hr6 : rs.length ≤ 6 := by omega
    obtain ⟨⟨y0, y1, y2, y3, y4⟩, y5, y6, y7, y8, y9⟩ := box_five HY.out
    obtain ⟨⟨z0, z1, z2, z3, z4⟩, z5, z6, z7, z8, z9⟩ := box_five HT.out.box
    clear ht hy hb hin m91 hrl
    have HF : Hid (7 - xs.length = (6 - xs.length) + 1) := by show _ = _; omega
    by_cases hlt : a < s.length
    case neg =>
      have HN : Hid (O = none) := by show _ = _; rw [← HIN.out, drop_nil s a (by omega), HF.out, insS_nil]
      clear HIN
      go_wp2
      refine bodyPost_ret (v := .tuple #[ndV 0 0 [] none 0 0 none 0 0, .int .i64 (-1)]) (by simp [results, Tryd.results67, go_sem, *]) rfl ?_
      refine newRs_none w.heap.size (.int .i64 0) (.int .i64 0) (sv []) (.slice none 0 0) (.slice none 0 0) 0 0 [] (HB.out) (Nat.le_refl _) ?_
      exact HN.out
    have hD := drop_cons s a hlt
    cases he : (s[a] == 125)
    case true =>
      have me : ((s[a].toNat : Int) != 125) = false := by have : ((s[a].toNat : Int) == 125) = true := byte_eqR he; rw [bne, this]; rfl
      have HN : Hid (O = some (.mk 6 0 [] ns xs, s.drop (a + 1))) := by show _ = _; rw [← HIN.out, HF.out, insS_end (u := s.drop (a + 1)) (by rw [hD, after_cons, show endB true = 125 from rfl, he]; rfl)]; rfl
      clear HIN hD he
      go_wp2
      refine bodyPost_ret (v := .tuple #[ndV 6 0 [] A0 ns.length c0 A1 rs.length c1, .int .i64 ((a + 1 : Nat) : Int)]) (by simp [results, Tryd.results67, go_sem, *]) rfl ?_
      refine newRs_some (raw := ⟨6, 0, [], A0, ns.length, c0, A1, rs.length, c1⟩) (L := _) (x := .mk 6 0 [] ns xs) (w' := wr) w.heap.size (.int .i64 6) (.int .i64 0) (sv []) (.slice A0 ns.length c0) (.slice A1 rs.length c1) (a + 1) HT.out.node HT.out.nodup ?_ HB.out (Nat.le_refl _) (by omega) (by omega) HN.out
      intro j hj; have := HT.out.lts j hj; omega
    case false =>
    have me : ((s[a].toNat : Int) != 125) = true := by have : ((s[a].toNat : Int) == 125) = false := byte_neR he; rw [bne, this]; rfl
    have hae : after (endB true) (s.drop a) = none := by rw [hD, after_cons, show endB true = 125 from rfl, he]; rfl
    go_upto_if 36 with fail
    go_cut [1] (fun v wx => ∃ a1 : Nat, v = .int .i64 a1 ∧ i < a1 ∧ a ≤ a1 ∧ a1 ≤ s.length ∧ stS (rdS d) true (6 - xs.length) ns xs (s.drop a1) = O ∧ wr = wx)
    case first =>
      by_cases h0 : xs.length = 0
      · rw [show decide (0 < rs.length) = false from decide_eq_false (by have := HRL.out; omega)]
        have HST : Hid (stS (rdS d) true (6 - xs.length) ns xs (s.drop a) = O) := by show _ = _; rw [← HIN.out, HF.out, insS_first hae h0 (fun e => by rw [hD] at e; cases e)]
        clear HIN hD hae h0
        go_wp2
        go_meet
        case rel => exact ⟨a, rfl, hia, Nat.le_refl _, hal, HST.out, rfl⟩
      · rw [show decide (0 < rs.length) = true from decide_eq_true (by have := HRL.out; omega)]
        cases hc : (s[a] == 44)
        · have mc : ((s[a].toNat : Int) != 44) = true := by have : ((s[a].toNat : Int) == 44) = false := byte_neR hc; rw [bne, this]; rfl
          have HN : Hid (O = none) := by show _ = _; rw [← HIN.out, HF.out, insS_no hae h0 (by rw [hD, after_cons, hc]; rfl)]
          clear HIN hD hae h0
          go_wp2
          refine bodyPost_ret (v := .tuple #[ndV 0 0 [] none 0 0 none 0 0, .int .i64 (-1)]) (by simp [results, Tryd.results67, go_sem, *]) rfl ?_
          refine newRs_none w.heap.size (.int .i64 0) (.int .i64 0) (sv []) (.slice none 0 0) (.slice none 0 0) 0 0 [] (HB.out) (Nat.le_refl _) ?_
          exact HN.out
        · have mc : ((s[a].toNat : Int) != 44) = false := by have : ((s[a].toNat : Int) == 44) = true := byte_eqR hc; rw [bne, this]; rfl
          have HST : Hid (stS (rdS d) true (6 - xs.length) ns xs (s.drop (a + 1)) = O) := by show _ = _; rw [← HIN.out, HF.out, insS_next hae h0 (by rw [hD, after_cons, hc]; rfl)]
          clear HIN hD hae h0
          go_wp2
          go_meet
          case rel => exact ⟨a + 1, by go_num, by omega, by omega, by omega, HST.out, rfl⟩
    case rest =>
      obtain ⟨a1, rfl, hia1, haa, hal1, hst, rfl⟩ := hcut
      have HST := Lib.hid hst
      clear hst HIN hD hae me he
      have HWD := Lib.hid (fun w3 => spec_l26Word s hl a1 (by omega) w3)
      cases hq0 : rdQ (s.drop a1) with
      | none =>
        have HN : Hid (O = none) := by show _ = _; rw [← HST.out, stS, show rdName true ns (s.drop a1) = none by simp [rdName, hq0]]
        rw [hq0] at HWD
        have HWV : Hid (∀ w3, Calls Tryd.prog 66 #[sv s, .int .i64 a1] w3 fun e w' => e = .returned (.tuple #[sv [], .int .i64 (-1)]) ∧ w3 = w') := HWD.out
        clear hq0 HST HWD
        go_wp2_with fail
        refine (HWV.out _).mono ?_
        rintro e w3 ⟨rfl, rfl⟩
        go_wp2
        refine bodyPost_ret (v := .tuple #[ndV 0 0 [] none 0 0 none 0 0, .int .i64 (-1)]) (by simp [results, Tryd.results67, go_sem, *]) rfl ?_
        refine newRs_none w.heap.size (.int .i64 0) (.int .i64 0) (sv []) (.slice none 0 0) (.slice none 0 0) 0 0 [] (HB.out) (Nat.le_refl _) ?_
        exact HN.out
      | some p =>
      obtain ⟨kq, hk0, hkl, hkd⟩ := rdQ_suf hq0
      rw [List.length_drop] at hkl
      rw [List.drop_drop] at hkd
      have hnx : s.length - p.2.length = a1 + kq := by rw [hkd, List.length_drop]; omega
      have hn0 : ((a1 + kq : Nat) : Int) < 0 ↔ False := by simp; omega
      rw [hq0] at HWD
      have HWV : Hid (∀ w3, Calls Tryd.prog 66 #[sv s, .int .i64 a1] w3 fun e w' => e = .returned (.tuple #[sv p.1, .int .i64 ((a1 + kq : Nat) : Int)]) ∧ w3 = w') := fun w3 => by
        have := HWD.out w3
        rw [wdV, hnx] at this
        exact this
      generalize hnb : a1 + kq = nb at *
      clear HWD hnx hn0
      have hnl1 : nb ≤ s.length := by omega
      by_cases hnl2 : nb < s.length
      case neg =>
        have HN : Hid (O = none) := by show _ = _; rw [← HST.out, stS, rdName_miss hq0 (by rw [hkd, drop_nil s nb (by omega)]; rfl)]
        clear hq0 HST hkd
        go_wp2_with fail
        refine (HWV.out _).mono ?_
        rintro e w3 ⟨rfl, rfl⟩
        go_wp2
        refine bodyPost_ret (v := .tuple #[ndV 0 0 [] none 0 0 none 0 0, .int .i64 (-1)]) (by simp [results, Tryd.results67, go_sem, *]) rfl ?_
        refine newRs_none w.heap.size (.int .i64 0) (.int .i64 0) (sv []) (.slice none 0 0) (.slice none 0 0) 0 0 [] (HB.out) (Nat.le_refl _) ?_
        exact HN.out
      have hDn := drop_cons s nb hnl2
      cases hcol : (s[nb] == 58)
      case false =>
        have mn : ((s[nb].toNat : Int) != 58) = true := by have : ((s[nb].toNat : Int) == 58) = false := byte_neR hcol; rw [bne, this]; rfl
        have HN : Hid (O = none) := by show _ = _; rw [← HST.out, stS, rdName_miss hq0 (by rw [hkd, hDn, after_cons, hcol]; rfl)]
        clear hq0 HST hkd hDn hcol
        go_wp2_with fail
        refine (HWV.out _).mono ?_
        rintro e w3 ⟨rfl, rfl⟩
        go_wp2
        refine bodyPost_ret (v := .tuple #[ndV 0 0 [] none 0 0 none 0 0, .int .i64 (-1)]) (by simp [results, Tryd.results67, go_sem, *]) rfl ?_
        refine newRs_none w.heap.size (.int .i64 0) (.int .i64 0) (sv []) (.slice none 0 0) (.slice none 0 0) 0 0 [] (HB.out) (Nat.le_refl _) ?_
        exact HN.out
      have mn : ((s[nb].toNat : Int) != 58) = false := by have : ((s[nb].toNat : Int) == 58) = true := byte_eqR hcol; rw [bne, this]; rfl
      have HRN : Hid (rdName true ns (s.drop a1) = some (ns ++ [p.1], s.drop (nb + 1))) := rdName_hit hq0 (by rw [hkd, hDn, after_cons, hcol]; rfl)
      clear hq0 hkd hDn hcol
      have HA1 := Lib.hid ((Below.refl wr.heap.size wr).alloc (Nat.le_refl _) (.cells #[sv p.1] 9))
      have HXA := Lib.hid (heap_alloc_new wr (.cells #[sv p.1] 9))
      have HTA := Lib.hid (HT.out.keep HA1.out)
      have HYA := Lib.hid (bx_keep HY.out HA1.out)
      have HBA := Lib.hid (HB.out.trans (HA1.out.mono HB.out.size))
      go_wp2_with fail
      refine (HWV.out _).mono ?_
      rintro e w3 ⟨rfl, rfl⟩
      go_wp2_with (at_builtin; refine app_strb_at rfl _ _ rfl (w.heap.size + 2) A0 c0 ns p.1 (by rfl) HTA.out.nown wr.heap.size (by rfl) HXA.out ?_ HTA.out.le ?_; (focus omega); intro A3 c3 w5 ho5 hg5 hbk5; obtain ⟨⟨f0, f1, f2, f3, f4⟩, f5, f6, f7, f8, f9⟩ := box_five (HTA.out.boxN hg5))
      have HT9 := Lib.hid (HTA.out.appN ho5 hg5 (by rw [show (ns ++ [p.1]).length = ns.length + 1 by simp]; exact hbk5) (.slice A3 (ns.length + 1) c3) (by simp))
      have HB9 := Lib.hid (Below.setCell (HBA.out.trans (grown_to_below hg5 HBA.out.size (fun g e => by have := ownS_row HTA.out.nown g e; omega))) (p := ⟨w.heap.size + 1, 3, none⟩) (Nat.le_succ _) (.slice A3 (ns.length + 1) c3))
      have HY9 : Hid ((w5.setCell ⟨w.heap.size + 1, 3, none⟩ (.slice A3 (ns.length + 1) c3)).heap[w.heap.size]? = some (.cells #[.int .i64 0, .int .i64 0, .string ⟨#[]⟩, .slice none 0 0, .slice none 0 0] 26 (0, 0))) := (Below.heap_setCell _ _ _ _ (by show w.heap.size ≠ w.heap.size + 1; omega)).trans ((hg5.block _ (Nat.lt_of_lt_of_le (Nat.lt_add_of_pos_right (by decide)) HTA.out.le) (fun e => by have := ownS_row HTA.out.nown _ e.symm; omega)).trans HYA.out)
      generalize w5.setCell ⟨w.heap.size + 1, 3, none⟩ (.slice A3 (ns.length + 1) c3) = w4 at *
      clear f0 f1 f2 f3 f4 f5 f6 f7 f8 f9
      have HCALL := Lib.hid (HC.out s (nb + 1) w4 hl (by omega))
      refine HCALL.out.mono ?_
      rintro e w2 ⟨raw, L2, x, nx, rfl, ho2, hn2, hr2, hb2, hno, hso⟩
      have HT2 := Lib.hid (HT9.out.keep hb2)
      have HY2 := Lib.hid (bx_keep HY9.out hb2)
      have HB2 := Lib.hid (HB9.out.trans (hb2.mono HB9.out.size))
      have HO2 := Lib.hid ho2
      have HN2 := Lib.hid hn2
      have HR2 := Lib.hid hr2
      have HND := Lib.hid (HT9.out.more hn2 hr2)
      have HZ := Lib.hid (And.intro (HB9.out.size) (And.intro hb2.size HT9.out.le))
      clear y0 y1 y2 y3 y4 y5 y6 y7 y8 y9 z0 z1 z2 z3 z4 z5 z6 z7 z8 z9 ho2 hn2 hr2 hb2
      have HA := Lib.hid ((Below.refl w2.heap.size w2).alloc (Nat.le_refl _) (.cells (ndCells raw.k raw.n raw.t raw.An raw.ln raw.cn raw.Ai raw.li raw.ci) 26))
      have HX3 := Lib.hid (heap_alloc_new w2 (.cells (ndCells raw.k raw.n raw.t raw.An raw.ln raw.cn raw.Ai raw.li raw.ci) 26))
      have HT3 := Lib.hid (HT2.out.keep HA.out)
      have HY3 := Lib.hid (bx_keep HY2.out HA.out)
      have HB3 := Lib.hid (HB2.out.trans (HA.out.mono HB2.out.size))
      have hsa : (w2.alloc (.cells (ndCells raw.k raw.n raw.t raw.An raw.ln raw.cn raw.Ai raw.li raw.ci) 26)).heap.size = w2.heap.size + 1 := by simp
      have HO3 := Lib.hid (OwT.keep _ _ _ HO2.out (fun b hb => HA.out.block b (OwT.lt _ _ _ HO2.out b hb)))
      obtain ⟨⟨y0, y1, y2, y3, y4⟩, y5, y6, y7, y8, y9⟩ := box_five HY3.out
      obtain ⟨⟨z0, z1, z2, z3, z4⟩, z5, z6, z7, z8, z9⟩ := box_five HT3.out.box
      obtain ⟨⟨v0, v1, v2, v3, v4⟩, -⟩ := box_five HX3.out
      have HA4 := Lib.hid ((Below.refl (w2.alloc (.cells (ndCells raw.k raw.n raw.t raw.An raw.ln raw.cn raw.Ai raw.li raw.ci) 26)).heap.size (w2.alloc (.cells (ndCells raw.k raw.n raw.t raw.An raw.ln raw.cn raw.Ai raw.li raw.ci) 26))).alloc (Nat.le_refl _) (.cells (ndCells raw.k raw.n raw.t raw.An raw.ln raw.cn raw.Ai raw.li raw.ci) 26))
      have HX4 := Lib.hid (heap_alloc_new (w2.alloc (.cells (ndCells raw.k raw.n raw.t raw.An raw.ln raw.cn raw.Ai raw.li raw.ci) 26)) (.cells (ndCells raw.k raw.n raw.t raw.An raw.ln raw.cn raw.Ai raw.li raw.ci) 26))
      have HT4 := Lib.hid (HT3.out.keep HA4.out)
      have HY4 := Lib.hid (bx_keep HY3.out HA4.out)
      have HB4 := Lib.hid (HB3.out.trans (HA4.out.mono HB3.out.size))
      have HO4 := Lib.hid (OwT.keep _ _ _ HO3.out (fun b hb => HA4.out.block b (OwT.lt _ _ _ HO3.out b hb)))
      have hz4 := HT4.out.le
      cases ho : rdS d (s.drop (nb + 1)) with
      | none =>
        obtain rfl := hno ho
        have HN : Hid (O = none) := by show _ = _; rw [← HST.out, stS, HRN.out]; simp only []; rw [ho]
        clear hso hno ho HST
        go_wp2
        refine bodyPost_ret (v := .tuple #[ndV 0 0 [] none 0 0 none 0 0, .int .i64 (-1)]) (by simp [results, Tryd.results67, go_sem, *]) rfl ?_
        refine newRs_none w.heap.size (.int .i64 0) (.int .i64 0) (sv []) (.slice none 0 0) (.slice none 0 0) 0 0 [] (HB3.out) (Nat.le_refl _) ?_
        exact HN.out
      | some q =>
        obtain ⟨rfl, k, hik, hks, rfl, hqd⟩ := hso q ho
        have hk0 : ((k : Int) < 0) = False := by simp
        by_cases h6 : 5 < xs.length
        · have HN : Hid (O = none) := by show _ = _; rw [← HST.out, stS, HRN.out]; simp only []; rw [ho]; simp only []; rw [if_pos h6]
          have hq5 : ((5 : Int) < (rs.length : Int)) = True := eq_true (by have := HRL.out; omega)
          clear hso hno ho HST h6 hqd
          go_wp2
          refine bodyPost_ret (v := .tuple #[ndV 0 0 [] none 0 0 none 0 0, .int .i64 (-1)]) (by simp [results, Tryd.results67, go_sem, *]) rfl ?_
          refine newRs_none w.heap.size (.int .i64 0) (.int .i64 0) (sv []) (.slice none 0 0) (.slice none 0 0) 0 0 [] (HB3.out) (Nat.le_refl _) ?_
          exact HN.out
        · have HS : Hid (insS (rdS d) true (6 - xs.length) (ns ++ [p.1]) (xs ++ [q.1]) (s.drop k) = O) := by show _ = _; rw [← HST.out, stS, HRN.out]; simp only []; rw [ho]; simp only []; rw [if_neg h6, ← hqd]
          have hq5 : ((5 : Int) < (rs.length : Int)) = False := eq_false (by have := HRL.out; omega)
          clear hso hno ho HST hqd
          obtain ⟨rk, rn, rt, rAn, rln, rcn, rAi, rli, rci⟩ := raw
          go_upto_region 21 with fail
          generalize w2.alloc (.cells (ndCells rk rn rt rAn rln rcn rAi rli rci) 26) = wa at *
          have hzx : w2.heap.size < wa.heap.size := by omega
          have hz0 : w.heap.size + 1 < wa.heap.size := by have := HT3.out.lt; have := HT3.out.le; omega
          have HC4 := Lib.hid z4
          have HX5 : Hid ((wa.alloc (.cells (ndCells rk rn rt rAn rln rcn rAi rli rci) 26)).heap[w2.heap.size + 1]? = some (.cells (ndCells rk rn rt rAn rln rcn rAi rli rci) 26 (0, 0))) := by show _ = _; rw [← hsa]; exact HX4.out
          go_wp2_with (at_builtin; refine app_node_at rfl _ _ rfl (w.heap.size + 2) A1 c1 rs ⟨rk, rn, rt, rAn, rln, rcn, rAi, rli, rci⟩ (by rfl) HT4.out.iown (w2.heap.size + 1) (by rfl) HX5.out ?_ HT4.out.le ?_; (focus omega); intro A6 c6 w6 ho6 hg6 hbk6; obtain ⟨⟨f0, f1, f2, f3, f4⟩, f5, f6, f7, f8, f9⟩ := box_five (HT4.out.boxI hg6))
          have HT7 := Lib.hid (HT4.out.appI ho6 hg6 hbk6 HO4.out HND.out (fun j hj => by have := HR2.out j hj; have := HT9.out.le; omega) (.slice A6 (rs.length + 1) c6) (by simp))
          have HB7 := Lib.hid (Below.setCell (HB4.out.trans (grown_to_below hg6 HB4.out.size (fun g e => by have := ownN_row HT4.out.iown g e; omega))) (p := ⟨w.heap.size + 1, 4, none⟩) (Nat.le_succ _) (.slice A6 (rs.length + 1) c6))
          have HY7 : Hid ((w6.setCell ⟨w.heap.size + 1, 4, none⟩ (.slice A6 (rs.length + 1) c6)).heap[w.heap.size]? = some (.cells #[.int .i64 0, .int .i64 0, .string ⟨#[]⟩, .slice none 0 0, .slice none 0 0] 26 (0, 0))) := (Below.heap_setCell _ _ _ _ (by show w.heap.size ≠ w.heap.size + 1; omega)).trans ((hg6.block _ (Nat.lt_of_lt_of_le (Nat.lt_add_of_pos_right (by decide)) HT4.out.le) (fun e => by have := ownN_row HT4.out.iown _ e.symm; omega)).trans HY4.out)
          generalize w6.setCell ⟨w.heap.size + 1, 4, none⟩ (.slice A6 (rs.length + 1) c6) = w7 at *
          go_roundw
          case rel => exact ⟨k, ns ++ [p.1], A3, c3, A6, c6, _, xs ++ [q.1], _, rfl, by omega, hks, by simp; omega, by rw [← HS.out]; congr 1; (first | omega | (simp; done) | (simp; omega)), by have := HNL.out; simp; omega, HT7.out, HY7.out, HB7.out⟩
          case measure => simp [intOf]; omega
end Go.Proofs.YtdmmnjnbjigdeaaDoor

/- Nodes, read, of spec: a walk. -/
namespace Go.Proofs.YtdmmnjnbjigdeaaDoor
open Go.RowKit

theorem newRs_drew {w w' : World} {s : Tx} {i : Nat} {o : Option (Nd × Tx)} {e : Ending} (h : NewRs w s i o e w') : NewRs w s i o e w'.drew := by
  obtain ⟨raw, L, x, nx, he, ho, hn, hL, hb, hr, hs⟩ := h
  exact ⟨raw, L, x, nx, he, OwT.keep _ _ _ ho (fun j _ => rfl), hn, hL, hb.drew, hr, hs⟩
theorem newRs_below {w w' w2 : World} {s : Tx} {i : Nat} {o : Option (Nd × Tx)} {e : Ending} (h : NewRs w s i o e w') (hb : Below w'.heap.size w' w2) : NewRs w s i o e w2 := by
  obtain ⟨raw, L, x, nx, he, ho, hn, hL, hb0, hr, hs⟩ := h
  exact ⟨raw, L, x, nx, he, OwT.keep _ _ _ ho (fun j hj => hb.block j (OwT.lt _ _ _ ho j hj)), hn, hL, hb0.trans (hb.mono hb0.size), hr, hs⟩
theorem newRs_pass {w w' : World} {s : Tx} {i : Nat} {o : Option (Nd × Tx)} {x : Nd} {raw : Raw} {L : List Nat} {nx : Int} (b : Nat) (v0 v1 v2 v3 v4 : Value) (ho : OwT w' x raw L) (hn : L.Nodup) (hL : ∀ j ∈ L, w.heap.size ≤ j ∧ j ≠ b) (hb : Below w.heap.size w w') (hbl : w.heap.size ≤ b)
    (h1 : o = none → nx = -1) (h2 : ∀ q, o = some q → x = q.1 ∧ ∃ k : Nat, i < k ∧ k ≤ s.length ∧ nx = (k : Int) ∧ q.2 = s.drop k) : NewRs w s i o (.returned (.tuple #[raw.v, .int .i64 nx])) (put5 w' b v0 v1 v2 v3 v4) :=
  ⟨raw, L, x, nx, rfl, OwT.keep _ _ _ ho (fun j hj => put5_heap _ _ _ _ _ _ _ _ (hL j hj).2), hn, fun j hj => (hL j hj).1, put5_below hb b _ _ _ _ _ hbl, h1, h2⟩
/-! numbers -/
def numAt (s : Tx) (f : Nat) (neg : Bool) : Option (Int × Tx) :=
  if dgs 6 (s.drop f) = 0 then none else some (if neg then -(valD 0 ((s.drop f).take (dgs 6 (s.drop f)))) else valD 0 ((s.drop f).take (dgs 6 (s.drop f))), (s.drop f).drop (dgs 6 (s.drop f)))
theorem numS_neg {s : Tx} {i : Nat} (h : i < s.length) (hc : (s[i] == 45) = true) : numS (s.drop i) = numAt s (i + 1) true := by
  rw [drop_cons s i h, numS, if_pos hc]; rfl
theorem numS_pos {s : Tx} {i : Nat} (h : i < s.length) (hc : (s[i] == 45) = false) : numS (s.drop i) = numAt s i false := by
  unfold numAt
  rw [drop_cons s i h, numS, if_neg (by rw [hc]; decide)]; rfl
theorem dgs_hit {s : Tx} {k j : Nat} (h : k < s.length) (hj : j < 6) (hd : isDig s[k] = true) : dgs (6 - j) (s.drop k) = 1 + dgs (6 - (j + 1)) (s.drop (k + 1)) := by
  rw [drop_cons s k h, show 6 - j = (6 - (j + 1)) + 1 by omega, dgs, isD_dig, if_pos hd, Nat.add_comm]
theorem dgs_stop {s : Tx} {k j : Nat} (h : s.length ≤ k ∨ 6 ≤ j ∨ ∃ h : k < s.length, isDig s[k] = false) : dgs (6 - j) (s.drop k) = 0 := by
  rcases h with h | h | ⟨h, hd⟩
  · rw [List.drop_eq_nil_of_le h]; cases 6 - j <;> simp [dgs]
  · rw [show 6 - j = 0 by omega]; simp [dgs]
  · rw [drop_cons s k h]
    cases 6 - j with
    | zero => simp [dgs]
    | succ m => rw [dgs, isD_dig, if_neg (by rw [hd]; decide)]
theorem val_step {s : Tx} {f j q : Nat} (hq : q = f + j) (h : q < s.length) : valD 0 ((s.drop f).take (j + 1)) = 10 * valD 0 ((s.drop f).take j) + (((s[q]).toNat : Int) - 48) := by
  subst hq
  have e : (s.drop f).take (j + 1) = (s.drop f).take j ++ [s[f + j]] := by
    rw [List.take_add_one, List.getElem?_drop, List.getElem?_eq_getElem h]
    rfl
  rw [e, valD_append]
  rfl
theorem pow_small {j m : Nat} (h : m < 10 ^ j) (hj : j < 6) : m ≤ 99999 := by
  have : 10 ^ j ≤ 10 ^ 5 := Nat.pow_le_pow_right (by decide) (by omega)
  omega
theorem pow_step {j m c : Nat} (h : m < 10 ^ j) (hc : c ≤ 9) : 10 * m + c < 10 ^ (j + 1) := by
  rw [Nat.pow_succ]; omega
theorem pow_small6 {j m : Nat} (h : m < 10 ^ j) (hj : j ≤ 6) : m ≤ 999999 := by
  have : 10 ^ j ≤ 10 ^ 6 := Nat.pow_le_pow_right (by decide) hj
  omega
theorem pre_take (s p : Tx) : Lib.hasPrefix s p = (s.take p.length == p) := by
  unfold Lib.hasPrefix
  rw [Bool.eq_iff_iff, List.isPrefixOf_iff_prefix, List.prefix_iff_eq_take, beq_iff_eq]
  exact ⟨fun h => h.symm, fun h => h.symm⟩
theorem pre_at (s p : Tx) (i m : Nat) (h : m = p.length) : ((s.take (i + m)).drop i == p) = Lib.hasPrefix (s.drop i) p := by
  subst h
  rw [pre_take, List.drop_take, Nat.add_sub_cancel_left]
theorem pre_far (s p : Tx) (i m : Nat) (h : m = p.length) (hl : s.length < i + m) (hi : i ≤ s.length) : Lib.hasPrefix (s.drop i) p = false := by
  subst h
  rw [pre_take, beq_eq_false_iff_ne]
  intro e
  have := congrArg List.length e
  rw [List.length_take, List.length_drop] at this
  omega
/-- the words, in the reference's order -/
def wdAt : Nat → Tx
  | 0 => wNull
  | 1 => wFalse
  | _ => wTrue
theorem rdS_words (d : Nat) (s : Tx) (k : Nat) (hk : k < 3) (hno : ∀ j, j < k → Lib.hasPrefix s (wdAt j) = false) (h : Lib.hasPrefix s (wdAt k) = true) : rdS (d + 1) s = some ((if k = 0 then .mk 1 0 [] [] [] else if k = 1 then .mk 2 0 [] [] [] else .mk 2 1 [] [] []), s.drop (wdAt k).length) := by
  unfold rdS
  match k, hk with
  | 0, _ =>
    have h0 : Lib.hasPrefix s wNull = true := h
    rw [if_pos h0]; rfl
  | 1, _ =>
    have h0 : Lib.hasPrefix s wNull = false := hno 0 (by decide)
    have h1 : Lib.hasPrefix s wFalse = true := h
    rw [if_neg (by rw [h0]; decide), if_pos h1]; rfl
  | 2, _ =>
    have h0 : Lib.hasPrefix s wNull = false := hno 0 (by decide)
    have h1 : Lib.hasPrefix s wFalse = false := hno 1 (by decide)
    have h2 : Lib.hasPrefix s wTrue = true := h
    rw [if_neg (by rw [h0]; decide), if_neg (by rw [h1]; decide), if_pos h2]; rfl
theorem rdS_else (d : Nat) (b : UInt8) (t : Tx) (hno : ∀ j, j < 3 → Lib.hasPrefix (b :: t) (wdAt j) = false) : rdS (d + 1) (b :: t) = if b == 34 then (rdT [] t).map fun q => (.mk 4 0 q.1 [] [], q.2)
        else if b == 91 then insS (rdS d) false 7 [] [] t
        else if b == 123 then insS (rdS d) true 7 [] [] t
        else (numS (b :: t)).map fun q => (.mk 3 q.1 [] [] [], q.2) := by
  have h0 : Lib.hasPrefix (b :: t) wNull = false := hno 0 (by decide)
  have h1 : Lib.hasPrefix (b :: t) wFalse = false := hno 1 (by decide)
  have h2 : Lib.hasPrefix (b :: t) wTrue = false := hno 2 (by decide)
  rw [rdS_cons, if_neg (by rw [h0]; decide), if_neg (by rw [h1]; decide), if_neg (by rw [h2]; decide)]
set_option maxRecDepth 100000 in
set_option maxHeartbeats 4000000 in
theorem spec_read0 : RsC 0 := fun s i w hl hi => by
  have hX0 := heap_alloc_new w (.cells #[.int .i64 0, .int .i64 0, .string ⟨#[]⟩, .slice none 0 0, .slice none 0 0] 26)
  obtain ⟨⟨y0, y1, y2, y3, y4⟩, y5, y6, y7, y8, y9⟩ := box_five hX0
  have hb := (Below.refl w.heap.size w).alloc (Nat.le_refl _) (.cells #[.int .i64 0, .int .i64 0, .string ⟨#[]⟩, .slice none 0 0, .slice none 0 0] 26)
  by_cases hpos : i < s.length
  · go_enter Tryd.func45, Tryd.ntmps45
    go_upto_region 1 with fail
    generalize w.alloc (.cells #[.int .i64 0, .int .i64 0, .string ⟨#[]⟩, .slice none 0 0, .slice none 0 0] 26) = w0 at *
    go_wp2
    refine bodyPost_ret (v := .tuple #[ndV 0 0 [] none 0 0 none 0 0, .int .i64 (-1)]) (by simp [results, Tryd.results45, go_sem, *]) rfl ?_
    refine newRs_none w.heap.size (.int .i64 0) (.int .i64 0) (sv []) (.slice none 0 0) (.slice none 0 0) 0 0 [] (hb) (Nat.le_refl _) ?_
    rfl
  · go_enter Tryd.func45, Tryd.ntmps45
    go_upto_region 1 with fail
    generalize w.alloc (.cells #[.int .i64 0, .int .i64 0, .string ⟨#[]⟩, .slice none 0 0, .slice none 0 0] 26) = w0 at *
    go_wp2
    refine bodyPost_ret (v := .tuple #[ndV 0 0 [] none 0 0 none 0 0, .int .i64 (-1)]) (by simp [results, Tryd.results45, go_sem, *]) rfl ?_
    refine newRs_none w.heap.size (.int .i64 0) (.int .i64 0) (sv []) (.slice none 0 0) (.slice none 0 0) 0 0 [] (hb) (Nat.le_refl _) ?_
    rfl
set_option maxRecDepth 100000 in
set_option maxHeartbeats 16000000 in
theorem spec_read1 (d : Nat) (HC : RsC d) (hd : d ≤ 10) (s : Tx) (i : Nat) (w : World) (hl : s.length ≤ 4000000) (hi : i ≤ s.length) : Calls Tryd.prog 45 #[sv s, .int .i64 (i : Int), .int .i64 ((d : Int) + 1)] w (NewRs w s i (rdS (d + 1) (s.drop i))) := by
  have hX0 := heap_alloc_new w (.cells #[.int .i64 0, .int .i64 0, .string ⟨#[]⟩, .slice none 0 0, .slice none 0 0] 26)
  have hb := (Below.refl w.heap.size w).alloc (Nat.le_refl _) (.cells #[.int .i64 0, .int .i64 0, .string ⟨#[]⟩, .slice none 0 0, .slice none 0 0] 26)
  have hs0 : (w.alloc (.cells #[.int .i64 0, .int .i64 0, .string ⟨#[]⟩, .slice none 0 0, .slice none 0 0] 26)).heap.size = w.heap.size + 1 := by simp
  by_cases hpos : i < s.length
  case neg =>
    have HN : rdS (d + 1) (s.drop i) = none := by rw [drop_nil s i (by omega)]; rfl
    obtain ⟨⟨y0, y1, y2, y3, y4⟩, y5, y6, y7, y8, y9⟩ := box_five hX0
    go_enter Tryd.func45, Tryd.ntmps45
    go_upto_region 1 with fail
    generalize w.alloc (.cells #[.int .i64 0, .int .i64 0, .string ⟨#[]⟩, .slice none 0 0, .slice none 0 0] 26) = w0 at *
    go_wp2
    refine bodyPost_ret (v := .tuple #[ndV 0 0 [] none 0 0 none 0 0, .int .i64 (-1)]) (by simp [results, Tryd.results45, go_sem, *]) rfl ?_
    refine newRs_none w.heap.size (.int .i64 0) (.int .i64 0) (sv []) (.slice none 0 0) (.slice none 0 0) 0 0 [] (hb) (Nat.le_refl _) ?_
    exact HN
  have hdl : ((d : Int) + 1 < 1) = False := eq_false (by omega)
  have HX0 := Lib.hid hX0
  have HB0 := Lib.hid hb
  have HS0 := Lib.hid hs0
  clear hX0 hb hs0
  obtain ⟨O, hoo⟩ : ∃ O, rdS (d + 1) (s.drop i) = O := ⟨_, rfl⟩
  rw [hoo]
  have HO := Lib.hid hoo
  clear hoo
  go_enter Tryd.func45, Tryd.ntmps45
  go_upto_region 3 with fail
  generalize w.alloc (.cells #[.int .i64 0, .int .i64 0, .string ⟨#[]⟩, .slice none 0 0, .slice none 0 0] 26) = w0 at *
  have HA1 := Lib.hid ((Below.refl w0.heap.size w0).alloc (Nat.le_refl _) (.cells #[.string ⟨#[110, 117, 108, 108]⟩, .string ⟨#[102, 97, 108, 115, 101]⟩, .string ⟨#[116, 114, 117, 101]⟩] 9))
  have HX1 := Lib.hid (heap_alloc_new w0 (.cells #[.string ⟨#[110, 117, 108, 108]⟩, .string ⟨#[102, 97, 108, 115, 101]⟩, .string ⟨#[116, 114, 117, 101]⟩] 9))
  have HB1 := Lib.hid (HB0.out.trans (HA1.out.mono HB0.out.size))
  have HZ1 := Lib.hid (bx_keep HX0.out HA1.out)
  go_wp2
  generalize w0.alloc (.cells #[.string ⟨#[110, 117, 108, 108]⟩, .string ⟨#[102, 97, 108, 115, 101]⟩, .string ⟨#[116, 114, 117, 101]⟩] 9) = w1 at *
  go_loopw [9] (fun v wr => ∃ (k : Nat), k ≤ 3 ∧ v = .int .i64 k ∧ (∀ j, j < k → Lib.hasPrefix (s.drop i) (wdAt j) = false) ∧ wr.heap[w.heap.size]? = some (.cells #[.int .i64 0, .int .i64 0, .string ⟨#[]⟩, .slice none 0 0, .slice none 0 0] 26 (0, 0)) ∧ wr.heap[w0.heap.size]? = some (.cells #[.string ⟨#[110, 117, 108, 108]⟩, .string ⟨#[102, 97, 108, 115, 101]⟩, .string ⟨#[116, 114, 117, 101]⟩] 9 (0, 0)) ∧ Below w.heap.size w wr) (fun v _ => 3 - (intOf v).toNat)
  case atStart => exact ⟨0, by decide, rfl, fun j hj => (by omega), HZ1.out, HX1.out, HB1.out⟩
  case round =>
    obtain ⟨k, hk, rfl, hno, hz, hx, hb⟩ := hrel
    have HB := Lib.hid hb
    have HZ := Lib.hid hz
    have HX := Lib.hid hx
    clear hb hz hx
    obtain ⟨⟨y0, y1, y2, y3, y4⟩, y5, y6, y7, y8, y9⟩ := box_five HZ.out
    have x0 : wr.cell? ⟨w0.heap.size, 0, none⟩ = some (.string ⟨#[110, 117, 108, 108]⟩) := cell_of_row wr _ 0 _ _ _ HX.out
    have x1 : wr.cell? ⟨w0.heap.size, 1, none⟩ = some (.string ⟨#[102, 97, 108, 115, 101]⟩) := cell_of_row wr _ 1 _ _ _ HX.out
    have x2 : wr.cell? ⟨w0.heap.size, 2, none⟩ = some (.string ⟨#[116, 114, 117, 101]⟩) := cell_of_row wr _ 2 _ _ _ HX.out
    by_cases h3 : k < 3
    · match k, h3 with
      | 0, _ =>
        by_cases hle : i + 4 ≤ s.length
        case neg =>
          have hg : decide ((i : Int) + 4 ≤ (s.length : Int)) = false := decide_eq_false (by omega)
          have hno2 : ∀ j, j < 0 + 1 → Lib.hasPrefix (s.drop i) (wdAt j) = false := fun j hj => by
            rcases Nat.lt_or_ge j 0 with h | h
            · exact hno j h
            · obtain rfl : j = 0 := by omega
              exact pre_far s _ i 4 rfl (by omega) (by omega)
          have HNO := Lib.hid hno2
          clear hno hno2
          go_wp2_with fail
          go_quiet (fail)
          go_wp2
          go_roundw
          case rel => exact ⟨0 + 1, by decide, by go_num, HNO.out, HZ.out, HX.out, below_drewN HB.out _⟩
          case measure => simp [intOf]
        case pos =>
          have hg : decide ((i : Int) + 4 ≤ (s.length : Int)) = true := decide_eq_true (by omega)
          have hpre := pre_at s (wdAt 0) i 4 rfl
          cases hq : ((s.take (i + 4)).drop i == wdAt 0)
          · rw [hq] at hpre
            have hqe : ((s.take (i + 4)).drop i == [110, 117, 108, 108]) = false := hq
            have hno2 : ∀ j, j < 0 + 1 → Lib.hasPrefix (s.drop i) (wdAt j) = false := fun j hj => by
              rcases Nat.lt_or_ge j 0 with h | h
              · exact hno j h
              · obtain rfl : j = 0 := by omega
                exact hpre.symm
            have HNO := Lib.hid hno2
            clear hno hno2 hpre hq
            go_wp2_with fail
            go_quiet (fail)
            go_wp2
            go_roundw
            case rel => exact ⟨0 + 1, by decide, by go_num, HNO.out, HZ.out, HX.out, below_drewN HB.out _⟩
            case measure => simp [intOf]
          · rw [hq] at hpre
            have hqe : ((s.take (i + 4)).drop i == [110, 117, 108, 108]) = true := hq
            have HN : Hid (O = some (.mk 1 0 [] [] [], s.drop (i + 4))) := by
              show _ = _
              rw [← HO.out, rdS_words d _ 0 (by decide) hno hpre.symm]
              rw [show s.drop (i + 4) = (s.drop i).drop 4 by rw [List.drop_drop]]
              rfl
            clear hno hpre hq
            go_wp2_with fail
            go_quiet (fail)
            rename_i nq
            have HZ5 : Hid ((wr.drewN nq).heap[w.heap.size]? = some (.cells #[.int .i64 0, .int .i64 0, .string ⟨#[]⟩, .slice none 0 0, .slice none 0 0] 26 (0, 0))) := HZ.out
            have HX5 : Hid ((wr.drewN nq).heap[w0.heap.size]? = some (.cells #[.string ⟨#[110, 117, 108, 108]⟩, .string ⟨#[102, 97, 108, 115, 101]⟩, .string ⟨#[116, 114, 117, 101]⟩] 9 (0, 0))) := HX.out
            have HB5 := Lib.hid (below_drewN HB.out nq)
            clear y0 y1 y2 y3 y4 y5 y6 y7 y8 y9 x0 x1 x2 hqe hg
            generalize wr.drewN nq = W5 at *
            obtain ⟨⟨y0, y1, y2, y3, y4⟩, y5, y6, y7, y8, y9⟩ := box_five HZ5.out
            have x0 : W5.cell? ⟨w0.heap.size, 0, none⟩ = some (.string ⟨#[110, 117, 108, 108]⟩) := cell_of_row W5 _ 0 _ _ _ HX5.out
            have hz5 : w.heap.size < W5.heap.size := lt_of_block HZ5.out
            have hx5 : w0.heap.size < W5.heap.size := lt_of_block HX5.out
            have hne1 : w0.heap.size ≠ w.heap.size := by have := HS0.out; omega
            have hne2 : w.heap.size ≠ w0.heap.size := by have := HS0.out; omega
            go_wp2_with fail
            go_region
            go_wp2
            refine bodyPost_ret (v := .tuple #[ndV 1 0 [] none 0 0 none 0 0, .int .i64 ((i + 4 : Nat) : Int)]) (by simp [results, Tryd.results45, go_sem, *]) rfl ?_
            refine newRs_below (newRs_some (raw := ⟨1, 0, [], none, 0, 0, none, 0, 0⟩) (L := []) (x := .mk 1 0 [] [] []) (w' := W5) w.heap.size (.int .i64 1) (.int .i64 0) (sv []) (.slice none 0 0) (.slice none 0 0) (i + 4) (owT_flat _ _ _ _) List.nodup_nil (fun j hj => by cases hj) HB5.out (Nat.le_refl _) (by omega) (by omega) HN.out) (((Below.refl _ _).alloc (Nat.le_refl _) _).drew)
      | 1, _ =>
        by_cases hle : i + 5 ≤ s.length
        case neg =>
          have hg : decide ((i : Int) + 5 ≤ (s.length : Int)) = false := decide_eq_false (by omega)
          have hno2 : ∀ j, j < 1 + 1 → Lib.hasPrefix (s.drop i) (wdAt j) = false := fun j hj => by
            rcases Nat.lt_or_ge j 1 with h | h
            · exact hno j h
            · obtain rfl : j = 1 := by omega
              exact pre_far s _ i 5 rfl (by omega) (by omega)
          have HNO := Lib.hid hno2
          clear hno hno2
          go_wp2_with fail
          go_quiet (fail)
          go_wp2
          go_roundw
          case rel => exact ⟨1 + 1, by decide, by go_num, HNO.out, HZ.out, HX.out, below_drewN HB.out _⟩
          case measure => simp [intOf]
        case pos =>
          have hg : decide ((i : Int) + 5 ≤ (s.length : Int)) = true := decide_eq_true (by omega)
          have hpre := pre_at s (wdAt 1) i 5 rfl
          cases hq : ((s.take (i + 5)).drop i == wdAt 1)
          · rw [hq] at hpre
            have hqe : ((s.take (i + 5)).drop i == [102, 97, 108, 115, 101]) = false := hq
            have hno2 : ∀ j, j < 1 + 1 → Lib.hasPrefix (s.drop i) (wdAt j) = false := fun j hj => by
              rcases Nat.lt_or_ge j 1 with h | h
              · exact hno j h
              · obtain rfl : j = 1 := by omega
                exact hpre.symm
            have HNO := Lib.hid hno2
            clear hno hno2 hpre hq
            go_wp2_with fail
            go_quiet (fail)
            go_wp2
            go_roundw
            case rel => exact ⟨1 + 1, by decide, by go_num, HNO.out, HZ.out, HX.out, below_drewN HB.out _⟩
            case measure => simp [intOf]
          · rw [hq] at hpre
            have hqe : ((s.take (i + 5)).drop i == [102, 97, 108, 115, 101]) = true := hq
            have HN : Hid (O = some (.mk 2 0 [] [] [], s.drop (i + 5))) := by
              show _ = _
              rw [← HO.out, rdS_words d _ 1 (by decide) hno hpre.symm]
              rw [show s.drop (i + 5) = (s.drop i).drop 5 by rw [List.drop_drop]]
              rfl
            clear hno hpre hq
            go_wp2_with fail
            go_quiet (fail)
            rename_i nq
            have HZ5 : Hid ((wr.drewN nq).heap[w.heap.size]? = some (.cells #[.int .i64 0, .int .i64 0, .string ⟨#[]⟩, .slice none 0 0, .slice none 0 0] 26 (0, 0))) := HZ.out
            have HX5 : Hid ((wr.drewN nq).heap[w0.heap.size]? = some (.cells #[.string ⟨#[110, 117, 108, 108]⟩, .string ⟨#[102, 97, 108, 115, 101]⟩, .string ⟨#[116, 114, 117, 101]⟩] 9 (0, 0))) := HX.out
            have HB5 := Lib.hid (below_drewN HB.out nq)
            clear y0 y1 y2 y3 y4 y5 y6 y7 y8 y9 x0 x1 x2 hqe hg
            generalize wr.drewN nq = W5 at *
            obtain ⟨⟨y0, y1, y2, y3, y4⟩, y5, y6, y7, y8, y9⟩ := box_five HZ5.out
            have x0 : W5.cell? ⟨w0.heap.size, 1, none⟩ = some (.string ⟨#[102, 97, 108, 115, 101]⟩) := cell_of_row W5 _ 1 _ _ _ HX5.out
            have hz5 : w.heap.size < W5.heap.size := lt_of_block HZ5.out
            have hx5 : w0.heap.size < W5.heap.size := lt_of_block HX5.out
            have hne1 : w0.heap.size ≠ w.heap.size := by have := HS0.out; omega
            have hne2 : w.heap.size ≠ w0.heap.size := by have := HS0.out; omega
            go_wp2_with fail
            go_region
            go_wp2
            refine bodyPost_ret (v := .tuple #[ndV 2 0 [] none 0 0 none 0 0, .int .i64 ((i + 5 : Nat) : Int)]) (by simp [results, Tryd.results45, go_sem, *]) rfl ?_
            refine newRs_below (newRs_some (raw := ⟨2, 0, [], none, 0, 0, none, 0, 0⟩) (L := []) (x := .mk 2 0 [] [] []) (w' := W5) w.heap.size (.int .i64 2) (.int .i64 0) (sv []) (.slice none 0 0) (.slice none 0 0) (i + 5) (owT_flat _ _ _ _) List.nodup_nil (fun j hj => by cases hj) HB5.out (Nat.le_refl _) (by omega) (by omega) HN.out) (((Below.refl _ _).alloc (Nat.le_refl _) _).drew)
      | 2, _ =>
        by_cases hle : i + 4 ≤ s.length
        case neg =>
          have hg : decide ((i : Int) + 4 ≤ (s.length : Int)) = false := decide_eq_false (by omega)
          have hno2 : ∀ j, j < 2 + 1 → Lib.hasPrefix (s.drop i) (wdAt j) = false := fun j hj => by
            rcases Nat.lt_or_ge j 2 with h | h
            · exact hno j h
            · obtain rfl : j = 2 := by omega
              exact pre_far s _ i 4 rfl (by omega) (by omega)
          have HNO := Lib.hid hno2
          clear hno hno2
          go_wp2_with fail
          go_quiet (fail)
          go_wp2
          go_roundw
          case rel => exact ⟨2 + 1, by decide, by go_num, HNO.out, HZ.out, HX.out, below_drewN HB.out _⟩
          case measure => simp [intOf]
        case pos =>
          have hg : decide ((i : Int) + 4 ≤ (s.length : Int)) = true := decide_eq_true (by omega)
          have hpre := pre_at s (wdAt 2) i 4 rfl
          cases hq : ((s.take (i + 4)).drop i == wdAt 2)
          · rw [hq] at hpre
            have hqe : ((s.take (i + 4)).drop i == [116, 114, 117, 101]) = false := hq
            have hno2 : ∀ j, j < 2 + 1 → Lib.hasPrefix (s.drop i) (wdAt j) = false := fun j hj => by
              rcases Nat.lt_or_ge j 2 with h | h
              · exact hno j h
              · obtain rfl : j = 2 := by omega
                exact hpre.symm
            have HNO := Lib.hid hno2
            clear hno hno2 hpre hq
            go_wp2_with fail
            go_quiet (fail)
            go_wp2
            go_roundw
            case rel => exact ⟨2 + 1, by decide, by go_num, HNO.out, HZ.out, HX.out, below_drewN HB.out _⟩
            case measure => simp [intOf]
          · rw [hq] at hpre
            have hqe : ((s.take (i + 4)).drop i == [116, 114, 117, 101]) = true := hq
            have HN : Hid (O = some (.mk 2 1 [] [] [], s.drop (i + 4))) := by
              show _ = _
              rw [← HO.out, rdS_words d _ 2 (by decide) hno hpre.symm]
              rw [show s.drop (i + 4) = (s.drop i).drop 4 by rw [List.drop_drop]]
              rfl
            clear hno hpre hq
            go_wp2_with fail
            go_quiet (fail)
            rename_i nq
            have HZ5 : Hid ((wr.drewN nq).heap[w.heap.size]? = some (.cells #[.int .i64 0, .int .i64 0, .string ⟨#[]⟩, .slice none 0 0, .slice none 0 0] 26 (0, 0))) := HZ.out
            have HX5 : Hid ((wr.drewN nq).heap[w0.heap.size]? = some (.cells #[.string ⟨#[110, 117, 108, 108]⟩, .string ⟨#[102, 97, 108, 115, 101]⟩, .string ⟨#[116, 114, 117, 101]⟩] 9 (0, 0))) := HX.out
            have HB5 := Lib.hid (below_drewN HB.out nq)
            clear y0 y1 y2 y3 y4 y5 y6 y7 y8 y9 x0 x1 x2 hqe hg
            generalize wr.drewN nq = W5 at *
            obtain ⟨⟨y0, y1, y2, y3, y4⟩, y5, y6, y7, y8, y9⟩ := box_five HZ5.out
            have x0 : W5.cell? ⟨w0.heap.size, 2, none⟩ = some (.string ⟨#[116, 114, 117, 101]⟩) := cell_of_row W5 _ 2 _ _ _ HX5.out
            have hz5 : w.heap.size < W5.heap.size := lt_of_block HZ5.out
            have hx5 : w0.heap.size < W5.heap.size := lt_of_block HX5.out
            have hne1 : w0.heap.size ≠ w.heap.size := by have := HS0.out; omega
            have hne2 : w.heap.size ≠ w0.heap.size := by have := HS0.out; omega
            go_wp2_with fail
            go_region
            go_wp2
            refine bodyPost_ret (v := .tuple #[ndV 2 1 [] none 0 0 none 0 0, .int .i64 ((i + 4 : Nat) : Int)]) (by simp [results, Tryd.results45, go_sem, *]) rfl ?_
            refine newRs_below (newRs_some (raw := ⟨2, 1, [], none, 0, 0, none, 0, 0⟩) (L := []) (x := .mk 2 1 [] [] []) (w' := W5) w.heap.size (.int .i64 2) (.int .i64 1) (sv []) (.slice none 0 0) (.slice none 0 0) (i + 4) (owT_flat _ _ _ _) List.nodup_nil (fun j hj => by cases hj) HB5.out (Nat.le_refl _) (by omega) (by omega) HN.out) (((Below.refl _ _).alloc (Nat.le_refl _) _).drew)
    · obtain rfl : k = 3 := by omega
      have hD := drop_cons s i hpos
      have hel := rdS_else d s[i] (s.drop (i + 1)) (by rw [← hD]; exact hno)
      rw [← hD, HO.out] at hel
      have HEL := Lib.hid hel
      clear hel hno HO h3 hk
      cases h34 : (s[i] == 34)
      case true =>
        have m34 : ((s[i].toNat : Int) == 34) = true := byte_eqR h34
        have HRQ : Hid (O = (rdQ (s.drop i)).map fun q => (.mk 4 0 q.1 [] [], q.2)) := by show _ = _; rw [HEL.out, h34, if_pos rfl, hD, rdQ, h34, if_pos rfl]
        have HWD := Lib.hid (fun w3 => spec_l26Word s hl i (by omega) w3)
        clear HEL hD
        cases hq0 : rdQ (s.drop i) with
        | none =>
          have HN : Hid (O = none) := by show _ = _; rw [HRQ.out, hq0]; rfl
          rw [hq0] at HWD
          have HWV : Hid (∀ w3, Calls Tryd.prog 66 #[sv s, .int .i64 i] w3 fun e w' => e = .returned (.tuple #[sv [], .int .i64 (-1)]) ∧ w3 = w') := HWD.out
          clear hq0 HWD HRQ h34
          go_wp2_with fail
          refine (HWV.out _).mono ?_
          rintro e w3 ⟨rfl, rfl⟩
          go_wp2
          refine bodyPost_ret (v := .tuple #[ndV 4 0 [] none 0 0 none 0 0, .int .i64 (-1)]) (by simp [results, Tryd.results45, go_sem, *]) rfl ?_
          exact newRs_none w.heap.size (.int .i64 4) (.int .i64 0) (sv []) (.slice none 0 0) (.slice none 0 0) 4 0 [] HB.out (Nat.le_refl _) HN.out
        | some p =>
          obtain ⟨kq, hk0, hkl, hkd⟩ := rdQ_suf hq0
          rw [List.length_drop] at hkl
          rw [List.drop_drop] at hkd
          have hnx : s.length - p.2.length = i + kq := by rw [hkd, List.length_drop]; omega
          have HN : Hid (O = some (.mk 4 0 p.1 [] [], s.drop (i + kq))) := by show _ = _; rw [HRQ.out, hq0, ← hkd]; rfl
          rw [hq0] at HWD
          have HWV : Hid (∀ w3, Calls Tryd.prog 66 #[sv s, .int .i64 i] w3 fun e w' => e = .returned (.tuple #[sv p.1, .int .i64 ((i + kq : Nat) : Int)]) ∧ w3 = w') := fun w3 => by
            have := HWD.out w3
            rw [wdV, hnx] at this
            exact this
          clear hq0 HWD HRQ h34 hnx hkd
          generalize hnb : i + kq = nb at *
          go_wp2_with fail
          refine (HWV.out _).mono ?_
          rintro e w3 ⟨rfl, rfl⟩
          go_wp2
          refine bodyPost_ret (v := .tuple #[ndV 4 0 p.1 none 0 0 none 0 0, .int .i64 (nb : Int)]) (by simp [results, Tryd.results45, go_sem, *]) rfl ?_
          exact newRs_some (raw := ⟨4, 0, p.1, none, 0, 0, none, 0, 0⟩) (L := []) (x := .mk 4 0 p.1 [] []) (w' := wr) w.heap.size (.int .i64 4) (.int .i64 0) (sv p.1) (.slice none 0 0) (.slice none 0 0) nb (owT_flat _ _ _ _) List.nodup_nil (fun j hj => by cases hj) HB.out (Nat.le_refl _) (by omega) (by omega) HN.out
      case false =>
      have m34 : ((s[i].toNat : Int) == 34) = false := byte_neR h34
      cases h91 : (s[i] == 91)
      case true =>
        have m91 : ((s[i].toNat : Int) == 91) = true := byte_eqR h91
        have HRQ : Hid (O = insS (rdS d) false 7 [] [] (s.drop (i + 1))) := by show _ = _; rw [HEL.out, h34, h91]; rfl
        have HIN := Lib.hid (spec_insideL d HC s i wr hl hd hpos (eq_of_beq h91))
        clear HEL hD
        go_wp2_with fail
        refine HIN.out.mono ?_
        rintro e w5 ⟨raw, L, x, nx, rfl, ho5, hn5, hg5, hb5, hno5, hso5⟩
        have HB5 := Lib.hid (HB.out.trans (hb5.mono HB.out.size))
        have HY5 := Lib.hid (bx_keep HZ.out hb5)
        clear y0 y1 y2 y3 y4 y5 y6 y7 y8 y9
        obtain ⟨⟨y0, y1, y2, y3, y4⟩, y5, y6, y7, y8, y9⟩ := box_five HY5.out
        have hsz5 := HB.out.size
        obtain ⟨rk, rn, rt, rAn, rln, rcn, rAi, rli, rci⟩ := raw
        go_wp2
        refine bodyPost_ret (v := .tuple #[ndV rk rn rt rAn rln rcn rAi rli rci, .int .i64 nx]) (by simp [results, Tryd.results45, go_sem, *]) rfl ?_
        refine newRs_pass (raw := ⟨rk, rn, rt, rAn, rln, rcn, rAi, rli, rci⟩) (L := L) (x := x) (w' := _) w.heap.size (.int .i64 rk) (.int .i64 rn) (sv rt) (.slice rAn rln rcn) (.slice rAi rli rci) ho5 hn5 ?_ HB5.out (Nat.le_refl _) ?_ ?_
        · intro j hj; have := hg5 j hj; have := lt_of_block HZ.out; omega
        · intro e; exact hno5 (HRQ.out.symm.trans e)
        · intro q e; exact hso5 q (HRQ.out.symm.trans e)
      case false =>
      have m91 : ((s[i].toNat : Int) == 91) = false := byte_neR h91
      cases h123 : (s[i] == 123)
      case true =>
        have m123 : ((s[i].toNat : Int) == 123) = true := byte_eqR h123
        have HRQ : Hid (O = insS (rdS d) true 7 [] [] (s.drop (i + 1))) := by show _ = _; rw [HEL.out, h34, h91, h123]; rfl
        have HIN := Lib.hid (spec_insideR d HC s i wr hl hd hpos (eq_of_beq h123))
        clear HEL hD
        go_wp2_with fail
        refine HIN.out.mono ?_
        rintro e w5 ⟨raw, L, x, nx, rfl, ho5, hn5, hg5, hb5, hno5, hso5⟩
        have HB5 := Lib.hid (HB.out.trans (hb5.mono HB.out.size))
        have HY5 := Lib.hid (bx_keep HZ.out hb5)
        clear y0 y1 y2 y3 y4 y5 y6 y7 y8 y9
        obtain ⟨⟨y0, y1, y2, y3, y4⟩, y5, y6, y7, y8, y9⟩ := box_five HY5.out
        have hsz5 := HB.out.size
        obtain ⟨rk, rn, rt, rAn, rln, rcn, rAi, rli, rci⟩ := raw
        go_wp2
        refine bodyPost_ret (v := .tuple #[ndV rk rn rt rAn rln rcn rAi rli rci, .int .i64 nx]) (by simp [results, Tryd.results45, go_sem, *]) rfl ?_
        refine newRs_pass (raw := ⟨rk, rn, rt, rAn, rln, rcn, rAi, rli, rci⟩) (L := L) (x := x) (w' := _) w.heap.size (.int .i64 rk) (.int .i64 rn) (sv rt) (.slice rAn rln rcn) (.slice rAi rli rci) ho5 hn5 ?_ HB5.out (Nat.le_refl _) ?_ ?_
        · intro j hj; have := hg5 j hj; have := lt_of_block HZ.out; omega
        · intro e; exact hno5 (HRQ.out.symm.trans e)
        · intro q e; exact hso5 q (HRQ.out.symm.trans e)
      case false =>
      have m123 : ((s[i].toNat : Int) == 123) = false := byte_neR h123
      have HRQ : Hid (O = (numS (s.drop i)).map fun q => (.mk 3 q.1 [] [] [], q.2)) := by show _ = _; rw [HEL.out, h34, h91, h123, hD]; rfl
      clear HEL hD h34 h91 h123
      cases h45 : (s[i] == 45)
      case true =>
        have m45 : ((s[i].toNat : Int) == 45) = true := byte_eqR h45
        have HNM : Hid (O = (numAt s (i + 1) true).map fun q => (.mk 3 q.1 [] [] [], q.2)) := by show _ = _; rw [HRQ.out, numS_neg hpos h45]
        obtain ⟨f, hf⟩ : ∃ f, f = i + 1 := ⟨_, rfl⟩
        rw [← hf] at HNM
        have hfl : f ≤ s.length := by omega
        have hfi : i ≤ f := by omega
        have HFC : Hid (((i : Int) + 1) = (f : Int)) := by show _ = _; omega
        clear HRQ h45 hf
        go_upto_block 3 with fail
        rw [HFC.out]
        rw [show decide (s.length ≤ i) = false from decide_eq_false (by omega), show ((3 : Nat) : Int) = 3 from rfl]
        go_cut [12, 13] (fun n k wx => ∃ (q j m : Nat), q = f + j ∧ q ≤ s.length ∧ n = .int .i64 m ∧ k = .int .i64 q ∧ m ≤ 999999 ∧ (O = if j = 0 then none else some (.mk 3 (-(m : Int)) [] [] [], s.drop q)) ∧ wr = wx)
        case first =>
          go_wp2_with fail
          go_loop [12, 13] (fun n k => ∃ (q j m : Nat), q = f + j ∧ j ≤ 6 ∧ q ≤ s.length ∧ n = .int .i64 m ∧ k = .int .i64 q ∧ m < 10 ^ j ∧ (m : Int) = valD 0 ((s.drop f).take j) ∧ dgs 6 (s.drop f) = j + dgs (6 - j) (s.drop q)) (fun _ k => s.length - (intOf k).toNat)
          case atStart => exact ⟨f, 0, 0, rfl, by decide, by omega, rfl, rfl, by decide, rfl, by simp⟩
          case round =>
            obtain ⟨q, j, m, hqj, hj6, hql, rfl, rfl, hm, hv, hdg⟩ := hrel
            have hm6 := pow_small6 hm hj6
            have HV := Lib.hid hv
            have HDG := Lib.hid hdg
            have HM := Lib.hid hm
            have HQJ := Lib.hid hqj
            clear hv hdg hm hqj
            by_cases hlt : q < s.length
            · cases hdd : isDig s[q]
              · have hstop : s.length ≤ q ∨ 6 ≤ j ∨ ∃ h : q < s.length, isDig s[q] = false := .inr (.inr ⟨hlt, hdd⟩)
                have HDD := Lib.hid (fun w3 => spec_l1Digit s[q] w3)
                rw [hdd] at HDD
                clear hdd
                have HJ : Hid (dgs 6 (s.drop f) = j) := by show _ = _; rw [HDG.out, dgs_stop hstop]; rfl
                have HNN : Hid (O = if j = 0 then none else some (.mk 3 (-(m : Int)) [] [] [], s.drop q)) := by
                  show _ = _
                  rw [HNM.out]
                  unfold numAt
                  rw [HJ.out, List.drop_drop, ← HV.out, HQJ.out]
                  by_cases hj0 : j = 0
                  · rw [if_pos hj0, if_pos hj0]; rfl
                  · rw [if_neg hj0, if_neg hj0]; rfl
                clear hstop HJ HDG HV HM
                go_wp2_with (go_at_call 68; refine (HDD.out _).mono ?_; rintro e w' ⟨rfl, rfl⟩)
                go_meet
                case rel => exact ⟨q, j, m, HQJ.out, hql, rfl, rfl, hm6, HNN.out, rfl⟩
              · have HDD := Lib.hid (fun w3 => spec_l1Digit s[q] w3)
                rw [hdd] at HDD
                by_cases h6 : j < 6
                · have h6I : ((q : Int) < (f : Int) + 6) = True := eq_true (by have := HQJ.out; omega)
                  have HV2 := Lib.hid (val_step HQJ.out hlt)
                  have HDG2 := Lib.hid (dgs_hit hlt h6 hdd)
                  have hm5 := pow_small HM.out h6
                  have hc := hdd
                  simp only [isDig, Bool.and_eq_true, decide_eq_true_eq] at hc
                  obtain ⟨hc0, hc1⟩ := hc
                  clear hdd
                  generalize hcn : (s[q]).toNat = cn at *
                  go_wp2_with (go_at_call 68; refine (HDD.out _).mono ?_; rintro e w' ⟨rfl, rfl⟩)
                  go_round
                  case rel =>
                    have hm9 := pow_step (c := cn - 48) HM.out (by omega)
                    have hv9 : ((10 * m + (cn - 48) : Nat) : Int) = valD 0 ((s.drop f).take (j + 1)) := by rw [HV2.out, ← HV.out]; omega
                    exact ⟨q + 1, j + 1, 10 * m + (cn - 48), by have := HQJ.out; omega, by omega, by omega, by go_num, by go_num, hm9, hv9, by rw [HDG.out, HDG2.out]; omega⟩
                  case measure => simp [intOf]; omega
                · have hstop : s.length ≤ q ∨ 6 ≤ j ∨ ∃ h : q < s.length, isDig s[q] = false := .inr (.inl (by omega))
                  have h6I : ((q : Int) < (f : Int) + 6) = False := eq_false (by have := HQJ.out; omega)
                  clear hdd
                  have HJ : Hid (dgs 6 (s.drop f) = j) := by show _ = _; rw [HDG.out, dgs_stop hstop]; rfl
                  have HNN : Hid (O = if j = 0 then none else some (.mk 3 (-(m : Int)) [] [] [], s.drop q)) := by
                    show _ = _
                    rw [HNM.out]
                    unfold numAt
                    rw [HJ.out, List.drop_drop, ← HV.out, HQJ.out]
                    by_cases hj0 : j = 0
                    · rw [if_pos hj0, if_pos hj0]; rfl
                    · rw [if_neg hj0, if_neg hj0]; rfl
                  clear hstop HJ HDG HV HM
                  go_wp2_with (go_at_call 68; refine (HDD.out _).mono ?_; rintro e w' ⟨rfl, rfl⟩)
                  go_meet
                  case rel => exact ⟨q, j, m, HQJ.out, hql, rfl, rfl, hm6, HNN.out, rfl⟩
            · have hstop : s.length ≤ q ∨ 6 ≤ j ∨ ∃ h : q < s.length, isDig s[q] = false := .inl (by omega)
              have HJ : Hid (dgs 6 (s.drop f) = j) := by show _ = _; rw [HDG.out, dgs_stop hstop]; rfl
              have HNN : Hid (O = if j = 0 then none else some (.mk 3 (-(m : Int)) [] [] [], s.drop q)) := by
                show _ = _
                rw [HNM.out]
                unfold numAt
                rw [HJ.out, List.drop_drop, ← HV.out, HQJ.out]
                by_cases hj0 : j = 0
                · rw [if_pos hj0, if_pos hj0]; rfl
                · rw [if_neg hj0, if_neg hj0]; rfl
              clear hstop HJ HDG HV HM
              go_wp2
              go_meet
              case rel => exact ⟨q, j, m, HQJ.out, hql, rfl, rfl, hm6, HNN.out, rfl⟩
        case rest =>
          obtain ⟨q, j, m, hqj, hql, rfl, rfl, hm6, hnn, rfl⟩ := hcut
          have HNN := Lib.hid hnn
          have HQJ := Lib.hid hqj
          clear hnn hqj
          by_cases hj0 : j = 0
          · have HN : Hid (O = none) := by show _ = _; rw [HNN.out, if_pos hj0]
            have hjf : (q == f) = true := by have := HQJ.out; simp; omega
            clear HNN hj0
            go_wp2
            refine bodyPost_ret (v := .tuple #[ndV 0 0 [] none 0 0 none 0 0, .int .i64 (-1)]) (by simp [results, Tryd.results45, go_sem, *]) rfl ?_
            refine newRs_none w.heap.size (.int .i64 0) (.int .i64 0) (sv []) (.slice none 0 0) (.slice none 0 0) 0 0 [] (HB.out) (Nat.le_refl _) ?_
            exact HN.out
          · have HN : Hid (O = some (.mk 3 (-(m : Int)) [] [] [], s.drop q)) := by show _ = _; rw [HNN.out, if_neg hj0]
            have hjf : (q == f) = false := by have := HQJ.out; simp; omega
            have hjg : (q = f) = False := eq_false (by have := HQJ.out; omega)
            have hiq : i < q := by have := HQJ.out; omega
            clear HNN hj0
            go_wp2
            refine bodyPost_ret (v := .tuple #[ndV 3 (-(m : Int)) [] none 0 0 none 0 0, .int .i64 (q : Int)]) (by simp [results, Tryd.results45, go_sem, *]) rfl ?_
            exact newRs_some (raw := ⟨3, (-(m : Int)), [], none, 0, 0, none, 0, 0⟩) (L := []) (x := .mk 3 (-(m : Int)) [] [] []) (w' := wr) w.heap.size (.int .i64 3) (.int .i64 (-(m : Int))) (sv []) (.slice none 0 0) (.slice none 0 0) q (owT_flat _ _ _ _) List.nodup_nil (fun j hj => by cases hj) HB.out (Nat.le_refl _) hiq hql HN.out
      case false =>
        have m45 : ((s[i].toNat : Int) == 45) = false := byte_neR h45
        have HNM : Hid (O = (numAt s i false).map fun q => (.mk 3 q.1 [] [] [], q.2)) := by show _ = _; rw [HRQ.out, numS_pos hpos h45]
        have hfl : i ≤ s.length := by omega
        have hfi : i ≤ i := by omega
        clear HRQ h45
        go_upto_block 3 with fail
        rw [show decide (s.length ≤ i) = false from decide_eq_false (by omega), show ((3 : Nat) : Int) = 3 from rfl]
        go_cut [12, 13] (fun n k wx => ∃ (q j m : Nat), q = i + j ∧ q ≤ s.length ∧ n = .int .i64 m ∧ k = .int .i64 q ∧ m ≤ 999999 ∧ (O = if j = 0 then none else some (.mk 3 (m : Int) [] [] [], s.drop q)) ∧ wr = wx)
        case first =>
          go_wp2_with fail
          go_loop [12, 13] (fun n k => ∃ (q j m : Nat), q = i + j ∧ j ≤ 6 ∧ q ≤ s.length ∧ n = .int .i64 m ∧ k = .int .i64 q ∧ m < 10 ^ j ∧ (m : Int) = valD 0 ((s.drop i).take j) ∧ dgs 6 (s.drop i) = j + dgs (6 - j) (s.drop q)) (fun _ k => s.length - (intOf k).toNat)
          case atStart => exact ⟨i, 0, 0, rfl, by decide, by omega, rfl, rfl, by decide, rfl, by simp⟩
          case round =>
            obtain ⟨q, j, m, hqj, hj6, hql, rfl, rfl, hm, hv, hdg⟩ := hrel
            have hm6 := pow_small6 hm hj6
            have HV := Lib.hid hv
            have HDG := Lib.hid hdg
            have HM := Lib.hid hm
            have HQJ := Lib.hid hqj
            clear hv hdg hm hqj
            by_cases hlt : q < s.length
            · cases hdd : isDig s[q]
              · have hstop : s.length ≤ q ∨ 6 ≤ j ∨ ∃ h : q < s.length, isDig s[q] = false := .inr (.inr ⟨hlt, hdd⟩)
                have HDD := Lib.hid (fun w3 => spec_l1Digit s[q] w3)
                rw [hdd] at HDD
                clear hdd
                have HJ : Hid (dgs 6 (s.drop i) = j) := by show _ = _; rw [HDG.out, dgs_stop hstop]; rfl
                have HNN : Hid (O = if j = 0 then none else some (.mk 3 (m : Int) [] [] [], s.drop q)) := by
                  show _ = _
                  rw [HNM.out]
                  unfold numAt
                  rw [HJ.out, List.drop_drop, ← HV.out, HQJ.out]
                  by_cases hj0 : j = 0
                  · rw [if_pos hj0, if_pos hj0]; rfl
                  · rw [if_neg hj0, if_neg hj0]; rfl
                clear hstop HJ HDG HV HM
                go_wp2_with (go_at_call 68; refine (HDD.out _).mono ?_; rintro e w' ⟨rfl, rfl⟩)
                go_meet
                case rel => exact ⟨q, j, m, HQJ.out, hql, rfl, rfl, hm6, HNN.out, rfl⟩
              · have HDD := Lib.hid (fun w3 => spec_l1Digit s[q] w3)
                rw [hdd] at HDD
                by_cases h6 : j < 6
                · have h6I : ((q : Int) < (i : Int) + 6) = True := eq_true (by have := HQJ.out; omega)
                  have HV2 := Lib.hid (val_step HQJ.out hlt)
                  have HDG2 := Lib.hid (dgs_hit hlt h6 hdd)
                  have hm5 := pow_small HM.out h6
                  have hc := hdd
                  simp only [isDig, Bool.and_eq_true, decide_eq_true_eq] at hc
                  obtain ⟨hc0, hc1⟩ := hc
                  clear hdd
                  generalize hcn : (s[q]).toNat = cn at *
                  go_wp2_with (go_at_call 68; refine (HDD.out _).mono ?_; rintro e w' ⟨rfl, rfl⟩)
                  go_round
                  case rel =>
                    have hm9 := pow_step (c := cn - 48) HM.out (by omega)
                    have hv9 : ((10 * m + (cn - 48) : Nat) : Int) = valD 0 ((s.drop i).take (j + 1)) := by rw [HV2.out, ← HV.out]; omega
                    exact ⟨q + 1, j + 1, 10 * m + (cn - 48), by have := HQJ.out; omega, by omega, by omega, by go_num, by go_num, hm9, hv9, by rw [HDG.out, HDG2.out]; omega⟩
                  case measure => simp [intOf]; omega
                · have hstop : s.length ≤ q ∨ 6 ≤ j ∨ ∃ h : q < s.length, isDig s[q] = false := .inr (.inl (by omega))
                  have h6I : ((q : Int) < (i : Int) + 6) = False := eq_false (by have := HQJ.out; omega)
                  clear hdd
                  have HJ : Hid (dgs 6 (s.drop i) = j) := by show _ = _; rw [HDG.out, dgs_stop hstop]; rfl
                  have HNN : Hid (O = if j = 0 then none else some (.mk 3 (m : Int) [] [] [], s.drop q)) := by
                    show _ = _
                    rw [HNM.out]
                    unfold numAt
                    rw [HJ.out, List.drop_drop, ← HV.out, HQJ.out]
                    by_cases hj0 : j = 0
                    · rw [if_pos hj0, if_pos hj0]; rfl
                    · rw [if_neg hj0, if_neg hj0]; rfl
                  clear hstop HJ HDG HV HM
                  go_wp2_with (go_at_call 68; refine (HDD.out _).mono ?_; rintro e w' ⟨rfl, rfl⟩)
                  go_meet
                  case rel => exact ⟨q, j, m, HQJ.out, hql, rfl, rfl, hm6, HNN.out, rfl⟩
            · have hstop : s.length ≤ q ∨ 6 ≤ j ∨ ∃ h : q < s.length, isDig s[q] = false := .inl (by omega)
              have HJ : Hid (dgs 6 (s.drop i) = j) := by show _ = _; rw [HDG.out, dgs_stop hstop]; rfl
              have HNN : Hid (O = if j = 0 then none else some (.mk 3 (m : Int) [] [] [], s.drop q)) := by
                show _ = _
                rw [HNM.out]
                unfold numAt
                rw [HJ.out, List.drop_drop, ← HV.out, HQJ.out]
                by_cases hj0 : j = 0
                · rw [if_pos hj0, if_pos hj0]; rfl
                · rw [if_neg hj0, if_neg hj0]; rfl
              clear hstop HJ HDG HV HM
              go_wp2
              go_meet
              case rel => exact ⟨q, j, m, HQJ.out, hql, rfl, rfl, hm6, HNN.out, rfl⟩
        case rest =>
          obtain ⟨q, j, m, hqj, hql, rfl, rfl, hm6, hnn, rfl⟩ := hcut
          have HNN := Lib.hid hnn
          have HQJ := Lib.hid hqj
          clear hnn hqj
          by_cases hj0 : j = 0
          · have HN : Hid (O = none) := by show _ = _; rw [HNN.out, if_pos hj0]
            have hjf : (q == i) = true := by have := HQJ.out; simp; omega
            clear HNN hj0
            go_wp2
            refine bodyPost_ret (v := .tuple #[ndV 0 0 [] none 0 0 none 0 0, .int .i64 (-1)]) (by simp [results, Tryd.results45, go_sem, *]) rfl ?_
            refine newRs_none w.heap.size (.int .i64 0) (.int .i64 0) (sv []) (.slice none 0 0) (.slice none 0 0) 0 0 [] (HB.out) (Nat.le_refl _) ?_
            exact HN.out
          · have HN : Hid (O = some (.mk 3 (m : Int) [] [] [], s.drop q)) := by show _ = _; rw [HNN.out, if_neg hj0]
            have hjf : (q == i) = false := by have := HQJ.out; simp; omega
            have hjg : (q = i) = False := eq_false (by have := HQJ.out; omega)
            have hiq : i < q := by have := HQJ.out; omega
            clear HNN hj0
            go_wp2
            refine bodyPost_ret (v := .tuple #[ndV 3 (m : Int) [] none 0 0 none 0 0, .int .i64 (q : Int)]) (by simp [results, Tryd.results45, go_sem, *]) rfl ?_
            exact newRs_some (raw := ⟨3, (m : Int), [], none, 0, 0, none, 0, 0⟩) (L := []) (x := .mk 3 (m : Int) [] [] []) (w' := wr) w.heap.size (.int .i64 3) (.int .i64 (m : Int)) (sv []) (.slice none 0 0) (.slice none 0 0) q (owT_flat _ _ _ _) List.nodup_nil (fun j hj => by cases hj) HB.out (Nat.le_refl _) hiq hql HN.out
end Go.Proofs.YtdmmnjnbjigdeaaDoor

/- How large a node is that is read: no larger than its text, in plain Lean. No program is walked here. -/
namespace Go.Proofs.YtdmmnjnbjigdeaaDoor
open Go.RowKit

theorem rdT_sz : ∀ (s acc : Tx) (p : Tx × Tx), rdT acc s = some p → p.1.length + p.2.length + 1 ≤ acc.length + s.length
  | [], acc, p, h => by simp [rdT] at h
  | [b], acc, p, h => by
    simp only [rdT] at h
    split at h
    · injection h with h; subst h; simp
    · cases h
  | b :: c :: u, acc, p, h => by
    simp only [rdT] at h
    split at h
    · injection h with h; subst h; simp; omega
    · split at h
      · have := rdT_sz u _ p h; simp at *; omega
      · have := rdT_sz (c :: u) _ p h; simp at *; omega
theorem rdQ_sz {s : Tx} {p : Tx × Tx} (h : rdQ s = some p) : p.1.length + p.2.length + 2 ≤ s.length := by
  cases s with
  | nil => simp [rdQ] at h
  | cons b t =>
    simp only [rdQ] at h
    split at h
    · have := rdT_sz t _ p h; simp at *; omega
    · cases h
theorem after_sz {b : UInt8} {s u : Tx} (h : after b s = some u) : u.length + 1 = s.length := by
  cases s with
  | nil => simp [after] at h
  | cons c t =>
    simp only [after] at h
    split at h
    · injection h with h; subst h; simp
    · cases h
theorem ssz_snoc (ns : List Tx) (x : Tx) : ssize (ns ++ [x]) = ssize ns + x.length := by
  induction ns with
  | nil => simp [ssize]
  | cons a r ih => simp only [List.cons_append, ssize, ih]; omega
theorem szs_snoc (xs : List Nd) (x : Nd) : Nd.sizes (xs ++ [x]) = Nd.sizes xs + Nd.size x := by
  induction xs with
  | nil => simp [Nd.sizes]
  | cons a r ih => simp only [List.cons_append, Nd.sizes, ih]; omega
theorem rdName_sz {rec : Bool} {ns ns' : List Tx} {s s' : Tx} (h : rdName rec ns s = some (ns', s')) : ns'.length + ssize ns' + s'.length ≤ ns.length + ssize ns + s.length := by
  cases rec with
  | false =>
    simp only [rdName] at h
    injection h with h
    injection h with h1 h2
    subst h1; subst h2
    exact Nat.le_refl _
  | true =>
    simp only [rdName, if_true] at h
    split at h
    · cases h
    · next nm r hq =>
      have h1 := rdQ_sz hq
      cases hc : after 58 r with
      | none => rw [hc] at h; cases h
      | some u =>
        rw [hc] at h
        injection h with h
        injection h with h2 h3
        subst h2; subst h3
        have h4 := after_sz hc
        rw [ssz_snoc]
        simp at *
        omega
def PSz (p : Tx → Option (Nd × Tx)) : Prop := ∀ s x r, p s = some (x, r) → Nd.size x + 1 + r.length ≤ s.length
theorem insI_sz {p : Tx → Option (Nd × Tx)} (hp : PSz p) (rec : Bool) : ∀ (f : Nat) (ns : List Tx) (xs : List Nd) (s : Tx) (y : Nd) (r : Tx), insI p rec f ns xs s = some (y, r) → Nd.size y + 1 + r.length ≤ ns.length + ssize ns + xs.length + Nd.sizes xs + s.length
  | 0, ns, xs, s, y, r, h => by simp [insI] at h
  | f + 1, ns, xs, s, y, r, h => by
    rw [insI] at h
    cases h1 : rdName rec ns s with
    | none => rw [h1] at h; cases h
    | some q =>
      obtain ⟨ns', s'⟩ := q
      rw [h1] at h
      simp only at h
      have g1 := rdName_sz h1
      cases h2 : p s' with
      | none => rw [h2] at h; cases h
      | some q2 =>
        obtain ⟨x, r2⟩ := q2
        rw [h2] at h
        simp only at h
        have g2 := hp s' x r2 h2
        cases h3 : after 44 r2 with
        | some u =>
          rw [h3] at h
          simp only at h
          have g3 := after_sz h3
          have := insI_sz hp rec f _ _ _ _ _ h
          rw [szs_snoc] at this
          simp at this
          omega
        | none =>
          rw [h3] at h
          simp only at h
          cases h4 : after (endB rec) r2 with
          | none => rw [h4] at h; cases h
          | some u =>
            rw [h4] at h
            injection h with h
            injection h with h5 h6
            subst h5; subst h6
            have g4 := after_sz h4
            simp only [Nd.size, List.length_append, List.length_cons, List.length_nil, szs_snoc]
            omega
theorem inI_sz {p : Tx → Option (Nd × Tx)} (hp : PSz p) (rec : Bool) {s : Tx} {y : Nd} {r : Tx} (h : inI p rec s = some (y, r)) : Nd.size y + 1 + r.length ≤ s.length := by
  unfold inI at h
  cases h1 : after (endB rec) s with
  | some u =>
    rw [h1] at h
    injection h with h
    injection h with h2 h3
    subst h2; subst h3
    have := after_sz h1
    simp [Nd.size, ssize, Nd.sizes]
    omega
  | none =>
    rw [h1] at h
    have := insI_sz hp rec 6 [] [] s y r h
    simpa [ssize, Nd.sizes] using this
theorem pre_len {s p : Tx} (h : Lib.hasPrefix s p = true) : p.length ≤ s.length := by
  unfold Lib.hasPrefix at h
  rw [List.isPrefixOf_iff_prefix] at h
  exact h.length_le
theorem word_sz {s p : Tx} {x y : Nd} {r : Tx} (m : Nat) (hs : Nd.size x = 0) (hp : 0 < m) (h1 : Lib.hasPrefix s p = true) (hm : m = p.length) (h : some (x, s.drop m) = some (y, r)) : Nd.size y + 1 + r.length ≤ s.length := by
  injection h with h
  injection h with h2 h3
  subst h2; subst h3
  have := pre_len h1
  simp only [List.length_drop]
  omega
theorem zero_size (k n : Int) : Nd.size (.mk k n [] [] []) = 0 := by simp [Nd.size, ssize, Nd.sizes]
theorem rdI_sz : ∀ (d : Nat), PSz (rdI d)
  | 0 => fun s x r h => by simp [rdI] at h
  | d + 1 => fun s x r h => by
    have ih := rdI_sz d
    unfold rdI at h
    split at h
    · next hc => exact word_sz 4 (zero_size _ _) (by decide) hc rfl h
    split at h
    · next hc => exact word_sz 4 (zero_size _ _) (by decide) hc rfl h
    split at h
    · next hc => exact word_sz 5 (zero_size _ _) (by decide) hc rfl h
    cases s with
    | nil => simp at h
    | cons b t =>
      simp only at h
      split at h
      · cases h1 : rdT [] t with
        | none => rw [h1] at h; cases h
        | some q =>
          rw [h1] at h
          injection h with h
          injection h with h2 h3
          subst h2; subst h3
          have := rdT_sz t [] q h1
          simp [Nd.size, ssize, Nd.sizes] at *
          omega
      split at h
      · have := inI_sz ih false h; simp; omega
      split at h
      · have := inI_sz ih true h; simp; omega
      · cases h1 : Lib.atoi ((b :: t).take (numEnd (b :: t))) with
        | none => rw [h1] at h; cases h
        | some n =>
          rw [h1] at h
          injection h with h
          injection h with h2 h3
          subst h2; subst h3
          have hpos : numEnd (b :: t) ≠ 0 := fun e => by
            rw [e] at h1
            revert h1
            simp [Lib.atoi]
          simp only [zero_size, List.length_drop, List.length_cons]
          omega
theorem insS_sz {p : Tx → Option (Nd × Tx)} (hp : PSz p) (rec : Bool) : ∀ (f : Nat) (ns : List Tx) (xs : List Nd) (s : Tx) (y : Nd) (r : Tx), insS p rec f ns xs s = some (y, r) → Nd.size y + 1 + r.length ≤ ns.length + ssize ns + xs.length + Nd.sizes xs + s.length
  | 0, ns, xs, s, y, r, h => by simp [insS] at h
  | f + 1, ns, xs, s, y, r, h => by
    rw [insS] at h
    cases h0 : after (endB rec) s with
    | some u =>
      rw [h0] at h
      injection h with h
      injection h with h5 h6
      subst h5; subst h6
      have g4 := after_sz h0
      simp only [Nd.size, List.length_nil]
      omega
    | none =>
      rw [h0] at h
      simp only at h
      have hs1 : ∀ s1, (if xs.length = 0 then (if s = [] then none else some s) else after 44 s) = some s1 → s1.length ≤ s.length := by
        intro s1 e
        split at e
        · split at e
          · cases e
          · injection e with e; subst e; exact Nat.le_refl _
        · have := after_sz e; omega
      cases hs : (if xs.length = 0 then (if s = [] then none else some s) else after 44 s) with
      | none => rw [hs] at h; cases h
      | some s1 =>
        have g0 := hs1 s1 hs
        rw [hs] at h
        simp only at h
        cases h1 : rdName rec ns s1 with
        | none => rw [h1] at h; cases h
        | some q =>
          obtain ⟨ns', s'⟩ := q
          rw [h1] at h
          simp only at h
          have g1 := rdName_sz h1
          cases h2 : p s' with
          | none => rw [h2] at h; cases h
          | some q2 =>
            obtain ⟨x, r2⟩ := q2
            rw [h2] at h
            simp only at h
            have g2 := hp s' x r2 h2
            split at h
            · cases h
            · have := insS_sz hp rec f _ _ _ _ _ h
              rw [szs_snoc] at this
              simp at this
              omega
theorem dgs_len : ∀ (k : Nat) (s : Tx), dgs k s ≤ s.length
  | 0, s => by simp [dgs]
  | k + 1, [] => by simp [dgs]
  | k + 1, b :: t => by
    simp only [dgs]
    split
    · have := dgs_len k t; simp; omega
    · simp
theorem rdS_sz : ∀ (d : Nat), PSz (rdS d)
  | 0 => fun s x r h => by simp [rdS] at h
  | d + 1 => fun s x r h => by
    have ih := rdS_sz d
    unfold rdS at h
    split at h
    · next hc => exact word_sz 4 (zero_size _ _) (by decide) hc rfl h
    split at h
    · next hc => exact word_sz 5 (zero_size _ _) (by decide) hc rfl h
    split at h
    · next hc => exact word_sz 4 (zero_size _ _) (by decide) hc rfl h
    cases s with
    | nil => simp at h
    | cons b t =>
      simp only at h
      split at h
      · cases h1 : rdT [] t with
        | none => rw [h1] at h; cases h
        | some q =>
          rw [h1] at h
          injection h with h
          injection h with h2 h3
          subst h2; subst h3
          have := rdT_sz t [] q h1
          simp [Nd.size, ssize, Nd.sizes] at *
          omega
      split at h
      · have := insS_sz ih false 7 [] [] t x r h; simp [ssize, Nd.sizes] at *; omega
      split at h
      · have := insS_sz ih true 7 [] [] t x r h; simp [ssize, Nd.sizes] at *; omega
      · cases h1 : numS (b :: t) with
        | none => rw [h1] at h; cases h
        | some q =>
          rw [h1] at h
          injection h with h
          injection h with h2 h3
          subst h2; subst h3
          rw [zero_size]
          simp only [numS] at h1
          split at h1
          · split at h1
            · cases h1
            · injection h1 with h1; subst h1
              simp only [List.length_drop, List.length_cons]; omega
          · split at h1
            · cases h1
            · next h0 =>
              injection h1 with h1; subst h1
              have := dgs_len 6 (b :: t)
              simp only [List.length_drop, List.length_cons] at *; omega
end Go.Proofs.YtdmmnjnbjigdeaaDoor

/- ReadNode of impl: a walk. -/
namespace Go.Proofs.YtdmmnjnbjigdeaaDoor
open Go.RowKit

def zeroNd : Nd := .mk 0 0 [] [] []
/-- a node of the call's own and whether there is one -/
def NewTB (w : World) (o : Option Nd) (e : Ending) (w' : World) : Prop :=
  ∃ (r : Raw) (L : List Nat), e = .returned (.tuple #[r.v, .bool o.isSome]) ∧ OwT w' (o.getD zeroNd) r L ∧ L.Nodup ∧ (∀ b ∈ L, w.heap.size ≤ b) ∧ Below w.heap.size w w'
theorem newTB_none {w w' : World} {o : Option Nd} (b : Nat) (v0 v1 v2 v3 v4 : Value) (hb : Below w.heap.size w w') (hbl : w.heap.size ≤ b) (hs : o = none) :
    NewTB w o (.returned (.tuple #[ndV 0 0 [] none 0 0 none 0 0, .bool false])) (put5 w' b v0 v1 v2 v3 v4) := by
  subst hs
  exact ⟨⟨0, 0, [], none, 0, 0, none, 0, 0⟩, [], rfl, owT_flat _ 0 0 [], List.nodup_nil, fun j hj => (by cases hj), put5_below hb b _ _ _ _ _ hbl⟩
theorem newTB_some {w w' : World} {o : Option Nd} {x : Nd} {raw : Raw} {L : List Nat} (b : Nat) (v0 v1 v2 v3 v4 : Value) (ho : OwT w' x raw L) (hn : L.Nodup) (hL : ∀ j ∈ L, w.heap.size ≤ j ∧ j ≠ b) (hb : Below w.heap.size w w') (hbl : w.heap.size ≤ b) (hs : o = some x) :
    NewTB w o (.returned (.tuple #[raw.v, .bool true])) (put5 w' b v0 v1 v2 v3 v4) := by
  subst hs
  exact ⟨raw, L, rfl, OwT.keep _ _ _ ho (fun j hj => put5_heap _ _ _ _ _ _ _ _ (hL j hj).2), hn, fun j hj => (hL j hj).1, put5_below hb b _ _ _ _ _ hbl⟩
/-- the reader of the program, by its contract -/
theorem rdC : ∀ (d : Nat), d ≤ 11 → RdC d
  | 0, _ => fun s w _ _ _ => impl_readNode0 s w
  | d + 1, h => fun s w hl hE hR => impl_readNode1 d (rdC d (by omega)) (by omega) s w hl hE hR
set_option maxRecDepth 100000 in
set_option maxHeartbeats 4000000 in
theorem impl_ReadNode0 (s : Tx) (w : World) (hl : s.length ≤ 4000000) (hsz : ∀ x r, rdI 4 s = some (x, r) → Nd.size x ≤ 1048576) (hE : Env w) (hR : ErrIs w) : Calls Tryd.prog 20 #[sv s] w (NewTB w (readNode s)) := by
  have hX0 := heap_alloc_new w (.cells #[.int .i64 0, .int .i64 0, .string ⟨#[]⟩, .slice none 0 0, .slice none 0 0] 26)
  have hb := (Below.refl w.heap.size w).alloc (Nat.le_refl _) (.cells #[.int .i64 0, .int .i64 0, .string ⟨#[]⟩, .slice none 0 0, .slice none 0 0] 26)
  have HCALL := Lib.hid (rdC 4 (by decide) s _ (by omega) (hE.below hb) (hR.below hb))
  have HE := Lib.hid (hE.below hb)
  have HX0 := Lib.hid hX0
  have HB0 := Lib.hid hb
  have hs0 : w.heap.size < (w.alloc (.cells #[.int .i64 0, .int .i64 0, .string ⟨#[]⟩, .slice none 0 0, .slice none 0 0] 26)).heap.size := by simp
  have HRN : Hid (readNode s = match rdI 4 s with | none => none | some (x, r) => if r == [] && (Nd.valid x && Nd.wr x == s) then some x else none) := rfl
  have HSZ : Hid (∀ x r, rdI 4 s = some (x, r) → Nd.size x ≤ 1048576) := hsz
  clear hsz
  generalize readNode s = o0 at *
  generalize rdI 4 s = o at *
  clear hX0 hb hE hR
  go_enter Tryd.func20, Tryd.ntmps20
  go_wp2_with fail
  generalize w.alloc (.cells #[.int .i64 0, .int .i64 0, .string ⟨#[]⟩, .slice none 0 0, .slice none 0 0] 26) = w0 at *
  refine HCALL.out.mono ?_
  rintro e w1 ⟨raw, L, x, r, rfl, ho1, hn1, hL1, hb1, hlr, hso⟩
  obtain ⟨rk, rn, rt, rAn, rln, rcn, rAi, rli, rci⟩ := raw
  have HA := Lib.hid ((Below.refl w1.heap.size w1).alloc (Nat.le_refl _) (.cells (ndCells rk rn rt rAn rln rcn rAi rli rci) 26))
  have HX2 := Lib.hid (heap_alloc_new w1 (.cells (ndCells rk rn rt rAn rln rcn rAi rli rci) 26))
  have HO2 := Lib.hid (OwT.keep _ _ _ ho1 (fun b hb => HA.out.block b (OwT.lt _ _ _ ho1 b hb)))
  have HB02 := Lib.hid (hb1.trans (HA.out.mono hb1.size))
  have HB2 := Lib.hid (HB0.out.trans (HB02.out.mono HB0.out.size))
  have HZ2 := Lib.hid (bx_keep HX0.out HB02.out)
  have hz1 : w.heap.size < w1.heap.size := by have := hb1.size; omega
  have HL2 : Hid (∀ j ∈ L, w.heap.size < j ∧ j < w1.heap.size) := fun j hj => ⟨by have := hL1 j hj; omega, OwT.lt _ _ _ ho1 j hj⟩
  have HN1 := Lib.hid hn1
  have HE2 := Lib.hid (HE.out.below HB02.out)
  clear ho1 hn1 hL1 hb1 hlr HCALL
  go_upto_region 2 with fail
  generalize w1.alloc (.cells (ndCells rk rn rt rAn rln rcn rAi rli rci) 26) = w2 at *
  obtain ⟨⟨y0, y1, y2, y3, y4⟩, y5, y6, y7, y8, y9⟩ := box_five HZ2.out
  obtain ⟨⟨z0, z1, z2, z3, z4⟩, -⟩ := box_five HX2.out
  cases o with
  | none =>
    have HN : Hid (o0 = none) := HRN.out
    clear hso HSZ
    go_wp2
    refine bodyPost_ret (v := .tuple #[ndV 0 0 [] none 0 0 none 0 0, .bool false]) (by simp [results, Tryd.results20, go_sem, *]) rfl ?_
    exact newTB_none w.heap.size (.int .i64 0) (.int .i64 0) (sv []) (.slice none 0 0) (.slice none 0 0) (HB2.out) (Nat.le_refl _) HN.out
  | some q =>
    obtain ⟨rfl, rfl⟩ := hso q rfl
    have HR1 : Hid (o0 = if q.2 == [] && (Nd.valid q.1 && Nd.wr q.1 == s) then some q.1 else none) := HRN.out
    have hsz := HSZ.out q.1 q.2 rfl
    clear hso HSZ HRN
    by_cases hr0 : q.2 = []
    case neg =>
      have HN : Hid (o0 = none) := by show _ = _; rw [HR1.out]; simp [hr0]
      have hne : (q.2 == []) = false := by simpa using hr0
      clear hr0 HR1
      go_wp2
      refine bodyPost_ret (v := .tuple #[ndV 0 0 [] none 0 0 none 0 0, .bool false]) (by simp [results, Tryd.results20, go_sem, *]) rfl ?_
      exact newTB_none w.heap.size (.int .i64 0) (.int .i64 0) (sv []) (.slice none 0 0) (.slice none 0 0) (HB2.out) (Nat.le_refl _) HN.out
    have hne : (q.2 == []) = true := by simpa using hr0
    have HRV : Hid (o0 = if Nd.valid q.1 && Nd.wr q.1 == s then some q.1 else none) := by show _ = _; rw [HR1.out, hne]; rfl
    have HV := Lib.hid (impl_NodeValid q.1 _ _ (OwT.inN _ _ _ HO2.out (fun b hb => OwT.lt _ _ _ HO2.out b hb)) hsz)
    have HW := Lib.hid (fun (hv : Nd.valid q.1 = true) w2 (hb : Below _ _ w2) => impl_writeNode q.1 _ w2 ((OwT.inN _ _ _ HO2.out (fun b hb => OwT.lt _ _ _ HO2.out b hb)).now hb) ⟨4, valid_ok hv⟩ hsz (HE2.out.below hb))
    generalize Nd.valid q.1 = vd at *
    generalize Nd.wr q.1 = tx at *
    clear HR1
    rw [hr0]
    clear hr0 hne
    go_wp2_with fail
    refine HV.out.mono ?_
    rintro e w3 ⟨rfl, hb3⟩
    have HB3 := Lib.hid (HB2.out.trans (hb3.mono HB2.out.size))
    have HZ3 := Lib.hid (bx_keep HZ2.out hb3)
    have HX3 := Lib.hid (bx_keep HX2.out hb3)
    have HO3 := Lib.hid (OwT.keep _ _ _ HO2.out (fun b hb => hb3.block b (OwT.lt _ _ _ HO2.out b hb)))
    clear y0 y1 y2 y3 y4 y5 y6 y7 y8 y9 z0 z1 z2 z3 z4
    obtain ⟨⟨y0, y1, y2, y3, y4⟩, y5, y6, y7, y8, y9⟩ := box_five HZ3.out
    obtain ⟨⟨z0, z1, z2, z3, z4⟩, -⟩ := box_five HX3.out
    cases vd with
    | false =>
      have HN : Hid (o0 = none) := HRV.out
      clear hb3
      go_wp2
      refine bodyPost_ret (v := .tuple #[ndV 0 0 [] none 0 0 none 0 0, .bool false]) (by simp [results, Tryd.results20, go_sem, *]) rfl ?_
      exact newTB_none w.heap.size (.int .i64 0) (.int .i64 0) (sv []) (.slice none 0 0) (.slice none 0 0) (HB3.out) (Nat.le_refl _) HN.out
    | true =>
      have HWC := Lib.hid (HW.out rfl w3 hb3)
      have HRT : Hid (o0 = if tx == s then some q.1 else none) := by show _ = _; rw [HRV.out]; rfl
      clear hb3 HW HV HRV
      go_wp2_with fail
      refine HWC.out.mono ?_
      rintro e w4 ⟨rfl, hb4⟩
      have HB4 := Lib.hid (HB3.out.trans (hb4.mono HB3.out.size))
      have HZ4 := Lib.hid (bx_keep HZ3.out hb4)
      have HX4 := Lib.hid (bx_keep HX3.out hb4)
      have HO4 := Lib.hid (OwT.keep _ _ _ HO3.out (fun b hb => hb4.block b (OwT.lt _ _ _ HO3.out b hb)))
      clear y0 y1 y2 y3 y4 y5 y6 y7 y8 y9 z0 z1 z2 z3 z4 hb4
      obtain ⟨⟨y0, y1, y2, y3, y4⟩, y5, y6, y7, y8, y9⟩ := box_five HZ4.out
      obtain ⟨⟨z0, z1, z2, z3, z4⟩, -⟩ := box_five HX4.out
      cases heq : (tx == s)
      · have HN : Hid (o0 = none) := by show _ = _; rw [HRT.out, heq]; rfl
        go_wp2
        refine bodyPost_ret (v := .tuple #[ndV 0 0 [] none 0 0 none 0 0, .bool false]) (by simp [results, Tryd.results20, go_sem, *]) rfl ?_
        exact newTB_none w.heap.size (.int .i64 0) (.int .i64 0) (sv []) (.slice none 0 0) (.slice none 0 0) (HB4.out) (Nat.le_refl _) HN.out
      · have HN : Hid (o0 = some q.1) := by show _ = _; rw [HRT.out, heq]; rfl
        go_wp2
        refine bodyPost_ret (v := .tuple #[ndV rk rn rt rAn rln rcn rAi rli rci, .bool true]) (by simp [results, Tryd.results20, go_sem, *]) rfl ?_
        exact newTB_some (raw := ⟨rk, rn, rt, rAn, rln, rcn, rAi, rli, rci⟩) (L := L) (x := q.1) (w' := w4) w.heap.size (.int .i64 rk) (.int .i64 rn) (sv rt) (.slice rAn rln rcn) (.slice rAi rli rci) HO4.out HN1.out (fun j hj => by have := HL2.out j hj; omega) HB4.out (Nat.le_refl _) HN.out
theorem impl_ReadNode (s : Tx) (w : World) (hl : s.length ≤ 1048577) (hE : Env w) (hR : ErrIs w) : Calls Tryd.prog 20 #[sv s] w (NewTB w (readNode s)) :=
  impl_ReadNode0 s w (by omega) (fun x r h => by have := rdI_sz 4 s x r h; omega) hE hR
/-- a written node is read again -/
theorem impl_ReadNodeW (a : Nd) (w : World) (hv : Nd.valid a = true) (hs : Nd.size a ≤ 90000) (hE : Env w) (hR : ErrIs w) : Calls Tryd.prog 20 #[sv (Nd.wr a)] w (NewTB w (some a)) := by
  have h := impl_ReadNode0 (Nd.wr a) w (by have := Nd.wr_len a 4 (valid_ok hv); omega) (fun x r h => by
    have h2 := rdI_wr a 4 [] (valid_ok hv) noDig_nil
    rw [List.append_nil, h] at h2
    injection h2 with h2
    injection h2 with h2
    subst h2
    omega) hE hR
  rw [show readNode (Nd.wr a) = some a from readI_wr hv] at h
  exact h
end Go.Proofs.YtdmmnjnbjigdeaaDoor

/- ReadNode of spec: a walk. -/
namespace Go.Proofs.YtdmmnjnbjigdeaaDoor
open Go.RowKit

/-- the reader of the reference, by its contract -/
theorem rsC : ∀ (d : Nat), d ≤ 11 → RsC d
  | 0, _ => spec_read0
  | d + 1, h => fun s i w hl hi => spec_read1 d (rsC d (by omega)) (by omega) s i w hl hi
set_option maxRecDepth 100000 in
set_option maxHeartbeats 4000000 in
theorem spec_ReadNode0 (s : Tx) (w : World) (hl : s.length ≤ 4000000) (hsz : ∀ x r, rdS 4 s = some (x, r) → Nd.size x ≤ 1048576) (hE : Env w) : Calls Tryd.prog 22 #[sv s] w (NewTB w (readNode s)) := by
  have hX0 := heap_alloc_new w (.cells #[.int .i64 0, .int .i64 0, .string ⟨#[]⟩, .slice none 0 0, .slice none 0 0] 26)
  have hb := (Below.refl w.heap.size w).alloc (Nat.le_refl _) (.cells #[.int .i64 0, .int .i64 0, .string ⟨#[]⟩, .slice none 0 0, .slice none 0 0] 26)
  have HCALL := Lib.hid (rsC 4 (by decide) s 0 (w.alloc (.cells #[.int .i64 0, .int .i64 0, .string ⟨#[]⟩, .slice none 0 0, .slice none 0 0] 26)) (by omega) (Nat.zero_le _))
  rw [List.drop_zero] at HCALL
  have HE := Lib.hid (hE.below hb)
  have HX0 := Lib.hid hX0
  have HB0 := Lib.hid hb
  have hs0 : w.heap.size < (w.alloc (.cells #[.int .i64 0, .int .i64 0, .string ⟨#[]⟩, .slice none 0 0, .slice none 0 0] 26)).heap.size := by simp
  have HRN : Hid (readNode s = match rdS 4 s with | none => none | some (x, r) => if r == [] && (Nd.valid x && Nd.wr x == s) then some x else none) := (readS_eq s).symm
  have HSZ : Hid (∀ x r, rdS 4 s = some (x, r) → Nd.size x ≤ 1048576) := hsz
  clear hsz
  generalize readNode s = o0 at *
  generalize rdS 4 s = o at *
  clear hX0 hb hE
  go_enter Tryd.func22, Tryd.ntmps22
  go_wp2_with fail
  generalize w.alloc (.cells #[.int .i64 0, .int .i64 0, .string ⟨#[]⟩, .slice none 0 0, .slice none 0 0] 26) = w0 at *
  refine HCALL.out.mono ?_
  rintro e w1 ⟨raw, L, x, nx, rfl, ho1, hn1, hL1, hb1, hno, hso⟩
  obtain ⟨rk, rn, rt, rAn, rln, rcn, rAi, rli, rci⟩ := raw
  have HA := Lib.hid ((Below.refl w1.heap.size w1).alloc (Nat.le_refl _) (.cells (ndCells rk rn rt rAn rln rcn rAi rli rci) 26))
  have HX2 := Lib.hid (heap_alloc_new w1 (.cells (ndCells rk rn rt rAn rln rcn rAi rli rci) 26))
  have HO2 := Lib.hid (OwT.keep _ _ _ ho1 (fun b hb => HA.out.block b (OwT.lt _ _ _ ho1 b hb)))
  have HB02 := Lib.hid (hb1.trans (HA.out.mono hb1.size))
  have HB2 := Lib.hid (HB0.out.trans (HB02.out.mono HB0.out.size))
  have HZ2 := Lib.hid (bx_keep HX0.out HB02.out)
  have hz1 : w.heap.size < w1.heap.size := by have := hb1.size; omega
  have HL2 : Hid (∀ j ∈ L, w.heap.size < j ∧ j < w1.heap.size) := fun j hj => ⟨by have := hL1 j hj; omega, OwT.lt _ _ _ ho1 j hj⟩
  have HN1 := Lib.hid hn1
  have HE2 := Lib.hid (HE.out.below HB02.out)
  clear ho1 hn1 hL1 hb1 HCALL
  go_upto_region 2 with fail
  generalize w1.alloc (.cells (ndCells rk rn rt rAn rln rcn rAi rli rci) 26) = w2 at *
  obtain ⟨⟨y0, y1, y2, y3, y4⟩, y5, y6, y7, y8, y9⟩ := box_five HZ2.out
  obtain ⟨⟨z0, z1, z2, z3, z4⟩, -⟩ := box_five HX2.out
  cases o with
  | none =>
    have HN : Hid (o0 = none) := HRN.out
    obtain rfl := hno rfl
    have hnl : ((-1 : Int) != (s.length : Int)) = true := by simp
    clear hso HSZ hno
    go_wp2
    refine bodyPost_ret (v := .tuple #[ndV 0 0 [] none 0 0 none 0 0, .bool false]) (by simp [results, Tryd.results22, go_sem, *]) rfl ?_
    exact newTB_none w.heap.size (.int .i64 0) (.int .i64 0) (sv []) (.slice none 0 0) (.slice none 0 0) (HB2.out) (Nat.le_refl _) HN.out
  | some q =>
    obtain ⟨rfl, k, hk0, hks, rfl, hqd⟩ := hso q rfl
    have HR1 : Hid (o0 = if q.2 == [] && (Nd.valid q.1 && Nd.wr q.1 == s) then some q.1 else none) := HRN.out
    have hsz := HSZ.out q.1 q.2 rfl
    clear hso HSZ HRN hno
    by_cases hr0 : q.2 = []
    case neg =>
      have HN : Hid (o0 = none) := by show _ = _; rw [HR1.out]; simp [hr0]
      have hkn : k ≠ s.length := fun e => hr0 (by rw [hqd, e]; simp)
      have hkb : (k == s.length) = false := by simpa using hkn
      have hkp : (k = s.length) = False := eq_false hkn
      clear hr0 HR1 hqd
      go_wp2
      refine bodyPost_ret (v := .tuple #[ndV 0 0 [] none 0 0 none 0 0, .bool false]) (by simp [results, Tryd.results22, go_sem, *]) rfl ?_
      exact newTB_none w.heap.size (.int .i64 0) (.int .i64 0) (sv []) (.slice none 0 0) (.slice none 0 0) (HB2.out) (Nat.le_refl _) HN.out
    have hne : (q.2 == []) = true := by simpa using hr0
    have hke : k = s.length := by
      have := congrArg List.length hqd
      rw [hr0, List.length_drop] at this
      simp at this
      omega
    subst hke
    have HRV : Hid (o0 = if Nd.valid q.1 && Nd.wr q.1 == s then some q.1 else none) := by show _ = _; rw [HR1.out, hne]; rfl
    have HV := Lib.hid (spec_NodeValid q.1 _ _ (OwT.inN _ _ _ HO2.out (fun b hb => OwT.lt _ _ _ HO2.out b hb)) hsz)
    have HW := Lib.hid (fun (hv : Nd.valid q.1 = true) w2 (hb : Below _ _ w2) => spec_l26Text q.1 _ w2 ((OwT.inN _ _ _ HO2.out (fun b hb => OwT.lt _ _ _ HO2.out b hb)).now hb) ⟨4, valid_ok hv⟩ hsz (HE2.out.below hb))
    generalize Nd.valid q.1 = vd at *
    generalize Nd.wr q.1 = tx at *
    clear HR1 hr0 hne hqd
    go_wp2_with fail
    refine HV.out.mono ?_
    rintro e w3 ⟨rfl, hb3⟩
    have HB3 := Lib.hid (HB2.out.trans (hb3.mono HB2.out.size))
    have HZ3 := Lib.hid (bx_keep HZ2.out hb3)
    have HX3 := Lib.hid (bx_keep HX2.out hb3)
    have HO3 := Lib.hid (OwT.keep _ _ _ HO2.out (fun b hb => hb3.block b (OwT.lt _ _ _ HO2.out b hb)))
    clear y0 y1 y2 y3 y4 y5 y6 y7 y8 y9 z0 z1 z2 z3 z4
    obtain ⟨⟨y0, y1, y2, y3, y4⟩, y5, y6, y7, y8, y9⟩ := box_five HZ3.out
    obtain ⟨⟨z0, z1, z2, z3, z4⟩, -⟩ := box_five HX3.out
    cases vd with
    | false =>
      have HN : Hid (o0 = none) := HRV.out
      clear hb3
      go_wp2
      refine bodyPost_ret (v := .tuple #[ndV 0 0 [] none 0 0 none 0 0, .bool false]) (by simp [results, Tryd.results22, go_sem, *]) rfl ?_
      exact newTB_none w.heap.size (.int .i64 0) (.int .i64 0) (sv []) (.slice none 0 0) (.slice none 0 0) (HB3.out) (Nat.le_refl _) HN.out
    | true =>
      have HWC := Lib.hid (HW.out rfl w3 hb3)
      have HRT : Hid (o0 = if tx == s then some q.1 else none) := by show _ = _; rw [HRV.out]; rfl
      clear hb3 HW HV HRV
      go_wp2_with fail
      refine HWC.out.mono ?_
      rintro e w4 ⟨rfl, hb4⟩
      have HB4 := Lib.hid (HB3.out.trans (hb4.mono HB3.out.size))
      have HZ4 := Lib.hid (bx_keep HZ3.out hb4)
      have HX4 := Lib.hid (bx_keep HX3.out hb4)
      have HO4 := Lib.hid (OwT.keep _ _ _ HO3.out (fun b hb => hb4.block b (OwT.lt _ _ _ HO3.out b hb)))
      clear y0 y1 y2 y3 y4 y5 y6 y7 y8 y9 z0 z1 z2 z3 z4 hb4
      obtain ⟨⟨y0, y1, y2, y3, y4⟩, y5, y6, y7, y8, y9⟩ := box_five HZ4.out
      obtain ⟨⟨z0, z1, z2, z3, z4⟩, -⟩ := box_five HX4.out
      cases heq : (tx == s)
      · have HN : Hid (o0 = none) := by show _ = _; rw [HRT.out, heq]; rfl
        go_wp2
        refine bodyPost_ret (v := .tuple #[ndV 0 0 [] none 0 0 none 0 0, .bool false]) (by simp [results, Tryd.results22, go_sem, *]) rfl ?_
        exact newTB_none w.heap.size (.int .i64 0) (.int .i64 0) (sv []) (.slice none 0 0) (.slice none 0 0) (HB4.out) (Nat.le_refl _) HN.out
      · have HN : Hid (o0 = some q.1) := by show _ = _; rw [HRT.out, heq]; rfl
        go_wp2
        refine bodyPost_ret (v := .tuple #[ndV rk rn rt rAn rln rcn rAi rli rci, .bool true]) (by simp [results, Tryd.results22, go_sem, *]) rfl ?_
        exact newTB_some (raw := ⟨rk, rn, rt, rAn, rln, rcn, rAi, rli, rci⟩) (L := L) (x := q.1) (w' := w4) w.heap.size (.int .i64 rk) (.int .i64 rn) (sv rt) (.slice rAn rln rcn) (.slice rAi rli rci) HO4.out HN1.out (fun j hj => by have := HL2.out j hj; omega) HB4.out (Nat.le_refl _) HN.out
theorem spec_ReadNode (s : Tx) (w : World) (hl : s.length ≤ 1048577) (hE : Env w) : Calls Tryd.prog 22 #[sv s] w (NewTB w (readNode s)) :=
  spec_ReadNode0 s w (by omega) (fun x r h => by have := rdS_sz 4 s x r h; omega) hE
end Go.Proofs.YtdmmnjnbjigdeaaDoor

/- What the cards of this seat are closed by. -/
namespace Go.Proofs.YtdmmnjnbjigdeaaDoor
end Go.Proofs.YtdmmnjnbjigdeaaDoor
namespace Go
variable {H : Type} {enc : TypeId × Value → H}
/-- a card's wrap with the world's shape kept for the contract -/
theorem returnsInHanded_of_change_and_shaped {a : Assume} {C : Checked} {os : Os} {f : FuncId} {fn : Func} {s : ChangeSpec} {conds : List PathCond} {apart fresh handsOn again : Bool} {X : World → Array Value → Prop}
    (hX : ∀ (w w' : World) (args : Array Value), w.heap = w'.heap → X w args → X w' args)
    (own : ownKnob C.prog.godebug = none) (started : os.Started) (noInit : C.prog.inits.idxOf? f = none) (hfn : C.prog.funcs[f]? = some fn)
    (witness : ∃ (w : World) (tape : Tape) (i : Input), w.os = os ∧ (w.forCall tape i).Shaped C.prog ∧ i.vars = [] ∧ Input.okWide C.prog (w.forCall tape i) .any w.heap.size f i ∧
      ((s.pre enc C.prog fn conds apart (w.forCall tape i).memory i.args ∧ X (w.forCall tape i).memory i.args) ∧ sizedMet enc C.prog fn (OpenSpec.ofChange s) apart (w.forCall tape i).memory i.args) ∧ a.holds C.prog (lone (Frame.enter C.prog f i.args .normal) [] (w.forCall tape i)))
    (contract : ∀ (W : World) (base : Nat) (args : Array Value) (ds gs : List (DataW H)) (before : List MemPlace),
      (∀ (j : Nat) t v, fn.params[j]? = some t → args[j]? = some v → Value.okWide C.prog W .any base t v) →
      DataW.Whole enc C.prog fn.params.toList s.vars apart W args.toList ds gs before →
      conds.all (PathCond.test C.prog ⟨fn.params.toList, ds, s.plain.varTypes C.prog, gs⟩) = true →
      (DataW.weightsEach C.prog (fn.params.toList ++ s.plain.varTypes C.prog) (ds ++ gs)).all (· ≤ reachBytes) = true → X W args →
      W.ShapedOpen C.prog →
      a.holds C.prog (lone (Frame.enter C.prog f args .normal) [] W) →
      Calls C.prog f args W fun e W' => ∃ v, e = .returned v ∧ s.post enc C.prog fn apart fresh handsOn again W args v W') :
    ReturnsInHanded a C os f .any (fun w args => (s.pre enc C.prog fn conds apart w args ∧ X w args) ∧ sizedMet enc C.prog fn (OpenSpec.ofChange s) apart w args) (s.post enc C.prog fn apart fresh handsOn again) := by
  refine returnsInHanded_of_calls own started noInit witness ?_
  intro w tape i _ hsh _ hok hpre hholds
  obtain ⟨_, _, _, fn', hfn', _, _, _, _, hval⟩ := hok
  have e : fn' = fn := Option.some.inj (hfn'.symm.trans hfn)
  subst e
  obtain ⟨⟨⟨ds, gs, before, hw, hc⟩, hx⟩, hz⟩ := hpre
  have hw' := DataW.Whole.of_heap (w' := w.forCall tape i) (by rfl) hw
  refine (contract (w.forCall tape i) w.heap.size i.args ds gs before hval hw' hc (hz.weights hw) (hX _ _ _ (by rfl) hx) hsh hholds).mono fun e W' ⟨v, he, hp⟩ => ?_
  subst he
  exact ChangeSpec.post_blind hp
end Go

/- Nodes in the laws: conversion, in rows of its own: walks. -/
namespace Go.Proofs.YtdmmnjnbjigdeaaDoor
open Go.RowKit

def ToT (x : Nd) : Prop := ∀ (u : Value) (w : World), InN w (All w) x u → Nd.size x ≤ 1048576 → Calls Tryd.prog 16 #[u] w (NewT w x)
theorem list_five {cs : List Value} {rs : List Raw} (hl : cs.length = rs.length * 5) (h : ∀ q (hq : q < rs.length), ∀ i, i < 5 → cs[q * 5 + i]? = (rs[q]).cs[i]?) : cs = rcells rs := by
  apply List.ext_getElem?
  intro i
  by_cases hi : i < rs.length * 5
  · have hq : i / 5 < rs.length := by omega
    have h1 := h (i / 5) hq (i % 5) (Nat.mod_lt _ (by omega))
    rw [show i / 5 * 5 + i % 5 = i by omega] at h1
    have h2 := rcells_get rs (i / 5) (rs[i / 5]) (i % 5) (List.getElem?_eq_getElem hq) (Nat.mod_lt _ (by omega))
    rw [show i / 5 * 5 + i % 5 = i by omega] at h2
    rw [h1, h2]
  · rw [List.getElem?_eq_none (by omega), List.getElem?_eq_none (by rw [rcells_length]; omega)]
theorem ownN_made {w : World} {base g n : Nat} {cs : Array Value} {rs : List Raw} (hb : base ≤ g) (hg : w.heap[g]? = some (.cells cs 26 (0, 0))) (hcs : cs.size = n * 5) (hn : rs.length = n) (hm : n ≤ maxLen) (h : ∀ q (hq : q < rs.length), AtC cs (q * 5) (rs[q]).v) : OwnN w base (some ⟨g, 0, none⟩) n rs := by
  have he : cs.toList = rcells rs := by
    refine list_five (by rw [Array.length_toList, hcs, hn]) fun q hq i hi => ?_
    obtain ⟨c0, c1, c2, c3, c4, e, h0, h1, h2, h3, h4⟩ := h q hq
    injection e with e
    simp only [Array.mk.injEq, List.cons.injEq, and_true] at e
    obtain ⟨rfl, rfl, rfl, rfl, rfl⟩ := e
    rw [Array.getElem?_toList]
    match i, hi with
    | 0, _ => exact h0
    | 1, _ => exact h1
    | 2, _ => exact h2
    | 3, _ => exact h3
    | 4, _ => exact h4
  subst hn
  refine ⟨rcells_length rs, .inr ⟨g, rs.length, cs, rfl, hb, hg, Nat.le_refl _, hm, hcs, ?_⟩⟩
  rw [he, List.take_of_length_le (by rw [rcells_length]; exact Nat.le_refl _)]
set_option maxRecDepth 100000 in
set_option maxHeartbeats 4000000 in
theorem laws_toNodeST (xs : List Nd) (hE : ∀ x ∈ xs, ToT x) (A : Option Addr) (c : Nat) (w : World) (hx : RdN w (All w) A xs) (hn : xs.length + Nd.sizes xs ≤ 1048576) :
    Calls Tryd.prog 37 #[.slice A xs.length c] w fun e w' => ∃ A' rs L, e = .returned (.slice A' xs.length xs.length) ∧ OwnN w' w.heap.size A' xs.length rs ∧ OwTs w' xs rs L ∧ (bk A' xs.length xs.length ++ L).Nodup ∧ (∀ b ∈ bk A' xs.length xs.length ++ L, w.heap.size ≤ b) ∧ Below w.heap.size w w' := by
  have HE0 := Lib.hid hE
  have HX := Lib.hid hx
  have HSZ := Lib.hid hn
  have hxl : xs.length ≤ 1048576 := by omega
  obtain ⟨i0, hi, hz0, hz1, hz2⟩ := info_parts Tryd.info_Node
  have hmk := fun w => make_row (P := Tryd.prog) Tryd.underlying24 hi hz0 hz1 hz2 xs.length (by omega) (by omega) w
  have hsz : (madeCells (Value.agg zeroN).cells (xs.length * 5)).size = xs.length * 5 := size_madeCells _ _
  generalize hM : madeCells (Value.agg zeroN).cells (xs.length * 5) = M at *
  clear hM hi hz0 hz1 hz2 hE hx hn
  have HMS := Lib.hid hsz
  clear hsz
  go_enter Tryd.func37, Tryd.ntmps37
  go_wp2
  go_loopw [4] (fun i wr => ∃ (j : Nat) (cs : Array Value) (rs : List Raw) (L : List Nat), j ≤ xs.length ∧ i = .int .i64 j ∧ wr.heap[w.heap.size]? = some (.cells cs 26 (0, 0)) ∧ cs.size = xs.length * 5 ∧ rs.length = j ∧ (∀ q (hq : q < rs.length), AtC cs (q * 5) (rs[q]).v) ∧ OwTs wr (xs.take j) rs L ∧ L.Nodup ∧ (∀ b ∈ L, w.heap.size < b) ∧ Below w.heap.size w wr) (fun i _ => xs.length - (intOf i).toNat)
  case atStart => exact ⟨0, M, [], [], Nat.zero_le _, rfl, heap_alloc_new w _, HMS.out, rfl, fun q hq => (by simp at hq), by simp [OwTs], List.nodup_nil, fun b hb => (by cases hb), (Below.refl _ _).alloc (Nat.le_refl _) _⟩
  case round =>
    obtain ⟨j, cs, rs, L, hj, rfl, hg, hcs, hrl, hdone, htd, hnd, hrg, hb⟩ := hrel
    have HB := Lib.hid hb
    have HG := Lib.hid hg
    have HD := Lib.hid hdone
    have HCS := Lib.hid hcs
    have HTD := Lib.hid htd
    have HND := Lib.hid hnd
    have HRG := Lib.hid hrg
    have hgs : w.heap.size < wr.heap.size := lt_of_block hg
    clear hb hg hdone hcs htd hnd hrg
    by_cases hlt : j < xs.length
    · obtain ⟨b1, o1, hA1, hb1, kd, nn, tt, An1, ln1, cn1, Ai1, li1, ci1, hin, c0, c1, c2, c3, c4⟩ := (HX.out.now HB.out).at hlt
      have hsj : Nd.size xs[j] ≤ 1048576 := by have := Nd.size_mem (List.getElem_mem hlt); have := HSZ.out; omega
      have HCALL := Lib.hid (HE0.out xs[j] (List.getElem_mem hlt) _ wr hin hsj)
      have HTK := Lib.hid (take_snoc xs j hlt)
      clear hin hsj
      subst hA1
      go_wp2_with fail
      refine HCALL.out.mono ?_
      rintro e w2 ⟨⟨k2, n2, t2, An2, ln2, cn2, Ai2, li2, ci2⟩, La, rfl, ho2, hn2, hr2, hb⟩
      have HB2 := Lib.hid (HB.out.trans (hb.mono HB.out.size))
      have hg2 := bx_keep HG.out hb
      have HG2 := Lib.hid hg2
      have hs := HCS.out
      obtain ⟨r0, p0, q0⟩ := cell_some (o := j * 5) hg2 (by omega)
      obtain ⟨r1, p1, q1⟩ := cell_some (o := j * 5 + 1) hg2 (by omega)
      obtain ⟨r2, p2, q2⟩ := cell_some (o := j * 5 + 2) hg2 (by omega)
      obtain ⟨r3, p3, q3⟩ := cell_some (o := j * 5 + 3) hg2 (by omega)
      obtain ⟨r4, p4, q4⟩ := cell_some (o := j * 5 + 4) hg2 (by omega)
      have HTD2 := Lib.hid ((HTD.out.keep (w' := w2) (fun b h => hb.block b (HTD.out.lt b h))).snoc ho2)
      have HND2 : Hid ((L ++ La).Nodup) := by
        show List.Nodup _
        rw [List.nodup_append]
        exact ⟨HND.out, hn2, fun a ha b hb e => by have := HTD.out.lt a ha; have := hr2 b hb; omega⟩
      have HRG2 : Hid (∀ b ∈ L ++ La, w.heap.size < b) := fun b hb => by
        rcases List.mem_append.1 hb with hb | hb
        · exact HRG.out b hb
        · have := hr2 b hb; omega
      clear hb ho2 hn2 hr2 hg2 hs
      go_wp2
      go_roundw
      case rel =>
        refine ⟨j + 1, set5 cs (j * 5) (.int .i64 k2) (.int .i64 n2) (sv t2) (.slice An2 ln2 cn2) (.slice Ai2 li2 ci2), rs ++ [⟨k2, n2, t2, An2, ln2, cn2, Ai2, li2, ci2⟩], L ++ La, by omega, by go_num, cells_set (cells_set (cells_set (cells_set (cells_set HG2.out)))), set5_size.trans HCS.out, by simp [hrl], ?_, ?_, HND2.out, HRG2.out, Below.setCell (Below.setCell (Below.setCell (Below.setCell (Below.setCell HB2.out (Nat.le_refl _) _) (Nat.le_refl _) _) (Nat.le_refl _) _) (Nat.le_refl _) _) (Nat.le_refl _) _⟩
        · intro q hq
          by_cases hqe : q < rs.length
          · rw [List.getElem_append_left hqe]
            exact set5_other (HD.out q hqe) (by omega)
          · have hqj : q = rs.length := by simp at hq; omega
            subst hqj
            rw [List.getElem_append_right (Nat.le_refl _)]
            simp only [Nat.sub_self, List.getElem_cons_zero]
            rw [hrl]
            exact set5_at (by have := HCS.out; omega)
        · rw [HTK.out]
          refine HTD2.out.keep fun b hb => ?_
          have hb2 := HRG2.out b hb
          rw [Below.heap_setCell _ _ _ _ (by show b ≠ w.heap.size; omega), Below.heap_setCell _ _ _ _ (by show b ≠ w.heap.size; omega), Below.heap_setCell _ _ _ _ (by show b ≠ w.heap.size; omega), Below.heap_setCell _ _ _ _ (by show b ≠ w.heap.size; omega), Below.heap_setCell _ _ _ _ (by show b ≠ w.heap.size; omega)]
      case measure => simp [intOf]; omega
    · have hjx : xs.take j = xs := List.take_of_length_le (by omega)
      have HTD2 := HTD.out
      rw [hjx] at HTD2
      have HTD3 := Lib.hid HTD2
      clear HTD2 hjx
      go_wp2
      go_ret
      refine ⟨_, rs, L, rfl, ownN_made (Nat.le_refl _) HG.out HCS.out (by omega) (by unfold maxLen; omega) HD.out, HTD3.out, ?_, ?_, HB.out⟩
      · rw [show bk (some ⟨w.heap.size, 0, none⟩) xs.length xs.length = [w.heap.size] from rfl, List.nodup_append]
        exact ⟨by simp, HND.out, fun a ha b hb e => by simp at ha; have := HRG.out b hb; omega⟩
      · intro b hb
        rw [show bk (some ⟨w.heap.size, 0, none⟩) xs.length xs.length = [w.heap.size] from rfl] at hb
        rcases List.mem_append.1 hb with hb | hb
        · simp at hb; omega
        · have := HRG.out b hb; omega

set_option maxRecDepth 100000 in
set_option maxHeartbeats 8000000 in
theorem laws_toNodeT (a : Nd) : ToT a := by
  induction a using Nd.ind with
  | h k n t ns xs ih =>
  intro u w hu hsz
  obtain ⟨An, cn, Ai, ci, rfl, hrn, hcn, hci, hri⟩ := hu.parts
  simp only [Nd.size] at hsz
  have HRN := Lib.hid hrn
  have HRI := Lib.hid hri
  have HTS := Lib.hid (fun w2 (hb : Below w.heap.size w w2) => laws_toStringS ns An cn w2 ((hrn.now hb).rd (fun _ h => h)) (by omega))
  have HTN := Lib.hid (fun w2 (hb : Below w.heap.size w w2) => laws_toNodeST xs ih Ai ci w2 (hri.now hb) (by omega))
  clear hu hrn hri ih
  go_enter Tryd.func16, Tryd.ntmps16
  go_wp2_with fail
  obtain ⟨hB0, hX0, hZ0, hY0, hs0⟩ := three_boxes w (ndCells k n t An ns.length cn Ai xs.length ci) zeroN #[.int .i64 k, .int .i64 n, sv t, .slice none 0 0, .slice none 0 0] 36 26 26
  have HB0 := Lib.hid hB0
  have HX0 := Lib.hid hX0
  have HZ0 := Lib.hid hZ0
  have HY0 := Lib.hid hY0
  have HS0 := Lib.hid hs0
  clear hB0 hX0 hZ0 hY0 hs0
  refine (HTS.out _ HB0.out).mono ?_
  rintro e w1 ⟨A1, c1, rfl, ho, hb⟩
  have hz1 : w.heap.size + 3 ≤ w1.heap.size := by rw [← HS0.out]; exact hb.size
  have HB1 := Lib.hid (HB0.out.trans (hb.mono HB0.out.size))
  have HX1 := Lib.hid (bx_keep HX0.out hb)
  have HZ1 := Lib.hid (bx_keep HZ0.out hb)
  have HY1 := Lib.hid (bx_keep HY0.out hb)
  have HN1 : Hid (OwnS w1 (w.heap.size + 3) A1 c1 ns) := by show OwnS _ _ _ _ _; rw [← HS0.out]; exact ho
  obtain ⟨⟨y0, y1, y2, y3, y4⟩, y5, y6, y7, y8, y9⟩ := box_five HY1.out
  obtain ⟨⟨x0, x1, x2, x3, x4⟩, -⟩ := box_five HX1.out
  have HB1' := Lib.hid (Below.setCell HB1.out (p := ⟨w.heap.size + 2, 3, none⟩) (by show w.heap.size ≤ w.heap.size + 2; omega) (.slice A1 ns.length c1))
  have HY1' : Hid ((w1.setCell ⟨w.heap.size + 2, 3, none⟩ (.slice A1 ns.length c1)).heap[w.heap.size + 2]? = some (.cells #[.int .i64 k, .int .i64 n, sv t, .slice A1 ns.length c1, .slice none 0 0] 26 (0, 0))) := cells_set HY1.out
  have HZ1' : Hid ((w1.setCell ⟨w.heap.size + 2, 3, none⟩ (.slice A1 ns.length c1)).heap[w.heap.size + 1]? = some (.cells zeroN 26 (0, 0))) := (Below.heap_setCell _ _ _ _ (by show w.heap.size + 1 ≠ w.heap.size + 2; omega)).trans HZ1.out
  have hs1 : (w1.setCell ⟨w.heap.size + 2, 3, none⟩ (.slice A1 ns.length c1)).heap.size = w1.heap.size := by simp [World.setCell]
  have HN1' := Lib.hid (offN (u := .slice A1 ns.length c1) (o := 3) HN1.out (show w.heap.size + 2 < w.heap.size + 3 by omega))
  clear ho hb
  go_wp2_with fail
  refine (HTN.out _ HB1'.out).mono ?_
  rintro e w2 ⟨A2, rs, L, rfl, hoi, hot, hnd, hrg, hb⟩
  rw [hs1] at hoi hrg
  have hz2 : w1.heap.size ≤ w2.heap.size := by rw [← hs1]; exact hb.size
  have HB2 := Lib.hid (HB1'.out.trans (hb.mono HB1'.out.size))
  have HZ2 := Lib.hid (bx_keep HZ1'.out hb)
  have HY2 := Lib.hid (bx_keep HY1'.out hb)
  have HN2 := Lib.hid (own_below HN1'.out hb)
  have HT2 : Hid (OwT w2 (.mk k n t ns xs) ⟨k, n, t, A1, ns.length, c1, A2, xs.length, xs.length⟩ (bk A1 ns.length c1 ++ (bk A2 xs.length xs.length ++ L))) := by
    show OwT _ _ _ _
    have hl := hot.len
    have hoi2 : OwnN w2 0 A2 xs.length rs := own_base hoi (Nat.zero_le _)
    rw [OwT]
    exact ⟨rfl, rfl, rfl, rfl, rfl, own_base HN2.out (Nat.zero_le _), rs, L, hoi2, hot, rfl⟩
  have hn1l : ∀ b, b ∈ bk A1 ns.length c1 → w.heap.size + 3 ≤ b ∧ b < w1.heap.size := fun b hb => HN1.out.lt b (bk_mem.1 hb)
  have HNDA : Hid ((bk A1 ns.length c1 ++ (bk A2 xs.length xs.length ++ L)).Nodup) := by
    show List.Nodup _
    rw [List.nodup_append]
    refine ⟨?_, hnd, fun a ha b hb e => ?_⟩
    · cases A1 <;> simp [bk, Value.ownBlock]
    · have := (hn1l a ha).2; have := hrg b hb; omega
  have HRGA : Hid (∀ b ∈ bk A1 ns.length c1 ++ (bk A2 xs.length xs.length ++ L), w.heap.size + 3 ≤ b) := fun b hb => by
    rcases List.mem_append.1 hb with hb | hb
    · exact (hn1l b hb).1
    · have := hrg b hb; omega
  obtain ⟨⟨y0, y1, y2, y3, y4⟩, y5, y6, y7, y8, y9⟩ := box_five HY2.out
  obtain ⟨⟨z0, z1, z2, z3, z4⟩, z5, z6, z7, z8, z9⟩ := box_five HZ2.out
  clear hb hoi hot hnd hrg hn1l
  go_wp2
  refine bodyPost_ret (v := ndV k n t A1 ns.length c1 A2 xs.length xs.length) (by simp [results, Tryd.results16, go_sem, *]) rfl ?_
  refine ⟨⟨k, n, t, A1, ns.length, c1, A2, xs.length, xs.length⟩, _, rfl, OwT.keep _ _ _ HT2.out (fun b hb => ?_), HNDA.out, fun b hb => by have := HRGA.out b hb; omega, Below.setCell (Below.setCell (Below.setCell (Below.setCell (Below.setCell (Below.setCell HB2.out ?_ _) ?_ _) ?_ _) ?_ _) ?_ _) ?_ _⟩
  · have hb2 := HRGA.out b hb
    rw [Below.heap_setCell _ _ _ _ (by show b ≠ w.heap.size + 1; omega), Below.heap_setCell _ _ _ _ (by show b ≠ w.heap.size + 1; omega), Below.heap_setCell _ _ _ _ (by show b ≠ w.heap.size + 1; omega), Below.heap_setCell _ _ _ _ (by show b ≠ w.heap.size + 1; omega), Below.heap_setCell _ _ _ _ (by show b ≠ w.heap.size + 1; omega), Below.heap_setCell _ _ _ _ (by show b ≠ w.heap.size + 2; omega)]
  all_goals first | (show w.heap.size ≤ w.heap.size + 2; omega) | (show w.heap.size ≤ w.heap.size + 1; omega)
end Go.Proofs.YtdmmnjnbjigdeaaDoor

/- Marks of nodes: walks. -/
namespace Go.Proofs.YtdmmnjnbjigdeaaDoor
open Go.RowKit

namespace Nd
mutual
/-- how many marks a node in a row takes -/
def cntM : Nd → Nat
  | mk _ _ _ ns xs => 3 + ns.length + cntMs xs
def cntMs : List Nd → Nat
  | [] => 0
  | x :: s => cntM x + cntMs s
end
mutual
/-- a node in a row, marked -/
def mkN : Nat → Nd → Nd
  | k, mk _ _ _ ns xs => mk ((k : Nat) : Int) ((k + 1 : Nat) : Int) (markOf (k + 2)) (marksS (k + 3) ns.length) (mkNs (k + 3 + ns.length) xs)
def mkNs : Nat → List Nd → List Nd
  | _, [] => []
  | k, x :: s => mkN k x :: mkNs (k + cntM x) s
end
/-- a node that stands alone, marked -/
def mkTop (k : Nat) : Nd → Nd
  | mk kd n t ns xs => mk kd n t (marksS k ns.length) (mkNs (k + ns.length) xs)
def cntT : Nd → Nat
  | mk _ _ _ ns xs => ns.length + cntMs xs
theorem mkNs_len : ∀ (k : Nat) (xs : List Nd), (mkNs k xs).length = xs.length
  | _, [] => by simp [mkNs]
  | k, x :: s => by simp [mkNs, mkNs_len (k + cntM x) s]
theorem mkNs_snoc : ∀ (k : Nat) (xs : List Nd) (y : Nd), mkNs k (xs ++ [y]) = mkNs k xs ++ [mkN (k + cntMs xs) y]
  | k, [], y => by simp [mkNs, cntMs]
  | k, x :: s, y => by
    simp only [List.cons_append, mkNs, mkNs_snoc (k + cntM x) s y, cntMs]
    rw [Nat.add_assoc]
theorem cntMs_snoc : ∀ (xs : List Nd) (y : Nd), cntMs (xs ++ [y]) = cntMs xs + cntM y
  | [], y => by simp [cntMs]
  | x :: s, y => by simp only [List.cons_append, cntMs, cntMs_snoc s y]; omega
theorem cntMs_take (xs : List Nd) (j : Nat) (h : j < xs.length) : cntMs (xs.take (j + 1)) = cntMs (xs.take j) + cntM xs[j] := by
  rw [take_snoc xs j h, cntMs_snoc]
theorem cntMs_take_le : ∀ (xs : List Nd) (j : Nat), cntMs (xs.take j) ≤ cntMs xs
  | [], j => by simp
  | x :: s, 0 => by simp [cntMs]
  | x :: s, j + 1 => by have := cntMs_take_le s j; simp only [List.take_succ_cons, cntMs]; omega
theorem cntMs_len : ∀ xs : List Nd, xs.length ≤ cntMs xs
  | [] => by simp
  | x :: s => by
    have := cntMs_len s
    cases x
    simp only [List.length_cons, cntMs, cntM]
    omega
theorem mkNs_get : ∀ (k : Nat) (xs : List Nd) (j : Nat) (h : j < xs.length), (mkNs k xs)[j]'(by rw [mkNs_len]; exact h) = mkN (k + cntMs (xs.take j)) xs[j]
  | k, x :: s, 0, h => by simp [mkNs, cntMs]
  | k, x :: s, j + 1, h => by
    simp only [mkNs, List.getElem_cons_succ, List.take_succ_cons, cntMs]
    rw [mkNs_get (k + cntM x) s j (by simpa using h), Nat.add_assoc]
theorem cntM_size (x : Nd) : cntM x ≤ 3 + 3 * size x := by
  induction x using ind with
  | h k n t ns xs ih =>
    simp only [cntM, size]
    have : cntMs xs ≤ 3 * xs.length + 3 * sizes xs := by
      clear t ns
      induction xs with
      | nil => simp [cntMs]
      | cons x t ih2 =>
        have h1 := ih x (by simp)
        have h2 := ih2 fun y hy => ih y (List.mem_cons_of_mem _ hy)
        simp only [cntMs, sizes, List.length_cons]
        omega
    omega
theorem cntT_size (x : Nd) : cntT x ≤ 3 * size x + 3 := by
  have := cntM_size x
  cases x
  simp only [cntM, cntT] at *
  omega
end Nd

theorem nodup_parts {G L1 N I L3 Lb : List Nat} (h : (G ++ (L1 ++ ((N ++ (I ++ L3)) ++ Lb))).Nodup) :
    (∀ b, b ∈ G → b ∉ L1 ∧ b ∉ N ∧ b ∉ I ∧ b ∉ L3 ∧ b ∉ Lb) ∧ (∀ b, b ∈ N → b ∉ G ∧ b ∉ L1 ∧ b ∉ I ∧ b ∉ L3 ∧ b ∉ Lb) ∧ (∀ b, b ∈ I ++ L3 → b ∉ G ∧ b ∉ L1 ∧ b ∉ N ∧ b ∉ Lb) ∧ (I ++ L3).Nodup := by
  simp only [List.nodup_append, List.mem_append] at h ⊢
  grind
theorem rcells_set (rs1 rs2 : List Raw) (r r' : Raw) (i : Nat) (u : Value) (hr : r'.cs = r.cs.set i u) (hi : i < 5) : (rcells (rs1 ++ r :: rs2)).set (rs1.length * 5 + i) u = rcells (rs1 ++ r' :: rs2) := by
  rw [rcells_append, rcells_append, rcells, rcells, List.set_append_right _ _ (by rw [rcells_length]; omega), rcells_length, show rs1.length * 5 + i - rs1.length * 5 = i by omega,
    List.set_append_left _ _ (by simpa using hi), hr]
section
variable {w w' : World} {g c : Nat} {rs1 rs2 : List Raw} {r : Raw}
theorem rowN_cells (h : OwnN w 0 (some ⟨g, 0, none⟩) c (rs1 ++ r :: rs2)) :
    (w.cell? ⟨g, rs1.length * 5, none⟩ = some (.int .i64 r.k) ∧ w.cell? ⟨g, rs1.length * 5 + 1, none⟩ = some (.int .i64 r.n) ∧ w.cell? ⟨g, rs1.length * 5 + 2, none⟩ = some (sv r.t) ∧ w.cell? ⟨g, rs1.length * 5 + 3, none⟩ = some (.slice r.An r.ln r.cn) ∧ w.cell? ⟨g, rs1.length * 5 + 4, none⟩ = some (.slice r.Ai r.li r.ci)) ∧
    (w.frozen? ⟨g, rs1.length * 5, none⟩ = false ∧ w.frozen? ⟨g, rs1.length * 5 + 1, none⟩ = false ∧ w.frozen? ⟨g, rs1.length * 5 + 2, none⟩ = false) := by
  have hl : (rs1 ++ r :: rs2).length = rs1.length + 1 + rs2.length := by simp; omega
  have key : ∀ i, i < 5 → w.cell? ⟨g, rs1.length * 5 + i, none⟩ = r.cs[i]? := fun i hi => by
    rw [h.cellAt (rs1.length * 5 + i) (by rw [hl, Nat.add_mul, Nat.add_mul]; omega)]
    exact rcells_get _ _ r i (by simp) hi
  exact ⟨⟨key 0 (by omega), key 1 (by omega), key 2 (by omega), key 3 (by omega), key 4 (by omega)⟩, h.frozenAt _, h.frozenAt _, h.frozenAt _⟩
theorem rowN_set (h : OwnN w 0 (some ⟨g, 0, none⟩) c (rs1 ++ r :: rs2)) (r' : Raw) (i : Nat) (u : Value) (hr : r'.cs = r.cs.set i u) (hi : i < 5) : OwnN (w.setCell ⟨g, rs1.length * 5 + i, none⟩ u) 0 (some ⟨g, 0, none⟩) c (rs1 ++ r' :: rs2) := by
  have h1 := (h.stored (rs1.length * 5 + i) u).1
  rw [rcells_set rs1 rs2 r r' i u hr hi] at h1
  unfold OwnN
  rw [show (rs1 ++ r' :: rs2).length = (rs1 ++ r :: rs2).length by simp]
  exact h1
end
theorem OwTs.chg {w w' : World} {xs : List Nd} {rs : List Raw} {L M : List Nat} (h : OwTs w xs rs L) (hc : Chg w w' M) (hd : ∀ b, b ∈ M → b ∉ L) : OwTs w' xs rs L := h.keep fun b hb => hc.block b (h.lt b hb) (fun e => hd b e hb)
theorem own_chg {w w' : World} {base size n c : Nat} {A : Option Addr} {e : TypeId} {xs : List Value} {M : List Nat} (h : w.ownsRow base e size (.slice A n c) n xs) (hc : Chg w w' M) (hd : ∀ b, b ∈ M → b ∉ bk A n c) : w'.ownsRow base e size (.slice A n c) n xs :=
  own_at h fun g hg => hc.block g (h.lt g hg).2 (fun e => hd g e (bk_mem.2 hg))
theorem OwT.mk {w : World} {k n : Int} {t : Tx} {ns : List Tx} {xs : List Nd} {rs : List Raw} {L2 L : List Nat} {An Ai : Option Addr} {cn ci : Nat} (h1 : OwnS w 0 An cn ns) (h2 : OwnN w 0 Ai ci rs) (h3 : OwTs w xs rs L2) (hL : L = bk An ns.length cn ++ (bk Ai xs.length ci ++ L2)) : OwT w (.mk k n t ns xs) ⟨k, n, t, An, ns.length, cn, Ai, xs.length, ci⟩ L := by
  rw [OwT]
  exact ⟨rfl, rfl, rfl, rfl, rfl, h1, rs, L2, h2, h3, hL⟩

theorem laws_markStringS_at (ps : List Tx) (base : Nat) (A : Option Addr) (c k : Nat) (z : Int) (w : World) (hz : z = (k : Int)) (hown : OwnS w base A c ps) (hk0 : 0 < k) (hkn : k + ps.length ≤ 4611686018427387904) :
    Calls Tryd.prog 46 #[.slice A ps.length c, .int .i64 z] w fun e w' => e = .returned (.int .i64 ((k : Int) + (ps.length : Int))) ∧ OwnS w' base A c (marksS k ps.length) ∧ w.grownBy w' (Value.ownBlock (.slice A ps.length c)) := by
  subst hz
  exact (laws_markStringS ps base A c k w hown hk0 hkn).mono fun _ _ ⟨h1, h2, h3⟩ => ⟨by rw [h1]; exact ret_int (by omega), h2, h3⟩
/-- what markNodeS' contract says of these nodes -/
def MkC (xs : List Nd) : Prop := ∀ (rs : List Raw) (A : Option Addr) (c k : Nat) (z : Int) (L : List Nat) (w : World), z = (k : Int) → OwnN w 0 A c rs → OwTs w xs rs L → (bk A rs.length c ++ L).Nodup → 0 < k → k + Nd.cntMs xs ≤ 4611686018427387904 →
  Calls Tryd.prog 47 #[.slice A xs.length c, .int .i64 z] w fun e w' => e = .returned (.int .i64 ((k : Int) + (Nd.cntMs xs : Int))) ∧ ∃ rs', rs'.length = rs.length ∧ OwnN w' 0 A c rs' ∧ OwTs w' (Nd.mkNs k xs) rs' L ∧ Chg w w' (bk A rs.length c ++ L)
set_option maxRecDepth 100000 in
set_option maxHeartbeats 8000000 in
theorem laws_markNodeS (xs : List Nd) (ih : ∀ x ∈ xs, MkC x.inside) : MkC xs := by
  intro rs A c k z L w hz ho ht hnd hk0 hkn
  subst hz
  have IH := Lib.hid ih
  have HO := Lib.hid ho
  have HT := Lib.hid ht
  have HND := Lib.hid hnd
  have hrx : rs.length = xs.length := ht.len
  have hxl : xs.length ≤ 4611686018427387904 := by have := Nd.cntMs_len xs; omega
  clear ih ho ht hnd
  go_enter Tryd.func47, Tryd.ntmps47
  go_wp2
  go_loopw [1, 5] (fun m i wr => ∃ (j : Nat) (rs1 rs2 : List Raw) (L1 L2 : List Nat), j ≤ xs.length ∧ i = .int .i64 j ∧ m = .int .i64 ((k : Int) + (Nd.cntMs (xs.take j) : Int)) ∧ rs1.length = j ∧ (rs1 ++ rs2).length = rs.length ∧ L = L1 ++ L2 ∧ OwnN wr 0 A c (rs1 ++ rs2) ∧ OwTs wr (Nd.mkNs k (xs.take j)) rs1 L1 ∧ OwTs wr (xs.drop j) rs2 L2 ∧ Chg w wr (bk A rs.length c ++ L)) (fun _ i _ => xs.length - (intOf i).toNat)
  case atStart => exact ⟨0, [], rs, [], L, Nat.zero_le _, rfl, by simp [Nd.cntMs], rfl, rfl, rfl, HO.out, by simp [Nd.mkNs, OwTs], by simpa using HT.out, Chg.refl _ _⟩
  case round =>
    obtain ⟨j, rs1, rs2, L1, L2, hj, rfl, rfl, hr1, hr12, rfl, ho, ht1, ht2, hc⟩ := hrel
    by_cases hlt : j < xs.length
    · rw [drop_cons xs j hlt, OwTs] at ht2
      obtain ⟨r, rs2', La, Lb, rfl, rfl, ht, ht2⟩ := ht2
      have HCT := Lib.hid (Nd.cntMs_take xs j hlt)
      have hle := Nd.cntMs_take_le xs (j + 1)
      rw [HCT.out] at hle
      have IHX := Lib.hid (IH.out xs[j] (List.getElem_mem hlt))
      have HMK : Hid (Nd.mkNs k (xs.take (j + 1)) = Nd.mkNs k (xs.take j) ++ [Nd.mkN (k + Nd.cntMs (xs.take j)) xs[j]]) := by
        show _ = _
        rw [take_snoc xs j hlt, Nd.mkNs_snoc]
      generalize xs[j] = x at *
      cases x with
      | mk kd nn tt ns ys =>
      simp only [Nd.cntM, Nd.inside] at hle HCT IHX
      generalize Nd.cntMs (xs.take j) = ct at *
      rw [OwT] at ht
      obtain ⟨e1, e2, e3, e4, e5, hon, rs3, L3, hoi, hty, rfl⟩ := ht
      obtain ⟨rk, rn, rt, An, rln, cn, Ai, rli, ci⟩ := r
      simp only at e1 e2 e3 e4 e5 hon hoi
      subst e1 e2 e3 e4 e5
      have hrpos : 0 < (rs1 ++ ⟨rk, rn, rt, An, ns.length, cn, Ai, ys.length, ci⟩ :: rs2').length := by simp; omega
      obtain ⟨g, rfl, -, hgs⟩ := own_some ho hrpos
      have hbg : bk (some ⟨g, 0, none⟩) rs.length c = [g] := rfl
      rw [hbg] at hc HND
      obtain ⟨hG, hN, hI, hIn⟩ := nodup_parts HND.out
      have hG1 := hG g (by simp)
      obtain ⟨⟨x0, x1, x2, x3, x4⟩, x5, x6, x7⟩ := rowN_cells ho
      have hset1 := rowN_set ho ⟨((k + ct : Nat) : Int), rn, rt, An, ns.length, cn, Ai, ys.length, ci⟩ 0 (.int .i64 ((k : Int) + (ct : Int))) (by simp) (by omega)
      have hset2 := rowN_set hset1 ⟨((k + ct : Nat) : Int), ((k + ct + 1 : Nat) : Int), rt, An, ns.length, cn, Ai, ys.length, ci⟩ 1 (.int .i64 ((k : Int) + (ct : Int) + 1)) (by simp) (by omega)
      have hcg : Chg wr ((wr.setCell ⟨g, rs1.length * 5 + 0, none⟩ (.int .i64 ((k : Int) + (ct : Int)))).setCell ⟨g, rs1.length * 5 + 1, none⟩ (.int .i64 ((k : Int) + (ct : Int) + 1))) [g] := (Chg.setCell (by simp)).trans (Chg.setCell (L := [g]) (by simp)) (fun b hb => .inl hb)
      rw [Nat.add_zero] at hset1 hset2 hcg
      subst hr1
      have HS2 := Lib.hid hset2
      have HC0 := Lib.hid (hc.trans hcg (fun b hb => .inl (by simp at hb; simp [hb])))
      have HT1 := Lib.hid (ht1.chg hcg (fun b hb => by simp at hb; subst hb; exact hG1.1))
      have HT2 := Lib.hid (ht2.chg hcg (fun b hb => by simp at hb; subst hb; exact hG1.2.2.2.2))
      have HON := Lib.hid (own_chg hon hcg (fun b hb => by simp at hb; subst hb; exact hG1.2.1))
      have HOI := Lib.hid (own_chg hoi hcg (fun b hb => by simp at hb; subst hb; rw [hty.len]; exact hG1.2.2.1))
      have HTY := Lib.hid (hty.chg hcg (fun b hb => by simp at hb; subst hb; exact hG1.2.2.2.1))
      have hyl := hty.len
      have HG := Lib.hid hG1
      have HN := Lib.hid hN
      have HI := Lib.hid hI
      have HIN := Lib.hid hIn
      clear ho ht1 ht2 hc hon hoi hty hset1 hset2 hG hN hI hIn hG1
      go_wp2_with fail
      generalize (wr.setCell ⟨g, rs1.length * 5, none⟩ (.int .i64 ((k : Int) + (ct : Int)))).setCell ⟨g, rs1.length * 5 + 1, none⟩ (.int .i64 ((k : Int) + (ct : Int) + 1)) = wa at *
      refine (laws_markText_at (k + ct + 2) _ (by omega) (by omega) (by omega) _).mono ?_
      rintro e w1 ⟨rfl, hb1⟩
      have hs1 := own_below HS2.out hb1
      obtain ⟨-, y5, y6, y7⟩ := rowN_cells hs1
      obtain ⟨⟨y0, y1, y2, y3, y4⟩, -⟩ := rowN_cells hs1
      have hset3 := rowN_set hs1 ⟨((k + ct : Nat) : Int), ((k + ct + 1 : Nat) : Int), markOf (k + ct + 2), An, ns.length, cn, Ai, ys.length, ci⟩ 2 (sv (markOf (k + ct + 2))) (by simp) (by omega)
      have hcb : Chg wa (w1.setCell ⟨g, rs1.length * 5 + 2, none⟩ (sv (markOf (k + ct + 2)))) [g] := (Chg.of_below hb1 [g]).trans (Chg.setCell (L := [g]) (by simp)) (fun b hb => .inl hb)
      have HS3 := Lib.hid hset3
      have HC1 := Lib.hid (HC0.out.trans hcb (fun b hb => .inl (by simp at hb; simp [hb])))
      have HT1b := Lib.hid (HT1.out.chg hcb (fun b hb => by simp at hb; subst hb; exact HG.out.1))
      have HT2b := Lib.hid (HT2.out.chg hcb (fun b hb => by simp at hb; subst hb; exact HG.out.2.2.2.2))
      have HONb := Lib.hid (own_chg HON.out hcb (fun b hb => by simp at hb; subst hb; exact HG.out.2.1))
      have HOIb := Lib.hid (own_chg HOI.out hcb (fun b hb => by simp at hb; subst hb; rw [hyl]; exact HG.out.2.2.1))
      have HTYb := Lib.hid (HTY.out.chg hcb (fun b hb => by simp at hb; subst hb; exact HG.out.2.2.2.1))
      clear hb1 hs1 hset3 hcb HS2 HC0 HT1 HT2 HON HOI HTY x0 x1 x2 x3 x4 x5 x6 x7 hcg
      go_upto_region 10 with fail
      generalize w1.setCell ⟨g, rs1.length * 5 + 2, none⟩ (sv (markOf (k + ct + 2))) = wb at *
      clear y0 y1 y2 y3 y4 y5 y6 y7
      obtain ⟨⟨x0, x1, x2, x3, x4⟩, -⟩ := rowN_cells HS3.out
      go_wp2_with fail
      refine (laws_markStringS_at ns 0 An cn (k + ct + 3) _ wb (by omega) HONb.out (by omega) (by omega)).mono ?_
      rintro e w2 ⟨rfl, hon2, hg2⟩
      have hcc := Chg.of_grown hg2 (L := bk An ns.length cn) (fun b hb => bk_mem.2 hb)
      have HC2 := Lib.hid (HC1.out.trans hcc (fun b hb => .inl (by simp only [List.mem_append]; exact .inr (.inr (.inl (.inl hb))))))
      have HS4 := Lib.hid (own_chg HS3.out hcc (fun b hb e => (HN.out b hb).1 e))
      have HT1c := Lib.hid (HT1b.out.chg hcc (fun b hb => (HN.out b hb).2.1))
      have HT2c := Lib.hid (HT2b.out.chg hcc (fun b hb => (HN.out b hb).2.2.2.2))
      have HOIc := Lib.hid (own_chg HOIb.out hcc (fun b hb => by rw [hyl]; exact (HN.out b hb).2.2.1))
      have HTYc := Lib.hid (HTYb.out.chg hcc (fun b hb => (HN.out b hb).2.2.2.1))
      have HONc := Lib.hid hon2
      clear hg2 hon2 hcc HC1 HS3 HT1b HT2b HONb HOIb HTYb x0 x1 x2 x3 x4
      obtain ⟨⟨x0, x1, x2, x3, x4⟩, -⟩ := rowN_cells (r := ⟨((k + ct : Nat) : Int), ((k + ct + 1 : Nat) : Int), markOf (k + ct + 2), An, ns.length, cn, Ai, ys.length, ci⟩) HS4.out
      go_wp2_with fail
      refine (IHX.out rs3 Ai ci (k + ct + 3 + ns.length) _ L3 w2 (by omega) HOIc.out HTYc.out (by rw [hyl]; exact HIN.out) (by omega) (by omega)).mono ?_
      rintro e w3 ⟨rfl, rs4, hl4, hoi3, hty3, hcd⟩
      rw [hyl] at hcd
      have hcd2 : ∀ b, b ∈ bk Ai ys.length ci ++ L3 → b ∈ [g] ++ (L1 ++ ((bk An ns.length cn ++ (bk Ai ys.length ci ++ L3)) ++ Lb)) := fun b hb => by simp only [List.mem_append]; rw [List.mem_append] at hb; exact .inr (.inr (.inl (.inr hb)))
      have HC3 := Lib.hid (HC2.out.trans hcd (fun b hb => .inl (hcd2 b hb)))
      have HS5 := Lib.hid (own_chg HS4.out hcd (fun b hb e => (HI.out b hb).1 e))
      have HT1d := Lib.hid (HT1c.out.chg hcd (fun b hb => (HI.out b hb).2.1))
      have HT2d := Lib.hid (HT2c.out.chg hcd (fun b hb => (HI.out b hb).2.2.2))
      have HONd := Lib.hid (own_chg HONc.out hcd (fun b hb => by rw [marksS_length]; exact (HI.out b hb).2.2.1))
      have HOId := Lib.hid hoi3
      have HTYd := Lib.hid hty3
      clear hcd hcd2 hoi3 hty3 HC2 HS4 HT1c HT2c HOIc HTYc HONc x0 x1 x2 x3 x4
      go_wp2
      go_roundw
      case rel =>
        refine ⟨rs1.length + 1, rs1 ++ [⟨((k + ct : Nat) : Int), ((k + ct + 1 : Nat) : Int), markOf (k + ct + 2), An, ns.length, cn, Ai, ys.length, ci⟩], rs2', L1 ++ (bk An ns.length cn ++ (bk Ai ys.length ci ++ L3)), Lb, by omega, by go_num, ?_, by simp, by rw [← hr12]; simp, by simp [List.append_assoc], ?_, ?_, HT2d.out, ?_⟩
        · rw [HCT.out]; go_num
        · have h := HS5.out; unfold OwnN; rw [List.append_assoc]; exact h
        · rw [HMK.out]
          refine HT1d.out.snoc ?_
          have hw := OwT.mk (k := ((k + ct : Nat) : Int)) (n := ((k + ct + 1 : Nat) : Int)) (t := markOf (k + ct + 2)) (L := bk An ns.length cn ++ (bk Ai ys.length ci ++ L3)) HONd.out HOId.out HTYd.out (by rw [marksS_length, Nd.mkNs_len])
          rw [marksS_length, Nd.mkNs_len] at hw
          rw [Nd.mkN]
          exact hw
        · exact HC3.out
      case measure => simp [intOf]; omega
    · have hjx : xs.take j = xs := List.take_of_length_le (by omega)
      have hdx : xs.drop j = [] := drop_nil xs j (by omega)
      rw [hjx] at ht1
      rw [hdx, OwTs] at ht2
      obtain ⟨rfl, rfl⟩ := ht2
      have HT1 := Lib.hid ht1
      have HO1 := Lib.hid ho
      have HC1 := Lib.hid hc
      clear ht1 ho hc
      go_wp2
      go_ret
      refine ⟨ret_int (by rw [hjx]), rs1, by simpa using hr12, by simpa using HO1.out, by simpa using HT1.out, HC1.out⟩
theorem laws_markNodeS_all (x : Nd) : MkC x.inside := by
  induction x using Nd.ind with
  | h k n t ns xs ih => exact laws_markNodeS xs ih
end Go.Proofs.YtdmmnjnbjigdeaaDoor

/- Marks of nodes: marked as a whole, and held: walks. -/
namespace Go.Proofs.YtdmmnjnbjigdeaaDoor
open Go.RowKit

set_option maxRecDepth 100000 in
set_option maxHeartbeats 4000000 in
theorem laws_markNode (a : Nd) (r : Raw) (L : List Nat) (k : Nat) (z : Int) (w : World) (hz : z = (k : Int)) (ht : OwT w a r L) (hnd : L.Nodup) (hk0 : 0 < k) (hkn : k + Nd.cntT a ≤ 4611686018427387904) :
    Calls Tryd.prog 23 #[r.v, .int .i64 z] w fun e w' => e = .returned (.int .i64 ((k : Int) + (Nd.cntT a : Int))) ∧ OwT w' (Nd.mkTop k a) r L ∧ Chg w w' L := by
  subst hz
  cases a with
  | mk kd nn tt ns xs =>
  have hlt := OwT.lt _ _ _ ht
  rw [OwT] at ht
  obtain ⟨e1, e2, e3, e4, e5, hon, rs3, L3, hoi, hty, rfl⟩ := ht
  obtain ⟨rk, rn, rt, An, rln, cn, Ai, rli, ci⟩ := r
  simp only at e1 e2 e3 e4 e5 hon hoi
  subst e1 e2 e3 e4 e5
  simp only at hnd hlt
  simp only [Nd.cntT] at hkn
  have hyl := hty.len
  have hnd2 := List.nodup_append.1 hnd
  have hA0 := (Below.refl w.heap.size w).alloc (Nat.le_refl _) (.cells (ndCells rk rn rt An ns.length cn Ai xs.length ci) 26)
  have hX0 := heap_alloc_new w (.cells (ndCells rk rn rt An ns.length cn Ai xs.length ci) 26)
  have hC0 := Chg.of_below hA0 []
  have HON := Lib.hid (own_below hon hA0)
  have HOI := Lib.hid (own_below hoi hA0)
  have HTY := Lib.hid (hty.chg hC0 (fun b hb => by cases hb))
  have HX0 := Lib.hid hX0
  have HC0 := Lib.hid (Chg.of_below hA0 (bk An ns.length cn ++ (bk Ai xs.length ci ++ L3)))
  have hs0 : (w.alloc (.cells (ndCells rk rn rt An ns.length cn Ai xs.length ci) 26)).heap.size = w.heap.size + 1 := by simp
  have HLT := Lib.hid hlt
  clear hon hoi hty hA0 hX0 hC0 hlt
  go_enter Tryd.func23, Tryd.ntmps23
  obtain ⟨⟨x0, x1, x2, x3, x4⟩, -⟩ := box_five HX0.out
  go_wp2_with fail
  generalize w.alloc (.cells (ndCells rk rn rt An ns.length cn Ai xs.length ci) 26) = w0 at *
  refine (laws_markStringS_at ns 0 An cn k _ w0 rfl HON.out hk0 (by omega)).mono ?_
  rintro e w1 ⟨rfl, hon, hg⟩
  have hcc := Chg.of_grown hg (L := bk An ns.length cn) (fun b hb => bk_mem.2 hb)
  have hd : ∀ b, b ∈ bk An ns.length cn → b ∉ bk Ai xs.length ci ∧ b ∉ L3 := fun b hb => ⟨fun e => hnd2.2.2 b hb b (List.mem_append.2 (.inl e)) rfl, fun e => hnd2.2.2 b hb b (List.mem_append.2 (.inr e)) rfl⟩
  have HC1 := Lib.hid (HC0.out.trans hcc (fun b hb => .inl (List.mem_append.2 (.inl hb))))
  have HOI1 := Lib.hid (own_chg HOI.out hcc (fun b hb => by rw [hyl]; exact (hd b hb).1))
  have HTY1 := Lib.hid (HTY.out.chg hcc (fun b hb => (hd b hb).2))
  have HON1 := Lib.hid hon
  have hX1 := (hcc.block w.heap.size (by omega) (fun e => by have := HLT.out _ (List.mem_append.2 (.inl e)); omega)).trans HX0.out
  clear hon hg hcc HC0 HON HOI HTY HX0 x0 x1 x2 x3 x4
  obtain ⟨⟨x0, x1, x2, x3, x4⟩, -⟩ := box_five hX1
  clear hX1
  go_wp2_with fail
  have HMC := laws_markNodeS_all (.mk rk rn rt ns xs)
  refine (HMC rs3 Ai ci (k + ns.length) _ L3 w1 (by omega) HOI1.out HTY1.out (by rw [hyl]; exact hnd2.2.1) (by omega) (by simp only [Nd.inside]; omega)).mono ?_
  simp only [Nd.inside]
  rintro e w2 ⟨rfl, rs4, hl4, hoi2, hty2, hcd⟩
  rw [hyl] at hcd
  have HC2 := Lib.hid (HC1.out.trans hcd (fun b hb => .inl (List.mem_append.2 (.inr hb))))
  have HON2 := Lib.hid (own_chg HON1.out hcd (fun b hb e => by rw [marksS_length] at e; exact hnd2.2.2 b e b hb rfl))
  have HOI2 := Lib.hid hoi2
  have HTY2 := Lib.hid hty2
  clear hoi2 hty2 hcd x0 x1 x2 x3 x4
  go_wp2
  go_ret
  refine ⟨ret_int (by simp only [Nd.cntT]; omega), ?_, HC2.out⟩
  have hw := OwT.mk (k := rk) (n := rn) (t := rt) (L := bk An ns.length cn ++ (bk Ai xs.length ci ++ L3)) HON2.out HOI2.out HTY2.out (by rw [marksS_length, Nd.mkNs_len])
  rw [marksS_length, Nd.mkNs_len] at hw
  rw [Nd.mkTop]
  exact hw
def HdC (xs : List Nd) : Prop := ∀ (A : Option Addr) (c k : Nat) (z : Int) (w : World), z = (k : Int) → RdN w (All w) A (Nd.mkNs k xs) → 0 < k → k + Nd.cntMs xs ≤ 4611686018427387904 →
  Calls Tryd.prog 49 #[.slice A xs.length c, .int .i64 z] w fun e w' => e = .returned (.int .i64 ((k : Int) + (Nd.cntMs xs : Int))) ∧ Below w.heap.size w w'
theorem laws_heldStringS_at (n : Nat) (A : Option Addr) (c k : Nat) (z : Int) (w : World) (hz : z = (k : Int)) (hr : RdIn w (All w) A (scells (marksS k n))) (hk0 : 0 < k) (hkn : k + n ≤ 4611686018427387904) :
    Calls Tryd.prog 48 #[.slice A n c, .int .i64 z] w fun e w' => e = .returned (.int .i64 ((k : Int) + (n : Int))) ∧ Below w.heap.size w w' := by
  subst hz
  exact (laws_heldStringS n A c k w (hr.rd (fun _ h => h)) hk0 hkn).mono fun _ _ ⟨h1, h2⟩ => ⟨by rw [h1]; exact ret_int (by omega), h2⟩
set_option maxRecDepth 100000 in
set_option maxHeartbeats 8000000 in
theorem laws_heldNodeS (xs : List Nd) (ih : ∀ x ∈ xs, HdC x.inside) : HdC xs := by
  intro A c k z w hz hx hk0 hkn
  subst hz
  have IH := Lib.hid ih
  have HX := Lib.hid hx
  have hxl : xs.length ≤ 4611686018427387904 := by have := Nd.cntMs_len xs; omega
  clear ih hx
  go_enter Tryd.func49, Tryd.ntmps49
  go_wp2
  go_loopw [1, 5] (fun m i wr => ∃ (j : Nat), j ≤ xs.length ∧ i = .int .i64 j ∧ m = .int .i64 ((k : Int) + (Nd.cntMs (xs.take j) : Int)) ∧ Below w.heap.size w wr) (fun _ i _ => xs.length - (intOf i).toNat)
  case atStart => exact ⟨0, Nat.zero_le _, rfl, by simp [Nd.cntMs], Below.refl _ _⟩
  case round =>
    obtain ⟨j, hj, rfl, rfl, hb⟩ := hrel
    have HB := Lib.hid hb
    clear hb
    by_cases hlt : j < xs.length
    · obtain ⟨b1, o1, hA1, hb1, kd, nn, tt, An, ln, cn, Ai, li, ci, hin, c0, c1, c2, c3, c4⟩ := (HX.out.now HB.out).at (k := j) (by rw [Nd.mkNs_len]; exact hlt)
      rw [Nd.mkNs_get k xs j hlt] at hin
      have HCT := Lib.hid (Nd.cntMs_take xs j hlt)
      have hle := Nd.cntMs_take_le xs (j + 1)
      rw [HCT.out] at hle
      have IHX := Lib.hid (IH.out xs[j] (List.getElem_mem hlt))
      generalize xs[j] = x at *
      cases x with
      | mk kd2 nn2 tt2 ns ys =>
      simp only [Nd.cntM, Nd.inside, Nd.mkN] at hle HCT IHX hin
      generalize Nd.cntMs (xs.take j) = ct at *
      obtain ⟨An2, cn2, Ai2, ci2, e, hrn, -, -, hri⟩ := hin.parts
      injection e with e
      simp only [Array.mk.injEq, List.cons.injEq, Value.int.injEq, Value.slice.injEq, and_true, true_and] at e
      obtain ⟨e1, e2, e3, ⟨e4, e5, e6⟩, e7, e8, e9⟩ := e
      rw [marksS_length] at e5
      rw [Nd.mkNs_len] at e8
      have e1' : kd = (k : Int) + (ct : Int) := by omega
      have e2' : nn = (k : Int) + (ct : Int) + 1 := by omega
      have e3' : tt = markOf (k + ct + 2) := by simpa using e3
      clear e1 e2 e3 hin
      subst e1' e2' e3' e4 e5 e6 e7 e8 e9 hA1
      have HC2 := Lib.hid c2
      have HC3 := Lib.hid c3
      have HC4 := Lib.hid c4
      have HRN := Lib.hid hrn
      have HRI := Lib.hid hri
      have hbw : b1 < wr.heap.size := hb1
      clear hrn hri c2 c3 c4
      go_wp2_with fail
      go_region_held3 (fun w' => w'.cell? ⟨b1, o1 + j * 5 + 2, none⟩ = some (sv (markOf (k + ct + 2)))) (first | exact HC2.out | exact (hb1.cell (p := ⟨b1, o1 + j * 5 + 2, none⟩) hbw).trans HC2.out)
        (first | (go_at_call 69; refine (laws_markText_at (k + ct + 2) _ (by omega) (by omega) (by omega) _).mono ?_; rintro e w1 ⟨rfl, hb1⟩))
      have hbd : Below wr.heap.size wr w1 := (Below.refl _ wr).drew.trans hb1
      have HB1 := Lib.hid (HB.out.trans (hbd.mono HB.out.size))
      have HRN1 := Lib.hid (HRN.out.now hbd)
      have HRI1 := Lib.hid (HRI.out.now hbd)
      have hbw1 : b1 < w1.heap.size := Nat.lt_of_lt_of_le hbw hbd.size
      have d3 := (hbd.cell (p := ⟨b1, o1 + j * 5 + 3, none⟩) hbw).trans HC3.out
      have HD4 := Lib.hid ((hbd.cell (p := ⟨b1, o1 + j * 5 + 4, none⟩) hbw).trans HC4.out)
      clear hb1 hbd c0 c1 HC2 HC3 HC4
      go_wp2_with fail
      refine (laws_heldStringS_at ns.length An cn (k + ct + 3) _ w1 (by omega) HRN1.out (by omega) (by omega)).mono ?_
      rintro e w2 ⟨rfl, hb2⟩
      have HB2 := Lib.hid (HB1.out.trans (hb2.mono HB1.out.size))
      have HRI2 := Lib.hid (HRI1.out.now hb2)
      have d4 := (hb2.cell (p := ⟨b1, o1 + j * 5 + 4, none⟩) hbw1).trans HD4.out
      have hnn : ((k : Int) + (ct : Int) + 3 + (ns.length : Int) < 0) = False := by rw [eq_iff_iff, iff_false]; omega
      have hnn2 : (((k + ct + 3 : Nat) : Int) + (ns.length : Int) < 0) = False := by rw [eq_iff_iff, iff_false]; omega
      clear hb2 d3
      go_wp2_with fail
      refine (IHX.out Ai ci (k + ct + 3 + ns.length) _ w2 (by omega) HRI2.out (by omega) (by omega)).mono ?_
      rintro e w3 ⟨rfl, hb3⟩
      have HB3 := Lib.hid (HB2.out.trans (hb3.mono HB2.out.size))
      have hm : ((k + ct + 3 + ns.length : Nat) : Int) + (Nd.cntMs ys : Int) = (k : Int) + ((ct + (3 + ns.length + Nd.cntMs ys) : Nat) : Int) := by omega
      rw [hm]
      have hm2 : ((k : Int) + ((ct + (3 + ns.length + Nd.cntMs ys) : Nat) : Int) < 0) = False := by rw [eq_iff_iff, iff_false]; omega
      rw [← HCT.out] at hm2 ⊢
      have hm3 : ¬ ((k : Int) + (Nd.cntMs (xs.take (j + 1)) : Int) < 0) := by omega
      clear hb3 d4 hnn hnn2 hm
      go_wp2
      go_roundw
      case rel => exact ⟨j + 1, by omega, by go_num, rfl, HB3.out⟩
      case measure => simp [intOf]; omega
    · have hjx : xs.take j = xs := List.take_of_length_le (by omega)
      go_wp2
      go_ret
      exact ⟨ret_int (by rw [hjx]), HB.out⟩
theorem laws_heldNodeS_all (x : Nd) : HdC x.inside := by
  induction x using Nd.ind with
  | h k n t ns xs ih => exact laws_heldNodeS xs ih
set_option maxRecDepth 100000 in
set_option maxHeartbeats 4000000 in
theorem laws_heldNode (a : Nd) (v : Value) (k : Nat) (z : Int) (w : World) (hz : z = (k : Int)) (hv : InN w (All w) (Nd.mkTop k a) v) (hk0 : 0 < k) (hkn : k + Nd.cntT a ≤ 4611686018427387904) :
    Calls Tryd.prog 24 #[v, .int .i64 z] w fun e w' => e = .returned (.int .i64 ((k : Int) + (Nd.cntT a : Int))) ∧ Below w.heap.size w w' := by
  subst hz
  cases a with
  | mk kd nn tt ns xs =>
  rw [Nd.mkTop] at hv
  obtain ⟨An, cn, Ai, ci, rfl, hrn, -, -, hri⟩ := hv.parts
  rw [marksS_length, Nd.mkNs_len] at *
  simp only [Nd.cntT] at hkn
  have hA0 := (Below.refl w.heap.size w).alloc (Nat.le_refl _) (.cells (ndCells kd nn tt An ns.length cn Ai xs.length ci) 26)
  have HX0 := Lib.hid (heap_alloc_new w (.cells (ndCells kd nn tt An ns.length cn Ai xs.length ci) 26))
  have HRN := Lib.hid (hrn.now hA0)
  have HRI := Lib.hid (hri.now hA0)
  have HB0 := Lib.hid hA0
  have hs0 : (w.alloc (.cells (ndCells kd nn tt An ns.length cn Ai xs.length ci) 26)).heap.size = w.heap.size + 1 := by simp
  clear hv hrn hri hA0
  go_enter Tryd.func24, Tryd.ntmps24
  obtain ⟨⟨x0, x1, x2, x3, x4⟩, -⟩ := box_five HX0.out
  go_wp2_with fail
  generalize w.alloc (.cells (ndCells kd nn tt An ns.length cn Ai xs.length ci) 26) = w0 at *
  refine (laws_heldStringS_at ns.length An cn k _ w0 rfl HRN.out hk0 (by omega)).mono ?_
  rintro e w1 ⟨rfl, hb⟩
  have HB1 := Lib.hid (HB0.out.trans (hb.mono HB0.out.size))
  have HRI1 := Lib.hid (HRI.out.now hb)
  obtain ⟨⟨y0, y1, y2, y3, y4⟩, -⟩ := box_five (bx_keep HX0.out hb)
  have hnn : ((k : Int) + (ns.length : Int) < 0) = False := by rw [eq_iff_iff, iff_false]; omega
  clear hb x0 x1 x2 x3 x4
  go_wp2_with fail
  have HMC := laws_heldNodeS_all (.mk kd nn tt ns xs)
  refine (HMC Ai ci (k + ns.length) _ w1 (by omega) HRI1.out (by omega) (by simp only [Nd.inside]; omega)).mono ?_
  simp only [Nd.inside]
  rintro e w2 ⟨rfl, hb⟩
  have HB2 := Lib.hid (HB1.out.trans (hb.mono HB1.out.size))
  have hm : ((k + ns.length : Nat) : Int) + (Nd.cntMs xs : Int) = (k : Int) + ((ns.length + Nd.cntMs xs : Nat) : Int) := by omega
  rw [hm]
  generalize hq : ns.length + Nd.cntMs xs = q at *
  have hm2 : ((k : Int) + (q : Int) < 0) = False := by rw [eq_iff_iff, iff_false]; omega
  clear hb hm hnn y0 y1 y2 y3 y4
  go_wp2
  go_ret
  exact ⟨ret_int (by simp only [Nd.cntT]; omega), HB2.out⟩
end Go.Proofs.YtdmmnjnbjigdeaaDoor

namespace Go.Proofs.YtdmmnjnbjigdeaaDoor
open Go.RowKit Go.ChangeShapes Go.WideShapes Go.ChangeAt Go.Joins
open Go.ChangeMaps (open_string shut_string)

theorem readNode_size {s : Tx} (hs : s.length ≤ 1048576) : Nd.size ((readNode s).getD zeroNd) ≤ 1048576 := by
  cases h : readNode s with
  | none => exact Nat.zero_le _
  | some x =>
    have h2 : readBy (rdI 4) s = some x := h
    unfold readBy at h2
    cases h3 : rdI 4 s with
    | none => rw [h3] at h2; cases h2
    | some q =>
      obtain ⟨y, r⟩ := q
      rw [h3] at h2
      simp only at h2
      split at h2
      · injection h2 with h2
        subst h2
        have := rdI_sz 4 s y r h3
        simp only [Option.getD_some]
        omega
      · cases h2
theorem laws_markNode1 (a : Nd) (r : Raw) (L : List Nat) (w : World) (ht : OwT w a r L) (hnd : L.Nodup) (hs : Nd.size a ≤ 1048576) :
    Calls Tryd.prog 23 #[r.v, .int .i64 1] w fun e w' => e = .returned (.int .i64 (1 + (Nd.cntT a : Int))) ∧ OwT w' (Nd.mkTop 1 a) r L ∧ Chg w w' L :=
  laws_markNode a r L 1 1 w rfl ht hnd (by omega) (by have := Nd.cntT_size a; omega)
theorem laws_heldNode1 (a : Nd) (v : Value) (w : World) (hv : InN w (All w) (Nd.mkTop 1 a) v) (hs : Nd.size a ≤ 1048576) :
    Calls Tryd.prog 24 #[v, .int .i64 1] w fun e w' => e = .returned (.int .i64 (1 + (Nd.cntT a : Int))) ∧ Below w.heap.size w w' :=
  laws_heldNode a v 1 1 w rfl hv (by omega) (by have := Nd.cntT_size a; omega)
theorem OwT.all {w : World} {x : Nd} {r : Raw} {L : List Nat} (h : OwT w x r L) : InN w (All w) x r.v := OwT.inN x r L h (fun b hb => OwT.lt x r L h b hb)
theorem OwT.now {w w' : World} {x : Nd} {r : Raw} {L : List Nat} (h : OwT w x r L) (hb : Below w.heap.size w w') : OwT w' x r L := OwT.keep x r L h (fun b hbL => hb.block b (OwT.lt x r L h b hbL))
set_option maxRecDepth 100000 in
set_option maxHeartbeats 16000000 in
theorem exactReadNode_walk (s : Tx) (w : World) (hs : s.length ≤ maxLen) (henv : Env w) (herr : ErrIs w) :
    Calls Tryd.prog 7 #[.string ⟨s.toArray⟩] w fun e w' => e = .returned (.bool true) ∧ Below w.heap.size w w' := by
  unfold maxLen at hs
  by_cases hbig : 1048576 < s.length
  · go_enter Tryd.func7, Tryd.ntmps7
    go_wp2
    go_ret
    exact ⟨rfl, Below.refl _ _⟩
  have HENV := Lib.hid henv
  have HERR := Lib.hid herr
  have HIM := Lib.hid (fun w3 (hb : Below w.heap.size w w3) => impl_ReadNode s w3 (by omega) (HENV.out.below hb) (HERR.out.below hb))
  have HSP0 := Lib.hid (spec_ReadNode s w (by omega) henv)
  have hO := readNode_size (s := s) (by omega)
  clear henv herr
  generalize readNode s = o at *
  have HFO := Lib.hid (Nd.fit_size _ hO)
  have HEO := Lib.hid (fun w9 u v (hu : InN w9 (All w9) (o.getD zeroNd) u) (hv : InN w9 (All w9) (o.getD zeroNd) v) => laws_eqNode (o.getD zeroNd) (o.getD zeroNd) u v w9 hu hv HFO.out HFO.out)
  rw [Nd.same_self] at HEO
  have hco : (1 + (Nd.cntT (o.getD zeroNd) : Int) < 0) = False := by rw [eq_iff_iff, iff_false]; omega
  have hoo : (o.isSome != o.isSome) = false := by simp
  have hqq : ((1 + (Nd.cntT (o.getD zeroNd) : Int)) != (1 + (Nd.cntT (o.getD zeroNd) : Int))) = false := by simp
  go_enter Tryd.func7, Tryd.ntmps7
  go_wp2_with fail
  refine HSP0.out.mono ?_
  rintro e w3 ⟨⟨k6, n6, t6, A6, l6, c6, B6, m6, d6⟩, L3, rfl, ho3, _, _, hb⟩
  have HA3 := Lib.hid ((Below.refl w3.heap.size w3).alloc (Nat.le_refl _) (.cells (ndCells k6 n6 t6 A6 l6 c6 B6 m6 d6) 26))
  have HB3 := Lib.hid (hb.trans (HA3.out.mono hb.size))
  have HP3 := Lib.hid (heap_alloc_new w3 (.cells (ndCells k6 n6 t6 A6 l6 c6 B6 m6 d6) 26))
  have HI3 := Lib.hid (ho3.all.now HA3.out)
  have HIM3 := Lib.hid (HIM.out _ HB3.out)
  clear hb ho3 HSP0 HA3
  -- g0 := impl.ReadNode
  go_upto_region 4 with fail
  generalize w3.alloc (.cells (ndCells k6 n6 t6 A6 l6 c6 B6 m6 d6) 26) = W3 at *
  go_wp2_with fail
  refine HIM3.out.mono ?_
  rintro e w5 ⟨⟨k9, n9, t9, A9, l9, c9, B9, m9, d9⟩, L5, rfl, ho5, hn5, hr5, hb⟩
  have HA5 := Lib.hid ((Below.refl w5.heap.size w5).alloc (Nat.le_refl _) (.cells (ndCells k9 n9 t9 A9 l9 c9 B9 m9 d9) 26))
  have HB35 := Lib.hid (hb.trans (HA5.out.mono hb.size))
  have HO5 := Lib.hid (ho5.now HA5.out)
  have HN5 := Lib.hid hn5
  have HR5 : Hid (∀ b ∈ L5, W3.heap.size ≤ b ∧ b < w5.heap.size) := fun b hb => ⟨hr5 b hb, OwT.lt _ _ _ ho5 b hb⟩
  have HP5 := Lib.hid (heap_alloc_new w5 (.cells (ndCells k9 n9 t9 A9 l9 c9 B9 m9 d9) 26))
  have HE5 := Lib.hid (HEO.out _ _ _ HO5.out.all (HI3.out.now HB35.out))
  clear hb ho5 hn5 hr5 HIM3 HA5
  go_upto_region 5 with fail
  generalize w5.alloc (.cells (ndCells k9 n9 t9 A9 l9 c9 B9 m9 d9) 26) = W5 at *
  obtain ⟨⟨y0, y1, y2, y3, y4⟩, -⟩ := box_five HP5.out
  obtain ⟨⟨p0, p1, p2, p3, p4⟩, -⟩ := box_five (bx_keep HP3.out HB35.out)
  -- eqNode(g0, w0)
  go_wp2_with fail
  refine HE5.out.mono ?_
  rintro e w6 ⟨rfl, hb⟩
  have HB36 := Lib.hid (HB35.out.trans (hb.mono HB35.out.size))
  have HO6 := Lib.hid (HO5.out.now hb)
  have HP6 := Lib.hid (bx_keep HP5.out hb)
  have HM6 := Lib.hid (laws_markNode1 _ _ L5 w6 HO6.out HN5.out hO)
  clear hb HE5 y0 y1 y2 y3 y4 p0 p1 p2 p3 p4
  obtain ⟨⟨y0, y1, y2, y3, y4⟩, -⟩ := box_five HP6.out
  -- markNode(g0)
  go_wp2_with fail
  refine HM6.out.mono ?_
  rintro e w10 ⟨rfl, ho, hc⟩
  have hcb : Below W3.heap.size w6 w10 := hc.below HB36.out.size (fun b hb => (HR5.out b hb).1)
  have HB310 := Lib.hid (HB36.out.trans hcb)
  have HO10 := Lib.hid ho
  have hp10 := (hc.block w5.heap.size (lt_of_block HP6.out) (fun e => by have := HR5.out _ e; omega)).trans HP6.out
  have HP10 := Lib.hid hp10
  have HH10 := Lib.hid (laws_heldNode1 _ _ w10 ho.all hO)
  clear ho hc hcb HM6 y0 y1 y2 y3 y4 HO6 HP6
  obtain ⟨⟨y0, y1, y2, y3, y4⟩, -⟩ := box_five hp10
  clear hp10
  -- heldNode(g0)
  go_wp2_with fail
  refine HH10.out.mono ?_
  rintro e w11 ⟨rfl, hb⟩
  have HB311 := Lib.hid (HB310.out.trans (hb.mono HB310.out.size))
  have HO11 := Lib.hid (HO10.out.now hb)
  have HP11 := Lib.hid (bx_keep HP10.out hb)
  have HB11 := Lib.hid (HB3.out.trans (HB311.out.mono HB3.out.size))
  have HIM11 := Lib.hid (HIM.out w11 HB11.out)
  clear hb HH10 HO10 HP10 y0 y1 y2 y3 y4
  -- h0 := impl.ReadNode
  go_wp2_with fail
  refine HIM11.out.mono ?_
  rintro e w13 ⟨⟨k5, n5, t5, A5, l5, c5, B5, m5, d5⟩, L13, rfl, ho13, _, _, hb⟩
  have HA13 := Lib.hid ((Below.refl w13.heap.size w13).alloc (Nat.le_refl _) (.cells (ndCells k5 n5 t5 A5 l5 c5 B5 m5 d5) 26))
  have HBt := Lib.hid (hb.trans (HA13.out.mono hb.size))
  have HB313 := Lib.hid (HB311.out.trans (HBt.out.mono HB311.out.size))
  have HO13 := Lib.hid (HO11.out.now HBt.out)
  have HP13 := Lib.hid (bx_keep HP11.out HBt.out)
  have HE13 := Lib.hid (HEO.out _ _ _ (ho13.all.now HA13.out) (HI3.out.now HB313.out))
  have HQ13 := Lib.hid (heap_alloc_new w13 (.cells (ndCells k5 n5 t5 A5 l5 c5 B5 m5 d5) 26))
  clear hb ho13 HIM11 HO11 HP11 HA13
  go_upto_region 16 with fail
  generalize w13.alloc (.cells (ndCells k5 n5 t5 A5 l5 c5 B5 m5 d5) 26) = W13 at *
  obtain ⟨⟨y0, y1, y2, y3, y4⟩, -⟩ := box_five HQ13.out
  obtain ⟨⟨p0, p1, p2, p3, p4⟩, -⟩ := box_five (bx_keep HP3.out HB313.out)
  go_wp2_with fail
  refine HE13.out.mono ?_
  rintro e w14 ⟨rfl, hb⟩
  have HB314 := Lib.hid (HB313.out.trans (hb.mono HB313.out.size))
  have HO14 := Lib.hid (HO13.out.now hb)
  have HH14 := Lib.hid (laws_heldNode1 _ _ w14 HO14.out.all hO)
  obtain ⟨⟨q0, q1, q2, q3, q4⟩, -⟩ := box_five (bx_keep HP13.out hb)
  clear hb HE13 HO13 HP13 y0 y1 y2 y3 y4 p0 p1 p2 p3 p4
  go_wp2_with fail
  refine HH14.out.mono ?_
  rintro e w15 ⟨rfl, hb⟩
  have HB315 := Lib.hid (HB314.out.trans (hb.mono HB314.out.size))
  have HB15 := Lib.hid (HB3.out.trans (HB315.out.mono HB3.out.size))
  clear hb
  go_wp2
  go_ret
  exact ⟨rfl, HB15.out⟩

set_option maxRecDepth 100000 in
theorem fnExactReadNode_lifted (os : Os) (started : os.Started) (H : Type) (enc : TypeId × Value → H) :
    ReturnsInHanded {} Tryd.checked os 7 .any (fun w args => (Rows.fnExactReadNodeSpec.pre enc Tryd.prog Tryd.f7 Rows.fnExactReadNodeRow.domain false w args ∧ laidMetH Tryd.prog Rows.fnExactReadNodeRow.laid w) ∧ sizedMet enc Tryd.prog Tryd.f7 (OpenSpec.ofChange Rows.fnExactReadNodeSpec) false w args)
      (Rows.fnExactReadNodeSpec.post enc Tryd.prog Tryd.f7 false true false false) := by
  refine returnsInHanded_of_change_and_shaped (C := Tryd.checked) (X := fun w _ => laidMetH Tryd.prog Rows.fnExactReadNodeRow.laid w) (fun _ _ _ hh h => h.of_heap hh) Tryd.own started (by kernel_rfl) Tryd.func7
    (ChangeSpec.witness_shaped (enc := enc) (C := Tryd.checked) (os := os) (X := fun w _ => laidMetH Tryd.prog Rows.fnExactReadNodeRow.laid w) false (World.laidAll Tryd.prog os Rows.fnExactReadNodeRow.laid) #[.string ⟨#[]⟩] 8 (World.laidAll_os _ _ _)
      (World.shaped_of_ZipB (by kernel_rfl) (by kernel_rfl)) (by kernel_rfl) (by kernel_rfl) (by kernel_rfl)
      (by rw [MakeChecks.laidMetH_plain _ _ _ (by kernel_rfl)]; exact laidMet_laidAll _ (by kernel_rfl) (by kernel_rfl))) ?_
  intro W base args ds gs before hval0 hW _ _ hlaid hsh _
  have hval : ∀ (j : Nat) t v, Tryd.f7.params[j]? = some t → args[j]? = some v → Value.okWide Tryd.prog W .any base t v := hval0
  have hW' := hW
  obtain ⟨p, q, hA0, hV, rfl, _, _⟩ := hW
  have hA : DataW.TrodAll enc Tryd.prog W 0 (fun _ => true) true Tryd.f7.params.toList args.toList ds p := hA0
  rw [Tryd.params7] at hA hval
  obtain ⟨v0, d0, rfl, rfl, h0⟩ := trodAll_one hA
  obtain ⟨rfl, rfl⟩ := trodVars_none hV
  obtain ⟨s0, rfl, rfl, rfl, hnm⟩ := open_string Tryd.underlying9 (hval 0 _ v0 rfl rfl) h0
  obtain ⟨s, rfl⟩ := tx_of s0
  have hlaid2 : laidMetH Tryd.prog Rows.fnExactReadNodeRow.laid W := hlaid
  rw [MakeChecks.laidMetH_plain _ _ _ (by kernel_rfl)] at hlaid2
  have henv : Env W := env_of hsh hlaid2 (List.mem_of_getElem? (i := 2) (by kernel_rfl))
  have herr : ErrIs W := errIs_of_mem (nm := "*errors.errorString") (d := .ptr (.agg [.lit (.string [105, 110, 118, 97, 108, 105, 100, 32, 115, 121, 110, 116, 97, 120])])) (t := 78) (by kernel_rfl) Tryd.underlying78 hlaid2 (List.mem_of_getElem? (i := 5) (by kernel_rfl))
  refine (exactReadNode_walk s W hnm henv herr).mono fun e W' ⟨he, hw⟩ => ?_
  subst he
  exact ⟨_, rfl, law_post hW' rfl rfl (by kernel_rfl) Tryd.underlying4 Tryd.laidOut (of_decide_eq_true (by kernel_rfl)) hw⟩

theorem fnExactReadNode_holds : Rows.FnExactReadNodeSaid :=
  OpenClaim.holds_of_wide 7 Tryd.f7 rfl rfl rfl rfl rfl rfl rfl ⟨rfl, rfl, rfl, rfl, rfl⟩ rfl rfl rfl rfl rfl (by kernel_rfl) Tryd.func7 (by kernel_rfl)
    (of_decide_eq_true (by kernel_rfl)) (by unfold Func.isWrapper; first | (rw [if_pos (by decide +kernel)]; kernel_rfl) | (rw [if_neg (by decide +kernel)]; exact ⟨rfl, rfl⟩))
    (fun os started H enc _ => fnExactReadNode_lifted os started H enc)

theorem fnExactReadNode_cardHolds : Rows.FnExactReadNodeCardSaid :=
  Claim7.holds_tied_plain_at .later [] _ true _ true fnExactReadNode_holds (fun _ h => by cases h) (by kernel_rfl) (fun _ h => by cases h) fnExactReadNode_row_tie rfl ⟨rfl, rfl⟩ (by kernel_rfl) rfl
    (fun f fn hf hfn => by
      obtain rfl : f = 7 := Option.some.inj ((show Tryd.prog.funcNamed "loop.example/templateescaper/laws.FnExactReadNode" = some 7 by kernel_rfl).symm.trans hf) |>.symm
      obtain rfl : fn = Tryd.f7 := (Option.some.inj (Tryd.func7.symm.trans hfn)).symm
      exact ⟨by kernel_rfl, fun j t ht => by
        rw [Tryd.params7] at ht
        have hm : t ∈ [9] := by simpa using Array.mem_of_getElem? ht
        have hall : ([9].all fun u => !Tryd.prog.wantsStandIn u) = true := by kernel_rfl
        exact (show Tryd.prog.wantsStandIn t = false by simpa using List.all_eq_true.1 hall t hm)⟩)
    (by kernel_rfl)

#print axioms fnExactReadNode_cardHolds
end Go.Proofs.YtdmmnjnbjigdeaaDoor
