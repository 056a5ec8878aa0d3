/- For every code: the program and the reference read the drawn text alike; what is read is written as the text again, and with a space behind it the text is refused: the card FnReadNodeCardSaid holds. No conditions. -/
import Derived.Test.YtdmmnjnbjigdeaaDoorNodeSI
import Derived.Test.YtdmmnjnbjigdeaaDoorNodeNum
import Derived.Deep.CutBlock
import Derived.Test.YtdmmnjnbjigdeaaDoorNodeRP
import Derived.Test.YtdmmnjnbjigdeaaDoorNodeRN
import Derived.Test.YtdmmnjnbjigdeaaDoorNodeWT
import Derived.Test.YtdmmnjnbjigdeaaDoorBase
import Derived.Test.YtdmmnjnbjigdeaaDoorTie
import Derived.Test.YtdmmnjnbjigdeaaDoorCards
import Derived.ProofKit
import Derived.OpenShut
import Derived.LaidMore
import Derived.Lay
import Derived.SevenTiedAt
import Derived.Stop.Joined
import Derived.Test.YtdmmnjnbjigdeaaDoorNodeDrawP
import Derived.Test.YtdmmnjnbjigdeaaDoorNodeWalkP
import Derived.Test.YtdmmnjnbjigdeaaDoorNodeLawP
import Derived.Test.YtdmmnjnbjigdeaaDoorLower
/- Records, read, of spec: a walk. -/
namespace Go.Proofs.YtdmmnjnbjigdeaaDoor
open Go.RowKit

theorem rdName_hit {ns : List Tx} {s u : Tx} {p : Tx × Tx} (h : rdQ s = some p) (hp : after 58 p.2 = some u) : rdName true ns s = some (ns ++ [p.1], u) := by simp [rdName, h, hp]
theorem rdName_miss {ns : List Tx} {s : Tx} {p : Tx × Tx} (h : rdQ s = some p) (hp : after 58 p.2 = none) : rdName true ns s = none := by simp [rdName, h, hp]
set_option maxRecDepth 100000 in
set_option maxHeartbeats 4000000 in
theorem spec_insideR (d : Nat) (HC : RsC d) (s : Tx) (i : Nat) (w : World) (hl : s.length ≤ 4000000) (hd : d ≤ 10) (hi : i < s.length) (h123 : s[i] = 123) :
    Calls Tryd.prog 67 #[.string ⟨s.toArray⟩, .int .i64 i, .int .i64 ((d : Int) + 1)] w (NewRs w s i (insS (rdS d) true 7 [] [] (s.drop (i + 1)))) := by
  have HC := Lib.hid HC
  obtain ⟨hB0, hX0, hY0⟩ := two_boxes w #[.int .i64 0, .int .i64 0, .string ⟨#[]⟩, .slice none 0 0, .slice none 0 0] (ndCells 5 0 [] none 0 0 none 0 0) 26 26
  have hs0 : ((w.alloc (.cells #[.int .i64 0, .int .i64 0, .string ⟨#[]⟩, .slice none 0 0, .slice none 0 0] 26)).alloc (.cells (ndCells 5 0 [] none 0 0 none 0 0) 26)).heap.size = w.heap.size + 2 := by simp
  have HBa := Lib.hid hB0
  have HXa := Lib.hid hX0
  have HYa := Lib.hid hY0
  have HSa := Lib.hid hs0
  clear hB0 hX0 hY0 hs0
  have m91 : ((s[i].toNat : Int) == 123) = true := by rw [h123]; decide
  obtain ⟨O, hoo⟩ : ∃ O, insS (rdS d) true 7 [] [] (s.drop (i + 1)) = O := ⟨_, rfl⟩
  rw [hoo]
  have HO := Lib.hid hoo
  clear hoo
  go_enter Tryd.func67, Tryd.ntmps67
  go_upto_region 3 with fail
  generalize (w.alloc (.cells #[.int .i64 0, .int .i64 0, .string ⟨#[]⟩, .slice none 0 0, .slice none 0 0] 26)).alloc (.cells (ndCells 5 0 [] none 0 0 none 0 0) 26) = wa0 at *
  obtain ⟨⟨y0, y1, y2, y3, y4⟩, y5, y6, y7, y8, y9⟩ := box_five HYa.out
  go_upto_region 6 with fail
  have HB0 := Lib.hid (Below.setCell HBa.out (p := ⟨w.heap.size + 1, 0, none⟩) (Nat.le_succ _) (.int .i64 6))
  have HX0 : Hid ((wa0.setCell ⟨w.heap.size + 1, 0, none⟩ (.int .i64 6)).heap[w.heap.size]? = some (.cells #[.int .i64 0, .int .i64 0, .string ⟨#[]⟩, .slice none 0 0, .slice none 0 0] 26 (0, 0))) := (Below.heap_setCell _ _ _ _ (by show w.heap.size ≠ w.heap.size + 1; omega)).trans HXa.out
  have HY0 : Hid ((wa0.setCell ⟨w.heap.size + 1, 0, none⟩ (.int .i64 6)).heap[w.heap.size + 1]? = some (.cells (ndCells 6 0 [] none 0 0 none 0 0) 26 (0, 0))) := cells_set HYa.out
  have HS0 : Hid ((wa0.setCell ⟨w.heap.size + 1, 0, none⟩ (.int .i64 6)).heap.size = w.heap.size + 2) := by show _ = _; rw [← HSa.out]; simp [World.setCell]
  clear y0 y1 y2 y3 y4 y5 y6 y7 y8 y9
  generalize wa0.setCell ⟨w.heap.size + 1, 0, none⟩ (.int .i64 6) = w0 at *
  go_wp2
  have hs0 := HS0.out
  have HT0 : Hid (TBx w0 (w.heap.size + 1) (w.heap.size + 2) 6 0 [] none 0 [] none 0 [] [] []) := ⟨HY0.out, ownS_nil _ _, ownN_nil _ _, by simp [OwTs], by simp [bk, Value.ownBlock], (by intro j hj; cases hj), by omega, by omega⟩
  go_loopw [1] (fun v wr => ∃ (a : Nat) (ns : List Tx) (A0 : Option Addr) (c0 : Nat) (A1 : Option Addr) (c1 : Nat) (rs : List Raw) (xs : List Nd) (L : List Nat), v = .int .i64 a ∧ i < a ∧ a ≤ s.length ∧ xs.length ≤ 6 ∧ insS (rdS d) true (7 - xs.length) ns xs (s.drop a) = O ∧ ns.length = xs.length ∧ TBx wr (w.heap.size + 1) (w.heap.size + 2) 6 0 [] A0 c0 ns A1 c1 rs xs L ∧ wr.heap[w.heap.size]? = some (.cells #[.int .i64 0, .int .i64 0, .string ⟨#[]⟩, .slice none 0 0, .slice none 0 0] 26 (0, 0)) ∧ Below w.heap.size w wr) (fun v _ => s.length - (intOf v).toNat)
  case atStart => exact ⟨i + 1, [], none, 0, none, 0, [], [], [], by go_num, by omega, by omega, by simp, HO.out, rfl, HT0.out, HX0.out, HB0.out⟩
  case round =>
    obtain ⟨a, ns, A0, c0, A1, c1, rs, xs, L, rfl, hia, hal, hxl, hin, hnl, ht, hy, hb⟩ := hrel
    have HNL := Lib.hid hnl
    have hn6 : ns.length ≤ 6 := by omega
    clear hnl
    have HT := Lib.hid ht
    have HY := Lib.hid hy
    have HB := Lib.hid hb
    have HIN := Lib.hid hin
    have hrl : rs.length = xs.length := ht.els.len
    have HRL := Lib.hid hrl
    have hr6 : rs.length ≤ 6 := by omega
    obtain ⟨⟨y0, y1, y2, y3, y4⟩, y5, y6, y7, y8, y9⟩ := box_five HY.out
    obtain ⟨⟨z0, z1, z2, z3, z4⟩, z5, z6, z7, z8, z9⟩ := box_five HT.out.box
    clear ht hy hb hin m91 hrl
    have HF : Hid (7 - xs.length = (6 - xs.length) + 1) := by show _ = _; omega
    by_cases hlt : a < s.length
    case neg =>
      have HN : Hid (O = none) := by show _ = _; rw [← HIN.out, drop_nil s a (by omega), HF.out, insS_nil]
      clear HIN
      go_wp2
      refine bodyPost_ret (v := .tuple #[ndV 0 0 [] none 0 0 none 0 0, .int .i64 (-1)]) (by simp [results, Tryd.results67, go_sem, *]) rfl ?_
      refine newRs_none w.heap.size (.int .i64 0) (.int .i64 0) (sv []) (.slice none 0 0) (.slice none 0 0) 0 0 [] (HB.out) (Nat.le_refl _) ?_
      exact HN.out
    have hD := drop_cons s a hlt
    cases he : (s[a] == 125)
    case true =>
      have me : ((s[a].toNat : Int) != 125) = false := by have : ((s[a].toNat : Int) == 125) = true := byte_eqR he; rw [bne, this]; rfl
      have HN : Hid (O = some (.mk 6 0 [] ns xs, s.drop (a + 1))) := by show _ = _; rw [← HIN.out, HF.out, insS_end (u := s.drop (a + 1)) (by rw [hD, after_cons, show endB true = 125 from rfl, he]; rfl)]; rfl
      clear HIN hD he
      go_wp2
      refine bodyPost_ret (v := .tuple #[ndV 6 0 [] A0 ns.length c0 A1 rs.length c1, .int .i64 ((a + 1 : Nat) : Int)]) (by simp [results, Tryd.results67, go_sem, *]) rfl ?_
      refine newRs_some (raw := ⟨6, 0, [], A0, ns.length, c0, A1, rs.length, c1⟩) (L := _) (x := .mk 6 0 [] ns xs) (w' := wr) w.heap.size (.int .i64 6) (.int .i64 0) (sv []) (.slice A0 ns.length c0) (.slice A1 rs.length c1) (a + 1) HT.out.node HT.out.nodup ?_ HB.out (Nat.le_refl _) (by omega) (by omega) HN.out
      intro j hj; have := HT.out.lts j hj; omega
    case false =>
    have me : ((s[a].toNat : Int) != 125) = true := by have : ((s[a].toNat : Int) == 125) = false := byte_neR he; rw [bne, this]; rfl
    have hae : after (endB true) (s.drop a) = none := by rw [hD, after_cons, show endB true = 125 from rfl, he]; rfl
    go_upto_if 36 with fail
    go_cut [1] (fun v wx => ∃ a1 : Nat, v = .int .i64 a1 ∧ i < a1 ∧ a ≤ a1 ∧ a1 ≤ s.length ∧ stS (rdS d) true (6 - xs.length) ns xs (s.drop a1) = O ∧ wr = wx)
    case first =>
      by_cases h0 : xs.length = 0
      · rw [show decide (0 < rs.length) = false from decide_eq_false (by have := HRL.out; omega)]
        have HST : Hid (stS (rdS d) true (6 - xs.length) ns xs (s.drop a) = O) := by show _ = _; rw [← HIN.out, HF.out, insS_first hae h0 (fun e => by rw [hD] at e; cases e)]
        clear HIN hD hae h0
        go_wp2
        go_meet
        case rel => exact ⟨a, rfl, hia, Nat.le_refl _, hal, HST.out, rfl⟩
      · rw [show decide (0 < rs.length) = true from decide_eq_true (by have := HRL.out; omega)]
        cases hc : (s[a] == 44)
        · have mc : ((s[a].toNat : Int) != 44) = true := by have : ((s[a].toNat : Int) == 44) = false := byte_neR hc; rw [bne, this]; rfl
          have HN : Hid (O = none) := by show _ = _; rw [← HIN.out, HF.out, insS_no hae h0 (by rw [hD, after_cons, hc]; rfl)]
          clear HIN hD hae h0
          go_wp2
          refine bodyPost_ret (v := .tuple #[ndV 0 0 [] none 0 0 none 0 0, .int .i64 (-1)]) (by simp [results, Tryd.results67, go_sem, *]) rfl ?_
          refine newRs_none w.heap.size (.int .i64 0) (.int .i64 0) (sv []) (.slice none 0 0) (.slice none 0 0) 0 0 [] (HB.out) (Nat.le_refl _) ?_
          exact HN.out
        · have mc : ((s[a].toNat : Int) != 44) = false := by have : ((s[a].toNat : Int) == 44) = true := byte_eqR hc; rw [bne, this]; rfl
          have HST : Hid (stS (rdS d) true (6 - xs.length) ns xs (s.drop (a + 1)) = O) := by show _ = _; rw [← HIN.out, HF.out, insS_next hae h0 (by rw [hD, after_cons, hc]; rfl)]
          clear HIN hD hae h0
          go_wp2
          go_meet
          case rel => exact ⟨a + 1, by go_num, by omega, by omega, by omega, HST.out, rfl⟩
    case rest =>
      obtain ⟨a1, rfl, hia1, haa, hal1, hst, rfl⟩ := hcut
      have HST := Lib.hid hst
      clear hst HIN hD hae me he
      have HWD := Lib.hid (fun w3 => spec_l26Word s hl a1 (by omega) w3)
      cases hq0 : rdQ (s.drop a1) with
      | none =>
        have HN : Hid (O = none) := by show _ = _; rw [← HST.out, stS, show rdName true ns (s.drop a1) = none by simp [rdName, hq0]]
        rw [hq0] at HWD
        have HWV : Hid (∀ w3, Calls Tryd.prog 66 #[sv s, .int .i64 a1] w3 fun e w' => e = .returned (.tuple #[sv [], .int .i64 (-1)]) ∧ w3 = w') := HWD.out
        clear hq0 HST HWD
        go_wp2_with fail
        refine (HWV.out _).mono ?_
        rintro e w3 ⟨rfl, rfl⟩
        go_wp2
        refine bodyPost_ret (v := .tuple #[ndV 0 0 [] none 0 0 none 0 0, .int .i64 (-1)]) (by simp [results, Tryd.results67, go_sem, *]) rfl ?_
        refine newRs_none w.heap.size (.int .i64 0) (.int .i64 0) (sv []) (.slice none 0 0) (.slice none 0 0) 0 0 [] (HB.out) (Nat.le_refl _) ?_
        exact HN.out
      | some p =>
      obtain ⟨kq, hk0, hkl, hkd⟩ := rdQ_suf hq0
      rw [List.length_drop] at hkl
      rw [List.drop_drop] at hkd
      have hnx : s.length - p.2.length = a1 + kq := by rw [hkd, List.length_drop]; omega
      have hn0 : ((a1 + kq : Nat) : Int) < 0 ↔ False := by simp; omega
      rw [hq0] at HWD
      have HWV : Hid (∀ w3, Calls Tryd.prog 66 #[sv s, .int .i64 a1] w3 fun e w' => e = .returned (.tuple #[sv p.1, .int .i64 ((a1 + kq : Nat) : Int)]) ∧ w3 = w') := fun w3 => by
        have := HWD.out w3
        rw [wdV, hnx] at this
        exact this
      generalize hnb : a1 + kq = nb at *
      clear HWD hnx hn0
      have hnl1 : nb ≤ s.length := by omega
      by_cases hnl2 : nb < s.length
      case neg =>
        have HN : Hid (O = none) := by show _ = _; rw [← HST.out, stS, rdName_miss hq0 (by rw [hkd, drop_nil s nb (by omega)]; rfl)]
        clear hq0 HST hkd
        go_wp2_with fail
        refine (HWV.out _).mono ?_
        rintro e w3 ⟨rfl, rfl⟩
        go_wp2
        refine bodyPost_ret (v := .tuple #[ndV 0 0 [] none 0 0 none 0 0, .int .i64 (-1)]) (by simp [results, Tryd.results67, go_sem, *]) rfl ?_
        refine newRs_none w.heap.size (.int .i64 0) (.int .i64 0) (sv []) (.slice none 0 0) (.slice none 0 0) 0 0 [] (HB.out) (Nat.le_refl _) ?_
        exact HN.out
      have hDn := drop_cons s nb hnl2
      cases hcol : (s[nb] == 58)
      case false =>
        have mn : ((s[nb].toNat : Int) != 58) = true := by have : ((s[nb].toNat : Int) == 58) = false := byte_neR hcol; rw [bne, this]; rfl
        have HN : Hid (O = none) := by show _ = _; rw [← HST.out, stS, rdName_miss hq0 (by rw [hkd, hDn, after_cons, hcol]; rfl)]
        clear hq0 HST hkd hDn hcol
        go_wp2_with fail
        refine (HWV.out _).mono ?_
        rintro e w3 ⟨rfl, rfl⟩
        go_wp2
        refine bodyPost_ret (v := .tuple #[ndV 0 0 [] none 0 0 none 0 0, .int .i64 (-1)]) (by simp [results, Tryd.results67, go_sem, *]) rfl ?_
        refine newRs_none w.heap.size (.int .i64 0) (.int .i64 0) (sv []) (.slice none 0 0) (.slice none 0 0) 0 0 [] (HB.out) (Nat.le_refl _) ?_
        exact HN.out
      have mn : ((s[nb].toNat : Int) != 58) = false := by have : ((s[nb].toNat : Int) == 58) = true := byte_eqR hcol; rw [bne, this]; rfl
      have HRN : Hid (rdName true ns (s.drop a1) = some (ns ++ [p.1], s.drop (nb + 1))) := rdName_hit hq0 (by rw [hkd, hDn, after_cons, hcol]; rfl)
      clear hq0 hkd hDn hcol
      have HA1 := Lib.hid ((Below.refl wr.heap.size wr).alloc (Nat.le_refl _) (.cells #[sv p.1] 9))
      have HXA := Lib.hid (heap_alloc_new wr (.cells #[sv p.1] 9))
      have HTA := Lib.hid (HT.out.keep HA1.out)
      have HYA := Lib.hid (bx_keep HY.out HA1.out)
      have HBA := Lib.hid (HB.out.trans (HA1.out.mono HB.out.size))
      go_wp2_with fail
      refine (HWV.out _).mono ?_
      rintro e w3 ⟨rfl, rfl⟩
      go_wp2_with (at_builtin; refine app_strb_at rfl _ _ rfl (w.heap.size + 2) A0 c0 ns p.1 (by rfl) HTA.out.nown wr.heap.size (by rfl) HXA.out ?_ HTA.out.le ?_; (focus omega); intro A3 c3 w5 ho5 hg5 hbk5; obtain ⟨⟨f0, f1, f2, f3, f4⟩, f5, f6, f7, f8, f9⟩ := box_five (HTA.out.boxN hg5))
      have HT9 := Lib.hid (HTA.out.appN ho5 hg5 (by rw [show (ns ++ [p.1]).length = ns.length + 1 by simp]; exact hbk5) (.slice A3 (ns.length + 1) c3) (by simp))
      have HB9 := Lib.hid (Below.setCell (HBA.out.trans (grown_to_below hg5 HBA.out.size (fun g e => by have := ownS_row HTA.out.nown g e; omega))) (p := ⟨w.heap.size + 1, 3, none⟩) (Nat.le_succ _) (.slice A3 (ns.length + 1) c3))
      have HY9 : Hid ((w5.setCell ⟨w.heap.size + 1, 3, none⟩ (.slice A3 (ns.length + 1) c3)).heap[w.heap.size]? = some (.cells #[.int .i64 0, .int .i64 0, .string ⟨#[]⟩, .slice none 0 0, .slice none 0 0] 26 (0, 0))) := (Below.heap_setCell _ _ _ _ (by show w.heap.size ≠ w.heap.size + 1; omega)).trans ((hg5.block _ (Nat.lt_of_lt_of_le (Nat.lt_add_of_pos_right (by decide)) HTA.out.le) (fun e => by have := ownS_row HTA.out.nown _ e.symm; omega)).trans HYA.out)
      generalize w5.setCell ⟨w.heap.size + 1, 3, none⟩ (.slice A3 (ns.length + 1) c3) = w4 at *
      clear f0 f1 f2 f3 f4 f5 f6 f7 f8 f9
      have HCALL := Lib.hid (HC.out s (nb + 1) w4 hl (by omega))
      refine HCALL.out.mono ?_
      rintro e w2 ⟨raw, L2, x, nx, rfl, ho2, hn2, hr2, hb2, hno, hso⟩
      have HT2 := Lib.hid (HT9.out.keep hb2)
      have HY2 := Lib.hid (bx_keep HY9.out hb2)
      have HB2 := Lib.hid (HB9.out.trans (hb2.mono HB9.out.size))
      have HO2 := Lib.hid ho2
      have HN2 := Lib.hid hn2
      have HR2 := Lib.hid hr2
      have HND := Lib.hid (HT9.out.more hn2 hr2)
      have HZ := Lib.hid (And.intro (HB9.out.size) (And.intro hb2.size HT9.out.le))
      clear y0 y1 y2 y3 y4 y5 y6 y7 y8 y9 z0 z1 z2 z3 z4 z5 z6 z7 z8 z9 ho2 hn2 hr2 hb2
      have HA := Lib.hid ((Below.refl w2.heap.size w2).alloc (Nat.le_refl _) (.cells (ndCells raw.k raw.n raw.t raw.An raw.ln raw.cn raw.Ai raw.li raw.ci) 26))
      have HX3 := Lib.hid (heap_alloc_new w2 (.cells (ndCells raw.k raw.n raw.t raw.An raw.ln raw.cn raw.Ai raw.li raw.ci) 26))
      have HT3 := Lib.hid (HT2.out.keep HA.out)
      have HY3 := Lib.hid (bx_keep HY2.out HA.out)
      have HB3 := Lib.hid (HB2.out.trans (HA.out.mono HB2.out.size))
      have hsa : (w2.alloc (.cells (ndCells raw.k raw.n raw.t raw.An raw.ln raw.cn raw.Ai raw.li raw.ci) 26)).heap.size = w2.heap.size + 1 := by simp
      have HO3 := Lib.hid (OwT.keep _ _ _ HO2.out (fun b hb => HA.out.block b (OwT.lt _ _ _ HO2.out b hb)))
      obtain ⟨⟨y0, y1, y2, y3, y4⟩, y5, y6, y7, y8, y9⟩ := box_five HY3.out
      obtain ⟨⟨z0, z1, z2, z3, z4⟩, z5, z6, z7, z8, z9⟩ := box_five HT3.out.box
      obtain ⟨⟨v0, v1, v2, v3, v4⟩, -⟩ := box_five HX3.out
      have HA4 := Lib.hid ((Below.refl (w2.alloc (.cells (ndCells raw.k raw.n raw.t raw.An raw.ln raw.cn raw.Ai raw.li raw.ci) 26)).heap.size (w2.alloc (.cells (ndCells raw.k raw.n raw.t raw.An raw.ln raw.cn raw.Ai raw.li raw.ci) 26))).alloc (Nat.le_refl _) (.cells (ndCells raw.k raw.n raw.t raw.An raw.ln raw.cn raw.Ai raw.li raw.ci) 26))
      have HX4 := Lib.hid (heap_alloc_new (w2.alloc (.cells (ndCells raw.k raw.n raw.t raw.An raw.ln raw.cn raw.Ai raw.li raw.ci) 26)) (.cells (ndCells raw.k raw.n raw.t raw.An raw.ln raw.cn raw.Ai raw.li raw.ci) 26))
      have HT4 := Lib.hid (HT3.out.keep HA4.out)
      have HY4 := Lib.hid (bx_keep HY3.out HA4.out)
      have HB4 := Lib.hid (HB3.out.trans (HA4.out.mono HB3.out.size))
      have HO4 := Lib.hid (OwT.keep _ _ _ HO3.out (fun b hb => HA4.out.block b (OwT.lt _ _ _ HO3.out b hb)))
      have hz4 := HT4.out.le
      cases ho : rdS d (s.drop (nb + 1)) with
      | none =>
        obtain rfl := hno ho
        have HN : Hid (O = none) := by show _ = _; rw [← HST.out, stS, HRN.out]; simp only []; rw [ho]
        clear hso hno ho HST
        go_wp2
        refine bodyPost_ret (v := .tuple #[ndV 0 0 [] none 0 0 none 0 0, .int .i64 (-1)]) (by simp [results, Tryd.results67, go_sem, *]) rfl ?_
        refine newRs_none w.heap.size (.int .i64 0) (.int .i64 0) (sv []) (.slice none 0 0) (.slice none 0 0) 0 0 [] (HB3.out) (Nat.le_refl _) ?_
        exact HN.out
      | some q =>
        obtain ⟨rfl, k, hik, hks, rfl, hqd⟩ := hso q ho
        have hk0 : ((k : Int) < 0) = False := by simp
        by_cases h6 : 5 < xs.length
        · have HN : Hid (O = none) := by show _ = _; rw [← HST.out, stS, HRN.out]; simp only []; rw [ho]; simp only []; rw [if_pos h6]
          have hq5 : ((5 : Int) < (rs.length : Int)) = True := eq_true (by have := HRL.out; omega)
          clear hso hno ho HST h6 hqd
          go_wp2
          refine bodyPost_ret (v := .tuple #[ndV 0 0 [] none 0 0 none 0 0, .int .i64 (-1)]) (by simp [results, Tryd.results67, go_sem, *]) rfl ?_
          refine newRs_none w.heap.size (.int .i64 0) (.int .i64 0) (sv []) (.slice none 0 0) (.slice none 0 0) 0 0 [] (HB3.out) (Nat.le_refl _) ?_
          exact HN.out
        · have HS : Hid (insS (rdS d) true (6 - xs.length) (ns ++ [p.1]) (xs ++ [q.1]) (s.drop k) = O) := by show _ = _; rw [← HST.out, stS, HRN.out]; simp only []; rw [ho]; simp only []; rw [if_neg h6, ← hqd]
          have hq5 : ((5 : Int) < (rs.length : Int)) = False := eq_false (by have := HRL.out; omega)
          clear hso hno ho HST hqd
          obtain ⟨rk, rn, rt, rAn, rln, rcn, rAi, rli, rci⟩ := raw
          go_upto_region 21 with fail
          generalize w2.alloc (.cells (ndCells rk rn rt rAn rln rcn rAi rli rci) 26) = wa at *
          have hzx : w2.heap.size < wa.heap.size := by omega
          have hz0 : w.heap.size + 1 < wa.heap.size := by have := HT3.out.lt; have := HT3.out.le; omega
          have HC4 := Lib.hid z4
          have HX5 : Hid ((wa.alloc (.cells (ndCells rk rn rt rAn rln rcn rAi rli rci) 26)).heap[w2.heap.size + 1]? = some (.cells (ndCells rk rn rt rAn rln rcn rAi rli rci) 26 (0, 0))) := by show _ = _; rw [← hsa]; exact HX4.out
          go_wp2_with (at_builtin; refine app_node_at rfl _ _ rfl (w.heap.size + 2) A1 c1 rs ⟨rk, rn, rt, rAn, rln, rcn, rAi, rli, rci⟩ (by rfl) HT4.out.iown (w2.heap.size + 1) (by rfl) HX5.out ?_ HT4.out.le ?_; (focus omega); intro A6 c6 w6 ho6 hg6 hbk6; obtain ⟨⟨f0, f1, f2, f3, f4⟩, f5, f6, f7, f8, f9⟩ := box_five (HT4.out.boxI hg6))
          have HT7 := Lib.hid (HT4.out.appI ho6 hg6 hbk6 HO4.out HND.out (fun j hj => by have := HR2.out j hj; have := HT9.out.le; omega) (.slice A6 (rs.length + 1) c6) (by simp))
          have HB7 := Lib.hid (Below.setCell (HB4.out.trans (grown_to_below hg6 HB4.out.size (fun g e => by have := ownN_row HT4.out.iown g e; omega))) (p := ⟨w.heap.size + 1, 4, none⟩) (Nat.le_succ _) (.slice A6 (rs.length + 1) c6))
          have HY7 : Hid ((w6.setCell ⟨w.heap.size + 1, 4, none⟩ (.slice A6 (rs.length + 1) c6)).heap[w.heap.size]? = some (.cells #[.int .i64 0, .int .i64 0, .string ⟨#[]⟩, .slice none 0 0, .slice none 0 0] 26 (0, 0))) := (Below.heap_setCell _ _ _ _ (by show w.heap.size ≠ w.heap.size + 1; omega)).trans ((hg6.block _ (Nat.lt_of_lt_of_le (Nat.lt_add_of_pos_right (by decide)) HT4.out.le) (fun e => by have := ownN_row HT4.out.iown _ e.symm; omega)).trans HY4.out)
          generalize w6.setCell ⟨w.heap.size + 1, 4, none⟩ (.slice A6 (rs.length + 1) c6) = w7 at *
          go_roundw
          case rel => exact ⟨k, ns ++ [p.1], A3, c3, A6, c6, _, xs ++ [q.1], _, rfl, by omega, hks, by simp; omega, by rw [← HS.out]; congr 1; (first | omega | (simp; done) | (simp; omega)), by have := HNL.out; simp; omega, HT7.out, HY7.out, HB7.out⟩
          case measure => simp [intOf]; omega
end Go.Proofs.YtdmmnjnbjigdeaaDoor

/- Nodes, read, of spec: a walk. -/
namespace Go.Proofs.YtdmmnjnbjigdeaaDoor
open Go.RowKit

theorem newRs_drew {w w' : World} {s : Tx} {i : Nat} {o : Option (Nd × Tx)} {e : Ending} (h : NewRs w s i o e w') : NewRs w s i o e w'.drew := by
  obtain ⟨raw, L, x, nx, he, ho, hn, hL, hb, hr, hs⟩ := h
  exact ⟨raw, L, x, nx, he, OwT.keep _ _ _ ho (fun j _ => rfl), hn, hL, hb.drew, hr, hs⟩
theorem newRs_below {w w' w2 : World} {s : Tx} {i : Nat} {o : Option (Nd × Tx)} {e : Ending} (h : NewRs w s i o e w') (hb : Below w'.heap.size w' w2) : NewRs w s i o e w2 := by
  obtain ⟨raw, L, x, nx, he, ho, hn, hL, hb0, hr, hs⟩ := h
  exact ⟨raw, L, x, nx, he, OwT.keep _ _ _ ho (fun j hj => hb.block j (OwT.lt _ _ _ ho j hj)), hn, hL, hb0.trans (hb.mono hb0.size), hr, hs⟩
theorem newRs_pass {w w' : World} {s : Tx} {i : Nat} {o : Option (Nd × Tx)} {x : Nd} {raw : Raw} {L : List Nat} {nx : Int} (b : Nat) (v0 v1 v2 v3 v4 : Value) (ho : OwT w' x raw L) (hn : L.Nodup) (hL : ∀ j ∈ L, w.heap.size ≤ j ∧ j ≠ b) (hb : Below w.heap.size w w') (hbl : w.heap.size ≤ b)
    (h1 : o = none → nx = -1) (h2 : ∀ q, o = some q → x = q.1 ∧ ∃ k : Nat, i < k ∧ k ≤ s.length ∧ nx = (k : Int) ∧ q.2 = s.drop k) : NewRs w s i o (.returned (.tuple #[raw.v, .int .i64 nx])) (put5 w' b v0 v1 v2 v3 v4) :=
  ⟨raw, L, x, nx, rfl, OwT.keep _ _ _ ho (fun j hj => put5_heap _ _ _ _ _ _ _ _ (hL j hj).2), hn, fun j hj => (hL j hj).1, put5_below hb b _ _ _ _ _ hbl, h1, h2⟩
/-! numbers -/
def numAt (s : Tx) (f : Nat) (neg : Bool) : Option (Int × Tx) :=
  if dgs 6 (s.drop f) = 0 then none else some (if neg then -(valD 0 ((s.drop f).take (dgs 6 (s.drop f)))) else valD 0 ((s.drop f).take (dgs 6 (s.drop f))), (s.drop f).drop (dgs 6 (s.drop f)))
theorem numS_neg {s : Tx} {i : Nat} (h : i < s.length) (hc : (s[i] == 45) = true) : numS (s.drop i) = numAt s (i + 1) true := by
  rw [drop_cons s i h, numS, if_pos hc]; rfl
theorem numS_pos {s : Tx} {i : Nat} (h : i < s.length) (hc : (s[i] == 45) = false) : numS (s.drop i) = numAt s i false := by
  unfold numAt
  rw [drop_cons s i h, numS, if_neg (by rw [hc]; decide)]; rfl
theorem dgs_hit {s : Tx} {k j : Nat} (h : k < s.length) (hj : j < 6) (hd : isDig s[k] = true) : dgs (6 - j) (s.drop k) = 1 + dgs (6 - (j + 1)) (s.drop (k + 1)) := by
  rw [drop_cons s k h, show 6 - j = (6 - (j + 1)) + 1 by omega, dgs, isD_dig, if_pos hd, Nat.add_comm]
theorem dgs_stop {s : Tx} {k j : Nat} (h : s.length ≤ k ∨ 6 ≤ j ∨ ∃ h : k < s.length, isDig s[k] = false) : dgs (6 - j) (s.drop k) = 0 := by
  rcases h with h | h | ⟨h, hd⟩
  · rw [List.drop_eq_nil_of_le h]; cases 6 - j <;> simp [dgs]
  · rw [show 6 - j = 0 by omega]; simp [dgs]
  · rw [drop_cons s k h]
    cases 6 - j with
    | zero => simp [dgs]
    | succ m => rw [dgs, isD_dig, if_neg (by rw [hd]; decide)]
theorem val_step {s : Tx} {f j q : Nat} (hq : q = f + j) (h : q < s.length) : valD 0 ((s.drop f).take (j + 1)) = 10 * valD 0 ((s.drop f).take j) + (((s[q]).toNat : Int) - 48) := by
  subst hq
  have e : (s.drop f).take (j + 1) = (s.drop f).take j ++ [s[f + j]] := by
    rw [List.take_add_one, List.getElem?_drop, List.getElem?_eq_getElem h]
    rfl
  rw [e, valD_append]
  rfl
theorem pow_small {j m : Nat} (h : m < 10 ^ j) (hj : j < 6) : m ≤ 99999 := by
  have : 10 ^ j ≤ 10 ^ 5 := Nat.pow_le_pow_right (by decide) (by omega)
  omega
theorem pow_step {j m c : Nat} (h : m < 10 ^ j) (hc : c ≤ 9) : 10 * m + c < 10 ^ (j + 1) := by
  rw [Nat.pow_succ]; omega
theorem pow_small6 {j m : Nat} (h : m < 10 ^ j) (hj : j ≤ 6) : m ≤ 999999 := by
  have : 10 ^ j ≤ 10 ^ 6 := Nat.pow_le_pow_right (by decide) hj
  omega
theorem pre_take (s p : Tx) : Lib.hasPrefix s p = (s.take p.length == p) := by
  unfold Lib.hasPrefix
  rw [Bool.eq_iff_iff, List.isPrefixOf_iff_prefix, List.prefix_iff_eq_take, beq_iff_eq]
  exact ⟨fun h => h.symm, fun h => h.symm⟩
theorem pre_at (s p : Tx) (i m : Nat) (h : m = p.length) : ((s.take (i + m)).drop i == p) = Lib.hasPrefix (s.drop i) p := by
  subst h
  rw [pre_take, List.drop_take, Nat.add_sub_cancel_left]
theorem pre_far (s p : Tx) (i m : Nat) (h : m = p.length) (hl : s.length < i + m) (hi : i ≤ s.length) : Lib.hasPrefix (s.drop i) p = false := by
  subst h
  rw [pre_take, beq_eq_false_iff_ne]
  intro e
  have := congrArg List.length e
  rw [List.length_take, List.length_drop] at this
  omega
/-- the words, in the reference's order -/
def wdAt : Nat → Tx
  | 0 => wNull
  | 1 => wFalse
  | _ => wTrue
theorem rdS_words (d : Nat) (s : Tx) (k : Nat) (hk : k < 3) (hno : ∀ j, j < k → Lib.hasPrefix s (wdAt j) = false) (h : Lib.hasPrefix s (wdAt k) = true) : rdS (d + 1) s = some ((if k = 0 then .mk 1 0 [] [] [] else if k = 1 then .mk 2 0 [] [] [] else .mk 2 1 [] [] []), s.drop (wdAt k).length) := by
  unfold rdS
  match k, hk with
  | 0, _ =>
    have h0 : Lib.hasPrefix s wNull = true := h
    rw [if_pos h0]; rfl
  | 1, _ =>
    have h0 : Lib.hasPrefix s wNull = false := hno 0 (by decide)
    have h1 : Lib.hasPrefix s wFalse = true := h
    rw [if_neg (by rw [h0]; decide), if_pos h1]; rfl
  | 2, _ =>
    have h0 : Lib.hasPrefix s wNull = false := hno 0 (by decide)
    have h1 : Lib.hasPrefix s wFalse = false := hno 1 (by decide)
    have h2 : Lib.hasPrefix s wTrue = true := h
    rw [if_neg (by rw [h0]; decide), if_neg (by rw [h1]; decide), if_pos h2]; rfl
theorem rdS_else (d : Nat) (b : UInt8) (t : Tx) (hno : ∀ j, j < 3 → Lib.hasPrefix (b :: t) (wdAt j) = false) : rdS (d + 1) (b :: t) = if b == 34 then (rdT [] t).map fun q => (.mk 4 0 q.1 [] [], q.2)
        else if b == 91 then insS (rdS d) false 7 [] [] t
        else if b == 123 then insS (rdS d) true 7 [] [] t
        else (numS (b :: t)).map fun q => (.mk 3 q.1 [] [] [], q.2) := by
  have h0 : Lib.hasPrefix (b :: t) wNull = false := hno 0 (by decide)
  have h1 : Lib.hasPrefix (b :: t) wFalse = false := hno 1 (by decide)
  have h2 : Lib.hasPrefix (b :: t) wTrue = false := hno 2 (by decide)
  rw [rdS_cons, if_neg (by rw [h0]; decide), if_neg (by rw [h1]; decide), if_neg (by rw [h2]; decide)]
set_option maxRecDepth 100000 in
set_option maxHeartbeats 4000000 in
theorem spec_read0 : RsC 0 := fun s i w hl hi => by
  have hX0 := heap_alloc_new w (.cells #[.int .i64 0, .int .i64 0, .string ⟨#[]⟩, .slice none 0 0, .slice none 0 0] 26)
  obtain ⟨⟨y0, y1, y2, y3, y4⟩, y5, y6, y7, y8, y9⟩ := box_five hX0
  have hb := (Below.refl w.heap.size w).alloc (Nat.le_refl _) (.cells #[.int .i64 0, .int .i64 0, .string ⟨#[]⟩, .slice none 0 0, .slice none 0 0] 26)
  by_cases hpos : i < s.length
  · go_enter Tryd.func45, Tryd.ntmps45
    go_upto_region 1 with fail
    generalize w.alloc (.cells #[.int .i64 0, .int .i64 0, .string ⟨#[]⟩, .slice none 0 0, .slice none 0 0] 26) = w0 at *
    go_wp2
    refine bodyPost_ret (v := .tuple #[ndV 0 0 [] none 0 0 none 0 0, .int .i64 (-1)]) (by simp [results, Tryd.results45, go_sem, *]) rfl ?_
    refine newRs_none w.heap.size (.int .i64 0) (.int .i64 0) (sv []) (.slice none 0 0) (.slice none 0 0) 0 0 [] (hb) (Nat.le_refl _) ?_
    rfl
  · go_enter Tryd.func45, Tryd.ntmps45
    go_upto_region 1 with fail
    generalize w.alloc (.cells #[.int .i64 0, .int .i64 0, .string ⟨#[]⟩, .slice none 0 0, .slice none 0 0] 26) = w0 at *
    go_wp2
    refine bodyPost_ret (v := .tuple #[ndV 0 0 [] none 0 0 none 0 0, .int .i64 (-1)]) (by simp [results, Tryd.results45, go_sem, *]) rfl ?_
    refine newRs_none w.heap.size (.int .i64 0) (.int .i64 0) (sv []) (.slice none 0 0) (.slice none 0 0) 0 0 [] (hb) (Nat.le_refl _) ?_
    rfl
set_option maxRecDepth 100000 in
set_option maxHeartbeats 16000000 in
theorem spec_read1 (d : Nat) (HC : RsC d) (hd : d ≤ 10) (s : Tx) (i : Nat) (w : World) (hl : s.length ≤ 4000000) (hi : i ≤ s.length) : Calls Tryd.prog 45 #[sv s, .int .i64 (i : Int), .int .i64 ((d : Int) + 1)] w (NewRs w s i (rdS (d + 1) (s.drop i))) := by
  have hX0 := heap_alloc_new w (.cells #[.int .i64 0, .int .i64 0, .string ⟨#[]⟩, .slice none 0 0, .slice none 0 0] 26)
  have hb := (Below.refl w.heap.size w).alloc (Nat.le_refl _) (.cells #[.int .i64 0, .int .i64 0, .string ⟨#[]⟩, .slice none 0 0, .slice none 0 0] 26)
  have hs0 : (w.alloc (.cells #[.int .i64 0, .int .i64 0, .string ⟨#[]⟩, .slice none 0 0, .slice none 0 0] 26)).heap.size = w.heap.size + 1 := by simp
  by_cases hpos : i < s.length
  case neg =>
    have HN : rdS (d + 1) (s.drop i) = none := by rw [drop_nil s i (by omega)]; rfl
    obtain ⟨⟨y0, y1, y2, y3, y4⟩, y5, y6, y7, y8, y9⟩ := box_five hX0
    go_enter Tryd.func45, Tryd.ntmps45
    go_upto_region 1 with fail
    generalize w.alloc (.cells #[.int .i64 0, .int .i64 0, .string ⟨#[]⟩, .slice none 0 0, .slice none 0 0] 26) = w0 at *
    go_wp2
    refine bodyPost_ret (v := .tuple #[ndV 0 0 [] none 0 0 none 0 0, .int .i64 (-1)]) (by simp [results, Tryd.results45, go_sem, *]) rfl ?_
    refine newRs_none w.heap.size (.int .i64 0) (.int .i64 0) (sv []) (.slice none 0 0) (.slice none 0 0) 0 0 [] (hb) (Nat.le_refl _) ?_
    exact HN
  have hdl : ((d : Int) + 1 < 1) = False := eq_false (by omega)
  have HX0 := Lib.hid hX0
  have HB0 := Lib.hid hb
  have HS0 := Lib.hid hs0
  clear hX0 hb hs0
  obtain ⟨O, hoo⟩ : ∃ O, rdS (d + 1) (s.drop i) = O := ⟨_, rfl⟩
  rw [hoo]
  have HO := Lib.hid hoo
  clear hoo
  go_enter Tryd.func45, Tryd.ntmps45
  go_upto_region 3 with fail
  generalize w.alloc (.cells #[.int .i64 0, .int .i64 0, .string ⟨#[]⟩, .slice none 0 0, .slice none 0 0] 26) = w0 at *
  have HA1 := Lib.hid ((Below.refl w0.heap.size w0).alloc (Nat.le_refl _) (.cells #[.string ⟨#[110, 117, 108, 108]⟩, .string ⟨#[102, 97, 108, 115, 101]⟩, .string ⟨#[116, 114, 117, 101]⟩] 9))
  have HX1 := Lib.hid (heap_alloc_new w0 (.cells #[.string ⟨#[110, 117, 108, 108]⟩, .string ⟨#[102, 97, 108, 115, 101]⟩, .string ⟨#[116, 114, 117, 101]⟩] 9))
  have HB1 := Lib.hid (HB0.out.trans (HA1.out.mono HB0.out.size))
  have HZ1 := Lib.hid (bx_keep HX0.out HA1.out)
  go_wp2
  generalize w0.alloc (.cells #[.string ⟨#[110, 117, 108, 108]⟩, .string ⟨#[102, 97, 108, 115, 101]⟩, .string ⟨#[116, 114, 117, 101]⟩] 9) = w1 at *
  go_loopw [9] (fun v wr => ∃ (k : Nat), k ≤ 3 ∧ v = .int .i64 k ∧ (∀ j, j < k → Lib.hasPrefix (s.drop i) (wdAt j) = false) ∧ wr.heap[w.heap.size]? = some (.cells #[.int .i64 0, .int .i64 0, .string ⟨#[]⟩, .slice none 0 0, .slice none 0 0] 26 (0, 0)) ∧ wr.heap[w0.heap.size]? = some (.cells #[.string ⟨#[110, 117, 108, 108]⟩, .string ⟨#[102, 97, 108, 115, 101]⟩, .string ⟨#[116, 114, 117, 101]⟩] 9 (0, 0)) ∧ Below w.heap.size w wr) (fun v _ => 3 - (intOf v).toNat)
  case atStart => exact ⟨0, by decide, rfl, fun j hj => (by omega), HZ1.out, HX1.out, HB1.out⟩
  case round =>
    obtain ⟨k, hk, rfl, hno, hz, hx, hb⟩ := hrel
    have HB := Lib.hid hb
    have HZ := Lib.hid hz
    have HX := Lib.hid hx
    clear hb hz hx
    obtain ⟨⟨y0, y1, y2, y3, y4⟩, y5, y6, y7, y8, y9⟩ := box_five HZ.out
    have x0 : wr.cell? ⟨w0.heap.size, 0, none⟩ = some (.string ⟨#[110, 117, 108, 108]⟩) := cell_of_row wr _ 0 _ _ _ HX.out
    have x1 : wr.cell? ⟨w0.heap.size, 1, none⟩ = some (.string ⟨#[102, 97, 108, 115, 101]⟩) := cell_of_row wr _ 1 _ _ _ HX.out
    have x2 : wr.cell? ⟨w0.heap.size, 2, none⟩ = some (.string ⟨#[116, 114, 117, 101]⟩) := cell_of_row wr _ 2 _ _ _ HX.out
    by_cases h3 : k < 3
    · match k, h3 with
      | 0, _ =>
        by_cases hle : i + 4 ≤ s.length
        case neg =>
          have hg : decide ((i : Int) + 4 ≤ (s.length : Int)) = false := decide_eq_false (by omega)
          have hno2 : ∀ j, j < 0 + 1 → Lib.hasPrefix (s.drop i) (wdAt j) = false := fun j hj => by
            rcases Nat.lt_or_ge j 0 with h | h
            · exact hno j h
            · obtain rfl : j = 0 := by omega
              exact pre_far s _ i 4 rfl (by omega) (by omega)
          have HNO := Lib.hid hno2
          clear hno hno2
          go_wp2_with fail
          go_quiet (fail)
          go_wp2
          go_roundw
          case rel => exact ⟨0 + 1, by decide, by go_num, HNO.out, HZ.out, HX.out, below_drewN HB.out _⟩
          case measure => simp [intOf]
        case pos =>
          have hg : decide ((i : Int) + 4 ≤ (s.length : Int)) = true := decide_eq_true (by omega)
          have hpre := pre_at s (wdAt 0) i 4 rfl
          cases hq : ((s.take (i + 4)).drop i == wdAt 0)
          · rw [hq] at hpre
            have hqe : ((s.take (i + 4)).drop i == [110, 117, 108, 108]) = false := hq
            have hno2 : ∀ j, j < 0 + 1 → Lib.hasPrefix (s.drop i) (wdAt j) = false := fun j hj => by
              rcases Nat.lt_or_ge j 0 with h | h
              · exact hno j h
              · obtain rfl : j = 0 := by omega
                exact hpre.symm
            have HNO := Lib.hid hno2
            clear hno hno2 hpre hq
            go_wp2_with fail
            go_quiet (fail)
            go_wp2
            go_roundw
            case rel => exact ⟨0 + 1, by decide, by go_num, HNO.out, HZ.out, HX.out, below_drewN HB.out _⟩
            case measure => simp [intOf]
          · rw [hq] at hpre
            have hqe : ((s.take (i + 4)).drop i == [110, 117, 108, 108]) = true := hq
            have HN : Hid (O = some (.mk 1 0 [] [] [], s.drop (i + 4))) := by
              show _ = _
              rw [← HO.out, rdS_words d _ 0 (by decide) hno hpre.symm]
              rw [show s.drop (i + 4) = (s.drop i).drop 4 by rw [List.drop_drop]]
              rfl
            clear hno hpre hq
            go_wp2_with fail
            go_quiet (fail)
            rename_i nq
            have HZ5 : Hid ((wr.drewN nq).heap[w.heap.size]? = some (.cells #[.int .i64 0, .int .i64 0, .string ⟨#[]⟩, .slice none 0 0, .slice none 0 0] 26 (0, 0))) := HZ.out
            have HX5 : Hid ((wr.drewN nq).heap[w0.heap.size]? = some (.cells #[.string ⟨#[110, 117, 108, 108]⟩, .string ⟨#[102, 97, 108, 115, 101]⟩, .string ⟨#[116, 114, 117, 101]⟩] 9 (0, 0))) := HX.out
            have HB5 := Lib.hid (below_drewN HB.out nq)
            clear y0 y1 y2 y3 y4 y5 y6 y7 y8 y9 x0 x1 x2 hqe hg
            generalize wr.drewN nq = W5 at *
            obtain ⟨⟨y0, y1, y2, y3, y4⟩, y5, y6, y7, y8, y9⟩ := box_five HZ5.out
            have x0 : W5.cell? ⟨w0.heap.size, 0, none⟩ = some (.string ⟨#[110, 117, 108, 108]⟩) := cell_of_row W5 _ 0 _ _ _ HX5.out
            have hz5 : w.heap.size < W5.heap.size := lt_of_block HZ5.out
            have hx5 : w0.heap.size < W5.heap.size := lt_of_block HX5.out
            have hne1 : w0.heap.size ≠ w.heap.size := by have := HS0.out; omega
            have hne2 : w.heap.size ≠ w0.heap.size := by have := HS0.out; omega
            go_wp2_with fail
            go_region
            go_wp2
            refine bodyPost_ret (v := .tuple #[ndV 1 0 [] none 0 0 none 0 0, .int .i64 ((i + 4 : Nat) : Int)]) (by simp [results, Tryd.results45, go_sem, *]) rfl ?_
            refine newRs_below (newRs_some (raw := ⟨1, 0, [], none, 0, 0, none, 0, 0⟩) (L := []) (x := .mk 1 0 [] [] []) (w' := W5) w.heap.size (.int .i64 1) (.int .i64 0) (sv []) (.slice none 0 0) (.slice none 0 0) (i + 4) (owT_flat _ _ _ _) List.nodup_nil (fun j hj => by cases hj) HB5.out (Nat.le_refl _) (by omega) (by omega) HN.out) (((Below.refl _ _).alloc (Nat.le_refl _) _).drew)
      | 1, _ =>
        by_cases hle : i + 5 ≤ s.length
        case neg =>
          have hg : decide ((i : Int) + 5 ≤ (s.length : Int)) = false := decide_eq_false (by omega)
          have hno2 : ∀ j, j < 1 + 1 → Lib.hasPrefix (s.drop i) (wdAt j) = false := fun j hj => by
            rcases Nat.lt_or_ge j 1 with h | h
            · exact hno j h
            · obtain rfl : j = 1 := by omega
              exact pre_far s _ i 5 rfl (by omega) (by omega)
          have HNO := Lib.hid hno2
          clear hno hno2
          go_wp2_with fail
          go_quiet (fail)
          go_wp2
          go_roundw
          case rel => exact ⟨1 + 1, by decide, by go_num, HNO.out, HZ.out, HX.out, below_drewN HB.out _⟩
          case measure => simp [intOf]
        case pos =>
          have hg : decide ((i : Int) + 5 ≤ (s.length : Int)) = true := decide_eq_true (by omega)
          have hpre := pre_at s (wdAt 1) i 5 rfl
          cases hq : ((s.take (i + 5)).drop i == wdAt 1)
          · rw [hq] at hpre
            have hqe : ((s.take (i + 5)).drop i == [102, 97, 108, 115, 101]) = false := hq
            have hno2 : ∀ j, j < 1 + 1 → Lib.hasPrefix (s.drop i) (wdAt j) = false := fun j hj => by
              rcases Nat.lt_or_ge j 1 with h | h
              · exact hno j h
              · obtain rfl : j = 1 := by omega
                exact hpre.symm
            have HNO := Lib.hid hno2
            clear hno hno2 hpre hq
            go_wp2_with fail
            go_quiet (fail)
            go_wp2
            go_roundw
            case rel => exact ⟨1 + 1, by decide, by go_num, HNO.out, HZ.out, HX.out, below_drewN HB.out _⟩
            case measure => simp [intOf]
          · rw [hq] at hpre
            have hqe : ((s.take (i + 5)).drop i == [102, 97, 108, 115, 101]) = true := hq
            have HN : Hid (O = some (.mk 2 0 [] [] [], s.drop (i + 5))) := by
              show _ = _
              rw [← HO.out, rdS_words d _ 1 (by decide) hno hpre.symm]
              rw [show s.drop (i + 5) = (s.drop i).drop 5 by rw [List.drop_drop]]
              rfl
            clear hno hpre hq
            go_wp2_with fail
            go_quiet (fail)
            rename_i nq
            have HZ5 : Hid ((wr.drewN nq).heap[w.heap.size]? = some (.cells #[.int .i64 0, .int .i64 0, .string ⟨#[]⟩, .slice none 0 0, .slice none 0 0] 26 (0, 0))) := HZ.out
            have HX5 : Hid ((wr.drewN nq).heap[w0.heap.size]? = some (.cells #[.string ⟨#[110, 117, 108, 108]⟩, .string ⟨#[102, 97, 108, 115, 101]⟩, .string ⟨#[116, 114, 117, 101]⟩] 9 (0, 0))) := HX.out
            have HB5 := Lib.hid (below_drewN HB.out nq)
            clear y0 y1 y2 y3 y4 y5 y6 y7 y8 y9 x0 x1 x2 hqe hg
            generalize wr.drewN nq = W5 at *
            obtain ⟨⟨y0, y1, y2, y3, y4⟩, y5, y6, y7, y8, y9⟩ := box_five HZ5.out
            have x0 : W5.cell? ⟨w0.heap.size, 1, none⟩ = some (.string ⟨#[102, 97, 108, 115, 101]⟩) := cell_of_row W5 _ 1 _ _ _ HX5.out
            have hz5 : w.heap.size < W5.heap.size := lt_of_block HZ5.out
            have hx5 : w0.heap.size < W5.heap.size := lt_of_block HX5.out
            have hne1 : w0.heap.size ≠ w.heap.size := by have := HS0.out; omega
            have hne2 : w.heap.size ≠ w0.heap.size := by have := HS0.out; omega
            go_wp2_with fail
            go_region
            go_wp2
            refine bodyPost_ret (v := .tuple #[ndV 2 0 [] none 0 0 none 0 0, .int .i64 ((i + 5 : Nat) : Int)]) (by simp [results, Tryd.results45, go_sem, *]) rfl ?_
            refine newRs_below (newRs_some (raw := ⟨2, 0, [], none, 0, 0, none, 0, 0⟩) (L := []) (x := .mk 2 0 [] [] []) (w' := W5) w.heap.size (.int .i64 2) (.int .i64 0) (sv []) (.slice none 0 0) (.slice none 0 0) (i + 5) (owT_flat _ _ _ _) List.nodup_nil (fun j hj => by cases hj) HB5.out (Nat.le_refl _) (by omega) (by omega) HN.out) (((Below.refl _ _).alloc (Nat.le_refl _) _).drew)
      | 2, _ =>
        by_cases hle : i + 4 ≤ s.length
        case neg =>
          have hg : decide ((i : Int) + 4 ≤ (s.length : Int)) = false := decide_eq_false (by omega)
          have hno2 : ∀ j, j < 2 + 1 → Lib.hasPrefix (s.drop i) (wdAt j) = false := fun j hj => by
            rcases Nat.lt_or_ge j 2 with h | h
            · exact hno j h
            · obtain rfl : j = 2 := by omega
              exact pre_far s _ i 4 rfl (by omega) (by omega)
          have HNO := Lib.hid hno2
          clear hno hno2
          go_wp2_with fail
          go_quiet (fail)
          go_wp2
          go_roundw
          case rel => exact ⟨2 + 1, by decide, by go_num, HNO.out, HZ.out, HX.out, below_drewN HB.out _⟩
          case measure => simp [intOf]
        case pos =>
          have hg : decide ((i : Int) + 4 ≤ (s.length : Int)) = true := decide_eq_true (by omega)
          have hpre := pre_at s (wdAt 2) i 4 rfl
          cases hq : ((s.take (i + 4)).drop i == wdAt 2)
          · rw [hq] at hpre
            have hqe : ((s.take (i + 4)).drop i == [116, 114, 117, 101]) = false := hq
            have hno2 : ∀ j, j < 2 + 1 → Lib.hasPrefix (s.drop i) (wdAt j) = false := fun j hj => by
              rcases Nat.lt_or_ge j 2 with h | h
              · exact hno j h
              · obtain rfl : j = 2 := by omega
                exact hpre.symm
            have HNO := Lib.hid hno2
            clear hno hno2 hpre hq
            go_wp2_with fail
            go_quiet (fail)
            go_wp2
            go_roundw
            case rel => exact ⟨2 + 1, by decide, by go_num, HNO.out, HZ.out, HX.out, below_drewN HB.out _⟩
            case measure => simp [intOf]
          · rw [hq] at hpre
            have hqe : ((s.take (i + 4)).drop i == [116, 114, 117, 101]) = true := hq
            have HN : Hid (O = some (.mk 2 1 [] [] [], s.drop (i + 4))) := by
              show _ = _
              rw [← HO.out, rdS_words d _ 2 (by decide) hno hpre.symm]
              rw [show s.drop (i + 4) = (s.drop i).drop 4 by rw [List.drop_drop]]
              rfl
            clear hno hpre hq
            go_wp2_with fail
            go_quiet (fail)
            rename_i nq
            have HZ5 : Hid ((wr.drewN nq).heap[w.heap.size]? = some (.cells #[.int .i64 0, .int .i64 0, .string ⟨#[]⟩, .slice none 0 0, .slice none 0 0] 26 (0, 0))) := HZ.out
            have HX5 : Hid ((wr.drewN nq).heap[w0.heap.size]? = some (.cells #[.string ⟨#[110, 117, 108, 108]⟩, .string ⟨#[102, 97, 108, 115, 101]⟩, .string ⟨#[116, 114, 117, 101]⟩] 9 (0, 0))) := HX.out
            have HB5 := Lib.hid (below_drewN HB.out nq)
            clear y0 y1 y2 y3 y4 y5 y6 y7 y8 y9 x0 x1 x2 hqe hg
            generalize wr.drewN nq = W5 at *
            obtain ⟨⟨y0, y1, y2, y3, y4⟩, y5, y6, y7, y8, y9⟩ := box_five HZ5.out
            have x0 : W5.cell? ⟨w0.heap.size, 2, none⟩ = some (.string ⟨#[116, 114, 117, 101]⟩) := cell_of_row W5 _ 2 _ _ _ HX5.out
            have hz5 : w.heap.size < W5.heap.size := lt_of_block HZ5.out
            have hx5 : w0.heap.size < W5.heap.size := lt_of_block HX5.out
            have hne1 : w0.heap.size ≠ w.heap.size := by have := HS0.out; omega
            have hne2 : w.heap.size ≠ w0.heap.size := by have := HS0.out; omega
            go_wp2_with fail
            go_region
            go_wp2
            refine bodyPost_ret (v := .tuple #[ndV 2 1 [] none 0 0 none 0 0, .int .i64 ((i + 4 : Nat) : Int)]) (by simp [results, Tryd.results45, go_sem, *]) rfl ?_
            refine newRs_below (newRs_some (raw := ⟨2, 1, [], none, 0, 0, none, 0, 0⟩) (L := []) (x := .mk 2 1 [] [] []) (w' := W5) w.heap.size (.int .i64 2) (.int .i64 1) (sv []) (.slice none 0 0) (.slice none 0 0) (i + 4) (owT_flat _ _ _ _) List.nodup_nil (fun j hj => by cases hj) HB5.out (Nat.le_refl _) (by omega) (by omega) HN.out) (((Below.refl _ _).alloc (Nat.le_refl _) _).drew)
    · obtain rfl : k = 3 := by omega
      have hD := drop_cons s i hpos
      have hel := rdS_else d s[i] (s.drop (i + 1)) (by rw [← hD]; exact hno)
      rw [← hD, HO.out] at hel
      have HEL := Lib.hid hel
      clear hel hno HO h3 hk
      cases h34 : (s[i] == 34)
      case true =>
        have m34 : ((s[i].toNat : Int) == 34) = true := byte_eqR h34
        have HRQ : Hid (O = (rdQ (s.drop i)).map fun q => (.mk 4 0 q.1 [] [], q.2)) := by show _ = _; rw [HEL.out, h34, if_pos rfl, hD, rdQ, h34, if_pos rfl]
        have HWD := Lib.hid (fun w3 => spec_l26Word s hl i (by omega) w3)
        clear HEL hD
        cases hq0 : rdQ (s.drop i) with
        | none =>
          have HN : Hid (O = none) := by show _ = _; rw [HRQ.out, hq0]; rfl
          rw [hq0] at HWD
          have HWV : Hid (∀ w3, Calls Tryd.prog 66 #[sv s, .int .i64 i] w3 fun e w' => e = .returned (.tuple #[sv [], .int .i64 (-1)]) ∧ w3 = w') := HWD.out
          clear hq0 HWD HRQ h34
          go_wp2_with fail
          refine (HWV.out _).mono ?_
          rintro e w3 ⟨rfl, rfl⟩
          go_wp2
          refine bodyPost_ret (v := .tuple #[ndV 4 0 [] none 0 0 none 0 0, .int .i64 (-1)]) (by simp [results, Tryd.results45, go_sem, *]) rfl ?_
          exact newRs_none w.heap.size (.int .i64 4) (.int .i64 0) (sv []) (.slice none 0 0) (.slice none 0 0) 4 0 [] HB.out (Nat.le_refl _) HN.out
        | some p =>
          obtain ⟨kq, hk0, hkl, hkd⟩ := rdQ_suf hq0
          rw [List.length_drop] at hkl
          rw [List.drop_drop] at hkd
          have hnx : s.length - p.2.length = i + kq := by rw [hkd, List.length_drop]; omega
          have HN : Hid (O = some (.mk 4 0 p.1 [] [], s.drop (i + kq))) := by show _ = _; rw [HRQ.out, hq0, ← hkd]; rfl
          rw [hq0] at HWD
          have HWV : Hid (∀ w3, Calls Tryd.prog 66 #[sv s, .int .i64 i] w3 fun e w' => e = .returned (.tuple #[sv p.1, .int .i64 ((i + kq : Nat) : Int)]) ∧ w3 = w') := fun w3 => by
            have := HWD.out w3
            rw [wdV, hnx] at this
            exact this
          clear hq0 HWD HRQ h34 hnx hkd
          generalize hnb : i + kq = nb at *
          go_wp2_with fail
          refine (HWV.out _).mono ?_
          rintro e w3 ⟨rfl, rfl⟩
          go_wp2
          refine bodyPost_ret (v := .tuple #[ndV 4 0 p.1 none 0 0 none 0 0, .int .i64 (nb : Int)]) (by simp [results, Tryd.results45, go_sem, *]) rfl ?_
          exact newRs_some (raw := ⟨4, 0, p.1, none, 0, 0, none, 0, 0⟩) (L := []) (x := .mk 4 0 p.1 [] []) (w' := wr) w.heap.size (.int .i64 4) (.int .i64 0) (sv p.1) (.slice none 0 0) (.slice none 0 0) nb (owT_flat _ _ _ _) List.nodup_nil (fun j hj => by cases hj) HB.out (Nat.le_refl _) (by omega) (by omega) HN.out
      case false =>
      have m34 : ((s[i].toNat : Int) == 34) = false := byte_neR h34
      cases h91 : (s[i] == 91)
      case true =>
        have m91 : ((s[i].toNat : Int) == 91) = true := byte_eqR h91
        have HRQ : Hid (O = insS (rdS d) false 7 [] [] (s.drop (i + 1))) := by show _ = _; rw [HEL.out, h34, h91]; rfl
        have HIN := Lib.hid (spec_insideL d HC s i wr hl hd hpos (eq_of_beq h91))
        clear HEL hD
        go_wp2_with fail
        refine HIN.out.mono ?_
        rintro e w5 ⟨raw, L, x, nx, rfl, ho5, hn5, hg5, hb5, hno5, hso5⟩
        have HB5 := Lib.hid (HB.out.trans (hb5.mono HB.out.size))
        have HY5 := Lib.hid (bx_keep HZ.out hb5)
        clear y0 y1 y2 y3 y4 y5 y6 y7 y8 y9
        obtain ⟨⟨y0, y1, y2, y3, y4⟩, y5, y6, y7, y8, y9⟩ := box_five HY5.out
        have hsz5 := HB.out.size
        obtain ⟨rk, rn, rt, rAn, rln, rcn, rAi, rli, rci⟩ := raw
        go_wp2
        refine bodyPost_ret (v := .tuple #[ndV rk rn rt rAn rln rcn rAi rli rci, .int .i64 nx]) (by simp [results, Tryd.results45, go_sem, *]) rfl ?_
        refine newRs_pass (raw := ⟨rk, rn, rt, rAn, rln, rcn, rAi, rli, rci⟩) (L := L) (x := x) (w' := _) w.heap.size (.int .i64 rk) (.int .i64 rn) (sv rt) (.slice rAn rln rcn) (.slice rAi rli rci) ho5 hn5 ?_ HB5.out (Nat.le_refl _) ?_ ?_
        · intro j hj; have := hg5 j hj; have := lt_of_block HZ.out; omega
        · intro e; exact hno5 (HRQ.out.symm.trans e)
        · intro q e; exact hso5 q (HRQ.out.symm.trans e)
      case false =>
      have m91 : ((s[i].toNat : Int) == 91) = false := byte_neR h91
      cases h123 : (s[i] == 123)
      case true =>
        have m123 : ((s[i].toNat : Int) == 123) = true := byte_eqR h123
        have HRQ : Hid (O = insS (rdS d) true 7 [] [] (s.drop (i + 1))) := by show _ = _; rw [HEL.out, h34, h91, h123]; rfl
        have HIN := Lib.hid (spec_insideR d HC s i wr hl hd hpos (eq_of_beq h123))
        clear HEL hD
        go_wp2_with fail
        refine HIN.out.mono ?_
        rintro e w5 ⟨raw, L, x, nx, rfl, ho5, hn5, hg5, hb5, hno5, hso5⟩
        have HB5 := Lib.hid (HB.out.trans (hb5.mono HB.out.size))
        have HY5 := Lib.hid (bx_keep HZ.out hb5)
        clear y0 y1 y2 y3 y4 y5 y6 y7 y8 y9
        obtain ⟨⟨y0, y1, y2, y3, y4⟩, y5, y6, y7, y8, y9⟩ := box_five HY5.out
        have hsz5 := HB.out.size
        obtain ⟨rk, rn, rt, rAn, rln, rcn, rAi, rli, rci⟩ := raw
        go_wp2
        refine bodyPost_ret (v := .tuple #[ndV rk rn rt rAn rln rcn rAi rli rci, .int .i64 nx]) (by simp [results, Tryd.results45, go_sem, *]) rfl ?_
        refine newRs_pass (raw := ⟨rk, rn, rt, rAn, rln, rcn, rAi, rli, rci⟩) (L := L) (x := x) (w' := _) w.heap.size (.int .i64 rk) (.int .i64 rn) (sv rt) (.slice rAn rln rcn) (.slice rAi rli rci) ho5 hn5 ?_ HB5.out (Nat.le_refl _) ?_ ?_
        · intro j hj; have := hg5 j hj; have := lt_of_block HZ.out; omega
        · intro e; exact hno5 (HRQ.out.symm.trans e)
        · intro q e; exact hso5 q (HRQ.out.symm.trans e)
      case false =>
      have m123 : ((s[i].toNat : Int) == 123) = false := byte_neR h123
      have HRQ : Hid (O = (numS (s.drop i)).map fun q => (.mk 3 q.1 [] [] [], q.2)) := by show _ = _; rw [HEL.out, h34, h91, h123, hD]; rfl
      clear HEL hD h34 h91 h123
      cases h45 : (s[i] == 45)
      case true =>
        have m45 : ((s[i].toNat : Int) == 45) = true := byte_eqR h45
        have HNM : Hid (O = (numAt s (i + 1) true).map fun q => (.mk 3 q.1 [] [] [], q.2)) := by show _ = _; rw [HRQ.out, numS_neg hpos h45]
        obtain ⟨f, hf⟩ : ∃ f, f = i + 1 := ⟨_, rfl⟩
        rw [← hf] at HNM
        have hfl : f ≤ s.length := by omega
        have hfi : i ≤ f := by omega
        have HFC : Hid (((i : Int) + 1) = (f : Int)) := by show _ = _; omega
        clear HRQ h45 hf
        go_upto_block 3 with fail
        rw [HFC.out]
        rw [show decide (s.length ≤ i) = false from decide_eq_false (by omega), show ((3 : Nat) : Int) = 3 from rfl]
        go_cut [12, 13] (fun n k wx => ∃ (q j m : Nat), q = f + j ∧ q ≤ s.length ∧ n = .int .i64 m ∧ k = .int .i64 q ∧ m ≤ 999999 ∧ (O = if j = 0 then none else some (.mk 3 (-(m : Int)) [] [] [], s.drop q)) ∧ wr = wx)
        case first =>
          go_wp2_with fail
          go_loop [12, 13] (fun n k => ∃ (q j m : Nat), q = f + j ∧ j ≤ 6 ∧ q ≤ s.length ∧ n = .int .i64 m ∧ k = .int .i64 q ∧ m < 10 ^ j ∧ (m : Int) = valD 0 ((s.drop f).take j) ∧ dgs 6 (s.drop f) = j + dgs (6 - j) (s.drop q)) (fun _ k => s.length - (intOf k).toNat)
          case atStart => exact ⟨f, 0, 0, rfl, by decide, by omega, rfl, rfl, by decide, rfl, by simp⟩
          case round =>
            obtain ⟨q, j, m, hqj, hj6, hql, rfl, rfl, hm, hv, hdg⟩ := hrel
            have hm6 := pow_small6 hm hj6
            have HV := Lib.hid hv
            have HDG := Lib.hid hdg
            have HM := Lib.hid hm
            have HQJ := Lib.hid hqj
            clear hv hdg hm hqj
            by_cases hlt : q < s.length
            · cases hdd : isDig s[q]
              · have hstop : s.length ≤ q ∨ 6 ≤ j ∨ ∃ h : q < s.length, isDig s[q] = false := .inr (.inr ⟨hlt, hdd⟩)
                have HDD := Lib.hid (fun w3 => spec_l1Digit s[q] w3)
                rw [hdd] at HDD
                clear hdd
                have HJ : Hid (dgs 6 (s.drop f) = j) := by show _ = _; rw [HDG.out, dgs_stop hstop]; rfl
                have HNN : Hid (O = if j = 0 then none else some (.mk 3 (-(m : Int)) [] [] [], s.drop q)) := by
                  show _ = _
                  rw [HNM.out]
                  unfold numAt
                  rw [HJ.out, List.drop_drop, ← HV.out, HQJ.out]
                  by_cases hj0 : j = 0
                  · rw [if_pos hj0, if_pos hj0]; rfl
                  · rw [if_neg hj0, if_neg hj0]; rfl
                clear hstop HJ HDG HV HM
                go_wp2_with (go_at_call 68; refine (HDD.out _).mono ?_; rintro e w' ⟨rfl, rfl⟩)
                go_meet
                case rel => exact ⟨q, j, m, HQJ.out, hql, rfl, rfl, hm6, HNN.out, rfl⟩
              · have HDD := Lib.hid (fun w3 => spec_l1Digit s[q] w3)
                rw [hdd] at HDD
                by_cases h6 : j < 6
                · have h6I : ((q : Int) < (f : Int) + 6) = True := eq_true (by have := HQJ.out; omega)
                  have HV2 := Lib.hid (val_step HQJ.out hlt)
                  have HDG2 := Lib.hid (dgs_hit hlt h6 hdd)
                  have hm5 := pow_small HM.out h6
                  have hc := hdd
                  simp only [isDig, Bool.and_eq_true, decide_eq_true_eq] at hc
                  obtain ⟨hc0, hc1⟩ := hc
                  clear hdd
                  generalize hcn : (s[q]).toNat = cn at *
                  go_wp2_with (go_at_call 68; refine (HDD.out _).mono ?_; rintro e w' ⟨rfl, rfl⟩)
                  go_round
                  case rel =>
                    have hm9 := pow_step (c := cn - 48) HM.out (by omega)
                    have hv9 : ((10 * m + (cn - 48) : Nat) : Int) = valD 0 ((s.drop f).take (j + 1)) := by rw [HV2.out, ← HV.out]; omega
                    exact ⟨q + 1, j + 1, 10 * m + (cn - 48), by have := HQJ.out; omega, by omega, by omega, by go_num, by go_num, hm9, hv9, by rw [HDG.out, HDG2.out]; omega⟩
                  case measure => simp [intOf]; omega
                · have hstop : s.length ≤ q ∨ 6 ≤ j ∨ ∃ h : q < s.length, isDig s[q] = false := .inr (.inl (by omega))
                  have h6I : ((q : Int) < (f : Int) + 6) = False := eq_false (by have := HQJ.out; omega)
                  clear hdd
                  have HJ : Hid (dgs 6 (s.drop f) = j) := by show _ = _; rw [HDG.out, dgs_stop hstop]; rfl
                  have HNN : Hid (O = if j = 0 then none else some (.mk 3 (-(m : Int)) [] [] [], s.drop q)) := by
                    show _ = _
                    rw [HNM.out]
                    unfold numAt
                    rw [HJ.out, List.drop_drop, ← HV.out, HQJ.out]
                    by_cases hj0 : j = 0
                    · rw [if_pos hj0, if_pos hj0]; rfl
                    · rw [if_neg hj0, if_neg hj0]; rfl
                  clear hstop HJ HDG HV HM
                  go_wp2_with (go_at_call 68; refine (HDD.out _).mono ?_; rintro e w' ⟨rfl, rfl⟩)
                  go_meet
                  case rel => exact ⟨q, j, m, HQJ.out, hql, rfl, rfl, hm6, HNN.out, rfl⟩
            · have hstop : s.length ≤ q ∨ 6 ≤ j ∨ ∃ h : q < s.length, isDig s[q] = false := .inl (by omega)
              have HJ : Hid (dgs 6 (s.drop f) = j) := by show _ = _; rw [HDG.out, dgs_stop hstop]; rfl
              have HNN : Hid (O = if j = 0 then none else some (.mk 3 (-(m : Int)) [] [] [], s.drop q)) := by
                show _ = _
                rw [HNM.out]
                unfold numAt
                rw [HJ.out, List.drop_drop, ← HV.out, HQJ.out]
                by_cases hj0 : j = 0
                · rw [if_pos hj0, if_pos hj0]; rfl
                · rw [if_neg hj0, if_neg hj0]; rfl
              clear hstop HJ HDG HV HM
              go_wp2
              go_meet
              case rel => exact ⟨q, j, m, HQJ.out, hql, rfl, rfl, hm6, HNN.out, rfl⟩
        case rest =>
          obtain ⟨q, j, m, hqj, hql, rfl, rfl, hm6, hnn, rfl⟩ := hcut
          have HNN := Lib.hid hnn
          have HQJ := Lib.hid hqj
          clear hnn hqj
          by_cases hj0 : j = 0
          · have HN : Hid (O = none) := by show _ = _; rw [HNN.out, if_pos hj0]
            have hjf : (q == f) = true := by have := HQJ.out; simp; omega
            clear HNN hj0
            go_wp2
            refine bodyPost_ret (v := .tuple #[ndV 0 0 [] none 0 0 none 0 0, .int .i64 (-1)]) (by simp [results, Tryd.results45, go_sem, *]) rfl ?_
            refine newRs_none w.heap.size (.int .i64 0) (.int .i64 0) (sv []) (.slice none 0 0) (.slice none 0 0) 0 0 [] (HB.out) (Nat.le_refl _) ?_
            exact HN.out
          · have HN : Hid (O = some (.mk 3 (-(m : Int)) [] [] [], s.drop q)) := by show _ = _; rw [HNN.out, if_neg hj0]
            have hjf : (q == f) = false := by have := HQJ.out; simp; omega
            have hjg : (q = f) = False := eq_false (by have := HQJ.out; omega)
            have hiq : i < q := by have := HQJ.out; omega
            clear HNN hj0
            go_wp2
            refine bodyPost_ret (v := .tuple #[ndV 3 (-(m : Int)) [] none 0 0 none 0 0, .int .i64 (q : Int)]) (by simp [results, Tryd.results45, go_sem, *]) rfl ?_
            exact newRs_some (raw := ⟨3, (-(m : Int)), [], none, 0, 0, none, 0, 0⟩) (L := []) (x := .mk 3 (-(m : Int)) [] [] []) (w' := wr) w.heap.size (.int .i64 3) (.int .i64 (-(m : Int))) (sv []) (.slice none 0 0) (.slice none 0 0) q (owT_flat _ _ _ _) List.nodup_nil (fun j hj => by cases hj) HB.out (Nat.le_refl _) hiq hql HN.out
      case false =>
        have m45 : ((s[i].toNat : Int) == 45) = false := byte_neR h45
        have HNM : Hid (O = (numAt s i false).map fun q => (.mk 3 q.1 [] [] [], q.2)) := by show _ = _; rw [HRQ.out, numS_pos hpos h45]
        have hfl : i ≤ s.length := by omega
        have hfi : i ≤ i := by omega
        clear HRQ h45
        go_upto_block 3 with fail
        rw [show decide (s.length ≤ i) = false from decide_eq_false (by omega), show ((3 : Nat) : Int) = 3 from rfl]
        go_cut [12, 13] (fun n k wx => ∃ (q j m : Nat), q = i + j ∧ q ≤ s.length ∧ n = .int .i64 m ∧ k = .int .i64 q ∧ m ≤ 999999 ∧ (O = if j = 0 then none else some (.mk 3 (m : Int) [] [] [], s.drop q)) ∧ wr = wx)
        case first =>
          go_wp2_with fail
          go_loop [12, 13] (fun n k => ∃ (q j m : Nat), q = i + j ∧ j ≤ 6 ∧ q ≤ s.length ∧ n = .int .i64 m ∧ k = .int .i64 q ∧ m < 10 ^ j ∧ (m : Int) = valD 0 ((s.drop i).take j) ∧ dgs 6 (s.drop i) = j + dgs (6 - j) (s.drop q)) (fun _ k => s.length - (intOf k).toNat)
          case atStart => exact ⟨i, 0, 0, rfl, by decide, by omega, rfl, rfl, by decide, rfl, by simp⟩
          case round =>
            obtain ⟨q, j, m, hqj, hj6, hql, rfl, rfl, hm, hv, hdg⟩ := hrel
            have hm6 := pow_small6 hm hj6
            have HV := Lib.hid hv
            have HDG := Lib.hid hdg
            have HM := Lib.hid hm
            have HQJ := Lib.hid hqj
            clear hv hdg hm hqj
            by_cases hlt : q < s.length
            · cases hdd : isDig s[q]
              · have hstop : s.length ≤ q ∨ 6 ≤ j ∨ ∃ h : q < s.length, isDig s[q] = false := .inr (.inr ⟨hlt, hdd⟩)
                have HDD := Lib.hid (fun w3 => spec_l1Digit s[q] w3)
                rw [hdd] at HDD
                clear hdd
                have HJ : Hid (dgs 6 (s.drop i) = j) := by show _ = _; rw [HDG.out, dgs_stop hstop]; rfl
                have HNN : Hid (O = if j = 0 then none else some (.mk 3 (m : Int) [] [] [], s.drop q)) := by
                  show _ = _
                  rw [HNM.out]
                  unfold numAt
                  rw [HJ.out, List.drop_drop, ← HV.out, HQJ.out]
                  by_cases hj0 : j = 0
                  · rw [if_pos hj0, if_pos hj0]; rfl
                  · rw [if_neg hj0, if_neg hj0]; rfl
                clear hstop HJ HDG HV HM
                go_wp2_with (go_at_call 68; refine (HDD.out _).mono ?_; rintro e w' ⟨rfl, rfl⟩)
                go_meet
                case rel => exact ⟨q, j, m, HQJ.out, hql, rfl, rfl, hm6, HNN.out, rfl⟩
              · have HDD := Lib.hid (fun w3 => spec_l1Digit s[q] w3)
                rw [hdd] at HDD
                by_cases h6 : j < 6
                · have h6I : ((q : Int) < (i : Int) + 6) = True := eq_true (by have := HQJ.out; omega)
                  have HV2 := Lib.hid (val_step HQJ.out hlt)
                  have HDG2 := Lib.hid (dgs_hit hlt h6 hdd)
                  have hm5 := pow_small HM.out h6
                  have hc := hdd
                  simp only [isDig, Bool.and_eq_true, decide_eq_true_eq] at hc
                  obtain ⟨hc0, hc1⟩ := hc
                  clear hdd
                  generalize hcn : (s[q]).toNat = cn at *
                  go_wp2_with (go_at_call 68; refine (HDD.out _).mono ?_; rintro e w' ⟨rfl, rfl⟩)
                  go_round
                  case rel =>
                    have hm9 := pow_step (c := cn - 48) HM.out (by omega)
                    have hv9 : ((10 * m + (cn - 48) : Nat) : Int) = valD 0 ((s.drop i).take (j + 1)) := by rw [HV2.out, ← HV.out]; omega
                    exact ⟨q + 1, j + 1, 10 * m + (cn - 48), by have := HQJ.out; omega, by omega, by omega, by go_num, by go_num, hm9, hv9, by rw [HDG.out, HDG2.out]; omega⟩
                  case measure => simp [intOf]; omega
                · have hstop : s.length ≤ q ∨ 6 ≤ j ∨ ∃ h : q < s.length, isDig s[q] = false := .inr (.inl (by omega))
                  have h6I : ((q : Int) < (i : Int) + 6) = False := eq_false (by have := HQJ.out; omega)
                  clear hdd
                  have HJ : Hid (dgs 6 (s.drop i) = j) := by show _ = _; rw [HDG.out, dgs_stop hstop]; rfl
                  have HNN : Hid (O = if j = 0 then none else some (.mk 3 (m : Int) [] [] [], s.drop q)) := by
                    show _ = _
                    rw [HNM.out]
                    unfold numAt
                    rw [HJ.out, List.drop_drop, ← HV.out, HQJ.out]
                    by_cases hj0 : j = 0
                    · rw [if_pos hj0, if_pos hj0]; rfl
                    · rw [if_neg hj0, if_neg hj0]; rfl
                  clear hstop HJ HDG HV HM
                  go_wp2_with (go_at_call 68; refine (HDD.out _).mono ?_; rintro e w' ⟨rfl, rfl⟩)
                  go_meet
                  case rel => exact ⟨q, j, m, HQJ.out, hql, rfl, rfl, hm6, HNN.out, rfl⟩
            · have hstop : s.length ≤ q ∨ 6 ≤ j ∨ ∃ h : q < s.length, isDig s[q] = false := .inl (by omega)
              have HJ : Hid (dgs 6 (s.drop i) = j) := by show _ = _; rw [HDG.out, dgs_stop hstop]; rfl
              have HNN : Hid (O = if j = 0 then none else some (.mk 3 (m : Int) [] [] [], s.drop q)) := by
                show _ = _
                rw [HNM.out]
                unfold numAt
                rw [HJ.out, List.drop_drop, ← HV.out, HQJ.out]
                by_cases hj0 : j = 0
                · rw [if_pos hj0, if_pos hj0]; rfl
                · rw [if_neg hj0, if_neg hj0]; rfl
              clear hstop HJ HDG HV HM
              go_wp2
              go_meet
              case rel => exact ⟨q, j, m, HQJ.out, hql, rfl, rfl, hm6, HNN.out, rfl⟩
        case rest =>
          obtain ⟨q, j, m, hqj, hql, rfl, rfl, hm6, hnn, rfl⟩ := hcut
          have HNN := Lib.hid hnn
          have HQJ := Lib.hid hqj
          clear hnn hqj
          by_cases hj0 : j = 0
          · have HN : Hid (O = none) := by show _ = _; rw [HNN.out, if_pos hj0]
            have hjf : (q == i) = true := by have := HQJ.out; simp; omega
            clear HNN hj0
            go_wp2
            refine bodyPost_ret (v := .tuple #[ndV 0 0 [] none 0 0 none 0 0, .int .i64 (-1)]) (by simp [results, Tryd.results45, go_sem, *]) rfl ?_
            refine newRs_none w.heap.size (.int .i64 0) (.int .i64 0) (sv []) (.slice none 0 0) (.slice none 0 0) 0 0 [] (HB.out) (Nat.le_refl _) ?_
            exact HN.out
          · have HN : Hid (O = some (.mk 3 (m : Int) [] [] [], s.drop q)) := by show _ = _; rw [HNN.out, if_neg hj0]
            have hjf : (q == i) = false := by have := HQJ.out; simp; omega
            have hjg : (q = i) = False := eq_false (by have := HQJ.out; omega)
            have hiq : i < q := by have := HQJ.out; omega
            clear HNN hj0
            go_wp2
            refine bodyPost_ret (v := .tuple #[ndV 3 (m : Int) [] none 0 0 none 0 0, .int .i64 (q : Int)]) (by simp [results, Tryd.results45, go_sem, *]) rfl ?_
            exact newRs_some (raw := ⟨3, (m : Int), [], none, 0, 0, none, 0, 0⟩) (L := []) (x := .mk 3 (m : Int) [] [] []) (w' := wr) w.heap.size (.int .i64 3) (.int .i64 (m : Int)) (sv []) (.slice none 0 0) (.slice none 0 0) q (owT_flat _ _ _ _) List.nodup_nil (fun j hj => by cases hj) HB.out (Nat.le_refl _) hiq hql HN.out
end Go.Proofs.YtdmmnjnbjigdeaaDoor

/- How large a node is that is read: no larger than its text, in plain Lean. No program is walked here. -/
namespace Go.Proofs.YtdmmnjnbjigdeaaDoor
open Go.RowKit

theorem rdT_sz : ∀ (s acc : Tx) (p : Tx × Tx), rdT acc s = some p → p.1.length + p.2.length + 1 ≤ acc.length + s.length
  | [], acc, p, h => by simp [rdT] at h
  | [b], acc, p, h => by
    simp only [rdT] at h
    split at h
    · injection h with h; subst h; simp
    · cases h
  | b :: c :: u, acc, p, h => by
    simp only [rdT] at h
    split at h
    · injection h with h; subst h; simp; omega
    · split at h
      · have := rdT_sz u _ p h; simp at *; omega
      · have := rdT_sz (c :: u) _ p h; simp at *; omega
theorem rdQ_sz {s : Tx} {p : Tx × Tx} (h : rdQ s = some p) : p.1.length + p.2.length + 2 ≤ s.length := by
  cases s with
  | nil => simp [rdQ] at h
  | cons b t =>
    simp only [rdQ] at h
    split at h
    · have := rdT_sz t _ p h; simp at *; omega
    · cases h
theorem after_sz {b : UInt8} {s u : Tx} (h : after b s = some u) : u.length + 1 = s.length := by
  cases s with
  | nil => simp [after] at h
  | cons c t =>
    simp only [after] at h
    split at h
    · injection h with h; subst h; simp
    · cases h
theorem ssz_snoc (ns : List Tx) (x : Tx) : ssize (ns ++ [x]) = ssize ns + x.length := by
  induction ns with
  | nil => simp [ssize]
  | cons a r ih => simp only [List.cons_append, ssize, ih]; omega
theorem szs_snoc (xs : List Nd) (x : Nd) : Nd.sizes (xs ++ [x]) = Nd.sizes xs + Nd.size x := by
  induction xs with
  | nil => simp [Nd.sizes]
  | cons a r ih => simp only [List.cons_append, Nd.sizes, ih]; omega
theorem rdName_sz {rec : Bool} {ns ns' : List Tx} {s s' : Tx} (h : rdName rec ns s = some (ns', s')) : ns'.length + ssize ns' + s'.length ≤ ns.length + ssize ns + s.length := by
  cases rec with
  | false =>
    simp only [rdName] at h
    injection h with h
    injection h with h1 h2
    subst h1; subst h2
    exact Nat.le_refl _
  | true =>
    simp only [rdName, if_true] at h
    split at h
    · cases h
    · next nm r hq =>
      have h1 := rdQ_sz hq
      cases hc : after 58 r with
      | none => rw [hc] at h; cases h
      | some u =>
        rw [hc] at h
        injection h with h
        injection h with h2 h3
        subst h2; subst h3
        have h4 := after_sz hc
        rw [ssz_snoc]
        simp at *
        omega
def PSz (p : Tx → Option (Nd × Tx)) : Prop := ∀ s x r, p s = some (x, r) → Nd.size x + 1 + r.length ≤ s.length
theorem insI_sz {p : Tx → Option (Nd × Tx)} (hp : PSz p) (rec : Bool) : ∀ (f : Nat) (ns : List Tx) (xs : List Nd) (s : Tx) (y : Nd) (r : Tx), insI p rec f ns xs s = some (y, r) → Nd.size y + 1 + r.length ≤ ns.length + ssize ns + xs.length + Nd.sizes xs + s.length
  | 0, ns, xs, s, y, r, h => by simp [insI] at h
  | f + 1, ns, xs, s, y, r, h => by
    rw [insI] at h
    cases h1 : rdName rec ns s with
    | none => rw [h1] at h; cases h
    | some q =>
      obtain ⟨ns', s'⟩ := q
      rw [h1] at h
      simp only at h
      have g1 := rdName_sz h1
      cases h2 : p s' with
      | none => rw [h2] at h; cases h
      | some q2 =>
        obtain ⟨x, r2⟩ := q2
        rw [h2] at h
        simp only at h
        have g2 := hp s' x r2 h2
        cases h3 : after 44 r2 with
        | some u =>
          rw [h3] at h
          simp only at h
          have g3 := after_sz h3
          have := insI_sz hp rec f _ _ _ _ _ h
          rw [szs_snoc] at this
          simp at this
          omega
        | none =>
          rw [h3] at h
          simp only at h
          cases h4 : after (endB rec) r2 with
          | none => rw [h4] at h; cases h
          | some u =>
            rw [h4] at h
            injection h with h
            injection h with h5 h6
            subst h5; subst h6
            have g4 := after_sz h4
            simp only [Nd.size, List.length_append, List.length_cons, List.length_nil, szs_snoc]
            omega
theorem inI_sz {p : Tx → Option (Nd × Tx)} (hp : PSz p) (rec : Bool) {s : Tx} {y : Nd} {r : Tx} (h : inI p rec s = some (y, r)) : Nd.size y + 1 + r.length ≤ s.length := by
  unfold inI at h
  cases h1 : after (endB rec) s with
  | some u =>
    rw [h1] at h
    injection h with h
    injection h with h2 h3
    subst h2; subst h3
    have := after_sz h1
    simp [Nd.size, ssize, Nd.sizes]
    omega
  | none =>
    rw [h1] at h
    have := insI_sz hp rec 6 [] [] s y r h
    simpa [ssize, Nd.sizes] using this
theorem pre_len {s p : Tx} (h : Lib.hasPrefix s p = true) : p.length ≤ s.length := by
  unfold Lib.hasPrefix at h
  rw [List.isPrefixOf_iff_prefix] at h
  exact h.length_le
theorem word_sz {s p : Tx} {x y : Nd} {r : Tx} (m : Nat) (hs : Nd.size x = 0) (hp : 0 < m) (h1 : Lib.hasPrefix s p = true) (hm : m = p.length) (h : some (x, s.drop m) = some (y, r)) : Nd.size y + 1 + r.length ≤ s.length := by
  injection h with h
  injection h with h2 h3
  subst h2; subst h3
  have := pre_len h1
  simp only [List.length_drop]
  omega
theorem zero_size (k n : Int) : Nd.size (.mk k n [] [] []) = 0 := by simp [Nd.size, ssize, Nd.sizes]
theorem rdI_sz : ∀ (d : Nat), PSz (rdI d)
  | 0 => fun s x r h => by simp [rdI] at h
  | d + 1 => fun s x r h => by
    have ih := rdI_sz d
    unfold rdI at h
    split at h
    · next hc => exact word_sz 4 (zero_size _ _) (by decide) hc rfl h
    split at h
    · next hc => exact word_sz 4 (zero_size _ _) (by decide) hc rfl h
    split at h
    · next hc => exact word_sz 5 (zero_size _ _) (by decide) hc rfl h
    cases s with
    | nil => simp at h
    | cons b t =>
      simp only at h
      split at h
      · cases h1 : rdT [] t with
        | none => rw [h1] at h; cases h
        | some q =>
          rw [h1] at h
          injection h with h
          injection h with h2 h3
          subst h2; subst h3
          have := rdT_sz t [] q h1
          simp [Nd.size, ssize, Nd.sizes] at *
          omega
      split at h
      · have := inI_sz ih false h; simp; omega
      split at h
      · have := inI_sz ih true h; simp; omega
      · cases h1 : Lib.atoi ((b :: t).take (numEnd (b :: t))) with
        | none => rw [h1] at h; cases h
        | some n =>
          rw [h1] at h
          injection h with h
          injection h with h2 h3
          subst h2; subst h3
          have hpos : numEnd (b :: t) ≠ 0 := fun e => by
            rw [e] at h1
            revert h1
            simp [Lib.atoi]
          simp only [zero_size, List.length_drop, List.length_cons]
          omega
theorem insS_sz {p : Tx → Option (Nd × Tx)} (hp : PSz p) (rec : Bool) : ∀ (f : Nat) (ns : List Tx) (xs : List Nd) (s : Tx) (y : Nd) (r : Tx), insS p rec f ns xs s = some (y, r) → Nd.size y + 1 + r.length ≤ ns.length + ssize ns + xs.length + Nd.sizes xs + s.length
  | 0, ns, xs, s, y, r, h => by simp [insS] at h
  | f + 1, ns, xs, s, y, r, h => by
    rw [insS] at h
    cases h0 : after (endB rec) s with
    | some u =>
      rw [h0] at h
      injection h with h
      injection h with h5 h6
      subst h5; subst h6
      have g4 := after_sz h0
      simp only [Nd.size, List.length_nil]
      omega
    | none =>
      rw [h0] at h
      simp only at h
      have hs1 : ∀ s1, (if xs.length = 0 then (if s = [] then none else some s) else after 44 s) = some s1 → s1.length ≤ s.length := by
        intro s1 e
        split at e
        · split at e
          · cases e
          · injection e with e; subst e; exact Nat.le_refl _
        · have := after_sz e; omega
      cases hs : (if xs.length = 0 then (if s = [] then none else some s) else after 44 s) with
      | none => rw [hs] at h; cases h
      | some s1 =>
        have g0 := hs1 s1 hs
        rw [hs] at h
        simp only at h
        cases h1 : rdName rec ns s1 with
        | none => rw [h1] at h; cases h
        | some q =>
          obtain ⟨ns', s'⟩ := q
          rw [h1] at h
          simp only at h
          have g1 := rdName_sz h1
          cases h2 : p s' with
          | none => rw [h2] at h; cases h
          | some q2 =>
            obtain ⟨x, r2⟩ := q2
            rw [h2] at h
            simp only at h
            have g2 := hp s' x r2 h2
            split at h
            · cases h
            · have := insS_sz hp rec f _ _ _ _ _ h
              rw [szs_snoc] at this
              simp at this
              omega
theorem dgs_len : ∀ (k : Nat) (s : Tx), dgs k s ≤ s.length
  | 0, s => by simp [dgs]
  | k + 1, [] => by simp [dgs]
  | k + 1, b :: t => by
    simp only [dgs]
    split
    · have := dgs_len k t; simp; omega
    · simp
theorem rdS_sz : ∀ (d : Nat), PSz (rdS d)
  | 0 => fun s x r h => by simp [rdS] at h
  | d + 1 => fun s x r h => by
    have ih := rdS_sz d
    unfold rdS at h
    split at h
    · next hc => exact word_sz 4 (zero_size _ _) (by decide) hc rfl h
    split at h
    · next hc => exact word_sz 5 (zero_size _ _) (by decide) hc rfl h
    split at h
    · next hc => exact word_sz 4 (zero_size _ _) (by decide) hc rfl h
    cases s with
    | nil => simp at h
    | cons b t =>
      simp only at h
      split at h
      · cases h1 : rdT [] t with
        | none => rw [h1] at h; cases h
        | some q =>
          rw [h1] at h
          injection h with h
          injection h with h2 h3
          subst h2; subst h3
          have := rdT_sz t [] q h1
          simp [Nd.size, ssize, Nd.sizes] at *
          omega
      split at h
      · have := insS_sz ih false 7 [] [] t x r h; simp [ssize, Nd.sizes] at *; omega
      split at h
      · have := insS_sz ih true 7 [] [] t x r h; simp [ssize, Nd.sizes] at *; omega
      · cases h1 : numS (b :: t) with
        | none => rw [h1] at h; cases h
        | some q =>
          rw [h1] at h
          injection h with h
          injection h with h2 h3
          subst h2; subst h3
          rw [zero_size]
          simp only [numS] at h1
          split at h1
          · split at h1
            · cases h1
            · injection h1 with h1; subst h1
              simp only [List.length_drop, List.length_cons]; omega
          · split at h1
            · cases h1
            · next h0 =>
              injection h1 with h1; subst h1
              have := dgs_len 6 (b :: t)
              simp only [List.length_drop, List.length_cons] at *; omega
end Go.Proofs.YtdmmnjnbjigdeaaDoor

/- ReadNode of impl: a walk. -/
namespace Go.Proofs.YtdmmnjnbjigdeaaDoor
open Go.RowKit

def zeroNd : Nd := .mk 0 0 [] [] []
/-- a node of the call's own and whether there is one -/
def NewTB (w : World) (o : Option Nd) (e : Ending) (w' : World) : Prop :=
  ∃ (r : Raw) (L : List Nat), e = .returned (.tuple #[r.v, .bool o.isSome]) ∧ OwT w' (o.getD zeroNd) r L ∧ L.Nodup ∧ (∀ b ∈ L, w.heap.size ≤ b) ∧ Below w.heap.size w w'
theorem newTB_none {w w' : World} {o : Option Nd} (b : Nat) (v0 v1 v2 v3 v4 : Value) (hb : Below w.heap.size w w') (hbl : w.heap.size ≤ b) (hs : o = none) :
    NewTB w o (.returned (.tuple #[ndV 0 0 [] none 0 0 none 0 0, .bool false])) (put5 w' b v0 v1 v2 v3 v4) := by
  subst hs
  exact ⟨⟨0, 0, [], none, 0, 0, none, 0, 0⟩, [], rfl, owT_flat _ 0 0 [], List.nodup_nil, fun j hj => (by cases hj), put5_below hb b _ _ _ _ _ hbl⟩
theorem newTB_some {w w' : World} {o : Option Nd} {x : Nd} {raw : Raw} {L : List Nat} (b : Nat) (v0 v1 v2 v3 v4 : Value) (ho : OwT w' x raw L) (hn : L.Nodup) (hL : ∀ j ∈ L, w.heap.size ≤ j ∧ j ≠ b) (hb : Below w.heap.size w w') (hbl : w.heap.size ≤ b) (hs : o = some x) :
    NewTB w o (.returned (.tuple #[raw.v, .bool true])) (put5 w' b v0 v1 v2 v3 v4) := by
  subst hs
  exact ⟨raw, L, rfl, OwT.keep _ _ _ ho (fun j hj => put5_heap _ _ _ _ _ _ _ _ (hL j hj).2), hn, fun j hj => (hL j hj).1, put5_below hb b _ _ _ _ _ hbl⟩
/-- the reader of the program, by its contract -/
theorem rdC : ∀ (d : Nat), d ≤ 11 → RdC d
  | 0, _ => fun s w _ _ _ => impl_readNode0 s w
  | d + 1, h => fun s w hl hE hR => impl_readNode1 d (rdC d (by omega)) (by omega) s w hl hE hR
set_option maxRecDepth 100000 in
set_option maxHeartbeats 4000000 in
theorem impl_ReadNode0 (s : Tx) (w : World) (hl : s.length ≤ 4000000) (hsz : ∀ x r, rdI 4 s = some (x, r) → Nd.size x ≤ 1048576) (hE : Env w) (hR : ErrIs w) : Calls Tryd.prog 20 #[sv s] w (NewTB w (readNode s)) := by
  have hX0 := heap_alloc_new w (.cells #[.int .i64 0, .int .i64 0, .string ⟨#[]⟩, .slice none 0 0, .slice none 0 0] 26)
  have hb := (Below.refl w.heap.size w).alloc (Nat.le_refl _) (.cells #[.int .i64 0, .int .i64 0, .string ⟨#[]⟩, .slice none 0 0, .slice none 0 0] 26)
  have HCALL := Lib.hid (rdC 4 (by decide) s _ (by omega) (hE.below hb) (hR.below hb))
  have HE := Lib.hid (hE.below hb)
  have HX0 := Lib.hid hX0
  have HB0 := Lib.hid hb
  have hs0 : w.heap.size < (w.alloc (.cells #[.int .i64 0, .int .i64 0, .string ⟨#[]⟩, .slice none 0 0, .slice none 0 0] 26)).heap.size := by simp
  have HRN : Hid (readNode s = match rdI 4 s with | none => none | some (x, r) => if r == [] && (Nd.valid x && Nd.wr x == s) then some x else none) := rfl
  have HSZ : Hid (∀ x r, rdI 4 s = some (x, r) → Nd.size x ≤ 1048576) := hsz
  clear hsz
  generalize readNode s = o0 at *
  generalize rdI 4 s = o at *
  clear hX0 hb hE hR
  go_enter Tryd.func20, Tryd.ntmps20
  go_wp2_with fail
  generalize w.alloc (.cells #[.int .i64 0, .int .i64 0, .string ⟨#[]⟩, .slice none 0 0, .slice none 0 0] 26) = w0 at *
  refine HCALL.out.mono ?_
  rintro e w1 ⟨raw, L, x, r, rfl, ho1, hn1, hL1, hb1, hlr, hso⟩
  obtain ⟨rk, rn, rt, rAn, rln, rcn, rAi, rli, rci⟩ := raw
  have HA := Lib.hid ((Below.refl w1.heap.size w1).alloc (Nat.le_refl _) (.cells (ndCells rk rn rt rAn rln rcn rAi rli rci) 26))
  have HX2 := Lib.hid (heap_alloc_new w1 (.cells (ndCells rk rn rt rAn rln rcn rAi rli rci) 26))
  have HO2 := Lib.hid (OwT.keep _ _ _ ho1 (fun b hb => HA.out.block b (OwT.lt _ _ _ ho1 b hb)))
  have HB02 := Lib.hid (hb1.trans (HA.out.mono hb1.size))
  have HB2 := Lib.hid (HB0.out.trans (HB02.out.mono HB0.out.size))
  have HZ2 := Lib.hid (bx_keep HX0.out HB02.out)
  have hz1 : w.heap.size < w1.heap.size := by have := hb1.size; omega
  have HL2 : Hid (∀ j ∈ L, w.heap.size < j ∧ j < w1.heap.size) := fun j hj => ⟨by have := hL1 j hj; omega, OwT.lt _ _ _ ho1 j hj⟩
  have HN1 := Lib.hid hn1
  have HE2 := Lib.hid (HE.out.below HB02.out)
  clear ho1 hn1 hL1 hb1 hlr HCALL
  go_upto_region 2 with fail
  generalize w1.alloc (.cells (ndCells rk rn rt rAn rln rcn rAi rli rci) 26) = w2 at *
  obtain ⟨⟨y0, y1, y2, y3, y4⟩, y5, y6, y7, y8, y9⟩ := box_five HZ2.out
  obtain ⟨⟨z0, z1, z2, z3, z4⟩, -⟩ := box_five HX2.out
  cases o with
  | none =>
    have HN : Hid (o0 = none) := HRN.out
    clear hso HSZ
    go_wp2
    refine bodyPost_ret (v := .tuple #[ndV 0 0 [] none 0 0 none 0 0, .bool false]) (by simp [results, Tryd.results20, go_sem, *]) rfl ?_
    exact newTB_none w.heap.size (.int .i64 0) (.int .i64 0) (sv []) (.slice none 0 0) (.slice none 0 0) (HB2.out) (Nat.le_refl _) HN.out
  | some q =>
    obtain ⟨rfl, rfl⟩ := hso q rfl
    have HR1 : Hid (o0 = if q.2 == [] && (Nd.valid q.1 && Nd.wr q.1 == s) then some q.1 else none) := HRN.out
    have hsz := HSZ.out q.1 q.2 rfl
    clear hso HSZ HRN
    by_cases hr0 : q.2 = []
    case neg =>
      have HN : Hid (o0 = none) := by show _ = _; rw [HR1.out]; simp [hr0]
      have hne : (q.2 == []) = false := by simpa using hr0
      clear hr0 HR1
      go_wp2
      refine bodyPost_ret (v := .tuple #[ndV 0 0 [] none 0 0 none 0 0, .bool false]) (by simp [results, Tryd.results20, go_sem, *]) rfl ?_
      exact newTB_none w.heap.size (.int .i64 0) (.int .i64 0) (sv []) (.slice none 0 0) (.slice none 0 0) (HB2.out) (Nat.le_refl _) HN.out
    have hne : (q.2 == []) = true := by simpa using hr0
    have HRV : Hid (o0 = if Nd.valid q.1 && Nd.wr q.1 == s then some q.1 else none) := by show _ = _; rw [HR1.out, hne]; rfl
    have HV := Lib.hid (impl_NodeValid q.1 _ _ (OwT.inN _ _ _ HO2.out (fun b hb => OwT.lt _ _ _ HO2.out b hb)) hsz)
    have HW := Lib.hid (fun (hv : Nd.valid q.1 = true) w2 (hb : Below _ _ w2) => impl_writeNode q.1 _ w2 ((OwT.inN _ _ _ HO2.out (fun b hb => OwT.lt _ _ _ HO2.out b hb)).now hb) ⟨4, valid_ok hv⟩ hsz (HE2.out.below hb))
    generalize Nd.valid q.1 = vd at *
    generalize Nd.wr q.1 = tx at *
    clear HR1
    rw [hr0]
    clear hr0 hne
    go_wp2_with fail
    refine HV.out.mono ?_
    rintro e w3 ⟨rfl, hb3⟩
    have HB3 := Lib.hid (HB2.out.trans (hb3.mono HB2.out.size))
    have HZ3 := Lib.hid (bx_keep HZ2.out hb3)
    have HX3 := Lib.hid (bx_keep HX2.out hb3)
    have HO3 := Lib.hid (OwT.keep _ _ _ HO2.out (fun b hb => hb3.block b (OwT.lt _ _ _ HO2.out b hb)))
    clear y0 y1 y2 y3 y4 y5 y6 y7 y8 y9 z0 z1 z2 z3 z4
    obtain ⟨⟨y0, y1, y2, y3, y4⟩, y5, y6, y7, y8, y9⟩ := box_five HZ3.out
    obtain ⟨⟨z0, z1, z2, z3, z4⟩, -⟩ := box_five HX3.out
    cases vd with
    | false =>
      have HN : Hid (o0 = none) := HRV.out
      clear hb3
      go_wp2
      refine bodyPost_ret (v := .tuple #[ndV 0 0 [] none 0 0 none 0 0, .bool false]) (by simp [results, Tryd.results20, go_sem, *]) rfl ?_
      exact newTB_none w.heap.size (.int .i64 0) (.int .i64 0) (sv []) (.slice none 0 0) (.slice none 0 0) (HB3.out) (Nat.le_refl _) HN.out
    | true =>
      have HWC := Lib.hid (HW.out rfl w3 hb3)
      have HRT : Hid (o0 = if tx == s then some q.1 else none) := by show _ = _; rw [HRV.out]; rfl
      clear hb3 HW HV HRV
      go_wp2_with fail
      refine HWC.out.mono ?_
      rintro e w4 ⟨rfl, hb4⟩
      have HB4 := Lib.hid (HB3.out.trans (hb4.mono HB3.out.size))
      have HZ4 := Lib.hid (bx_keep HZ3.out hb4)
      have HX4 := Lib.hid (bx_keep HX3.out hb4)
      have HO4 := Lib.hid (OwT.keep _ _ _ HO3.out (fun b hb => hb4.block b (OwT.lt _ _ _ HO3.out b hb)))
      clear y0 y1 y2 y3 y4 y5 y6 y7 y8 y9 z0 z1 z2 z3 z4 hb4
      obtain ⟨⟨y0, y1, y2, y3, y4⟩, y5, y6, y7, y8, y9⟩ := box_five HZ4.out
      obtain ⟨⟨z0, z1, z2, z3, z4⟩, -⟩ := box_five HX4.out
      cases heq : (tx == s)
      · have HN : Hid (o0 = none) := by show _ = _; rw [HRT.out, heq]; rfl
        go_wp2
        refine bodyPost_ret (v := .tuple #[ndV 0 0 [] none 0 0 none 0 0, .bool false]) (by simp [results, Tryd.results20, go_sem, *]) rfl ?_
        exact newTB_none w.heap.size (.int .i64 0) (.int .i64 0) (sv []) (.slice none 0 0) (.slice none 0 0) (HB4.out) (Nat.le_refl _) HN.out
      · have HN : Hid (o0 = some q.1) := by show _ = _; rw [HRT.out, heq]; rfl
        go_wp2
        refine bodyPost_ret (v := .tuple #[ndV rk rn rt rAn rln rcn rAi rli rci, .bool true]) (by simp [results, Tryd.results20, go_sem, *]) rfl ?_
        exact newTB_some (raw := ⟨rk, rn, rt, rAn, rln, rcn, rAi, rli, rci⟩) (L := L) (x := q.1) (w' := w4) w.heap.size (.int .i64 rk) (.int .i64 rn) (sv rt) (.slice rAn rln rcn) (.slice rAi rli rci) HO4.out HN1.out (fun j hj => by have := HL2.out j hj; omega) HB4.out (Nat.le_refl _) HN.out
theorem impl_ReadNode (s : Tx) (w : World) (hl : s.length ≤ 1048577) (hE : Env w) (hR : ErrIs w) : Calls Tryd.prog 20 #[sv s] w (NewTB w (readNode s)) :=
  impl_ReadNode0 s w (by omega) (fun x r h => by have := rdI_sz 4 s x r h; omega) hE hR
/-- a written node is read again -/
theorem impl_ReadNodeW (a : Nd) (w : World) (hv : Nd.valid a = true) (hs : Nd.size a ≤ 90000) (hE : Env w) (hR : ErrIs w) : Calls Tryd.prog 20 #[sv (Nd.wr a)] w (NewTB w (some a)) := by
  have h := impl_ReadNode0 (Nd.wr a) w (by have := Nd.wr_len a 4 (valid_ok hv); omega) (fun x r h => by
    have h2 := rdI_wr a 4 [] (valid_ok hv) noDig_nil
    rw [List.append_nil, h] at h2
    injection h2 with h2
    injection h2 with h2
    subst h2
    omega) hE hR
  rw [show readNode (Nd.wr a) = some a from readI_wr hv] at h
  exact h
end Go.Proofs.YtdmmnjnbjigdeaaDoor

/- ReadNode of spec: a walk. -/
namespace Go.Proofs.YtdmmnjnbjigdeaaDoor
open Go.RowKit

/-- the reader of the reference, by its contract -/
theorem rsC : ∀ (d : Nat), d ≤ 11 → RsC d
  | 0, _ => spec_read0
  | d + 1, h => fun s i w hl hi => spec_read1 d (rsC d (by omega)) (by omega) s i w hl hi
set_option maxRecDepth 100000 in
set_option maxHeartbeats 4000000 in
theorem spec_ReadNode0 (s : Tx) (w : World) (hl : s.length ≤ 4000000) (hsz : ∀ x r, rdS 4 s = some (x, r) → Nd.size x ≤ 1048576) (hE : Env w) : Calls Tryd.prog 22 #[sv s] w (NewTB w (readNode s)) := by
  have hX0 := heap_alloc_new w (.cells #[.int .i64 0, .int .i64 0, .string ⟨#[]⟩, .slice none 0 0, .slice none 0 0] 26)
  have hb := (Below.refl w.heap.size w).alloc (Nat.le_refl _) (.cells #[.int .i64 0, .int .i64 0, .string ⟨#[]⟩, .slice none 0 0, .slice none 0 0] 26)
  have HCALL := Lib.hid (rsC 4 (by decide) s 0 (w.alloc (.cells #[.int .i64 0, .int .i64 0, .string ⟨#[]⟩, .slice none 0 0, .slice none 0 0] 26)) (by omega) (Nat.zero_le _))
  rw [List.drop_zero] at HCALL
  have HE := Lib.hid (hE.below hb)
  have HX0 := Lib.hid hX0
  have HB0 := Lib.hid hb
  have hs0 : w.heap.size < (w.alloc (.cells #[.int .i64 0, .int .i64 0, .string ⟨#[]⟩, .slice none 0 0, .slice none 0 0] 26)).heap.size := by simp
  have HRN : Hid (readNode s = match rdS 4 s with | none => none | some (x, r) => if r == [] && (Nd.valid x && Nd.wr x == s) then some x else none) := (readS_eq s).symm
  have HSZ : Hid (∀ x r, rdS 4 s = some (x, r) → Nd.size x ≤ 1048576) := hsz
  clear hsz
  generalize readNode s = o0 at *
  generalize rdS 4 s = o at *
  clear hX0 hb hE
  go_enter Tryd.func22, Tryd.ntmps22
  go_wp2_with fail
  generalize w.alloc (.cells #[.int .i64 0, .int .i64 0, .string ⟨#[]⟩, .slice none 0 0, .slice none 0 0] 26) = w0 at *
  refine HCALL.out.mono ?_
  rintro e w1 ⟨raw, L, x, nx, rfl, ho1, hn1, hL1, hb1, hno, hso⟩
  obtain ⟨rk, rn, rt, rAn, rln, rcn, rAi, rli, rci⟩ := raw
  have HA := Lib.hid ((Below.refl w1.heap.size w1).alloc (Nat.le_refl _) (.cells (ndCells rk rn rt rAn rln rcn rAi rli rci) 26))
  have HX2 := Lib.hid (heap_alloc_new w1 (.cells (ndCells rk rn rt rAn rln rcn rAi rli rci) 26))
  have HO2 := Lib.hid (OwT.keep _ _ _ ho1 (fun b hb => HA.out.block b (OwT.lt _ _ _ ho1 b hb)))
  have HB02 := Lib.hid (hb1.trans (HA.out.mono hb1.size))
  have HB2 := Lib.hid (HB0.out.trans (HB02.out.mono HB0.out.size))
  have HZ2 := Lib.hid (bx_keep HX0.out HB02.out)
  have hz1 : w.heap.size < w1.heap.size := by have := hb1.size; omega
  have HL2 : Hid (∀ j ∈ L, w.heap.size < j ∧ j < w1.heap.size) := fun j hj => ⟨by have := hL1 j hj; omega, OwT.lt _ _ _ ho1 j hj⟩
  have HN1 := Lib.hid hn1
  have HE2 := Lib.hid (HE.out.below HB02.out)
  clear ho1 hn1 hL1 hb1 HCALL
  go_upto_region 2 with fail
  generalize w1.alloc (.cells (ndCells rk rn rt rAn rln rcn rAi rli rci) 26) = w2 at *
  obtain ⟨⟨y0, y1, y2, y3, y4⟩, y5, y6, y7, y8, y9⟩ := box_five HZ2.out
  obtain ⟨⟨z0, z1, z2, z3, z4⟩, -⟩ := box_five HX2.out
  cases o with
  | none =>
    have HN : Hid (o0 = none) := HRN.out
    obtain rfl := hno rfl
    have hnl : ((-1 : Int) != (s.length : Int)) = true := by simp
    clear hso HSZ hno
    go_wp2
    refine bodyPost_ret (v := .tuple #[ndV 0 0 [] none 0 0 none 0 0, .bool false]) (by simp [results, Tryd.results22, go_sem, *]) rfl ?_
    exact newTB_none w.heap.size (.int .i64 0) (.int .i64 0) (sv []) (.slice none 0 0) (.slice none 0 0) (HB2.out) (Nat.le_refl _) HN.out
  | some q =>
    obtain ⟨rfl, k, hk0, hks, rfl, hqd⟩ := hso q rfl
    have HR1 : Hid (o0 = if q.2 == [] && (Nd.valid q.1 && Nd.wr q.1 == s) then some q.1 else none) := HRN.out
    have hsz := HSZ.out q.1 q.2 rfl
    clear hso HSZ HRN hno
    by_cases hr0 : q.2 = []
    case neg =>
      have HN : Hid (o0 = none) := by show _ = _; rw [HR1.out]; simp [hr0]
      have hkn : k ≠ s.length := fun e => hr0 (by rw [hqd, e]; simp)
      have hkb : (k == s.length) = false := by simpa using hkn
      have hkp : (k = s.length) = False := eq_false hkn
      clear hr0 HR1 hqd
      go_wp2
      refine bodyPost_ret (v := .tuple #[ndV 0 0 [] none 0 0 none 0 0, .bool false]) (by simp [results, Tryd.results22, go_sem, *]) rfl ?_
      exact newTB_none w.heap.size (.int .i64 0) (.int .i64 0) (sv []) (.slice none 0 0) (.slice none 0 0) (HB2.out) (Nat.le_refl _) HN.out
    have hne : (q.2 == []) = true := by simpa using hr0
    have hke : k = s.length := by
      have := congrArg List.length hqd
      rw [hr0, List.length_drop] at this
      simp at this
      omega
    subst hke
    have HRV : Hid (o0 = if Nd.valid q.1 && Nd.wr q.1 == s then some q.1 else none) := by show _ = _; rw [HR1.out, hne]; rfl
    have HV := Lib.hid (spec_NodeValid q.1 _ _ (OwT.inN _ _ _ HO2.out (fun b hb => OwT.lt _ _ _ HO2.out b hb)) hsz)
    have HW := Lib.hid (fun (hv : Nd.valid q.1 = true) w2 (hb : Below _ _ w2) => spec_l26Text q.1 _ w2 ((OwT.inN _ _ _ HO2.out (fun b hb => OwT.lt _ _ _ HO2.out b hb)).now hb) ⟨4, valid_ok hv⟩ hsz (HE2.out.below hb))
    generalize Nd.valid q.1 = vd at *
    generalize Nd.wr q.1 = tx at *
    clear HR1 hr0 hne hqd
    go_wp2_with fail
    refine HV.out.mono ?_
    rintro e w3 ⟨rfl, hb3⟩
    have HB3 := Lib.hid (HB2.out.trans (hb3.mono HB2.out.size))
    have HZ3 := Lib.hid (bx_keep HZ2.out hb3)
    have HX3 := Lib.hid (bx_keep HX2.out hb3)
    have HO3 := Lib.hid (OwT.keep _ _ _ HO2.out (fun b hb => hb3.block b (OwT.lt _ _ _ HO2.out b hb)))
    clear y0 y1 y2 y3 y4 y5 y6 y7 y8 y9 z0 z1 z2 z3 z4
    obtain ⟨⟨y0, y1, y2, y3, y4⟩, y5, y6, y7, y8, y9⟩ := box_five HZ3.out
    obtain ⟨⟨z0, z1, z2, z3, z4⟩, -⟩ := box_five HX3.out
    cases vd with
    | false =>
      have HN : Hid (o0 = none) := HRV.out
      clear hb3
      go_wp2
      refine bodyPost_ret (v := .tuple #[ndV 0 0 [] none 0 0 none 0 0, .bool false]) (by simp [results, Tryd.results22, go_sem, *]) rfl ?_
      exact newTB_none w.heap.size (.int .i64 0) (.int .i64 0) (sv []) (.slice none 0 0) (.slice none 0 0) (HB3.out) (Nat.le_refl _) HN.out
    | true =>
      have HWC := Lib.hid (HW.out rfl w3 hb3)
      have HRT : Hid (o0 = if tx == s then some q.1 else none) := by show _ = _; rw [HRV.out]; rfl
      clear hb3 HW HV HRV
      go_wp2_with fail
      refine HWC.out.mono ?_
      rintro e w4 ⟨rfl, hb4⟩
      have HB4 := Lib.hid (HB3.out.trans (hb4.mono HB3.out.size))
      have HZ4 := Lib.hid (bx_keep HZ3.out hb4)
      have HX4 := Lib.hid (bx_keep HX3.out hb4)
      have HO4 := Lib.hid (OwT.keep _ _ _ HO3.out (fun b hb => hb4.block b (OwT.lt _ _ _ HO3.out b hb)))
      clear y0 y1 y2 y3 y4 y5 y6 y7 y8 y9 z0 z1 z2 z3 z4 hb4
      obtain ⟨⟨y0, y1, y2, y3, y4⟩, y5, y6, y7, y8, y9⟩ := box_five HZ4.out
      obtain ⟨⟨z0, z1, z2, z3, z4⟩, -⟩ := box_five HX4.out
      cases heq : (tx == s)
      · have HN : Hid (o0 = none) := by show _ = _; rw [HRT.out, heq]; rfl
        go_wp2
        refine bodyPost_ret (v := .tuple #[ndV 0 0 [] none 0 0 none 0 0, .bool false]) (by simp [results, Tryd.results22, go_sem, *]) rfl ?_
        exact newTB_none w.heap.size (.int .i64 0) (.int .i64 0) (sv []) (.slice none 0 0) (.slice none 0 0) (HB4.out) (Nat.le_refl _) HN.out
      · have HN : Hid (o0 = some q.1) := by show _ = _; rw [HRT.out, heq]; rfl
        go_wp2
        refine bodyPost_ret (v := .tuple #[ndV rk rn rt rAn rln rcn rAi rli rci, .bool true]) (by simp [results, Tryd.results22, go_sem, *]) rfl ?_
        exact newTB_some (raw := ⟨rk, rn, rt, rAn, rln, rcn, rAi, rli, rci⟩) (L := L) (x := q.1) (w' := w4) w.heap.size (.int .i64 rk) (.int .i64 rn) (sv rt) (.slice rAn rln rcn) (.slice rAi rli rci) HO4.out HN1.out (fun j hj => by have := HL2.out j hj; omega) HB4.out (Nat.le_refl _) HN.out
theorem spec_ReadNode (s : Tx) (w : World) (hl : s.length ≤ 1048577) (hE : Env w) : Calls Tryd.prog 22 #[sv s] w (NewTB w (readNode s)) :=
  spec_ReadNode0 s w (by omega) (fun x r h => by have := rdS_sz 4 s x r h; omega) hE
end Go.Proofs.YtdmmnjnbjigdeaaDoor

/- What the cards of this seat are closed by. -/
namespace Go.Proofs.YtdmmnjnbjigdeaaDoor
end Go.Proofs.YtdmmnjnbjigdeaaDoor
namespace Go
variable {H : Type} {enc : TypeId × Value → H}
/-- a card's wrap with the world's shape kept for the contract -/
theorem returnsInHanded_of_change_and_shaped {a : Assume} {C : Checked} {os : Os} {f : FuncId} {fn : Func} {s : ChangeSpec} {conds : List PathCond} {apart fresh handsOn again : Bool} {X : World → Array Value → Prop}
    (hX : ∀ (w w' : World) (args : Array Value), w.heap = w'.heap → X w args → X w' args)
    (own : ownKnob C.prog.godebug = none) (started : os.Started) (noInit : C.prog.inits.idxOf? f = none) (hfn : C.prog.funcs[f]? = some fn)
    (witness : ∃ (w : World) (tape : Tape) (i : Input), w.os = os ∧ (w.forCall tape i).Shaped C.prog ∧ i.vars = [] ∧ Input.okWide C.prog (w.forCall tape i) .any w.heap.size f i ∧
      ((s.pre enc C.prog fn conds apart (w.forCall tape i).memory i.args ∧ X (w.forCall tape i).memory i.args) ∧ sizedMet enc C.prog fn (OpenSpec.ofChange s) apart (w.forCall tape i).memory i.args) ∧ a.holds C.prog (lone (Frame.enter C.prog f i.args .normal) [] (w.forCall tape i)))
    (contract : ∀ (W : World) (base : Nat) (args : Array Value) (ds gs : List (DataW H)) (before : List MemPlace),
      (∀ (j : Nat) t v, fn.params[j]? = some t → args[j]? = some v → Value.okWide C.prog W .any base t v) →
      DataW.Whole enc C.prog fn.params.toList s.vars apart W args.toList ds gs before →
      conds.all (PathCond.test C.prog ⟨fn.params.toList, ds, s.plain.varTypes C.prog, gs⟩) = true →
      (DataW.weightsEach C.prog (fn.params.toList ++ s.plain.varTypes C.prog) (ds ++ gs)).all (· ≤ reachBytes) = true → X W args →
      W.ShapedOpen C.prog →
      a.holds C.prog (lone (Frame.enter C.prog f args .normal) [] W) →
      Calls C.prog f args W fun e W' => ∃ v, e = .returned v ∧ s.post enc C.prog fn apart fresh handsOn again W args v W') :
    ReturnsInHanded a C os f .any (fun w args => (s.pre enc C.prog fn conds apart w args ∧ X w args) ∧ sizedMet enc C.prog fn (OpenSpec.ofChange s) apart w args) (s.post enc C.prog fn apart fresh handsOn again) := by
  refine returnsInHanded_of_calls own started noInit witness ?_
  intro w tape i _ hsh _ hok hpre hholds
  obtain ⟨_, _, _, fn', hfn', _, _, _, _, hval⟩ := hok
  have e : fn' = fn := Option.some.inj (hfn'.symm.trans hfn)
  subst e
  obtain ⟨⟨⟨ds, gs, before, hw, hc⟩, hx⟩, hz⟩ := hpre
  have hw' := DataW.Whole.of_heap (w' := w.forCall tape i) (by rfl) hw
  refine (contract (w.forCall tape i) w.heap.size i.args ds gs before hval hw' hc (hz.weights hw) (hX _ _ _ (by rfl) hx) hsh hholds).mono fun e W' ⟨v, he, hp⟩ => ?_
  subst he
  exact ChangeSpec.post_blind hp
end Go

/- Drawn nodes: walks. -/
namespace Go.Proofs.YtdmmnjnbjigdeaaDoor
open Go.RowKit

def ndCost : Nat → Nat
  | 0 => 10
  | d + 1 => 20 + 40 * ndCost d
def ndBig : Nat → Nat
  | 0 => 100
  | d + 1 => 120 + 3 * ndBig d
/-- the call drew a node in blocks of its own, and at most m numbers -/
def DrawnN (w : World) (B g q m M : Nat) (e : Ending) (w' : World) : Prop :=
  ∃ x k n t An ln cn Ai li ci, e = .returned (ndV k n t An ln cn Ai li ci) ∧ InN w' (Fresh w w') x (ndV k n t An ln cn Ai li ci) ∧ Nd.size x ≤ M ∧ Rdr w' B g (q + m) ∧ w.grownBy w' (some g)
theorem rdr_setN {w : World} {B g q k o : Nat} {u : Value} (h : Rdr w B g q) (hg : g < k) : Rdr (w.setCell ⟨k, o, none⟩ u) B g q := h.frame (row := some k) (grown_set (grown_refl _ _) _ _) (fun j hj => by injection hj; omega)
theorem grown_set_upN {w0 w : World} {row : Option Nat} {k o : Nat} {u : Value} (h : w0.grownBy w row) (hk : w0.heap.size ≤ k) : w0.grownBy (w.setCell ⟨k, o, none⟩ u) row := grown_set_new h (p := ⟨k, o, none⟩) hk u
theorem bytes_strN (w : World) {b : Nat} {c : UInt8} {t : TypeId} (hh : w.heap[b]? = some (.cells #[.int .u8 (c.toNat : Int)] t (0, 0))) :
    (convert 22 9 (.slice (some ⟨b, 0, none⟩) 1 1)).run Tryd.prog w = .ok (.string ⟨[c].toArray⟩) w := by
  refine run_convert_bytes_back w 22 9 5 ⟨b, 0, none⟩ 1 [c] Tryd.underlying22 Tryd.underlying5 Tryd.underlying9 ?_
  intro j hj
  have hj0 : j = 0 := by simpa using hj
  subst hj0
  simp only [List.getElem_cons_zero]
  show w.cell? ⟨b, 0, none⟩ = _
  rw [cell_of_row w b 0 _ _ _ hh]; rfl
/-- the world of a region that draws at most D numbers in each of its operations -/
def DWD (w0 : World) (B g q D m : Nat) (w : World) : Prop := Rdr w B g (q + m * D) ∧ w0.grownBy w (some g)
theorem DWD.next {w0 w w' : World} {B g q D m : Nat} (h : DWD w0 B g q D m w) (hb : Below w.heap.size w w') : DWD w0 B g q D (m + 1) w' := ⟨(h.1.keep hb).more (by rw [Nat.succ_mul]; omega), grown_below h.2 hb⟩
theorem DWD.same {w0 w : World} {B g q D m : Nat} (h : DWD w0 B g q D m w) : DWD w0 B g q D (m + 1) w := h.next (Below.refl _ _)
theorem DWD.new {w0 w : World} {B g q D m : Nat} (h : DWD w0 B g q D m w) : w.heap.size ≠ g := by have := h.1.lt; omega
/-- a node that the region has drawn -/
def tNd (g : Nat) (W0 : World) (M : Nat) : Ty := fun w v => ∃ x k n t An ln cn Ai li ci, v = ndV k n t An ln cn Ai li ci ∧ InN w (fun j => W0.heap.size ≤ j ∧ j < w.heap.size) x (ndV k n t An ln cn Ai li ci) ∧ Nd.size x ≤ M ∧ g < W0.heap.size
theorem inN_kp {g : Nat} {W0 w w' : World} {x : Nd} {v : Value} (h : InN w (fun j => W0.heap.size ≤ j ∧ j < w.heap.size) x v) (hk : Kp g w w') (hg : g < W0.heap.size) : InN w' (fun j => W0.heap.size ≤ j ∧ j < w'.heap.size) x v :=
  InN.keep (fun p hp => World.cell?_of_block (hk.block _ hp.2 (by intro e; injection e; have := hp.1; omega))) (fun j hj => ⟨hj.1, Nat.lt_of_lt_of_le hj.2 hk.size⟩) _ _ h
theorem stays_tNd {g M : Nat} {W0 : World} : Stays g (tNd g W0 M) := fun _ _ _ hk ⟨x, k, n, t, An, ln, cn, Ai, li, ci, e, h, h2, h3⟩ => ⟨x, k, n, t, An, ln, cn, Ai, li, ci, e, inN_kp h hk h3, h2, h3⟩
def tOneN (g : Nat) (W0 : World) (M : Nat) : Ty := fun w v => ∃ b x k n t An ln cn Ai li ci, v = .slice (some ⟨b, 0, none⟩) 1 1 ∧ b ≠ g ∧ w.heap[b]? = some (.cells (ndCells k n t An ln cn Ai li ci) 26 (0, 0)) ∧ InN w (fun j => W0.heap.size ≤ j ∧ j < w.heap.size) x (ndV k n t An ln cn Ai li ci) ∧ Nd.size x ≤ M ∧ g < W0.heap.size
theorem stays_tOneN {g M : Nat} {W0 : World} : Stays g (tOneN g W0 M) := fun _ _ _ hk ⟨b, x, k, n, t, An, ln, cn, Ai, li, ci, e, hb, hh, h, h2, h3⟩ => ⟨b, x, k, n, t, An, ln, cn, Ai, li, ci, e, hb, kp_block hk hb hh, inN_kp h hk h3, h2, h3⟩
/-- short names, small nodes -/
def SmN (M : Nat) (ns : List Tx) (xs : List Nd) : Prop := ssize ns ≤ ns.length ∧ ∀ x ∈ xs, Nd.size x ≤ M
theorem ssize_snoc (ns : List Tx) (y : Tx) : ssize (ns ++ [y]) = ssize ns + y.length := by
  induction ns with
  | nil => simp [ssize]
  | cons z s ih => simp only [List.cons_append, ssize, ih]; omega
theorem sizes_le {M : Nat} : ∀ {xs : List Nd}, (∀ x ∈ xs, Nd.size x ≤ M) → Nd.sizes xs ≤ xs.length * M
  | [], _ => by simp [Nd.sizes]
  | x :: t, h => by
    have h1 := h x (by simp)
    have h2 := sizes_le fun y hy => h y (List.mem_cons_of_mem _ hy)
    simp only [Nd.sizes, List.length_cons, Nat.succ_mul]
    omega
theorem SmN.size {M : Nat} {ns : List Tx} {xs : List Nd} {k n : Int} (h : SmN M ns xs) (hn : ns.length ≤ 3) (hx : xs.length ≤ 3) : Nd.size (.mk k n [] ns xs) ≤ 120 + 3 * M := by
  have h1 := h.1
  have h2 := sizes_le h.2
  have h3 : xs.length * M ≤ 3 * M := Nat.mul_le_mul_right _ hx
  simp only [Nd.size, List.length_nil]
  omega
theorem SmN.snoc {M : Nat} {ns : List Tx} {xs : List Nd} {x : Nd} (h : SmN M ns xs) (hx : Nd.size x ≤ M) : SmN M ns (xs ++ [x]) := ⟨h.1, fun y hy => by
  rcases List.mem_append.1 hy with hy | hy
  · exact h.2 y hy
  · simp at hy; subst hy; exact hx⟩
theorem SmN.name {M : Nat} {ns : List Tx} {xs : List Nd} {y : Tx} (h : SmN M ns xs) (hy : y.length ≤ 1) : SmN M (ns ++ [y]) xs := ⟨by rw [ssize_snoc]; simp; have := h.1; omega, h.2⟩

/-- what l20Node's contract says at one depth -/
def DrC (d : Nat) : Prop := ∀ (B g q : Nat) (w : World), Rdr w B g q → q + ndCost d ≤ 100000000 → Calls Tryd.prog 43 #[.pointer (some ⟨g, 0, none⟩), .int .i64 ((d : Int) + 1)] w (DrawnN w B g q (ndCost d) (ndBig d))

set_option maxRecDepth 100000 in
set_option maxHeartbeats 4000000 in
theorem spec_l20Node0 : DrC 0 := by
  intro B g q w h hq
  have hlt := h.lt
  have hq : q + 10 ≤ 100000000 := hq
  have HB0 : ndBig 0 = 100 := rfl
  have HC0 : ndCost 0 = 10 := rfl
  rw [HB0, HC0]
  clear HB0 HC0
  show Calls Tryd.prog 43 #[.pointer (some ⟨g, 0, none⟩), .int .i64 1] w _
  have H := Lib.hid h
  clear h
  go_enter Tryd.func43, Tryd.ntmps43
  go_wp2_with fail
  refine (spec_pick B g _ 6 _ (H.out.keep ((Below.refl _ _).alloc (Nat.le_refl _) _)) (by omega) (by omega) (by omega)).mono ?_
  rintro e w1 ⟨k1, rfl, hk1, hr1, hg1⟩
  have hres1 : w1.heap[w.heap.size]? = some (.cells #[.int .i64 0, .int .i64 0, .string ⟨#[]⟩, .slice none 0 0, .slice none 0 0] 26 (0, 0)) := (hg1.block w.heap.size (by simp) (by intro e; injection e; omega)).trans (heap_alloc_new w _)
  have HG1 := Lib.hid (grown_trans (World.grownBy_alloc w (.cells #[.int .i64 0, .int .i64 0, .string ⟨#[]⟩, .slice none 0 0, .slice none 0 0] 26) (some g)) hg1)
  have HR1 := Lib.hid hr1
  clear hr1 hg1
  go_wp2_with fail
  refine (spec_pick B g _ 4 _ HR1.out (by omega) (by omega) (by omega)).mono ?_
  rintro e ws ⟨k2, rfl, hk2, hr2, hg2⟩
  have hres : ws.heap[w.heap.size]? = some (.cells #[.int .i64 0, .int .i64 0, .string ⟨#[]⟩, .slice none 0 0, .slice none 0 0] 26 (0, 0)) := (hg2.block w.heap.size (lt_of_block hres1) (by intro e; injection e; omega)).trans hres1
  have hslt : w.heap.size < ws.heap.size := lt_of_block hres
  have HGs := Lib.hid (grown_trans HG1.out hg2)
  have HRs := Lib.hid hr2
  clear hr2 hg2 hres1 hk1
  obtain rfl | rfl | rfl | rfl : k2 = 0 ∨ k2 = 1 ∨ k2 = 2 ∨ k2 = 3 := by omega
  ·
    have HL : Hid (NSt w (ws.alloc (.cells #[.int .i64 1, .int .i64 0, .string ⟨#[]⟩, .slice none 0 0, .slice none 0 0] 26)) g ws.heap.size 1 0 [] none 0 [] none 0 [] []) := ⟨heap_alloc_new ws _, ownS_nil _ _, ownN_nil _ _, ⟨rfl, fun i r x h => by simp at h⟩, (fun j h => by simp [Value.ownBlock] at h), (heap_alloc_old ws _ hslt).trans hres, hslt, hlt⟩
    have HR := Lib.hid (HRs.out.keep ((Below.refl _ _).alloc (Nat.le_refl _) (.cells #[.int .i64 1, .int .i64 0, .string ⟨#[]⟩, .slice none 0 0, .slice none 0 0] 26)))
    have HG := Lib.hid (grown_alloc HGs.out (.cells #[.int .i64 1, .int .i64 0, .string ⟨#[]⟩, .slice none 0 0, .slice none 0 0] 26))
    have hbg : ws.heap.size ≠ g := by omega
    obtain ⟨⟨f0, f1, f2, f3, f4⟩, f5, f6, f7, f8, f9⟩ := box_five HL.out.box
    have HSZ : Hid (Nd.size (.mk 1 0 [] [] []) ≤ 100) := by show _ ≤ _; simp [Nd.size, Nd.sizes, ssize]
    go_upto_region 5 with fail
    generalize ws.alloc (.cells #[.int .i64 1, .int .i64 0, .string ⟨#[]⟩, .slice none 0 0, .slice none 0 0] 26) = wb at *
    obtain ⟨⟨f0, f1, f2, f3, f4⟩, f5, f6, f7, f8, f9⟩ := box_five HL.out.box
    obtain ⟨⟨r0, r1, r2, r3, r4⟩, r5, r6, r7, r8, r9⟩ := box_five HL.out.res
    go_wp2
    refine bodyPost_ret (v := ndV 1 0 [] none 0 0 none 0 0) (by simp [results, Tryd.results43, go_sem, *]) rfl ?_
    have HZ := HL.out
    have HN := HZ.lt
    have HO := HZ.old
    refine ⟨_, _, _, _, _, _, _, _, _, _, rfl, HZ.done (fun p hp => ?_) (by simp [World.setCell]), ?_, ?_, ?_⟩
    · have hpn : p.block ≠ w.heap.size := by omega
      rw [set_cellN hpn, set_cellN hpn, set_cellN hpn, set_cellN hpn, set_cellN hpn]
    · exact HSZ.out
    · exact (rdr_setN (rdr_setN (rdr_setN (rdr_setN (rdr_setN HR.out (by omega)) (by omega)) (by omega)) (by omega)) (by omega)).more (by omega)
    · exact grown_set_upN (grown_set_upN (grown_set_upN (grown_set_upN (grown_set_upN HG.out (by omega)) (by omega)) (by omega)) (by omega)) (by omega)
  ·
    have HL : Hid (NSt w (ws.alloc (.cells #[.int .i64 2, .int .i64 0, .string ⟨#[]⟩, .slice none 0 0, .slice none 0 0] 26)) g ws.heap.size 2 0 [] none 0 [] none 0 [] []) := ⟨heap_alloc_new ws _, ownS_nil _ _, ownN_nil _ _, ⟨rfl, fun i r x h => by simp at h⟩, (fun j h => by simp [Value.ownBlock] at h), (heap_alloc_old ws _ hslt).trans hres, hslt, hlt⟩
    have HR := Lib.hid (HRs.out.keep ((Below.refl _ _).alloc (Nat.le_refl _) (.cells #[.int .i64 2, .int .i64 0, .string ⟨#[]⟩, .slice none 0 0, .slice none 0 0] 26)))
    have HG := Lib.hid (grown_alloc HGs.out (.cells #[.int .i64 2, .int .i64 0, .string ⟨#[]⟩, .slice none 0 0, .slice none 0 0] 26))
    have hbg : ws.heap.size ≠ g := by omega
    obtain ⟨⟨f0, f1, f2, f3, f4⟩, f5, f6, f7, f8, f9⟩ := box_five HL.out.box
    go_wp2_with fail
    refine (spec_pick B g _ 2 _ HR.out (by omega) (by omega) (by omega)).mono ?_
    rintro e w7 ⟨k7, rfl, hk7, hr7, hg7⟩
    have HL7 := Lib.hid (HL.out.grow hg7)
    obtain ⟨⟨f0, f1, f2, f3, f4⟩, f5, f6, f7, f8, f9⟩ := box_five HL7.out.box
    have HL := Lib.hid (HL7.out.set 1 (.int .i64 (k7 : Int)) (nn' := (k7 : Int)) (tt' := []) rfl)
    have HR := Lib.hid (rdr_setN (o := 1) (u := .int .i64 (k7 : Int)) (k := ws.heap.size) hr7 (by omega))
    have HG := Lib.hid (grown_set_upN (o := 1) (u := .int .i64 (k7 : Int)) (k := ws.heap.size) (grown_trans HG.out hg7) (by omega))
    clear hr7 hg7
    have HSZ : Hid (Nd.size (.mk 2 (k7 : Int) [] [] []) ≤ 100) := by show _ ≤ _; simp [Nd.size, Nd.sizes, ssize]
    obtain ⟨⟨f0, f1, f2, f3, f4⟩, f5, f6, f7, f8, f9⟩ := box_five HL.out.box
    obtain ⟨⟨r0, r1, r2, r3, r4⟩, r5, r6, r7, r8, r9⟩ := box_five HL.out.res
    go_wp2
    refine bodyPost_ret (v := ndV 2 (k7 : Int) [] none 0 0 none 0 0) (by simp [results, Tryd.results43, go_sem, *]) rfl ?_
    have HZ := HL.out
    have HN := HZ.lt
    have HO := HZ.old
    refine ⟨_, _, _, _, _, _, _, _, _, _, rfl, HZ.done (fun p hp => ?_) (by simp [World.setCell]), ?_, ?_, ?_⟩
    · have hpn : p.block ≠ w.heap.size := by omega
      rw [set_cellN hpn, set_cellN hpn, set_cellN hpn, set_cellN hpn, set_cellN hpn]
    · exact HSZ.out
    · exact (rdr_setN (rdr_setN (rdr_setN (rdr_setN (rdr_setN HR.out (by omega)) (by omega)) (by omega)) (by omega)) (by omega)).more (by omega)
    · exact grown_set_upN (grown_set_upN (grown_set_upN (grown_set_upN (grown_set_upN HG.out (by omega)) (by omega)) (by omega)) (by omega)) (by omega)
  ·
    have HL : Hid (NSt w (ws.alloc (.cells #[.int .i64 3, .int .i64 0, .string ⟨#[]⟩, .slice none 0 0, .slice none 0 0] 26)) g ws.heap.size 3 0 [] none 0 [] none 0 [] []) := ⟨heap_alloc_new ws _, ownS_nil _ _, ownN_nil _ _, ⟨rfl, fun i r x h => by simp at h⟩, (fun j h => by simp [Value.ownBlock] at h), (heap_alloc_old ws _ hslt).trans hres, hslt, hlt⟩
    have HR := Lib.hid (HRs.out.keep ((Below.refl _ _).alloc (Nat.le_refl _) (.cells #[.int .i64 3, .int .i64 0, .string ⟨#[]⟩, .slice none 0 0, .slice none 0 0] 26)))
    have HG := Lib.hid (grown_alloc HGs.out (.cells #[.int .i64 3, .int .i64 0, .string ⟨#[]⟩, .slice none 0 0, .slice none 0 0] 26))
    have hbg : ws.heap.size ≠ g := by omega
    obtain ⟨⟨f0, f1, f2, f3, f4⟩, f5, f6, f7, f8, f9⟩ := box_five HL.out.box
    go_wp2_with fail
    refine (spec_pick B g _ 256 _ HR.out (by omega) (by omega) (by omega)).mono ?_
    rintro e w7 ⟨k7, rfl, hk7, hr7, hg7⟩
    have HL7 := Lib.hid (HL.out.grow hg7)
    have HR7 := Lib.hid hr7
    have HG7 := Lib.hid (grown_trans HG.out hg7)
    have hs7 : ws.heap.size < w7.heap.size := HL7.out.size
    clear hr7 hg7
    go_wp2_with fail
    refine (spec_pick B g _ 6 _ ((HR7.out.keep ((Below.refl _ _).alloc (Nat.le_refl _) _)).keep ((Below.refl _ _).alloc (Nat.le_refl _) _)) (by omega) (by omega) (by omega)).mono ?_
    rintro e w8 ⟨k8, rfl, hk8, hr8, hg8⟩
    have hl1 : w8.heap[w7.heap.size]? = _ := (hg8.block w7.heap.size (by simp; omega) (by intro e; injection e; omega)).trans ((heap_alloc_old _ _ (by simp)).trans (heap_alloc_new w7 _))
    have hl2 : w8.heap[w7.heap.size + 1]? = some (.cells #[.int .i64 0, .int .i64 0, .int .i64 0, .int .i64 1, .int .i64 2, .int .i64 3] 3 (0, 0)) := (hg8.block (w7.heap.size + 1) (by simp) (by intro e; injection e; omega)).trans (by have := heap_alloc_new (w7.alloc (.cells #[.int .i64 ((k7 : Int) - 128), .int .i64 999999, .int .i64 (-999999), .int .i64 0] 3)) (.cells #[.int .i64 0, .int .i64 0, .int .i64 0, .int .i64 1, .int .i64 2, .int .i64 3] 3); simpa using this)
    have HL8 := Lib.hid (((HL7.out.alloc _).alloc _).grow hg8)
    have HR8 := Lib.hid hr8
    have HG8 := Lib.hid (grown_trans (grown_alloc (grown_alloc HG7.out _) _) hg8)
    have a0 := cell_of_row w8 _ 0 _ _ _ hl1
    have a1 := cell_of_row w8 _ 1 _ _ _ hl1
    have a2 := cell_of_row w8 _ 2 _ _ _ hl1
    have a3 := cell_of_row w8 _ 3 _ _ _ hl1
    have b0 := cell_of_row w8 _ 0 _ _ _ hl2
    have b1 := cell_of_row w8 _ 1 _ _ _ hl2
    have b2 := cell_of_row w8 _ 2 _ _ _ hl2
    have b3 := cell_of_row w8 _ 3 _ _ _ hl2
    have b4 := cell_of_row w8 _ 4 _ _ _ hl2
    have b5 := cell_of_row w8 _ 5 _ _ _ hl2
    clear hl1 hl2 hr8 hg8
    obtain ⟨⟨f0, f1, f2, f3, f4⟩, f5, f6, f7, f8, f9⟩ := box_five HL8.out.box
    obtain rfl | rfl | rfl | rfl | rfl | rfl : k8 = 0 ∨ k8 = 1 ∨ k8 = 2 ∨ k8 = 3 ∨ k8 = 4 ∨ k8 = 5 := by omega
    ·
      have HL := Lib.hid (HL8.out.set 1 (.int .i64 ((k7 : Int) - 128)) (nn' := ((k7 : Int) - 128)) (tt' := []) rfl)
      have HR := Lib.hid (rdr_setN (o := 1) (u := .int .i64 ((k7 : Int) - 128)) (k := ws.heap.size) HR8.out (by omega))
      have HG := Lib.hid (grown_set_upN (o := 1) (u := .int .i64 ((k7 : Int) - 128)) (k := ws.heap.size) HG8.out (by omega))
      have HSZ : Hid (Nd.size (.mk 3 ((k7 : Int) - 128) [] [] []) ≤ 100) := by show _ ≤ _; simp [Nd.size, Nd.sizes, ssize]
      obtain ⟨⟨f0, f1, f2, f3, f4⟩, f5, f6, f7, f8, f9⟩ := box_five HL.out.box
      obtain ⟨⟨r0, r1, r2, r3, r4⟩, r5, r6, r7, r8, r9⟩ := box_five HL.out.res
      go_wp2
      refine bodyPost_ret (v := ndV 3 ((k7 : Int) - 128) [] none 0 0 none 0 0) (by simp [results, Tryd.results43, go_sem, *]) rfl ?_
      have HZ := HL.out
      have HN := HZ.lt
      have HO := HZ.old
      refine ⟨_, _, _, _, _, _, _, _, _, _, rfl, HZ.done (fun p hp => ?_) (by simp [World.setCell]), ?_, ?_, ?_⟩
      · have hpn : p.block ≠ w.heap.size := by omega
        rw [set_cellN hpn, set_cellN hpn, set_cellN hpn, set_cellN hpn, set_cellN hpn]
      · exact HSZ.out
      · exact (rdr_setN (rdr_setN (rdr_setN (rdr_setN (rdr_setN HR.out (by omega)) (by omega)) (by omega)) (by omega)) (by omega)).more (by omega)
      · exact grown_set_upN (grown_set_upN (grown_set_upN (grown_set_upN (grown_set_upN HG.out (by omega)) (by omega)) (by omega)) (by omega)) (by omega)
    ·
      have HL := Lib.hid (HL8.out.set 1 (.int .i64 ((k7 : Int) - 128)) (nn' := ((k7 : Int) - 128)) (tt' := []) rfl)
      have HR := Lib.hid (rdr_setN (o := 1) (u := .int .i64 ((k7 : Int) - 128)) (k := ws.heap.size) HR8.out (by omega))
      have HG := Lib.hid (grown_set_upN (o := 1) (u := .int .i64 ((k7 : Int) - 128)) (k := ws.heap.size) HG8.out (by omega))
      have HSZ : Hid (Nd.size (.mk 3 ((k7 : Int) - 128) [] [] []) ≤ 100) := by show _ ≤ _; simp [Nd.size, Nd.sizes, ssize]
      obtain ⟨⟨f0, f1, f2, f3, f4⟩, f5, f6, f7, f8, f9⟩ := box_five HL.out.box
      obtain ⟨⟨r0, r1, r2, r3, r4⟩, r5, r6, r7, r8, r9⟩ := box_five HL.out.res
      go_wp2
      refine bodyPost_ret (v := ndV 3 ((k7 : Int) - 128) [] none 0 0 none 0 0) (by simp [results, Tryd.results43, go_sem, *]) rfl ?_
      have HZ := HL.out
      have HN := HZ.lt
      have HO := HZ.old
      refine ⟨_, _, _, _, _, _, _, _, _, _, rfl, HZ.done (fun p hp => ?_) (by simp [World.setCell]), ?_, ?_, ?_⟩
      · have hpn : p.block ≠ w.heap.size := by omega
        rw [set_cellN hpn, set_cellN hpn, set_cellN hpn, set_cellN hpn, set_cellN hpn]
      · exact HSZ.out
      · exact (rdr_setN (rdr_setN (rdr_setN (rdr_setN (rdr_setN HR.out (by omega)) (by omega)) (by omega)) (by omega)) (by omega)).more (by omega)
      · exact grown_set_upN (grown_set_upN (grown_set_upN (grown_set_upN (grown_set_upN HG.out (by omega)) (by omega)) (by omega)) (by omega)) (by omega)
    ·
      have HL := Lib.hid (HL8.out.set 1 (.int .i64 ((k7 : Int) - 128)) (nn' := ((k7 : Int) - 128)) (tt' := []) rfl)
      have HR := Lib.hid (rdr_setN (o := 1) (u := .int .i64 ((k7 : Int) - 128)) (k := ws.heap.size) HR8.out (by omega))
      have HG := Lib.hid (grown_set_upN (o := 1) (u := .int .i64 ((k7 : Int) - 128)) (k := ws.heap.size) HG8.out (by omega))
      have HSZ : Hid (Nd.size (.mk 3 ((k7 : Int) - 128) [] [] []) ≤ 100) := by show _ ≤ _; simp [Nd.size, Nd.sizes, ssize]
      obtain ⟨⟨f0, f1, f2, f3, f4⟩, f5, f6, f7, f8, f9⟩ := box_five HL.out.box
      obtain ⟨⟨r0, r1, r2, r3, r4⟩, r5, r6, r7, r8, r9⟩ := box_five HL.out.res
      go_wp2
      refine bodyPost_ret (v := ndV 3 ((k7 : Int) - 128) [] none 0 0 none 0 0) (by simp [results, Tryd.results43, go_sem, *]) rfl ?_
      have HZ := HL.out
      have HN := HZ.lt
      have HO := HZ.old
      refine ⟨_, _, _, _, _, _, _, _, _, _, rfl, HZ.done (fun p hp => ?_) (by simp [World.setCell]), ?_, ?_, ?_⟩
      · have hpn : p.block ≠ w.heap.size := by omega
        rw [set_cellN hpn, set_cellN hpn, set_cellN hpn, set_cellN hpn, set_cellN hpn]
      · exact HSZ.out
      · exact (rdr_setN (rdr_setN (rdr_setN (rdr_setN (rdr_setN HR.out (by omega)) (by omega)) (by omega)) (by omega)) (by omega)).more (by omega)
      · exact grown_set_upN (grown_set_upN (grown_set_upN (grown_set_upN (grown_set_upN HG.out (by omega)) (by omega)) (by omega)) (by omega)) (by omega)
    ·
      have HL := Lib.hid (HL8.out.set 1 (.int .i64 999999) (nn' := 999999) (tt' := []) rfl)
      have HR := Lib.hid (rdr_setN (o := 1) (u := .int .i64 999999) (k := ws.heap.size) HR8.out (by omega))
      have HG := Lib.hid (grown_set_upN (o := 1) (u := .int .i64 999999) (k := ws.heap.size) HG8.out (by omega))
      have HSZ : Hid (Nd.size (.mk 3 999999 [] [] []) ≤ 100) := by show _ ≤ _; simp [Nd.size, Nd.sizes, ssize]
      obtain ⟨⟨f0, f1, f2, f3, f4⟩, f5, f6, f7, f8, f9⟩ := box_five HL.out.box
      obtain ⟨⟨r0, r1, r2, r3, r4⟩, r5, r6, r7, r8, r9⟩ := box_five HL.out.res
      go_wp2
      refine bodyPost_ret (v := ndV 3 999999 [] none 0 0 none 0 0) (by simp [results, Tryd.results43, go_sem, *]) rfl ?_
      have HZ := HL.out
      have HN := HZ.lt
      have HO := HZ.old
      refine ⟨_, _, _, _, _, _, _, _, _, _, rfl, HZ.done (fun p hp => ?_) (by simp [World.setCell]), ?_, ?_, ?_⟩
      · have hpn : p.block ≠ w.heap.size := by omega
        rw [set_cellN hpn, set_cellN hpn, set_cellN hpn, set_cellN hpn, set_cellN hpn]
      · exact HSZ.out
      · exact (rdr_setN (rdr_setN (rdr_setN (rdr_setN (rdr_setN HR.out (by omega)) (by omega)) (by omega)) (by omega)) (by omega)).more (by omega)
      · exact grown_set_upN (grown_set_upN (grown_set_upN (grown_set_upN (grown_set_upN HG.out (by omega)) (by omega)) (by omega)) (by omega)) (by omega)
    ·
      have HL := Lib.hid (HL8.out.set 1 (.int .i64 (-999999)) (nn' := (-999999)) (tt' := []) rfl)
      have HR := Lib.hid (rdr_setN (o := 1) (u := .int .i64 (-999999)) (k := ws.heap.size) HR8.out (by omega))
      have HG := Lib.hid (grown_set_upN (o := 1) (u := .int .i64 (-999999)) (k := ws.heap.size) HG8.out (by omega))
      have HSZ : Hid (Nd.size (.mk 3 (-999999) [] [] []) ≤ 100) := by show _ ≤ _; simp [Nd.size, Nd.sizes, ssize]
      obtain ⟨⟨f0, f1, f2, f3, f4⟩, f5, f6, f7, f8, f9⟩ := box_five HL.out.box
      obtain ⟨⟨r0, r1, r2, r3, r4⟩, r5, r6, r7, r8, r9⟩ := box_five HL.out.res
      go_wp2
      refine bodyPost_ret (v := ndV 3 (-999999) [] none 0 0 none 0 0) (by simp [results, Tryd.results43, go_sem, *]) rfl ?_
      have HZ := HL.out
      have HN := HZ.lt
      have HO := HZ.old
      refine ⟨_, _, _, _, _, _, _, _, _, _, rfl, HZ.done (fun p hp => ?_) (by simp [World.setCell]), ?_, ?_, ?_⟩
      · have hpn : p.block ≠ w.heap.size := by omega
        rw [set_cellN hpn, set_cellN hpn, set_cellN hpn, set_cellN hpn, set_cellN hpn]
      · exact HSZ.out
      · exact (rdr_setN (rdr_setN (rdr_setN (rdr_setN (rdr_setN HR.out (by omega)) (by omega)) (by omega)) (by omega)) (by omega)).more (by omega)
      · exact grown_set_upN (grown_set_upN (grown_set_upN (grown_set_upN (grown_set_upN HG.out (by omega)) (by omega)) (by omega)) (by omega)) (by omega)
    ·
      have HL := Lib.hid (HL8.out.set 1 (.int .i64 0) (nn' := 0) (tt' := []) rfl)
      have HR := Lib.hid (rdr_setN (o := 1) (u := .int .i64 0) (k := ws.heap.size) HR8.out (by omega))
      have HG := Lib.hid (grown_set_upN (o := 1) (u := .int .i64 0) (k := ws.heap.size) HG8.out (by omega))
      have HSZ : Hid (Nd.size (.mk 3 0 [] [] []) ≤ 100) := by show _ ≤ _; simp [Nd.size, Nd.sizes, ssize]
      obtain ⟨⟨f0, f1, f2, f3, f4⟩, f5, f6, f7, f8, f9⟩ := box_five HL.out.box
      obtain ⟨⟨r0, r1, r2, r3, r4⟩, r5, r6, r7, r8, r9⟩ := box_five HL.out.res
      go_wp2
      refine bodyPost_ret (v := ndV 3 0 [] none 0 0 none 0 0) (by simp [results, Tryd.results43, go_sem, *]) rfl ?_
      have HZ := HL.out
      have HN := HZ.lt
      have HO := HZ.old
      refine ⟨_, _, _, _, _, _, _, _, _, _, rfl, HZ.done (fun p hp => ?_) (by simp [World.setCell]), ?_, ?_, ?_⟩
      · have hpn : p.block ≠ w.heap.size := by omega
        rw [set_cellN hpn, set_cellN hpn, set_cellN hpn, set_cellN hpn, set_cellN hpn]
      · exact HSZ.out
      · exact (rdr_setN (rdr_setN (rdr_setN (rdr_setN (rdr_setN HR.out (by omega)) (by omega)) (by omega)) (by omega)) (by omega)).more (by omega)
      · exact grown_set_upN (grown_set_upN (grown_set_upN (grown_set_upN (grown_set_upN HG.out (by omega)) (by omega)) (by omega)) (by omega)) (by omega)
  ·
    have HL : Hid (NSt w (ws.alloc (.cells #[.int .i64 4, .int .i64 0, .string ⟨#[]⟩, .slice none 0 0, .slice none 0 0] 26)) g ws.heap.size 4 0 [] none 0 [] none 0 [] []) := ⟨heap_alloc_new ws _, ownS_nil _ _, ownN_nil _ _, ⟨rfl, fun i r x h => by simp at h⟩, (fun j h => by simp [Value.ownBlock] at h), (heap_alloc_old ws _ hslt).trans hres, hslt, hlt⟩
    have HR := Lib.hid (HRs.out.keep ((Below.refl _ _).alloc (Nat.le_refl _) (.cells #[.int .i64 4, .int .i64 0, .string ⟨#[]⟩, .slice none 0 0, .slice none 0 0] 26)))
    have HG := Lib.hid (grown_alloc HGs.out (.cells #[.int .i64 4, .int .i64 0, .string ⟨#[]⟩, .slice none 0 0, .slice none 0 0] 26))
    have hbg : ws.heap.size ≠ g := by omega
    obtain ⟨⟨f0, f1, f2, f3, f4⟩, f5, f6, f7, f8, f9⟩ := box_five HL.out.box
    go_wp2_with fail
    refine (spec_pick B g _ 6 _ (HR.out.keep ((Below.refl _ _).alloc (Nat.le_refl _) _)) (by omega) (by omega) (by omega)).mono ?_
    rintro e w7 ⟨k7, rfl, hk7, hr7, hg7⟩
    have hlit : w7.heap[ws.heap.size + 1]? = some (.cells #[.string ⟨#[]⟩, .string ⟨#[97]⟩, .string ⟨#[97, 34, 98]⟩, .string ⟨#[92]⟩, .string ⟨#[120, 44, 32, 121]⟩, .string ⟨#[123, 125]⟩] 9 (0, 0)) := (hg7.block (ws.heap.size + 1) (by simp) (by intro e; injection e; omega)).trans (by have := heap_alloc_new (ws.alloc (.cells #[.int .i64 4, .int .i64 0, .string ⟨#[]⟩, .slice none 0 0, .slice none 0 0] 26)) (.cells #[.string ⟨#[]⟩, .string ⟨#[97]⟩, .string ⟨#[97, 34, 98]⟩, .string ⟨#[92]⟩, .string ⟨#[120, 44, 32, 121]⟩, .string ⟨#[123, 125]⟩] 9); simpa using this)
    obtain ⟨x7, hx7c, hx7⟩ := lit_str (k := k7) (B := 100) (n := 6) hlit (by decide +kernel) (by rcases hk7 with hk7 | hk7 <;> omega)
    have HL7 := Lib.hid ((HL.out.alloc _).grow hg7)
    have hs7 : ws.heap.size + 1 < w7.heap.size := by have := hg7.size; simp at this; omega
    obtain ⟨⟨f0, f1, f2, f3, f4⟩, f5, f6, f7, f8, f9⟩ := box_five HL7.out.box
    have HL := Lib.hid (HL7.out.set 2 (sv x7) (nn' := 0) (tt' := x7) rfl)
    have HR := Lib.hid (rdr_setN (o := 2) (u := sv x7) (k := ws.heap.size) hr7 (by omega))
    have HG := Lib.hid (grown_set_upN (o := 2) (u := sv x7) (k := ws.heap.size) (grown_trans (grown_alloc HG.out _) hg7) (by omega))
    clear hr7 hg7 hlit
    have HSZ : Hid (Nd.size (.mk 4 0 x7 [] []) ≤ 100) := by show _ ≤ _; simp [Nd.size, Nd.sizes, ssize]; omega
    obtain ⟨⟨f0, f1, f2, f3, f4⟩, f5, f6, f7, f8, f9⟩ := box_five HL.out.box
    obtain ⟨⟨r0, r1, r2, r3, r4⟩, r5, r6, r7, r8, r9⟩ := box_five HL.out.res
    go_wp2
    refine bodyPost_ret (v := ndV 4 0 x7 none 0 0 none 0 0) (by simp [results, Tryd.results43, go_sem, *]) rfl ?_
    have HZ := HL.out
    have HN := HZ.lt
    have HO := HZ.old
    refine ⟨_, _, _, _, _, _, _, _, _, _, rfl, HZ.done (fun p hp => ?_) (by simp [World.setCell]), ?_, ?_, ?_⟩
    · have hpn : p.block ≠ w.heap.size := by omega
      rw [set_cellN hpn, set_cellN hpn, set_cellN hpn, set_cellN hpn, set_cellN hpn]
    · exact HSZ.out
    · exact (rdr_setN (rdr_setN (rdr_setN (rdr_setN (rdr_setN HR.out (by omega)) (by omega)) (by omega)) (by omega)) (by omega)).more (by omega)
    · exact grown_set_upN (grown_set_upN (grown_set_upN (grown_set_upN (grown_set_upN HG.out (by omega)) (by omega)) (by omega)) (by omega)) (by omega)
theorem NSt.fresh {w0 wr w3 : World} {g b : Nat} {kd nn : Int} {tt : Tx} {An Ai : Option Addr} {cn ci : Nat} {ns : List Tx} {rs : List Raw} {xs : List Nd} {x : Nd} {v : Value} (h : NSt w0 wr g b kd nn tt An cn ns Ai ci rs xs) (hin : InN w3 (fun j => wr.heap.size ≤ j ∧ j < w3.heap.size) x v) :
    InN w3 (fun j => b < j ∧ j < w3.heap.size ∧ Value.ownBlock (.slice An ns.length cn) ≠ some j ∧ Value.ownBlock (.slice Ai rs.length ci) ≠ some j) x v :=
  InN.keep (fun _ _ => rfl) (fun j hj => ⟨Nat.lt_of_lt_of_le h.size hj.1, hj.2, fun e => by have := (h.nown.lt j e).2; omega, fun e => by have := (h.iown.lt j e).2; omega⟩) _ _ hin
theorem three_lists {ns : List Tx} (h : ns.length ≤ 2) : ns = [] ∨ (∃ a, ns = [a]) ∨ ∃ a b, ns = [a, b] := by
  match ns, h with
  | [], _ => exact .inl rfl
  | [a], _ => exact .inr (.inl ⟨a, rfl⟩)
  | [a, b], _ => exact .inr (.inr ⟨a, b, rfl⟩)
  | _ :: _ :: _ :: _, h => simp at h
set_option maxRecDepth 100000 in
set_option maxHeartbeats 8000000 in
theorem spec_l20NodeS (d : Nat) (hd : d ≤ 3) (ih : DrC d) : DrC (d + 1) := by
  intro B g q w h hq
  have hlt := h.lt
  have hq : q + (20 + 40 * ndCost d) ≤ 100000000 := hq
  show Calls Tryd.prog 43 #[.pointer (some ⟨g, 0, none⟩), .int .i64 (((d + 1 : Nat) : Int) + 1)] w (DrawnN w B g q (20 + 40 * ndCost d) (120 + 3 * ndBig d))
  rw [show (((d + 1 : Nat) : Int) + 1) = (d : Int) + 2 by omega]
  have H := Lib.hid h
  have IH := Lib.hid ih
  have hd2 : decide ((d : Int) + 2 < 2) = false := by simp; omega
  have hd3 : (d : Int) ≤ 3 := by omega
  clear h ih
  go_enter Tryd.func43, Tryd.ntmps43
  go_wp2_with fail
  refine (spec_pick B g _ 6 _ (H.out.keep ((Below.refl _ _).alloc (Nat.le_refl _) _)) (by omega) (by omega) (by omega)).mono ?_
  rintro e ws ⟨k1, rfl, hk1, hr1, hg1⟩
  have hres : ws.heap[w.heap.size]? = some (.cells #[.int .i64 0, .int .i64 0, .string ⟨#[]⟩, .slice none 0 0, .slice none 0 0] 26 (0, 0)) := (hg1.block w.heap.size (by simp) (by intro e; injection e; omega)).trans (heap_alloc_new w _)
  have hslt : w.heap.size < ws.heap.size := lt_of_block hres
  have HGs := Lib.hid (grown_trans (World.grownBy_alloc w (.cells #[.int .i64 0, .int .i64 0, .string ⟨#[]⟩, .slice none 0 0, .slice none 0 0] 26) (some g)) hg1)
  have HRs := Lib.hid hr1
  clear hr1 hg1
  obtain rfl | rfl | rfl | rfl | rfl | rfl : k1 = 0 ∨ k1 = 1 ∨ k1 = 2 ∨ k1 = 3 ∨ k1 = 4 ∨ k1 = 5 := by omega
  ·
    have HL : Hid (NSt w (ws.alloc (.cells #[.int .i64 1, .int .i64 0, .string ⟨#[]⟩, .slice none 0 0, .slice none 0 0] 26)) g ws.heap.size 1 0 [] none 0 [] none 0 [] []) := ⟨heap_alloc_new ws _, ownS_nil _ _, ownN_nil _ _, ⟨rfl, fun i r x h => by simp at h⟩, (fun j h => by simp [Value.ownBlock] at h), (heap_alloc_old ws _ hslt).trans hres, hslt, hlt⟩
    have HR := Lib.hid (HRs.out.keep ((Below.refl _ _).alloc (Nat.le_refl _) (.cells #[.int .i64 1, .int .i64 0, .string ⟨#[]⟩, .slice none 0 0, .slice none 0 0] 26)))
    have HG := Lib.hid (grown_alloc HGs.out (.cells #[.int .i64 1, .int .i64 0, .string ⟨#[]⟩, .slice none 0 0, .slice none 0 0] 26))
    have hbg : ws.heap.size ≠ g := by omega
    obtain ⟨⟨f0, f1, f2, f3, f4⟩, f5, f6, f7, f8, f9⟩ := box_five HL.out.box
    have HSZ : Hid (Nd.size (.mk 1 0 [] [] []) ≤ 120 + 3 * ndBig d) := by show _ ≤ _; simp [Nd.size, Nd.sizes, ssize]
    go_upto_region 5 with fail
    generalize ws.alloc (.cells #[.int .i64 1, .int .i64 0, .string ⟨#[]⟩, .slice none 0 0, .slice none 0 0] 26) = wb at *
    obtain ⟨⟨f0, f1, f2, f3, f4⟩, f5, f6, f7, f8, f9⟩ := box_five HL.out.box
    obtain ⟨⟨r0, r1, r2, r3, r4⟩, r5, r6, r7, r8, r9⟩ := box_five HL.out.res
    go_wp2
    refine bodyPost_ret (v := ndV 1 0 [] none 0 0 none 0 0) (by simp [results, Tryd.results43, go_sem, *]) rfl ?_
    have HZ := HL.out
    have HN := HZ.lt
    have HO := HZ.old
    refine ⟨_, _, _, _, _, _, _, _, _, _, rfl, HZ.done (fun p hp => ?_) (by simp [World.setCell]), ?_, ?_, ?_⟩
    · have hpn : p.block ≠ w.heap.size := by omega
      rw [set_cellN hpn, set_cellN hpn, set_cellN hpn, set_cellN hpn, set_cellN hpn]
    · exact HSZ.out
    · exact (rdr_setN (rdr_setN (rdr_setN (rdr_setN (rdr_setN HR.out (by omega)) (by omega)) (by omega)) (by omega)) (by omega)).more (by omega)
    · exact grown_set_upN (grown_set_upN (grown_set_upN (grown_set_upN (grown_set_upN HG.out (by omega)) (by omega)) (by omega)) (by omega)) (by omega)
  ·
    have HL : Hid (NSt w (ws.alloc (.cells #[.int .i64 2, .int .i64 0, .string ⟨#[]⟩, .slice none 0 0, .slice none 0 0] 26)) g ws.heap.size 2 0 [] none 0 [] none 0 [] []) := ⟨heap_alloc_new ws _, ownS_nil _ _, ownN_nil _ _, ⟨rfl, fun i r x h => by simp at h⟩, (fun j h => by simp [Value.ownBlock] at h), (heap_alloc_old ws _ hslt).trans hres, hslt, hlt⟩
    have HR := Lib.hid (HRs.out.keep ((Below.refl _ _).alloc (Nat.le_refl _) (.cells #[.int .i64 2, .int .i64 0, .string ⟨#[]⟩, .slice none 0 0, .slice none 0 0] 26)))
    have HG := Lib.hid (grown_alloc HGs.out (.cells #[.int .i64 2, .int .i64 0, .string ⟨#[]⟩, .slice none 0 0, .slice none 0 0] 26))
    have hbg : ws.heap.size ≠ g := by omega
    obtain ⟨⟨f0, f1, f2, f3, f4⟩, f5, f6, f7, f8, f9⟩ := box_five HL.out.box
    go_wp2_with fail
    refine (spec_pick B g _ 2 _ HR.out (by omega) (by omega) (by omega)).mono ?_
    rintro e w7 ⟨k7, rfl, hk7, hr7, hg7⟩
    have HL7 := Lib.hid (HL.out.grow hg7)
    obtain ⟨⟨f0, f1, f2, f3, f4⟩, f5, f6, f7, f8, f9⟩ := box_five HL7.out.box
    have HL := Lib.hid (HL7.out.set 1 (.int .i64 (k7 : Int)) (nn' := (k7 : Int)) (tt' := []) rfl)
    have HR := Lib.hid (rdr_setN (o := 1) (u := .int .i64 (k7 : Int)) (k := ws.heap.size) hr7 (by omega))
    have HG := Lib.hid (grown_set_upN (o := 1) (u := .int .i64 (k7 : Int)) (k := ws.heap.size) (grown_trans HG.out hg7) (by omega))
    clear hr7 hg7
    have HSZ : Hid (Nd.size (.mk 2 (k7 : Int) [] [] []) ≤ 120 + 3 * ndBig d) := by show _ ≤ _; simp [Nd.size, Nd.sizes, ssize]
    obtain ⟨⟨f0, f1, f2, f3, f4⟩, f5, f6, f7, f8, f9⟩ := box_five HL.out.box
    obtain ⟨⟨r0, r1, r2, r3, r4⟩, r5, r6, r7, r8, r9⟩ := box_five HL.out.res
    go_wp2
    refine bodyPost_ret (v := ndV 2 (k7 : Int) [] none 0 0 none 0 0) (by simp [results, Tryd.results43, go_sem, *]) rfl ?_
    have HZ := HL.out
    have HN := HZ.lt
    have HO := HZ.old
    refine ⟨_, _, _, _, _, _, _, _, _, _, rfl, HZ.done (fun p hp => ?_) (by simp [World.setCell]), ?_, ?_, ?_⟩
    · have hpn : p.block ≠ w.heap.size := by omega
      rw [set_cellN hpn, set_cellN hpn, set_cellN hpn, set_cellN hpn, set_cellN hpn]
    · exact HSZ.out
    · exact (rdr_setN (rdr_setN (rdr_setN (rdr_setN (rdr_setN HR.out (by omega)) (by omega)) (by omega)) (by omega)) (by omega)).more (by omega)
    · exact grown_set_upN (grown_set_upN (grown_set_upN (grown_set_upN (grown_set_upN HG.out (by omega)) (by omega)) (by omega)) (by omega)) (by omega)
  ·
    have HL : Hid (NSt w (ws.alloc (.cells #[.int .i64 3, .int .i64 0, .string ⟨#[]⟩, .slice none 0 0, .slice none 0 0] 26)) g ws.heap.size 3 0 [] none 0 [] none 0 [] []) := ⟨heap_alloc_new ws _, ownS_nil _ _, ownN_nil _ _, ⟨rfl, fun i r x h => by simp at h⟩, (fun j h => by simp [Value.ownBlock] at h), (heap_alloc_old ws _ hslt).trans hres, hslt, hlt⟩
    have HR := Lib.hid (HRs.out.keep ((Below.refl _ _).alloc (Nat.le_refl _) (.cells #[.int .i64 3, .int .i64 0, .string ⟨#[]⟩, .slice none 0 0, .slice none 0 0] 26)))
    have HG := Lib.hid (grown_alloc HGs.out (.cells #[.int .i64 3, .int .i64 0, .string ⟨#[]⟩, .slice none 0 0, .slice none 0 0] 26))
    have hbg : ws.heap.size ≠ g := by omega
    obtain ⟨⟨f0, f1, f2, f3, f4⟩, f5, f6, f7, f8, f9⟩ := box_five HL.out.box
    go_wp2_with fail
    refine (spec_pick B g _ 256 _ HR.out (by omega) (by omega) (by omega)).mono ?_
    rintro e w7 ⟨k7, rfl, hk7, hr7, hg7⟩
    have HL7 := Lib.hid (HL.out.grow hg7)
    have HR7 := Lib.hid hr7
    have HG7 := Lib.hid (grown_trans HG.out hg7)
    have hs7 : ws.heap.size < w7.heap.size := HL7.out.size
    clear hr7 hg7
    go_wp2_with fail
    refine (spec_pick B g _ 6 _ ((HR7.out.keep ((Below.refl _ _).alloc (Nat.le_refl _) _)).keep ((Below.refl _ _).alloc (Nat.le_refl _) _)) (by omega) (by omega) (by omega)).mono ?_
    rintro e w8 ⟨k8, rfl, hk8, hr8, hg8⟩
    have hl1 : w8.heap[w7.heap.size]? = _ := (hg8.block w7.heap.size (by simp; omega) (by intro e; injection e; omega)).trans ((heap_alloc_old _ _ (by simp)).trans (heap_alloc_new w7 _))
    have hl2 : w8.heap[w7.heap.size + 1]? = some (.cells #[.int .i64 0, .int .i64 0, .int .i64 0, .int .i64 1, .int .i64 2, .int .i64 3] 3 (0, 0)) := (hg8.block (w7.heap.size + 1) (by simp) (by intro e; injection e; omega)).trans (by have := heap_alloc_new (w7.alloc (.cells #[.int .i64 ((k7 : Int) - 128), .int .i64 999999, .int .i64 (-999999), .int .i64 0] 3)) (.cells #[.int .i64 0, .int .i64 0, .int .i64 0, .int .i64 1, .int .i64 2, .int .i64 3] 3); simpa using this)
    have HL8 := Lib.hid (((HL7.out.alloc _).alloc _).grow hg8)
    have HR8 := Lib.hid hr8
    have HG8 := Lib.hid (grown_trans (grown_alloc (grown_alloc HG7.out _) _) hg8)
    have a0 := cell_of_row w8 _ 0 _ _ _ hl1
    have a1 := cell_of_row w8 _ 1 _ _ _ hl1
    have a2 := cell_of_row w8 _ 2 _ _ _ hl1
    have a3 := cell_of_row w8 _ 3 _ _ _ hl1
    have b0 := cell_of_row w8 _ 0 _ _ _ hl2
    have b1 := cell_of_row w8 _ 1 _ _ _ hl2
    have b2 := cell_of_row w8 _ 2 _ _ _ hl2
    have b3 := cell_of_row w8 _ 3 _ _ _ hl2
    have b4 := cell_of_row w8 _ 4 _ _ _ hl2
    have b5 := cell_of_row w8 _ 5 _ _ _ hl2
    clear hl1 hl2 hr8 hg8
    obtain ⟨⟨f0, f1, f2, f3, f4⟩, f5, f6, f7, f8, f9⟩ := box_five HL8.out.box
    obtain rfl | rfl | rfl | rfl | rfl | rfl : k8 = 0 ∨ k8 = 1 ∨ k8 = 2 ∨ k8 = 3 ∨ k8 = 4 ∨ k8 = 5 := by omega
    ·
      have HL := Lib.hid (HL8.out.set 1 (.int .i64 ((k7 : Int) - 128)) (nn' := ((k7 : Int) - 128)) (tt' := []) rfl)
      have HR := Lib.hid (rdr_setN (o := 1) (u := .int .i64 ((k7 : Int) - 128)) (k := ws.heap.size) HR8.out (by omega))
      have HG := Lib.hid (grown_set_upN (o := 1) (u := .int .i64 ((k7 : Int) - 128)) (k := ws.heap.size) HG8.out (by omega))
      have HSZ : Hid (Nd.size (.mk 3 ((k7 : Int) - 128) [] [] []) ≤ 120 + 3 * ndBig d) := by show _ ≤ _; simp [Nd.size, Nd.sizes, ssize]
      obtain ⟨⟨f0, f1, f2, f3, f4⟩, f5, f6, f7, f8, f9⟩ := box_five HL.out.box
      obtain ⟨⟨r0, r1, r2, r3, r4⟩, r5, r6, r7, r8, r9⟩ := box_five HL.out.res
      go_wp2
      refine bodyPost_ret (v := ndV 3 ((k7 : Int) - 128) [] none 0 0 none 0 0) (by simp [results, Tryd.results43, go_sem, *]) rfl ?_
      have HZ := HL.out
      have HN := HZ.lt
      have HO := HZ.old
      refine ⟨_, _, _, _, _, _, _, _, _, _, rfl, HZ.done (fun p hp => ?_) (by simp [World.setCell]), ?_, ?_, ?_⟩
      · have hpn : p.block ≠ w.heap.size := by omega
        rw [set_cellN hpn, set_cellN hpn, set_cellN hpn, set_cellN hpn, set_cellN hpn]
      · exact HSZ.out
      · exact (rdr_setN (rdr_setN (rdr_setN (rdr_setN (rdr_setN HR.out (by omega)) (by omega)) (by omega)) (by omega)) (by omega)).more (by omega)
      · exact grown_set_upN (grown_set_upN (grown_set_upN (grown_set_upN (grown_set_upN HG.out (by omega)) (by omega)) (by omega)) (by omega)) (by omega)
    ·
      have HL := Lib.hid (HL8.out.set 1 (.int .i64 ((k7 : Int) - 128)) (nn' := ((k7 : Int) - 128)) (tt' := []) rfl)
      have HR := Lib.hid (rdr_setN (o := 1) (u := .int .i64 ((k7 : Int) - 128)) (k := ws.heap.size) HR8.out (by omega))
      have HG := Lib.hid (grown_set_upN (o := 1) (u := .int .i64 ((k7 : Int) - 128)) (k := ws.heap.size) HG8.out (by omega))
      have HSZ : Hid (Nd.size (.mk 3 ((k7 : Int) - 128) [] [] []) ≤ 120 + 3 * ndBig d) := by show _ ≤ _; simp [Nd.size, Nd.sizes, ssize]
      obtain ⟨⟨f0, f1, f2, f3, f4⟩, f5, f6, f7, f8, f9⟩ := box_five HL.out.box
      obtain ⟨⟨r0, r1, r2, r3, r4⟩, r5, r6, r7, r8, r9⟩ := box_five HL.out.res
      go_wp2
      refine bodyPost_ret (v := ndV 3 ((k7 : Int) - 128) [] none 0 0 none 0 0) (by simp [results, Tryd.results43, go_sem, *]) rfl ?_
      have HZ := HL.out
      have HN := HZ.lt
      have HO := HZ.old
      refine ⟨_, _, _, _, _, _, _, _, _, _, rfl, HZ.done (fun p hp => ?_) (by simp [World.setCell]), ?_, ?_, ?_⟩
      · have hpn : p.block ≠ w.heap.size := by omega
        rw [set_cellN hpn, set_cellN hpn, set_cellN hpn, set_cellN hpn, set_cellN hpn]
      · exact HSZ.out
      · exact (rdr_setN (rdr_setN (rdr_setN (rdr_setN (rdr_setN HR.out (by omega)) (by omega)) (by omega)) (by omega)) (by omega)).more (by omega)
      · exact grown_set_upN (grown_set_upN (grown_set_upN (grown_set_upN (grown_set_upN HG.out (by omega)) (by omega)) (by omega)) (by omega)) (by omega)
    ·
      have HL := Lib.hid (HL8.out.set 1 (.int .i64 ((k7 : Int) - 128)) (nn' := ((k7 : Int) - 128)) (tt' := []) rfl)
      have HR := Lib.hid (rdr_setN (o := 1) (u := .int .i64 ((k7 : Int) - 128)) (k := ws.heap.size) HR8.out (by omega))
      have HG := Lib.hid (grown_set_upN (o := 1) (u := .int .i64 ((k7 : Int) - 128)) (k := ws.heap.size) HG8.out (by omega))
      have HSZ : Hid (Nd.size (.mk 3 ((k7 : Int) - 128) [] [] []) ≤ 120 + 3 * ndBig d) := by show _ ≤ _; simp [Nd.size, Nd.sizes, ssize]
      obtain ⟨⟨f0, f1, f2, f3, f4⟩, f5, f6, f7, f8, f9⟩ := box_five HL.out.box
      obtain ⟨⟨r0, r1, r2, r3, r4⟩, r5, r6, r7, r8, r9⟩ := box_five HL.out.res
      go_wp2
      refine bodyPost_ret (v := ndV 3 ((k7 : Int) - 128) [] none 0 0 none 0 0) (by simp [results, Tryd.results43, go_sem, *]) rfl ?_
      have HZ := HL.out
      have HN := HZ.lt
      have HO := HZ.old
      refine ⟨_, _, _, _, _, _, _, _, _, _, rfl, HZ.done (fun p hp => ?_) (by simp [World.setCell]), ?_, ?_, ?_⟩
      · have hpn : p.block ≠ w.heap.size := by omega
        rw [set_cellN hpn, set_cellN hpn, set_cellN hpn, set_cellN hpn, set_cellN hpn]
      · exact HSZ.out
      · exact (rdr_setN (rdr_setN (rdr_setN (rdr_setN (rdr_setN HR.out (by omega)) (by omega)) (by omega)) (by omega)) (by omega)).more (by omega)
      · exact grown_set_upN (grown_set_upN (grown_set_upN (grown_set_upN (grown_set_upN HG.out (by omega)) (by omega)) (by omega)) (by omega)) (by omega)
    ·
      have HL := Lib.hid (HL8.out.set 1 (.int .i64 999999) (nn' := 999999) (tt' := []) rfl)
      have HR := Lib.hid (rdr_setN (o := 1) (u := .int .i64 999999) (k := ws.heap.size) HR8.out (by omega))
      have HG := Lib.hid (grown_set_upN (o := 1) (u := .int .i64 999999) (k := ws.heap.size) HG8.out (by omega))
      have HSZ : Hid (Nd.size (.mk 3 999999 [] [] []) ≤ 120 + 3 * ndBig d) := by show _ ≤ _; simp [Nd.size, Nd.sizes, ssize]
      obtain ⟨⟨f0, f1, f2, f3, f4⟩, f5, f6, f7, f8, f9⟩ := box_five HL.out.box
      obtain ⟨⟨r0, r1, r2, r3, r4⟩, r5, r6, r7, r8, r9⟩ := box_five HL.out.res
      go_wp2
      refine bodyPost_ret (v := ndV 3 999999 [] none 0 0 none 0 0) (by simp [results, Tryd.results43, go_sem, *]) rfl ?_
      have HZ := HL.out
      have HN := HZ.lt
      have HO := HZ.old
      refine ⟨_, _, _, _, _, _, _, _, _, _, rfl, HZ.done (fun p hp => ?_) (by simp [World.setCell]), ?_, ?_, ?_⟩
      · have hpn : p.block ≠ w.heap.size := by omega
        rw [set_cellN hpn, set_cellN hpn, set_cellN hpn, set_cellN hpn, set_cellN hpn]
      · exact HSZ.out
      · exact (rdr_setN (rdr_setN (rdr_setN (rdr_setN (rdr_setN HR.out (by omega)) (by omega)) (by omega)) (by omega)) (by omega)).more (by omega)
      · exact grown_set_upN (grown_set_upN (grown_set_upN (grown_set_upN (grown_set_upN HG.out (by omega)) (by omega)) (by omega)) (by omega)) (by omega)
    ·
      have HL := Lib.hid (HL8.out.set 1 (.int .i64 (-999999)) (nn' := (-999999)) (tt' := []) rfl)
      have HR := Lib.hid (rdr_setN (o := 1) (u := .int .i64 (-999999)) (k := ws.heap.size) HR8.out (by omega))
      have HG := Lib.hid (grown_set_upN (o := 1) (u := .int .i64 (-999999)) (k := ws.heap.size) HG8.out (by omega))
      have HSZ : Hid (Nd.size (.mk 3 (-999999) [] [] []) ≤ 120 + 3 * ndBig d) := by show _ ≤ _; simp [Nd.size, Nd.sizes, ssize]
      obtain ⟨⟨f0, f1, f2, f3, f4⟩, f5, f6, f7, f8, f9⟩ := box_five HL.out.box
      obtain ⟨⟨r0, r1, r2, r3, r4⟩, r5, r6, r7, r8, r9⟩ := box_five HL.out.res
      go_wp2
      refine bodyPost_ret (v := ndV 3 (-999999) [] none 0 0 none 0 0) (by simp [results, Tryd.results43, go_sem, *]) rfl ?_
      have HZ := HL.out
      have HN := HZ.lt
      have HO := HZ.old
      refine ⟨_, _, _, _, _, _, _, _, _, _, rfl, HZ.done (fun p hp => ?_) (by simp [World.setCell]), ?_, ?_, ?_⟩
      · have hpn : p.block ≠ w.heap.size := by omega
        rw [set_cellN hpn, set_cellN hpn, set_cellN hpn, set_cellN hpn, set_cellN hpn]
      · exact HSZ.out
      · exact (rdr_setN (rdr_setN (rdr_setN (rdr_setN (rdr_setN HR.out (by omega)) (by omega)) (by omega)) (by omega)) (by omega)).more (by omega)
      · exact grown_set_upN (grown_set_upN (grown_set_upN (grown_set_upN (grown_set_upN HG.out (by omega)) (by omega)) (by omega)) (by omega)) (by omega)
    ·
      have HL := Lib.hid (HL8.out.set 1 (.int .i64 0) (nn' := 0) (tt' := []) rfl)
      have HR := Lib.hid (rdr_setN (o := 1) (u := .int .i64 0) (k := ws.heap.size) HR8.out (by omega))
      have HG := Lib.hid (grown_set_upN (o := 1) (u := .int .i64 0) (k := ws.heap.size) HG8.out (by omega))
      have HSZ : Hid (Nd.size (.mk 3 0 [] [] []) ≤ 120 + 3 * ndBig d) := by show _ ≤ _; simp [Nd.size, Nd.sizes, ssize]
      obtain ⟨⟨f0, f1, f2, f3, f4⟩, f5, f6, f7, f8, f9⟩ := box_five HL.out.box
      obtain ⟨⟨r0, r1, r2, r3, r4⟩, r5, r6, r7, r8, r9⟩ := box_five HL.out.res
      go_wp2
      refine bodyPost_ret (v := ndV 3 0 [] none 0 0 none 0 0) (by simp [results, Tryd.results43, go_sem, *]) rfl ?_
      have HZ := HL.out
      have HN := HZ.lt
      have HO := HZ.old
      refine ⟨_, _, _, _, _, _, _, _, _, _, rfl, HZ.done (fun p hp => ?_) (by simp [World.setCell]), ?_, ?_, ?_⟩
      · have hpn : p.block ≠ w.heap.size := by omega
        rw [set_cellN hpn, set_cellN hpn, set_cellN hpn, set_cellN hpn, set_cellN hpn]
      · exact HSZ.out
      · exact (rdr_setN (rdr_setN (rdr_setN (rdr_setN (rdr_setN HR.out (by omega)) (by omega)) (by omega)) (by omega)) (by omega)).more (by omega)
      · exact grown_set_upN (grown_set_upN (grown_set_upN (grown_set_upN (grown_set_upN HG.out (by omega)) (by omega)) (by omega)) (by omega)) (by omega)
  ·
    have HL : Hid (NSt w (ws.alloc (.cells #[.int .i64 4, .int .i64 0, .string ⟨#[]⟩, .slice none 0 0, .slice none 0 0] 26)) g ws.heap.size 4 0 [] none 0 [] none 0 [] []) := ⟨heap_alloc_new ws _, ownS_nil _ _, ownN_nil _ _, ⟨rfl, fun i r x h => by simp at h⟩, (fun j h => by simp [Value.ownBlock] at h), (heap_alloc_old ws _ hslt).trans hres, hslt, hlt⟩
    have HR := Lib.hid (HRs.out.keep ((Below.refl _ _).alloc (Nat.le_refl _) (.cells #[.int .i64 4, .int .i64 0, .string ⟨#[]⟩, .slice none 0 0, .slice none 0 0] 26)))
    have HG := Lib.hid (grown_alloc HGs.out (.cells #[.int .i64 4, .int .i64 0, .string ⟨#[]⟩, .slice none 0 0, .slice none 0 0] 26))
    have hbg : ws.heap.size ≠ g := by omega
    obtain ⟨⟨f0, f1, f2, f3, f4⟩, f5, f6, f7, f8, f9⟩ := box_five HL.out.box
    go_wp2_with fail
    refine (spec_pick B g _ 6 _ (HR.out.keep ((Below.refl _ _).alloc (Nat.le_refl _) _)) (by omega) (by omega) (by omega)).mono ?_
    rintro e w7 ⟨k7, rfl, hk7, hr7, hg7⟩
    have hlit : w7.heap[ws.heap.size + 1]? = some (.cells #[.string ⟨#[]⟩, .string ⟨#[97]⟩, .string ⟨#[97, 34, 98]⟩, .string ⟨#[92]⟩, .string ⟨#[120, 44, 32, 121]⟩, .string ⟨#[123, 125]⟩] 9 (0, 0)) := (hg7.block (ws.heap.size + 1) (by simp) (by intro e; injection e; omega)).trans (by have := heap_alloc_new (ws.alloc (.cells #[.int .i64 4, .int .i64 0, .string ⟨#[]⟩, .slice none 0 0, .slice none 0 0] 26)) (.cells #[.string ⟨#[]⟩, .string ⟨#[97]⟩, .string ⟨#[97, 34, 98]⟩, .string ⟨#[92]⟩, .string ⟨#[120, 44, 32, 121]⟩, .string ⟨#[123, 125]⟩] 9); simpa using this)
    obtain ⟨x7, hx7c, hx7⟩ := lit_str (k := k7) (B := 100) (n := 6) hlit (by decide +kernel) (by rcases hk7 with hk7 | hk7 <;> omega)
    have HL7 := Lib.hid ((HL.out.alloc _).grow hg7)
    have hs7 : ws.heap.size + 1 < w7.heap.size := by have := hg7.size; simp at this; omega
    obtain ⟨⟨f0, f1, f2, f3, f4⟩, f5, f6, f7, f8, f9⟩ := box_five HL7.out.box
    have HL := Lib.hid (HL7.out.set 2 (sv x7) (nn' := 0) (tt' := x7) rfl)
    have HR := Lib.hid (rdr_setN (o := 2) (u := sv x7) (k := ws.heap.size) hr7 (by omega))
    have HG := Lib.hid (grown_set_upN (o := 2) (u := sv x7) (k := ws.heap.size) (grown_trans (grown_alloc HG.out _) hg7) (by omega))
    clear hr7 hg7 hlit
    have HSZ : Hid (Nd.size (.mk 4 0 x7 [] []) ≤ 120 + 3 * ndBig d) := by show _ ≤ _; simp [Nd.size, Nd.sizes, ssize]; omega
    obtain ⟨⟨f0, f1, f2, f3, f4⟩, f5, f6, f7, f8, f9⟩ := box_five HL.out.box
    obtain ⟨⟨r0, r1, r2, r3, r4⟩, r5, r6, r7, r8, r9⟩ := box_five HL.out.res
    go_wp2
    refine bodyPost_ret (v := ndV 4 0 x7 none 0 0 none 0 0) (by simp [results, Tryd.results43, go_sem, *]) rfl ?_
    have HZ := HL.out
    have HN := HZ.lt
    have HO := HZ.old
    refine ⟨_, _, _, _, _, _, _, _, _, _, rfl, HZ.done (fun p hp => ?_) (by simp [World.setCell]), ?_, ?_, ?_⟩
    · have hpn : p.block ≠ w.heap.size := by omega
      rw [set_cellN hpn, set_cellN hpn, set_cellN hpn, set_cellN hpn, set_cellN hpn]
    · exact HSZ.out
    · exact (rdr_setN (rdr_setN (rdr_setN (rdr_setN (rdr_setN HR.out (by omega)) (by omega)) (by omega)) (by omega)) (by omega)).more (by omega)
    · exact grown_set_upN (grown_set_upN (grown_set_upN (grown_set_upN (grown_set_upN HG.out (by omega)) (by omega)) (by omega)) (by omega)) (by omega)
  ·
    have HL : Hid (NSt w (ws.alloc (.cells #[.int .i64 5, .int .i64 0, .string ⟨#[]⟩, .slice none 0 0, .slice none 0 0] 26)) g ws.heap.size 5 0 [] none 0 [] none 0 [] []) := ⟨heap_alloc_new ws _, ownS_nil _ _, ownN_nil _ _, ⟨rfl, fun i r x h => by simp at h⟩, (fun j h => by simp [Value.ownBlock] at h), (heap_alloc_old ws _ hslt).trans hres, hslt, hlt⟩
    have HR := Lib.hid (HRs.out.keep ((Below.refl _ _).alloc (Nat.le_refl _) (.cells #[.int .i64 5, .int .i64 0, .string ⟨#[]⟩, .slice none 0 0, .slice none 0 0] 26)))
    have HG := Lib.hid (grown_alloc HGs.out (.cells #[.int .i64 5, .int .i64 0, .string ⟨#[]⟩, .slice none 0 0, .slice none 0 0] 26))
    have hbg : ws.heap.size ≠ g := by omega
    obtain ⟨⟨f0, f1, f2, f3, f4⟩, f5, f6, f7, f8, f9⟩ := box_five HL.out.box
    go_wp2_with fail
    refine (spec_pick B g _ 4 _ HR.out (by omega) (by omega) (by omega)).mono ?_
    rintro e w7 ⟨k7, rfl, hk7, hr7, hg7⟩
    have HL7 := Lib.hid (HL.out.grow hg7)
    have HR7 := Lib.hid hr7
    have HG7 := Lib.hid (grown_trans HG.out hg7)
    have hk3 : k7 ≤ 3 := by omega
    clear hr7 hg7 hk7 f0 f1 f2 f3 f4 f5 f6 f7 f8 f9 HL HR HG
    go_wp2
    go_loopw [7] (fun i wr => ∃ (k : Nat) (An : Option Addr) (cn : Nat) (ns : List Tx) (Ai : Option Addr) (ci : Nat) (rs : List Raw) (xs : List Nd), i = .int .i64 (k : Int) ∧ k + xs.length ≤ 3 ∧ ns.length = 0 ∧ NSt w wr g ws.heap.size 5 0 [] An cn ns Ai ci rs xs ∧ SmN (ndBig d) ns xs ∧ Rdr wr B g (q + 10 + xs.length * (8 * ndCost d)) ∧ w.grownBy wr (some g)) (fun i _ => (intOf i).toNat)
    case atStart => exact ⟨k7, none, 0, [], none, 0, [], [], rfl, by simpa using hk3, rfl, HL7.out, ⟨by simp [ssize], fun x hx => by cases hx⟩, HR7.out.more (by simp), HG7.out⟩
    case round =>
      obtain ⟨k, An, cn, ns, Ai, ci, rs, xs, rfl, hkl, hnl, hl, hs, hr, hg⟩ := hrel
      have HL := Lib.hid hl
      have HS := Lib.hid hs
      have HR := Lib.hid hr
      have HG := Lib.hid hg
      have HNL := Lib.hid hnl
      have hrl3 : rs.length ≤ 3 := by have := hl.els.1; omega
      have hgr : g < wr.heap.size := by have := hl.size; omega
      clear hl hs hr hg hnl
      by_cases hk : 0 < k
      · have HC4 := Lib.hid (box_five HL.out.box).1.2.2.2.2
        have hne : ws.heap.size ≠ g := hbg
        have hxD : xs.length * (8 * ndCost d) ≤ 2 * (8 * ndCost d) := Nat.mul_le_mul_right _ (by omega)
        go_wp2_with fail
        refine wp_region_typed 7 (by kernel_rfl) (by kernel_rfl) (DWD wr B g (q + 10 + xs.length * (8 * ndCost d)) (ndCost d)) (Kp g) (fun i => ([tIs (.pointer (some ⟨ws.heap.size, 4, none⟩)), tIs (.slice Ai rs.length ci), tIs (.pointer (some ⟨g, 0, none⟩)), tIs (.int .i64 ((d : Int) + 2)), tIs (.int .i64 ((d : Int) + 1)), tNd g wr (ndBig d), tOneN g wr (ndBig d)] : List Ty).getD i tAny) ?hW ?hkeep ?hstep ?hfin
        case hkeep =>
          refine all_lt_succ (all_lt_succ (all_lt_succ (all_lt_succ (all_lt_succ (all_lt_succ (all_lt_succ all_lt_zero ?_) ?_) ?_) ?_) ?_) ?_) ?_
          · exact stays_is _
          · exact stays_is _
          · exact stays_is _
          · exact stays_is _
          · exact stays_is _
          · exact stays_tNd
          · exact stays_tOneN
        case hstep =>
          refine all_lt_succ (all_lt_succ (all_lt_succ (all_lt_succ (all_lt_succ (all_lt_succ (all_lt_succ all_lt_zero ?_) ?_) ?_) ?_) ?_) ?_) ?_
          · (intro o ho m a w1 hm hW hb hd K Q hK; obtain rfl := Option.some.inj ho; have e0 : a.tmps[6]?.getD undef = .pointer (some ⟨ws.heap.size, 0, none⟩) := (by rw [hb 6 (by decide +kernel)]; simp); go_simp; exact hK _ _ hW.same (kp_refl _) rfl)
          · (intro o ho m a w1 hm hW hb hd K Q hK; obtain rfl := Option.some.inj ho; have e1 := slotE (hd 0 (by kernel_rfl) 55 rfl); have hcw := kp_cell hW.2 hne HC4.out; go_simp; exact hK _ _ hW.same (kp_refl _) rfl)
          · (intro o ho m a w1 hm hW hb hd K Q hK; obtain rfl := Option.some.inj ho; have e0 : a.tmps[0]?.getD undef = (.pointer (some ⟨g, 0, none⟩)) := (by rw [hb 0 (by decide +kernel)]; simp); go_simp; exact hK _ _ hW.same (kp_refl _) rfl)
          · (intro o ho m a w1 hm hW hb hd K Q hK; obtain rfl := Option.some.inj ho; have e0 : a.tmps[1]?.getD undef = (.int .i64 ((d : Int) + 2)) := (by rw [hb 1 (by decide +kernel)]; simp); go_simp; exact hK _ _ hW.same (kp_refl _) rfl)
          · (intro o ho m a w1 hm hW hb hd K Q hK; obtain rfl := Option.some.inj ho; have e1 := slotE (hd 3 (by kernel_rfl) 58 rfl); go_simp; exact hK _ _ hW.same (kp_refl _) (by first | rfl | (show Value.int _ _ = Value.int _ _; congr 1; omega) | (show Value.int _ _ = Value.int _ _; congr 1; simp only [IntKind.wrap, IntKind.bits, IntKind.signed] <;> simp <;> omega)))
          · (intro o ho m a w1 hm hW hb hd K Q hK; obtain rfl := Option.some.inj ho; have e1 := slotE (hd 2 (by kernel_rfl) 57 rfl); have e2 := slotE (hd 4 (by kernel_rfl) 59 rfl); go_simp; have hmD := Nat.mul_le_mul_right (ndCost d) (show m ≤ 7 by omega); refine (IH.out B g _ w1 hW.1 (by omega)).mono ?_; rintro e w2 ⟨x9, k9, n9, t9, A9, l9, c9, B9, m9, d9, rfl, hin9, hs9, hr2, hg2⟩; exact hK _ _ ⟨hr2.more (by rw [Nat.succ_mul m]; omega), grown_trans hW.2 hg2⟩ hg2 ⟨x9, k9, n9, t9, A9, l9, c9, B9, m9, d9, rfl, InN.keep (fun _ _ => rfl) (fun j h => ⟨Nat.le_trans hW.2.size h.1, h.2⟩) _ _ hin9, hs9, hgr⟩)
          · (intro o ho m a w1 hm hW hb hd K Q hK; obtain rfl := Option.some.inj ho; obtain ⟨x9, k9, n9, t9, A9, l9, c9, B9, m9, d9, e1, hin9, hs9, hg9⟩ := (hd 5 (by kernel_rfl) 60 rfl); have e1 := slotE e1; go_simp; exact hK _ _ (hW.next ((Below.refl _ _).alloc (Nat.le_refl _) _)) (kp_below ((Below.refl _ _).alloc (Nat.le_refl _) _)) ⟨_, x9, k9, n9, t9, A9, l9, c9, B9, m9, d9, rfl, hW.new, heap_alloc_new w1 _, inN_kp hin9 (kp_below ((Below.refl _ _).alloc (Nat.le_refl _) _)) hg9, hs9, hg9⟩)
        case hW => exact ⟨(HR.out.keep (Below.refl _ _).drew).more (by omega), grown_drew (grown_refl _ _)⟩
        case hfin =>
          intro vs w3 hW hF
          simp only [putAll, hdst, List.getElem?_cons_succ, List.getElem?_cons_zero, Option.bind, List.drop_succ_cons, List.drop_zero, Act.put]
          have h1 : vs 1 = .slice Ai rs.length ci := hF 1 (by omega)
          obtain ⟨b2, x2, k2, n2, t2, A2, l2, c2, B2, m2, d2, h6, hbg2, hh2, hin2, hsz2, hgr2⟩ := hF 6 (by omega)
          rw [h1, h6]
          obtain ⟨hr3, hg3⟩ := hW
          have HL3 := Lib.hid (HL.out.grow hg3)
          have HR3 := Lib.hid hr3
          have HG3 := Lib.hid (grown_trans HG.out hg3)
          have hsz3 := HL3.out.size
          have HX0 := Lib.hid (HL.out.fresh hin2)
          have HSZ2 := Lib.hid hsz2
          clear hF h1 h6 hr3 hg3 hin2 hsz2
          go_simp
          go_wp2_with (at_builtin; refine app_node_at rfl _ _ rfl (ws.heap.size + 1) Ai ci rs ⟨k2, n2, t2, A2, l2, c2, B2, m2, d2⟩ (by rfl) HL3.out.iown b2 (by rfl) hh2 ?_ ?_ ?_; (focus omega); (focus omega); intro A6 c6 w6 ho6 hg6 hbk6; obtain ⟨⟨f0, f1, f2, f3, f4⟩, f5, f6, f7, f8, f9⟩ := box_five (HL3.out.boxI hg6))
          go_roundw
          case rel =>
            refine ⟨k - 1, An, cn, ns, A6, c6, rs ++ [⟨k2, n2, t2, A2, l2, c2, B2, m2, d2⟩], xs ++ [x2], by go_num, by simp; omega, HNL.out, HL3.out.appI ho6 hg6 hbk6 HX0.out _ (by simp), HS.out.snoc HSZ2.out, ?_, ?_⟩
            · exact (rdr_setN (HR3.out.frame hg6 (own_lt HL3.out.iown (by omega))) (by omega)).more (by rw [List.length_append, List.length_singleton, Nat.succ_mul xs.length]; omega)
            · exact grown_set_upN (grown_own HG3.out hg6 (by omega) (ownN_row HL3.out.iown)) (by omega)
          case measure => simp [intOf]; omega
      · have hk0 : k = 0 := by omega
        subst hk0
        have hnl3 : ns.length ≤ 3 := by have := HNL.out; omega
        have hxD : xs.length * (8 * ndCost d) ≤ 3 * (8 * ndCost d) := Nat.mul_le_mul_right _ (by omega)
        have HSZ : Hid (Nd.size (.mk 5 0 [] ns xs) ≤ 120 + 3 * ndBig d) := HS.out.size hnl3 (by omega)
        obtain ⟨⟨f0, f1, f2, f3, f4⟩, f5, f6, f7, f8, f9⟩ := box_five HL.out.box
        obtain ⟨⟨r0, r1, r2, r3, r4⟩, r5, r6, r7, r8, r9⟩ := box_five HL.out.res
        go_wp2
        refine bodyPost_ret (v := ndV 5 0 [] An ns.length cn Ai rs.length ci) (by simp [results, Tryd.results43, go_sem, *]) rfl ?_
        have HZ := HL.out
        have HN := HZ.lt
        have HO := HZ.old
        refine ⟨_, _, _, _, _, _, _, _, _, _, rfl, HZ.done (fun p hp => ?_) (by simp [World.setCell]), ?_, ?_, ?_⟩
        · have hpn : p.block ≠ w.heap.size := by omega
          rw [set_cellN hpn, set_cellN hpn, set_cellN hpn, set_cellN hpn, set_cellN hpn]
        · exact HSZ.out
        · exact (rdr_setN (rdr_setN (rdr_setN (rdr_setN (rdr_setN HR.out (by omega)) (by omega)) (by omega)) (by omega)) (by omega)).more (by omega)
        · exact grown_set_upN (grown_set_upN (grown_set_upN (grown_set_upN (grown_set_upN HG.out (by omega)) (by omega)) (by omega)) (by omega)) (by omega)
  ·
    have HL : Hid (NSt w (ws.alloc (.cells #[.int .i64 6, .int .i64 0, .string ⟨#[]⟩, .slice none 0 0, .slice none 0 0] 26)) g ws.heap.size 6 0 [] none 0 [] none 0 [] []) := ⟨heap_alloc_new ws _, ownS_nil _ _, ownN_nil _ _, ⟨rfl, fun i r x h => by simp at h⟩, (fun j h => by simp [Value.ownBlock] at h), (heap_alloc_old ws _ hslt).trans hres, hslt, hlt⟩
    have HR := Lib.hid (HRs.out.keep ((Below.refl _ _).alloc (Nat.le_refl _) (.cells #[.int .i64 6, .int .i64 0, .string ⟨#[]⟩, .slice none 0 0, .slice none 0 0] 26)))
    have HG := Lib.hid (grown_alloc HGs.out (.cells #[.int .i64 6, .int .i64 0, .string ⟨#[]⟩, .slice none 0 0, .slice none 0 0] 26))
    have hbg : ws.heap.size ≠ g := by omega
    obtain ⟨⟨f0, f1, f2, f3, f4⟩, f5, f6, f7, f8, f9⟩ := box_five HL.out.box
    go_wp2_with fail
    refine (spec_pick B g _ 4 _ HR.out (by omega) (by omega) (by omega)).mono ?_
    rintro e w7 ⟨k7, rfl, hk7, hr7, hg7⟩
    have HL7 := Lib.hid (HL.out.grow hg7)
    have HR7 := Lib.hid hr7
    have HG7 := Lib.hid (grown_trans HG.out hg7)
    have hk3 : k7 ≤ 3 := by omega
    clear hr7 hg7 hk7 f0 f1 f2 f3 f4 f5 f6 f7 f8 f9 HL HR HG
    go_wp2
    go_loopw [7] (fun i wr => ∃ (k : Nat) (An : Option Addr) (cn : Nat) (ns : List Tx) (Ai : Option Addr) (ci : Nat) (rs : List Raw) (xs : List Nd), i = .int .i64 (k : Int) ∧ k + xs.length ≤ 3 ∧ ns.length = xs.length ∧ NSt w wr g ws.heap.size 6 0 [] An cn ns Ai ci rs xs ∧ SmN (ndBig d) ns xs ∧ Rdr wr B g (q + 10 + xs.length * (8 * ndCost d)) ∧ w.grownBy wr (some g)) (fun i _ => (intOf i).toNat)
    case atStart => exact ⟨k7, none, 0, [], none, 0, [], [], rfl, by simpa using hk3, rfl, HL7.out, ⟨by simp [ssize], fun x hx => by cases hx⟩, HR7.out.more (by simp), HG7.out⟩
    case round =>
      obtain ⟨k, An, cn, ns, Ai, ci, rs, xs, rfl, hkl, hnl, hl, hs, hr, hg⟩ := hrel
      have HL := Lib.hid hl
      have HS := Lib.hid hs
      have HR := Lib.hid hr
      have HG := Lib.hid hg
      have HNL := Lib.hid hnl
      have hrl3 : rs.length ≤ 3 := by have := hl.els.1; omega
      have hgr : g < wr.heap.size := by have := hl.size; omega
      clear hl hs hr hg hnl
      by_cases hk : 0 < k
      · have HC4 := Lib.hid (box_five HL.out.box).1.2.2.2.2
        have hne : ws.heap.size ≠ g := hbg
        have hxD : xs.length * (8 * ndCost d) ≤ 2 * (8 * ndCost d) := Nat.mul_le_mul_right _ (by omega)
        go_wp2_with fail
        refine wp_region_typed 7 (by kernel_rfl) (by kernel_rfl) (DWD wr B g (q + 10 + xs.length * (8 * ndCost d)) (ndCost d)) (Kp g) (fun i => ([tIs (.pointer (some ⟨ws.heap.size, 4, none⟩)), tIs (.slice Ai rs.length ci), tIs (.pointer (some ⟨g, 0, none⟩)), tIs (.int .i64 ((d : Int) + 2)), tIs (.int .i64 ((d : Int) + 1)), tNd g wr (ndBig d), tOneN g wr (ndBig d)] : List Ty).getD i tAny) ?hW2 ?hkeep2 ?hstep2 ?hfin2
        case hkeep2 =>
          refine all_lt_succ (all_lt_succ (all_lt_succ (all_lt_succ (all_lt_succ (all_lt_succ (all_lt_succ all_lt_zero ?_) ?_) ?_) ?_) ?_) ?_) ?_
          · exact stays_is _
          · exact stays_is _
          · exact stays_is _
          · exact stays_is _
          · exact stays_is _
          · exact stays_tNd
          · exact stays_tOneN
        case hstep2 =>
          refine all_lt_succ (all_lt_succ (all_lt_succ (all_lt_succ (all_lt_succ (all_lt_succ (all_lt_succ all_lt_zero ?_) ?_) ?_) ?_) ?_) ?_) ?_
          · (intro o ho m a w1 hm hW hb hd K Q hK; obtain rfl := Option.some.inj ho; have e0 : a.tmps[6]?.getD undef = .pointer (some ⟨ws.heap.size, 0, none⟩) := (by rw [hb 6 (by decide +kernel)]; simp); go_simp; exact hK _ _ hW.same (kp_refl _) rfl)
          · (intro o ho m a w1 hm hW hb hd K Q hK; obtain rfl := Option.some.inj ho; have e1 := slotE (hd 0 (by kernel_rfl) 55 rfl); have hcw := kp_cell hW.2 hne HC4.out; go_simp; exact hK _ _ hW.same (kp_refl _) rfl)
          · (intro o ho m a w1 hm hW hb hd K Q hK; obtain rfl := Option.some.inj ho; have e0 : a.tmps[0]?.getD undef = (.pointer (some ⟨g, 0, none⟩)) := (by rw [hb 0 (by decide +kernel)]; simp); go_simp; exact hK _ _ hW.same (kp_refl _) rfl)
          · (intro o ho m a w1 hm hW hb hd K Q hK; obtain rfl := Option.some.inj ho; have e0 : a.tmps[1]?.getD undef = (.int .i64 ((d : Int) + 2)) := (by rw [hb 1 (by decide +kernel)]; simp); go_simp; exact hK _ _ hW.same (kp_refl _) rfl)
          · (intro o ho m a w1 hm hW hb hd K Q hK; obtain rfl := Option.some.inj ho; have e1 := slotE (hd 3 (by kernel_rfl) 58 rfl); go_simp; exact hK _ _ hW.same (kp_refl _) (by first | rfl | (show Value.int _ _ = Value.int _ _; congr 1; omega) | (show Value.int _ _ = Value.int _ _; congr 1; simp only [IntKind.wrap, IntKind.bits, IntKind.signed] <;> simp <;> omega)))
          · (intro o ho m a w1 hm hW hb hd K Q hK; obtain rfl := Option.some.inj ho; have e1 := slotE (hd 2 (by kernel_rfl) 57 rfl); have e2 := slotE (hd 4 (by kernel_rfl) 59 rfl); go_simp; have hmD := Nat.mul_le_mul_right (ndCost d) (show m ≤ 7 by omega); refine (IH.out B g _ w1 hW.1 (by omega)).mono ?_; rintro e w2 ⟨x9, k9, n9, t9, A9, l9, c9, B9, m9, d9, rfl, hin9, hs9, hr2, hg2⟩; exact hK _ _ ⟨hr2.more (by rw [Nat.succ_mul m]; omega), grown_trans hW.2 hg2⟩ hg2 ⟨x9, k9, n9, t9, A9, l9, c9, B9, m9, d9, rfl, InN.keep (fun _ _ => rfl) (fun j h => ⟨Nat.le_trans hW.2.size h.1, h.2⟩) _ _ hin9, hs9, hgr⟩)
          · (intro o ho m a w1 hm hW hb hd K Q hK; obtain rfl := Option.some.inj ho; obtain ⟨x9, k9, n9, t9, A9, l9, c9, B9, m9, d9, e1, hin9, hs9, hg9⟩ := (hd 5 (by kernel_rfl) 60 rfl); have e1 := slotE e1; go_simp; exact hK _ _ (hW.next ((Below.refl _ _).alloc (Nat.le_refl _) _)) (kp_below ((Below.refl _ _).alloc (Nat.le_refl _) _)) ⟨_, x9, k9, n9, t9, A9, l9, c9, B9, m9, d9, rfl, hW.new, heap_alloc_new w1 _, inN_kp hin9 (kp_below ((Below.refl _ _).alloc (Nat.le_refl _) _)) hg9, hs9, hg9⟩)
        case hW2 => exact ⟨(HR.out.keep (Below.refl _ _).drew).more (by omega), grown_drew (grown_refl _ _)⟩
        case hfin2 =>
          intro vs w3 hW hF
          simp only [putAll, hdst, List.getElem?_cons_succ, List.getElem?_cons_zero, Option.bind, List.drop_succ_cons, List.drop_zero, Act.put]
          have h1 : vs 1 = .slice Ai rs.length ci := hF 1 (by omega)
          obtain ⟨b2, x2, k2, n2, t2, A2, l2, c2, B2, m2, d2, h6, hbg2, hh2, hin2, hsz2, hgr2⟩ := hF 6 (by omega)
          rw [h1, h6]
          obtain ⟨hr3, hg3⟩ := hW
          have HL3 := Lib.hid (HL.out.grow hg3)
          have HR3 := Lib.hid hr3
          have HG3 := Lib.hid (grown_trans HG.out hg3)
          have hsz3 := HL3.out.size
          have HX0 := Lib.hid (HL.out.fresh hin2)
          have HSZ2 := Lib.hid hsz2
          clear hF h1 h6 hr3 hg3 hin2 hsz2
          go_simp
          go_upto_region 19 with (at_builtin; refine app_node_at rfl _ _ rfl (ws.heap.size + 1) Ai ci rs ⟨k2, n2, t2, A2, l2, c2, B2, m2, d2⟩ (by rfl) HL3.out.iown b2 (by rfl) hh2 ?_ ?_ ?_; (focus omega); (focus omega); intro A6 c6 w6 ho6 hg6 hbk6; obtain ⟨⟨f0, f1, f2, f3, f4⟩, f5, f6, f7, f8, f9⟩ := box_five (HL3.out.boxI hg6))
          have HL9 := Lib.hid (HL3.out.appI ho6 hg6 hbk6 HX0.out (.slice A6 (rs.length + 1) c6) (by simp))
          have HR9 := Lib.hid (rdr_setN (o := 4) (u := .slice A6 (rs.length + 1) c6) (k := ws.heap.size) (HR3.out.frame hg6 (own_lt HL3.out.iown (by omega))) (by omega))
          have HG9 := Lib.hid (grown_set_upN (o := 4) (u := .slice A6 (rs.length + 1) c6) (k := ws.heap.size) (grown_own HG3.out hg6 (by omega) (ownN_row HL3.out.iown)) (by omega))
          clear f0 f1 f2 f3 f4 f5 f6 f7 f8 f9
          generalize w6.setCell ⟨ws.heap.size, 4, none⟩ (.slice A6 (rs.length + 1) c6) = w9 at *
          obtain ⟨⟨f0, f1, f2, f3, f4⟩, f5, f6, f7, f8, f9⟩ := box_five HL9.out.box
          obtain rfl | ⟨y0, rfl⟩ | ⟨y0, y1, rfl⟩ := three_lists (ns := ns) (by have := HNL.out; omega)
          ·
            have hcv := bytes_strN (w9.alloc (.cells #[.int .u8 97] 5)) (c := 97) (heap_alloc_new w9 _)
            have HLA := Lib.hid ((HL9.out.alloc (.cells #[.int .u8 97] 5)).alloc (.cells #[.string ⟨#[97]⟩] 9))
            have HRA := Lib.hid ((HR9.out.keep ((Below.refl _ _).alloc (Nat.le_refl _) (.cells #[.int .u8 97] 5))).keep ((Below.refl _ _).alloc (Nat.le_refl _) (.cells #[.string ⟨#[97]⟩] 9)))
            have HGA := Lib.hid (grown_alloc (grown_alloc HG9.out (.cells #[.int .u8 97] 5)) (.cells #[.string ⟨#[97]⟩] 9))
            have hszA := HLA.out.size
            have hhA : ((w9.alloc (.cells #[.int .u8 97] 5)).alloc (.cells #[.string ⟨#[97]⟩] 9)).heap[w9.heap.size + 1]? = some (.cells #[sv [97]] 9 (0, 0)) := by have := heap_alloc_new (w9.alloc (.cells #[.int .u8 97] 5)) (.cells #[.string ⟨#[97]⟩] 9); simpa using this
            go_wp2_with (at_builtin; refine app_strb_at rfl _ _ rfl (ws.heap.size + 1) An cn [] [97] (by rfl) HLA.out.nown (w9.heap.size + 1) (by rfl) hhA ?_ ?_ ?_; (focus simp); (focus omega); intro A7 c7 w10 ho7 hg7 hbk7; obtain ⟨⟨e0, e1, e2, e3, e4⟩, e5, e6, e7, e8, e9⟩ := box_five (HLA.out.boxN hg7))
            go_roundw
            case rel =>
              refine ⟨k - 1, A7, c7, [] ++ [[97]], A6, c6, rs ++ [⟨k2, n2, t2, A2, l2, c2, B2, m2, d2⟩], xs ++ [x2], by go_num, by simp; omega, by rw [List.length_append, List.length_append, HNL.out]; rfl, HLA.out.appN ho7 hg7 hbk7 _ (by simp), (HS.out.snoc HSZ2.out).name (by simp), ?_, ?_⟩
              · exact (rdr_setN (HRA.out.frame hg7 (own_lt HLA.out.nown (by omega))) (by omega)).more (by rw [List.length_append, List.length_singleton, Nat.succ_mul xs.length]; omega)
              · exact grown_set_upN (grown_own HGA.out hg7 (by omega) (ownS_row HLA.out.nown)) (by omega)
            case measure => simp [intOf]; omega
          ·
            have hcv := bytes_strN (w9.alloc (.cells #[.int .u8 98] 5)) (c := 98) (heap_alloc_new w9 _)
            have HLA := Lib.hid ((HL9.out.alloc (.cells #[.int .u8 98] 5)).alloc (.cells #[.string ⟨#[98]⟩] 9))
            have HRA := Lib.hid ((HR9.out.keep ((Below.refl _ _).alloc (Nat.le_refl _) (.cells #[.int .u8 98] 5))).keep ((Below.refl _ _).alloc (Nat.le_refl _) (.cells #[.string ⟨#[98]⟩] 9)))
            have HGA := Lib.hid (grown_alloc (grown_alloc HG9.out (.cells #[.int .u8 98] 5)) (.cells #[.string ⟨#[98]⟩] 9))
            have hszA := HLA.out.size
            have hhA : ((w9.alloc (.cells #[.int .u8 98] 5)).alloc (.cells #[.string ⟨#[98]⟩] 9)).heap[w9.heap.size + 1]? = some (.cells #[sv [98]] 9 (0, 0)) := by have := heap_alloc_new (w9.alloc (.cells #[.int .u8 98] 5)) (.cells #[.string ⟨#[98]⟩] 9); simpa using this
            go_wp2_with (at_builtin; refine app_strb_at rfl _ _ rfl (ws.heap.size + 1) An cn [y0] [98] (by rfl) HLA.out.nown (w9.heap.size + 1) (by rfl) hhA ?_ ?_ ?_; (focus simp); (focus omega); intro A7 c7 w10 ho7 hg7 hbk7; obtain ⟨⟨e0, e1, e2, e3, e4⟩, e5, e6, e7, e8, e9⟩ := box_five (HLA.out.boxN hg7))
            go_roundw
            case rel =>
              refine ⟨k - 1, A7, c7, [y0] ++ [[98]], A6, c6, rs ++ [⟨k2, n2, t2, A2, l2, c2, B2, m2, d2⟩], xs ++ [x2], by go_num, by simp; omega, by rw [List.length_append, List.length_append, HNL.out]; rfl, HLA.out.appN ho7 hg7 hbk7 _ (by simp), (HS.out.snoc HSZ2.out).name (by simp), ?_, ?_⟩
              · exact (rdr_setN (HRA.out.frame hg7 (own_lt HLA.out.nown (by omega))) (by omega)).more (by rw [List.length_append, List.length_singleton, Nat.succ_mul xs.length]; omega)
              · exact grown_set_upN (grown_own HGA.out hg7 (by omega) (ownS_row HLA.out.nown)) (by omega)
            case measure => simp [intOf]; omega
          ·
            have hcv := bytes_strN (w9.alloc (.cells #[.int .u8 99] 5)) (c := 99) (heap_alloc_new w9 _)
            have HLA := Lib.hid ((HL9.out.alloc (.cells #[.int .u8 99] 5)).alloc (.cells #[.string ⟨#[99]⟩] 9))
            have HRA := Lib.hid ((HR9.out.keep ((Below.refl _ _).alloc (Nat.le_refl _) (.cells #[.int .u8 99] 5))).keep ((Below.refl _ _).alloc (Nat.le_refl _) (.cells #[.string ⟨#[99]⟩] 9)))
            have HGA := Lib.hid (grown_alloc (grown_alloc HG9.out (.cells #[.int .u8 99] 5)) (.cells #[.string ⟨#[99]⟩] 9))
            have hszA := HLA.out.size
            have hhA : ((w9.alloc (.cells #[.int .u8 99] 5)).alloc (.cells #[.string ⟨#[99]⟩] 9)).heap[w9.heap.size + 1]? = some (.cells #[sv [99]] 9 (0, 0)) := by have := heap_alloc_new (w9.alloc (.cells #[.int .u8 99] 5)) (.cells #[.string ⟨#[99]⟩] 9); simpa using this
            go_wp2_with (at_builtin; refine app_strb_at rfl _ _ rfl (ws.heap.size + 1) An cn [y0, y1] [99] (by rfl) HLA.out.nown (w9.heap.size + 1) (by rfl) hhA ?_ ?_ ?_; (focus simp); (focus omega); intro A7 c7 w10 ho7 hg7 hbk7; obtain ⟨⟨e0, e1, e2, e3, e4⟩, e5, e6, e7, e8, e9⟩ := box_five (HLA.out.boxN hg7))
            go_roundw
            case rel =>
              refine ⟨k - 1, A7, c7, [y0, y1] ++ [[99]], A6, c6, rs ++ [⟨k2, n2, t2, A2, l2, c2, B2, m2, d2⟩], xs ++ [x2], by go_num, by simp; omega, by rw [List.length_append, List.length_append, HNL.out]; rfl, HLA.out.appN ho7 hg7 hbk7 _ (by simp), (HS.out.snoc HSZ2.out).name (by simp), ?_, ?_⟩
              · exact (rdr_setN (HRA.out.frame hg7 (own_lt HLA.out.nown (by omega))) (by omega)).more (by rw [List.length_append, List.length_singleton, Nat.succ_mul xs.length]; omega)
              · exact grown_set_upN (grown_own HGA.out hg7 (by omega) (ownS_row HLA.out.nown)) (by omega)
            case measure => simp [intOf]; omega
      · have hk0 : k = 0 := by omega
        subst hk0
        have hnl3 : ns.length ≤ 3 := by have := HNL.out; omega
        have hxD : xs.length * (8 * ndCost d) ≤ 3 * (8 * ndCost d) := Nat.mul_le_mul_right _ (by omega)
        have HSZ : Hid (Nd.size (.mk 6 0 [] ns xs) ≤ 120 + 3 * ndBig d) := HS.out.size hnl3 (by omega)
        obtain ⟨⟨f0, f1, f2, f3, f4⟩, f5, f6, f7, f8, f9⟩ := box_five HL.out.box
        obtain ⟨⟨r0, r1, r2, r3, r4⟩, r5, r6, r7, r8, r9⟩ := box_five HL.out.res
        go_wp2
        refine bodyPost_ret (v := ndV 6 0 [] An ns.length cn Ai rs.length ci) (by simp [results, Tryd.results43, go_sem, *]) rfl ?_
        have HZ := HL.out
        have HN := HZ.lt
        have HO := HZ.old
        refine ⟨_, _, _, _, _, _, _, _, _, _, rfl, HZ.done (fun p hp => ?_) (by simp [World.setCell]), ?_, ?_, ?_⟩
        · have hpn : p.block ≠ w.heap.size := by omega
          rw [set_cellN hpn, set_cellN hpn, set_cellN hpn, set_cellN hpn, set_cellN hpn]
        · exact HSZ.out
        · exact (rdr_setN (rdr_setN (rdr_setN (rdr_setN (rdr_setN HR.out (by omega)) (by omega)) (by omega)) (by omega)) (by omega)).more (by omega)
        · exact grown_set_upN (grown_set_upN (grown_set_upN (grown_set_upN (grown_set_upN HG.out (by omega)) (by omega)) (by omega)) (by omega)) (by omega)
theorem spec_l20Node4 (B g q : Nat) (w : World) (h : Rdr w B g q) (hq : q ≤ 50000000) : Calls Tryd.prog 43 #[.pointer (some ⟨g, 0, none⟩), .int .i64 4] w (DrawnN w B g q 700000 10000) := by
  have h4 : DrC 3 := spec_l20NodeS 2 (by omega) (spec_l20NodeS 1 (by omega) (spec_l20NodeS 0 (by omega) spec_l20Node0))
  have hc : ndCost 3 = 672820 := rfl
  have hb : ndBig 3 = 4260 := rfl
  have h5 := h4 B g q w h (by rw [hc]; omega)
  rw [hc, hb] at h5
  refine h5.mono fun e w' ⟨x, k, n, t, An, ln, cn, Ai, li, ci, e1, h1, h2, h3, hg⟩ => ⟨x, k, n, t, An, ln, cn, Ai, li, ci, e1, h1, by omega, h3.more (by omega), hg⟩
end Go.Proofs.YtdmmnjnbjigdeaaDoor

namespace Go.Proofs.YtdmmnjnbjigdeaaDoor
open Go.RowKit Go.ChangeShapes Go.WideShapes Go.ChangeAt Go.Joins

theorem nodeWritten_len (x : Nd) (h : Nd.size x ≤ 10000) : (nodeWritten x).length ≤ 400032 := by
  unfold nodeWritten
  split
  · next hv => have := Nd.wr_len x 4 (valid_ok hv); omega
  · simp
set_option maxRecDepth 100000 in
set_option maxHeartbeats 1600000 in
theorem spec_DrawReadNode (bs : Tx) (A : Option Addr) (c : Nat) (w : World) (hr : Rd w w.heap.size A (bcells bs)) (hc : bs.length ≤ c) (hm : bs.length ≤ 1048576) (henv : Env w) :
    Calls Tryd.prog 21 #[.slice A bs.length c] w (DrewT w 400100) := by
  have HR := Lib.hid hr
  have HENV := Lib.hid henv
  clear hr henv
  go_enter Tryd.func21, Tryd.ntmps21
  go_wp2_with fail
  refine (spec_l20Open bs w.heap.size A c _ HR.out (Nat.le_refl _) hc hm).mono ?_
  rintro e w1 ⟨rfl, hr1, hb1⟩
  have HR1 := Lib.hid hr1
  have HB1 := Lib.hid hb1
  clear hr1 hb1
  go_wp2_with fail
  refine (spec_l20Node4 w.heap.size w.heap.size 0 _ HR1.out (by omega)).mono ?_
  rintro e w2 ⟨x, k, n, t, An, ln, cn, Ai, li, ci, rfl, hin2, hx2, hr2, hg2⟩
  have HB2 := Lib.hid (below_reader HB1.out hg2)
  have HW2 := Lib.hid (spec_NodeWritten x _ w2 hin2.all (by omega) (HENV.out.below HB2.out))
  have hsl := nodeWritten_len x hx2
  generalize nodeWritten x = s at *
  have HR2 := Lib.hid hr2
  have HG2 := Lib.hid hg2
  clear hin2 hr2 hg2
  go_wp2_with fail
  refine HW2.out.mono ?_
  rintro e w3 ⟨rfl, hb3⟩
  have HR3 := Lib.hid (HR2.out.keep hb3)
  have HG3 := Lib.hid (grown_below HG2.out hb3)
  clear hb3 HW2
  go_wp2_with fail
  refine (spec_odd w.heap.size w.heap.size _ 3 _ HR3.out (by omega) (by omega) (by omega)).mono ?_
  rintro e w4 ⟨b4, rfl, hr4, hg4⟩
  have HR4 := Lib.hid hr4
  have HG4 := Lib.hid (grown_trans HG3.out hg4)
  clear hr4 hg4
  cases b4
  · go_wp2
    go_ret
    exact ⟨s, rfl, by omega, below_reader HB1.out HG4.out⟩
  · have hlt4 := HR4.out.lt
    go_wp2_with fail
    refine (spec_pick w.heap.size w.heap.size _ 14 _ (HR4.out.keep ((Below.refl _ _).alloc (Nat.le_refl _) _)) (by omega) (by omega) (by omega)).mono ?_
    rintro e w5 ⟨k5, rfl, hk5, hr5, hg5⟩
    have hlit : w5.heap[w4.heap.size]? = _ := (hg5.block w4.heap.size (by simp) (by simp; omega)).trans (heap_alloc_new w4 _)
    obtain ⟨y, hyc, hy⟩ := lit_str (k := k5) (B := 400100) (n := 14) hlit (by show okS _ _ _ = true; simp only [okS, Bool.and_eq_true, decide_eq_true_eq]; (repeat' apply And.intro) <;> first | assumption | trivial | decide | (simp [ByteArray.size]; omega)) (by rcases hk5 with hk5 | hk5 <;> omega)
    have HG5 := Lib.hid (grown_trans (grown_alloc HG4.out _) hg5)
    clear hlit hr5 hg5
    go_wp2
    go_ret
    exact ⟨y, rfl, hy, below_reader HB1.out HG5.out⟩
theorem readNode_some {s : Tx} {x : Nd} (h : readNode s = some x) : nodeWritten x = s := by
  obtain ⟨h1, h2⟩ := readBy_some h
  unfold nodeWritten
  rw [if_pos h1, h2]
theorem readNode_size {s : Tx} (hs : s.length ≤ 1048576) : Nd.size ((readNode s).getD zeroNd) ≤ 1048576 := by
  cases h : readNode s with
  | none => exact Nat.zero_le _
  | some x =>
    have h2 : readBy (rdI 4) s = some x := h
    unfold readBy at h2
    cases h3 : rdI 4 s with
    | none => rw [h3] at h2; cases h2
    | some q =>
      obtain ⟨y, r⟩ := q
      rw [h3] at h2
      simp only at h2
      split at h2
      · injection h2 with h2
        subst h2
        have := rdI_sz 4 s y r h3
        simp only [Option.getD_some]
        omega
      · cases h2
set_option maxRecDepth 100000 in
set_option maxHeartbeats 8000000 in
theorem readNode_walk (bs : Tx) (A : Option Addr) (c : Nat) (w : World) (hr : Rd w w.heap.size A (bcells bs)) (hc : bs.length ≤ c) (hm : bs.length ≤ maxLen) (henv : Env w) (herr : ErrIs w) :
    Calls Tryd.prog 6 #[.slice A bs.length c] w fun e w' => e = .returned (.bool true) ∧ Below w.heap.size w w' := by
  unfold maxLen at hm
  by_cases h : 1048576 < bs.length
  · go_enter Tryd.func6, Tryd.ntmps6
    go_wp2
    go_ret
    exact ⟨rfl, Below.refl _ _⟩
  have HD := Lib.hid (spec_DrawReadNode bs A c w hr hc (by omega) henv)
  have HENV := Lib.hid henv
  have HERR := Lib.hid herr
  clear hr henv herr
  go_enter Tryd.func6, Tryd.ntmps6
  go_wp2_with fail
  refine HD.out.mono ?_
  rintro e w1 ⟨s, rfl, hsl, hb1⟩
  have HB1 := Lib.hid hb1
  have HIM := Lib.hid (fun w3 (hb : Below w.heap.size w w3) => impl_ReadNode s w3 (by omega) (HENV.out.below hb) (HERR.out.below hb))
  have HIM2 := Lib.hid (fun w3 (hb : Below w.heap.size w w3) => impl_ReadNode (s ++ [32]) w3 (by simp; omega) (HENV.out.below hb) (HERR.out.below hb))
  rw [read_space] at HIM2
  have HSP := Lib.hid (fun w3 (hb : Below w.heap.size w w3) => spec_ReadNode s w3 (by omega) (HENV.out.below hb))
  have hO := readNode_size (s := s) (by omega)
  have HSO : Hid (∀ x, readNode s = some x → nodeWritten x = s) := fun x h => readNode_some h
  generalize readNode s = o at *
  have hfo := Nd.fit_size _ hO
  have HEQ := Lib.hid (fun u v w3 (hu : InN w3 (All w3) (o.getD zeroNd) u) (hv : InN w3 (All w3) (o.getD zeroNd) v) => impl_SameNode _ _ u v w3 hu hv hfo hfo)
  rw [Nd.same_self] at HEQ
  have HIM1 := Lib.hid (HIM.out w1 hb1)
  clear hb1 HD hfo
  go_wp2_with fail
  refine HIM1.out.mono ?_
  rintro e w2 ⟨⟨k4, n4, t4, A4, l4, c4, B4, m4, d4⟩, L2, rfl, ho2, _, _, hb⟩
  have HA2 := Lib.hid ((Below.refl w2.heap.size w2).alloc (Nat.le_refl _) (.cells (ndCells k4 n4 t4 A4 l4 c4 B4 m4 d4) 26))
  have HB12 := Lib.hid (hb.trans (HA2.out.mono hb.size))
  have HB2 := Lib.hid (HB1.out.trans (HB12.out.mono HB1.out.size))
  have HP2 := Lib.hid (heap_alloc_new w2 (.cells (ndCells k4 n4 t4 A4 l4 c4 B4 m4 d4) 26))
  have HI2 := Lib.hid (InN.now (OwT.inN _ _ _ ho2 (fun b hb => OwT.lt _ _ _ ho2 b hb)) HA2.out)
  have HK2 : Hid (o = none → k4 = 0) := fun e => by subst e; simp only [Option.getD_none, zeroNd] at ho2; rw [OwT] at ho2; exact ho2.1
  have HSP2 := Lib.hid (HSP.out _ HB2.out)
  have hz2 : w2.heap.size < (w2.alloc (.cells (ndCells k4 n4 t4 A4 l4 c4 B4 m4 d4) 26)).heap.size := by simp
  clear hb ho2 HIM1
  go_upto_region 5 with fail
  generalize w2.alloc (.cells (ndCells k4 n4 t4 A4 l4 c4 B4 m4 d4) 26) = w3 at *
  go_wp2_with fail
  refine HSP2.out.mono ?_
  rintro e w5 ⟨⟨k6, n6, t6, A6, l6, c6, B6, m6, d6⟩, L5, rfl, ho5, _, _, hb⟩
  have HA5 := Lib.hid ((Below.refl w5.heap.size w5).alloc (Nat.le_refl _) (.cells (ndCells k6 n6 t6 A6 l6 c6 B6 m6 d6) 26))
  have HB35 := Lib.hid (hb.trans (HA5.out.mono hb.size))
  have HB5 := Lib.hid (HB2.out.trans (HB35.out.mono HB2.out.size))
  have HQ5 := Lib.hid (heap_alloc_new w5 (.cells (ndCells k6 n6 t6 A6 l6 c6 B6 m6 d6) 26))
  have HP5 := Lib.hid (bx_keep HP2.out HB35.out)
  have HI5 := Lib.hid (HI2.out.now HB35.out)
  have HE5 := Lib.hid (HEQ.out _ _ _ HI5.out (InN.now (OwT.inN _ _ _ ho5 (fun b hb => OwT.lt _ _ _ ho5 b hb)) HA5.out))
  clear hb ho5 HSP2
  go_upto_region 6 with fail
  generalize w5.alloc (.cells (ndCells k6 n6 t6 A6 l6 c6 B6 m6 d6) 26) = w6 at *
  obtain ⟨⟨p0, p1, p2, p3, p4⟩, -⟩ := box_five HP5.out
  obtain ⟨⟨q0, q1, q2, q3, q4⟩, -⟩ := box_five HQ5.out
  have hoo : (o.isSome != o.isSome) = false := by simp
  go_wp2_with fail
  refine HE5.out.mono ?_
  rintro e w7 ⟨rfl, hb⟩
  have HB7 := Lib.hid (HB5.out.trans (hb.mono HB5.out.size))
  have HP7 := Lib.hid (bx_keep HP5.out hb)
  have HI7 := Lib.hid (HI5.out.now hb)
  clear hb p0 p1 p2 p3 p4 q0 q1 q2 q3 q4 HE5
  obtain ⟨⟨p0, p1, p2, p3, p4⟩, -⟩ := box_five HP7.out
  cases o with
  | none =>
    obtain rfl := HK2.out rfl
    go_wp2_with fail
    refine (laws_alive _).mono ?_
    rintro e w8 ⟨rfl, hb⟩
    have HB8 := Lib.hid (HB7.out.trans (hb.mono HB7.out.size))
    clear hb
    go_wp2
    go_ret
    exact ⟨rfl, HB8.out⟩
  | some x =>
    have hxs := HSO.out x rfl
    have hsx : Nd.size x ≤ 1048576 := hO
    have hsum : (9223372036854775807 < s.length + 1) = False := by rw [eq_iff_iff, iff_false]; omega
    have HIM7 := Lib.hid (HIM2.out w7 HB7.out)
    have HWR := Lib.hid (fun w3 (hb : Below w7.heap.size w7 w3) => impl_NodeWritten x _ w3 (HI7.out.now hb) hsx (HENV.out.below (HB7.out.trans (hb.mono HB7.out.size))))
    rw [hxs] at HWR
    clear hxs
    go_wp2_with fail
    refine HIM7.out.mono ?_
    rintro e w8 ⟨⟨k9, n9, t9, A9, l9, c9, B9, m9, d9⟩, L8, rfl, _, _, _, hb⟩
    have HA8 := Lib.hid ((Below.refl w8.heap.size w8).alloc (Nat.le_refl _) (.cells (ndCells k9 n9 t9 A9 l9 c9 B9 m9 d9) 26))
    have HB78 := Lib.hid (hb.trans (HA8.out.mono hb.size))
    have HB8 := Lib.hid (HB7.out.trans (HB78.out.mono HB7.out.size))
    have HP8 := Lib.hid (bx_keep HP7.out HB78.out)
    have HW8 := Lib.hid (HWR.out _ HB78.out)
    clear hb HIM7 p0 p1 p2 p3 p4
    go_upto_region 11 with fail
    generalize w8.alloc (.cells (ndCells k9 n9 t9 A9 l9 c9 B9 m9 d9) 26) = w9 at *
    obtain ⟨⟨p0, p1, p2, p3, p4⟩, -⟩ := box_five HP8.out
    go_wp2_with fail
    refine HW8.out.mono ?_
    rintro e w10 ⟨rfl, hb⟩
    have HB10 := Lib.hid (HB8.out.trans (hb.mono HB8.out.size))
    clear hb
    go_wp2
    go_ret
    exact ⟨rfl, HB10.out⟩

set_option maxRecDepth 100000 in
theorem fnReadNode_lifted (os : Os) (started : os.Started) (H : Type) (enc : TypeId × Value → H) :
    ReturnsInHanded {} Tryd.checked os 6 .any (fun w args => (Rows.fnReadNodeSpec.pre enc Tryd.prog Tryd.f6 Rows.fnReadNodeRow.domain false w args ∧ laidMetH Tryd.prog Rows.fnReadNodeRow.laid w) ∧ sizedMet enc Tryd.prog Tryd.f6 (OpenSpec.ofChange Rows.fnReadNodeSpec) false w args)
      (Rows.fnReadNodeSpec.post enc Tryd.prog Tryd.f6 false true false false) := by
  refine returnsInHanded_of_change_and_shaped (C := Tryd.checked) (X := fun w _ => laidMetH Tryd.prog Rows.fnReadNodeRow.laid w) (fun _ _ _ hh h => h.of_heap hh) Tryd.own started (by kernel_rfl) Tryd.func6
    (ChangeSpec.witness_shaped (enc := enc) (C := Tryd.checked) (os := os) (X := fun w _ => laidMetH Tryd.prog Rows.fnReadNodeRow.laid w) false (World.laidAll Tryd.prog os Rows.fnReadNodeRow.laid) #[.slice none 0 0] 8 (World.laidAll_os _ _ _)
      (World.shaped_of_ZipB (by kernel_rfl) (by kernel_rfl)) (by kernel_rfl) (by kernel_rfl) (by kernel_rfl)
      (by rw [MakeChecks.laidMetH_plain _ _ _ (by kernel_rfl)]; exact laidMet_laidAll _ (by kernel_rfl) (by kernel_rfl))) ?_
  intro W base args ds gs before hval0 hW _ _ hlaid hsh _
  have hval : ∀ (j : Nat) t v, Tryd.f6.params[j]? = some t → args[j]? = some v → Value.okWide Tryd.prog W .any base t v := hval0
  have hW' := hW
  obtain ⟨p, q, hA0, hV, rfl, _, _⟩ := hW
  have hA : DataW.TrodAll enc Tryd.prog W 0 (fun _ => true) true Tryd.f6.params.toList args.toList ds p := hA0
  rw [Tryd.params6] at hA hval
  obtain ⟨v0, d0, rfl, rfl, h0⟩ := trodAll_one hA
  obtain ⟨rfl, rfl⟩ := trodVars_none hV
  obtain ⟨A, c, bs, rfl, hr, hlc, hcm⟩ := open_bytes Tryd.underlying22 Tryd.underlying5 (by kernel_rfl) (hval 0 _ v0 rfl rfl) h0
  have hlaid2 : laidMetH Tryd.prog Rows.fnReadNodeRow.laid W := hlaid
  rw [MakeChecks.laidMetH_plain _ _ _ (by kernel_rfl)] at hlaid2
  have henv : Env W := env_of hsh hlaid2 (List.mem_of_getElem? (i := 2) (by kernel_rfl))
  have herr : ErrIs W := errIs_of_mem (nm := "*errors.errorString") (d := .ptr (.agg [.lit (.string [105, 110, 118, 97, 108, 105, 100, 32, 115, 121, 110, 116, 97, 120])])) (t := 78) (by kernel_rfl) Tryd.underlying78 hlaid2 (List.mem_of_getElem? (i := 5) (by kernel_rfl))
  refine (readNode_walk bs A c W hr hlc (Nat.le_trans hlc hcm) henv herr).mono fun e W' ⟨he, hw⟩ => ?_
  subst he
  exact ⟨_, rfl, law_post hW' rfl rfl (by kernel_rfl) Tryd.underlying4 Tryd.laidOut (of_decide_eq_true (by kernel_rfl)) hw⟩

theorem fnReadNode_holds : Rows.FnReadNodeSaid :=
  OpenClaim.holds_of_wide 6 Tryd.f6 rfl rfl rfl rfl rfl rfl rfl ⟨rfl, rfl, rfl, rfl, rfl⟩ rfl rfl rfl rfl rfl (by kernel_rfl) Tryd.func6 (by kernel_rfl)
    (of_decide_eq_true (by kernel_rfl)) (by unfold Func.isWrapper; first | (rw [if_pos (by decide +kernel)]; kernel_rfl) | (rw [if_neg (by decide +kernel)]; exact ⟨rfl, rfl⟩))
    (fun os started H enc _ => fnReadNode_lifted os started H enc)

theorem fnReadNode_cardHolds : Rows.FnReadNodeCardSaid :=
  Claim7.holds_tied_plain_at .later [] _ true _ true fnReadNode_holds (fun _ h => by cases h) (by kernel_rfl) (fun _ h => by cases h) fnReadNode_row_tie rfl ⟨rfl, rfl⟩ (by kernel_rfl) rfl
    (fun f fn hf hfn => by
      obtain rfl : f = 6 := Option.some.inj ((show Tryd.prog.funcNamed "loop.example/templateescaper/laws.FnReadNode" = some 6 by kernel_rfl).symm.trans hf) |>.symm
      obtain rfl : fn = Tryd.f6 := (Option.some.inj (Tryd.func6.symm.trans hfn)).symm
      exact ⟨by kernel_rfl, fun j t ht => by
        rw [Tryd.params6] at ht
        have hm : t ∈ [22] := by simpa using Array.mem_of_getElem? ht
        have hall : ([22].all fun u => !Tryd.prog.wantsStandIn u) = true := by kernel_rfl
        exact (show Tryd.prog.wantsStandIn t = false by simpa using List.all_eq_true.1 hall t hm)⟩)
    (by kernel_rfl)

#print axioms fnReadNode_cardHolds
end Go.Proofs.YtdmmnjnbjigdeaaDoor
