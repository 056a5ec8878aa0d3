/- Nodes within brackets, read, of spec: walks, by the reader of nodes. -/
import Derived.Test.YtdmmnjnbjigdeaaDoorNodeSW
namespace Go.Proofs.YtdmmnjnbjigdeaaDoor
open Go.RowKit

/-- a node that is read from a place on, and where it ends, or -1 -/
def NewRs (w : World) (s : Tx) (i : Nat) (o : Option (Nd × Tx)) (e : Ending) (w' : World) : Prop :=
  ∃ (raw : Raw) (L : List Nat) (x : Nd) (nx : Int), e = .returned (.tuple #[raw.v, .int .i64 nx]) ∧ OwT w' x raw L ∧ L.Nodup ∧ (∀ b ∈ L, w.heap.size ≤ b) ∧ Below w.heap.size w w' ∧ (o = none → nx = -1) ∧ ∀ q, o = some q → x = q.1 ∧ ∃ k : Nat, i < k ∧ k ≤ s.length ∧ nx = (k : Int) ∧ q.2 = s.drop k
/-- the contract of the reference's reader at so many within each other -/
def RsC (d : Nat) : Prop := ∀ (s : Tx) (i : Nat) (w : World), s.length ≤ 4000000 → i ≤ s.length → Calls Tryd.prog 45 #[sv s, .int .i64 (i : Int), .int .i64 (d : Int)] w (NewRs w s i (rdS d (s.drop i)))
/-- how it ends -/
theorem newRs_some {w w' : World} {s : Tx} {i : Nat} {o : Option (Nd × Tx)} {x : Nd} {raw : Raw} {L : List Nat} (b : Nat) (v0 v1 v2 v3 v4 : Value) (k : Nat) (ho : OwT w' x raw L) (hn : L.Nodup) (hL : ∀ j ∈ L, w.heap.size ≤ j ∧ j ≠ b) (hb : Below w.heap.size w w') (hbl : w.heap.size ≤ b)
    (hk : i < k) (hks : k ≤ s.length) (hs : o = some (x, s.drop k)) : NewRs w s i o (.returned (.tuple #[raw.v, .int .i64 (k : Int)])) (put5 w' b v0 v1 v2 v3 v4) := by
  subst hs
  refine ⟨raw, L, x, k, rfl, OwT.keep _ _ _ ho (fun j hj => put5_heap _ _ _ _ _ _ _ _ (hL j hj).2), hn, fun j hj => (hL j hj).1, put5_below hb b _ _ _ _ _ hbl, (fun e => by cases e), ?_⟩
  intro q hq; injection hq with hq; subst hq; exact ⟨rfl, k, hk, hks, rfl, rfl⟩
theorem newRs_none {w w' : World} {s : Tx} {i : Nat} {o : Option (Nd × Tx)} (b : Nat) (v0 v1 v2 v3 v4 : Value) (k n : Int) (t : Tx) (hb : Below w.heap.size w w') (hbl : w.heap.size ≤ b) (hs : o = none) :
    NewRs w s i o (.returned (.tuple #[ndV k n t none 0 0 none 0 0, .int .i64 (-1)])) (put5 w' b v0 v1 v2 v3 v4) := by
  subst hs
  refine ⟨⟨k, n, t, none, 0, 0, none, 0, 0⟩, [], .mk k n t [] [], -1, rfl, owT_flat _ k n t, List.nodup_nil, fun j hj => (by cases hj), put5_below hb b _ _ _ _ _ hbl, fun _ => rfl, ?_⟩
  intro q hq; cases hq
theorem after_cons {b c : UInt8} (t : Tx) : after b (c :: t) = if c == b then some t else none := rfl
/-- the stage behind the comma -/
def stS (p : Tx → Option (Nd × Tx)) (rec : Bool) (f : Nat) (ns : List Tx) (xs : List Nd) (s1 : Tx) : Option (Nd × Tx) := match rdName rec ns s1 with
  | none => none
  | some (ns', s') => match p s' with
    | none => none
    | some (x, r) => if 5 < xs.length then none else insS p rec f ns' (xs ++ [x]) r
theorem insS_end {p : Tx → Option (Nd × Tx)} {rec : Bool} {f : Nat} {ns : List Tx} {xs : List Nd} {s u : Tx} (h : after (endB rec) s = some u) : insS p rec (f + 1) ns xs s = some (.mk (kindB rec) 0 [] ns xs, u) := by rw [insS, h]
theorem insS_first {p : Tx → Option (Nd × Tx)} {rec : Bool} {f : Nat} {ns : List Tx} {xs : List Nd} {s : Tx} (h : after (endB rec) s = none) (h0 : xs.length = 0) (hs : s ≠ []) : insS p rec (f + 1) ns xs s = stS p rec f ns xs s := by rw [insS, h]; simp only []; rw [if_pos h0, if_neg hs]; rfl
theorem insS_next {p : Tx → Option (Nd × Tx)} {rec : Bool} {f : Nat} {ns : List Tx} {xs : List Nd} {s u : Tx} (h : after (endB rec) s = none) (h0 : xs.length ≠ 0) (hs : after 44 s = some u) : insS p rec (f + 1) ns xs s = stS p rec f ns xs u := by rw [insS, h]; simp only []; rw [if_neg h0, hs]; rfl
theorem insS_no {p : Tx → Option (Nd × Tx)} {rec : Bool} {f : Nat} {ns : List Tx} {xs : List Nd} {s : Tx} (h : after (endB rec) s = none) (h0 : xs.length ≠ 0) (hs : after 44 s = none) : insS p rec (f + 1) ns xs s = none := by rw [insS, h]; simp only []; rw [if_neg h0, hs]
theorem insS_nil {p : Tx → Option (Nd × Tx)} {rec : Bool} {f : Nat} {ns : List Tx} {xs : List Nd} : insS p rec (f + 1) ns xs [] = none := by
  rw [insS]
  simp only [after]
  by_cases h : xs.length = 0 <;> simp [h]
set_option maxRecDepth 100000 in
set_option maxHeartbeats 4000000 in
theorem spec_insideL (d : Nat) (HC : RsC d) (s : Tx) (i : Nat) (w : World) (hl : s.length ≤ 4000000) (hd : d ≤ 10) (hi : i < s.length) (h91 : s[i] = 91) :
    Calls Tryd.prog 67 #[.string ⟨s.toArray⟩, .int .i64 i, .int .i64 ((d : Int) + 1)] w (NewRs w s i (insS (rdS d) false 7 [] [] (s.drop (i + 1)))) := by
  have HC := Lib.hid HC
  obtain ⟨hB0, hX0, hY0⟩ := two_boxes w #[.int .i64 0, .int .i64 0, .string ⟨#[]⟩, .slice none 0 0, .slice none 0 0] (ndCells 5 0 [] none 0 0 none 0 0) 26 26
  have hs0 : ((w.alloc (.cells #[.int .i64 0, .int .i64 0, .string ⟨#[]⟩, .slice none 0 0, .slice none 0 0] 26)).alloc (.cells (ndCells 5 0 [] none 0 0 none 0 0) 26)).heap.size = w.heap.size + 2 := by simp
  have HB0 := Lib.hid hB0
  have HX0 := Lib.hid hX0
  have HY0 := Lib.hid hY0
  have HS0 := Lib.hid hs0
  clear hB0 hX0 hY0 hs0
  have m91 : ((s[i].toNat : Int) == 123) = false := by rw [h91]; decide
  obtain ⟨O, hoo⟩ : ∃ O, insS (rdS d) false 7 [] [] (s.drop (i + 1)) = O := ⟨_, rfl⟩
  rw [hoo]
  have HO := Lib.hid hoo
  clear hoo
  go_enter Tryd.func67, Tryd.ntmps67
  go_upto_region 3 with fail
  generalize (w.alloc (.cells #[.int .i64 0, .int .i64 0, .string ⟨#[]⟩, .slice none 0 0, .slice none 0 0] 26)).alloc (.cells (ndCells 5 0 [] none 0 0 none 0 0) 26) = w0 at *
  go_wp2
  have hs0 := HS0.out
  have HT0 : Hid (TBx w0 (w.heap.size + 1) (w.heap.size + 2) 5 0 [] none 0 [] none 0 [] [] []) := ⟨HY0.out, ownS_nil _ _, ownN_nil _ _, by simp [OwTs], by simp [bk, Value.ownBlock], (by intro j hj; cases hj), by omega, by omega⟩
  go_loopw [1] (fun v wr => ∃ (a : Nat) (A1 : Option Addr) (c1 : Nat) (rs : List Raw) (xs : List Nd) (L : List Nat), v = .int .i64 a ∧ i < a ∧ a ≤ s.length ∧ xs.length ≤ 6 ∧ insS (rdS d) false (7 - xs.length) [] xs (s.drop a) = O ∧ TBx wr (w.heap.size + 1) (w.heap.size + 2) 5 0 [] none 0 [] A1 c1 rs xs L ∧ wr.heap[w.heap.size]? = some (.cells #[.int .i64 0, .int .i64 0, .string ⟨#[]⟩, .slice none 0 0, .slice none 0 0] 26 (0, 0)) ∧ Below w.heap.size w wr) (fun v _ => s.length - (intOf v).toNat)
  case atStart => exact ⟨i + 1, none, 0, [], [], [], by go_num, by omega, by omega, by simp, HO.out, HT0.out, HX0.out, HB0.out⟩
  case round =>
    obtain ⟨a, A1, c1, rs, xs, L, rfl, hia, hal, hxl, hin, ht, hy, hb⟩ := hrel
    have HT := Lib.hid ht
    have HY := Lib.hid hy
    have HB := Lib.hid hb
    have HIN := Lib.hid hin
    have hrl : rs.length = xs.length := ht.els.len
    have HRL := Lib.hid hrl
    have hr6 : rs.length ≤ 6 := by omega
    obtain ⟨⟨y0, y1, y2, y3, y4⟩, y5, y6, y7, y8, y9⟩ := box_five HY.out
    obtain ⟨⟨z0, z1, z2, z3, z4⟩, z5, z6, z7, z8, z9⟩ := box_five HT.out.box
    clear ht hy hb hin m91 hrl
    have HF : Hid (7 - xs.length = (6 - xs.length) + 1) := by show _ = _; omega
    by_cases hlt : a < s.length
    case neg =>
      have HN : Hid (O = none) := by show _ = _; rw [← HIN.out, drop_nil s a (by omega), HF.out, insS_nil]
      clear HIN
      go_wp2
      refine bodyPost_ret (v := .tuple #[ndV 0 0 [] none 0 0 none 0 0, .int .i64 (-1)]) (by simp [results, Tryd.results67, go_sem, *]) rfl ?_
      refine newRs_none w.heap.size (.int .i64 0) (.int .i64 0) (sv []) (.slice none 0 0) (.slice none 0 0) 0 0 [] (HB.out) (Nat.le_refl _) ?_
      exact HN.out
    have hD := drop_cons s a hlt
    cases he : (s[a] == 93)
    case true =>
      have me : ((s[a].toNat : Int) != 93) = false := by have : ((s[a].toNat : Int) == 93) = true := byte_eqR he; rw [bne, this]; rfl
      have HN : Hid (O = some (.mk 5 0 [] [] xs, s.drop (a + 1))) := by show _ = _; rw [← HIN.out, HF.out, insS_end (u := s.drop (a + 1)) (by rw [hD, after_cons, show endB false = 93 from rfl, he]; rfl)]; rfl
      clear HIN hD he
      go_wp2
      refine bodyPost_ret (v := .tuple #[ndV 5 0 [] none 0 0 A1 rs.length c1, .int .i64 ((a + 1 : Nat) : Int)]) (by simp [results, Tryd.results67, go_sem, *]) rfl ?_
      refine newRs_some (raw := ⟨5, 0, [], none, 0, 0, A1, rs.length, c1⟩) (L := _) (x := .mk 5 0 [] [] xs) (w' := wr) w.heap.size (.int .i64 5) (.int .i64 0) (sv []) (.slice none 0 0) (.slice A1 rs.length c1) (a + 1) HT.out.node HT.out.nodup ?_ HB.out (Nat.le_refl _) (by omega) (by omega) HN.out
      intro j hj; have := HT.out.lts j hj; omega
    case false =>
    have me : ((s[a].toNat : Int) != 93) = true := by have : ((s[a].toNat : Int) == 93) = false := byte_neR he; rw [bne, this]; rfl
    have hae : after (endB false) (s.drop a) = none := by rw [hD, after_cons, show endB false = 93 from rfl, he]; rfl
    go_upto_if 36 with fail
    go_cut [1] (fun v wx => ∃ a1 : Nat, v = .int .i64 a1 ∧ i < a1 ∧ a ≤ a1 ∧ a1 ≤ s.length ∧ stS (rdS d) false (6 - xs.length) [] xs (s.drop a1) = O ∧ wr = wx)
    case first =>
      by_cases h0 : xs.length = 0
      · rw [show decide (0 < rs.length) = false from decide_eq_false (by have := HRL.out; omega)]
        have HST : Hid (stS (rdS d) false (6 - xs.length) [] xs (s.drop a) = O) := by show _ = _; rw [← HIN.out, HF.out, insS_first hae h0 (fun e => by rw [hD] at e; cases e)]
        clear HIN hD hae h0
        go_wp2
        go_meet
        case rel => exact ⟨a, rfl, hia, Nat.le_refl _, hal, HST.out, rfl⟩
      · rw [show decide (0 < rs.length) = true from decide_eq_true (by have := HRL.out; omega)]
        cases hc : (s[a] == 44)
        · have mc : ((s[a].toNat : Int) != 44) = true := by have : ((s[a].toNat : Int) == 44) = false := byte_neR hc; rw [bne, this]; rfl
          have HN : Hid (O = none) := by show _ = _; rw [← HIN.out, HF.out, insS_no hae h0 (by rw [hD, after_cons, hc]; rfl)]
          clear HIN hD hae h0
          go_wp2
          refine bodyPost_ret (v := .tuple #[ndV 0 0 [] none 0 0 none 0 0, .int .i64 (-1)]) (by simp [results, Tryd.results67, go_sem, *]) rfl ?_
          refine newRs_none w.heap.size (.int .i64 0) (.int .i64 0) (sv []) (.slice none 0 0) (.slice none 0 0) 0 0 [] (HB.out) (Nat.le_refl _) ?_
          exact HN.out
        · have mc : ((s[a].toNat : Int) != 44) = false := by have : ((s[a].toNat : Int) == 44) = true := byte_eqR hc; rw [bne, this]; rfl
          have HST : Hid (stS (rdS d) false (6 - xs.length) [] xs (s.drop (a + 1)) = O) := by show _ = _; rw [← HIN.out, HF.out, insS_next hae h0 (by rw [hD, after_cons, hc]; rfl)]
          clear HIN hD hae h0
          go_wp2
          go_meet
          case rel => exact ⟨a + 1, by go_num, by omega, by omega, by omega, HST.out, rfl⟩
    case rest =>
      obtain ⟨a1, rfl, hia1, haa, hal1, hst, rfl⟩ := hcut
      have HST := Lib.hid hst
      clear hst HIN hD hae me he
      have HCALL := Lib.hid (HC.out s a1 wr hl hal1)
      go_wp2_with fail
      refine HCALL.out.mono ?_
      rintro e w2 ⟨raw, L2, x, nx, rfl, ho2, hn2, hr2, hb2, hno, hso⟩
      have HT2 := Lib.hid (HT.out.keep hb2)
      have HY2 := Lib.hid (bx_keep HY.out hb2)
      have HB2 := Lib.hid (HB.out.trans (hb2.mono HB.out.size))
      have HO2 := Lib.hid ho2
      have HN2 := Lib.hid hn2
      have HR2 := Lib.hid hr2
      have HND := Lib.hid (HT.out.more hn2 hr2)
      have HZ := Lib.hid (And.intro (HB.out.size) (And.intro hb2.size HT.out.le))
      clear y0 y1 y2 y3 y4 y5 y6 y7 y8 y9 z0 z1 z2 z3 z4 z5 z6 z7 z8 z9 ho2 hn2 hr2 hb2
      have HA := Lib.hid ((Below.refl w2.heap.size w2).alloc (Nat.le_refl _) (.cells (ndCells raw.k raw.n raw.t raw.An raw.ln raw.cn raw.Ai raw.li raw.ci) 26))
      have HX3 := Lib.hid (heap_alloc_new w2 (.cells (ndCells raw.k raw.n raw.t raw.An raw.ln raw.cn raw.Ai raw.li raw.ci) 26))
      have HT3 := Lib.hid (HT2.out.keep HA.out)
      have HY3 := Lib.hid (bx_keep HY2.out HA.out)
      have HB3 := Lib.hid (HB2.out.trans (HA.out.mono HB2.out.size))
      have hsa : (w2.alloc (.cells (ndCells raw.k raw.n raw.t raw.An raw.ln raw.cn raw.Ai raw.li raw.ci) 26)).heap.size = w2.heap.size + 1 := by simp
      have HO3 := Lib.hid (OwT.keep _ _ _ HO2.out (fun b hb => HA.out.block b (OwT.lt _ _ _ HO2.out b hb)))
      obtain ⟨⟨y0, y1, y2, y3, y4⟩, y5, y6, y7, y8, y9⟩ := box_five HY3.out
      obtain ⟨⟨z0, z1, z2, z3, z4⟩, z5, z6, z7, z8, z9⟩ := box_five HT3.out.box
      obtain ⟨⟨v0, v1, v2, v3, v4⟩, -⟩ := box_five HX3.out
      have HA4 := Lib.hid ((Below.refl (w2.alloc (.cells (ndCells raw.k raw.n raw.t raw.An raw.ln raw.cn raw.Ai raw.li raw.ci) 26)).heap.size (w2.alloc (.cells (ndCells raw.k raw.n raw.t raw.An raw.ln raw.cn raw.Ai raw.li raw.ci) 26))).alloc (Nat.le_refl _) (.cells (ndCells raw.k raw.n raw.t raw.An raw.ln raw.cn raw.Ai raw.li raw.ci) 26))
      have HX4 := Lib.hid (heap_alloc_new (w2.alloc (.cells (ndCells raw.k raw.n raw.t raw.An raw.ln raw.cn raw.Ai raw.li raw.ci) 26)) (.cells (ndCells raw.k raw.n raw.t raw.An raw.ln raw.cn raw.Ai raw.li raw.ci) 26))
      have HT4 := Lib.hid (HT3.out.keep HA4.out)
      have HY4 := Lib.hid (bx_keep HY3.out HA4.out)
      have HB4 := Lib.hid (HB3.out.trans (HA4.out.mono HB3.out.size))
      have HO4 := Lib.hid (OwT.keep _ _ _ HO3.out (fun b hb => HA4.out.block b (OwT.lt _ _ _ HO3.out b hb)))
      have hz4 := HT4.out.le
      cases ho : rdS d (s.drop a1) with
      | none =>
        obtain rfl := hno ho
        have HN : Hid (O = none) := by show _ = _; rw [← HST.out, stS, show rdName false [] (s.drop a1) = some ([], s.drop a1) from rfl]; simp only []; rw [ho]
        clear hso hno ho HST
        go_wp2
        refine bodyPost_ret (v := .tuple #[ndV 0 0 [] none 0 0 none 0 0, .int .i64 (-1)]) (by simp [results, Tryd.results67, go_sem, *]) rfl ?_
        refine newRs_none w.heap.size (.int .i64 0) (.int .i64 0) (sv []) (.slice none 0 0) (.slice none 0 0) 0 0 [] (HB3.out) (Nat.le_refl _) ?_
        exact HN.out
      | some q =>
        obtain ⟨rfl, k, hik, hks, rfl, hqd⟩ := hso q ho
        have hk0 : ((k : Int) < 0) = False := by simp
        by_cases h6 : 5 < xs.length
        · have HN : Hid (O = none) := by show _ = _; rw [← HST.out, stS, show rdName false [] (s.drop a1) = some ([], s.drop a1) from rfl]; simp only []; rw [ho]; simp only []; rw [if_pos h6]
          have hq5 : ((5 : Int) < (rs.length : Int)) = True := eq_true (by have := HRL.out; omega)
          clear hso hno ho HST h6 hqd
          go_wp2
          refine bodyPost_ret (v := .tuple #[ndV 0 0 [] none 0 0 none 0 0, .int .i64 (-1)]) (by simp [results, Tryd.results67, go_sem, *]) rfl ?_
          refine newRs_none w.heap.size (.int .i64 0) (.int .i64 0) (sv []) (.slice none 0 0) (.slice none 0 0) 0 0 [] (HB3.out) (Nat.le_refl _) ?_
          exact HN.out
        · have HS : Hid (insS (rdS d) false (6 - xs.length) [] (xs ++ [q.1]) (s.drop k) = O) := by show _ = _; rw [← HST.out, stS, show rdName false [] (s.drop a1) = some ([], s.drop a1) from rfl]; simp only []; rw [ho]; simp only []; rw [if_neg h6, ← hqd]
          have hq5 : ((5 : Int) < (rs.length : Int)) = False := eq_false (by have := HRL.out; omega)
          clear hso hno ho HST hqd
          obtain ⟨rk, rn, rt, rAn, rln, rcn, rAi, rli, rci⟩ := raw
          go_upto_region 21 with fail
          generalize w2.alloc (.cells (ndCells rk rn rt rAn rln rcn rAi rli rci) 26) = wa at *
          have hzx : w2.heap.size < wa.heap.size := by omega
          have hz0 : w.heap.size + 1 < wa.heap.size := by have := HT3.out.lt; have := HT3.out.le; omega
          have HC4 := Lib.hid z4
          have HX5 : Hid ((wa.alloc (.cells (ndCells rk rn rt rAn rln rcn rAi rli rci) 26)).heap[w2.heap.size + 1]? = some (.cells (ndCells rk rn rt rAn rln rcn rAi rli rci) 26 (0, 0))) := by show _ = _; rw [← hsa]; exact HX4.out
          go_wp2_with (at_builtin; refine app_node_at rfl _ _ rfl (w.heap.size + 2) A1 c1 rs ⟨rk, rn, rt, rAn, rln, rcn, rAi, rli, rci⟩ (by rfl) HT4.out.iown (w2.heap.size + 1) (by rfl) HX5.out ?_ HT4.out.le ?_; (focus omega); intro A6 c6 w6 ho6 hg6 hbk6; obtain ⟨⟨f0, f1, f2, f3, f4⟩, f5, f6, f7, f8, f9⟩ := box_five (HT4.out.boxI hg6))
          have HT7 := Lib.hid (HT4.out.appI ho6 hg6 hbk6 HO4.out HND.out (fun j hj => by have := HR2.out j hj; have := HT.out.le; omega) (.slice A6 (rs.length + 1) c6) (by simp))
          have HB7 := Lib.hid (Below.setCell (HB4.out.trans (grown_to_below hg6 HB4.out.size (fun g e => by have := ownN_row HT4.out.iown g e; omega))) (p := ⟨w.heap.size + 1, 4, none⟩) (Nat.le_succ _) (.slice A6 (rs.length + 1) c6))
          have HY7 : Hid ((w6.setCell ⟨w.heap.size + 1, 4, none⟩ (.slice A6 (rs.length + 1) c6)).heap[w.heap.size]? = some (.cells #[.int .i64 0, .int .i64 0, .string ⟨#[]⟩, .slice none 0 0, .slice none 0 0] 26 (0, 0))) := (Below.heap_setCell _ _ _ _ (by show w.heap.size ≠ w.heap.size + 1; omega)).trans ((hg6.block _ (Nat.lt_of_lt_of_le (Nat.lt_add_of_pos_right (by decide)) HT4.out.le) (fun e => by have := ownN_row HT4.out.iown _ e.symm; omega)).trans HY4.out)
          generalize w6.setCell ⟨w.heap.size + 1, 4, none⟩ (.slice A6 (rs.length + 1) c6) = w7 at *
          go_roundw
          case rel => exact ⟨k, A6, c6, _, xs ++ [q.1], _, rfl, by omega, hks, by simp; omega, by rw [← HS.out]; congr 1; (first | omega | (simp; done) | (simp; omega)), HT7.out, HY7.out, HB7.out⟩
          case measure => simp [intOf]; omega
end Go.Proofs.YtdmmnjnbjigdeaaDoor
