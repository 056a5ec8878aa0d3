/- Nodes within brackets, read, of impl: walks, by the reader of nodes. -/
import Derived.Test.YtdmmnjnbjigdeaaDoorNodeRT
import Derived.Test.YtdmmnjnbjigdeaaDoorNodeOw
import Derived.Test.YtdmmnjnbjigdeaaDoorNodeEnv
import Derived.Test.YtdmmnjnbjigdeaaDoorNodeRP
namespace Go.Proofs.YtdmmnjnbjigdeaaDoor
open Go.RowKit

/-- a node that is read, or none: the node's rows are the call's own -/
def NewRd (w : World) (s : Tx) (o : Option (Nd × Tx)) (e : Ending) (w' : World) : Prop :=
  ∃ (raw : Raw) (L : List Nat) (x : Nd) (r : Tx), e = .returned (.tuple #[raw.v, sv r, .bool o.isSome]) ∧ OwT w' x raw L ∧ L.Nodup ∧ (∀ b ∈ L, w.heap.size ≤ b) ∧ Below w.heap.size w w' ∧ r.length ≤ s.length ∧ ∀ q, o = some q → x = q.1 ∧ r = q.2
def txLen : Value → Nat
  | .string b => b.size
  | _ => 0
/-- the reader's contract at so many within each other -/
def RdC (d : Nat) : Prop := ∀ (s : Tx) (w : World), s.length ≤ 4000000 → Env w → ErrIs w → Calls Tryd.prog 42 #[sv s, .int .i64 (d : Int)] w (NewRd w s (rdI d s))
theorem pre_one (s : Tx) (b : UInt8) : Lib.hasPrefix s [b] = (after b s).isSome ∧ Lib.trimPrefix s [b] = (after b s).getD s := by
  cases s with
  | nil => simp [Lib.hasPrefix, Lib.trimPrefix, after]
  | cons c t =>
    by_cases h : c = b
    · subst h; simp [Lib.hasPrefix, Lib.trimPrefix, after]
    · have h2 : ¬ b = c := fun e => h e.symm
      simp [Lib.hasPrefix, Lib.trimPrefix, after, h, h2, List.isPrefixOf]
theorem cut_byte (s : Tx) (b : UInt8) (w : World) : Calls Tryd.prog 61 #[.string ⟨s.toArray⟩, .string ⟨#[b]⟩] w fun e w' => e = .returned (.tuple #[.string ⟨((after b s).getD s).toArray⟩, .bool (after b s).isSome]) ∧ w' = w := by
  have h := Tryd.strings_CutPrefix ⟨s.toArray⟩ ⟨#[b]⟩ w
  have e : (⟨#[b]⟩ : ByteArray).data.toList = [b] := rfl
  rw [e] at h
  simp only [(pre_one s b).1, (pre_one s b).2] at h
  exact h
theorem after_len {b : UInt8} {s u : Tx} (h : after b s = some u) : u.length < s.length := by
  cases s with
  | nil => simp [after] at h
  | cons c t =>
    simp only [after] at h
    split at h
    · injection h with h; subst h; simp
    · cases h
theorem cut_hit {s u : Tx} {b : UInt8} (h : after b s = some u) (w : World) : Calls Tryd.prog 61 #[.string ⟨s.toArray⟩, .string ⟨#[b]⟩] w fun e w' => e = .returned (.tuple #[.string ⟨u.toArray⟩, .bool true]) ∧ w' = w := by
  have := cut_byte s b w
  rw [h] at this
  exact this
theorem cut_miss {s : Tx} {b : UInt8} (h : after b s = none) (w : World) : Calls Tryd.prog 61 #[.string ⟨s.toArray⟩, .string ⟨#[b]⟩] w fun e w' => e = .returned (.tuple #[.string ⟨s.toArray⟩, .bool false]) ∧ w' = w := by
  have := cut_byte s b w
  rw [h] at this
  exact this
theorem owT_zero5 (w : World) : OwT w (.mk 0 0 [] [] []) ⟨0, 0, [], none, 0, 0, none, 0, 0⟩ [] := by
  rw [OwT]
  exact ⟨rfl, rfl, rfl, rfl, rfl, ownS_nil _ _, [], [], ownN_nil _ _, by simp [OwTs], by simp [bk, Value.ownBlock]⟩
theorem owT_flat (w : World) (k n : Int) (t : Tx) : OwT w (.mk k n t [] []) ⟨k, n, t, none, 0, 0, none, 0, 0⟩ [] := by
  rw [OwT]
  exact ⟨rfl, rfl, rfl, rfl, rfl, ownS_nil _ _, [], [], ownN_nil _ _, by simp [OwTs], by simp [bk, Value.ownBlock]⟩

/-- five cells of a box, set -/
abbrev put5 (w : World) (b : Nat) (v0 v1 v2 v3 v4 : Value) : World := ((((w.setCell ⟨b, 0, none⟩ v0).setCell ⟨b, 1, none⟩ v1).setCell ⟨b, 2, none⟩ v2).setCell ⟨b, 3, none⟩ v3).setCell ⟨b, 4, none⟩ v4
theorem put5_heap (w : World) (b j : Nat) (v0 v1 v2 v3 v4 : Value) (h : j ≠ b) : (put5 w b v0 v1 v2 v3 v4).heap[j]? = w.heap[j]? := by
  unfold put5
  rw [Below.heap_setCell _ _ _ _ (by exact h), Below.heap_setCell _ _ _ _ (by exact h), Below.heap_setCell _ _ _ _ (by exact h), Below.heap_setCell _ _ _ _ (by exact h), Below.heap_setCell _ _ _ _ (by exact h)]
theorem put5_below {w w' : World} {n : Nat} (h : Below n w w') (b : Nat) (v0 v1 v2 v3 v4 : Value) (hb : n ≤ b) : Below n w (put5 w' b v0 v1 v2 v3 v4) :=
  Below.setCell (Below.setCell (Below.setCell (Below.setCell (Below.setCell h (p := ⟨b, 0, none⟩) hb _) (p := ⟨b, 1, none⟩) hb _) (p := ⟨b, 2, none⟩) hb _) (p := ⟨b, 3, none⟩) hb _) (p := ⟨b, 4, none⟩) hb _
/-- how a reader ends: the node lies in the result's box -/
theorem newRd_end {w w' : World} {s : Tx} {o : Option (Nd × Tx)} {x : Nd} {r : Tx} {raw : Raw} {L : List Nat} (b : Nat) (v0 v1 v2 v3 v4 : Value) (k : Bool) (ho : OwT w' x raw L) (hn : L.Nodup) (hL : ∀ j ∈ L, w.heap.size ≤ j ∧ j ≠ b) (hb : Below w.heap.size w w') (hbl : w.heap.size ≤ b)
    (hr : r.length ≤ s.length) (hk : k = o.isSome) (hs : ∀ q, o = some q → x = q.1 ∧ r = q.2) : NewRd w s o (.returned (.tuple #[raw.v, sv r, .bool k])) (put5 w' b v0 v1 v2 v3 v4) := by
  subst hk
  exact ⟨raw, L, x, r, rfl, OwT.keep _ _ _ ho (fun j hj => put5_heap _ _ _ _ _ _ _ _ (hL j hj).2), hn, fun j hj => (hL j hj).1, put5_below hb b _ _ _ _ _ hbl, hr, hs⟩
set_option maxRecDepth 100000 in
set_option maxHeartbeats 2000000 in
theorem impl_insideL (d : Nat) (HC : RdC d) (t : Tx) (w : World) (hl : t.length + 1 ≤ 4000000) (hE : Env w) (hR : ErrIs w) (hd : d ≤ 10) :
    Calls Tryd.prog 63 #[.string ⟨((91 : UInt8) :: t).toArray⟩, .int .i64 ((d : Int) + 1)] w (NewRd w (91 :: t) (inI (rdI d) false t)) := by
  have HE := Lib.hid hE
  have HR := Lib.hid hR
  have HC := Lib.hid HC
  clear hE hR
  obtain ⟨hB0, hX0, hY0⟩ := two_boxes w #[.int .i64 0, .int .i64 0, .string ⟨#[]⟩, .slice none 0 0, .slice none 0 0] (ndCells 5 0 [] none 0 0 none 0 0) 26 26
  have hs0 : ((w.alloc (.cells #[.int .i64 0, .int .i64 0, .string ⟨#[]⟩, .slice none 0 0, .slice none 0 0] 26)).alloc (.cells (ndCells 5 0 [] none 0 0 none 0 0) 26)).heap.size = w.heap.size + 2 := by simp
  have HB0 := Lib.hid hB0
  have HX0 := Lib.hid hX0
  have HY0 := Lib.hid hY0
  have HS0 := Lib.hid hs0
  clear hB0 hX0 hY0 hs0
  cases hend : after 93 t with
  | some u =>
    have HI : Hid (inI (rdI d) false t = some (.mk 5 0 [] [] [], u)) := by show _ = _; unfold inI; rw [show endB false = 93 from rfl, hend]; rfl
    have HCUT := Lib.hid (fun w => cut_hit hend w)
    have HLU := Lib.hid (after_len hend)
    clear hend
    go_enter Tryd.func63, Tryd.ntmps63
    go_upto_region 6 with fail
    generalize (w.alloc (.cells #[.int .i64 0, .int .i64 0, .string ⟨#[]⟩, .slice none 0 0, .slice none 0 0] 26)).alloc (.cells (ndCells 5 0 [] none 0 0 none 0 0) 26) = w0 at *
    obtain ⟨⟨y0, y1, y2, y3, y4⟩, y5, y6, y7, y8, y9⟩ := box_five HX0.out
    obtain ⟨⟨z0, z1, z2, z3, z4⟩, z5, z6, z7, z8, z9⟩ := box_five HY0.out
    go_wp2_with (go_at_call 61; refine (HCUT.out _).mono ?_; rintro e w2 ⟨rfl, rfl⟩)
    refine bodyPost_ret (v := .tuple #[ndV 5 0 [] none 0 0 none 0 0, sv u, .bool true]) (by simp [results, Tryd.results63, go_sem, *]) rfl ?_
    rw [HI.out]
    clear y0 y1 y2 y3 y4 y5 y6 y7 y8 y9 z0 z1 z2 z3 z4 z5 z6 z7 z8 z9
    refine newRd_end (raw := ⟨5, 0, [], none, 0, 0, none, 0, 0⟩) (L := []) (x := .mk 5 0 [] [] []) (r := u) (w' := w2) w.heap.size (.int .i64 5) (.int .i64 0) (sv []) (.slice none 0 0) (.slice none 0 0) true ?_ ?_ ?_ ?_ ?_ ?_ ?_ ?_
    · exact owT_flat _ 5 0 []
    · exact List.nodup_nil
    · intro b hb; cases hb
    · exact HB0.out
    · exact Nat.le_refl _
    · have := HLU.out; simp; omega
    · rfl
    · intro q hq; injection hq with hq; subst hq; exact ⟨rfl, rfl⟩
  | none =>
    have HI : Hid (inI (rdI d) false t = insI (rdI d) false 6 [] [] t) := by show _ = _; unfold inI; rw [show endB false = 93 from rfl, hend]
    have HCUT := Lib.hid (fun w => cut_miss hend w)
    clear hend
    go_enter Tryd.func63, Tryd.ntmps63
    go_wp2_with (go_at_call 61; refine (HCUT.out _).mono ?_; rintro e w2 ⟨rfl, rfl⟩)
    generalize (w.alloc (.cells #[.int .i64 0, .int .i64 0, .string ⟨#[]⟩, .slice none 0 0, .slice none 0 0] 26)).alloc (.cells (ndCells 5 0 [] none 0 0 none 0 0) 26) = w0 at *
    have hs0 := HS0.out
    have HT0 : Hid (TBx w0 (w.heap.size + 1) (w.heap.size + 2) 5 0 [] none 0 [] none 0 [] [] []) := ⟨HY0.out, ownS_nil _ _, ownN_nil _ _, by simp [OwTs], by simp [bk, Value.ownBlock], (by intro j hj; cases hj), by omega, by omega⟩
    go_loopw [0] (fun i wr => ∃ (u : Tx) (A1 : Option Addr) (c1 : Nat) (rs : List Raw) (xs : List Nd) (L : List Nat), i = sv u ∧ u.length ≤ t.length ∧ xs.length ≤ 6 ∧ insI (rdI d) false (6 - xs.length) [] xs u = inI (rdI d) false t ∧ TBx wr (w.heap.size + 1) (w.heap.size + 2) 5 0 [] none 0 [] A1 c1 rs xs L ∧ wr.heap[w.heap.size]? = some (.cells #[.int .i64 0, .int .i64 0, .string ⟨#[]⟩, .slice none 0 0, .slice none 0 0] 26 (0, 0)) ∧ Below w.heap.size w wr) (fun i _ => txLen i)
    case atStart => exact ⟨t, none, 0, [], [], [], rfl, Nat.le_refl _, by simp, HI.out.symm, HT0.out, HX0.out, HB0.out⟩
    case round =>
      obtain ⟨u, A1, c1, rs, xs, L, rfl, hut, hxl, hin, ht, hy, hb⟩ := hrel
      have HT := Lib.hid ht
      have HY := Lib.hid hy
      have HB := Lib.hid hb
      have HIN := Lib.hid hin
      have hrl : rs.length = xs.length := ht.els.len
      have HRL := Lib.hid hrl
      have hr6 : rs.length ≤ 6 := by omega
      obtain ⟨⟨y0, y1, y2, y3, y4⟩, y5, y6, y7, y8, y9⟩ := box_five HY.out
      obtain ⟨⟨z0, z1, z2, z3, z4⟩, z5, z6, z7, z8, z9⟩ := box_five HT.out.box
      clear ht hy hb hin
      by_cases hlt : rs.length ≤ 5
      · have hq : ((rs.length : Int) ≤ 5) = True := by simp; omega
        have hf : 6 - xs.length = (5 - xs.length) + 1 := by omega
        have HCALL := Lib.hid (fun w3 (hb : Below _ _ w3) => HC.out u w3 (by omega) (HE.out.below (HB.out.trans (hb.mono HB.out.size))) (HR.out.below (HB.out.trans (hb.mono HB.out.size))))
        clear hrl
        go_wp2_with fail
        refine (HCALL.out wr (Below.refl _ _)).mono ?_
        rintro e w2 ⟨raw, L2, x, r, rfl, ho2, hn2, hr2, hb2, hlr, hso⟩
        have HT2 := Lib.hid (HT.out.keep hb2)
        have HY2 := Lib.hid (bx_keep HY.out hb2)
        have HB2 := Lib.hid (HB.out.trans (hb2.mono HB.out.size))
        have HO2 := Lib.hid ho2
        have HN2 := Lib.hid hn2
        have HR2 := Lib.hid hr2
        have HND := Lib.hid (HT.out.more hn2 hr2)
        have HZ := Lib.hid (And.intro (HB.out.size) (And.intro hb2.size HT.out.le))
        clear y0 y1 y2 y3 y4 y5 y6 y7 y8 y9 z0 z1 z2 z3 z4 z5 z6 z7 z8 z9 ho2 hn2 hr2 hb2
        have HA := Lib.hid ((Below.refl w2.heap.size w2).alloc (Nat.le_refl _) (.cells (ndCells raw.k raw.n raw.t raw.An raw.ln raw.cn raw.Ai raw.li raw.ci) 26))
        have HX3 := Lib.hid (heap_alloc_new w2 (.cells (ndCells raw.k raw.n raw.t raw.An raw.ln raw.cn raw.Ai raw.li raw.ci) 26))
        have HT3 := Lib.hid (HT2.out.keep HA.out)
        have HY3 := Lib.hid (bx_keep HY2.out HA.out)
        have HB3 := Lib.hid (HB2.out.trans (HA.out.mono HB2.out.size))
        have hsa : (w2.alloc (.cells (ndCells raw.k raw.n raw.t raw.An raw.ln raw.cn raw.Ai raw.li raw.ci) 26)).heap.size = w2.heap.size + 1 := by simp
        have HO3 := Lib.hid (OwT.keep _ _ _ HO2.out (fun b hb => HA.out.block b (OwT.lt _ _ _ HO2.out b hb)))
        obtain ⟨⟨y0, y1, y2, y3, y4⟩, y5, y6, y7, y8, y9⟩ := box_five HY3.out
        obtain ⟨⟨z0, z1, z2, z3, z4⟩, z5, z6, z7, z8, z9⟩ := box_five HT3.out.box
        obtain ⟨⟨v0, v1, v2, v3, v4⟩, -⟩ := box_five HX3.out
        have HA4 := Lib.hid ((Below.refl (w2.alloc (.cells (ndCells raw.k raw.n raw.t raw.An raw.ln raw.cn raw.Ai raw.li raw.ci) 26)).heap.size (w2.alloc (.cells (ndCells raw.k raw.n raw.t raw.An raw.ln raw.cn raw.Ai raw.li raw.ci) 26))).alloc (Nat.le_refl _) (.cells (ndCells raw.k raw.n raw.t raw.An raw.ln raw.cn raw.Ai raw.li raw.ci) 26))
        have HX4 := Lib.hid (heap_alloc_new (w2.alloc (.cells (ndCells raw.k raw.n raw.t raw.An raw.ln raw.cn raw.Ai raw.li raw.ci) 26)) (.cells (ndCells raw.k raw.n raw.t raw.An raw.ln raw.cn raw.Ai raw.li raw.ci) 26))
        have HT4 := Lib.hid (HT3.out.keep HA4.out)
        have HY4 := Lib.hid (bx_keep HY3.out HA4.out)
        have HB4 := Lib.hid (HB3.out.trans (HA4.out.mono HB3.out.size))
        have HO4 := Lib.hid (OwT.keep _ _ _ HO3.out (fun b hb => HA4.out.block b (OwT.lt _ _ _ HO3.out b hb)))
        have hz4 := HT4.out.le
        cases ho : rdI d u with
        | none =>
          have HN : Hid (inI (rdI d) false t = none) := by show _ = _; rw [← HIN.out, hf, insI, show rdName false [] u = some ([], u) from rfl]; simp only []; rw [ho]
          clear hso hf
          go_wp2
          refine bodyPost_ret (v := .tuple #[ndV 0 0 [] none 0 0 none 0 0, sv u, .bool false]) (by simp [results, Tryd.results63, go_sem, *]) rfl ?_
          rw [HN.out]
          refine newRd_end (raw := ⟨0, 0, [], none, 0, 0, none, 0, 0⟩) (L := []) (x := .mk 0 0 [] [] []) (r := u) (w' := _) w.heap.size (.int .i64 0) (.int .i64 0) (sv []) (.slice none 0 0) (.slice none 0 0) false ?_ ?_ ?_ ?_ ?_ ?_ ?_ ?_
          · exact owT_flat _ 0 0 []
          · exact List.nodup_nil
          · intro b hb; cases hb
          · exact HB3.out
          · exact Nat.le_refl _
          · simp; omega
          · rfl
          · intro q hq; cases hq
        | some q =>
          obtain ⟨rfl, rfl⟩ := hso q ho
          have HS : Hid (insI (rdI d) false (6 - xs.length) [] xs u = match after 44 q.2 with | some u2 => insI (rdI d) false (5 - xs.length) [] (xs ++ [q.1]) u2 | none => (after 93 q.2).map fun u2 => (.mk 5 0 [] [] (xs ++ [q.1]), u2)) := by show _ = _; rw [hf, insI, show rdName false [] u = some ([], u) from rfl]; simp only []; rw [ho]; rfl
          clear hso hf ho
          obtain ⟨rk, rn, rt, rAn, rln, rcn, rAi, rli, rci⟩ := raw
          go_upto_region 20 with fail
          generalize w2.alloc (.cells (ndCells rk rn rt rAn rln rcn rAi rli rci) 26) = wa at *
          have hzx : w2.heap.size < wa.heap.size := by omega
          have hz0 : w.heap.size + 1 < wa.heap.size := by have := HT3.out.lt; have := HT3.out.le; omega
          have HC4 := Lib.hid z4
          have HX5 : Hid ((wa.alloc (.cells (ndCells rk rn rt rAn rln rcn rAi rli rci) 26)).heap[w2.heap.size + 1]? = some (.cells (ndCells rk rn rt rAn rln rcn rAi rli rci) 26 (0, 0))) := by show _ = _; rw [← hsa]; exact HX4.out
          go_wp2_with (at_builtin; refine app_node_at rfl _ _ rfl (w.heap.size + 2) A1 c1 rs ⟨rk, rn, rt, rAn, rln, rcn, rAi, rli, rci⟩ (by rfl) HT4.out.iown (w2.heap.size + 1) (by rfl) HX5.out ?_ HT4.out.le ?_; (focus omega); intro A6 c6 w6 ho6 hg6 hbk6; obtain ⟨⟨f0, f1, f2, f3, f4⟩, f5, f6, f7, f8, f9⟩ := box_five (HT4.out.boxI hg6))
          have HT7 := Lib.hid (HT4.out.appI ho6 hg6 hbk6 HO4.out HND.out (fun j hj => by have := HR2.out j hj; have := HT.out.le; omega) (.slice A6 (rs.length + 1) c6) (by simp))
          have HB7 := Lib.hid (Below.setCell (HB4.out.trans (grown_to_below hg6 HB4.out.size (fun g e => by have := ownN_row HT4.out.iown g e; omega))) (p := ⟨w.heap.size + 1, 4, none⟩) (Nat.le_succ _) (.slice A6 (rs.length + 1) c6))
          have HY7 : Hid ((w6.setCell ⟨w.heap.size + 1, 4, none⟩ (.slice A6 (rs.length + 1) c6)).heap[w.heap.size]? = some (.cells #[.int .i64 0, .int .i64 0, .string ⟨#[]⟩, .slice none 0 0, .slice none 0 0] 26 (0, 0))) := (Below.heap_setCell _ _ _ _ (by show w.heap.size ≠ w.heap.size + 1; omega)).trans ((hg6.block _ (Nat.lt_of_lt_of_le (Nat.lt_add_of_pos_right (by decide)) HT4.out.le) (fun e => by have := ownN_row HT4.out.iown _ e.symm; omega)).trans HY4.out)
          generalize w6.setCell ⟨w.heap.size + 1, 4, none⟩ (.slice A6 (rs.length + 1) c6) = w7 at *
          clear y0 y1 y2 y3 y4 y5 y6 y7 y8 y9 z0 z1 z2 z3 z4 z5 z6 z7 z8 z9 v0 v1 v2 v3 v4 f0 f1 f2 f3 f4 f5 f6 f7 f8 f9
          have HN7 : Hid (OwT w7 (.mk 5 0 [] [] (xs ++ [q.1])) ⟨5, 0, [], none, 0, 0, A6, rs.length + 1, c6⟩ (bk none 0 0 ++ (bk A6 (rs.length + 1) c6 ++ (L ++ L2)))) := by
            have h9 := HT7.out.node; simp only [List.length_append, List.length_cons, List.length_nil] at h9; exact h9
          have HD7 : Hid ((bk none 0 0 ++ (bk A6 (rs.length + 1) c6 ++ (L ++ L2))).Nodup) := by
            have h9 := HT7.out.nodup; simp only [List.length_append, List.length_cons, List.length_nil] at h9; exact h9
          have HG7 : Hid (∀ j ∈ bk none 0 0 ++ (bk A6 (rs.length + 1) c6 ++ (L ++ L2)), w.heap.size ≤ j ∧ j ≠ w.heap.size) := by
            have h9 := HT7.out.lts; simp only [List.length_append, List.length_cons, List.length_nil] at h9
            intro j hj; have := h9 j hj; omega
          cases hcm : after 44 q.2 with
          | some u2 =>
            have HC2 := Lib.hid (fun w => cut_hit hcm w)
            have HL2 := Lib.hid (after_len hcm)
            have HS2 : Hid (insI (rdI d) false (5 - xs.length) [] (xs ++ [q.1]) u2 = inI (rdI d) false t) := by show _ = _; rw [← HIN.out, HS.out, hcm]
            clear hcm
            go_wp2_with (go_at_call 61; refine (HC2.out _).mono ?_; rintro e w2 ⟨rfl, rfl⟩)
            go_roundw
            case rel => exact ⟨u2, A6, c6, _, xs ++ [q.1], _, rfl, by have := HL2.out; omega, by have := HRL.out; simp; omega, by rw [← HS2.out]; congr 1; (first | omega | (simp; done) | (simp; omega)), HT7.out, HY7.out, HB7.out⟩
            case measure => have := HL2.out; simp [txLen, ByteArray.size]; omega
          | none =>
            have HC2 := Lib.hid (fun w => cut_miss hcm w)
            obtain ⟨⟨y0, y1, y2, y3, y4⟩, y5, y6, y7, y8, y9⟩ := box_five HY7.out
            obtain ⟨⟨z0, z1, z2, z3, z4⟩, z5, z6, z7, z8, z9⟩ := box_five HT7.out.box
            cases hce : after 93 q.2 with
            | some u2 =>
              have HC3 := Lib.hid (fun w => cut_hit hce w)
              have HL2 := Lib.hid (after_len hce)
              have HS2 : Hid (inI (rdI d) false t = some (.mk 5 0 [] [] (xs ++ [q.1]), u2)) := by show _ = _; rw [← HIN.out, HS.out, hcm, hce]; rfl
              clear hcm hce
              go_wp2_with fail
              refine (HC2.out _).mono ?_
              rintro e w3 ⟨rfl, rfl⟩
              go_wp2_with fail
              refine (HC3.out _).mono ?_
              rintro e w3 ⟨rfl, rfl⟩
              go_wp2
              refine bodyPost_ret (v := .tuple #[ndV 5 0 [] none 0 0 A6 (rs.length + 1) c6, sv u2, .bool true]) (by simp [results, Tryd.results63, go_sem, *]) rfl ?_
              rw [HS2.out]
              refine newRd_end (raw := ⟨5, 0, [], none, 0, 0, A6, rs.length + 1, c6⟩) (L := bk none 0 0 ++ (bk A6 (rs.length + 1) c6 ++ (L ++ L2))) (x := .mk 5 0 [] [] (xs ++ [q.1])) (r := u2) (w' := _) w.heap.size (.int .i64 5) (.int .i64 0) (sv []) (.slice none 0 0) (.slice A6 (rs.length + 1) c6) true ?_ ?_ ?_ ?_ ?_ ?_ ?_ ?_
              · exact HN7.out
              · exact HD7.out
              · exact HG7.out
              · exact HB7.out
              · exact Nat.le_refl _
              · have := HL2.out; simp; omega
              · rfl
              · intro q hq; injection hq with hq; subst hq; exact ⟨rfl, rfl⟩
            | none =>
              have HC3 := Lib.hid (fun w => cut_miss hce w)
              have HS2 : Hid (inI (rdI d) false t = none) := by show _ = _; rw [← HIN.out, HS.out, hcm, hce]; rfl
              clear hcm hce
              go_wp2_with fail
              refine (HC2.out _).mono ?_
              rintro e w3 ⟨rfl, rfl⟩
              go_wp2_with fail
              refine (HC3.out _).mono ?_
              rintro e w3 ⟨rfl, rfl⟩
              go_wp2
              refine bodyPost_ret (v := .tuple #[ndV 5 0 [] none 0 0 A6 (rs.length + 1) c6, sv q.2, .bool false]) (by simp [results, Tryd.results63, go_sem, *]) rfl ?_
              rw [HS2.out]
              refine newRd_end (raw := ⟨5, 0, [], none, 0, 0, A6, rs.length + 1, c6⟩) (L := bk none 0 0 ++ (bk A6 (rs.length + 1) c6 ++ (L ++ L2))) (x := .mk 5 0 [] [] (xs ++ [q.1])) (r := q.2) (w' := _) w.heap.size (.int .i64 5) (.int .i64 0) (sv []) (.slice none 0 0) (.slice A6 (rs.length + 1) c6) false ?_ ?_ ?_ ?_ ?_ ?_ ?_ ?_
              · exact HN7.out
              · exact HD7.out
              · exact HG7.out
              · exact HB7.out
              · exact Nat.le_refl _
              · simp; omega
              · rfl
              · intro q hq; cases hq
      · have hq : ((rs.length : Int) ≤ 5) = False := by simp; omega
        have HN : Hid (inI (rdI d) false t = none) := by show _ = _; rw [← HIN.out, show 6 - xs.length = 0 by omega]; rfl
        clear hrl
        go_wp2
        refine bodyPost_ret (v := .tuple #[ndV 0 0 [] none 0 0 none 0 0, sv u, .bool false]) (by simp [results, Tryd.results63, go_sem, *]) rfl ?_
        rw [HN.out]
        refine newRd_end (raw := ⟨0, 0, [], none, 0, 0, none, 0, 0⟩) (L := []) (x := .mk 0 0 [] [] []) (r := u) (w' := _) w.heap.size (.int .i64 0) (.int .i64 0) (sv []) (.slice none 0 0) (.slice none 0 0) false ?_ ?_ ?_ ?_ ?_ ?_ ?_ ?_
        · exact owT_flat _ 0 0 []
        · exact List.nodup_nil
        · intro b hb; cases hb
        · exact HB.out
        · exact Nat.le_refl _
        · simp; omega
        · rfl
        · intro q hq; cases hq
end Go.Proofs.YtdmmnjnbjigdeaaDoor
