/- For every code: the drawn node is written alike by the program and by the reference; one that is not valid is the empty text; what is written of a valid one is read again as that node: the card FnNodeWrittenCardSaid holds. No conditions. -/
import Derived.Test.YtdmmnjnbjigdeaaDoorNodeRP
import Derived.Test.YtdmmnjnbjigdeaaDoorNodeRN
import Derived.Test.YtdmmnjnbjigdeaaDoorNodeWT
import Derived.Test.YtdmmnjnbjigdeaaDoorBase
import Derived.Test.YtdmmnjnbjigdeaaDoorTie
import Derived.Test.YtdmmnjnbjigdeaaDoorCards
import Derived.ProofKit
import Derived.OpenShut
import Derived.LaidMore
import Derived.Lay
import Derived.SevenTiedAt
import Derived.Stop.Joined
import Derived.Test.YtdmmnjnbjigdeaaDoorNodeDraw
import Derived.Test.YtdmmnjnbjigdeaaDoorNodeLawP
import Derived.Test.YtdmmnjnbjigdeaaDoorLower
/- How large a node is that is read: no larger than its text, in plain Lean. No program is walked here. -/
namespace Go.Proofs.YtdmmnjnbjigdeaaDoor
open Go.RowKit

theorem rdT_sz : ∀ (s acc : Tx) (p : Tx × Tx), rdT acc s = some p → p.1.length + p.2.length + 1 ≤ acc.length + s.length
  | [], acc, p, h => by simp [rdT] at h
  | [b], acc, p, h => by
    simp only [rdT] at h
    split at h
    · injection h with h; subst h; simp
    · cases h
  | b :: c :: u, acc, p, h => by
    simp only [rdT] at h
    split at h
    · injection h with h; subst h; simp; omega
    · split at h
      · have := rdT_sz u _ p h; simp at *; omega
      · have := rdT_sz (c :: u) _ p h; simp at *; omega
theorem rdQ_sz {s : Tx} {p : Tx × Tx} (h : rdQ s = some p) : p.1.length + p.2.length + 2 ≤ s.length := by
  cases s with
  | nil => simp [rdQ] at h
  | cons b t =>
    simp only [rdQ] at h
    split at h
    · have := rdT_sz t _ p h; simp at *; omega
    · cases h
theorem after_sz {b : UInt8} {s u : Tx} (h : after b s = some u) : u.length + 1 = s.length := by
  cases s with
  | nil => simp [after] at h
  | cons c t =>
    simp only [after] at h
    split at h
    · injection h with h; subst h; simp
    · cases h
theorem ssz_snoc (ns : List Tx) (x : Tx) : ssize (ns ++ [x]) = ssize ns + x.length := by
  induction ns with
  | nil => simp [ssize]
  | cons a r ih => simp only [List.cons_append, ssize, ih]; omega
theorem szs_snoc (xs : List Nd) (x : Nd) : Nd.sizes (xs ++ [x]) = Nd.sizes xs + Nd.size x := by
  induction xs with
  | nil => simp [Nd.sizes]
  | cons a r ih => simp only [List.cons_append, Nd.sizes, ih]; omega
theorem rdName_sz {rec : Bool} {ns ns' : List Tx} {s s' : Tx} (h : rdName rec ns s = some (ns', s')) : ns'.length + ssize ns' + s'.length ≤ ns.length + ssize ns + s.length := by
  cases rec with
  | false =>
    simp only [rdName] at h
    injection h with h
    injection h with h1 h2
    subst h1; subst h2
    exact Nat.le_refl _
  | true =>
    simp only [rdName, if_true] at h
    split at h
    · cases h
    · next nm r hq =>
      have h1 := rdQ_sz hq
      cases hc : after 58 r with
      | none => rw [hc] at h; cases h
      | some u =>
        rw [hc] at h
        injection h with h
        injection h with h2 h3
        subst h2; subst h3
        have h4 := after_sz hc
        rw [ssz_snoc]
        simp at *
        omega
def PSz (p : Tx → Option (Nd × Tx)) : Prop := ∀ s x r, p s = some (x, r) → Nd.size x + 1 + r.length ≤ s.length
theorem insI_sz {p : Tx → Option (Nd × Tx)} (hp : PSz p) (rec : Bool) : ∀ (f : Nat) (ns : List Tx) (xs : List Nd) (s : Tx) (y : Nd) (r : Tx), insI p rec f ns xs s = some (y, r) → Nd.size y + 1 + r.length ≤ ns.length + ssize ns + xs.length + Nd.sizes xs + s.length
  | 0, ns, xs, s, y, r, h => by simp [insI] at h
  | f + 1, ns, xs, s, y, r, h => by
    rw [insI] at h
    cases h1 : rdName rec ns s with
    | none => rw [h1] at h; cases h
    | some q =>
      obtain ⟨ns', s'⟩ := q
      rw [h1] at h
      simp only at h
      have g1 := rdName_sz h1
      cases h2 : p s' with
      | none => rw [h2] at h; cases h
      | some q2 =>
        obtain ⟨x, r2⟩ := q2
        rw [h2] at h
        simp only at h
        have g2 := hp s' x r2 h2
        cases h3 : after 44 r2 with
        | some u =>
          rw [h3] at h
          simp only at h
          have g3 := after_sz h3
          have := insI_sz hp rec f _ _ _ _ _ h
          rw [szs_snoc] at this
          simp at this
          omega
        | none =>
          rw [h3] at h
          simp only at h
          cases h4 : after (endB rec) r2 with
          | none => rw [h4] at h; cases h
          | some u =>
            rw [h4] at h
            injection h with h
            injection h with h5 h6
            subst h5; subst h6
            have g4 := after_sz h4
            simp only [Nd.size, List.length_append, List.length_cons, List.length_nil, szs_snoc]
            omega
theorem inI_sz {p : Tx → Option (Nd × Tx)} (hp : PSz p) (rec : Bool) {s : Tx} {y : Nd} {r : Tx} (h : inI p rec s = some (y, r)) : Nd.size y + 1 + r.length ≤ s.length := by
  unfold inI at h
  cases h1 : after (endB rec) s with
  | some u =>
    rw [h1] at h
    injection h with h
    injection h with h2 h3
    subst h2; subst h3
    have := after_sz h1
    simp [Nd.size, ssize, Nd.sizes]
    omega
  | none =>
    rw [h1] at h
    have := insI_sz hp rec 6 [] [] s y r h
    simpa [ssize, Nd.sizes] using this
theorem pre_len {s p : Tx} (h : Lib.hasPrefix s p = true) : p.length ≤ s.length := by
  unfold Lib.hasPrefix at h
  rw [List.isPrefixOf_iff_prefix] at h
  exact h.length_le
theorem word_sz {s p : Tx} {x y : Nd} {r : Tx} (m : Nat) (hs : Nd.size x = 0) (hp : 0 < m) (h1 : Lib.hasPrefix s p = true) (hm : m = p.length) (h : some (x, s.drop m) = some (y, r)) : Nd.size y + 1 + r.length ≤ s.length := by
  injection h with h
  injection h with h2 h3
  subst h2; subst h3
  have := pre_len h1
  simp only [List.length_drop]
  omega
theorem zero_size (k n : Int) : Nd.size (.mk k n [] [] []) = 0 := by simp [Nd.size, ssize, Nd.sizes]
theorem rdI_sz : ∀ (d : Nat), PSz (rdI d)
  | 0 => fun s x r h => by simp [rdI] at h
  | d + 1 => fun s x r h => by
    have ih := rdI_sz d
    unfold rdI at h
    split at h
    · next hc => exact word_sz 4 (zero_size _ _) (by decide) hc rfl h
    split at h
    · next hc => exact word_sz 4 (zero_size _ _) (by decide) hc rfl h
    split at h
    · next hc => exact word_sz 5 (zero_size _ _) (by decide) hc rfl h
    cases s with
    | nil => simp at h
    | cons b t =>
      simp only at h
      split at h
      · cases h1 : rdT [] t with
        | none => rw [h1] at h; cases h
        | some q =>
          rw [h1] at h
          injection h with h
          injection h with h2 h3
          subst h2; subst h3
          have := rdT_sz t [] q h1
          simp [Nd.size, ssize, Nd.sizes] at *
          omega
      split at h
      · have := inI_sz ih false h; simp; omega
      split at h
      · have := inI_sz ih true h; simp; omega
      · cases h1 : Lib.atoi ((b :: t).take (numEnd (b :: t))) with
        | none => rw [h1] at h; cases h
        | some n =>
          rw [h1] at h
          injection h with h
          injection h with h2 h3
          subst h2; subst h3
          have hpos : numEnd (b :: t) ≠ 0 := fun e => by
            rw [e] at h1
            revert h1
            simp [Lib.atoi]
          simp only [zero_size, List.length_drop, List.length_cons]
          omega
theorem insS_sz {p : Tx → Option (Nd × Tx)} (hp : PSz p) (rec : Bool) : ∀ (f : Nat) (ns : List Tx) (xs : List Nd) (s : Tx) (y : Nd) (r : Tx), insS p rec f ns xs s = some (y, r) → Nd.size y + 1 + r.length ≤ ns.length + ssize ns + xs.length + Nd.sizes xs + s.length
  | 0, ns, xs, s, y, r, h => by simp [insS] at h
  | f + 1, ns, xs, s, y, r, h => by
    rw [insS] at h
    cases h0 : after (endB rec) s with
    | some u =>
      rw [h0] at h
      injection h with h
      injection h with h5 h6
      subst h5; subst h6
      have g4 := after_sz h0
      simp only [Nd.size, List.length_nil]
      omega
    | none =>
      rw [h0] at h
      simp only at h
      have hs1 : ∀ s1, (if xs.length = 0 then (if s = [] then none else some s) else after 44 s) = some s1 → s1.length ≤ s.length := by
        intro s1 e
        split at e
        · split at e
          · cases e
          · injection e with e; subst e; exact Nat.le_refl _
        · have := after_sz e; omega
      cases hs : (if xs.length = 0 then (if s = [] then none else some s) else after 44 s) with
      | none => rw [hs] at h; cases h
      | some s1 =>
        have g0 := hs1 s1 hs
        rw [hs] at h
        simp only at h
        cases h1 : rdName rec ns s1 with
        | none => rw [h1] at h; cases h
        | some q =>
          obtain ⟨ns', s'⟩ := q
          rw [h1] at h
          simp only at h
          have g1 := rdName_sz h1
          cases h2 : p s' with
          | none => rw [h2] at h; cases h
          | some q2 =>
            obtain ⟨x, r2⟩ := q2
            rw [h2] at h
            simp only at h
            have g2 := hp s' x r2 h2
            split at h
            · cases h
            · have := insS_sz hp rec f _ _ _ _ _ h
              rw [szs_snoc] at this
              simp at this
              omega
theorem dgs_len : ∀ (k : Nat) (s : Tx), dgs k s ≤ s.length
  | 0, s => by simp [dgs]
  | k + 1, [] => by simp [dgs]
  | k + 1, b :: t => by
    simp only [dgs]
    split
    · have := dgs_len k t; simp; omega
    · simp
theorem rdS_sz : ∀ (d : Nat), PSz (rdS d)
  | 0 => fun s x r h => by simp [rdS] at h
  | d + 1 => fun s x r h => by
    have ih := rdS_sz d
    unfold rdS at h
    split at h
    · next hc => exact word_sz 4 (zero_size _ _) (by decide) hc rfl h
    split at h
    · next hc => exact word_sz 5 (zero_size _ _) (by decide) hc rfl h
    split at h
    · next hc => exact word_sz 4 (zero_size _ _) (by decide) hc rfl h
    cases s with
    | nil => simp at h
    | cons b t =>
      simp only at h
      split at h
      · cases h1 : rdT [] t with
        | none => rw [h1] at h; cases h
        | some q =>
          rw [h1] at h
          injection h with h
          injection h with h2 h3
          subst h2; subst h3
          have := rdT_sz t [] q h1
          simp [Nd.size, ssize, Nd.sizes] at *
          omega
      split at h
      · have := insS_sz ih false 7 [] [] t x r h; simp [ssize, Nd.sizes] at *; omega
      split at h
      · have := insS_sz ih true 7 [] [] t x r h; simp [ssize, Nd.sizes] at *; omega
      · cases h1 : numS (b :: t) with
        | none => rw [h1] at h; cases h
        | some q =>
          rw [h1] at h
          injection h with h
          injection h with h2 h3
          subst h2; subst h3
          rw [zero_size]
          simp only [numS] at h1
          split at h1
          · split at h1
            · cases h1
            · injection h1 with h1; subst h1
              simp only [List.length_drop, List.length_cons]; omega
          · split at h1
            · cases h1
            · next h0 =>
              injection h1 with h1; subst h1
              have := dgs_len 6 (b :: t)
              simp only [List.length_drop, List.length_cons] at *; omega
end Go.Proofs.YtdmmnjnbjigdeaaDoor

/- ReadNode of impl: a walk. -/
namespace Go.Proofs.YtdmmnjnbjigdeaaDoor
open Go.RowKit

def zeroNd : Nd := .mk 0 0 [] [] []
/-- a node of the call's own and whether there is one -/
def NewTB (w : World) (o : Option Nd) (e : Ending) (w' : World) : Prop :=
  ∃ (r : Raw) (L : List Nat), e = .returned (.tuple #[r.v, .bool o.isSome]) ∧ OwT w' (o.getD zeroNd) r L ∧ L.Nodup ∧ (∀ b ∈ L, w.heap.size ≤ b) ∧ Below w.heap.size w w'
theorem newTB_none {w w' : World} {o : Option Nd} (b : Nat) (v0 v1 v2 v3 v4 : Value) (hb : Below w.heap.size w w') (hbl : w.heap.size ≤ b) (hs : o = none) :
    NewTB w o (.returned (.tuple #[ndV 0 0 [] none 0 0 none 0 0, .bool false])) (put5 w' b v0 v1 v2 v3 v4) := by
  subst hs
  exact ⟨⟨0, 0, [], none, 0, 0, none, 0, 0⟩, [], rfl, owT_flat _ 0 0 [], List.nodup_nil, fun j hj => (by cases hj), put5_below hb b _ _ _ _ _ hbl⟩
theorem newTB_some {w w' : World} {o : Option Nd} {x : Nd} {raw : Raw} {L : List Nat} (b : Nat) (v0 v1 v2 v3 v4 : Value) (ho : OwT w' x raw L) (hn : L.Nodup) (hL : ∀ j ∈ L, w.heap.size ≤ j ∧ j ≠ b) (hb : Below w.heap.size w w') (hbl : w.heap.size ≤ b) (hs : o = some x) :
    NewTB w o (.returned (.tuple #[raw.v, .bool true])) (put5 w' b v0 v1 v2 v3 v4) := by
  subst hs
  exact ⟨raw, L, rfl, OwT.keep _ _ _ ho (fun j hj => put5_heap _ _ _ _ _ _ _ _ (hL j hj).2), hn, fun j hj => (hL j hj).1, put5_below hb b _ _ _ _ _ hbl⟩
/-- the reader of the program, by its contract -/
theorem rdC : ∀ (d : Nat), d ≤ 11 → RdC d
  | 0, _ => fun s w _ _ _ => impl_readNode0 s w
  | d + 1, h => fun s w hl hE hR => impl_readNode1 d (rdC d (by omega)) (by omega) s w hl hE hR
set_option maxRecDepth 100000 in
set_option maxHeartbeats 4000000 in
theorem impl_ReadNode0 (s : Tx) (w : World) (hl : s.length ≤ 4000000) (hsz : ∀ x r, rdI 4 s = some (x, r) → Nd.size x ≤ 1048576) (hE : Env w) (hR : ErrIs w) : Calls Tryd.prog 20 #[sv s] w (NewTB w (readNode s)) := by
  have hX0 := heap_alloc_new w (.cells #[.int .i64 0, .int .i64 0, .string ⟨#[]⟩, .slice none 0 0, .slice none 0 0] 26)
  have hb := (Below.refl w.heap.size w).alloc (Nat.le_refl _) (.cells #[.int .i64 0, .int .i64 0, .string ⟨#[]⟩, .slice none 0 0, .slice none 0 0] 26)
  have HCALL := Lib.hid (rdC 4 (by decide) s _ (by omega) (hE.below hb) (hR.below hb))
  have HE := Lib.hid (hE.below hb)
  have HX0 := Lib.hid hX0
  have HB0 := Lib.hid hb
  have hs0 : w.heap.size < (w.alloc (.cells #[.int .i64 0, .int .i64 0, .string ⟨#[]⟩, .slice none 0 0, .slice none 0 0] 26)).heap.size := by simp
  have HRN : Hid (readNode s = match rdI 4 s with | none => none | some (x, r) => if r == [] && (Nd.valid x && Nd.wr x == s) then some x else none) := rfl
  have HSZ : Hid (∀ x r, rdI 4 s = some (x, r) → Nd.size x ≤ 1048576) := hsz
  clear hsz
  generalize readNode s = o0 at *
  generalize rdI 4 s = o at *
  clear hX0 hb hE hR
  go_enter Tryd.func20, Tryd.ntmps20
  go_wp2_with fail
  generalize w.alloc (.cells #[.int .i64 0, .int .i64 0, .string ⟨#[]⟩, .slice none 0 0, .slice none 0 0] 26) = w0 at *
  refine HCALL.out.mono ?_
  rintro e w1 ⟨raw, L, x, r, rfl, ho1, hn1, hL1, hb1, hlr, hso⟩
  obtain ⟨rk, rn, rt, rAn, rln, rcn, rAi, rli, rci⟩ := raw
  have HA := Lib.hid ((Below.refl w1.heap.size w1).alloc (Nat.le_refl _) (.cells (ndCells rk rn rt rAn rln rcn rAi rli rci) 26))
  have HX2 := Lib.hid (heap_alloc_new w1 (.cells (ndCells rk rn rt rAn rln rcn rAi rli rci) 26))
  have HO2 := Lib.hid (OwT.keep _ _ _ ho1 (fun b hb => HA.out.block b (OwT.lt _ _ _ ho1 b hb)))
  have HB02 := Lib.hid (hb1.trans (HA.out.mono hb1.size))
  have HB2 := Lib.hid (HB0.out.trans (HB02.out.mono HB0.out.size))
  have HZ2 := Lib.hid (bx_keep HX0.out HB02.out)
  have hz1 : w.heap.size < w1.heap.size := by have := hb1.size; omega
  have HL2 : Hid (∀ j ∈ L, w.heap.size < j ∧ j < w1.heap.size) := fun j hj => ⟨by have := hL1 j hj; omega, OwT.lt _ _ _ ho1 j hj⟩
  have HN1 := Lib.hid hn1
  have HE2 := Lib.hid (HE.out.below HB02.out)
  clear ho1 hn1 hL1 hb1 hlr HCALL
  go_upto_region 2 with fail
  generalize w1.alloc (.cells (ndCells rk rn rt rAn rln rcn rAi rli rci) 26) = w2 at *
  obtain ⟨⟨y0, y1, y2, y3, y4⟩, y5, y6, y7, y8, y9⟩ := box_five HZ2.out
  obtain ⟨⟨z0, z1, z2, z3, z4⟩, -⟩ := box_five HX2.out
  cases o with
  | none =>
    have HN : Hid (o0 = none) := HRN.out
    clear hso HSZ
    go_wp2
    refine bodyPost_ret (v := .tuple #[ndV 0 0 [] none 0 0 none 0 0, .bool false]) (by simp [results, Tryd.results20, go_sem, *]) rfl ?_
    exact newTB_none w.heap.size (.int .i64 0) (.int .i64 0) (sv []) (.slice none 0 0) (.slice none 0 0) (HB2.out) (Nat.le_refl _) HN.out
  | some q =>
    obtain ⟨rfl, rfl⟩ := hso q rfl
    have HR1 : Hid (o0 = if q.2 == [] && (Nd.valid q.1 && Nd.wr q.1 == s) then some q.1 else none) := HRN.out
    have hsz := HSZ.out q.1 q.2 rfl
    clear hso HSZ HRN
    by_cases hr0 : q.2 = []
    case neg =>
      have HN : Hid (o0 = none) := by show _ = _; rw [HR1.out]; simp [hr0]
      have hne : (q.2 == []) = false := by simpa using hr0
      clear hr0 HR1
      go_wp2
      refine bodyPost_ret (v := .tuple #[ndV 0 0 [] none 0 0 none 0 0, .bool false]) (by simp [results, Tryd.results20, go_sem, *]) rfl ?_
      exact newTB_none w.heap.size (.int .i64 0) (.int .i64 0) (sv []) (.slice none 0 0) (.slice none 0 0) (HB2.out) (Nat.le_refl _) HN.out
    have hne : (q.2 == []) = true := by simpa using hr0
    have HRV : Hid (o0 = if Nd.valid q.1 && Nd.wr q.1 == s then some q.1 else none) := by show _ = _; rw [HR1.out, hne]; rfl
    have HV := Lib.hid (impl_NodeValid q.1 _ _ (OwT.inN _ _ _ HO2.out (fun b hb => OwT.lt _ _ _ HO2.out b hb)) hsz)
    have HW := Lib.hid (fun (hv : Nd.valid q.1 = true) w2 (hb : Below _ _ w2) => impl_writeNode q.1 _ w2 ((OwT.inN _ _ _ HO2.out (fun b hb => OwT.lt _ _ _ HO2.out b hb)).now hb) ⟨4, valid_ok hv⟩ hsz (HE2.out.below hb))
    generalize Nd.valid q.1 = vd at *
    generalize Nd.wr q.1 = tx at *
    clear HR1
    rw [hr0]
    clear hr0 hne
    go_wp2_with fail
    refine HV.out.mono ?_
    rintro e w3 ⟨rfl, hb3⟩
    have HB3 := Lib.hid (HB2.out.trans (hb3.mono HB2.out.size))
    have HZ3 := Lib.hid (bx_keep HZ2.out hb3)
    have HX3 := Lib.hid (bx_keep HX2.out hb3)
    have HO3 := Lib.hid (OwT.keep _ _ _ HO2.out (fun b hb => hb3.block b (OwT.lt _ _ _ HO2.out b hb)))
    clear y0 y1 y2 y3 y4 y5 y6 y7 y8 y9 z0 z1 z2 z3 z4
    obtain ⟨⟨y0, y1, y2, y3, y4⟩, y5, y6, y7, y8, y9⟩ := box_five HZ3.out
    obtain ⟨⟨z0, z1, z2, z3, z4⟩, -⟩ := box_five HX3.out
    cases vd with
    | false =>
      have HN : Hid (o0 = none) := HRV.out
      clear hb3
      go_wp2
      refine bodyPost_ret (v := .tuple #[ndV 0 0 [] none 0 0 none 0 0, .bool false]) (by simp [results, Tryd.results20, go_sem, *]) rfl ?_
      exact newTB_none w.heap.size (.int .i64 0) (.int .i64 0) (sv []) (.slice none 0 0) (.slice none 0 0) (HB3.out) (Nat.le_refl _) HN.out
    | true =>
      have HWC := Lib.hid (HW.out rfl w3 hb3)
      have HRT : Hid (o0 = if tx == s then some q.1 else none) := by show _ = _; rw [HRV.out]; rfl
      clear hb3 HW HV HRV
      go_wp2_with fail
      refine HWC.out.mono ?_
      rintro e w4 ⟨rfl, hb4⟩
      have HB4 := Lib.hid (HB3.out.trans (hb4.mono HB3.out.size))
      have HZ4 := Lib.hid (bx_keep HZ3.out hb4)
      have HX4 := Lib.hid (bx_keep HX3.out hb4)
      have HO4 := Lib.hid (OwT.keep _ _ _ HO3.out (fun b hb => hb4.block b (OwT.lt _ _ _ HO3.out b hb)))
      clear y0 y1 y2 y3 y4 y5 y6 y7 y8 y9 z0 z1 z2 z3 z4 hb4
      obtain ⟨⟨y0, y1, y2, y3, y4⟩, y5, y6, y7, y8, y9⟩ := box_five HZ4.out
      obtain ⟨⟨z0, z1, z2, z3, z4⟩, -⟩ := box_five HX4.out
      cases heq : (tx == s)
      · have HN : Hid (o0 = none) := by show _ = _; rw [HRT.out, heq]; rfl
        go_wp2
        refine bodyPost_ret (v := .tuple #[ndV 0 0 [] none 0 0 none 0 0, .bool false]) (by simp [results, Tryd.results20, go_sem, *]) rfl ?_
        exact newTB_none w.heap.size (.int .i64 0) (.int .i64 0) (sv []) (.slice none 0 0) (.slice none 0 0) (HB4.out) (Nat.le_refl _) HN.out
      · have HN : Hid (o0 = some q.1) := by show _ = _; rw [HRT.out, heq]; rfl
        go_wp2
        refine bodyPost_ret (v := .tuple #[ndV rk rn rt rAn rln rcn rAi rli rci, .bool true]) (by simp [results, Tryd.results20, go_sem, *]) rfl ?_
        exact newTB_some (raw := ⟨rk, rn, rt, rAn, rln, rcn, rAi, rli, rci⟩) (L := L) (x := q.1) (w' := w4) w.heap.size (.int .i64 rk) (.int .i64 rn) (sv rt) (.slice rAn rln rcn) (.slice rAi rli rci) HO4.out HN1.out (fun j hj => by have := HL2.out j hj; omega) HB4.out (Nat.le_refl _) HN.out
theorem impl_ReadNode (s : Tx) (w : World) (hl : s.length ≤ 1048577) (hE : Env w) (hR : ErrIs w) : Calls Tryd.prog 20 #[sv s] w (NewTB w (readNode s)) :=
  impl_ReadNode0 s w (by omega) (fun x r h => by have := rdI_sz 4 s x r h; omega) hE hR
/-- a written node is read again -/
theorem impl_ReadNodeW (a : Nd) (w : World) (hv : Nd.valid a = true) (hs : Nd.size a ≤ 90000) (hE : Env w) (hR : ErrIs w) : Calls Tryd.prog 20 #[sv (Nd.wr a)] w (NewTB w (some a)) := by
  have h := impl_ReadNode0 (Nd.wr a) w (by have := Nd.wr_len a 4 (valid_ok hv); omega) (fun x r h => by
    have h2 := rdI_wr a 4 [] (valid_ok hv) noDig_nil
    rw [List.append_nil, h] at h2
    injection h2 with h2
    injection h2 with h2
    subst h2
    omega) hE hR
  rw [show readNode (Nd.wr a) = some a from readI_wr hv] at h
  exact h
end Go.Proofs.YtdmmnjnbjigdeaaDoor

/- What the cards of this seat are closed by. -/
namespace Go.Proofs.YtdmmnjnbjigdeaaDoor
end Go.Proofs.YtdmmnjnbjigdeaaDoor
namespace Go
variable {H : Type} {enc : TypeId × Value → H}
/-- a card's wrap with the world's shape kept for the contract -/
theorem returnsInHanded_of_change_and_shaped {a : Assume} {C : Checked} {os : Os} {f : FuncId} {fn : Func} {s : ChangeSpec} {conds : List PathCond} {apart fresh handsOn again : Bool} {X : World → Array Value → Prop}
    (hX : ∀ (w w' : World) (args : Array Value), w.heap = w'.heap → X w args → X w' args)
    (own : ownKnob C.prog.godebug = none) (started : os.Started) (noInit : C.prog.inits.idxOf? f = none) (hfn : C.prog.funcs[f]? = some fn)
    (witness : ∃ (w : World) (tape : Tape) (i : Input), w.os = os ∧ (w.forCall tape i).Shaped C.prog ∧ i.vars = [] ∧ Input.okWide C.prog (w.forCall tape i) .any w.heap.size f i ∧
      ((s.pre enc C.prog fn conds apart (w.forCall tape i).memory i.args ∧ X (w.forCall tape i).memory i.args) ∧ sizedMet enc C.prog fn (OpenSpec.ofChange s) apart (w.forCall tape i).memory i.args) ∧ a.holds C.prog (lone (Frame.enter C.prog f i.args .normal) [] (w.forCall tape i)))
    (contract : ∀ (W : World) (base : Nat) (args : Array Value) (ds gs : List (DataW H)) (before : List MemPlace),
      (∀ (j : Nat) t v, fn.params[j]? = some t → args[j]? = some v → Value.okWide C.prog W .any base t v) →
      DataW.Whole enc C.prog fn.params.toList s.vars apart W args.toList ds gs before →
      conds.all (PathCond.test C.prog ⟨fn.params.toList, ds, s.plain.varTypes C.prog, gs⟩) = true →
      (DataW.weightsEach C.prog (fn.params.toList ++ s.plain.varTypes C.prog) (ds ++ gs)).all (· ≤ reachBytes) = true → X W args →
      W.ShapedOpen C.prog →
      a.holds C.prog (lone (Frame.enter C.prog f args .normal) [] W) →
      Calls C.prog f args W fun e W' => ∃ v, e = .returned v ∧ s.post enc C.prog fn apart fresh handsOn again W args v W') :
    ReturnsInHanded a C os f .any (fun w args => (s.pre enc C.prog fn conds apart w args ∧ X w args) ∧ sizedMet enc C.prog fn (OpenSpec.ofChange s) apart w args) (s.post enc C.prog fn apart fresh handsOn again) := by
  refine returnsInHanded_of_calls own started noInit witness ?_
  intro w tape i _ hsh _ hok hpre hholds
  obtain ⟨_, _, _, fn', hfn', _, _, _, _, hval⟩ := hok
  have e : fn' = fn := Option.some.inj (hfn'.symm.trans hfn)
  subst e
  obtain ⟨⟨⟨ds, gs, before, hw, hc⟩, hx⟩, hz⟩ := hpre
  have hw' := DataW.Whole.of_heap (w' := w.forCall tape i) (by rfl) hw
  refine (contract (w.forCall tape i) w.heap.size i.args ds gs before hval hw' hc (hz.weights hw) (hX _ _ _ (by rfl) hx) hsh hholds).mono fun e W' ⟨v, he, hp⟩ => ?_
  subst he
  exact ChangeSpec.post_blind hp
end Go

/- Drawn nodes, right ones and wrong ones: walks. -/
namespace Go.Proofs.YtdmmnjnbjigdeaaDoor
open Go.RowKit

theorem inN_const {w : World} {S : Nat → Prop} {k n : Int} {t : Tx} : InN w S (.mk k n t [] []) (ndV k n t none 0 0 none 0 0) := InN.mk (fun h => absurd rfl h) (Nat.le_refl 0) (Nat.le_refl 0) (fun h => absurd rfl h)
theorem Els.nil {w : World} {S : Nat → Prop} : Els w S [] [] := ⟨rfl, fun i r x h => by simp at h⟩
theorem Els.cons {w : World} {S : Nat → Prop} {rs : List Raw} {xs : List Nd} {r : Raw} {x : Nd} (hx : InN w S x r.v) (h : Els w S rs xs) : Els w S (r :: rs) (x :: xs) := by
  refine ⟨by simp [h.1], fun i r2 x2 h1 h2 => ?_⟩
  cases i with
  | zero => simp at h1 h2; subst h1; subst h2; exact hx
  | succ i => exact h.2 i r2 x2 (by simpa using h1) (by simpa using h2)
theorem Els.row {w : World} {S : Nat → Prop} {rs : List Raw} {xs : List Nd} {b : Nat} (h : Els w S rs xs) (hh : w.heap[b]? = some (.cells (rcells rs).toArray 26 (0, 0))) (hb : S b) : RdN w S (some ⟨b, 0, none⟩) xs := fun _ => by
  refine ⟨b, 0, rfl, hb, InNs.of_get fun i hi => ?_⟩
  have hir : i < rs.length := by rw [h.1]; exact hi
  have hr : rs[i]? = some rs[i] := List.getElem?_eq_getElem hir
  have key : ∀ j (hj : j < 5), w.cell? ⟨b, 0 + i * 5 + j, none⟩ = (rs[i]).cs[j]? := fun j hj => by
    rw [cell_of_row w b _ _ _ _ hh, show 0 + i * 5 + j = i * 5 + j by omega, ← rcells_get rs i _ j hr hj]
    simp
  exact ⟨(rs[i]).v, ⟨_, _, _, _, _, rfl, key 0 (by omega), key 1 (by omega), key 2 (by omega), key 3 (by omega), key 4 (by omega)⟩, h.2 i _ _ hr (List.getElem?_eq_getElem hi)⟩
theorem names_row {w : World} {S : Nat → Prop} {ns : List Tx} {b : Nat} (hh : w.heap[b]? = some (.cells (scells ns).toArray 9 (0, 0))) (hb : S b) : RdIn w S (some ⟨b, 0, none⟩) (scells ns) := fun _ =>
  ⟨b, 0, rfl, hb, fun j u hu => by rw [cell_of_row w b _ _ _ _ hh]; simpa using hu⟩
/-- a row of nodes that the region has laid -/
def tRowN (g : Nat) (W0 : World) (M n : Nat) : Ty := fun w v => ∃ (b : Nat) (xs : List Nd), v = .slice (some ⟨b, 0, none⟩) n n ∧ xs.length = n ∧ RdN w (fun j => W0.heap.size ≤ j ∧ j < w.heap.size) (some ⟨b, 0, none⟩) xs ∧ (∀ x ∈ xs, Nd.size x ≤ M) ∧ g < W0.heap.size
theorem keep_kp {g : Nat} {W0 w w' : World} (hk : Kp g w w') (hg : g < W0.heap.size) : (∀ p : Addr, (fun j => W0.heap.size ≤ j ∧ j < w.heap.size) p.block → w'.cell? p = w.cell? p) ∧ ∀ b, (fun j => W0.heap.size ≤ j ∧ j < w.heap.size) b → (fun j => W0.heap.size ≤ j ∧ j < w'.heap.size) b :=
  ⟨fun p hp => World.cell?_of_block (hk.block _ hp.2 (by intro e; injection e; have := hp.1; omega)), fun j hj => ⟨hj.1, Nat.lt_of_lt_of_le hj.2 hk.size⟩⟩
theorem stays_tRowN {g M n : Nat} {W0 : World} : Stays g (tRowN g W0 M n) := fun _ _ _ hk ⟨b, xs, e, hl, h, h2, h3⟩ => ⟨b, xs, e, hl, h.keep (keep_kp hk h3).1 (keep_kp hk h3).2, h2, h3⟩
def tNames (g : Nat) (W0 : World) (ns : List Tx) : Ty := fun w v => ∃ b, v = .slice (some ⟨b, 0, none⟩) ns.length ns.length ∧ RdIn w (fun j => W0.heap.size ≤ j ∧ j < w.heap.size) (some ⟨b, 0, none⟩) (scells ns) ∧ g < W0.heap.size
theorem stays_tNames {g : Nat} {ns : List Tx} {W0 : World} : Stays g (tNames g W0 ns) := fun _ _ _ hk ⟨b, e, h, h3⟩ => ⟨b, e, h.keep (keep_kp hk h3).1 (keep_kp hk h3).2, h3⟩
def tAdrN (g : Nat) (W0 : World) (M : Nat) : Ty := fun w v => ∃ b o x k n t An ln cn Ai li ci, v = .pointer (some ⟨b, o, none⟩) ∧ b ≠ g ∧
  w.cell? ⟨b, o, none⟩ = some (.int .i64 k) ∧ w.cell? ⟨b, o + 1, none⟩ = some (.int .i64 n) ∧ w.cell? ⟨b, o + 2, none⟩ = some (sv t) ∧ w.cell? ⟨b, o + 3, none⟩ = some (.slice An ln cn) ∧ w.cell? ⟨b, o + 4, none⟩ = some (.slice Ai li ci) ∧
  InN w (fun j => W0.heap.size ≤ j ∧ j < w.heap.size) x (ndV k n t An ln cn Ai li ci) ∧ Nd.size x ≤ M ∧ g < W0.heap.size
theorem stays_tAdrN {g M : Nat} {W0 : World} : Stays g (tAdrN g W0 M) := fun _ _ _ hk ⟨b, o, x, k, n, t, An, ln, cn, Ai, li, ci, e, hb, c0, c1, c2, c3, c4, h, h2, h3⟩ =>
  ⟨b, o, x, k, n, t, An, ln, cn, Ai, li, ci, e, hb, kp_cell hk hb c0, kp_cell hk hb c1, kp_cell hk hb c2, kp_cell hk hb c3, kp_cell hk hb c4, inN_kp h hk h3, h2, h3⟩
theorem adrN_of {g M b k : Nat} {W0 w : World} {xs : List Nd} (h : RdN w (fun j => W0.heap.size ≤ j ∧ j < w.heap.size) (some ⟨b, 0, none⟩) xs) (hs : ∀ x ∈ xs, Nd.size x ≤ M) (hk : k < xs.length) (hg : g < W0.heap.size) : tAdrN g W0 M w (.pointer (some ⟨b, k * 5, none⟩)) := by
  obtain ⟨b2, o2, e, hb, kd, n, t, An, ln, cn, Ai, li, ci, hin, c0, c1, c2, c3, c4⟩ := h.at hk
  injection e with e
  injection e with e1 e2
  subst e1
  subst e2
  rw [Nat.zero_add] at c0 c1 c2 c3 c4
  exact ⟨b, k * 5, _, kd, n, t, An, ln, cn, Ai, li, ci, rfl, by have := hb.1; omega, c0, c1, c2, c3, c4, hin, hs _ (List.getElem_mem hk), hg⟩

set_option maxRecDepth 100000 in
set_option maxHeartbeats 8000000 in
theorem spec_l20BentNode (B g q : Nat) (n : Int) (w : World) (h : Rdr w B g q) (hq : q ≤ 10000000) (hn : n ≤ 1000000000) (hn0 : -1000000000 ≤ n) :
    Calls Tryd.prog 26 #[.pointer (some ⟨g, 0, none⟩), .int .i64 n] w (DrawnN w B g q 800000 50000) := by
  have hlt := h.lt
  have H := Lib.hid h
  clear h
  go_enter Tryd.func26, Tryd.ntmps26
  go_wp2_with fail
  refine (spec_l20Node4 B g _ _ (H.out.keep ((Below.refl _ _).alloc (Nat.le_refl _) _)) (by omega)).mono ?_
  rintro e wb ⟨x, k0, n0, t0, A0, l0, c0, B0, m0, d0, rfl, hin1, hs1, hr1, hg1⟩
  have hres1 : wb.heap[w.heap.size]? = some (.cells #[.int .i64 0, .int .i64 0, .string ⟨#[]⟩, .slice none 0 0, .slice none 0 0] 26 (0, 0)) := (hg1.block w.heap.size (by simp) (by intro e; injection e; omega)).trans (heap_alloc_new w _)
  have hw1 : w.heap.size < wb.heap.size := lt_of_block hres1
  have hXB := heap_alloc_new wb (.cells (ndCells k0 n0 t0 A0 l0 c0 B0 m0 d0) 26)
  have HR1 := Lib.hid (hr1.keep ((Below.refl _ _).alloc (Nat.le_refl _) (.cells (ndCells k0 n0 t0 A0 l0 c0 B0 m0 d0) 26)))
  have HG1 := Lib.hid (grown_alloc (grown_trans (World.grownBy_alloc w (.cells #[.int .i64 0, .int .i64 0, .string ⟨#[]⟩, .slice none 0 0, .slice none 0 0] 26) (some g)) hg1) (.cells (ndCells k0 n0 t0 A0 l0 c0 B0 m0 d0) 26))
  have HIN1 : Hid (InN (wb.alloc (.cells (ndCells k0 n0 t0 A0 l0 c0 B0 m0 d0) 26)) (fun j => w.heap.size + 1 ≤ j ∧ j < wb.heap.size) x (ndV k0 n0 t0 A0 l0 c0 B0 m0 d0)) := InN.keep (fun p hp => World.cell?_of_block (heap_alloc_old wb _ hp.2)) (fun j hj => ⟨by have := hj.1; simpa using this, hj.2⟩) _ _ hin1
  have hres2 := (heap_alloc_old wb (.cells (ndCells k0 n0 t0 A0 l0 c0 B0 m0 d0) 26) hw1).trans hres1
  have HXS1 := Lib.hid hs1
  clear hin1 hs1 hr1 hg1 hres1
  go_wp2_with fail
  refine (spec_odd B g _ n _ HR1.out (by omega) hn hn0).mono ?_
  rintro e ws ⟨bo, rfl, hr2, hg2⟩
  have hbne : wb.heap.size ≠ g := by omega
  have hres : ws.heap[w.heap.size]? = some (.cells #[.int .i64 0, .int .i64 0, .string ⟨#[]⟩, .slice none 0 0, .slice none 0 0] 26 (0, 0)) := (hg2.block w.heap.size (by simp; omega) (by intro e; injection e; omega)).trans hres2
  have HBOX := Lib.hid ((hg2.block wb.heap.size (by simp) (by intro e; injection e; omega)).trans hXB)
  have hsz : wb.heap.size < ws.heap.size := lt_of_block HBOX.out
  have HINS : Hid (InN ws (fun j => w.heap.size + 1 ≤ j ∧ j < wb.heap.size) x (ndV k0 n0 t0 A0 l0 c0 B0 m0 d0)) := InN.keep (fun p hp => World.cell?_of_block (hg2.block _ (by have := hp.2; simp; omega) (by intro e; injection e; have := hp.1; omega))) (fun _ h => h) _ _ HIN1.out
  have HR2 := Lib.hid hr2
  have HG2 := Lib.hid (grown_trans HG1.out hg2)
  obtain ⟨⟨r0, r1, r2, r3, r4⟩, r5, r6, r7, r8, r9⟩ := box_five hres
  clear hr2 hg2 hXB hres2
  cases bo
  · obtain ⟨⟨f0, f1, f2, f3, f4⟩, -⟩ := box_five HBOX.out
    obtain ⟨x9, k9, n9, t9, A9, l9, c9, B9, m9, d9, e1, e2, e3, e4, e5, e6, e7, e8, e9, e10⟩ : ∃ x9 k9 n9 t9 A9 l9 c9 B9 m9 d9, x9 = x ∧ k9 = k0 ∧ n9 = n0 ∧ t9 = t0 ∧ A9 = A0 ∧ l9 = l0 ∧ c9 = c0 ∧ B9 = B0 ∧ m9 = m0 ∧ d9 = d0 := ⟨_, _, _, _, _, _, _, _, _, _, rfl, rfl, rfl, rfl, rfl, rfl, rfl, rfl, rfl, rfl⟩
    subst e1 e2 e3 e4 e5 e6 e7 e8 e9 e10
    have HI9 : Hid (InN ws (fun j => w.heap.size + 1 ≤ j ∧ j < ws.heap.size) x9 (ndV k9 n9 t9 A9 l9 c9 B9 m9 d9)) := InN.keep (fun _ _ => rfl) (fun j hj => ⟨hj.1, by have := hj.2; omega⟩) _ _ HINS.out
    have HS9 : Hid (Nd.size x9 ≤ 50000) := Nat.le_trans HXS1.out (by omega)
    have HR9 := HR2
    have HG9 := HG2
    go_wp2
    refine bodyPost_ret (v := ndV k9 n9 t9 A9 l9 c9 B9 m9 d9) (by simp [results, Tryd.results26, go_sem, *]) rfl ?_
    refine ⟨x9, k9, n9, t9, A9, l9, c9, B9, m9, d9, rfl, InN.keep (fun p hp => ?_) (fun j hj => ⟨by have := hj.1; omega, by have := hj.2; simpa [World.setCell] using this⟩) _ _ HI9.out, HS9.out, ?_, ?_⟩
    · have hpn : p.block ≠ w.heap.size := by have := hp.1; omega
      rw [set_cellN hpn, set_cellN hpn, set_cellN hpn, set_cellN hpn, set_cellN hpn]
    · exact (rdr_setN (rdr_setN (rdr_setN (rdr_setN (rdr_setN HR9.out (by omega)) (by omega)) (by omega)) (by omega)) (by omega)).more (by omega)
    · exact grown_set_upN (grown_set_upN (grown_set_upN (grown_set_upN (grown_set_upN HG9.out (by omega)) (by omega)) (by omega)) (by omega)) (by omega)
  · have hgr : g < (w.alloc (.cells #[.int .i64 0, .int .i64 0, .string ⟨#[]⟩, .slice none 0 0, .slice none 0 0] 26)).heap.size := by simp; omega
    have hw0 : (w.alloc (.cells #[.int .i64 0, .int .i64 0, .string ⟨#[]⟩, .slice none 0 0, .slice none 0 0] 26)).heap.size ≤ ws.heap.size := by simp; omega
    have HIN : Hid (InN ws (fun j => (w.alloc (.cells #[.int .i64 0, .int .i64 0, .string ⟨#[]⟩, .slice none 0 0, .slice none 0 0] 26)).heap.size ≤ j ∧ j < ws.heap.size) x (ndV k0 n0 t0 A0 l0 c0 B0 m0 d0)) := InN.keep (fun _ _ => rfl) (fun j hj => ⟨by have := hj.1; simp; omega, by have := hj.2; omega⟩) _ _ HINS.out
    have HXS := HXS1
    have hwz : (w.alloc (.cells #[.int .i64 0, .int .i64 0, .string ⟨#[]⟩, .slice none 0 0, .slice none 0 0] 26)).heap.size = w.heap.size + 1 := by simp
    have hr0 := hres
    generalize w.alloc (.cells #[.int .i64 0, .int .i64 0, .string ⟨#[]⟩, .slice none 0 0, .slice none 0 0] 26) = wa at *
    clear r0 r1 r2 r3 r4 r5 r6 r7 r8 r9
    go_wp2_with fail
    refine wp_region_typed 27 (by kernel_rfl) (by kernel_rfl) (DW ws B g (q + 700010)) (Kp g) (fun i => ([tNd g wa 30000, tNd g wa 30000, tNd g wa 30000, tNd g wa 30000, tNd g wa 30000, tNd g wa 30000, tNames g wa [[97]], tNd g wa 10000, tRowN g wa 10000 1, tNd g wa 30000, tNd g wa 10000, tRowN g wa 10000 1, tNd g wa 30000, tNames g wa [[97], [97]], tNd g wa 10000, tNd g wa 10000, tRowN g wa 10000 2, tNd g wa 30000, tNd g wa 10000, tNd g wa 10000, tRowN g wa 10000 2, tNd g wa 30000, tRowN g wa 30000 10, tIs (.pointer (some ⟨g, 0, none⟩)), tNum 10, tAdrN g wa 30000, tNd g wa 30000] : List Ty).getD i tAny) ?hW ?hkeep ?hstep ?hfin
    case hkeep =>
      refine all_lt_succ (all_lt_succ (all_lt_succ (all_lt_succ (all_lt_succ (all_lt_succ (all_lt_succ (all_lt_succ (all_lt_succ (all_lt_succ (all_lt_succ (all_lt_succ (all_lt_succ (all_lt_succ (all_lt_succ (all_lt_succ (all_lt_succ (all_lt_succ (all_lt_succ (all_lt_succ (all_lt_succ (all_lt_succ (all_lt_succ (all_lt_succ (all_lt_succ (all_lt_succ (all_lt_succ all_lt_zero ?_) ?_) ?_) ?_) ?_) ?_) ?_) ?_) ?_) ?_) ?_) ?_) ?_) ?_) ?_) ?_) ?_) ?_) ?_) ?_) ?_) ?_) ?_) ?_) ?_) ?_) ?_
      · exact stays_tNd
      · exact stays_tNd
      · exact stays_tNd
      · exact stays_tNd
      · exact stays_tNd
      · exact stays_tNd
      · exact stays_tNames
      · exact stays_tNd
      · exact stays_tRowN
      · exact stays_tNd
      · exact stays_tNd
      · exact stays_tRowN
      · exact stays_tNd
      · exact stays_tNames
      · exact stays_tNd
      · exact stays_tNd
      · exact stays_tRowN
      · exact stays_tNd
      · exact stays_tNd
      · exact stays_tNd
      · exact stays_tRowN
      · exact stays_tNd
      · exact stays_tRowN
      · exact stays_is _
      · exact stays_num _
      · exact stays_tAdrN
      · exact stays_tNd
    case hstep =>
      refine all_lt_succ (all_lt_succ (all_lt_succ (all_lt_succ (all_lt_succ (all_lt_succ (all_lt_succ (all_lt_succ (all_lt_succ (all_lt_succ (all_lt_succ (all_lt_succ (all_lt_succ (all_lt_succ (all_lt_succ (all_lt_succ (all_lt_succ (all_lt_succ (all_lt_succ (all_lt_succ (all_lt_succ (all_lt_succ (all_lt_succ (all_lt_succ (all_lt_succ (all_lt_succ (all_lt_succ all_lt_zero ?_) ?_) ?_) ?_) ?_) ?_) ?_) ?_) ?_) ?_) ?_) ?_) ?_) ?_) ?_) ?_) ?_) ?_) ?_) ?_) ?_) ?_) ?_) ?_) ?_) ?_) ?_
      · (intro o ho m a w1 hm hW hb hd K Q hK; obtain rfl := Option.some.inj ho; go_simp; exact hK _ _ hW.same (kp_refl _) ⟨.mk 0 0 [] [] [], 0, 0, [], none, 0, 0, none, 0, 0, rfl, inN_const, by simp [Nd.size, Nd.sizes, ssize], hgr⟩)
      · (intro o ho m a w1 hm hW hb hd K Q hK; obtain rfl := Option.some.inj ho; go_simp; exact hK _ _ hW.same (kp_refl _) ⟨.mk 7 0 [] [] [], 7, 0, [], none, 0, 0, none, 0, 0, rfl, inN_const, by simp [Nd.size, Nd.sizes, ssize], hgr⟩)
      · (intro o ho m a w1 hm hW hb hd K Q hK; obtain rfl := Option.some.inj ho; go_simp; exact hK _ _ hW.same (kp_refl _) ⟨.mk 2 2 [] [] [], 2, 2, [], none, 0, 0, none, 0, 0, rfl, inN_const, by simp [Nd.size, Nd.sizes, ssize], hgr⟩)
      · (intro o ho m a w1 hm hW hb hd K Q hK; obtain rfl := Option.some.inj ho; go_simp; exact hK _ _ hW.same (kp_refl _) ⟨.mk 3 1000000 [] [] [], 3, 1000000, [], none, 0, 0, none, 0, 0, rfl, inN_const, by simp [Nd.size, Nd.sizes, ssize], hgr⟩)
      · (intro o ho m a w1 hm hW hb hd K Q hK; obtain rfl := Option.some.inj ho; go_simp; exact hK _ _ hW.same (kp_refl _) ⟨.mk 4 0 [10] [] [], 4, 0, [10], none, 0, 0, none, 0, 0, rfl, inN_const, by simp [Nd.size, Nd.sizes, ssize], hgr⟩)
      · (intro o ho m a w1 hm hW hb hd K Q hK; obtain rfl := Option.some.inj ho; go_simp; exact hK _ _ hW.same (kp_refl _) ⟨.mk 1 1 [] [] [], 1, 1, [], none, 0, 0, none, 0, 0, rfl, inN_const, by simp [Nd.size, Nd.sizes, ssize], hgr⟩)
      · (intro o ho m a w1 hm hW hb hd K Q hK; obtain rfl := Option.some.inj ho; go_simp; exact hK _ _ (hW.next ((Below.refl _ _).alloc (Nat.le_refl _) _)) (kp_below ((Below.refl _ _).alloc (Nat.le_refl _) _)) ⟨w1.heap.size, rfl, names_row (heap_alloc_new w1 _) ⟨Nat.le_trans hw0 hW.2.size, by simp⟩, hgr⟩)
      · (intro o ho m a w1 hm hW hb hd K Q hK; obtain rfl := Option.some.inj ho; have e0 : a.tmps[5]?.getD undef = .pointer (some ⟨wb.heap.size, 0, none⟩) := (by rw [hb 5 (by decide +kernel)]; simp); have hbl := kp_block hW.2 hbne HBOX.out; obtain ⟨⟨q0, q1, q2, q3, q4⟩, -⟩ := box_five hbl; go_simp; exact hK _ _ hW.same (kp_refl _) ⟨_, _, _, _, _, _, _, _, _, _, rfl, inN_kp HIN.out hW.2 hgr, HXS.out, hgr⟩)
      · (intro o ho m a w1 hm hW hb hd K Q hK; obtain rfl := Option.some.inj ho; obtain ⟨x1, k1, n1, t1, A1, l1, c1, B1, m1, d1, e1, hin1, hs1, hg1⟩ := (hd 7 (by kernel_rfl) 18 rfl); have e1 := slotE e1; go_simp; exact hK _ _ (hW.next ((Below.refl _ _).alloc (Nat.le_refl _) _)) (kp_below ((Below.refl _ _).alloc (Nat.le_refl _) _)) ⟨w1.heap.size, [x1], rfl, rfl, (Els.cons (r := ⟨k1, n1, t1, A1, l1, c1, B1, m1, d1⟩) (inN_kp hin1 (kp_below ((Below.refl _ _).alloc (Nat.le_refl _) _)) hg1) Els.nil).row (heap_alloc_new w1 _) ⟨Nat.le_trans hw0 hW.2.size, by simp⟩, fun y hy => by simp at hy; subst hy; assumption, hgr⟩)
      · (intro o ho m a w1 hm hW hb hd K Q hK; obtain rfl := Option.some.inj ho; obtain ⟨b1, e1, hn1, hg1⟩ := (hd 6 (by kernel_rfl) 17 rfl); have e1 := slotE e1; obtain ⟨b2, xs2, e2, hx2, hr2, hs2, hg2⟩ := (hd 8 (by kernel_rfl) 19 rfl); have e2 := slotE e2; have hsz := sizes_le hs2; rw [hx2] at hsz; go_simp; exact hK _ _ hW.same (kp_refl _) ⟨.mk 5 0 [] [[97]] xs2, 5, 0, [], some ⟨b1, 0, none⟩, _, _, some ⟨b2, 0, none⟩, xs2.length, xs2.length, by simp [hx2], InN.mk hn1 (Nat.le_refl _) (Nat.le_refl _) hr2, by simp only [Nd.size, ssize, List.length_nil, List.length_cons]; omega, hgr⟩)
      · (intro o ho m a w1 hm hW hb hd K Q hK; obtain rfl := Option.some.inj ho; have e0 : a.tmps[5]?.getD undef = .pointer (some ⟨wb.heap.size, 0, none⟩) := (by rw [hb 5 (by decide +kernel)]; simp); have hbl := kp_block hW.2 hbne HBOX.out; obtain ⟨⟨q0, q1, q2, q3, q4⟩, -⟩ := box_five hbl; go_simp; exact hK _ _ hW.same (kp_refl _) ⟨_, _, _, _, _, _, _, _, _, _, rfl, inN_kp HIN.out hW.2 hgr, HXS.out, hgr⟩)
      · (intro o ho m a w1 hm hW hb hd K Q hK; obtain rfl := Option.some.inj ho; obtain ⟨x1, k1, n1, t1, A1, l1, c1, B1, m1, d1, e1, hin1, hs1, hg1⟩ := (hd 10 (by kernel_rfl) 21 rfl); have e1 := slotE e1; go_simp; exact hK _ _ (hW.next ((Below.refl _ _).alloc (Nat.le_refl _) _)) (kp_below ((Below.refl _ _).alloc (Nat.le_refl _) _)) ⟨w1.heap.size, [x1], rfl, rfl, (Els.cons (r := ⟨k1, n1, t1, A1, l1, c1, B1, m1, d1⟩) (inN_kp hin1 (kp_below ((Below.refl _ _).alloc (Nat.le_refl _) _)) hg1) Els.nil).row (heap_alloc_new w1 _) ⟨Nat.le_trans hw0 hW.2.size, by simp⟩, fun y hy => by simp at hy; subst hy; assumption, hgr⟩)
      · (intro o ho m a w1 hm hW hb hd K Q hK; obtain rfl := Option.some.inj ho; obtain ⟨b2, xs2, e2, hx2, hr2, hs2, hg2⟩ := (hd 11 (by kernel_rfl) 22 rfl); have e2 := slotE e2; have hsz := sizes_le hs2; rw [hx2] at hsz; go_simp; exact hK _ _ hW.same (kp_refl _) ⟨.mk 6 0 [] [] xs2, 6, 0, [], none, 0, 0, some ⟨b2, 0, none⟩, xs2.length, xs2.length, by simp [hx2], InN.mk (fun h => absurd rfl h) (Nat.le_refl 0) (Nat.le_refl _) hr2, by simp only [Nd.size, ssize, List.length_nil]; omega, hgr⟩)
      · (intro o ho m a w1 hm hW hb hd K Q hK; obtain rfl := Option.some.inj ho; go_simp; exact hK _ _ (hW.next ((Below.refl _ _).alloc (Nat.le_refl _) _)) (kp_below ((Below.refl _ _).alloc (Nat.le_refl _) _)) ⟨w1.heap.size, rfl, names_row (heap_alloc_new w1 _) ⟨Nat.le_trans hw0 hW.2.size, by simp⟩, hgr⟩)
      · (intro o ho m a w1 hm hW hb hd K Q hK; obtain rfl := Option.some.inj ho; go_simp; exact hK _ _ hW.same (kp_refl _) ⟨.mk 1 0 [] [] [], 1, 0, [], none, 0, 0, none, 0, 0, rfl, inN_const, by simp [Nd.size, Nd.sizes, ssize], hgr⟩)
      · (intro o ho m a w1 hm hW hb hd K Q hK; obtain rfl := Option.some.inj ho; go_simp; exact hK _ _ hW.same (kp_refl _) ⟨.mk 1 0 [] [] [], 1, 0, [], none, 0, 0, none, 0, 0, rfl, inN_const, by simp [Nd.size, Nd.sizes, ssize], hgr⟩)
      · (intro o ho m a w1 hm hW hb hd K Q hK; obtain rfl := Option.some.inj ho; obtain ⟨x1, k1, n1, t1, A1, l1, c1, B1, m1, d1, e1, hin1, hs1, hg1⟩ := (hd 14 (by kernel_rfl) 25 rfl); have e1 := slotE e1; obtain ⟨x2, k2, n2, t2, A2, l2, c2, B2, m2, d2, e2, hin2, hs2, hg2⟩ := (hd 15 (by kernel_rfl) 26 rfl); have e2 := slotE e2; go_simp; exact hK _ _ (hW.next ((Below.refl _ _).alloc (Nat.le_refl _) _)) (kp_below ((Below.refl _ _).alloc (Nat.le_refl _) _)) ⟨w1.heap.size, [x1, x2], rfl, rfl, (Els.cons (r := ⟨k1, n1, t1, A1, l1, c1, B1, m1, d1⟩) (inN_kp hin1 (kp_below ((Below.refl _ _).alloc (Nat.le_refl _) _)) hg1) (Els.cons (r := ⟨k2, n2, t2, A2, l2, c2, B2, m2, d2⟩) (inN_kp hin2 (kp_below ((Below.refl _ _).alloc (Nat.le_refl _) _)) hg2) Els.nil)).row (heap_alloc_new w1 _) ⟨Nat.le_trans hw0 hW.2.size, by simp⟩, fun y hy => by simp at hy; rcases hy with rfl | rfl <;> assumption, hgr⟩)
      · (intro o ho m a w1 hm hW hb hd K Q hK; obtain rfl := Option.some.inj ho; obtain ⟨b1, e1, hn1, hg1⟩ := (hd 13 (by kernel_rfl) 24 rfl); have e1 := slotE e1; obtain ⟨b2, xs2, e2, hx2, hr2, hs2, hg2⟩ := (hd 16 (by kernel_rfl) 27 rfl); have e2 := slotE e2; have hsz := sizes_le hs2; rw [hx2] at hsz; go_simp; exact hK _ _ hW.same (kp_refl _) ⟨.mk 6 0 [] [[97], [97]] xs2, 6, 0, [], some ⟨b1, 0, none⟩, _, _, some ⟨b2, 0, none⟩, xs2.length, xs2.length, by simp [hx2], InN.mk hn1 (Nat.le_refl _) (Nat.le_refl _) hr2, by simp only [Nd.size, ssize, List.length_nil, List.length_cons]; omega, hgr⟩)
      · (intro o ho m a w1 hm hW hb hd K Q hK; obtain rfl := Option.some.inj ho; have e0 : a.tmps[5]?.getD undef = .pointer (some ⟨wb.heap.size, 0, none⟩) := (by rw [hb 5 (by decide +kernel)]; simp); have hbl := kp_block hW.2 hbne HBOX.out; obtain ⟨⟨q0, q1, q2, q3, q4⟩, -⟩ := box_five hbl; go_simp; exact hK _ _ hW.same (kp_refl _) ⟨_, _, _, _, _, _, _, _, _, _, rfl, inN_kp HIN.out hW.2 hgr, HXS.out, hgr⟩)
      · (intro o ho m a w1 hm hW hb hd K Q hK; obtain rfl := Option.some.inj ho; go_simp; exact hK _ _ hW.same (kp_refl _) ⟨.mk 0 0 [] [] [], 0, 0, [], none, 0, 0, none, 0, 0, rfl, inN_const, by simp [Nd.size, Nd.sizes, ssize], hgr⟩)
      · (intro o ho m a w1 hm hW hb hd K Q hK; obtain rfl := Option.some.inj ho; obtain ⟨x1, k1, n1, t1, A1, l1, c1, B1, m1, d1, e1, hin1, hs1, hg1⟩ := (hd 18 (by kernel_rfl) 29 rfl); have e1 := slotE e1; obtain ⟨x2, k2, n2, t2, A2, l2, c2, B2, m2, d2, e2, hin2, hs2, hg2⟩ := (hd 19 (by kernel_rfl) 30 rfl); have e2 := slotE e2; go_simp; exact hK _ _ (hW.next ((Below.refl _ _).alloc (Nat.le_refl _) _)) (kp_below ((Below.refl _ _).alloc (Nat.le_refl _) _)) ⟨w1.heap.size, [x1, x2], rfl, rfl, (Els.cons (r := ⟨k1, n1, t1, A1, l1, c1, B1, m1, d1⟩) (inN_kp hin1 (kp_below ((Below.refl _ _).alloc (Nat.le_refl _) _)) hg1) (Els.cons (r := ⟨k2, n2, t2, A2, l2, c2, B2, m2, d2⟩) (inN_kp hin2 (kp_below ((Below.refl _ _).alloc (Nat.le_refl _) _)) hg2) Els.nil)).row (heap_alloc_new w1 _) ⟨Nat.le_trans hw0 hW.2.size, by simp⟩, fun y hy => by simp at hy; rcases hy with rfl | rfl <;> assumption, hgr⟩)
      · (intro o ho m a w1 hm hW hb hd K Q hK; obtain rfl := Option.some.inj ho; obtain ⟨b2, xs2, e2, hx2, hr2, hs2, hg2⟩ := (hd 20 (by kernel_rfl) 31 rfl); have e2 := slotE e2; have hsz := sizes_le hs2; rw [hx2] at hsz; go_simp; exact hK _ _ hW.same (kp_refl _) ⟨.mk 5 0 [] [] xs2, 5, 0, [], none, 0, 0, some ⟨b2, 0, none⟩, xs2.length, xs2.length, by simp [hx2], InN.mk (fun h => absurd rfl h) (Nat.le_refl 0) (Nat.le_refl _) hr2, by simp only [Nd.size, ssize, List.length_nil]; omega, hgr⟩)
      · (intro o ho m a w1 hm hW hb hd K Q hK; obtain rfl := Option.some.inj ho; obtain ⟨x1, k1, n1, t1, A1, l1, c1, B1, m1, d1, e1, hin1, hs1, hg1⟩ := (hd 0 (by kernel_rfl) 11 rfl); have e1 := slotE e1; obtain ⟨x2, k2, n2, t2, A2, l2, c2, B2, m2, d2, e2, hin2, hs2, hg2⟩ := (hd 1 (by kernel_rfl) 12 rfl); have e2 := slotE e2; obtain ⟨x3, k3, n3, t3, A3, l3, c3, B3, m3, d3, e3, hin3, hs3, hg3⟩ := (hd 2 (by kernel_rfl) 13 rfl); have e3 := slotE e3; obtain ⟨x4, k4, n4, t4, A4, l4, c4, B4, m4, d4, e4, hin4, hs4, hg4⟩ := (hd 3 (by kernel_rfl) 14 rfl); have e4 := slotE e4; obtain ⟨x5, k5, n5, t5, A5, l5, c5, B5, m5, d5, e5, hin5, hs5, hg5⟩ := (hd 4 (by kernel_rfl) 15 rfl); have e5 := slotE e5; obtain ⟨x6, k6, n6, t6, A6, l6, c6, B6, m6, d6, e6, hin6, hs6, hg6⟩ := (hd 5 (by kernel_rfl) 16 rfl); have e6 := slotE e6; obtain ⟨x7, k7, n7, t7, A7, l7, c7, B7, m7, d7, e7, hin7, hs7, hg7⟩ := (hd 9 (by kernel_rfl) 20 rfl); have e7 := slotE e7; obtain ⟨x8, k8, n8, t8, A8, l8, c8, B8, m8, d8, e8, hin8, hs8, hg8⟩ := (hd 12 (by kernel_rfl) 23 rfl); have e8 := slotE e8; obtain ⟨x9, k9, n9, t9, A9, l9, c9, B9, m9, d9, e9, hin9, hs9, hg9⟩ := (hd 17 (by kernel_rfl) 28 rfl); have e9 := slotE e9; obtain ⟨x10, k10, n10, t10, A10, l10, c10, B10, m10, d10, e10, hin10, hs10, hg10⟩ := (hd 21 (by kernel_rfl) 32 rfl); have e10 := slotE e10; go_simp; exact hK _ _ (hW.next ((Below.refl _ _).alloc (Nat.le_refl _) _)) (kp_below ((Below.refl _ _).alloc (Nat.le_refl _) _)) ⟨w1.heap.size, [x1, x2, x3, x4, x5, x6, x7, x8, x9, x10], rfl, rfl, (Els.cons (r := ⟨k1, n1, t1, A1, l1, c1, B1, m1, d1⟩) (inN_kp hin1 (kp_below ((Below.refl _ _).alloc (Nat.le_refl _) _)) hg1) (Els.cons (r := ⟨k2, n2, t2, A2, l2, c2, B2, m2, d2⟩) (inN_kp hin2 (kp_below ((Below.refl _ _).alloc (Nat.le_refl _) _)) hg2) (Els.cons (r := ⟨k3, n3, t3, A3, l3, c3, B3, m3, d3⟩) (inN_kp hin3 (kp_below ((Below.refl _ _).alloc (Nat.le_refl _) _)) hg3) (Els.cons (r := ⟨k4, n4, t4, A4, l4, c4, B4, m4, d4⟩) (inN_kp hin4 (kp_below ((Below.refl _ _).alloc (Nat.le_refl _) _)) hg4) (Els.cons (r := ⟨k5, n5, t5, A5, l5, c5, B5, m5, d5⟩) (inN_kp hin5 (kp_below ((Below.refl _ _).alloc (Nat.le_refl _) _)) hg5) (Els.cons (r := ⟨k6, n6, t6, A6, l6, c6, B6, m6, d6⟩) (inN_kp hin6 (kp_below ((Below.refl _ _).alloc (Nat.le_refl _) _)) hg6) (Els.cons (r := ⟨k7, n7, t7, A7, l7, c7, B7, m7, d7⟩) (inN_kp hin7 (kp_below ((Below.refl _ _).alloc (Nat.le_refl _) _)) hg7) (Els.cons (r := ⟨k8, n8, t8, A8, l8, c8, B8, m8, d8⟩) (inN_kp hin8 (kp_below ((Below.refl _ _).alloc (Nat.le_refl _) _)) hg8) (Els.cons (r := ⟨k9, n9, t9, A9, l9, c9, B9, m9, d9⟩) (inN_kp hin9 (kp_below ((Below.refl _ _).alloc (Nat.le_refl _) _)) hg9) (Els.cons (r := ⟨k10, n10, t10, A10, l10, c10, B10, m10, d10⟩) (inN_kp hin10 (kp_below ((Below.refl _ _).alloc (Nat.le_refl _) _)) hg10) Els.nil)))))))))).row (heap_alloc_new w1 _) ⟨Nat.le_trans hw0 hW.2.size, by simp⟩, fun y hy => by simp at hy; rcases hy with rfl | rfl | rfl | rfl | rfl | rfl | rfl | rfl | rfl | rfl <;> assumption, hgr⟩)
      · (intro o ho m a w1 hm hW hb hd K Q hK; obtain rfl := Option.some.inj ho; have e0 : a.tmps[0]?.getD undef = (.pointer (some ⟨g, 0, none⟩)) := (by rw [hb 0 (by decide +kernel)]; simp); go_simp; exact hK _ _ hW.same (kp_refl _) rfl)
      · (intro o ho m a w1 hm hW hb hd K Q hK; obtain rfl := Option.some.inj ho; have e1 := slotE (hd 23 (by kernel_rfl) 34 rfl); go_simp; refine (spec_pick _ _ _ _ w1 hW.1 (by omega) (by omega) (by omega)).mono ?_; rintro e w2 ⟨k, rfl, hk, hr2, hg2⟩; exact hK _ _ ⟨hr2.more (by omega), grown_trans hW.2 hg2⟩ hg2 ⟨k, rfl, hk⟩)
      · (intro o ho m a w1 hm hW hb hd K Q hK; obtain rfl := Option.some.inj ho; obtain ⟨b, xs2, e1, hx2, hr2, hs2, hg2⟩ := (hd 22 (by kernel_rfl) 33 rfl); obtain ⟨k, e2, hk⟩ := (hd 24 (by kernel_rfl) 35 rfl); have e1 := slotE e1; have e2 := slotE e2; have hk2 := num_lt hk (by omega); go_simp; exact hK _ _ hW.same (kp_refl _) (adrN_of hr2 hs2 (by omega) hg2))
      · (intro o ho m a w1 hm hW hb hd K Q hK; obtain rfl := Option.some.inj ho; obtain ⟨b, o, x9, k9, n9, t9, A9, l9, c9, B9, m9, d9, e1, hbg, q0, q1, q2, q3, q4, hin9, hs9, hg9⟩ := (hd 25 (by kernel_rfl) 36 rfl); have e1 := slotE e1; go_simp; exact hK _ _ hW.same (kp_refl _) ⟨x9, k9, n9, t9, A9, l9, c9, B9, m9, d9, rfl, hin9, hs9, hg9⟩)
    case hW => exact ⟨(HR2.out.keep (Below.refl _ _).drew).more (by omega), grown_drew (grown_refl _ _)⟩
    case hfin =>
      intro vs w3 hW hF
      simp only [putAll, hdst, List.getElem?_cons_succ, List.getElem?_cons_zero, Option.bind, List.drop_succ_cons, List.drop_zero, Act.put]
      obtain ⟨x9, k9, n9, t9, A9, l9, c9, B9, m9, d9, h26, hin9, hs9, hg9⟩ := hF 26 (by omega)
      rw [h26]
      obtain ⟨hr3, hg3⟩ := hW
      have HR9 := Lib.hid hr3
      have HG9 := Lib.hid (grown_trans HG2.out hg3)
      have HI9 : Hid (InN w3 (fun j => w.heap.size + 1 ≤ j ∧ j < w3.heap.size) x9 (ndV k9 n9 t9 A9 l9 c9 B9 m9 d9)) := by rw [hwz] at hin9; exact hin9
      have HS9 : Hid (Nd.size x9 ≤ 50000) := Nat.le_trans hs9 (by omega)
      have hres3 := (hg3.block w.heap.size (lt_of_block hr0) (by intro e; injection e; omega)).trans hr0
      obtain ⟨⟨r0, r1, r2, r3, r4⟩, r5, r6, r7, r8, r9⟩ := box_five hres3
      clear hF h26 hr3 hg3 hin9 hs9
      go_simp
      go_wp2
      refine bodyPost_ret (v := ndV k9 n9 t9 A9 l9 c9 B9 m9 d9) (by simp [results, Tryd.results26, go_sem, *]) rfl ?_
      refine ⟨x9, k9, n9, t9, A9, l9, c9, B9, m9, d9, rfl, InN.keep (fun p hp => ?_) (fun j hj => ⟨by have := hj.1; omega, by have := hj.2; simpa [World.setCell] using this⟩) _ _ HI9.out, HS9.out, ?_, ?_⟩
      · have hpn : p.block ≠ w.heap.size := by have := hp.1; omega
        rw [set_cellN hpn, set_cellN hpn, set_cellN hpn, set_cellN hpn, set_cellN hpn]
      · exact (rdr_setN (rdr_setN (rdr_setN (rdr_setN (rdr_setN HR9.out (by omega)) (by omega)) (by omega)) (by omega)) (by omega)).more (by omega)
      · exact grown_set_upN (grown_set_upN (grown_set_upN (grown_set_upN (grown_set_upN HG9.out (by omega)) (by omega)) (by omega)) (by omega)) (by omega)
end Go.Proofs.YtdmmnjnbjigdeaaDoor

/- Nodes drawn for the laws: walks. -/
namespace Go.Proofs.YtdmmnjnbjigdeaaDoor
open Go.RowKit

/-- the call drew a node of its own -/
def DrewN (w : World) (e : Ending) (w' : World) : Prop :=
  ∃ x k n t An ln cn Ai li ci, e = .returned (ndV k n t An ln cn Ai li ci) ∧ InN w' (Fresh w w') x (ndV k n t An ln cn Ai li ci) ∧ Nd.size x ≤ 50000 ∧ Below w.heap.size w w'
set_option maxRecDepth 100000 in
set_option maxHeartbeats 800000 in
theorem spec_DrawNodeWritten (bs : Tx) (A : Option Addr) (c : Nat) (w : World) (hr : Rd w w.heap.size A (bcells bs)) (hc : bs.length ≤ c) (hm : bs.length ≤ 1048576) :
    Calls Tryd.prog 18 #[.slice A bs.length c] w (DrewN w) := by
  go_enter Tryd.func18, Tryd.ntmps18
  have HA := Lib.hid ((Below.refl w.heap.size w).alloc (Nat.le_refl _) (.cells #[.int .i64 0, .int .i64 0, .string ⟨#[]⟩, .slice none 0 0, .slice none 0 0] 26))
  have HR := Lib.hid (hr.below HA.out)
  have HZ0 := Lib.hid (heap_alloc_new w (.cells #[.int .i64 0, .int .i64 0, .string ⟨#[]⟩, .slice none 0 0, .slice none 0 0] 26))
  clear hr
  go_wp2_with fail
  refine (spec_l20Open bs w.heap.size A c _ HR.out HA.out.size hc hm).mono ?_
  rintro e w1 ⟨rfl, hr1, hb1⟩
  have HR1 : Hid (Rdr w1 w.heap.size (w.heap.size + 1) 0) := by show Rdr _ _ _ _; simpa using hr1
  have HB1 := Lib.hid (HA.out.trans (hb1.mono HA.out.size))
  have HZ1 := Lib.hid ((hb1.block w.heap.size (by simp)).trans HZ0.out)
  have hl1 := hr1.lt
  have hs1 : w.heap.size < w1.heap.size := by have := HB1.out.size; simp at hl1; omega
  clear hr1 hb1
  go_wp2_with fail
  refine (spec_l20BentNode w.heap.size (w.heap.size + 1) 0 _ _ HR1.out (by omega) (by omega) (by omega)).mono ?_
  rintro e w2 ⟨x, k, n, t, An, ln, cn, Ai, li, ci, rfl, hin2, hz2, hr2, hg2⟩
  have HI2 := Lib.hid hin2
  have HB2 : Hid (Below w.heap.size w w2) := HB1.out.trans (grown_to_below hg2 (by omega) (fun g h => by injection h with h; omega))
  have HS2 := Lib.hid hz2
  obtain ⟨⟨f0, f1, f2, f3, f4⟩, f5, f6, f7, f8, f9⟩ := box_five ((hg2.block w.heap.size hs1 (by simp)).trans HZ1.out)
  clear hin2 hz2 hr2 hg2
  go_wp2
  refine bodyPost_ret (v := ndV k n t An ln cn Ai li ci) (by simp [results, Tryd.results18, go_sem, *]) rfl ?_
  refine ⟨x, k, n, t, An, ln, cn, Ai, li, ci, rfl, InN.keep (fun p hp => ?_) (fun j hj => ⟨by have := hj.1; omega, by have := hj.2; simpa [World.setCell] using this⟩) _ _ HI2.out, HS2.out, ?_⟩
  · have hpn : p.block ≠ w.heap.size := by have := hp.1; omega
    rw [set_cellN hpn, set_cellN hpn, set_cellN hpn, set_cellN hpn, set_cellN hpn]
  · exact Below.setCell (Below.setCell (Below.setCell (Below.setCell (Below.setCell HB2.out (Nat.le_refl _) _) (Nat.le_refl _) _) (Nat.le_refl _) _) (Nat.le_refl _) _) (Nat.le_refl _) _
end Go.Proofs.YtdmmnjnbjigdeaaDoor

namespace Go.Proofs.YtdmmnjnbjigdeaaDoor
open Go.RowKit Go.ChangeShapes Go.WideShapes Go.ChangeAt Go.Joins
set_option maxRecDepth 100000 in
set_option maxHeartbeats 8000000 in
theorem nodeWritten_walk (bs : Tx) (A : Option Addr) (c : Nat) (w : World) (hr : Rd w w.heap.size A (bcells bs)) (hc : bs.length ≤ c) (hm : bs.length ≤ maxLen) (henv : Env w) (herr : ErrIs w) :
    Calls Tryd.prog 5 #[.slice A bs.length c] w fun e w' => e = .returned (.bool true) ∧ Below w.heap.size w w' := by
  unfold maxLen at hm
  by_cases h : 1048576 < bs.length
  · go_enter Tryd.func5, Tryd.ntmps5
    go_wp2
    go_ret
    exact ⟨rfl, Below.refl _ _⟩
  have HD := Lib.hid (spec_DrawNodeWritten bs A c w hr hc (by omega))
  have HENV := Lib.hid henv
  have HERR := Lib.hid herr
  clear hr henv herr
  go_enter Tryd.func5, Tryd.ntmps5
  go_wp2_with fail
  refine HD.out.mono ?_
  rintro e wp ⟨a, k, n, t, An, ln, cn, Ai, li, ci, rfl, hin1, hs1, hb1⟩
  have HA0 := Lib.hid ((Below.refl wp.heap.size wp).alloc (Nat.le_refl _) (.cells (ndCells k n t An ln cn Ai li ci) 26))
  have HX0 := Lib.hid (heap_alloc_new wp (.cells (ndCells k n t An ln cn Ai li ci) 26))
  have HU0 := Lib.hid (hin1.all.now HA0.out)
  have HB0 := Lib.hid (hb1.trans (HA0.out.mono hb1.size))
  have hz0 : wp.heap.size < (wp.alloc (.cells (ndCells k n t An ln cn Ai li ci) 26)).heap.size := by simp
  have hsa : Nd.size a ≤ 1048576 := by omega
  have hfa := Nd.fit_size a hsa
  have HIW := Lib.hid (fun w3 (hb : Below _ _ w3) => impl_NodeWritten a _ w3 (HU0.out.now hb) hsa ((HENV.out.below HB0.out).below hb))
  have HSW := Lib.hid (fun w3 (hb : Below _ _ w3) => spec_NodeWritten a _ w3 (HU0.out.now hb) hsa ((HENV.out.below HB0.out).below hb))
  have HSV := Lib.hid (fun w3 (hb : Below _ _ w3) => spec_NodeValid a _ w3 (HU0.out.now hb) hsa)
  have HRD := Lib.hid (fun (hv : Nd.valid a = true) w3 (hb : Below _ _ w3) => impl_ReadNodeW a w3 hv (by omega) ((HENV.out.below HB0.out).below hb) ((HERR.out.below HB0.out).below hb))
  have HSM := Lib.hid (fun v w3 (hb : Below _ _ w3) (hv : InN w3 (All w3) a v) => impl_SameNode a a v _ w3 hv (HU0.out.now hb) hfa hfa)
  rw [Nd.same_self] at HSM
  have HN : Hid (nodeWritten a = if Nd.valid a then Nd.wr a else []) := rfl
  have HIW0 := Lib.hid (HIW.out _ (Below.refl _ _))
  generalize hnw : nodeWritten a = ta at *
  generalize hvd : Nd.valid a = vd at *
  clear hin1 hs1 hb1 hfa HD hvd hnw
  go_upto_region 4 with fail
  generalize wp.alloc (.cells (ndCells k n t An ln cn Ai li ci) 26) = w0 at *
  obtain ⟨⟨e0, e1, e2, e3, e4⟩, -⟩ := box_five HX0.out
  go_wp2_with fail
  refine HIW0.out.mono ?_
  rintro e w2 ⟨rfl, hb⟩
  have HC2 := Lib.hid hb
  obtain ⟨⟨f0, f1, f2, f3, f4⟩, -⟩ := box_five (bx_keep HX0.out hb)
  clear hb HIW0 e0 e1 e2 e3 e4
  go_wp2_with fail
  refine (HSW.out w2 HC2.out).mono ?_
  rintro e w3 ⟨rfl, hb⟩
  have HC3 := Lib.hid (HC2.out.trans (hb.mono HC2.out.size))
  obtain ⟨⟨p0, p1, p2, p3, p4⟩, -⟩ := box_five (bx_keep HX0.out HC3.out)
  have htt : (ta != ta) = false := by simp
  clear hb f0 f1 f2 f3 f4
  go_wp2_with fail
  refine (HSV.out w3 HC3.out).mono ?_
  rintro e w4 ⟨rfl, hb⟩
  have HC4 := Lib.hid (HC3.out.trans (hb.mono HC3.out.size))
  have HB4 := Lib.hid (HB0.out.trans (HC4.out.mono HB0.out.size))
  obtain ⟨⟨f0, f1, f2, f3, f4⟩, -⟩ := box_five (bx_keep HX0.out HC4.out)
  clear hb p0 p1 p2 p3 p4
  cases vd with
  | false =>
    have ht : ta = [] := HN.out
    subst ht
    go_wp2_with fail
    refine (laws_alive _).mono ?_
    rintro e w5 ⟨rfl, hb⟩
    have HB5 := Lib.hid (HB4.out.trans (hb.mono HB4.out.size))
    clear hb
    go_wp2
    go_ret
    exact ⟨rfl, HB5.out⟩
  | true =>
    have ht : ta = Nd.wr a := HN.out
    subst ht
    have HRC := Lib.hid (HRD.out rfl w4 HC4.out)
    generalize Nd.wr a = ta at *
    go_wp2_with fail
    refine HRC.out.mono ?_
    rintro e w5 ⟨⟨k5, n5, t5, A5, l5, c5, B5, m5, d5⟩, L5, rfl, ho5, _, _, hb⟩
    have HA5 := Lib.hid ((Below.refl w5.heap.size w5).alloc (Nat.le_refl _) (.cells (ndCells k5 n5 t5 A5 l5 c5 B5 m5 d5) 26))
    have HB45 := Lib.hid (hb.trans (HA5.out.mono hb.size))
    have HC5 := Lib.hid (HC4.out.trans (HB45.out.mono HC4.out.size))
    have HB5 := Lib.hid (HB4.out.trans (HB45.out.mono HB4.out.size))
    have HP5 := Lib.hid (heap_alloc_new w5 (.cells (ndCells k5 n5 t5 A5 l5 c5 B5 m5 d5) 26))
    have HI5 := Lib.hid (InN.now (OwT.inN _ _ _ ho5 (fun b hb => OwT.lt _ _ _ ho5 b hb)) HA5.out)
    have HSC := Lib.hid (HSM.out _ _ HC5.out HI5.out)
    obtain ⟨⟨p0, p1, p2, p3, p4⟩, -⟩ := box_five HP5.out
    obtain ⟨⟨q0, q1, q2, q3, q4⟩, -⟩ := box_five (bx_keep HX0.out HC5.out)
    clear hb ho5 f0 f1 f2 f3 f4
    go_upto_region 10 with fail
    generalize w5.alloc (.cells (ndCells k5 n5 t5 A5 l5 c5 B5 m5 d5) 26) = w6 at *
    go_wp2_with fail
    refine HSC.out.mono ?_
    rintro e w7 ⟨rfl, hb⟩
    have HB7 := Lib.hid (HB5.out.trans (hb.mono HB5.out.size))
    clear hb
    go_wp2
    go_ret
    exact ⟨rfl, HB7.out⟩

set_option maxRecDepth 100000 in
theorem fnNodeWritten_lifted (os : Os) (started : os.Started) (H : Type) (enc : TypeId × Value → H) :
    ReturnsInHanded {} Tryd.checked os 5 .any (fun w args => (Rows.fnNodeWrittenSpec.pre enc Tryd.prog Tryd.f5 Rows.fnNodeWrittenRow.domain false w args ∧ laidMetH Tryd.prog Rows.fnNodeWrittenRow.laid w) ∧ sizedMet enc Tryd.prog Tryd.f5 (OpenSpec.ofChange Rows.fnNodeWrittenSpec) false w args)
      (Rows.fnNodeWrittenSpec.post enc Tryd.prog Tryd.f5 false true false false) := by
  refine returnsInHanded_of_change_and_shaped (C := Tryd.checked) (X := fun w _ => laidMetH Tryd.prog Rows.fnNodeWrittenRow.laid w) (fun _ _ _ hh h => h.of_heap hh) Tryd.own started (by kernel_rfl) Tryd.func5
    (ChangeSpec.witness_shaped (enc := enc) (C := Tryd.checked) (os := os) (X := fun w _ => laidMetH Tryd.prog Rows.fnNodeWrittenRow.laid w) false (World.laidAll Tryd.prog os Rows.fnNodeWrittenRow.laid) #[.slice none 0 0] 8 (World.laidAll_os _ _ _)
      (World.shaped_of_ZipB (by kernel_rfl) (by kernel_rfl)) (by kernel_rfl) (by kernel_rfl) (by kernel_rfl)
      (by rw [MakeChecks.laidMetH_plain _ _ _ (by kernel_rfl)]; exact laidMet_laidAll _ (by kernel_rfl) (by kernel_rfl))) ?_
  intro W base args ds gs before hval0 hW _ _ hlaid hsh _
  have hval : ∀ (j : Nat) t v, Tryd.f5.params[j]? = some t → args[j]? = some v → Value.okWide Tryd.prog W .any base t v := hval0
  have hW' := hW
  obtain ⟨p, q, hA0, hV, rfl, _, _⟩ := hW
  have hA : DataW.TrodAll enc Tryd.prog W 0 (fun _ => true) true Tryd.f5.params.toList args.toList ds p := hA0
  rw [Tryd.params5] at hA hval
  obtain ⟨v0, d0, rfl, rfl, h0⟩ := trodAll_one hA
  obtain ⟨rfl, rfl⟩ := trodVars_none hV
  obtain ⟨A, c, bs, rfl, hr, hlc, hcm⟩ := open_bytes Tryd.underlying22 Tryd.underlying5 (by kernel_rfl) (hval 0 _ v0 rfl rfl) h0
  have hlaid2 : laidMetH Tryd.prog Rows.fnNodeWrittenRow.laid W := hlaid
  rw [MakeChecks.laidMetH_plain _ _ _ (by kernel_rfl)] at hlaid2
  have henv : Env W := env_of hsh hlaid2 (List.mem_of_getElem? (i := 2) (by kernel_rfl))
  have herr : ErrIs W := errIs_of_mem (nm := "*errors.errorString") (d := .ptr (.agg [.lit (.string [105, 110, 118, 97, 108, 105, 100, 32, 115, 121, 110, 116, 97, 120])])) (t := 78) (by kernel_rfl) Tryd.underlying78 hlaid2 (List.mem_of_getElem? (i := 5) (by kernel_rfl))
  refine (nodeWritten_walk bs A c W hr hlc (Nat.le_trans hlc hcm) henv herr).mono fun e W' ⟨he, hw⟩ => ?_
  subst he
  exact ⟨_, rfl, law_post hW' rfl rfl (by kernel_rfl) Tryd.underlying4 Tryd.laidOut (of_decide_eq_true (by kernel_rfl)) hw⟩

theorem fnNodeWritten_holds : Rows.FnNodeWrittenSaid :=
  OpenClaim.holds_of_wide 5 Tryd.f5 rfl rfl rfl rfl rfl rfl rfl ⟨rfl, rfl, rfl, rfl, rfl⟩ rfl rfl rfl rfl rfl (by kernel_rfl) Tryd.func5 (by kernel_rfl)
    (of_decide_eq_true (by kernel_rfl)) (by unfold Func.isWrapper; first | (rw [if_pos (by decide +kernel)]; kernel_rfl) | (rw [if_neg (by decide +kernel)]; exact ⟨rfl, rfl⟩))
    (fun os started H enc _ => fnNodeWritten_lifted os started H enc)

theorem fnNodeWritten_cardHolds : Rows.FnNodeWrittenCardSaid :=
  Claim7.holds_tied_plain_at .later [] _ true _ true fnNodeWritten_holds (fun _ h => by cases h) (by kernel_rfl) (fun _ h => by cases h) fnNodeWritten_row_tie rfl ⟨rfl, rfl⟩ (by kernel_rfl) rfl
    (fun f fn hf hfn => by
      obtain rfl : f = 5 := Option.some.inj ((show Tryd.prog.funcNamed "loop.example/templateescaper/laws.FnNodeWritten" = some 5 by kernel_rfl).symm.trans hf) |>.symm
      obtain rfl : fn = Tryd.f5 := (Option.some.inj (Tryd.func5.symm.trans hfn)).symm
      exact ⟨by kernel_rfl, fun j t ht => by
        rw [Tryd.params5] at ht
        have hm : t ∈ [22] := by simpa using Array.mem_of_getElem? ht
        have hall : ([22].all fun u => !Tryd.prog.wantsStandIn u) = true := by kernel_rfl
        exact (show Tryd.prog.wantsStandIn t = false by simpa using List.all_eq_true.1 hall t hm)⟩)
    (by kernel_rfl)

#print axioms fnNodeWritten_cardHolds
end Go.Proofs.YtdmmnjnbjigdeaaDoor
