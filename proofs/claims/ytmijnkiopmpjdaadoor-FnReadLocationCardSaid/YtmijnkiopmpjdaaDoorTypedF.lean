/- Regions that draw their order, whose tail is an append and a store into a field whose address may be taken early: the typed rule for them. No function of the program is walked here. -/
import Derived.Test.YtmijnkiopmpjdaaDoorTyped
namespace Go.Proofs.YtmijnkiopmpjdaaDoor
open Go

/-- the operation waits for nothing of the region -/
def hfree (l : List Oper) (i : Nat) : Bool := match l[i]? with
  | some o => o.guard.isNone && o.after.all fun e => !Region.binds .any e
  | none => false
/-- n operations, the append at n, the floating operation at n + 1 -/
def typedFB (l : List Oper) (n m : Nat) : Bool :=
  decide (n + 2 < l.length) && Region.sinkB .any l.toArray n && ((List.range l.length).all fun t => decide (t ≤ n + 1) || (if t = n + 2 then Region.waitsFor .any l.toArray t n else Region.waitsFor .any l.toArray t (t - 1))) &&
  ((List.range n).all fun i => hplain l i && hreach l m i) && hfree l (n + 1) && (match hdst l (n + 1) with | some d => decide (d < m) && (List.range n).all fun j => hdst l j != some d | none => false) &&
  decide (Region.ready .any l.toArray ((headListed n (l.length - n)).setIfInBounds (n + 1) true) = [n]) &&
  Region.seqB .any l.toArray (l.length - (n + 2)) (n + 2) (((headListed n (l.length - n)).setIfInBounds (n + 1) true).setIfInBounds n true) &&
  decide (Region.ready .any l.toArray (headListed n (l.length - n)) = [n, n + 1]) &&
  Region.seqB .any l.toArray (l.length - (n + 1)) (n + 1) ((headListed n (l.length - n)).setIfInBounds n true)

section
variable {P : Program} {l : List Oper} {n : Nat} {a0 : Act} {W : Nat → World → Prop} {Keep : World → World → Prop} {F : Nat → World → Value → Prop} {v0 : Value}

structure FInv (l : List Oper) (n : Nat) (a0 : Act) (W : Nat → World → Prop) (F : Nat → World → Value → Prop) (v0 : Value) (listed : Array Bool) (a : Act) (w : World) : Prop where
  lsize : listed.size = l.length
  closed : ∀ j oj, l[j]? = some oj → listed.getD j false = true → ∀ e ∈ oj.after, Region.binds .any e = true → listed.getD e.on false = true
  tail : ∀ t, n ≤ t → t ≠ n + 1 → t < l.length → listed.getD t true = false
  world : W (n - cnt listed n) w
  defers : a.defers = a0.defers
  size : a.tmps.size = a0.tmps.size
  base : ∀ s, (∀ i < n, listed.getD i false = true → hdst l i ≠ some s) → (listed.getD (n + 1) false = true → hdst l (n + 1) ≠ some s) → a.tmps[s]? = a0.tmps[s]?
  vals : ∀ i < n, listed.getD i false = true → ∀ d, hdst l i = some d → F i w (a.tmps.getD d undef)
  fval : listed.getD (n + 1) false = true → ∀ d, hdst l (n + 1) = some d → a.tmps.getD d undef = v0

/-- One operation of the head, at whatever moment it comes up. -/
def TStepF (P : Program) (l : List Oper) (n : Nat) (a0 : Act) (W : Nat → World → Prop) (Keep : World → World → Prop) (F : Nat → World → Value → Prop) (i : Nat) : Prop :=
  ∀ o, l[i]? = some o → ∀ (m : Nat) (a : Act) (w : World), m < n → W m w → (∀ s, (∀ j < n + 2, j = n ∨ hdst l j ≠ some s) → a.tmps[s]? = a0.tmps[s]?) →
    (∀ j, Region.waitsFor .any l.toArray i j = true → ∀ d, hdst l j = some d → F j w (a.tmps.getD d undef)) →
    ∀ (K : Act → World → Prop) (Q : Exit → Act → World → Prop), (∀ v w', W (m + 1) w' → Keep w w' → F i w' v → K (a.put o.dst v) w') → o.wp P a w K Q

/-- the floating operation, at whatever moment it comes up -/
def FStep (P : Program) (l : List Oper) (n : Nat) (a0 : Act) (v0 : Value) : Prop :=
  ∀ o, l[n + 1]? = some o → ∀ (a : Act) (w : World), (∀ s, (∀ j < n + 2, j = n ∨ hdst l j ≠ some s) → a.tmps[s]? = a0.tmps[s]?) →
    ∀ (K : Act → World → Prop) (Q : Exit → Act → World → Prop), K (a.put o.dst v0) w → o.wp P a w K Q

theorem fwaits {listed : Array Bool} {a : Act} {w : World} (hs : Region.sinkB .any l.toArray n = true)
    (hc : ∀ t, t < l.length → t ≤ n + 1 ∨ (if t = n + 2 then Region.waitsFor .any l.toArray t n else Region.waitsFor .any l.toArray t (t - 1)) = true) (hn : n + 2 < l.length) (inv : FInv l n a0 W F v0 listed a w) :
    ∀ (d i : Nat), n - i = d → i < n → listed.getD i true = false → ∀ t, n ≤ t → t ≠ n + 1 → t ∉ Region.ready .any l.toArray listed := by
  intro d
  induction d using Nat.strongRecOn with
  | _ d ih =>
    intro i hd hi hun t ht htf hr
    obtain ⟨_, ot, hot, hall⟩ := mem_ready.1 hr
    have htlt : t < l.length := by simpa using (Array.getElem?_eq_some_iff.1 hot).1
    by_cases htn : t = n
    · subst htn
      have h1 := List.all_eq_true.1 hs i (List.mem_range.2 hi)
      obtain ⟨j, hj, hj2⟩ := List.any_eq_true.1 h1
      simp only [Bool.and_eq_true, decide_eq_true_eq] at hj2
      obtain ⟨oj, hoj, e, he, hb, hon⟩ := Region.waitsFor_spec hj2.2
      have hjle : j ≤ t := by have := List.mem_range.1 hj; omega
      by_cases hjt : j = t
      · subst hjt
        have : oj = ot := Option.some.inj (hoj.symm.trans hot)
        subst this
        have h2 := hall e he hb
        rw [hon, getD_both hun] at h2
        cases h2
      · cases hl : listed.getD j false with
        | true =>
          have h2 := inv.closed j oj (by simpa using hoj) hl e he hb
          rw [hon, getD_both hun] at h2
          cases h2
        | false =>
          have hjs : j < listed.size := by rw [inv.lsize]; omega
          exact ih (t - j) (by omega) j rfl (by omega) (getD_in hjs hl) t (Nat.le_refl _) htf hr
    · rcases hc t htlt with h1 | h1
      · omega
      · have hex : ∃ u, n ≤ u ∧ u ≠ n + 1 ∧ u < l.length ∧ Region.waitsFor .any l.toArray t u = true := by
          split at h1
          · exact ⟨n, Nat.le_refl _, by omega, by omega, h1⟩
          · exact ⟨t - 1, by omega, by omega, by omega, h1⟩
        obtain ⟨u, hu1, hu2, hu3, hu4⟩ := hex
        obtain ⟨o', ho', e, he, hb, hon⟩ := Region.waitsFor_spec hu4
        have : o' = ot := Option.some.inj (ho'.symm.trans hot)
        subst this
        have h2 := hall e he hb
        rw [hon, getD_both (inv.tail u hu1 hu2 hu3)] at h2
        cases h2

theorem FInv.set {listed : Array Bool} {a a' : Act} {w w' : World} {i : Nat} (inv : FInv l n a0 W F v0 listed a w) (hi : i ∈ Region.ready .any l.toArray listed) (hin : i < n ∨ i = n + 1)
    (h1 : W (n - cnt (listed.setIfInBounds i true) n) w') (h2 : a'.defers = a0.defers) (h3 : a'.tmps.size = a0.tmps.size)
    (h4 : ∀ s, (∀ j < n, (listed.setIfInBounds i true).getD j false = true → hdst l j ≠ some s) → ((listed.setIfInBounds i true).getD (n + 1) false = true → hdst l (n + 1) ≠ some s) → a'.tmps[s]? = a0.tmps[s]?)
    (h5 : ∀ j < n, (listed.setIfInBounds i true).getD j false = true → ∀ d, hdst l j = some d → F j w' (a'.tmps.getD d undef))
    (h6 : (listed.setIfInBounds i true).getD (n + 1) false = true → ∀ d, hdst l (n + 1) = some d → a'.tmps.getD d undef = v0) : FInv l n a0 W F v0 (listed.setIfInBounds i true) a' w' := by
  obtain ⟨_, oi, hoi, hall⟩ := mem_ready.1 hi
  refine ⟨by simp [inv.lsize], fun j oj hj hl e he hb => ?_, fun t ht htf ht' => by rw [getD_set_ne true (by omega)]; exact inv.tail t ht htf ht', h1, h2, h3, h4, h5, h6⟩
  by_cases hij : i = j
  · subst hij
    have : oj = oi := Option.some.inj ((by simpa using hj : l.toArray[i]? = some oj).symm.trans hoi)
    subst this
    exact getD_set_true (hall e he hb)
  · rw [getD_set_ne false hij] at hl
    exact getD_set_true (inv.closed j oj hj hl e he hb)

theorem wpList_one {Q : Exit → Act → World → Prop} {ops : Array Oper} {i : Nat} {o : Oper} {rest : List Oper} {a : Act} {w : World} (h0 : ops[i]? = some o) (h : wpList P ops Q (o :: rest) a w) : wpOp P ops Q i (wpList P ops Q rest) a w := by
  unfold wpOp; simp only [h0]; exact h

theorem typedF_any {Q : Exit → Act → World → Prop} (hB : typedFB l n a0.tmps.size = true) (hkeep : ∀ j < n, ∀ w w' v, Keep w w' → F j w v → F j w' v)
    (hstep : ∀ i < n, TStepF P l n a0 W Keep F i) (hf : FStep P l n a0 v0)
    (hfin1 : ∀ (vs : Nat → Value) (w' : World) o, l[n]? = some o → W n w' → (∀ i < n, F i w' (vs i)) → wpList P l.toArray Q (o :: l.drop (n + 2)) ((putAll l vs n a0).put (hdst l (n + 1)) v0) w')
    (hfin2 : ∀ (vs : Nat → Value) (w' : World), W n w' → (∀ i < n, F i w' (vs i)) → wpList P l.toArray Q (l.drop n) (putAll l vs n a0) w') :
    ∀ (f : Nat) (listed : Array Bool) (a : Act) (w : World), cnt listed n + (if listed.getD (n + 1) false then 0 else 1) = f → FInv l n a0 W F v0 listed a w → wpAny P .any l.toArray Q (f + (l.length - n - 1)) listed a w := by
  simp only [typedFB, Bool.and_eq_true, Bool.or_eq_true, decide_eq_true_eq, List.all_eq_true, List.mem_range] at hB
  obtain ⟨⟨⟨⟨⟨⟨⟨⟨⟨hn, hsink⟩, hchain⟩, hall⟩, hfree1⟩, hfd⟩, hr1⟩, hs1⟩, hr2⟩, hs2⟩ := hB
  have hn0 : n < l.length := by omega
  have hn1 : n + 1 < l.length := by omega
  obtain ⟨df, hdf, hdfm, hdfn⟩ : ∃ d, hdst l (n + 1) = some d ∧ d < a0.tmps.size ∧ ∀ j < n, hdst l j ≠ some d := by
    split at hfd
    · rename_i d hd
      simp only [Bool.and_eq_true, decide_eq_true_eq, List.all_eq_true, List.mem_range, bne_iff_ne, ne_eq] at hfd
      exact ⟨d, hd, hfd.1, hfd.2⟩
    · cases hfd
  -- what the frame holds
  have hact : ∀ (listed : Array Bool) (a : Act) (w : World), FInv l n a0 W F v0 listed a w → cnt listed n = 0 →
      a = if listed.getD (n + 1) false then (putAll l (fun i => match hdst l i with | some d => a.tmps.getD d undef | none => undef) n a0).put (hdst l (n + 1)) v0 else putAll l (fun i => match hdst l i with | some d => a.tmps.getD d undef | none => undef) n a0 := by
    intro listed a w inv hc
    have hl1 := cnt_zero hc
    obtain ⟨p1, p2, p3, p4⟩ := putAll_spec (l := l) (n := n) (a0 := a0) (fun i => match hdst l i with | some d => a.tmps.getD d undef | none => undef) (fun i hi => (hall i hi).2) n (Nat.le_refl _)
    generalize putAll l (fun i => match hdst l i with | some d => a.tmps.getD d undef | none => undef) n a0 = b at *
    have key : ∀ s, (listed.getD (n + 1) false = true → s ≠ df) → a.tmps[s]? = b.tmps[s]? := by
      intro s hsf
      by_cases hex : ∃ i, i < n ∧ hdst l i = some s
      · obtain ⟨i, hi, hd⟩ := hex
        rw [p3 i hi s hd]
        simp only [hd]
        have hsz : s < a.tmps.size := by
          obtain ⟨d, hd2, hdm, _⟩ := hreach_spec (hall i hi).2
          rw [hd] at hd2
          cases hd2
          rw [inv.size]; exact hdm
        simp [hsz]
      · have hno : ∀ i < n, hdst l i ≠ some s := fun i hi e => hex ⟨i, hi, e⟩
        rw [p4 s hno]
        exact inv.base s (fun i hi _ => hno i hi) (fun hlf e => hsf hlf (by rw [hdf] at e; exact (Option.some.inj e).symm))
    have e2 : a.defers = b.defers := by rw [inv.defers, p1]
    cases hlf : listed.getD (n + 1) false
    · have e1 : a.tmps = b.tmps := by
        apply Array.ext_getElem?
        intro s
        exact key s (fun h => by rw [hlf] at h; cases h)
      simp only [Bool.false_eq_true, if_false]
      cases a; cases b
      simp only at e1 e2
      rw [e1, e2]
    · have e1 : a.tmps = b.tmps.setIfInBounds df v0 := by
        apply Array.ext_getElem?
        intro s
        by_cases hs : s = df
        · subst hs
          have h1 := inv.fval hlf s hdf
          have hsz : s < a.tmps.size := by rw [inv.size]; exact hdfm
          have hsz2 : s < b.tmps.size := by rw [p2]; exact hdfm
          rw [Array.getElem?_setIfInBounds_self_of_lt hsz2, ← h1]
          simp [hsz]
        · rw [Array.getElem?_setIfInBounds_ne (Ne.symm hs)]
          exact key s (fun _ => hs)
      simp only [if_true, hdf, Act.put]
      cases a; cases b
      simp only at e1 e2
      rw [e1, e2]
  have hvs : ∀ (listed : Array Bool) (a : Act) (w : World), FInv l n a0 W F v0 listed a w → cnt listed n = 0 → ∀ i < n, F i w ((fun i => match hdst l i with | some d => a.tmps.getD d undef | none => undef) i) := by
    intro listed a w inv hc i hi
    obtain ⟨d, hd, _, _⟩ := hreach_spec (hall i hi).2
    simp only [hd]
    exact inv.vals i hi (cnt_zero hc i hi) d hd
  have hlist : ∀ (listed : Array Bool) (a : Act) (w : World), FInv l n a0 W F v0 listed a w → cnt listed n = 0 → listed = if listed.getD (n + 1) false then (headListed n (l.length - n)).setIfInBounds (n + 1) true else headListed n (l.length - n) := by
    intro listed a w inv hc
    have hl1 := cnt_zero hc
    have hls := inv.lsize
    have h0 : ∀ i, i < l.length → i ≠ n + 1 → listed.getD i false = (headListed n (l.length - n)).getD i false := by
      intro i hi hif
      by_cases hin : i < n
      · rw [hl1 i hin]
        simp [headListed, hin, Array.getElem?_append]
      · have := getD_both (inv.tail i (by omega) hif hi)
        rw [this]
        have h2 : i - n < l.length - n := by omega
        simp [headListed, hin, Array.getElem?_append, h2]
    have hsz : (headListed n (l.length - n)).size = l.length := by simp [headListed]; omega
    have hh0 : (headListed n (l.length - n)).getD (n + 1) false = false := by
      have h3 : (1 : Nat) < l.length - n := by omega
      simp [headListed, h3]
    cases hlf : listed.getD (n + 1) false
    · simp only [Bool.false_eq_true, if_false]
      apply Array.ext
      · rw [hls, hsz]
      · intro i hi hi'
        have : listed.getD i false = (headListed n (l.length - n)).getD i false := by
          by_cases hif : i = n + 1
          · subst hif; rw [hlf, hh0]
          · exact h0 i (by omega) hif
        simpa [hi, hi'] using this
    · simp only [if_true]
      apply Array.ext
      · rw [hls, Array.size_setIfInBounds, hsz]
      · intro i hi hi'
        have : listed.getD i false = ((headListed n (l.length - n)).setIfInBounds (n + 1) true).getD i false := by
          by_cases hif : i = n + 1
          · subst hif; rw [hlf, getD_set_self (by rw [hsz]; omega)]
          · rw [getD_set_ne false (Ne.symm hif)]; exact h0 i (by omega) hif
        rw [Array.size_setIfInBounds] at hi'
        simpa [hi, hi'] using this
  -- the floating operation, in the middle
  have hfloat : ∀ (g : Nat) (listed : Array Bool) (a : Act) (w : World), FInv l n a0 W F v0 listed a w → listed.getD (n + 1) false = false → n + 1 ∈ Region.ready .any l.toArray listed →
      (∀ listed' a', FInv l n a0 W F v0 listed' a' w → cnt listed' n = cnt listed n → listed'.getD (n + 1) false = true → wpAny P .any l.toArray Q g listed' a' w) → wpOp P l.toArray Q (n + 1) (wpAny P .any l.toArray Q g (listed.setIfInBounds (n + 1) true)) a w := by
    intro g listed a w inv hlf hr hgo
    obtain ⟨o, ho⟩ : ∃ o, l[n + 1]? = some o := ⟨l[n + 1], List.getElem?_eq_getElem hn1⟩
    have hgu : o.guard.isNone = true := by
      unfold hfree at hfree1
      rw [ho] at hfree1
      simp only [Bool.and_eq_true] at hfree1
      exact hfree1.1
    have hod : o.dst = some df := by simpa [hdst, ho] using hdf
    have hls := inv.lsize
    have hcn : cnt (listed.setIfInBounds (n + 1) true) n = cnt listed n := cnt_congr fun i hi => getD_set_ne false (by omega)
    unfold wpOp
    simp only [show l.toArray[n + 1]? = some o by simpa using ho, wanted_plain hgu, if_true]
    left
    refine hf o ho a w (fun s h1 => inv.base s (fun j hj _ => (h1 j (by omega)).resolve_left (by omega)) (fun _ => (h1 (n + 1) (by omega)).resolve_left (by omega))) _ Q ?_
    rw [hod]
    refine hgo _ _ ?_ hcn (getD_set_self (by omega))
    refine inv.set hr (.inr rfl) (by rw [hcn]; exact inv.world) (by simpa [Act.put] using inv.defers) (by simpa [Act.put] using inv.size) ?_ ?_ ?_
    · intro s h1 h2
      have hne : df ≠ s := fun e => h2 (getD_set_self (by omega)) (by rw [hdf, e])
      rw [act_put_other hne]
      refine inv.base s (fun j hj hl => h1 j hj (by rw [getD_set_ne false (by omega)]; exact hl)) (fun h => by rw [hlf] at h; cases h)
    · intro j hj hl d hd
      have hne : df ≠ d := fun e => hdfn j hj (by rw [hd, e])
      rw [getD_of (act_put_other hne v0)]
      exact inv.vals j hj (by rwa [getD_set_ne false (by omega)] at hl) d hd
    · intro _ d hd
      rw [hdf] at hd
      cases hd
      exact act_put_slot (by rw [inv.size]; exact hdfm) v0
  intro f
  induction f with
  | zero =>
    intro listed a w hc inv
    have hc0 : cnt listed n = 0 := by omega
    have hlf : listed.getD (n + 1) false = true := by
      cases h : listed.getD (n + 1) false
      · rw [h] at hc; simp at hc
      · rfl
    have ha := hact listed a w inv hc0
    have hL := hlist listed a w inv hc0
    rw [hlf] at ha hL
    simp only [if_true] at ha hL
    obtain ⟨o, ho⟩ : ∃ o, l[n]? = some o := ⟨l[n], List.getElem?_eq_getElem hn0⟩
    have h1 := hfin1 _ w o ho (by have := inv.world; rw [hc0] at this; simpa using this) (hvs listed a w inv hc0)
    rw [← ha] at h1
    rw [Nat.zero_add, show l.length - n - 1 = (l.length - (n + 2)) + 1 by omega]
    rw [hL]
    refine ⟨fun h0 => (by rw [hr1] at h0; cases h0), fun i hi => ?_⟩
    rw [hr1] at hi
    have hin : i = n := by simpa using hi
    subst hin
    refine wpOp_mono (fun a' w' h' => ?_) (wpList_one (by simpa using ho) h1)
    have := wpAny_of_seq (md := .any) (Q' := Q) (ops := l.toArray) (l.drop (i + 2)) (i + 2) _ a' w' (fun j => by simp [List.getElem?_drop]) (by rw [List.length_drop]; exact hs1) h'
    rwa [List.length_drop] at this
  | succ f ih =>
    intro listed a w hc inv
    have hls := inv.lsize
    rw [show f + 1 + (l.length - n - 1) = f + (l.length - n - 1) + 1 by omega]
    by_cases hc0 : cnt listed n = 0
    · have hlf : listed.getD (n + 1) false = false := by
        cases h : listed.getD (n + 1) false
        · rfl
        · rw [h] at hc; simp at hc; omega
      have hf0 : f = 0 := by rw [hlf] at hc; simp at hc; omega
      have ha := hact listed a w inv hc0
      have hL := hlist listed a w inv hc0
      rw [hlf] at ha hL
      simp only [Bool.false_eq_true, if_false] at ha hL
      have hR : Region.ready .any l.toArray listed = [n, n + 1] := by rw [hL]; exact hr2
      refine ⟨fun h0 => (by rw [hR] at h0; cases h0), fun i hi => ?_⟩
      have hi' := hi
      rw [hR] at hi
      have hin : i = n ∨ i = n + 1 := by simpa using hi
      rcases hin with rfl | rfl
      · have h2 := hfin2 _ w (by have := inv.world; rw [hc0] at this; simpa using this) (hvs listed a w inv hc0)
        rw [← ha] at h2
        obtain ⟨o, ho⟩ : ∃ o, l[i]? = some o := ⟨l[i], List.getElem?_eq_getElem hn0⟩
        have hd : l.drop i = o :: l.drop (i + 1) := by
          rw [List.drop_eq_getElem_cons hn0]
          congr 1
          rw [List.getElem?_eq_getElem hn0] at ho
          exact Option.some.inj ho
        rw [hd] at h2
        refine wpOp_mono (fun a' w' h' => ?_) (wpList_one (by simpa using ho) h2)
        have := wpAny_of_seq (md := .any) (Q' := Q) (ops := l.toArray) (l.drop (i + 1)) (i + 1) (listed.setIfInBounds i true) a' w' (fun j => by simp [List.getElem?_drop]) (by rw [List.length_drop, hL]; exact hs2) h'
        rw [List.length_drop] at this
        rw [hf0, Nat.zero_add, show l.length - i - 1 = l.length - (i + 1) by omega]
        exact this
      · refine hfloat _ listed a w inv hlf hi' fun listed' a' inv' hcn hl' => ?_
        exact ih listed' a' w (by rw [hcn, hc0, hl', hf0]; rfl) inv'
    · obtain ⟨i0, hi0, hu0, hbef⟩ := cnt_some (listed := listed) (n := n) hc0
      have hi0r : i0 ∈ Region.ready .any l.toArray listed := by
        have h1 := (hall i0 hi0).1
        unfold hplain at h1
        split at h1
        · rename_i o ho
          simp only [Bool.and_eq_true, Array.all_eq_true'] at h1
          refine mem_ready.2 ⟨getD_in (by omega) hu0, o, by simpa using ho, fun e he hb => ?_⟩
          have := h1.2 e he
          simp only [hb, Bool.not_true, Bool.false_or, decide_eq_true_eq] at this
          exact hbef _ this
        · cases h1
      refine ⟨fun h0 => (by rw [h0] at hi0r; cases hi0r), fun i hi => ?_⟩
      have hin : i < n ∨ i = n + 1 := by
        rcases Nat.lt_or_ge i n with h | h
        · exact .inl h
        · by_cases hif : i = n + 1
          · exact .inr hif
          · exact absurd hi (fwaits hsink hchain hn inv _ i0 rfl hi0 (getD_in (by omega) hu0) i h hif)
      obtain ⟨hun, o, ho, haft⟩ := mem_ready.1 hi
      have hol : l[i]? = some o := by simpa using ho
      have hunf := getD_both hun
      rcases hin with hin | hin
      · have hgu : o.guard.isNone = true := by
          have h1 := (hall i hin).1
          unfold hplain at h1
          rw [hol] at h1
          simp only [Bool.and_eq_true] at h1
          exact h1.1
        obtain ⟨d, hd, hdm, _⟩ := hreach_spec (hall i hin).2
        have hod : o.dst = some d := by simpa [hdst, hol] using hd
        unfold wpOp
        simp only [ho, wanted_plain hgu, if_true]
        left
        have hcs := cnt_set (n := n) (by omega) hunf hin
        have hlf1 : (listed.setIfInBounds i true).getD (n + 1) false = listed.getD (n + 1) false := getD_set_ne false (by omega)
        have hm : n - cnt listed n < n := by have := cnt_le listed n; omega
        refine hstep i hin o hol (n - cnt listed n) a w hm inv.world (fun s hs => inv.base s (fun j hj _ => (hs j (by omega)).resolve_left (by omega)) (fun _ => (hs (n + 1) (by omega)).resolve_left (by omega))) (fun j hj d' hd' => ?_) _ Q fun v w' hw' hk hv => ?_
        · obtain ⟨oi, hoi, e, he, hb, hon⟩ := Region.waitsFor_spec hj
          have : oi = o := Option.some.inj (hoi.symm.trans ho)
          subst this
          have hl2 := haft e he hb
          rw [hon] at hl2
          have hjn : j < n := by
            have h1 := (hall i hin).1
            unfold hplain at h1
            rw [hol] at h1
            simp only [Bool.and_eq_true, Array.all_eq_true'] at h1
            have := h1.2 e he
            simp only [hb, Bool.not_true, Bool.false_or, decide_eq_true_eq] at this
            omega
          exact inv.vals j hjn hl2 d' hd'
        · rw [hod]
          refine ih _ _ w' (by rw [hlf1]; omega) (inv.set hi (.inl hin) ?_ ?_ ?_ ?_ ?_ ?_)
          · have : n - cnt (listed.setIfInBounds i true) n = n - cnt listed n + 1 := by have := cnt_le listed n; omega
            rw [this]; exact hw'
          · simpa [Act.put] using inv.defers
          · simpa [Act.put] using inv.size
          · intro s hs hs2
            have hne : d ≠ s := fun e => hs i hin (getD_set_self (by omega)) (by rw [hd, e])
            rw [act_put_other hne]
            exact inv.base s (fun j hj hl => hs j hj (getD_set_true hl)) (fun hl => hs2 (getD_set_true hl))
          · intro j hj hl d' hd'
            by_cases hij : i = j
            · subst hij
              rw [hd] at hd'
              cases hd'
              rw [act_put_slot (by rw [inv.size]; exact hdm)]
              exact hv
            · rw [getD_set_ne false hij] at hl
              have hne : d ≠ d' := by
                intro e
                subst e
                obtain ⟨di, hdi, _, hi2⟩ := hreach_spec (hall i hin).2
                obtain ⟨dj, hdj, _, hj2⟩ := hreach_spec (hall j hj).2
                rw [hd] at hdi; cases hdi
                rw [hd'] at hdj; cases hdj
                rcases Nat.lt_or_gt_of_ne hij with h | h
                · exact hj2 i h hd
                · exact hi2 j h hd'
              rw [getD_of (act_put_other hne v)]
              exact hkeep j hj w w' _ hk (inv.vals j hj hl d' hd')
          · intro hl d' hd'
            rw [hlf1] at hl
            have hne : d ≠ d' := fun e => hdfn i hin (by rw [hdf] at hd'; cases hd'; rw [hd, e])
            rw [getD_of (act_put_other hne v)]
            exact inv.fval hl d' hd'
      · subst hin
        refine hfloat _ listed a w inv hunf hi fun listed' a' inv' hcn hl' => ?_
        exact ih listed' a' w (by rw [hcn, hl']; rw [hunf] at hc; simp at hc ⊢; omega) inv'

/-- A region that draws its order, an append and a store behind it, the address of the store taken at whatever moment. -/
theorem wp_region_typedF {id : Nat} {Q : Exit → Act → World → Prop} {w : World} (n : Nat) (v0 : Value) (hm : P.follows .mixedOrders = true) (hB : typedFB l n a0.tmps.size = true)
    (W : Nat → World → Prop) (Keep : World → World → Prop) (F : Nat → World → Value → Prop) (hW : W 0 w.drew) (hkeep : ∀ j < n, ∀ w w' v, Keep w w' → F j w v → F j w' v)
    (hstep : ∀ i < n, TStepF P l n a0 W Keep F i) (hf : FStep P l n a0 v0)
    (hfin1 : ∀ (vs : Nat → Value) (w' : World) o, l[n]? = some o → W n w' → (∀ i < n, F i w' (vs i)) → wpList P l.toArray Q (o :: l.drop (n + 2)) ((putAll l vs n a0).put (hdst l (n + 1)) v0) w')
    (hfin2 : ∀ (vs : Nat → Value) (w' : World), W n w' → (∀ i < n, F i w' (vs i)) → wpList P l.toArray Q (l.drop n) (putAll l vs n a0) w') :
    (Code.region id l.toArray true).wp P Q a0 w := by
  have hB' := hB
  simp only [typedFB, Bool.and_eq_true, Bool.or_eq_true, decide_eq_true_eq, List.all_eq_true, List.mem_range] at hB'
  obtain ⟨⟨⟨⟨⟨⟨⟨⟨⟨hn, _⟩, _⟩, _⟩, _⟩, _⟩, _⟩, _⟩, _⟩, _⟩ := hB'
  refine wp_region_any hm ?_
  have hsz : l.toArray.size = l.length := by simp
  rw [hsz]
  have h := typedF_any (Q := Q) hB hkeep hstep hf hfin1 hfin2 (n + 1) (Array.replicate l.length false) a0 w.drew (by rw [cnt_all _ n (by omega), getD_replicate_false]; rfl)
    ⟨by simp, fun j oj _ hl => (by rw [getD_replicate_false] at hl; cases hl), fun t _ _ ht => getD_in (by simpa using ht) (getD_replicate_false _ _),
      (by rw [cnt_all _ n (by omega), Nat.sub_self]; exact hW), rfl, rfl, fun _ _ _ => rfl, fun i _ hl => (by rw [getD_replicate_false] at hl; cases hl), fun hl => (by rw [getD_replicate_false] at hl; cases hl)⟩
  rw [show n + 1 + (l.length - n - 1) = l.length by omega] at h
  exact h
end
end Go.Proofs.YtmijnkiopmpjdaaDoor
