/- Regions that draw their order and hold guarded operations ('&&', '||'), the guards being decided: the typed rule. No function of the program is walked here. -/
import Derived.Test.YtlafdpndpjcklaaTypedB
namespace Go.Proofs.Ytlafdpndpjcklaa
open Go

/-- what follows after an operation lies before it -/
def hplainG (l : List Oper) (i : Nat) : Bool := match l[i]? with
  | some o => o.after.all fun e => !Region.binds .any e || decide (e.on < i)
  | none => false
/-- the guard's value is known, and so it is known whether the operation is wanted -/
def hguard (l : List Oper) (gv : Nat → Option Bool) (want : Nat → Bool) (i : Nat) : Bool := match l[i]? with
  | some o => (match o.guard with
    | none => want i
    | some (j, b) => decide (j < i) && (Region.waitsFor .any l.toArray i j && (if want j then ((gv j).isSome && (want i == (gv j == some b))) else !want i)))
  | none => false
def typedG (l : List Oper) (gv : Nat → Option Bool) (want : Nat → Bool) (n m : Nat) : Bool :=
  decide (n < l.length) && Region.sinkB .any l.toArray n && Region.chainB .any l.toArray n && ((List.range n).all fun i => hplainG l i && hreach l m i && hguard l gv want i) && Region.seqB .any l.toArray (l.length - n) n (headListed n (l.length - n))

section
variable {P : Program} {l : List Oper} {n : Nat} {a0 : Act} {W : Nat → World → Prop} {Keep : World → World → Prop} {F : Nat → World → Value → Prop} {gv : Nat → Option Bool} {want : Nat → Bool}
theorem wanted_known {a : Act} {w : World} {i : Nat} {o : Oper} (hin : i < n) (ho : l[i]? = some o) (hg : hguard l gv want i = true) (hgv : ∀ j < n, ∀ x, gv j = some x → ∀ w v, F j w v → v = .bool x) (hund : ∀ i < n, want i = false → ∀ w v, F i w v ↔ v = undef)
    (hv : ∀ j, Region.waitsFor .any l.toArray i j = true → ∃ d, hdst l j = some d ∧ d < a.tmps.size ∧ F j w (a.tmps.getD d undef)) : Region.wanted o (yielded l.toArray a.tmps) = want i := by
  unfold hguard at hg
  rw [ho] at hg
  simp only at hg
  cases hgd : o.guard with
  | none =>
    rw [hgd] at hg
    simp only at hg
    rw [hg, wanted_plain (by rw [hgd]; rfl)]
  | some p =>
    obtain ⟨j, b⟩ := p
    rw [hgd] at hg
    simp only [Bool.and_eq_true, decide_eq_true_eq] at hg
    obtain ⟨h1, h2, h3⟩ := hg
    obtain ⟨d, hd, hdl, hF⟩ := hv j h2
    have hj : (l.toArray[j]?).bind (·.dst) = some d := by simpa [hdst] using hd
    cases hwj : want j with
    | true =>
      rw [hwj] at h3
      simp only [if_true, Bool.and_eq_true, beq_iff_eq] at h3
      obtain ⟨h3, h4⟩ := h3
      obtain ⟨x, hx⟩ := Option.isSome_iff_exists.1 h3
      have hb := hgv j (by omega) x hx w _ hF
      have hy : yielded l.toArray a.tmps j = some x := by
        unfold yielded
        rw [hj]
        have : a.tmps[d]? = some (.bool x) := by
          rw [Array.getElem?_eq_getElem hdl]
          simp [hdl] at hb
          rw [hb]
        simp [this]
      rw [h4, hx]
      unfold Region.wanted
      rw [hgd]
      simp only [hy]
    | false =>
      rw [hwj] at h3
      simp only [Bool.false_eq_true, if_false, Bool.not_eq_true'] at h3
      have hb := (hund j (by omega) hwj w _).1 hF
      have hy : yielded l.toArray a.tmps j = none := by
        unfold yielded
        rw [hj]
        have : a.tmps[d]? = some undef := by
          rw [Array.getElem?_eq_getElem hdl]
          simp [hdl] at hb
          rw [hb]
        simp [this, undef]
      rw [h3]
      unfold Region.wanted
      rw [hgd]
      simp only [hy]
      rfl
theorem typed_anyG {Q : Exit → Act → World → Prop} (hB : typedG l gv want n a0.tmps.size = true) (hgv : ∀ j < n, ∀ x, gv j = some x → ∀ w v, F j w v → v = .bool x) (hkeep : ∀ j < n, ∀ w w' v, Keep w w' → F j w v → F j w' v)
    (hskip : ∀ i < n, want i = false → ∀ w v, F i w v ↔ v = undef) (hwskip : ∀ m w, W m w → W (m + 1) w) (hrefl : ∀ w, Keep w w)
    (hstep : ∀ i < n, want i = true → TStep P l n a0 W Keep F i)
    (hfin : ∀ (vs : Nat → Value) (w' : World), W n w' → (∀ i < n, F i w' (vs i)) → wpList P l.toArray Q (l.drop n) (putAll l vs n a0) w') :
    ∀ (f : Nat) (listed : Array Bool) (a : Act) (w : World), cnt listed n = f → TInv l n a0 W F listed a w → wpAny P .any l.toArray Q (f + (l.length - n)) listed a w := by
  simp only [typedG, Bool.and_eq_true, decide_eq_true_eq, List.all_eq_true, List.mem_range] at hB
  obtain ⟨⟨⟨⟨hn, hsink⟩, hchain⟩, hall⟩, hseq⟩ := hB
  have hn' : n < l.toArray.size := by simpa using hn
  intro f
  induction f with
  | zero =>
    intro listed a w hc inv
    rw [Nat.zero_add]
    have hl1 := cnt_zero hc
    have hls : listed.size = l.length := by simpa using inv.head.size
    have hl := headListed_eq (l := l) (by omega) hls hl1 (fun t ht htl => inv.head.tail t ht (by simpa using htl))
    have hfa : a = putAll l (fun i => match hdst l i with | some d => a.tmps.getD d undef | none => undef) n a0 := by
      obtain ⟨p1, p2, p3, p4⟩ := putAll_spec (l := l) (n := n) (a0 := a0) (fun i => match hdst l i with | some d => a.tmps.getD d undef | none => undef) (fun i hi => (hall i hi).1.2) n (Nat.le_refl _)
      generalize putAll l (fun i => match hdst l i with | some d => a.tmps.getD d undef | none => undef) n a0 = b at *
      have e1 : a.tmps = b.tmps := by
        apply Array.ext_getElem?
        intro s
        by_cases hex : ∃ i, i < n ∧ hdst l i = some s
        · obtain ⟨i, hi, hd⟩ := hex
          rw [p3 i hi s hd]
          simp only [hd]
          have hsz : s < a.tmps.size := by
            obtain ⟨d, hd2, hdm, _⟩ := hreach_spec (hall i hi).1.2
            rw [hd] at hd2
            cases hd2
            rw [inv.size]; exact hdm
          simp [hsz]
        · have hno : ∀ i < n, hdst l i ≠ some s := fun i hi e => hex ⟨i, hi, e⟩
          rw [p4 s hno]
          exact inv.base s fun i hi _ => hno i hi
      have e2 : a.defers = b.defers := by rw [inv.defers, p1]
      cases a; cases b
      simp only at e1 e2
      rw [e1, e2]
    have hsz := hfin (fun i => match hdst l i with | some d => a.tmps.getD d undef | none => undef) w (by have := inv.world; rw [hc] at this; simpa using this) (fun i hi => by
      obtain ⟨d, hd, _, _⟩ := hreach_spec (hall i hi).1.2
      simp only [hd]
      exact inv.vals i hi (hl1 i hi) d hd)
    rw [← hfa] at hsz
    have := wpAny_of_seq (md := .any) (Q' := Q) (l.drop n) n listed a w (fun j => by simp [List.getElem?_drop]) (by rw [List.length_drop, hl]; exact hseq) hsz
    rwa [List.length_drop] at this
  | succ f ih =>
    intro listed a w hc inv
    have hls : listed.size = l.length := by simpa using inv.head.size
    obtain ⟨i0, hi0, hu0, hbef⟩ := cnt_some (listed := listed) (n := n) (by omega)
    have hi0r : i0 ∈ Region.ready .any l.toArray listed := by
      have h1 := (hall i0 hi0).1.1
      unfold hplainG at h1
      split at h1
      · rename_i o ho
        simp only [Array.all_eq_true'] at h1
        refine mem_ready.2 ⟨getD_in (by omega) hu0, o, by simpa using ho, fun e he hb => ?_⟩
        have := h1 e he
        simp only [hb, Bool.not_true, Bool.false_or, decide_eq_true_eq] at this
        exact hbef _ this
      · cases h1
    rw [show f + 1 + (l.length - n) = f + (l.length - n) + 1 by omega]
    refine ⟨fun h0 => (by rw [h0] at hi0r; cases hi0r), fun i hi => ?_⟩
    have hin : i < n := by
      rcases Nat.lt_or_ge i n with h | h
      · exact h
      · exact absurd hi (tail_waits hsink hchain hn' inv.head _ i0 rfl hi0 (getD_in (by omega) hu0) i h)
    obtain ⟨hun, o, ho, haft⟩ := mem_ready.1 hi
    have hol : l[i]? = some o := by simpa using ho
    obtain ⟨d, hd, hdm, _⟩ := hreach_spec (hall i hin).1.2
    have hod : o.dst = some d := by simpa [hdst, hol] using hd
    have hunf := getD_both hun
    have hcs := cnt_set (n := n) (by omega) hunf hin
    have hm : n - cnt listed n < n := by have := cnt_le listed n; omega
    have hwaits : ∀ j, Region.waitsFor .any l.toArray i j = true → j < n ∧ listed.getD j false = true := by
      intro j hj
      obtain ⟨oi, hoi, e, he, hb, hon⟩ := Region.waitsFor_spec hj
      have : oi = o := Option.some.inj (hoi.symm.trans ho)
      subst this
      have hl2 := haft e he hb
      rw [hon] at hl2
      refine ⟨?_, hl2⟩
      have h1 := (hall i hin).1.1
      unfold hplainG at h1
      rw [hol] at h1
      simp only [Array.all_eq_true'] at h1
      have := h1 e he
      simp only [hb, Bool.not_true, Bool.false_or, decide_eq_true_eq] at this
      omega
    have hwant : Region.wanted o (yielded l.toArray a.tmps) = want i := wanted_known (w := w) hin hol (hall i hin).2 hgv hskip (fun j hj => by
      obtain ⟨hjn, hjl⟩ := hwaits j hj
      obtain ⟨dj, hdj, hdjm, _⟩ := hreach_spec (hall j hjn).1.2
      exact ⟨dj, hdj, by rw [inv.size]; exact hdjm, inv.vals j hjn hjl dj hdj⟩)
    have hnext : ∀ v w', W (n - cnt listed n + 1) w' → Keep w w' → F i w' v → wpAny P .any l.toArray Q (f + (l.length - n)) (listed.setIfInBounds i true) (a.put o.dst v) w' := by
      intro v w' hw' hk hv
      rw [hod]
      refine ih _ _ w' (by omega) ⟨inv.head.set hi hin, ?_, ?_, ?_, ?_, ?_⟩
      · have : n - cnt (listed.setIfInBounds i true) n = n - cnt listed n + 1 := by have := cnt_le listed n; omega
        rw [this]; exact hw'
      · simpa [Act.put] using inv.defers
      · simpa [Act.put] using inv.size
      · intro s hs
        have hne : d ≠ s := fun e => hs i hin (getD_set_self (by omega)) (by rw [hd, e])
        rw [act_put_other hne]
        exact inv.base s fun j hj hl => hs j hj (getD_set_true hl)
      · intro j hj hl d' hd'
        by_cases hij : i = j
        · subst hij
          rw [hd] at hd'
          cases hd'
          rw [act_put_slot (by rw [inv.size]; exact hdm)]
          exact hv
        · rw [getD_set_ne false hij] at hl
          have hne : d ≠ d' := by
            intro e
            subst e
            obtain ⟨di, hdi, _, hi2⟩ := hreach_spec (hall i hin).1.2
            obtain ⟨dj, hdj, _, hj2⟩ := hreach_spec (hall j hj).1.2
            rw [hd] at hdi; cases hdi
            rw [hd'] at hdj; cases hdj
            rcases Nat.lt_or_gt_of_ne hij with h | h
            · exact hj2 i h hd
            · exact hi2 j h hd'
          rw [getD_of (act_put_other hne v)]
          exact hkeep j hj w w' _ hk (inv.vals j hj hl d' hd')
    unfold wpOp
    simp only [ho, hwant]
    cases hwi : want i with
    | false =>
      simp only [Bool.false_eq_true, if_false]
      exact hnext undef w (hwskip _ w inv.world) (hrefl w) ((hskip i hin hwi w _).2 rfl)
    | true =>
      simp only [if_true]
      left
      refine hstep i hin hwi o hol (n - cnt listed n) a w hm inv.world (fun s hs => inv.base s fun j hj _ => hs j hj) (fun j hj d' hd' => ?_) _ Q hnext
      obtain ⟨hjn, hjl⟩ := hwaits j hj
      exact inv.vals j hjn hjl d' hd'
/-- A region that draws its order and holds guarded operations: each operation of the head that is wanted is looked at once. -/
theorem wp_region_typedG {id : Nat} {Q : Exit → Act → World → Prop} {w : World} (n : Nat) (gv : Nat → Option Bool) (want : Nat → Bool) (hm : P.follows .mixedOrders = true) (hB : typedG l gv want n a0.tmps.size = true)
    (W : Nat → World → Prop) (Keep : World → World → Prop) (F : Nat → World → Value → Prop) (hgv : ∀ j < n, ∀ x, gv j = some x → ∀ w v, F j w v → v = .bool x) (hskip : ∀ i < n, want i = false → ∀ w v, F i w v ↔ v = undef) (hwskip : ∀ m w, W m w → W (m + 1) w) (hrefl : ∀ w, Keep w w)
    (hW : W 0 w.drew) (hkeep : ∀ j < n, ∀ w w' v, Keep w w' → F j w v → F j w' v)
    (hstep : ∀ i < n, want i = true → TStep P l n a0 W Keep F i)
    (hfin : ∀ (vs : Nat → Value) (w' : World), W n w' → (∀ i < n, F i w' (vs i)) → wpList P l.toArray Q (l.drop n) (putAll l vs n a0) w') :
    (Code.region id l.toArray true).wp P Q a0 w := by
  have hB' := hB
  simp only [typedG, Bool.and_eq_true, decide_eq_true_eq, List.all_eq_true, List.mem_range] at hB'
  obtain ⟨⟨⟨⟨hn, _⟩, _⟩, _⟩, _⟩ := hB'
  refine wp_region_any hm ?_
  have hsz : l.toArray.size = l.length := by simp
  rw [hsz]
  have h := typed_anyG (Q := Q) hB hgv hkeep hskip hwskip hrefl hstep hfin n (Array.replicate l.length false) a0 w.drew (cnt_all _ n (by omega))
    ⟨⟨by simp, fun j oj _ hl => (by rw [getD_replicate_false] at hl; cases hl), fun t _ ht => getD_in (by simpa using ht) (getD_replicate_false _ _)⟩,
      (by rw [cnt_all _ n (by omega), Nat.sub_self]; exact hW), rfl, rfl, fun _ _ => rfl, fun i _ hl => (by rw [getD_replicate_false] at hl; cases hl)⟩
  rw [show n + (l.length - n) = l.length by omega] at h
  exact h
end
theorem all_lt_succ_w {p : Nat → Prop} {n : Nat} {want : Nat → Bool} (h : ∀ i < n, want i = true → p i) (h1 : want n = true → p n) : ∀ i < n + 1, want i = true → p i := fun i hi => by
  rcases Nat.lt_or_ge i n with h2 | h2
  · exact h i h2
  · have : i = n := by omega
    subst this; exact h1
theorem all_lt_zero_w {p : Nat → Prop} {want : Nat → Bool} : ∀ i < 0, want i = true → p i := fun i h => absurd h (by omega)
end Go.Proofs.Ytlafdpndpjcklaa
