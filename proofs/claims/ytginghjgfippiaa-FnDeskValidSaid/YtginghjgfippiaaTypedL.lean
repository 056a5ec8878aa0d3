/- Regions that draw their order: the typed rule, told which operations have run. No function of the program is walked here. -/
import Derived.Test.YtginghjgfippiaaTypedB
namespace Go.Proofs.Ytginghjgfippiaa
open Go

/-- one more has run -/
def upd (L : Nat → Bool) (i : Nat) : Nat → Bool := fun j => decide (j = i) || L j
section
variable {P : Program} {l : List Oper} {n : Nat} {a0 : Act} {W : (Nat → Bool) → World → Prop} {Keep : Nat → World → World → Prop} {F : Nat → World → Value → Prop}
/-- One operation of the head, at whatever moment it comes up: L are those that have run. -/
def LStep (P : Program) (l : List Oper) (n : Nat) (a0 : Act) (W : (Nat → Bool) → World → Prop) (Keep : Nat → World → World → Prop) (F : Nat → World → Value → Prop) (i : Nat) : Prop :=
  ∀ o, l[i]? = some o → ∀ (L : Nat → Bool) (a : Act) (w : World), L i = false → W L w → (∀ s, (∀ j < n, hdst l j ≠ some s) → a.tmps[s]? = a0.tmps[s]?) →
    (∀ j, Region.waitsFor .any l.toArray i j = true → ∀ d, hdst l j = some d → F j w (a.tmps.getD d undef)) →
    ∀ (K : Act → World → Prop) (Q : Exit → Act → World → Prop), (∀ v w', W (upd L i) w' → Keep i w w' → F i w' v → K (a.put o.dst v) w') → o.wp P a w K Q

structure LInv (l : List Oper) (n : Nat) (a0 : Act) (W : (Nat → Bool) → World → Prop) (F : Nat → World → Value → Prop) (listed : Array Bool) (a : Act) (w : World) : Prop where
  head : HeadInv .any l.toArray n listed
  world : W (fun i => listed.getD i false) w
  defers : a.defers = a0.defers
  size : a.tmps.size = a0.tmps.size
  base : ∀ s, (∀ i < n, listed.getD i false = true → hdst l i ≠ some s) → a.tmps[s]? = a0.tmps[s]?
  vals : ∀ i < n, listed.getD i false = true → ∀ d, hdst l i = some d → F i w (a.tmps.getD d undef)
theorem upd_listed {listed : Array Bool} {i : Nat} (h : i < listed.size) : (fun j => (listed.setIfInBounds i true).getD j false) = upd (fun j => listed.getD j false) i := by
  funext j
  unfold upd
  by_cases hj : j = i
  · subst hj; rw [getD_set_self h]; simp
  · rw [getD_set_ne false (fun e => hj e.symm)]; simp [hj]

theorem typed_anyL {Q : Exit → Act → World → Prop} (hB : typedB l n a0.tmps.size = true) (hkeep : ∀ i < n, ∀ j < n, j ≠ i → ∀ w w' v, Keep i w w' → F j w v → F j w' v)
    (hstep : ∀ i < n, LStep P l n a0 W Keep F i)
    (hfin : ∀ (vs : Nat → Value) (w' : World) (L : Nat → Bool), (∀ i < n, L i = true) → W L w' → (∀ i < n, F i w' (vs i)) → wpList P l.toArray Q (l.drop n) (putAll l vs n a0) w') :
    ∀ (f : Nat) (listed : Array Bool) (a : Act) (w : World), cnt listed n = f → LInv l n a0 W F listed a w → wpAny P .any l.toArray Q (f + (l.length - n)) listed a w := by
  simp only [typedB, Bool.and_eq_true, decide_eq_true_eq, List.all_eq_true, List.mem_range] at hB
  obtain ⟨⟨⟨⟨hn, hsink⟩, hchain⟩, hall⟩, hseq⟩ := hB
  have hn' : n < l.toArray.size := by simpa using hn
  intro f
  induction f with
  | zero =>
    intro listed a w hc inv
    rw [Nat.zero_add]
    have hl1 := cnt_zero hc
    have hls : listed.size = l.length := by simpa using inv.head.size
    have hl := headListed_eq (l := l) (by omega) hls hl1 (fun t ht htl => inv.head.tail t ht (by simpa using htl))
    have hfa : a = putAll l (fun i => match hdst l i with | some d => a.tmps.getD d undef | none => undef) n a0 := by
      obtain ⟨p1, p2, p3, p4⟩ := putAll_spec (l := l) (n := n) (a0 := a0) (fun i => match hdst l i with | some d => a.tmps.getD d undef | none => undef) (fun i hi => (hall i hi).2) n (Nat.le_refl _)
      generalize putAll l (fun i => match hdst l i with | some d => a.tmps.getD d undef | none => undef) n a0 = b at *
      have e1 : a.tmps = b.tmps := by
        apply Array.ext_getElem?
        intro s
        by_cases hex : ∃ i, i < n ∧ hdst l i = some s
        · obtain ⟨i, hi, hd⟩ := hex
          rw [p3 i hi s hd]
          simp only [hd]
          have hsz : s < a.tmps.size := by
            obtain ⟨d, hd2, hdm, _⟩ := hreach_spec (hall i hi).2
            rw [hd] at hd2
            cases hd2
            rw [inv.size]; exact hdm
          simp [hsz]
        · have hno : ∀ i < n, hdst l i ≠ some s := fun i hi e => hex ⟨i, hi, e⟩
          rw [p4 s hno]
          exact inv.base s fun i hi _ => hno i hi
      have e2 : a.defers = b.defers := by rw [inv.defers, p1]
      cases a; cases b
      simp only at e1 e2
      rw [e1, e2]
    have hsz := hfin (fun i => match hdst l i with | some d => a.tmps.getD d undef | none => undef) w _ hl1 inv.world (fun i hi => by
      obtain ⟨d, hd, _, _⟩ := hreach_spec (hall i hi).2
      simp only [hd]
      exact inv.vals i hi (hl1 i hi) d hd)
    rw [← hfa] at hsz
    have := wpAny_of_seq (md := .any) (Q' := Q) (l.drop n) n listed a w (fun j => by simp [List.getElem?_drop]) (by rw [List.length_drop, hl]; exact hseq) hsz
    rwa [List.length_drop] at this
  | succ f ih =>
    intro listed a w hc inv
    have hls : listed.size = l.length := by simpa using inv.head.size
    obtain ⟨i0, hi0, hu0, hbef⟩ := cnt_some (listed := listed) (n := n) (by omega)
    have hi0r : i0 ∈ Region.ready .any l.toArray listed := by
      have h1 := (hall i0 hi0).1
      unfold hplain at h1
      split at h1
      · rename_i o ho
        simp only [Bool.and_eq_true, Array.all_eq_true'] at h1
        refine mem_ready.2 ⟨getD_in (by omega) hu0, o, by simpa using ho, fun e he hb => ?_⟩
        have := h1.2 e he
        simp only [hb, Bool.not_true, Bool.false_or, decide_eq_true_eq] at this
        exact hbef _ this
      · cases h1
    rw [show f + 1 + (l.length - n) = f + (l.length - n) + 1 by omega]
    refine ⟨fun h0 => (by rw [h0] at hi0r; cases hi0r), fun i hi => ?_⟩
    have hin : i < n := by
      rcases Nat.lt_or_ge i n with h | h
      · exact h
      · exact absurd hi (tail_waits hsink hchain hn' inv.head _ i0 rfl hi0 (getD_in (by omega) hu0) i h)
    obtain ⟨hun, o, ho, haft⟩ := mem_ready.1 hi
    have hol : l[i]? = some o := by simpa using ho
    have hgu : o.guard.isNone = true := by
      have h1 := (hall i hin).1
      unfold hplain at h1
      rw [hol] at h1
      simp only [Bool.and_eq_true] at h1
      exact h1.1
    obtain ⟨d, hd, hdm, _⟩ := hreach_spec (hall i hin).2
    have hod : o.dst = some d := by simpa [hdst, hol] using hd
    have hunf := getD_both hun
    unfold wpOp
    simp only [ho, wanted_plain hgu, if_true]
    left
    have hcs := cnt_set (n := n) (by omega) hunf hin
    refine hstep i hin o hol _ a w hunf inv.world (fun s hs => inv.base s fun j hj _ => hs j hj) (fun j hj d' hd' => ?_) _ Q fun v w' hw' hk hv => ?_
    · obtain ⟨oi, hoi, e, he, hb, hon⟩ := Region.waitsFor_spec hj
      have : oi = o := Option.some.inj (hoi.symm.trans ho)
      subst this
      have hl2 := haft e he hb
      rw [hon] at hl2
      have hjn : j < n := by
        have h1 := (hall i hin).1
        unfold hplain at h1
        rw [hol] at h1
        simp only [Bool.and_eq_true, Array.all_eq_true'] at h1
        have := h1.2 e he
        simp only [hb, Bool.not_true, Bool.false_or, decide_eq_true_eq] at this
        omega
      exact inv.vals j hjn hl2 d' hd'
    · rw [hod]
      refine ih _ _ w' (by omega) ⟨inv.head.set hi hin, ?_, ?_, ?_, ?_, ?_⟩
      · show W (fun j => (listed.setIfInBounds i true).getD j false) w'
        rw [upd_listed (by omega)]; exact hw'
      · simpa [Act.put] using inv.defers
      · simpa [Act.put] using inv.size
      · intro s hs
        have hne : d ≠ s := fun e => hs i hin (getD_set_self (by omega)) (by rw [hd, e])
        rw [act_put_other hne]
        exact inv.base s fun j hj hl => hs j hj (getD_set_true hl)
      · intro j hj hl d' hd'
        by_cases hij : i = j
        · subst hij
          rw [hd] at hd'
          cases hd'
          rw [act_put_slot (by rw [inv.size]; exact hdm)]
          exact hv
        · rw [getD_set_ne false hij] at hl
          have hne : d ≠ d' := by
            intro e
            subst e
            obtain ⟨di, hdi, _, hi2⟩ := hreach_spec (hall i hin).2
            obtain ⟨dj, hdj, _, hj2⟩ := hreach_spec (hall j hj).2
            rw [hd] at hdi; cases hdi
            rw [hd'] at hdj; cases hdj
            rcases Nat.lt_or_gt_of_ne hij with h | h
            · exact hj2 i h hd
            · exact hi2 j h hd'
          rw [getD_of (act_put_other hne v)]
          exact hkeep i hin j hj (fun e => hij e.symm) w w' _ hk (inv.vals j hj hl d' hd')

/-- A region that draws its order: each operation of the head is looked at once; behind the head the tail is walked in the text's order. -/
theorem wp_region_typedL {id : Nat} {Q : Exit → Act → World → Prop} {w : World} (n : Nat) (hm : P.follows .mixedOrders = true) (hB : typedB l n a0.tmps.size = true)
    (W : (Nat → Bool) → World → Prop) (Keep : Nat → World → World → Prop) (F : Nat → World → Value → Prop) (hW : W (fun _ => false) w.drew) (hkeep : ∀ i < n, ∀ j < n, j ≠ i → ∀ w w' v, Keep i w w' → F j w v → F j w' v)
    (hstep : ∀ i < n, LStep P l n a0 W Keep F i)
    (hfin : ∀ (vs : Nat → Value) (w' : World) (L : Nat → Bool), (∀ i < n, L i = true) → W L w' → (∀ i < n, F i w' (vs i)) → wpList P l.toArray Q (l.drop n) (putAll l vs n a0) w') :
    (Code.region id l.toArray true).wp P Q a0 w := by
  have hB' := hB
  simp only [typedB, Bool.and_eq_true, decide_eq_true_eq, List.all_eq_true, List.mem_range] at hB'
  obtain ⟨⟨⟨⟨hn, _⟩, _⟩, _⟩, _⟩ := hB'
  refine wp_region_any hm ?_
  have hsz : l.toArray.size = l.length := by simp
  rw [hsz]
  have h := typed_anyL (Q := Q) hB hkeep hstep hfin n (Array.replicate l.length false) a0 w.drew (cnt_all _ n (by omega))
    ⟨⟨by simp, fun j oj _ hl => (by rw [getD_replicate_false] at hl; cases hl), fun t _ ht => getD_in (by simpa using ht) (getD_replicate_false _ _)⟩,
      (by have e : (fun i => (Array.replicate l.length false).getD i false) = fun _ => false := (by funext i; exact getD_replicate_false _ _); show W (fun i => (Array.replicate l.length false).getD i false) w.drew; rw [e]; exact hW), rfl, rfl, fun _ _ => rfl, fun i _ hl => (by rw [getD_replicate_false] at hl; cases hl)⟩
  rw [show n + (l.length - n) = l.length by omega] at h
  exact h
end

end Go.Proofs.Ytginghjgfippiaa
