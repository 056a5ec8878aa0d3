/- Regions that draw their order and have no tail: the typed rule, told which operations have run. No function of the program is walked here. -/
import Derived.Test.YtginghjgfippiaaTypedL
namespace Go.Proofs.Ytginghjgfippiaa
open Go

def hreach0 (l : List Oper) (m i : Nat) : Bool := match hdst l i with
  | some d => decide (d < m) && (List.range i).all fun j => hdst l j != some d
  | none => true
def typedA (l : List Oper) (m : Nat) : Bool := (List.range l.length).all fun i => hplain l i && hreach0 l m i
theorem hreach0_spec {l : List Oper} {m i : Nat} {d : Tmp} (h : hreach0 l m i = true) (hd : hdst l i = some d) : d < m ∧ ∀ j < i, hdst l j ≠ some d := by
  unfold hreach0 at h
  rw [hd] at h
  simp only [Bool.and_eq_true, decide_eq_true_eq, List.all_eq_true, List.mem_range, bne_iff_ne, ne_eq] at h
  exact h
/-- one operation, at whatever moment it comes up: L are those that have run; what it waits for has -/
def LStepA (P : Program) (l : List Oper) (n : Nat) (a0 : Act) (W : (Nat → Bool) → World → Prop) (Keep : Nat → World → World → Prop) (F : Nat → World → Value → Prop) (i : Nat) : Prop :=
  ∀ o, l[i]? = some o → ∀ (L : Nat → Bool) (a : Act) (w : World), L i = false → W L w → (∀ s, (∀ j < n, hdst l j ≠ some s) → a.tmps[s]? = a0.tmps[s]?) →
    (∀ j, Region.waitsFor .any l.toArray i j = true → ∀ d, hdst l j = some d → F j w (a.tmps.getD d undef)) → (∀ j, Region.waitsFor .any l.toArray i j = true → L j = true) →
    ∀ (K : Act → World → Prop) (Q : Exit → Act → World → Prop), (∀ v w', W (upd L i) w' → Keep i w w' → F i w' v → K (a.put o.dst v) w') → o.wp P a w K Q
section
variable {P : Program} {l : List Oper} {n : Nat} {a0 : Act} {W : (Nat → Bool) → World → Prop} {Keep : Nat → World → World → Prop} {F : Nat → World → Value → Prop}
structure TInvAL (l : List Oper) (a0 : Act) (W : (Nat → Bool) → World → Prop) (F : Nat → World → Value → Prop) (listed : Array Bool) (a : Act) (w : World) : Prop where
  head : HeadInv .any l.toArray l.length listed
  world : W (fun i => listed.getD i false) w
  defers : a.defers = a0.defers
  size : a.tmps.size = a0.tmps.size
  base : ∀ s, (∀ i < l.length, listed.getD i false = true → hdst l i ≠ some s) → a.tmps[s]? = a0.tmps[s]?
  vals : ∀ i < l.length, listed.getD i false = true → ∀ d, hdst l i = some d → F i w (a.tmps.getD d undef)
  none : ∀ i < l.length, listed.getD i false = true → hdst l i = none → ∃ v, F i w v
theorem putAll_spec0 (vs : Nat → Value) (hr : ∀ i < n, hreach0 l a0.tmps.size i = true) : ∀ k, k ≤ n →
    (putAll l vs k a0).defers = a0.defers ∧ (putAll l vs k a0).tmps.size = a0.tmps.size ∧ (∀ i < k, ∀ d, hdst l i = some d → (putAll l vs k a0).tmps[d]? = some (vs i)) ∧
      (∀ s, (∀ i < k, hdst l i ≠ some s) → (putAll l vs k a0).tmps[s]? = a0.tmps[s]?)
  | 0, _ => ⟨rfl, rfl, fun i hi => absurd hi (by omega), fun _ _ => rfl⟩
  | k + 1, hk => by
    obtain ⟨h1, h2, h3, h4⟩ := putAll_spec0 vs hr k (by omega)
    cases hd : hdst l k with
    | none =>
      have e : putAll l vs (k + 1) a0 = putAll l vs k a0 := by simp only [putAll, hd, Act.put]
      rw [e]
      refine ⟨h1, h2, fun i hi d' hd' => ?_, fun s hs => h4 s fun i hi => hs i (by omega)⟩
      by_cases hik : i = k
      · subst hik; rw [hd] at hd'; cases hd'
      · exact h3 i (by omega) d' hd'
    | some d =>
      obtain ⟨hdm, hnew⟩ := hreach0_spec (hr k (by omega)) hd
      simp only [putAll, hd, Act.put]
      refine ⟨h1, by simpa using h2, fun i hi d' hd' => ?_, fun s hs => ?_⟩
      · by_cases hik : i = k
        · subst hik
          rw [hd] at hd'
          cases hd'
          simp [h2, hdm]
        · have hne : d ≠ d' := fun e => hnew i (by omega) (by rw [hd', e])
          rw [Array.getElem?_setIfInBounds_ne hne]
          exact h3 i (by omega) d' hd'
      · have hne : d ≠ s := fun e => hs k (by omega) (by rw [hd, e])
        rw [Array.getElem?_setIfInBounds_ne hne]
        exact h4 s fun i hi => hs i (by omega)
theorem typed_allL {Q : Exit → Act → World → Prop} (hB : typedA l a0.tmps.size = true) (hkeep : ∀ i < l.length, ∀ j < l.length, j ≠ i → ∀ w w' v, Keep i w w' → F j w v → F j w' v)
    (hstep : ∀ i < l.length, LStepA P l l.length a0 W Keep F i)
    (hfin : ∀ (vs : Nat → Value) (w' : World) (L : Nat → Bool), (∀ i < l.length, L i = true) → W L w' → (∀ i < l.length, F i w' (vs i)) → Q .normal (putAll l vs l.length a0) w') :
    ∀ (f : Nat) (listed : Array Bool) (a : Act) (w : World), cnt listed l.length = f → TInvAL l a0 W F listed a w → wpAny P .any l.toArray Q f listed a w := by
  simp only [typedA, List.all_eq_true, List.mem_range, Bool.and_eq_true] at hB
  intro f
  induction f with
  | zero =>
    intro listed a w hc inv
    have hl1 := cnt_zero hc
    refine ⟨?_, ?_⟩
    · cases hr : Region.ready .any l.toArray listed with
      | nil => rfl
      | cons i r =>
        have hi : i ∈ Region.ready .any l.toArray listed := by rw [hr]; simp
        obtain ⟨hun, o, ho, _⟩ := mem_ready.1 hi
        have hil : i < l.length := by
          have := (List.getElem?_eq_some_iff.1 (show l[i]? = some o by simpa using ho)).1; exact this
        have := hl1 i hil
        rw [getD_both hun] at this
        cases this
    · have hfa : ∀ vs : Nat → Value, (∀ i < l.length, ∀ d, hdst l i = some d → vs i = a.tmps.getD d undef) → a = putAll l vs l.length a0 := by
        intro vs hvs
        obtain ⟨p1, p2, p3, p4⟩ := putAll_spec0 (l := l) (n := l.length) (a0 := a0) vs (fun i hi => (hB i hi).2) l.length (Nat.le_refl _)
        generalize putAll l vs l.length a0 = b at *
        have e1 : a.tmps = b.tmps := by
          apply Array.ext_getElem?
          intro s
          by_cases hex : ∃ i, i < l.length ∧ hdst l i = some s
          · obtain ⟨i, hi, hd⟩ := hex
            rw [p3 i hi s hd, hvs i hi s hd]
            have hsz : s < a.tmps.size := by rw [inv.size]; exact (hreach0_spec (hB i hi).2 hd).1
            simp [hsz]
          · have hno : ∀ i < l.length, hdst l i ≠ some s := fun i hi e => hex ⟨i, hi, e⟩
            rw [p4 s hno]
            exact inv.base s fun i hi _ => hno i hi
        have e2 : a.defers = b.defers := by rw [inv.defers, p1]
        cases a; cases b
        simp only at e1 e2
        rw [e1, e2]
      have hex : ∀ i, ∃ v, i < l.length → (F i w v ∧ ∀ d, hdst l i = some d → v = a.tmps.getD d undef) := by
        intro i
        by_cases hi : i < l.length
        · cases hd : hdst l i with
          | none =>
            obtain ⟨v, hv⟩ := inv.none i hi (hl1 i hi) hd
            exact ⟨v, fun _ => ⟨hv, fun d e => by cases e⟩⟩
          | some d => exact ⟨a.tmps.getD d undef, fun _ => ⟨inv.vals i hi (hl1 i hi) d hd, fun d' e => by injection e with e; rw [e]⟩⟩
        · exact ⟨undef, fun h => absurd h hi⟩
      have hvs : ∀ i < l.length, F i w ((hex i).choose) ∧ ∀ d, hdst l i = some d → (hex i).choose = a.tmps.getD d undef := fun i hi => (hex i).choose_spec hi
      have hq := hfin (fun i => (hex i).choose) w _ hl1 inv.world (fun i hi => (hvs i hi).1)
      rw [← hfa _ (fun i hi => (hvs i hi).2)] at hq
      exact hq
  | succ f ih =>
    intro listed a w hc inv
    have hls : listed.size = l.length := by simpa using inv.head.size
    obtain ⟨i0, hi0, hu0, hbef⟩ := cnt_some (listed := listed) (n := l.length) (by omega)
    have hi0r : i0 ∈ Region.ready .any l.toArray listed := by
      have h1 := (hB i0 hi0).1
      unfold hplain at h1
      split at h1
      · rename_i o ho
        simp only [Bool.and_eq_true, Array.all_eq_true'] at h1
        refine mem_ready.2 ⟨getD_in (by omega) hu0, o, by simpa using ho, fun e he hb => ?_⟩
        have := h1.2 e he
        simp only [hb, Bool.not_true, Bool.false_or, decide_eq_true_eq] at this
        exact hbef _ this
      · cases h1
    refine ⟨fun h0 => (by rw [h0] at hi0r; cases hi0r), fun i hi => ?_⟩
    obtain ⟨hun, o, ho, haft⟩ := mem_ready.1 hi
    have hol : l[i]? = some o := by simpa using ho
    have hin : i < l.length := (List.getElem?_eq_some_iff.1 hol).1
    have hgu : o.guard.isNone = true := by
      have h1 := (hB i hin).1
      unfold hplain at h1
      rw [hol] at h1
      simp only [Bool.and_eq_true] at h1
      exact h1.1
    have hunf := getD_both hun
    unfold wpOp
    simp only [ho, wanted_plain hgu, if_true]
    left
    have hcs := cnt_set (n := l.length) (by omega) hunf hin
    refine hstep i hin o hol _ a w hunf inv.world (fun s hs => inv.base s fun j hj _ => hs j hj) (fun j hj d' hd' => ?_) (fun j hj => by obtain ⟨oi, hoi, e, he, hb, hon⟩ := Region.waitsFor_spec hj; have h9 : oi = o := Option.some.inj (hoi.symm.trans ho); subst h9; have h8 := haft e he hb; rw [hon] at h8; exact h8) _ Q fun v w' hw' hk hv => ?_
    · obtain ⟨oi, hoi, e, he, hb, hon⟩ := Region.waitsFor_spec hj
      have : oi = o := Option.some.inj (hoi.symm.trans ho)
      subst this
      have hl2 := haft e he hb
      rw [hon] at hl2
      have hjn : j < l.length := by
        have h1 := (hB i hin).1
        unfold hplain at h1
        rw [hol] at h1
        simp only [Bool.and_eq_true, Array.all_eq_true'] at h1
        have := h1.2 e he
        simp only [hb, Bool.not_true, Bool.false_or, decide_eq_true_eq] at this
        omega
      exact inv.vals j hjn hl2 d' hd'
    · have hod : o.dst = hdst l i := by simp [hdst, hol]
      rw [hod]
      refine ih _ _ w' (by omega) ⟨inv.head.set hi hin, ?_, ?_, ?_, ?_, ?_, ?_⟩
      · show W (fun j => (listed.setIfInBounds i true).getD j false) w'
        rw [upd_listed (by omega)]; exact hw'
      · cases hd : hdst l i <;> simpa [Act.put] using inv.defers
      · cases hd : hdst l i <;> simpa [Act.put] using inv.size
      · intro s hs
        have hb0 := inv.base s fun j hj hl => hs j hj (getD_set_true hl)
        cases hd : hdst l i with
        | none => exact hb0
        | some d =>
          have hne : d ≠ s := fun e => hs i hin (getD_set_self (by omega)) (by rw [hd, e])
          rw [act_put_other hne]
          exact hb0
      · intro j hj hl d' hd'
        by_cases hij : i = j
        · subst hij
          rw [hd', act_put_slot (by rw [inv.size]; exact (hreach0_spec (hB i hin).2 hd').1)]
          exact hv
        · rw [getD_set_ne false hij] at hl
          have hv2 := hkeep i hin j hj (fun e => hij e.symm) w w' _ hk (inv.vals j hj hl d' hd')
          cases hd : hdst l i with
          | none => exact hv2
          | some d =>
            have hne : d ≠ d' := by
              intro e
              subst e
              rcases Nat.lt_or_gt_of_ne hij with h | h
              · exact (hreach0_spec (hB j hj).2 hd').2 i h hd
              · exact (hreach0_spec (hB i hin).2 hd).2 j h hd'
            rw [getD_of (act_put_other hne v)]
            exact hv2
      · intro j hj hl hd'
        by_cases hij : i = j
        · subst hij; exact ⟨v, hv⟩
        · rw [getD_set_ne false hij] at hl
          obtain ⟨v2, hv2⟩ := inv.none j hj hl hd'
          exact ⟨v2, hkeep i hin j hj (fun e => hij e.symm) w w' _ hk hv2⟩
/-- A region that draws its order, without a tail: each operation is looked at once. -/
theorem wp_region_allL {id : Nat} {Q : Exit → Act → World → Prop} {w : World} (n : Nat) (hn : l.length = n) (hm : P.follows .mixedOrders = true) (hB : typedA l a0.tmps.size = true)
    (W : (Nat → Bool) → World → Prop) (Keep : Nat → World → World → Prop) (F : Nat → World → Value → Prop) (hW : W (fun _ => false) w.drew) (hkeep : ∀ i < n, ∀ j < n, j ≠ i → ∀ w w' v, Keep i w w' → F j w v → F j w' v)
    (hstep : ∀ i < n, LStepA P l n a0 W Keep F i)
    (hfin : ∀ (vs : Nat → Value) (w' : World) (L : Nat → Bool), (∀ i < n, L i = true) → W L w' → (∀ i < n, F i w' (vs i)) → wpList P l.toArray Q (l.drop n) (putAll l vs n a0) w') :
    (Code.region id l.toArray true).wp P Q a0 w := by
  subst hn
  refine wp_region_any hm ?_
  have hsz : l.toArray.size = l.length := by simp
  rw [hsz]
  exact typed_allL (Q := Q) hB hkeep hstep (fun vs w' L h0 h1 h2 => by have h3 := hfin vs w' L h0 h1 h2; rw [List.drop_length] at h3; exact h3) l.length (Array.replicate l.length false) a0 w.drew (cnt_all _ l.length (by omega))
    ⟨⟨by simp, fun j oj _ hl => (by rw [getD_replicate_false] at hl; cases hl), fun t h1 ht => absurd ht (by simp; omega)⟩,
      (by have e : (fun i => (Array.replicate l.length false).getD i false) = fun _ => false := (by funext i; exact getD_replicate_false _ _); show W (fun i => (Array.replicate l.length false).getD i false) w.drew; rw [e]; exact hW), rfl, rfl, fun _ _ => rfl, fun i _ hl => (by rw [getD_replicate_false] at hl; cases hl), fun i _ hl => (by rw [getD_replicate_false] at hl; cases hl)⟩
end

end Go.Proofs.Ytginghjgfippiaa
