/- Regions that draw their order: a rule by which each operation is looked at once, whatever the order: what it yields keeps to a predicate. No function of the program is walked here. -/
import Derived.Test.YtginghjgfippiaaBase
import Derived.StillTail
namespace Go.Proofs.Ytginghjgfippiaa
open Go

/-! ### how many of the head's operations are not listed -/
def cnt (listed : Array Bool) (n : Nat) : Nat := (List.range n).countP fun i => !listed.getD i false
theorem cnt_succ (listed : Array Bool) (n : Nat) : cnt listed (n + 1) = cnt listed n + (if listed.getD n false then 0 else 1) := by
  unfold cnt
  rw [List.range_succ, List.countP_append]
  congr 1
  rw [List.countP_cons, List.countP_nil]
  cases listed.getD n false <;> rfl
theorem cnt_congr {a b : Array Bool} : ∀ {n : Nat}, (∀ i < n, a.getD i false = b.getD i false) → cnt a n = cnt b n
  | 0, _ => rfl
  | n + 1, h => by rw [cnt_succ, cnt_succ, cnt_congr (n := n) fun i hi => h i (by omega), h n (by omega)]
theorem getD_set_self {listed : Array Bool} {i : Nat} (h : i < listed.size) : (listed.setIfInBounds i true).getD i false = true := by
  simp [h]
theorem cnt_set {listed : Array Bool} {i : Nat} (hs : i < listed.size) (hu : listed.getD i false = false) : ∀ {n : Nat}, i < n → cnt (listed.setIfInBounds i true) n + 1 = cnt listed n
  | 0, h => absurd h (by omega)
  | n + 1, h => by
    rw [cnt_succ, cnt_succ]
    by_cases hin : i = n
    · subst hin
      rw [getD_set_self hs, hu, cnt_congr (n := i) (b := listed) fun j hj => getD_set_ne false (by omega)]
      simp
    · have := cnt_set hs hu (n := n) (by omega)
      rw [getD_set_ne false hin]
      omega
theorem cnt_le (listed : Array Bool) : ∀ n, cnt listed n ≤ n
  | 0 => by simp [cnt]
  | n + 1 => by
    rw [cnt_succ]
    have := cnt_le listed n
    split <;> omega
theorem cnt_zero {listed : Array Bool} : ∀ {n : Nat}, cnt listed n = 0 → ∀ i < n, listed.getD i false = true
  | 0, _, i, hi => absurd hi (by omega)
  | n + 1, h, i, hi => by
    rw [cnt_succ] at h
    by_cases hin : i = n
    · subst hin
      cases hl : listed.getD i false
      · rw [hl] at h; simp at h
      · rfl
    · exact cnt_zero (n := n) (by omega) i (by omega)
theorem cnt_some {listed : Array Bool} : ∀ {n : Nat}, cnt listed n ≠ 0 → ∃ i < n, listed.getD i false = false ∧ ∀ j < i, listed.getD j false = true
  | 0, h => absurd rfl h
  | n + 1, h => by
    by_cases h0 : cnt listed n = 0
    · rw [cnt_succ, h0] at h
      refine ⟨n, by omega, ?_, fun j hj => cnt_zero h0 j hj⟩
      cases hl : listed.getD n false
      · rfl
      · rw [hl] at h; simp at h
    · obtain ⟨i, hi, h1, h2⟩ := cnt_some h0
      exact ⟨i, by omega, h1, h2⟩
theorem cnt_all (k : Nat) : ∀ n, n ≤ k → cnt (Array.replicate k false) n = n
  | 0, _ => rfl
  | n + 1, h => by rw [cnt_succ, cnt_all k n (by omega), getD_replicate_false]; simp

/-! ### the region's form -/
def hdst (l : List Oper) (i : Nat) : Option Tmp := (l[i]?).bind (·.dst)
def hplain (l : List Oper) (i : Nat) : Bool := match l[i]? with
  | some o => o.guard.isNone && o.after.all fun e => !Region.binds .any e || decide (e.on < i)
  | none => false
def hreach (l : List Oper) (m i : Nat) : Bool := match hdst l i with
  | some d => decide (d < m) && (List.range i).all fun j => hdst l j != some d
  | none => false
def headListed (n k : Nat) : Array Bool := Array.replicate n true ++ Array.replicate k false
def typedB (l : List Oper) (n m : Nat) : Bool :=
  decide (n < l.length) && Region.sinkB .any l.toArray n && Region.chainB .any l.toArray n && ((List.range n).all fun i => hplain l i && hreach l m i) && Region.seqB .any l.toArray (l.length - n) n (headListed n (l.length - n))

/-- what the head has yielded, laid into the frame in the text's order -/
def putAll (l : List Oper) (vs : Nat → Value) : Nat → Act → Act
  | 0, a => a
  | k + 1, a => (putAll l vs k a).put (hdst l k) (vs k)

section
variable {P : Program} {l : List Oper} {n : Nat} {a0 : Act} {W : Nat → World → Prop} {Keep : World → World → Prop} {F : Nat → World → Value → Prop}

/-- One operation of the head, at whatever moment it comes up. -/
def TStep (P : Program) (l : List Oper) (n : Nat) (a0 : Act) (W : Nat → World → Prop) (Keep : World → World → Prop) (F : Nat → World → Value → Prop) (i : Nat) : Prop :=
  ∀ o, l[i]? = some o → ∀ (m : Nat) (a : Act) (w : World), m < n → W m w → (∀ s, (∀ j < n, hdst l j ≠ some s) → a.tmps[s]? = a0.tmps[s]?) →
    (∀ j, Region.waitsFor .any l.toArray i j = true → ∀ d, hdst l j = some d → F j w (a.tmps.getD d undef)) →
    ∀ (K : Act → World → Prop) (Q : Exit → Act → World → Prop), (∀ v w', W (m + 1) w' → Keep w w' → F i w' v → K (a.put o.dst v) w') → o.wp P a w K Q

structure TInv (l : List Oper) (n : Nat) (a0 : Act) (W : Nat → World → Prop) (F : Nat → World → Value → Prop) (listed : Array Bool) (a : Act) (w : World) : Prop where
  head : HeadInv .any l.toArray n listed
  world : W (n - cnt listed n) w
  defers : a.defers = a0.defers
  size : a.tmps.size = a0.tmps.size
  base : ∀ s, (∀ i < n, listed.getD i false = true → hdst l i ≠ some s) → a.tmps[s]? = a0.tmps[s]?
  vals : ∀ i < n, listed.getD i false = true → ∀ d, hdst l i = some d → F i w (a.tmps.getD d undef)

theorem wanted_plain {o : Oper} (h : o.guard.isNone = true) (y : Nat → Option Bool) : Region.wanted o y = true := by
  cases hg : o.guard with
  | none => simp [Region.wanted, hg]
  | some g => rw [hg] at h; cases h

theorem hreach_spec {m i : Nat} (h : hreach l m i = true) : ∃ d, hdst l i = some d ∧ d < m ∧ ∀ j < i, hdst l j ≠ some d := by
  unfold hreach at h
  split at h
  · rename_i d hd
    simp only [Bool.and_eq_true, decide_eq_true_eq, List.all_eq_true, List.mem_range, bne_iff_ne, ne_eq] at h
    exact ⟨d, hd, h.1, h.2⟩
  · cases h

theorem putAll_spec (vs : Nat → Value) (hr : ∀ i < n, hreach l a0.tmps.size i = true) : ∀ k, k ≤ n →
    (putAll l vs k a0).defers = a0.defers ∧ (putAll l vs k a0).tmps.size = a0.tmps.size ∧ (∀ i < k, ∀ d, hdst l i = some d → (putAll l vs k a0).tmps[d]? = some (vs i)) ∧
      (∀ s, (∀ i < k, hdst l i ≠ some s) → (putAll l vs k a0).tmps[s]? = a0.tmps[s]?)
  | 0, _ => ⟨rfl, rfl, fun i hi => absurd hi (by omega), fun _ _ => rfl⟩
  | k + 1, hk => by
    obtain ⟨h1, h2, h3, h4⟩ := putAll_spec vs hr k (by omega)
    obtain ⟨d, hd, hdm, hnew⟩ := hreach_spec (hr k (by omega))
    simp only [putAll, hd, Act.put]
    refine ⟨h1, by simpa using h2, fun i hi d' hd' => ?_, fun s hs => ?_⟩
    · by_cases hik : i = k
      · subst hik
        rw [hd] at hd'
        cases hd'
        simp [h2, hdm]
      · have hne : d ≠ d' := fun e => hnew i (by omega) (by rw [hd', e])
        rw [Array.getElem?_setIfInBounds_ne hne]
        exact h3 i (by omega) d' hd'
    · have hne : d ≠ s := fun e => hs k (by omega) (by rw [hd, e])
      rw [Array.getElem?_setIfInBounds_ne hne]
      exact h4 s fun i hi => hs i (by omega)

theorem act_put_slot {a : Act} {d : Tmp} (h : d < a.tmps.size) (v : Value) : (a.put (some d) v).tmps.getD d undef = v := by
  simp [Act.put, h]
theorem act_put_other {a : Act} {d s : Tmp} (h : d ≠ s) (v : Value) : (a.put (some d) v).tmps[s]? = a.tmps[s]? := by
  simp [Act.put, Array.getElem?_setIfInBounds_ne h]
theorem getD_of {a b : Array Value} {s : Nat} (h : a[s]? = b[s]?) : a.getD s undef = b.getD s undef := by
  rw [Array.getD_eq_getD_getElem?, Array.getD_eq_getD_getElem?, h]

theorem headListed_eq {listed : Array Bool} (hn : n ≤ l.length) (hs : listed.size = l.length) (h1 : ∀ i < n, listed.getD i false = true) (h2 : ∀ t, n ≤ t → t < l.length → listed.getD t true = false) :
    listed = headListed n (l.length - n) := by
  apply Array.ext
  · simp [headListed]; omega
  · intro i hi hi'
    by_cases hin : i < n
    · have := h1 i hin
      simp [hi] at this
      simp [headListed, hin, this]
    · have := h2 i (by omega) (by omega)
      simp [hi] at this
      simp [headListed, Array.getElem_append, hin, this]

theorem typed_any {Q : Exit → Act → World → Prop} (hB : typedB l n a0.tmps.size = true) (hkeep : ∀ j < n, ∀ w w' v, Keep w w' → F j w v → F j w' v)
    (hstep : ∀ i < n, TStep P l n a0 W Keep F i)
    (hfin : ∀ (vs : Nat → Value) (w' : World), W n w' → (∀ i < n, F i w' (vs i)) → wpList P l.toArray Q (l.drop n) (putAll l vs n a0) w') :
    ∀ (f : Nat) (listed : Array Bool) (a : Act) (w : World), cnt listed n = f → TInv l n a0 W F listed a w → wpAny P .any l.toArray Q (f + (l.length - n)) listed a w := by
  simp only [typedB, Bool.and_eq_true, decide_eq_true_eq, List.all_eq_true, List.mem_range] at hB
  obtain ⟨⟨⟨⟨hn, hsink⟩, hchain⟩, hall⟩, hseq⟩ := hB
  have hn' : n < l.toArray.size := by simpa using hn
  intro f
  induction f with
  | zero =>
    intro listed a w hc inv
    rw [Nat.zero_add]
    have hl1 := cnt_zero hc
    have hls : listed.size = l.length := by simpa using inv.head.size
    have hl := headListed_eq (l := l) (by omega) hls hl1 (fun t ht htl => inv.head.tail t ht (by simpa using htl))
    have hfa : a = putAll l (fun i => match hdst l i with | some d => a.tmps.getD d undef | none => undef) n a0 := by
      obtain ⟨p1, p2, p3, p4⟩ := putAll_spec (l := l) (n := n) (a0 := a0) (fun i => match hdst l i with | some d => a.tmps.getD d undef | none => undef) (fun i hi => (hall i hi).2) n (Nat.le_refl _)
      generalize putAll l (fun i => match hdst l i with | some d => a.tmps.getD d undef | none => undef) n a0 = b at *
      have e1 : a.tmps = b.tmps := by
        apply Array.ext_getElem?
        intro s
        by_cases hex : ∃ i, i < n ∧ hdst l i = some s
        · obtain ⟨i, hi, hd⟩ := hex
          rw [p3 i hi s hd]
          simp only [hd]
          have hsz : s < a.tmps.size := by
            obtain ⟨d, hd2, hdm, _⟩ := hreach_spec (hall i hi).2
            rw [hd] at hd2
            cases hd2
            rw [inv.size]; exact hdm
          simp [hsz]
        · have hno : ∀ i < n, hdst l i ≠ some s := fun i hi e => hex ⟨i, hi, e⟩
          rw [p4 s hno]
          exact inv.base s fun i hi _ => hno i hi
      have e2 : a.defers = b.defers := by rw [inv.defers, p1]
      cases a; cases b
      simp only at e1 e2
      rw [e1, e2]
    have hsz := hfin (fun i => match hdst l i with | some d => a.tmps.getD d undef | none => undef) w (by have := inv.world; rw [hc] at this; simpa using this) (fun i hi => by
      obtain ⟨d, hd, _, _⟩ := hreach_spec (hall i hi).2
      simp only [hd]
      exact inv.vals i hi (hl1 i hi) d hd)
    rw [← hfa] at hsz
    have := wpAny_of_seq (md := .any) (Q' := Q) (l.drop n) n listed a w (fun j => by simp [List.getElem?_drop]) (by rw [List.length_drop, hl]; exact hseq) hsz
    rwa [List.length_drop] at this
  | succ f ih =>
    intro listed a w hc inv
    have hls : listed.size = l.length := by simpa using inv.head.size
    obtain ⟨i0, hi0, hu0, hbef⟩ := cnt_some (listed := listed) (n := n) (by omega)
    have hi0r : i0 ∈ Region.ready .any l.toArray listed := by
      have h1 := (hall i0 hi0).1
      unfold hplain at h1
      split at h1
      · rename_i o ho
        simp only [Bool.and_eq_true, Array.all_eq_true'] at h1
        refine mem_ready.2 ⟨getD_in (by omega) hu0, o, by simpa using ho, fun e he hb => ?_⟩
        have := h1.2 e he
        simp only [hb, Bool.not_true, Bool.false_or, decide_eq_true_eq] at this
        exact hbef _ this
      · cases h1
    rw [show f + 1 + (l.length - n) = f + (l.length - n) + 1 by omega]
    refine ⟨fun h0 => (by rw [h0] at hi0r; cases hi0r), fun i hi => ?_⟩
    have hin : i < n := by
      rcases Nat.lt_or_ge i n with h | h
      · exact h
      · exact absurd hi (tail_waits hsink hchain hn' inv.head _ i0 rfl hi0 (getD_in (by omega) hu0) i h)
    obtain ⟨hun, o, ho, haft⟩ := mem_ready.1 hi
    have hol : l[i]? = some o := by simpa using ho
    have hgu : o.guard.isNone = true := by
      have h1 := (hall i hin).1
      unfold hplain at h1
      rw [hol] at h1
      simp only [Bool.and_eq_true] at h1
      exact h1.1
    obtain ⟨d, hd, hdm, _⟩ := hreach_spec (hall i hin).2
    have hod : o.dst = some d := by simpa [hdst, hol] using hd
    have hunf := getD_both hun
    unfold wpOp
    simp only [ho, wanted_plain hgu, if_true]
    left
    have hcs := cnt_set (n := n) (by omega) hunf hin
    have hm : n - cnt listed n < n := by have := cnt_le listed n; omega
    refine hstep i hin o hol (n - cnt listed n) a w hm inv.world (fun s hs => inv.base s fun j hj _ => hs j hj) (fun j hj d' hd' => ?_) _ Q fun v w' hw' hk hv => ?_
    · obtain ⟨oi, hoi, e, he, hb, hon⟩ := Region.waitsFor_spec hj
      have : oi = o := Option.some.inj (hoi.symm.trans ho)
      subst this
      have hl2 := haft e he hb
      rw [hon] at hl2
      have hjn : j < n := by
        have h1 := (hall i hin).1
        unfold hplain at h1
        rw [hol] at h1
        simp only [Bool.and_eq_true, Array.all_eq_true'] at h1
        have := h1.2 e he
        simp only [hb, Bool.not_true, Bool.false_or, decide_eq_true_eq] at this
        omega
      exact inv.vals j hjn hl2 d' hd'
    · rw [hod]
      refine ih _ _ w' (by omega) ⟨inv.head.set hi hin, ?_, ?_, ?_, ?_, ?_⟩
      · have : n - cnt (listed.setIfInBounds i true) n = n - cnt listed n + 1 := by have := cnt_le listed n; omega
        rw [this]; exact hw'
      · simpa [Act.put] using inv.defers
      · simpa [Act.put] using inv.size
      · intro s hs
        have hne : d ≠ s := fun e => hs i hin (getD_set_self (by omega)) (by rw [hd, e])
        rw [act_put_other hne]
        exact inv.base s fun j hj hl => hs j hj (getD_set_true hl)
      · intro j hj hl d' hd'
        by_cases hij : i = j
        · subst hij
          rw [hd] at hd'
          cases hd'
          rw [act_put_slot (by rw [inv.size]; exact hdm)]
          exact hv
        · rw [getD_set_ne false hij] at hl
          have hne : d ≠ d' := by
            intro e
            subst e
            obtain ⟨di, hdi, _, hi2⟩ := hreach_spec (hall i hin).2
            obtain ⟨dj, hdj, _, hj2⟩ := hreach_spec (hall j hj).2
            rw [hd] at hdi; cases hdi
            rw [hd'] at hdj; cases hdj
            rcases Nat.lt_or_gt_of_ne hij with h | h
            · exact hj2 i h hd
            · exact hi2 j h hd'
          rw [getD_of (act_put_other hne v)]
          exact hkeep j hj w w' _ hk (inv.vals j hj hl d' hd')

/-- A region that draws its order: each operation of the head is looked at once; behind the head the tail is walked in the text's order. -/
theorem wp_region_typed {id : Nat} {Q : Exit → Act → World → Prop} {w : World} (n : Nat) (hm : P.follows .mixedOrders = true) (hB : typedB l n a0.tmps.size = true)
    (W : Nat → World → Prop) (Keep : World → World → Prop) (F : Nat → World → Value → Prop) (hW : W 0 w.drew) (hkeep : ∀ j < n, ∀ w w' v, Keep w w' → F j w v → F j w' v)
    (hstep : ∀ i < n, TStep P l n a0 W Keep F i)
    (hfin : ∀ (vs : Nat → Value) (w' : World), W n w' → (∀ i < n, F i w' (vs i)) → wpList P l.toArray Q (l.drop n) (putAll l vs n a0) w') :
    (Code.region id l.toArray true).wp P Q a0 w := by
  have hB' := hB
  simp only [typedB, Bool.and_eq_true, decide_eq_true_eq, List.all_eq_true, List.mem_range] at hB'
  obtain ⟨⟨⟨⟨hn, _⟩, _⟩, _⟩, _⟩ := hB'
  refine wp_region_any hm ?_
  have hsz : l.toArray.size = l.length := by simp
  rw [hsz]
  have h := typed_any (Q := Q) hB hkeep hstep hfin n (Array.replicate l.length false) a0 w.drew (cnt_all _ n (by omega))
    ⟨⟨by simp, fun j oj _ hl => (by rw [getD_replicate_false] at hl; cases hl), fun t _ ht => getD_in (by simpa using ht) (getD_replicate_false _ _)⟩,
      (by rw [cnt_all _ n (by omega), Nat.sub_self]; exact hW), rfl, rfl, fun _ _ => rfl, fun i _ hl => (by rw [getD_replicate_false] at hl; cases hl)⟩
  rw [show n + (l.length - n) = l.length by omega] at h
  exact h
end

theorem all_lt_zero {p : Nat → Prop} : ∀ i < 0, p i := fun i h => absurd h (by omega)
theorem all_lt_succ {p : Nat → Prop} {n : Nat} (h : ∀ i < n, p i) (h1 : p n) : ∀ i < n + 1, p i := fun i hi => by
  rcases Nat.lt_or_ge i n with h2 | h2
  · exact h i h2
  · have : i = n := by omega
    subst this; exact h1

end Go.Proofs.Ytginghjgfippiaa
