import Derived.Test.YtmboieajfdkllaaGreatU01
namespace Go.Proofs.YtmboieajfdkllaaGreat
open Go
def updd (L : Nat -> Bool) (i : Nat) : Nat -> Bool := fun j => decide (j = i) || L j
section
variable {P : Program} {l : List Oper} {n : Nat} {a0 : Act} {W : (Nat -> Bool) -> World -> Prop} {Keep : Nat -> World -> World -> Prop} {F : Nat -> World -> Value -> Prop}
def LStepd (P : Program) (l : List Oper) (n : Nat) (a0 : Act) (W : (Nat -> Bool) -> World -> Prop) (Keep : Nat -> World -> World -> Prop) (F : Nat -> World -> Value -> Prop) (i : Nat) : Prop :=
 ∀ o, l[i]? = some o -> ∀ (L : Nat -> Bool) (a : Act) (w : World), L i = false -> W L w -> (∀ s, (∀ j < n, hdst l j ≠ some s) -> a.tmps[s]? = a0.tmps[s]?) →
  (∀ j, Region.waitsFor .any l.toArray i j = true -> ∀ d, hdst l j = some d -> F j w (a.tmps.getD d undef)) →
  ∀ (K : Act -> World -> Prop) (Q : Exit -> Act -> World -> Prop), (∀ v w', W (updd L i) w' -> Keep i w w' -> F i w' v -> K (a.put o.dst v) w') -> o.wp P a w K Q
structure LInvd (l : List Oper) (n : Nat) (a0 : Act) (W : (Nat -> Bool) -> World -> Prop) (F : Nat -> World -> Value -> Prop) (listed : Array Bool) (a : Act) (w : World) : Prop where
 head : HeadInv .any l.toArray n listed
 world : W (fun i => listed.getD i false) w
 defers : a.defers = a0.defers
 size : a.tmps.size = a0.tmps.size
 base : ∀ s, (∀ i < n, listed.getD i false = true -> hdst l i ≠ some s) -> a.tmps[s]? = a0.tmps[s]?
 vals : ∀ i < n, listed.getD i false = true -> ∀ d, hdst l i = some d -> F i w (a.tmps.getD d undef)
theorem ZLd {listed : Array Bool} {i : Nat} (h : i < listed.size) : (fun j => (listed.setIfInBounds i true).getD j false) = updd (fun j => listed.getD j false) i := by
 funext j
 unfold updd
 by_cases hj : j = i
 ·subst hj; rw [xn h]; simp
 rw [getD_set_ne false (fun e => hj e.symm)]; simp [hj]
theorem WYd {Q : Exit -> Act -> World -> Prop} (hB : jx l n a0.tmps.size = true) (hkeep : ∀ i < n, ∀ j < n, j ≠ i -> ∀ w w' v, Keep i w w' -> F j w v -> F j w' v)
  (hstep : ∀ i < n, LStepd P l n a0 W Keep F i)
  (hfin : ∀ (vs : Nat -> Value) (w' : World) (L : Nat -> Bool), (∀ i < n, L i = true) -> W L w' -> (∀ i < n, F i w' (vs i)) -> wpList P l.toArray Q (l.drop n) (qF l vs n a0) w') :
  ∀ (f : Nat) (listed : Array Bool) (a : Act) (w : World), cnt listed n = f -> LInvd l n a0 W F listed a w -> wpAny P .any l.toArray Q (f + (l.length - n)) listed a w := by
 simp only [jx, Bool.and_eq_true, decide_eq_true_eq, List.all_eq_true, List.mem_range] at hB
 obtain ⟨⟨⟨⟨hn, hsink⟩, hchain⟩, hall⟩, hseq⟩ := hB
 have hn' : n < l.toArray.size := by simpa using hn
 intro f
 induction f with
 | zero =>
  intro listed a w hc inv
  rw [Nat.zero_add]
  have hl1 := xo hc
  have hls : listed.size = l.length := by simpa using inv.head.size
  have hl := ZW (l := l) (by omega) hls hl1 (fun t ht htl => inv.head.tail t ht (by simpa using htl))
  have hfa : a = qF l (fun i => match hdst l i with | some d => a.tmps.getD d undef | none => undef) n a0 := by
   obtain ⟨p1, p2, p3, p4⟩ := vw (l := l) (n := n) (a0 := a0) (fun i => match hdst l i with | some d => a.tmps.getD d undef | none => undef) (fun i hi => (hall i hi).2) n (Nat.le_refl _)
   generalize qF l (fun i => match hdst l i with | some d => a.tmps.getD d undef | none => undef) n a0 = b at *
   have e1 : a.tmps = b.tmps := by
    apply Array.ext_getElem?
    intro s
    by_cases hex : ∃ i, i < n /\ hdst l i = some s
    ·obtain ⟨i, hi, hd⟩ := hex
     rw [p3 i hi s hd]
     simp only [hd]
     have hsz : s < a.tmps.size := by
      obtain ⟨d, hd2, hdm, _⟩ := zS (hall i hi).2
      rw [hd] at hd2
      cases hd2
      rw [inv.size]; exact hdm
     simp [hsz]
    have hno : ∀ i < n, hdst l i ≠ some s := fun i hi e => hex ⟨i, hi, e⟩
    rw [p4 s hno]
    exact inv.base s fun i hi _ => hno i hi
   have e2 : a.defers = b.defers := by rw [inv.defers, p1]
   cases a; cases b
   simp only at e1 e2
   rw [e1, e2]
  have hsz := hfin (fun i => match hdst l i with | some d => a.tmps.getD d undef | none => undef) w _ hl1 inv.world (fun i hi => by
   obtain ⟨d, hd, _, _⟩ := zS (hall i hi).2
   simp only [hd]
   exact inv.vals i hi (hl1 i hi) d hd)
  rw [<- hfa] at hsz
  have := wpAny_of_seq (md := .any) (Q' := Q) (l.drop n) n listed a w (fun j => by simp [List.getElem?_drop]) (by rw [List.length_drop, hl]; exact hseq) hsz
  rwa [List.length_drop] at this
 | succ f ih =>
  intro listed a w hc inv
  have hls : listed.size = l.length := by simpa using inv.head.size
  obtain ⟨i0, hi0, hu0, hbef⟩ := kf (listed := listed) (n := n) (by omega)
  have hi0r : i0 ∈ Region.ready .any l.toArray listed := by
   have h1 := (hall i0 hi0).1
   unfold jc at h1
   split at h1
   ·rename_i o ho
    simp only [Bool.and_eq_true, Array.all_eq_true'] at h1
    refine mem_ready.2 ⟨getD_in (by omega) hu0, o, by simpa using ho, fun e he hb => ?_⟩
    have := h1.2 e he
    simp only [hb, Bool.not_true, Bool.false_or, decide_eq_true_eq] at this
    exact hbef _ this
   cases h1
  rw [show f + 1 + (l.length - n) = f + (l.length - n) + 1 by omega]
  refine ⟨fun h0 => (by rw [h0] at hi0r; cases hi0r), fun i hi => ?_⟩
  have hin : i < n := by
   rcases Nat.lt_or_ge i n with h | h
   ·exact h
   exact absurd hi (tail_waits hsink hchain hn' inv.head _ i0 rfl hi0 (getD_in (by omega) hu0) i h)
  obtain ⟨hun, o, ho, haft⟩ := mem_ready.1 hi
  have hol : l[i]? = some o := by simpa using ho
  have hgu : o.guard.isNone = true := by
   have h1 := (hall i hin).1
   unfold jc at h1
   rw [hol] at h1
   simp only [Bool.and_eq_true] at h1
   exact h1.1
  obtain ⟨d, hd, hdm, _⟩ := zS (hall i hin).2
  have hod : o.dst = some d := by simpa [hdst, hol] using hd
  have hunf := getD_both hun
  unfold wpOp
  simp only [ho, vv hgu, if_true]
  left
  have hcs := ke (n := n) (by omega) hunf hin
  refine hstep i hin o hol _ a w hunf inv.world (fun s hs => inv.base s fun j hj _ => hs j hj) (fun j hj d' hd' => ?_) _ Q fun v w' hw' hk hv => ?_
  ·obtain ⟨oi, hoi, e, he, hb, hon⟩ := Region.waitsFor_spec hj
   have : oi = o := Option.some.inj (hoi.symm.trans ho)
   subst this
   have hl2 := haft e he hb
   rw [hon] at hl2
   have hjn : j < n := by
    have h1 := (hall i hin).1
    unfold jc at h1
    rw [hol] at h1
    simp only [Bool.and_eq_true, Array.all_eq_true'] at h1
    have := h1.2 e he
    simp only [hb, Bool.not_true, Bool.false_or, decide_eq_true_eq] at this
    omega
   exact inv.vals j hjn hl2 d' hd'
  rw [hod]
  refine ih _ _ w' (by omega) ⟨inv.head.set hi hin, ?_, ?_, ?_, ?_, ?_⟩
  ·show W (fun j => (listed.setIfInBounds i true).getD j false) w'
   rw [ZLd (by omega)]; exact hw'
  ·simpa [Act.put] using inv.defers
  ·simpa [Act.put] using inv.size
  ·intro s hs
   have hne : d ≠ s := fun e => hs i hin (xn (by omega)) (by rw [hd, e])
   rw [jd hne]
   exact inv.base s fun j hj hl => hs j hj (getD_set_true hl)
  intro j hj hl d' hd'
  by_cases hij : i = j
  ·subst hij
   rw [hd] at hd'
   cases hd'
   rw [ZU (by rw [inv.size]; exact hdm)]
   exact hv
  rw [getD_set_ne false hij] at hl
  have hne : d ≠ d' := by
   intro e
   subst e
   obtain ⟨di, hdi, _, hi2⟩ := zS (hall i hin).2
   obtain ⟨dj, hdj, _, hj2⟩ := zS (hall j hj).2
   rw [hd] at hdi; cases hdi
   rw [hd'] at hdj; cases hdj
   rcases Nat.lt_or_gt_of_ne hij with h | h
   ·exact hj2 i h hd
   exact hi2 j h hd'
  rw [ZV (jd hne v)]
  exact hkeep i hin j hj (fun e => hij e.symm) w w' _ hk (inv.vals j hj hl d' hd')
theorem YDd {id : Nat} {Q : Exit -> Act -> World -> Prop} {w : World} (n : Nat) (hm : P.follows .mixedOrders = true) (hB : jx l n a0.tmps.size = true)
  (W : (Nat -> Bool) -> World -> Prop) (Keep : Nat -> World -> World -> Prop) (F : Nat -> World -> Value -> Prop) (hW : W (fun _ => false) w.drew) (hkeep : ∀ i < n, ∀ j < n, j ≠ i -> ∀ w w' v, Keep i w w' -> F j w v -> F j w' v)
  (hstep : ∀ i < n, LStepd P l n a0 W Keep F i)
  (hfin : ∀ (vs : Nat -> Value) (w' : World) (L : Nat -> Bool), (∀ i < n, L i = true) -> W L w' -> (∀ i < n, F i w' (vs i)) -> wpList P l.toArray Q (l.drop n) (qF l vs n a0) w') :
  (Code.region id l.toArray true).wp P Q a0 w := by
 have hB' := hB
 simp only [jx, Bool.and_eq_true, decide_eq_true_eq, List.all_eq_true, List.mem_range] at hB'
 obtain ⟨⟨⟨⟨hn, _⟩, _⟩, _⟩, _⟩ := hB'
 refine wp_region_any hm ?_
 have hsz : l.toArray.size = l.length := by simp
 rw [hsz]
 have h := WYd (Q := Q) hB hkeep hstep hfin n (Array.replicate l.length false) a0 w.drew (xp _ n (by omega))
  ⟨⟨by simp, fun j oj _ hl => (by rw [getD_replicate_false] at hl; cases hl), fun t _ ht => getD_in (by simpa using ht) (getD_replicate_false _ _)⟩,
   (by have e : (fun i => (Array.replicate l.length false).getD i false) = fun _ => false := (by funext i; exact getD_replicate_false _ _); show W (fun i => (Array.replicate l.length false).getD i false) w.drew; rw [e]; exact hW), rfl, rfl, fun _ _ => rfl, fun i _ hl => (by rw [getD_replicate_false] at hl; cases hl)⟩
 rw [show n + (l.length - n) = l.length by omega] at h
 exact h
end
def xHd (l : List Oper) (m i : Nat) : Bool := match hdst l i with
 | some d => decide (d < m) && (List.range i).all fun j => hdst l j != some d
 | none => true
def kDd (l : List Oper) (m : Nat) : Bool := (List.range l.length).all fun i => jc l i && xHd l m i
theorem ynd {l : List Oper} {m i : Nat} {d : Tmp} (h : xHd l m i = true) (hd : hdst l i = some d) : d < m /\ ∀ j < i, hdst l j ≠ some d := by
 unfold xHd at h
 rw [hd] at h
 simp only [Bool.and_eq_true, decide_eq_true_eq, List.all_eq_true, List.mem_range, bne_iff_ne, ne_eq] at h
 exact h
def YXd (P : Program) (l : List Oper) (n : Nat) (a0 : Act) (W : (Nat -> Bool) -> World -> Prop) (Keep : Nat -> World -> World -> Prop) (F : Nat -> World -> Value -> Prop) (i : Nat) : Prop :=
 ∀ o, l[i]? = some o -> ∀ (L : Nat -> Bool) (a : Act) (w : World), L i = false -> W L w -> (∀ s, (∀ j < n, hdst l j ≠ some s) -> a.tmps[s]? = a0.tmps[s]?) →
  (∀ j, Region.waitsFor .any l.toArray i j = true -> ∀ d, hdst l j = some d -> F j w (a.tmps.getD d undef)) -> (∀ j, Region.waitsFor .any l.toArray i j = true -> L j = true) →
  ∀ (K : Act -> World -> Prop) (Q : Exit -> Act -> World -> Prop), (∀ v w', W (updd L i) w' -> Keep i w w' -> F i w' v -> K (a.put o.dst v) w') -> o.wp P a w K Q
section
variable {P : Program} {l : List Oper} {n : Nat} {a0 : Act} {W : (Nat -> Bool) -> World -> Prop} {Keep : Nat -> World -> World -> Prop} {F : Nat -> World -> Value -> Prop}
structure TInvALd (l : List Oper) (a0 : Act) (W : (Nat -> Bool) -> World -> Prop) (F : Nat -> World -> Value -> Prop) (listed : Array Bool) (a : Act) (w : World) : Prop where
 head : HeadInv .any l.toArray l.length listed
 world : W (fun i => listed.getD i false) w
 defers : a.defers = a0.defers
 size : a.tmps.size = a0.tmps.size
 base : ∀ s, (∀ i < l.length, listed.getD i false = true -> hdst l i ≠ some s) -> a.tmps[s]? = a0.tmps[s]?
 vals : ∀ i < l.length, listed.getD i false = true -> ∀ d, hdst l i = some d -> F i w (a.tmps.getD d undef)
 none : ∀ i < l.length, listed.getD i false = true -> hdst l i = none -> ∃ v, F i w v
theorem yod (vs : Nat -> Value) (hr : ∀ i < n, xHd l a0.tmps.size i = true) : ∀ k, k <= n →
  (qF l vs k a0).defers = a0.defers /\ (qF l vs k a0).tmps.size = a0.tmps.size /\ (∀ i < k, ∀ d, hdst l i = some d -> (qF l vs k a0).tmps[d]? = some (vs i)) ∧
   (∀ s, (∀ i < k, hdst l i ≠ some s) -> (qF l vs k a0).tmps[s]? = a0.tmps[s]?)
 | 0, _ => ⟨rfl, rfl, fun i hi => absurd hi (by omega), fun _ _ => rfl⟩
 | k + 1, hk => by
  obtain ⟨h1, h2, h3, h4⟩ := yod vs hr k (by omega)
  cases hd : hdst l k with
  | none =>
   have e : qF l vs (k + 1) a0 = qF l vs k a0 := by simp only [qF, hd, Act.put]
   rw [e]
   refine ⟨h1, h2, fun i hi d' hd' => ?_, fun s hs => h4 s fun i hi => hs i (by omega)⟩
   by_cases hik : i = k
   ·subst hik; rw [hd] at hd'; cases hd'
   exact h3 i (by omega) d' hd'
  | some d =>
   obtain ⟨hdm, hnew⟩ := ynd (hr k (by omega)) hd
   simp only [qF, hd, Act.put]
   refine ⟨h1, by simpa using h2, fun i hi d' hd' => ?_, fun s hs => ?_⟩
   ·by_cases hik : i = k
    ·subst hik
     rw [hd] at hd'
     cases hd'
     simp [h2, hdm]
    have hne : d ≠ d' := fun e => hnew i (by omega) (by rw [hd', e])
    rw [Array.getElem?_setIfInBounds_ne hne]
    exact h3 i (by omega) d' hd'
   have hne : d ≠ s := fun e => hs k (by omega) (by rw [hd, e])
   rw [Array.getElem?_setIfInBounds_ne hne]
   exact h4 s fun i hi => hs i (by omega)
theorem WWd {Q : Exit -> Act -> World -> Prop} (hB : kDd l a0.tmps.size = true) (hkeep : ∀ i < l.length, ∀ j < l.length, j ≠ i -> ∀ w w' v, Keep i w w' -> F j w v -> F j w' v)
  (hstep : ∀ i < l.length, YXd P l l.length a0 W Keep F i)
  (hfin : ∀ (vs : Nat -> Value) (w' : World) (L : Nat -> Bool), (∀ i < l.length, L i = true) -> W L w' -> (∀ i < l.length, F i w' (vs i)) -> Q .normal (qF l vs l.length a0) w') :
  ∀ (f : Nat) (listed : Array Bool) (a : Act) (w : World), cnt listed l.length = f -> TInvALd l a0 W F listed a w -> wpAny P .any l.toArray Q f listed a w := by
 simp only [kDd, List.all_eq_true, List.mem_range, Bool.and_eq_true] at hB
 intro f
 induction f with
 | zero =>
  intro listed a w hc inv
  have hl1 := xo hc
  refine ⟨?_, ?_⟩
  ·cases hr : Region.ready .any l.toArray listed with
   | nil => rfl
   | cons i r =>
    have hi : i ∈ Region.ready .any l.toArray listed := by rw [hr]; simp
    obtain ⟨hun, o, ho, _⟩ := mem_ready.1 hi
    have hil : i < l.length := by
     have := (List.getElem?_eq_some_iff.1 (show l[i]? = some o by simpa using ho)).1; exact this
    have := hl1 i hil
    rw [getD_both hun] at this
    cases this
  have hfa : ∀ vs : Nat -> Value, (∀ i < l.length, ∀ d, hdst l i = some d -> vs i = a.tmps.getD d undef) -> a = qF l vs l.length a0 := by
   intro vs hvs
   obtain ⟨p1, p2, p3, p4⟩ := yod (l := l) (n := l.length) (a0 := a0) vs (fun i hi => (hB i hi).2) l.length (Nat.le_refl _)
   generalize qF l vs l.length a0 = b at *
   have e1 : a.tmps = b.tmps := by
    apply Array.ext_getElem?
    intro s
    by_cases hex : ∃ i, i < l.length /\ hdst l i = some s
    ·obtain ⟨i, hi, hd⟩ := hex
     rw [p3 i hi s hd, hvs i hi s hd]
     have hsz : s < a.tmps.size := by rw [inv.size]; exact (ynd (hB i hi).2 hd).1
     simp [hsz]
    have hno : ∀ i < l.length, hdst l i ≠ some s := fun i hi e => hex ⟨i, hi, e⟩
    rw [p4 s hno]
    exact inv.base s fun i hi _ => hno i hi
   have e2 : a.defers = b.defers := by rw [inv.defers, p1]
   cases a; cases b
   simp only at e1 e2
   rw [e1, e2]
  have hex : ∀ i, ∃ v, i < l.length -> (F i w v /\ ∀ d, hdst l i = some d -> v = a.tmps.getD d undef) := by
   intro i
   by_cases hi : i < l.length
   ·cases hd : hdst l i with
    | none =>
     obtain ⟨v, hv⟩ := inv.none i hi (hl1 i hi) hd
     exact ⟨v, fun _ => ⟨hv, fun d e => by cases e⟩⟩
    | some d => exact ⟨a.tmps.getD d undef, fun _ => ⟨inv.vals i hi (hl1 i hi) d hd, fun d' e => by injection e with e; rw [e]⟩⟩
   ·exact ⟨undef, fun h => absurd h hi⟩
  have hvs : ∀ i < l.length, F i w ((hex i).choose) /\ ∀ d, hdst l i = some d -> (hex i).choose = a.tmps.getD d undef := fun i hi => (hex i).choose_spec hi
  have hq := hfin (fun i => (hex i).choose) w _ hl1 inv.world (fun i hi => (hvs i hi).1)
  rw [<- hfa _ (fun i hi => (hvs i hi).2)] at hq
  exact hq
 | succ f ih =>
  intro listed a w hc inv
  have hls : listed.size = l.length := by simpa using inv.head.size
  obtain ⟨i0, hi0, hu0, hbef⟩ := kf (listed := listed) (n := l.length) (by omega)
  have hi0r : i0 ∈ Region.ready .any l.toArray listed := by
   have h1 := (hB i0 hi0).1
   unfold jc at h1
   split at h1
   ·rename_i o ho
    simp only [Bool.and_eq_true, Array.all_eq_true'] at h1
    refine mem_ready.2 ⟨getD_in (by omega) hu0, o, by simpa using ho, fun e he hb => ?_⟩
    have := h1.2 e he
    simp only [hb, Bool.not_true, Bool.false_or, decide_eq_true_eq] at this
    exact hbef _ this
   cases h1
  refine ⟨fun h0 => (by rw [h0] at hi0r; cases hi0r), fun i hi => ?_⟩
  obtain ⟨hun, o, ho, haft⟩ := mem_ready.1 hi
  have hol : l[i]? = some o := by simpa using ho
  have hin : i < l.length := (List.getElem?_eq_some_iff.1 hol).1
  have hgu : o.guard.isNone = true := by
   have h1 := (hB i hin).1
   unfold jc at h1
   rw [hol] at h1
   simp only [Bool.and_eq_true] at h1
   exact h1.1
  have hunf := getD_both hun
  unfold wpOp
  simp only [ho, vv hgu, if_true]
  left
  have hcs := ke (n := l.length) (by omega) hunf hin
  refine hstep i hin o hol _ a w hunf inv.world (fun s hs => inv.base s fun j hj _ => hs j hj) (fun j hj d' hd' => ?_) (fun j hj => by obtain ⟨oi, hoi, e, he, hb, hon⟩ := Region.waitsFor_spec hj; have h9 : oi = o := Option.some.inj (hoi.symm.trans ho); subst h9; have h8 := haft e he hb; rw [hon] at h8; exact h8) _ Q fun v w' hw' hk hv => ?_
  ·obtain ⟨oi, hoi, e, he, hb, hon⟩ := Region.waitsFor_spec hj
   have : oi = o := Option.some.inj (hoi.symm.trans ho)
   subst this
   have hl2 := haft e he hb
   rw [hon] at hl2
   have hjn : j < l.length := by
    have h1 := (hB i hin).1
    unfold jc at h1
    rw [hol] at h1
    simp only [Bool.and_eq_true, Array.all_eq_true'] at h1
    have := h1.2 e he
    simp only [hb, Bool.not_true, Bool.false_or, decide_eq_true_eq] at this
    omega
   exact inv.vals j hjn hl2 d' hd'
  have hod : o.dst = hdst l i := by simp [hdst, hol]
  rw [hod]
  refine ih _ _ w' (by omega) ⟨inv.head.set hi hin, ?_, ?_, ?_, ?_, ?_, ?_⟩
  ·show W (fun j => (listed.setIfInBounds i true).getD j false) w'
   rw [ZLd (by omega)]; exact hw'
  ·cases hd : hdst l i <;> simpa [Act.put] using inv.defers
  ·cases hd : hdst l i <;> simpa [Act.put] using inv.size
  ·intro s hs
   have hb0 := inv.base s fun j hj hl => hs j hj (getD_set_true hl)
   cases hd : hdst l i with
   | none => exact hb0
   | some d =>
    have hne : d ≠ s := fun e => hs i hin (xn (by omega)) (by rw [hd, e])
    rw [jd hne]
    exact hb0
  ·intro j hj hl d' hd'
   by_cases hij : i = j
   ·subst hij
    rw [hd', ZU (by rw [inv.size]; exact (ynd (hB i hin).2 hd').1)]
    exact hv
   rw [getD_set_ne false hij] at hl
   have hv2 := hkeep i hin j hj (fun e => hij e.symm) w w' _ hk (inv.vals j hj hl d' hd')
   cases hd : hdst l i with
   | none => exact hv2
   | some d =>
    have hne : d ≠ d' := by
     intro e
     subst e
     rcases Nat.lt_or_gt_of_ne hij with h | h
     ·exact (ynd (hB j hj).2 hd').2 i h hd
     exact (ynd (hB i hin).2 hd).2 j h hd'
    rw [ZV (jd hne v)]
    exact hv2
  intro j hj hl hd'
  by_cases hij : i = j
  ·subst hij; exact ⟨v, hv⟩
  rw [getD_set_ne false hij] at hl
  obtain ⟨v2, hv2⟩ := inv.none j hj hl hd'
  exact ⟨v2, hkeep i hin j hj (fun e => hij e.symm) w w' _ hk hv2⟩
theorem qa1d {id : Nat} {Q : Exit -> Act -> World -> Prop} {w : World} (n : Nat) (hn : l.length = n) (hm : P.follows .mixedOrders = true) (hB : kDd l a0.tmps.size = true)
  (W : (Nat -> Bool) -> World -> Prop) (Keep : Nat -> World -> World -> Prop) (F : Nat -> World -> Value -> Prop) (hW : W (fun _ => false) w.drew) (hkeep : ∀ i < n, ∀ j < n, j ≠ i -> ∀ w w' v, Keep i w w' -> F j w v -> F j w' v)
  (hstep : ∀ i < n, YXd P l n a0 W Keep F i)
  (hfin : ∀ (vs : Nat -> Value) (w' : World) (L : Nat -> Bool), (∀ i < n, L i = true) -> W L w' -> (∀ i < n, F i w' (vs i)) -> wpList P l.toArray Q (l.drop n) (qF l vs n a0) w') :
  (Code.region id l.toArray true).wp P Q a0 w := by
 subst hn
 refine wp_region_any hm ?_
 have hsz : l.toArray.size = l.length := by simp
 rw [hsz]
 exact WWd (Q := Q) hB hkeep hstep (fun vs w' L h0 h1 h2 => by have h3 := hfin vs w' L h0 h1 h2; rw [List.drop_length] at h3; exact h3) l.length (Array.replicate l.length false) a0 w.drew (xp _ l.length (by omega))
  ⟨⟨by simp, fun j oj _ hl => (by rw [getD_replicate_false] at hl; cases hl), fun t h1 ht => absurd ht (by simp; omega)⟩,
   (by have e : (fun i => (Array.replicate l.length false).getD i false) = fun _ => false := (by funext i; exact getD_replicate_false _ _); show W (fun i => (Array.replicate l.length false).getD i false) w.drew; rw [e]; exact hW), rfl, rfl, fun _ _ => rfl, fun i _ hl => (by rw [getD_replicate_false] at hl; cases hl), fun i _ hl => (by rw [getD_replicate_false] at hl; cases hl)⟩
end
end Go.Proofs.YtmboieajfdkllaaGreat
