import Derived.Test.YtmboieajfdkllaaGreatU01
import Derived.Test.YtmboieajfdkllaaGreatU02
import Derived.Test.YtmboieajfdkllaaGreatU03
import Derived.ProofKit
set_option maxHeartbeats 4000000
set_option maxRecDepth 100000
open Go.Proofs.Tryz
namespace Go.Proofs.YtmboieajfdkllaaGreat
open Go.RowKit
theorem YU (ps qs : List Tx) (A A' : Option Addr) (c c' : Nat) (w : World) (hp : Rd w w.heap.size A (qS ps)) (hq : Rd w w.heap.size A' (qS qs)) (hn : ps.length <= maxLen) :
  Calls Tryz.prog 24 #[.slice A ps.length c, .slice A' qs.length c'] w fun e w' => e = .returned (.bool (ps == qs)) /\ Below w.heap.size w w' := by
 unfold maxLen at hn
 by_cases hl : ps.length = qs.length
 ·have hb0 : ((ps.length : Int) != (qs.length : Int)) = false := by simp [hl]
  have HL := qb hl
  clear hl
  go_enter func24, ntmps24
  go_wp2
  go_loopw [5] (fun i wr => ∃ (k : Nat), k <= ps.length /\ i = .int .i64 k /\ (ps.drop k == qs.drop k) = (ps == qs) /\ Below w.heap.size w wr) (fun i _ => ps.length - (intOf i).toNat)
  case atStart => exact ⟨0, Nat.zero_le _, rfl, rfl, Below.refl _ _⟩
  obtain ⟨k, hk, rfl, heq, hb⟩ := hrel
  have HB := qb hb
  by_cases hlt : k < ps.length
  ·have hlq : k < qs.length := by have := HL.out; omega
   obtain ⟨b, o, rfl, hab, hc0⟩ := (hp.below hb).str hlt
   obtain ⟨b', o', rfl, hab', hc0'⟩ := (hq.below hb).str hlq
   have HQ : Hid ((ps[k] == qs[k] && (ps.drop (k + 1) == qs.drop (k + 1))) = (ps == qs)) := by
    show _ = _
    rw [<- heq, qX ps k hlt, qX qs k hlq, List.cons_beq_cons]
   clear hb heq
   generalize ps[k] = a0 at *
   generalize qs[k] = b0 at *
   cases h1 : (a0 == b0)
   all_goals
    have h1n : (a0 != b0) = !(a0 == b0) := rfl
    rw [h1] at h1n
    have H1 := qb h1
    go_wp2_with fail
    go_quiet (fail)
    go_wp2
   all_goals first
    | (go_ret; refine ⟨qw ?_, jn HB.out _⟩; rw [<- HQ.out, H1.out]; rfl)
    | (go_roundw; (case rel => exact ⟨k + 1, by omega, by go_num, by rw [<- HQ.out, H1.out]; rfl, jn HB.out _⟩); (case measure => simp [intOf]; omega))
  ·go_wp2
   go_ret
   refine ⟨qw ?_, hb⟩
   rw [<- heq, zc ps k (by omega), zc qs k (by have := HL.out; omega)]
   rfl
 have hb0 : ((ps.length : Int) != (qs.length : Int)) = true := by simp; omega
 have HL : Hid ((ps == qs) = false) := by show _ = _; simp; intro h; exact hl (by rw [h])
 clear hl
 go_enter func24, ntmps24
 go_wp2
 go_ret
 exact ⟨qw HL.out.symm, Below.refl _ _⟩
open Go
def YR (l : List Oper) (i : Nat) : Bool := match l[i]? with
 | some o => o.after.all fun e => !Region.binds .any e || decide (e.on < i)
 | none => false
def YQ (l : List Oper) (gv : Nat -> Option Bool) (want : Nat -> Bool) (i : Nat) : Bool := match l[i]? with
 | some o => (match o.guard with
  | none => want i
  | some (j, b) => decide (j < i) && (Region.waitsFor .any l.toArray i j && (if want j then ((gv j).isSome && (want i == (gv j == some b))) else !want i)))
 | none => false
def YN (l : List Oper) (gv : Nat -> Option Bool) (want : Nat -> Bool) (n m : Nat) : Bool :=
 decide (n < l.length) && Region.sinkB .any l.toArray n && Region.chainB .any l.toArray n && ((List.range n).all fun i => YR l i && kg l m i && YQ l gv want i) && Region.seqB .any l.toArray (l.length - n) n (xq n (l.length - n))
section
variable {P : Program} {l : List Oper} {n : Nat} {a0 : Act} {W : Nat -> World -> Prop} {Keep : World -> World -> Prop} {F : Nat -> World -> Value -> Prop} {gv : Nat -> Option Bool} {want : Nat -> Bool}
theorem WZ {a : Act} {w : World} {i : Nat} {o : Oper} (hin : i < n) (ho : l[i]? = some o) (hg : YQ l gv want i = true) (hgv : ∀ j < n, ∀ x, gv j = some x -> ∀ w v, F j w v -> v = .bool x) (hund : ∀ i < n, want i = false -> ∀ w v, F i w v ↔ v = undef)
  (hv : ∀ j, Region.waitsFor .any l.toArray i j = true -> ∃ d, hdst l j = some d /\ d < a.tmps.size /\ F j w (a.tmps.getD d undef)) : Region.wanted o (yielded l.toArray a.tmps) = want i := by
 unfold YQ at hg
 rw [ho] at hg
 simp only at hg
 cases hgd : o.guard with
 | none =>
  rw [hgd] at hg
  simp only at hg
  rw [hg, vv (by rw [hgd]; rfl)]
 | some p =>
  obtain ⟨j, b⟩ := p
  rw [hgd] at hg
  simp only [Bool.and_eq_true, decide_eq_true_eq] at hg
  obtain ⟨h1, h2, h3⟩ := hg
  obtain ⟨d, hd, hdl, hF⟩ := hv j h2
  have hj : (l.toArray[j]?).bind (·.dst) = some d := by simpa [hdst] using hd
  cases hwj : want j with
  | true =>
   rw [hwj] at h3
   simp only [if_true, Bool.and_eq_true, beq_iff_eq] at h3
   obtain ⟨h3, h4⟩ := h3
   obtain ⟨x, hx⟩ := Option.isSome_iff_exists.1 h3
   have hb := hgv j (by omega) x hx w _ hF
   have hy : yielded l.toArray a.tmps j = some x := by
    unfold yielded
    rw [hj]
    have : a.tmps[d]? = some (.bool x) := by
     rw [Array.getElem?_eq_getElem hdl]
     simp [hdl] at hb
     rw [hb]
    simp [this]
   rw [h4, hx]
   unfold Region.wanted
   rw [hgd]
   simp only [hy]
  | false =>
   rw [hwj] at h3
   simp only [Bool.false_eq_true, if_false, Bool.not_eq_true'] at h3
   have hb := (hund j (by omega) hwj w _).1 hF
   have hy : yielded l.toArray a.tmps j = none := by
    unfold yielded
    rw [hj]
    have : a.tmps[d]? = some undef := by
     rw [Array.getElem?_eq_getElem hdl]
     simp [hdl] at hb
     rw [hb]
    simp [this, undef]
   rw [h3]
   unfold Region.wanted
   rw [hgd]
   simp only [hy]
   rfl
theorem WX {Q : Exit -> Act -> World -> Prop} (hB : YN l gv want n a0.tmps.size = true) (hgv : ∀ j < n, ∀ x, gv j = some x -> ∀ w v, F j w v -> v = .bool x) (hkeep : ∀ j < n, ∀ w w' v, Keep w w' -> F j w v -> F j w' v)
  (hskip : ∀ i < n, want i = false -> ∀ w v, F i w v ↔ v = undef) (hwskip : ∀ m w, W m w -> W (m + 1) w) (hrefl : ∀ w, Keep w w)
  (hstep : ∀ i < n, want i = true -> YF P l n a0 W Keep F i)
  (hfin : ∀ (vs : Nat -> Value) (w' : World), W n w' -> (∀ i < n, F i w' (vs i)) -> wpList P l.toArray Q (l.drop n) (qF l vs n a0) w') :
  ∀ (f : Nat) (listed : Array Bool) (a : Act) (w : World), cnt listed n = f -> TInv l n a0 W F listed a w -> wpAny P .any l.toArray Q (f + (l.length - n)) listed a w := by
 simp only [YN, Bool.and_eq_true, decide_eq_true_eq, List.all_eq_true, List.mem_range] at hB
 obtain ⟨⟨⟨⟨hn, hsink⟩, hchain⟩, hall⟩, hseq⟩ := hB
 have hn' : n < l.toArray.size := by simpa using hn
 intro f
 induction f with
 | zero =>
  intro listed a w hc inv
  rw [Nat.zero_add]
  have hl1 := xo hc
  have hls : listed.size = l.length := by simpa using inv.head.size
  have hl := ZW (l := l) (by omega) hls hl1 (fun t ht htl => inv.head.tail t ht (by simpa using htl))
  have hfa : a = qF l (fun i => match hdst l i with | some d => a.tmps.getD d undef | none => undef) n a0 := by
   obtain ⟨p1, p2, p3, p4⟩ := vw (l := l) (n := n) (a0 := a0) (fun i => match hdst l i with | some d => a.tmps.getD d undef | none => undef) (fun i hi => (hall i hi).1.2) n (Nat.le_refl _)
   generalize qF l (fun i => match hdst l i with | some d => a.tmps.getD d undef | none => undef) n a0 = b at *
   have e1 : a.tmps = b.tmps := by
    apply Array.ext_getElem?
    intro s
    by_cases hex : ∃ i, i < n /\ hdst l i = some s
    ·obtain ⟨i, hi, hd⟩ := hex
     rw [p3 i hi s hd]
     simp only [hd]
     have hsz : s < a.tmps.size := by
      obtain ⟨d, hd2, hdm, _⟩ := zS (hall i hi).1.2
      rw [hd] at hd2
      cases hd2
      rw [inv.size]; exact hdm
     simp [hsz]
    have hno : ∀ i < n, hdst l i ≠ some s := fun i hi e => hex ⟨i, hi, e⟩
    rw [p4 s hno]
    exact inv.base s fun i hi _ => hno i hi
   have e2 : a.defers = b.defers := by rw [inv.defers, p1]
   cases a; cases b
   simp only at e1 e2
   rw [e1, e2]
  have hsz := hfin (fun i => match hdst l i with | some d => a.tmps.getD d undef | none => undef) w (by have := inv.world; rw [hc] at this; simpa using this) (fun i hi => by
   obtain ⟨d, hd, _, _⟩ := zS (hall i hi).1.2
   simp only [hd]
   exact inv.vals i hi (hl1 i hi) d hd)
  rw [<- hfa] at hsz
  have := wpAny_of_seq (md := .any) (Q' := Q) (l.drop n) n listed a w (fun j => by simp [List.getElem?_drop]) (by rw [List.length_drop, hl]; exact hseq) hsz
  rwa [List.length_drop] at this
 | succ f ih =>
  intro listed a w hc inv
  have hls : listed.size = l.length := by simpa using inv.head.size
  obtain ⟨i0, hi0, hu0, hbef⟩ := kf (listed := listed) (n := n) (by omega)
  have hi0r : i0 ∈ Region.ready .any l.toArray listed := by
   have h1 := (hall i0 hi0).1.1
   unfold YR at h1
   split at h1
   ·rename_i o ho
    simp only [Array.all_eq_true'] at h1
    refine mem_ready.2 ⟨getD_in (by omega) hu0, o, by simpa using ho, fun e he hb => ?_⟩
    have := h1 e he
    simp only [hb, Bool.not_true, Bool.false_or, decide_eq_true_eq] at this
    exact hbef _ this
   cases h1
  rw [show f + 1 + (l.length - n) = f + (l.length - n) + 1 by omega]
  refine ⟨fun h0 => (by rw [h0] at hi0r; cases hi0r), fun i hi => ?_⟩
  have hin : i < n := by
   rcases Nat.lt_or_ge i n with h | h
   ·exact h
   exact absurd hi (tail_waits hsink hchain hn' inv.head _ i0 rfl hi0 (getD_in (by omega) hu0) i h)
  obtain ⟨hun, o, ho, haft⟩ := mem_ready.1 hi
  have hol : l[i]? = some o := by simpa using ho
  obtain ⟨d, hd, hdm, _⟩ := zS (hall i hin).1.2
  have hod : o.dst = some d := by simpa [hdst, hol] using hd
  have hunf := getD_both hun
  have hcs := ke (n := n) (by omega) hunf hin
  have hm : n - cnt listed n < n := by have := vu listed n; omega
  have hwaits : ∀ j, Region.waitsFor .any l.toArray i j = true -> j < n /\ listed.getD j false = true := by
   intro j hj
   obtain ⟨oi, hoi, e, he, hb, hon⟩ := Region.waitsFor_spec hj
   have : oi = o := Option.some.inj (hoi.symm.trans ho)
   subst this
   have hl2 := haft e he hb
   rw [hon] at hl2
   refine ⟨?_, hl2⟩
   have h1 := (hall i hin).1.1
   unfold YR at h1
   rw [hol] at h1
   simp only [Array.all_eq_true'] at h1
   have := h1 e he
   simp only [hb, Bool.not_true, Bool.false_or, decide_eq_true_eq] at this
   omega
  have hwant : Region.wanted o (yielded l.toArray a.tmps) = want i := WZ (w := w) hin hol (hall i hin).2 hgv hskip (fun j hj => by
   obtain ⟨hjn, hjl⟩ := hwaits j hj
   obtain ⟨dj, hdj, hdjm, _⟩ := zS (hall j hjn).1.2
   exact ⟨dj, hdj, by rw [inv.size]; exact hdjm, inv.vals j hjn hjl dj hdj⟩)
  have hnext : ∀ v w', W (n - cnt listed n + 1) w' -> Keep w w' -> F i w' v -> wpAny P .any l.toArray Q (f + (l.length - n)) (listed.setIfInBounds i true) (a.put o.dst v) w' := by
   intro v w' hw' hk hv
   rw [hod]
   refine ih _ _ w' (by omega) ⟨inv.head.set hi hin, ?_, ?_, ?_, ?_, ?_⟩
   ·have : n - cnt (listed.setIfInBounds i true) n = n - cnt listed n + 1 := by have := vu listed n; omega
    rw [this]; exact hw'
   ·simpa [Act.put] using inv.defers
   ·simpa [Act.put] using inv.size
   ·intro s hs
    have hne : d ≠ s := fun e => hs i hin (xn (by omega)) (by rw [hd, e])
    rw [jd hne]
    exact inv.base s fun j hj hl => hs j hj (getD_set_true hl)
   intro j hj hl d' hd'
   by_cases hij : i = j
   ·subst hij
    rw [hd] at hd'
    cases hd'
    rw [ZU (by rw [inv.size]; exact hdm)]
    exact hv
   rw [getD_set_ne false hij] at hl
   have hne : d ≠ d' := by
    intro e
    subst e
    obtain ⟨di, hdi, _, hi2⟩ := zS (hall i hin).1.2
    obtain ⟨dj, hdj, _, hj2⟩ := zS (hall j hj).1.2
    rw [hd] at hdi; cases hdi
    rw [hd'] at hdj; cases hdj
    rcases Nat.lt_or_gt_of_ne hij with h | h
    ·exact hj2 i h hd
    exact hi2 j h hd'
   rw [ZV (jd hne v)]
   exact hkeep j hj w w' _ hk (inv.vals j hj hl d' hd')
  unfold wpOp
  simp only [ho, hwant]
  cases hwi : want i with
  | false =>
   simp only [Bool.false_eq_true, if_false]
   exact hnext undef w (hwskip _ w inv.world) (hrefl w) ((hskip i hin hwi w _).2 rfl)
  | true =>
   simp only [if_true]
   left
   refine hstep i hin hwi o hol (n - cnt listed n) a w hm inv.world (fun s hs => inv.base s fun j hj _ => hs j hj) (fun j hj d' hd' => ?_) _ Q hnext
   obtain ⟨hjn, hjl⟩ := hwaits j hj
   exact inv.vals j hjn hjl d' hd'
theorem qa2 {id : Nat} {Q : Exit -> Act -> World -> Prop} {w : World} (n : Nat) (gv : Nat -> Option Bool) (want : Nat -> Bool) (hm : P.follows .mixedOrders = true) (hB : YN l gv want n a0.tmps.size = true)
  (W : Nat -> World -> Prop) (Keep : World -> World -> Prop) (F : Nat -> World -> Value -> Prop) (hgv : ∀ j < n, ∀ x, gv j = some x -> ∀ w v, F j w v -> v = .bool x) (hskip : ∀ i < n, want i = false -> ∀ w v, F i w v ↔ v = undef) (hwskip : ∀ m w, W m w -> W (m + 1) w) (hrefl : ∀ w, Keep w w)
  (hW : W 0 w.drew) (hkeep : ∀ j < n, ∀ w w' v, Keep w w' -> F j w v -> F j w' v)
  (hstep : ∀ i < n, want i = true -> YF P l n a0 W Keep F i)
  (hfin : ∀ (vs : Nat -> Value) (w' : World), W n w' -> (∀ i < n, F i w' (vs i)) -> wpList P l.toArray Q (l.drop n) (qF l vs n a0) w') :
  (Code.region id l.toArray true).wp P Q a0 w := by
 have hB' := hB
 simp only [YN, Bool.and_eq_true, decide_eq_true_eq, List.all_eq_true, List.mem_range] at hB'
 obtain ⟨⟨⟨⟨hn, _⟩, _⟩, _⟩, _⟩ := hB'
 refine wp_region_any hm ?_
 have hsz : l.toArray.size = l.length := by simp
 rw [hsz]
 have h := WX (Q := Q) hB hgv hkeep hskip hwskip hrefl hstep hfin n (Array.replicate l.length false) a0 w.drew (xp _ n (by omega))
  ⟨⟨by simp, fun j oj _ hl => (by rw [getD_replicate_false] at hl; cases hl), fun t _ ht => getD_in (by simpa using ht) (getD_replicate_false _ _)⟩,
   (by rw [xp _ n (by omega), Nat.sub_self]; exact hW), rfl, rfl, fun _ _ => rfl, fun i _ hl => (by rw [getD_replicate_false] at hl; cases hl)⟩
 rw [show n + (l.length - n) = l.length by omega] at h
 exact h
end
theorem VZ {p : Nat -> Prop} {n : Nat} {want : Nat -> Bool} (h : ∀ i < n, want i = true -> p i) (h1 : want n = true -> p n) : ∀ i < n + 1, want i = true -> p i := fun i hi => by
 rcases Nat.lt_or_ge i n with h2 | h2
 ·exact h i h2
 have : i = n := by omega
 subst this; exact h1
theorem Wq {p : Nat -> Prop} {want : Nat -> Bool} : ∀ i < 0, want i = true -> p i := fun i h => absurd h (by omega)
open Go.Deep
def SpC (xs : List Pt) : Prop := ∀ (A A' : Option Addr) (c c' : Nat) (w : World), RdP w (All w) A xs -> RdP w (All w) A' xs -> xs.length + Pt.sizes xs <= 1048576 →
  Calls Tryz.prog 63 #[.slice A xs.length c, .slice A' xs.length c'] w fun e w' => e = .returned (.bool true) /\ Below w.heap.size w w'
theorem YS (xs : List Pt) (ih : ∀ x ∈ xs, SpC x.parts /\ SpC x.other) : SpC xs := by
 intro A A' c c' w hx hy hs
 have IH := qb ih
 have HX := qb hx
 have HY := qb hy
 have HS := qb hs
 have hxl : xs.length <= 1048576 := by omega
 clear ih hx hy hs
 go_enter func63, ntmps63
 go_wp2
 go_loopw [15] (fun i wr => ∃ (j : Nat), j <= xs.length /\ i = .int .i64 j /\ Below w.heap.size w wr) (fun i _ => xs.length - (intOf i).toNat)
 case atStart => exact ⟨0, Nat.zero_le _, rfl, Below.refl _ _⟩
 obtain ⟨j, hj, rfl, hb⟩ := hrel
 have HB := qb hb
 clear hb
 by_cases hlt : j < xs.length
 ·obtain ⟨b1, o1, hA1, hb1, kd, tt, nn, us, vs, Ap, cp, Ao, co, hxj, k1, k2, k3, k4, c0, c1, c2, c3, c4⟩ := (HX.out.now HB.out).at2 hlt
  obtain ⟨b2, o2, hA2, hb2, kd', tt', nn', us', vs', Ap', cp', Ao', co', hxj', k1', k2', k3', k4', d0, d1, d2, d3, d4⟩ := (HY.out.now HB.out).at2 hlt
  have hmem : Pt.mk kd tt nn us vs ∈ xs := by rw [<- hxj]; exact List.getElem_mem hlt
  rw [hxj] at hxj'
  injection hxj' with q1 q2 q3 q4 q5
  subst q1 q2 q3 q4 q5 hA1 hA2
  have hsm := Pt.size_mem hmem
  simp only [Pt.size] at hsm
  have hs := HS.out
  have hul : us.length + Pt.sizes us <= 1048576 := by omega
  have hvl : vs.length + Pt.sizes vs <= 1048576 := by omega
  obtain ⟨hB2, hX0, hY0⟩ := qE wr (qD kd tt nn Ap us.length cp Ao vs.length co) (qD kd tt nn Ap' us.length cp' Ao' vs.length co') 115 115
  have HIU := qb (fun w3 (hb : Below wr.heap.size wr w3) => (IH.out _ hmem).1 Ap Ap' cp cp' w3 (k3.now hb) (k3'.now hb) hul)
  have HIV := qb (fun w3 (hb : Below wr.heap.size wr w3) => (IH.out _ hmem).2 Ao Ao' co co' w3 (k4.now hb) (k4'.now hb) hvl)
  have hzz : wr.heap.size + 1 < ((wr.alloc (.cells (qD kd tt nn Ap us.length cp Ao vs.length co) 115)).alloc (.cells (qD kd tt nn Ap' us.length cp' Ao' vs.length co') 115)).heap.size := by simp
  simp only [Pt.parts, Pt.other] at HIU HIV
  have HB2 := qb hB2
  have HX0 := qb hX0
  have HY0 := qb hY0
  clear hmem hxj k1 k2 k3 k4 k1' k2' k3' k4' hsm hs hul hvl hB2 hX0 hY0
  go_upto_region 7 with fail
  generalize (wr.alloc (.cells (qD kd tt nn Ap us.length cp Ao vs.length co) 115)).alloc (.cells (qD kd tt nn Ap' us.length cp' Ao' vs.length co') 115) = w2 at *
  obtain ⟨⟨x0, x1, x2, x3, x4⟩, -⟩ := qI HX0.out
  obtain ⟨⟨y0, y1, y2, y3, y4⟩, -⟩ := qI HY0.out
  clear c0 c1 c2 c3 c4 d0 d1 d2 d3 d4
  go_wp2_with fail
  refine (HIU.out w2 HB2.out).mono ?_
  rintro e w3 ⟨rfl, hb⟩
  have HB3 := qb (qa3 HB2.out hb)
  obtain ⟨⟨p0, p1, p2, p3, p4⟩, -⟩ := qI (qi HX0.out hb)
  obtain ⟨⟨q0, q1, q2, q3, q4⟩, -⟩ := qI (qi HY0.out hb)
  clear hb x0 x1 x2 x3 x4 y0 y1 y2 y3 y4
  go_wp2_with fail
  refine (HIV.out w3 HB3.out).mono ?_
  rintro e w4 ⟨rfl, hb⟩
  have HB4 := qb (HB.out.trans ((qa3 HB3.out hb).mono HB.out.size))
  clear hb p0 p1 p2 p3 p4 q0 q1 q2 q3 q4
  go_wp2
  go_roundw
  case rel => exact ⟨j + 1, by omega, by go_num, HB4.out⟩
  case measure => simp [intOf]; omega
 go_wp2
 go_ret
 exact ⟨rfl, HB.out⟩
theorem WA (x : Pt) : SpC x.parts /\ SpC x.other := by
 induction x using Pt.ind with
 | h k t n xs ys ih1 ih2 => exact ⟨YS xs ih1, YS ys ih2⟩
theorem Wz (xs : List Pt) : SpC xs := YS xs (fun x _ => WA x)
theorem WF (xs : List Fd) (A A' : Option Addr) (c c' : Nat) (w : World) (hx : RdF w (All w) A xs) (hy : RdF w (All w) A' xs) (hs : xs.length + Fd.sizes xs <= 1048576) :
  Calls Tryz.prog 64 #[.slice A xs.length c, .slice A' xs.length c'] w fun e w' => e = .returned (.bool true) /\ Below w.heap.size w w' := by
 have HX := qb hx
 have HY := qb hy
 have HS := qb hs
 have hxl : xs.length <= 1048576 := by omega
 clear hx hy hs
 go_enter func64, ntmps64
 go_wp2
 go_loopw [5] (fun i wr => ∃ (j : Nat), j <= xs.length /\ i = .int .i64 j /\ Below w.heap.size w wr) (fun i _ => xs.length - (intOf i).toNat)
 case atStart => exact ⟨0, Nat.zero_le _, rfl, Below.refl _ _⟩
 obtain ⟨j, hj, rfl, hb⟩ := hrel
 have HB := qb hb
 clear hb
 by_cases hlt : j < xs.length
 ·obtain ⟨b1, o1, hA1, hb1, nn, tt, hh, is, Ai, ci, hxj, k1, k2, c0, c1, c2, c3⟩ := (HX.out.now HB.out).at2 hlt
  obtain ⟨b2, o2, hA2, hb2, nn', tt', hh', is', Ai', ci', hxj', k1', k2', d0, d1, d2, d3⟩ := (HY.out.now HB.out).at2 hlt
  have hsm := Fd.size_mem (List.getElem_mem hlt)
  rw [hxj] at hxj' hsm
  injection hxj' with q1 q2 q3 q4
  subst q1 q2 q3 q4 hA1 hA2
  have hil : is.length <= 1048576 := by have := HS.out; simp only [Fd.size] at hsm; omega
  have HST := qb (fun w3 (hb : Below wr.heap.size wr w3) => YU is is Ai Ai' ci ci' w3 ((k1.keep (fun _ hp => hb.cell hp) (fun _ h => Nat.lt_of_lt_of_le h hb.size)).rd (fun _ h => h)) ((k1'.keep (fun _ hp => hb.cell hp) (fun _ h => Nat.lt_of_lt_of_le h hb.size)).rd (fun _ h => h)) (by unfold maxLen; omega))
  clear hxj k1 k2 k1' k2' hsm
  have HC0 := qb c0
  have HC1 := qb c1
  have HC2 := qb c2
  have HC3 := qb c3
  have HD0 := qb d0
  have HD1 := qb d1
  have HD2 := qb d2
  have HD3 := qb d3
  clear c0 c1 c2 c3 d0 d1 d2 d3
  go_wp2_with fail
  rw [beq_self_eq_true] at HST
  refine qa2 50 (fun j => ([none, none, none, none, none, none, none, none, none, none, some false, some false, none, none, none, none, none, none, none, none, none, none, some false, some false, some false, none, none, none, none, none, none, none, none, none, none, some false, some false, some false, none, none, none, none, none, none, none, none, none, none, some true, some false] : List (Option Bool)).getD j none) (fun j => ([true, true, true, true, true, true, true, true, true, true, true, true, true, true, true, true, true, true, true, true, true, true, true, true, true, true, true, true, true, true, true, true, true, true, true, true, true, true, true, true, true, true, true, true, true, true, true, true, true, true] : List Bool).getD j true) (by kernel_rfl) (by kernel_rfl) (fun _ w => Below (World.heap wr).size wr w) KB (fun i => ([bIs (.slice (some ⟨b1, o1, none⟩) xs.length c), bIs (.int .i64 (j : Int)), bIs (.pointer (some ⟨b1, o1 + j * 4, none⟩)), bIs (.pointer (some ⟨b1, o1 + j * 4, none⟩)), bIs (sv nn), bIs (.slice (some ⟨b2, o2, none⟩) xs.length c'), bIs (.int .i64 (j : Int)), bIs (.pointer (some ⟨b2, o2 + j * 4, none⟩)), bIs (.pointer (some ⟨b2, o2 + j * 4, none⟩)), bIs (sv nn), bIs (.bool false), bIs (.bool false), bIs (.slice (some ⟨b1, o1, none⟩) xs.length c), bIs (.int .i64 (j : Int)), bIs (.pointer (some ⟨b1, o1 + j * 4, none⟩)), bIs (.pointer (some ⟨b1, o1 + j * 4 + 1, none⟩)), bIs (sv tt), bIs (.slice (some ⟨b2, o2, none⟩) xs.length c'), bIs (.int .i64 (j : Int)), bIs (.pointer (some ⟨b2, o2 + j * 4, none⟩)), bIs (.pointer (some ⟨b2, o2 + j * 4 + 1, none⟩)), bIs (sv tt), bIs (.bool false), bIs (.bool false), bIs (.bool false), bIs (.slice (some ⟨b1, o1, none⟩) xs.length c), bIs (.int .i64 (j : Int)), bIs (.pointer (some ⟨b1, o1 + j * 4, none⟩)), bIs (.pointer (some ⟨b1, o1 + j * 4 + 2, none⟩)), bIs (.bool hh), bIs (.slice (some ⟨b2, o2, none⟩) xs.length c'), bIs (.int .i64 (j : Int)), bIs (.pointer (some ⟨b2, o2 + j * 4, none⟩)), bIs (.pointer (some ⟨b2, o2 + j * 4 + 2, none⟩)), bIs (.bool hh), bIs (.bool false), bIs (.bool false), bIs (.bool false), bIs (.slice (some ⟨b1, o1, none⟩) xs.length c), bIs (.int .i64 (j : Int)), bIs (.pointer (some ⟨b1, o1 + j * 4, none⟩)), bIs (.pointer (some ⟨b1, o1 + j * 4 + 3, none⟩)), bIs (.slice Ai is.length ci), bIs (.slice (some ⟨b2, o2, none⟩) xs.length c'), bIs (.int .i64 (j : Int)), bIs (.pointer (some ⟨b2, o2 + j * 4, none⟩)), bIs (.pointer (some ⟨b2, o2 + j * 4 + 3, none⟩)), bIs (.slice Ai' is.length ci'), bIs (.bool true), bIs (.bool false)] : List TyB).getD i bAny) ?hgvG1 ?hskipG1 (fun _ _ h => h) (fun w => VY w) ?hWgG1 ?hkeepG1 ?hstepG1 ?hfingG1
  case hgvG1 =>
   refine qg (qg (qg (qg (qg (qg (qg (qg (qg (qg (qg (qg (qg (qg (qg (qg (qg (qg (qg (qg (qg (qg (qg (qg (qg (qg (qg (qg (qg (qg (qg (qg (qg (qg (qg (qg (qg (qg (qg (qg (qg (qg (qg (qg (qg (qg (qg (qg (qg (qg qG ?_) ?_) ?_) ?_) ?_) ?_) ?_) ?_) ?_) ?_) ?_) ?_) ?_) ?_) ?_) ?_) ?_) ?_) ?_) ?_) ?_) ?_) ?_) ?_) ?_) ?_) ?_) ?_) ?_) ?_) ?_) ?_) ?_) ?_) ?_) ?_) ?_) ?_) ?_) ?_) ?_) ?_) ?_) ?_) ?_) ?_) ?_) ?_) ?_) ?_
   ·exact fun _ h => by simp at h
   ·exact fun _ h => by simp at h
   ·exact fun _ h => by simp at h
   ·exact fun _ h => by simp at h
   ·exact fun _ h => by simp at h
   ·exact fun _ h => by simp at h
   ·exact fun _ h => by simp at h
   ·exact fun _ h => by simp at h
   ·exact fun _ h => by simp at h
   ·exact fun _ h => by simp at h
   ·exact fun x h _ _ e => by simp at h; subst h; exact e
   ·exact fun x h _ _ e => by simp at h; subst h; exact e
   ·exact fun _ h => by simp at h
   ·exact fun _ h => by simp at h
   ·exact fun _ h => by simp at h
   ·exact fun _ h => by simp at h
   ·exact fun _ h => by simp at h
   ·exact fun _ h => by simp at h
   ·exact fun _ h => by simp at h
   ·exact fun _ h => by simp at h
   ·exact fun _ h => by simp at h
   ·exact fun _ h => by simp at h
   ·exact fun x h _ _ e => by simp at h; subst h; exact e
   ·exact fun x h _ _ e => by simp at h; subst h; exact e
   ·exact fun x h _ _ e => by simp at h; subst h; exact e
   ·exact fun _ h => by simp at h
   ·exact fun _ h => by simp at h
   ·exact fun _ h => by simp at h
   ·exact fun _ h => by simp at h
   ·exact fun _ h => by simp at h
   ·exact fun _ h => by simp at h
   ·exact fun _ h => by simp at h
   ·exact fun _ h => by simp at h
   ·exact fun _ h => by simp at h
   ·exact fun _ h => by simp at h
   ·exact fun x h _ _ e => by simp at h; subst h; exact e
   ·exact fun x h _ _ e => by simp at h; subst h; exact e
   ·exact fun x h _ _ e => by simp at h; subst h; exact e
   ·exact fun _ h => by simp at h
   ·exact fun _ h => by simp at h
   ·exact fun _ h => by simp at h
   ·exact fun _ h => by simp at h
   ·exact fun _ h => by simp at h
   ·exact fun _ h => by simp at h
   ·exact fun _ h => by simp at h
   ·exact fun _ h => by simp at h
   ·exact fun _ h => by simp at h
   ·exact fun _ h => by simp at h
   ·exact fun x h _ _ e => by simp at h; subst h; exact e
   exact fun x h _ _ e => by simp at h; subst h; exact e
  case hskipG1 =>
   refine qg (qg (qg (qg (qg (qg (qg (qg (qg (qg (qg (qg (qg (qg (qg (qg (qg (qg (qg (qg (qg (qg (qg (qg (qg (qg (qg (qg (qg (qg (qg (qg (qg (qg (qg (qg (qg (qg (qg (qg (qg (qg (qg (qg (qg (qg (qg (qg (qg (qg qG ?_) ?_) ?_) ?_) ?_) ?_) ?_) ?_) ?_) ?_) ?_) ?_) ?_) ?_) ?_) ?_) ?_) ?_) ?_) ?_) ?_) ?_) ?_) ?_) ?_) ?_) ?_) ?_) ?_) ?_) ?_) ?_) ?_) ?_) ?_) ?_) ?_) ?_) ?_) ?_) ?_) ?_) ?_) ?_) ?_) ?_) ?_) ?_) ?_) ?_
   ·exact fun h => by simp at h
   ·exact fun h => by simp at h
   ·exact fun h => by simp at h
   ·exact fun h => by simp at h
   ·exact fun h => by simp at h
   ·exact fun h => by simp at h
   ·exact fun h => by simp at h
   ·exact fun h => by simp at h
   ·exact fun h => by simp at h
   ·exact fun h => by simp at h
   ·exact fun h => by simp at h
   ·exact fun h => by simp at h
   ·exact fun h => by simp at h
   ·exact fun h => by simp at h
   ·exact fun h => by simp at h
   ·exact fun h => by simp at h
   ·exact fun h => by simp at h
   ·exact fun h => by simp at h
   ·exact fun h => by simp at h
   ·exact fun h => by simp at h
   ·exact fun h => by simp at h
   ·exact fun h => by simp at h
   ·exact fun h => by simp at h
   ·exact fun h => by simp at h
   ·exact fun h => by simp at h
   ·exact fun h => by simp at h
   ·exact fun h => by simp at h
   ·exact fun h => by simp at h
   ·exact fun h => by simp at h
   ·exact fun h => by simp at h
   ·exact fun h => by simp at h
   ·exact fun h => by simp at h
   ·exact fun h => by simp at h
   ·exact fun h => by simp at h
   ·exact fun h => by simp at h
   ·exact fun h => by simp at h
   ·exact fun h => by simp at h
   ·exact fun h => by simp at h
   ·exact fun h => by simp at h
   ·exact fun h => by simp at h
   ·exact fun h => by simp at h
   ·exact fun h => by simp at h
   ·exact fun h => by simp at h
   ·exact fun h => by simp at h
   ·exact fun h => by simp at h
   ·exact fun h => by simp at h
   ·exact fun h => by simp at h
   ·exact fun h => by simp at h
   ·exact fun h => by simp at h
   exact fun h => by simp at h
  case hkeepG1 =>
   refine qg (qg (qg (qg (qg (qg (qg (qg (qg (qg (qg (qg (qg (qg (qg (qg (qg (qg (qg (qg (qg (qg (qg (qg (qg (qg (qg (qg (qg (qg (qg (qg (qg (qg (qg (qg (qg (qg (qg (qg (qg (qg (qg (qg (qg (qg (qg (qg (qg (qg qG ?_) ?_) ?_) ?_) ?_) ?_) ?_) ?_) ?_) ?_) ?_) ?_) ?_) ?_) ?_) ?_) ?_) ?_) ?_) ?_) ?_) ?_) ?_) ?_) ?_) ?_) ?_) ?_) ?_) ?_) ?_) ?_) ?_) ?_) ?_) ?_) ?_) ?_) ?_) ?_) ?_) ?_) ?_) ?_) ?_) ?_) ?_) ?_) ?_) ?_
   all_goals exact qj
  case hstepG1 =>
   refine VZ (VZ (VZ (VZ (VZ (VZ (VZ (VZ (VZ (VZ (VZ (VZ (VZ (VZ (VZ (VZ (VZ (VZ (VZ (VZ (VZ (VZ (VZ (VZ (VZ (VZ (VZ (VZ (VZ (VZ (VZ (VZ (VZ (VZ (VZ (VZ (VZ (VZ (VZ (VZ (VZ (VZ (VZ (VZ (VZ (VZ (VZ (VZ (VZ (VZ Wq ?_) ?_) ?_) ?_) ?_) ?_) ?_) ?_) ?_) ?_) ?_) ?_) ?_) ?_) ?_) ?_) ?_) ?_) ?_) ?_) ?_) ?_) ?_) ?_) ?_) ?_) ?_) ?_) ?_) ?_) ?_) ?_) ?_) ?_) ?_) ?_) ?_) ?_) ?_) ?_) ?_) ?_) ?_) ?_) ?_) ?_) ?_) ?_) ?_) ?_
   ·intro hwt; clear hwt; (intro o ho m' a w1 hm' hW hb hd K Q hK; obtain rfl := Option.some.inj ho; have e0 : a.tmps[0]?.getD undef = (.slice (some ⟨b1, o1, none⟩) xs.length c) := (by rw [hb 0 (by decide +kernel)]; simp); go_simp; exact hK _ _ hW (VY _) rfl)
   ·intro hwt; clear hwt; (intro o ho m' a w1 hm' hW hb hd K Q hK; obtain rfl := Option.some.inj ho; have e0 : a.tmps[5]?.getD undef = (.int .i64 (j : Int)) := (by rw [hb 5 (by decide +kernel)]; simp); go_simp; exact hK _ _ hW (VY _) rfl)
   ·intro hwt; clear hwt; (intro o ho m' a w1 hm' hW hb hd K Q hK; obtain rfl := Option.some.inj ho; have e0 := qo (hd 0 (by kernel_rfl) 17 rfl); have e1 := qo (hd 1 (by kernel_rfl) 18 rfl); go_simp; exact hK _ _ hW (VY _) rfl)
   ·intro hwt; clear hwt; (intro o ho m' a w1 hm' hW hb hd K Q hK; obtain rfl := Option.some.inj ho; have e0 := qo (hd 2 (by kernel_rfl) 19 rfl); go_simp; exact hK _ _ hW (VY _) rfl)
   ·intro hwt; clear hwt; (intro o ho m' a w1 hm' hW hb hd K Q hK; obtain rfl := Option.some.inj ho; have e0 := qo (hd 3 (by kernel_rfl) 20 rfl); have hcw := (hW.cell (p := ⟨b1, o1 + j * 4, none⟩) hb1).trans HC0.out; go_simp; exact hK _ _ hW (VY _) rfl)
   ·intro hwt; clear hwt; (intro o ho m' a w1 hm' hW hb hd K Q hK; obtain rfl := Option.some.inj ho; have e0 : a.tmps[1]?.getD undef = (.slice (some ⟨b2, o2, none⟩) xs.length c') := (by rw [hb 1 (by decide +kernel)]; simp); go_simp; exact hK _ _ hW (VY _) rfl)
   ·intro hwt; clear hwt; (intro o ho m' a w1 hm' hW hb hd K Q hK; obtain rfl := Option.some.inj ho; have e0 : a.tmps[5]?.getD undef = (.int .i64 (j : Int)) := (by rw [hb 5 (by decide +kernel)]; simp); go_simp; exact hK _ _ hW (VY _) rfl)
   ·intro hwt; clear hwt; (intro o ho m' a w1 hm' hW hb hd K Q hK; obtain rfl := Option.some.inj ho; have e0 := qo (hd 5 (by kernel_rfl) 22 rfl); have e1 := qo (hd 6 (by kernel_rfl) 23 rfl); go_simp; exact hK _ _ hW (VY _) rfl)
   ·intro hwt; clear hwt; (intro o ho m' a w1 hm' hW hb hd K Q hK; obtain rfl := Option.some.inj ho; have e0 := qo (hd 7 (by kernel_rfl) 24 rfl); go_simp; exact hK _ _ hW (VY _) rfl)
   ·intro hwt; clear hwt; (intro o ho m' a w1 hm' hW hb hd K Q hK; obtain rfl := Option.some.inj ho; have e0 := qo (hd 8 (by kernel_rfl) 25 rfl); have hcw := (hW.cell (p := ⟨b2, o2 + j * 4, none⟩) hb2).trans HD0.out; go_simp; exact hK _ _ hW (VY _) rfl)
   ·intro hwt; clear hwt; (intro o ho m' a w1 hm' hW hb hd K Q hK; obtain rfl := Option.some.inj ho; have e0 := qo (hd 4 (by kernel_rfl) 21 rfl); have e1 := qo (hd 9 (by kernel_rfl) 26 rfl); go_simp; exact hK _ _ hW (VY _) rfl)
   ·intro hwt; clear hwt; (intro o ho m' a w1 hm' hW hb hd K Q hK; obtain rfl := Option.some.inj ho; have e0 := qo (hd 10 (by kernel_rfl) 27 rfl); go_simp; exact hK _ _ hW (VY _) rfl)
   ·intro hwt; clear hwt; (intro o ho m' a w1 hm' hW hb hd K Q hK; obtain rfl := Option.some.inj ho; have e0 : a.tmps[0]?.getD undef = (.slice (some ⟨b1, o1, none⟩) xs.length c) := (by rw [hb 0 (by decide +kernel)]; simp); go_simp; exact hK _ _ hW (VY _) rfl)
   ·intro hwt; clear hwt; (intro o ho m' a w1 hm' hW hb hd K Q hK; obtain rfl := Option.some.inj ho; have e0 : a.tmps[5]?.getD undef = (.int .i64 (j : Int)) := (by rw [hb 5 (by decide +kernel)]; simp); go_simp; exact hK _ _ hW (VY _) rfl)
   ·intro hwt; clear hwt; (intro o ho m' a w1 hm' hW hb hd K Q hK; obtain rfl := Option.some.inj ho; have e0 := qo (hd 12 (by kernel_rfl) 29 rfl); have e1 := qo (hd 13 (by kernel_rfl) 30 rfl); go_simp; exact hK _ _ hW (VY _) rfl)
   ·intro hwt; clear hwt; (intro o ho m' a w1 hm' hW hb hd K Q hK; obtain rfl := Option.some.inj ho; have e0 := qo (hd 14 (by kernel_rfl) 31 rfl); go_simp; exact hK _ _ hW (VY _) rfl)
   ·intro hwt; clear hwt; (intro o ho m' a w1 hm' hW hb hd K Q hK; obtain rfl := Option.some.inj ho; have e0 := qo (hd 15 (by kernel_rfl) 32 rfl); have hcw := (hW.cell (p := ⟨b1, o1 + j * 4 + 1, none⟩) hb1).trans HC1.out; go_simp; exact hK _ _ hW (VY _) rfl)
   ·intro hwt; clear hwt; (intro o ho m' a w1 hm' hW hb hd K Q hK; obtain rfl := Option.some.inj ho; have e0 : a.tmps[1]?.getD undef = (.slice (some ⟨b2, o2, none⟩) xs.length c') := (by rw [hb 1 (by decide +kernel)]; simp); go_simp; exact hK _ _ hW (VY _) rfl)
   ·intro hwt; clear hwt; (intro o ho m' a w1 hm' hW hb hd K Q hK; obtain rfl := Option.some.inj ho; have e0 : a.tmps[5]?.getD undef = (.int .i64 (j : Int)) := (by rw [hb 5 (by decide +kernel)]; simp); go_simp; exact hK _ _ hW (VY _) rfl)
   ·intro hwt; clear hwt; (intro o ho m' a w1 hm' hW hb hd K Q hK; obtain rfl := Option.some.inj ho; have e0 := qo (hd 17 (by kernel_rfl) 34 rfl); have e1 := qo (hd 18 (by kernel_rfl) 35 rfl); go_simp; exact hK _ _ hW (VY _) rfl)
   ·intro hwt; clear hwt; (intro o ho m' a w1 hm' hW hb hd K Q hK; obtain rfl := Option.some.inj ho; have e0 := qo (hd 19 (by kernel_rfl) 36 rfl); go_simp; exact hK _ _ hW (VY _) rfl)
   ·intro hwt; clear hwt; (intro o ho m' a w1 hm' hW hb hd K Q hK; obtain rfl := Option.some.inj ho; have e0 := qo (hd 20 (by kernel_rfl) 37 rfl); have hcw := (hW.cell (p := ⟨b2, o2 + j * 4 + 1, none⟩) hb2).trans HD1.out; go_simp; exact hK _ _ hW (VY _) rfl)
   ·intro hwt; clear hwt; (intro o ho m' a w1 hm' hW hb hd K Q hK; obtain rfl := Option.some.inj ho; have e0 := qo (hd 16 (by kernel_rfl) 33 rfl); have e1 := qo (hd 21 (by kernel_rfl) 38 rfl); go_simp; exact hK _ _ hW (VY _) rfl)
   ·intro hwt; clear hwt; (intro o ho m' a w1 hm' hW hb hd K Q hK; obtain rfl := Option.some.inj ho; have e0 := qo (hd 11 (by kernel_rfl) 28 rfl); have e1 := qo (hd 22 (by kernel_rfl) 39 rfl); go_simp; exact hK _ _ hW (VY _) rfl)
   ·intro hwt; clear hwt; (intro o ho m' a w1 hm' hW hb hd K Q hK; obtain rfl := Option.some.inj ho; have e0 := qo (hd 23 (by kernel_rfl) 40 rfl); go_simp; exact hK _ _ hW (VY _) rfl)
   ·intro hwt; clear hwt; (intro o ho m' a w1 hm' hW hb hd K Q hK; obtain rfl := Option.some.inj ho; have e0 : a.tmps[0]?.getD undef = (.slice (some ⟨b1, o1, none⟩) xs.length c) := (by rw [hb 0 (by decide +kernel)]; simp); go_simp; exact hK _ _ hW (VY _) rfl)
   ·intro hwt; clear hwt; (intro o ho m' a w1 hm' hW hb hd K Q hK; obtain rfl := Option.some.inj ho; have e0 : a.tmps[5]?.getD undef = (.int .i64 (j : Int)) := (by rw [hb 5 (by decide +kernel)]; simp); go_simp; exact hK _ _ hW (VY _) rfl)
   ·intro hwt; clear hwt; (intro o ho m' a w1 hm' hW hb hd K Q hK; obtain rfl := Option.some.inj ho; have e0 := qo (hd 25 (by kernel_rfl) 42 rfl); have e1 := qo (hd 26 (by kernel_rfl) 43 rfl); go_simp; exact hK _ _ hW (VY _) rfl)
   ·intro hwt; clear hwt; (intro o ho m' a w1 hm' hW hb hd K Q hK; obtain rfl := Option.some.inj ho; have e0 := qo (hd 27 (by kernel_rfl) 44 rfl); go_simp; exact hK _ _ hW (VY _) rfl)
   ·intro hwt; clear hwt; (intro o ho m' a w1 hm' hW hb hd K Q hK; obtain rfl := Option.some.inj ho; have e0 := qo (hd 28 (by kernel_rfl) 45 rfl); have hcw := (hW.cell (p := ⟨b1, o1 + j * 4 + 2, none⟩) hb1).trans HC2.out; go_simp; exact hK _ _ hW (VY _) rfl)
   ·intro hwt; clear hwt; (intro o ho m' a w1 hm' hW hb hd K Q hK; obtain rfl := Option.some.inj ho; have e0 : a.tmps[1]?.getD undef = (.slice (some ⟨b2, o2, none⟩) xs.length c') := (by rw [hb 1 (by decide +kernel)]; simp); go_simp; exact hK _ _ hW (VY _) rfl)
   ·intro hwt; clear hwt; (intro o ho m' a w1 hm' hW hb hd K Q hK; obtain rfl := Option.some.inj ho; have e0 : a.tmps[5]?.getD undef = (.int .i64 (j : Int)) := (by rw [hb 5 (by decide +kernel)]; simp); go_simp; exact hK _ _ hW (VY _) rfl)
   ·intro hwt; clear hwt; (intro o ho m' a w1 hm' hW hb hd K Q hK; obtain rfl := Option.some.inj ho; have e0 := qo (hd 30 (by kernel_rfl) 47 rfl); have e1 := qo (hd 31 (by kernel_rfl) 48 rfl); go_simp; exact hK _ _ hW (VY _) rfl)
   ·intro hwt; clear hwt; (intro o ho m' a w1 hm' hW hb hd K Q hK; obtain rfl := Option.some.inj ho; have e0 := qo (hd 32 (by kernel_rfl) 49 rfl); go_simp; exact hK _ _ hW (VY _) rfl)
   ·intro hwt; clear hwt; (intro o ho m' a w1 hm' hW hb hd K Q hK; obtain rfl := Option.some.inj ho; have e0 := qo (hd 33 (by kernel_rfl) 50 rfl); have hcw := (hW.cell (p := ⟨b2, o2 + j * 4 + 2, none⟩) hb2).trans HD2.out; go_simp; exact hK _ _ hW (VY _) rfl)
   ·intro hwt; clear hwt; (intro o ho m' a w1 hm' hW hb hd K Q hK; obtain rfl := Option.some.inj ho; have e0 := qo (hd 29 (by kernel_rfl) 46 rfl); have e1 := qo (hd 34 (by kernel_rfl) 51 rfl); go_simp; exact hK _ _ hW (VY _) rfl)
   ·intro hwt; clear hwt; (intro o ho m' a w1 hm' hW hb hd K Q hK; obtain rfl := Option.some.inj ho; have e0 := qo (hd 24 (by kernel_rfl) 41 rfl); have e1 := qo (hd 35 (by kernel_rfl) 52 rfl); go_simp; exact hK _ _ hW (VY _) rfl)
   ·intro hwt; clear hwt; (intro o ho m' a w1 hm' hW hb hd K Q hK; obtain rfl := Option.some.inj ho; have e0 := qo (hd 36 (by kernel_rfl) 53 rfl); go_simp; exact hK _ _ hW (VY _) rfl)
   ·intro hwt; clear hwt; (intro o ho m' a w1 hm' hW hb hd K Q hK; obtain rfl := Option.some.inj ho; have e0 : a.tmps[0]?.getD undef = (.slice (some ⟨b1, o1, none⟩) xs.length c) := (by rw [hb 0 (by decide +kernel)]; simp); go_simp; exact hK _ _ hW (VY _) rfl)
   ·intro hwt; clear hwt; (intro o ho m' a w1 hm' hW hb hd K Q hK; obtain rfl := Option.some.inj ho; have e0 : a.tmps[5]?.getD undef = (.int .i64 (j : Int)) := (by rw [hb 5 (by decide +kernel)]; simp); go_simp; exact hK _ _ hW (VY _) rfl)
   ·intro hwt; clear hwt; (intro o ho m' a w1 hm' hW hb hd K Q hK; obtain rfl := Option.some.inj ho; have e0 := qo (hd 38 (by kernel_rfl) 55 rfl); have e1 := qo (hd 39 (by kernel_rfl) 56 rfl); go_simp; exact hK _ _ hW (VY _) rfl)
   ·intro hwt; clear hwt; (intro o ho m' a w1 hm' hW hb hd K Q hK; obtain rfl := Option.some.inj ho; have e0 := qo (hd 40 (by kernel_rfl) 57 rfl); go_simp; exact hK _ _ hW (VY _) rfl)
   ·intro hwt; clear hwt; (intro o ho m' a w1 hm' hW hb hd K Q hK; obtain rfl := Option.some.inj ho; have e0 := qo (hd 41 (by kernel_rfl) 58 rfl); have hcw := (hW.cell (p := ⟨b1, o1 + j * 4 + 3, none⟩) hb1).trans HC3.out; go_simp; exact hK _ _ hW (VY _) rfl)
   ·intro hwt; clear hwt; (intro o ho m' a w1 hm' hW hb hd K Q hK; obtain rfl := Option.some.inj ho; have e0 : a.tmps[1]?.getD undef = (.slice (some ⟨b2, o2, none⟩) xs.length c') := (by rw [hb 1 (by decide +kernel)]; simp); go_simp; exact hK _ _ hW (VY _) rfl)
   ·intro hwt; clear hwt; (intro o ho m' a w1 hm' hW hb hd K Q hK; obtain rfl := Option.some.inj ho; have e0 : a.tmps[5]?.getD undef = (.int .i64 (j : Int)) := (by rw [hb 5 (by decide +kernel)]; simp); go_simp; exact hK _ _ hW (VY _) rfl)
   ·intro hwt; clear hwt; (intro o ho m' a w1 hm' hW hb hd K Q hK; obtain rfl := Option.some.inj ho; have e0 := qo (hd 43 (by kernel_rfl) 60 rfl); have e1 := qo (hd 44 (by kernel_rfl) 61 rfl); go_simp; exact hK _ _ hW (VY _) rfl)
   ·intro hwt; clear hwt; (intro o ho m' a w1 hm' hW hb hd K Q hK; obtain rfl := Option.some.inj ho; have e0 := qo (hd 45 (by kernel_rfl) 62 rfl); go_simp; exact hK _ _ hW (VY _) rfl)
   ·intro hwt; clear hwt; (intro o ho m' a w1 hm' hW hb hd K Q hK; obtain rfl := Option.some.inj ho; have e0 := qo (hd 46 (by kernel_rfl) 63 rfl); have hcw := (hW.cell (p := ⟨b2, o2 + j * 4 + 3, none⟩) hb2).trans HD3.out; go_simp; exact hK _ _ hW (VY _) rfl)
   ·intro hwt; clear hwt; (intro o ho m' a w1 hm' hW hb hd K Q hK; obtain rfl := Option.some.inj ho; have e0 := qo (hd 42 (by kernel_rfl) 59 rfl); have e1 := qo (hd 47 (by kernel_rfl) 64 rfl); go_simp; refine (HST.out _ hW).mono ?_; rintro e w2 ⟨rfl, hb2⟩; exact hK _ _ (qa3 hW hb2) hb2 rfl)
   intro hwt; clear hwt; (intro o ho m' a w1 hm' hW hb hd K Q hK; obtain rfl := Option.some.inj ho; have e0 := qo (hd 48 (by kernel_rfl) 65 rfl); go_simp; exact hK _ _ hW (VY _) rfl)
  case hWgG1 => exact (Below.refl _ _).drew
  intro vs w9 hW hF
  have h37 : vs 37 = .bool false := hF 37 (by omega)
  have h49 : vs 49 = .bool false := hF 49 (by omega)
  have HB9 := qb (qa3 HB.out hW)
  clear hW hF
  simp only [qF, hdst, List.getElem?_cons_succ, List.getElem?_cons_zero, Option.bind, List.drop_succ_cons, List.drop_zero, Act.put]
  rw [h37, h49]
  clear h37 h49
  go_simp
  go_wp2
  go_roundw
  case rel => exact ⟨j + 1, by omega, by go_num, HB9.out⟩
  case measure => simp [intOf]; omega
 go_wp2
 go_ret
 exact ⟨rfl, HB.out⟩
theorem Ys (d : Dk) (u v : Value) (w : World) (hu : InD w (All w) d u) (hv : InD w (All w) d v) (hs : Dk.size d <= 1048576) :
  Calls Tryz.prog 23 #[u, v] w fun e w' => e = .returned (.bool true) /\ Below w.heap.size w w' := by
 obtain ⟨ps, fs⟩ := d
 obtain ⟨Ap, cp, Ad, cd, rfl, g1, g2, g3, g4⟩ := hu
 obtain ⟨Ap', cp', Ad', cd', rfl, g1', g2', g3', g4'⟩ := hv
 unfold Dk.size at hs
 dsimp only at g1 g2 g3 g4 g1' g2' g3' g4' hs ⊢
 obtain ⟨hB0, hX0, hY0⟩ := qE w (qx Ap ps.length cp Ad fs.length cd) (qx Ap' ps.length cp' Ad' fs.length cd') 30 30
 have HB0 := qb hB0
 have HX0 := qb hX0
 have HY0 := qb hY0
 have HP := qb (Wz ps Ap Ap' cp cp' _ (g1.now hB0) (g1'.now hB0) (by omega))
 have HF := qb (fun w2 (hb : Below _ _ w2) => WF fs Ad Ad' cd cd' w2 ((g3.now hB0).now hb) ((g3'.now hB0).now hb) (by omega))
 clear g1 g2 g3 g4 g1' g2' g3' g4' hB0 hX0 hY0
 go_enter func23, ntmps23
 go_upto_region 1 with fail
 generalize (w.alloc (.cells (qx Ap ps.length cp Ad fs.length cd) 30)).alloc (.cells (qx Ap' ps.length cp' Ad' fs.length cd') 30) = w0 at *
 obtain ⟨x0, x1, -⟩ := qr HX0.out
 obtain ⟨y0, y1, -⟩ := qr HY0.out
 go_wp2_with fail
 refine HP.out.mono ?_
 rintro e w1 ⟨rfl, hb⟩
 have HB1 := qb (qa3 HB0.out hb)
 have HF1 := qb (HF.out w1 hb)
 obtain ⟨p0, p1, -⟩ := qr (qi HX0.out hb)
 obtain ⟨q0, q1, -⟩ := qr (qi HY0.out hb)
 clear hb x0 x1 y0 y1
 go_wp2_with fail
 refine HF1.out.mono ?_
 rintro e w2 ⟨rfl, hb⟩
 have HB2 := qb (qa3 HB1.out hb)
 clear hb
 go_wp2
 go_ret
 exact ⟨rfl, HB2.out⟩
end Go.Proofs.YtmboieajfdkllaaGreat
namespace Go
variable {H : Type} {enc : TypeId × Value -> H}
theorem VC {a : Assume} {C : Checked} {os : Os} {f : FuncId} {fn : Func} {s : ChangeSpec} {conds : List PathCond} {apart fresh handsOn again : Bool}
  (own : ownKnob C.prog.godebug = none) (started : os.Started) (noInit : C.prog.inits.idxOf? f = none) (hfn : C.prog.funcs[f]? = some fn)
  (witness : ∃ (w : World) (tape : Tape) (i : Input), w.os = os /\ (w.forCall tape i).Shaped C.prog /\ i.vars = [] /\ Input.okWide C.prog (w.forCall tape i) .any w.heap.size f i ∧
   s.pre6 enc C.prog fn conds apart (w.forCall tape i).memory i.args /\ a.holds C.prog (lone (Frame.enter C.prog f i.args .normal) [] (w.forCall tape i)))
  (contract : ∀ (W : World) (base : Nat) (args : Array Value) (ds gs : List (DataW H)) (before : List MemPlace),
   (∀ (j : Nat) t v, fn.params[j]? = some t -> args[j]? = some v -> Value.okWide C.prog W .any base t v) →
   DataW.Whole enc C.prog fn.params.toList s.vars apart W args.toList ds gs before →
   conds.all (PathCond.test C.prog ⟨fn.params.toList, ds, s.plain.varTypes C.prog, gs⟩) = true →
   W.ShapedOpen C.prog →
   a.holds C.prog (lone (Frame.enter C.prog f args .normal) [] W) →
   Calls C.prog f args W fun e W' => ∃ v, e = .returned v /\ s.post enc C.prog fn apart fresh handsOn again W args v W') :
  ReturnsInHanded a C os f .any (s.pre6 enc C.prog fn conds apart) (s.post enc C.prog fn apart fresh handsOn again) := by
 refine returnsInHanded_of_calls own started noInit witness ?_
 intro w tape i _ hsh _ hok hpre hholds
 obtain ⟨_, _, _, fn', hfn', _, _, _, _, hval⟩ := hok
 have e : fn' = fn := Option.some.inj (hfn'.symm.trans hfn)
 subst e
 obtain ⟨⟨ds, gs, before, hw, hc⟩, _⟩ := hpre
 have hw' := DataW.Whole.of_heap (w' := w.forCall tape i) (by rfl) hw
 refine (contract (w.forCall tape i) w.heap.size i.args ds gs before hval hw' hc hsh hholds).mono fun e W' ⟨v, he, hp⟩ => ?_
 subst he
 exact ChangeSpec.post_blind hp
end Go
