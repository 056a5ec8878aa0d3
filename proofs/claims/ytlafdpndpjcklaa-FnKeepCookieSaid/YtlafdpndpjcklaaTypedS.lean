/- Regions that draw their order, store into a result's block besides, and have no tail: the typed rule. No function of the program is walked here. -/
import Derived.Test.YtlafdpndpjcklaaDrawT
import Derived.Test.YtlafdpndpjcklaaChg
import Derived.OneCell
namespace Go.Proofs.Ytlafdpndpjcklaa
open Go Go.RowKit

def hreach0 (l : List Oper) (m i : Nat) : Bool := match hdst l i with
  | some d => decide (d < m) && (List.range i).all fun j => hdst l j != some d
  | none => true
def typedA (l : List Oper) (m : Nat) : Bool := (List.range l.length).all fun i => hplain l i && hreach0 l m i
theorem hreach0_spec {l : List Oper} {m i : Nat} {d : Tmp} (h : hreach0 l m i = true) (hd : hdst l i = some d) : d < m ∧ ∀ j < i, hdst l j ≠ some d := by
  unfold hreach0 at h
  rw [hd] at h
  simp only [Bool.and_eq_true, decide_eq_true_eq, List.all_eq_true, List.mem_range, bne_iff_ne, ne_eq] at h
  exact h
section
variable {P : Program} {l : List Oper} {n : Nat} {a0 : Act} {W : Nat → World → Prop} {Keep : World → World → Prop} {F : Nat → World → Value → Prop}
structure TInvA (l : List Oper) (a0 : Act) (W : Nat → World → Prop) (F : Nat → World → Value → Prop) (listed : Array Bool) (a : Act) (w : World) : Prop where
  head : HeadInv .any l.toArray l.length listed
  world : W (l.length - cnt listed l.length) w
  defers : a.defers = a0.defers
  size : a.tmps.size = a0.tmps.size
  base : ∀ s, (∀ i < l.length, listed.getD i false = true → hdst l i ≠ some s) → a.tmps[s]? = a0.tmps[s]?
  vals : ∀ i < l.length, listed.getD i false = true → ∀ d, hdst l i = some d → F i w (a.tmps.getD d undef)
  none : ∀ i < l.length, listed.getD i false = true → hdst l i = none → ∃ v, F i w v
theorem putAll_spec0 (vs : Nat → Value) (hr : ∀ i < n, hreach0 l a0.tmps.size i = true) : ∀ k, k ≤ n →
    (putAll l vs k a0).defers = a0.defers ∧ (putAll l vs k a0).tmps.size = a0.tmps.size ∧ (∀ i < k, ∀ d, hdst l i = some d → (putAll l vs k a0).tmps[d]? = some (vs i)) ∧
      (∀ s, (∀ i < k, hdst l i ≠ some s) → (putAll l vs k a0).tmps[s]? = a0.tmps[s]?)
  | 0, _ => ⟨rfl, rfl, fun i hi => absurd hi (by omega), fun _ _ => rfl⟩
  | k + 1, hk => by
    obtain ⟨h1, h2, h3, h4⟩ := putAll_spec0 vs hr k (by omega)
    cases hd : hdst l k with
    | none =>
      have e : putAll l vs (k + 1) a0 = putAll l vs k a0 := by simp only [putAll, hd, Act.put]
      rw [e]
      refine ⟨h1, h2, fun i hi d' hd' => ?_, fun s hs => h4 s fun i hi => hs i (by omega)⟩
      by_cases hik : i = k
      · subst hik; rw [hd] at hd'; cases hd'
      · exact h3 i (by omega) d' hd'
    | some d =>
      obtain ⟨hdm, hnew⟩ := hreach0_spec (hr k (by omega)) hd
      simp only [putAll, hd, Act.put]
      refine ⟨h1, by simpa using h2, fun i hi d' hd' => ?_, fun s hs => ?_⟩
      · by_cases hik : i = k
        · subst hik
          rw [hd] at hd'
          cases hd'
          simp [h2, hdm]
        · have hne : d ≠ d' := fun e => hnew i (by omega) (by rw [hd', e])
          rw [Array.getElem?_setIfInBounds_ne hne]
          exact h3 i (by omega) d' hd'
      · have hne : d ≠ s := fun e => hs k (by omega) (by rw [hd, e])
        rw [Array.getElem?_setIfInBounds_ne hne]
        exact h4 s fun i hi => hs i (by omega)
theorem typed_all {Q : Exit → Act → World → Prop} (hB : typedA l a0.tmps.size = true) (hkeep : ∀ j < l.length, ∀ w w' v, Keep w w' → F j w v → F j w' v)
    (hstep : ∀ i < l.length, TStep P l l.length a0 W Keep F i)
    (hfin : ∀ (vs : Nat → Value) (w' : World), W l.length w' → (∀ i < l.length, F i w' (vs i)) → Q .normal (putAll l vs l.length a0) w') :
    ∀ (f : Nat) (listed : Array Bool) (a : Act) (w : World), cnt listed l.length = f → TInvA l a0 W F listed a w → wpAny P .any l.toArray Q f listed a w := by
  simp only [typedA, List.all_eq_true, List.mem_range, Bool.and_eq_true] at hB
  intro f
  induction f with
  | zero =>
    intro listed a w hc inv
    have hl1 := cnt_zero hc
    refine ⟨?_, ?_⟩
    · cases hr : Region.ready .any l.toArray listed with
      | nil => rfl
      | cons i r =>
        have hi : i ∈ Region.ready .any l.toArray listed := by rw [hr]; simp
        obtain ⟨hun, o, ho, _⟩ := mem_ready.1 hi
        have hil : i < l.length := by
          have := (List.getElem?_eq_some_iff.1 (show l[i]? = some o by simpa using ho)).1; exact this
        have := hl1 i hil
        rw [getD_both hun] at this
        cases this
    · have hfa : ∀ vs : Nat → Value, (∀ i < l.length, ∀ d, hdst l i = some d → vs i = a.tmps.getD d undef) → a = putAll l vs l.length a0 := by
        intro vs hvs
        obtain ⟨p1, p2, p3, p4⟩ := putAll_spec0 (l := l) (n := l.length) (a0 := a0) vs (fun i hi => (hB i hi).2) l.length (Nat.le_refl _)
        generalize putAll l vs l.length a0 = b at *
        have e1 : a.tmps = b.tmps := by
          apply Array.ext_getElem?
          intro s
          by_cases hex : ∃ i, i < l.length ∧ hdst l i = some s
          · obtain ⟨i, hi, hd⟩ := hex
            rw [p3 i hi s hd, hvs i hi s hd]
            have hsz : s < a.tmps.size := by rw [inv.size]; exact (hreach0_spec (hB i hi).2 hd).1
            simp [hsz]
          · have hno : ∀ i < l.length, hdst l i ≠ some s := fun i hi e => hex ⟨i, hi, e⟩
            rw [p4 s hno]
            exact inv.base s fun i hi _ => hno i hi
        have e2 : a.defers = b.defers := by rw [inv.defers, p1]
        cases a; cases b
        simp only at e1 e2
        rw [e1, e2]
      have hex : ∀ i, ∃ v, i < l.length → (F i w v ∧ ∀ d, hdst l i = some d → v = a.tmps.getD d undef) := by
        intro i
        by_cases hi : i < l.length
        · cases hd : hdst l i with
          | none =>
            obtain ⟨v, hv⟩ := inv.none i hi (hl1 i hi) hd
            exact ⟨v, fun _ => ⟨hv, fun d e => by cases e⟩⟩
          | some d => exact ⟨a.tmps.getD d undef, fun _ => ⟨inv.vals i hi (hl1 i hi) d hd, fun d' e => by injection e with e; rw [e]⟩⟩
        · exact ⟨undef, fun h => absurd h hi⟩
      have hvs : ∀ i < l.length, F i w ((hex i).choose) ∧ ∀ d, hdst l i = some d → (hex i).choose = a.tmps.getD d undef := fun i hi => (hex i).choose_spec hi
      have hq := hfin (fun i => (hex i).choose) w (by have := inv.world; rw [hc] at this; simpa using this) (fun i hi => (hvs i hi).1)
      rw [← hfa _ (fun i hi => (hvs i hi).2)] at hq
      exact hq
  | succ f ih =>
    intro listed a w hc inv
    have hls : listed.size = l.length := by simpa using inv.head.size
    obtain ⟨i0, hi0, hu0, hbef⟩ := cnt_some (listed := listed) (n := l.length) (by omega)
    have hi0r : i0 ∈ Region.ready .any l.toArray listed := by
      have h1 := (hB i0 hi0).1
      unfold hplain at h1
      split at h1
      · rename_i o ho
        simp only [Bool.and_eq_true, Array.all_eq_true'] at h1
        refine mem_ready.2 ⟨getD_in (by omega) hu0, o, by simpa using ho, fun e he hb => ?_⟩
        have := h1.2 e he
        simp only [hb, Bool.not_true, Bool.false_or, decide_eq_true_eq] at this
        exact hbef _ this
      · cases h1
    refine ⟨fun h0 => (by rw [h0] at hi0r; cases hi0r), fun i hi => ?_⟩
    obtain ⟨hun, o, ho, haft⟩ := mem_ready.1 hi
    have hol : l[i]? = some o := by simpa using ho
    have hin : i < l.length := (List.getElem?_eq_some_iff.1 hol).1
    have hgu : o.guard.isNone = true := by
      have h1 := (hB i hin).1
      unfold hplain at h1
      rw [hol] at h1
      simp only [Bool.and_eq_true] at h1
      exact h1.1
    have hunf := getD_both hun
    unfold wpOp
    simp only [ho, wanted_plain hgu, if_true]
    left
    have hcs := cnt_set (n := l.length) (by omega) hunf hin
    have hm : l.length - cnt listed l.length < l.length := by have := cnt_le listed l.length; omega
    refine hstep i hin o hol (l.length - cnt listed l.length) a w hm inv.world (fun s hs => inv.base s fun j hj _ => hs j hj) (fun j hj d' hd' => ?_) _ Q fun v w' hw' hk hv => ?_
    · obtain ⟨oi, hoi, e, he, hb, hon⟩ := Region.waitsFor_spec hj
      have : oi = o := Option.some.inj (hoi.symm.trans ho)
      subst this
      have hl2 := haft e he hb
      rw [hon] at hl2
      have hjn : j < l.length := by
        have h1 := (hB i hin).1
        unfold hplain at h1
        rw [hol] at h1
        simp only [Bool.and_eq_true, Array.all_eq_true'] at h1
        have := h1.2 e he
        simp only [hb, Bool.not_true, Bool.false_or, decide_eq_true_eq] at this
        omega
      exact inv.vals j hjn hl2 d' hd'
    · have hod : o.dst = hdst l i := by simp [hdst, hol]
      rw [hod]
      refine ih _ _ w' (by omega) ⟨inv.head.set hi hin, ?_, ?_, ?_, ?_, ?_, ?_⟩
      · have : l.length - cnt (listed.setIfInBounds i true) l.length = l.length - cnt listed l.length + 1 := by have := cnt_le listed l.length; omega
        rw [this]; exact hw'
      · cases hd : hdst l i <;> simpa [Act.put] using inv.defers
      · cases hd : hdst l i <;> simpa [Act.put] using inv.size
      · intro s hs
        have hb0 := inv.base s fun j hj hl => hs j hj (getD_set_true hl)
        cases hd : hdst l i with
        | none => exact hb0
        | some d =>
          have hne : d ≠ s := fun e => hs i hin (getD_set_self (by omega)) (by rw [hd, e])
          rw [act_put_other hne]
          exact hb0
      · intro j hj hl d' hd'
        by_cases hij : i = j
        · subst hij
          rw [hd', act_put_slot (by rw [inv.size]; exact (hreach0_spec (hB i hin).2 hd').1)]
          exact hv
        · rw [getD_set_ne false hij] at hl
          have hv2 := hkeep j hj w w' _ hk (inv.vals j hj hl d' hd')
          cases hd : hdst l i with
          | none => exact hv2
          | some d =>
            have hne : d ≠ d' := by
              intro e
              subst e
              rcases Nat.lt_or_gt_of_ne hij with h | h
              · exact (hreach0_spec (hB j hj).2 hd').2 i h hd
              · exact (hreach0_spec (hB i hin).2 hd).2 j h hd'
            rw [getD_of (act_put_other hne v)]
            exact hv2
      · intro j hj hl hd'
        by_cases hij : i = j
        · subst hij; exact ⟨v, hv⟩
        · rw [getD_set_ne false hij] at hl
          obtain ⟨v2, hv2⟩ := inv.none j hj hl hd'
          exact ⟨v2, hkeep j hj w w' _ hk hv2⟩
/-- A region that draws its order, without a tail: each operation is looked at once. -/
theorem wp_region_all {id : Nat} {Q : Exit → Act → World → Prop} {w : World} (n : Nat) (hn : l.length = n) (hm : P.follows .mixedOrders = true) (hB : typedA l a0.tmps.size = true)
    (W : Nat → World → Prop) (Keep : World → World → Prop) (F : Nat → World → Value → Prop) (hW : W 0 w.drew) (hkeep : ∀ j < n, ∀ w w' v, Keep w w' → F j w v → F j w' v)
    (hstep : ∀ i < n, TStep P l n a0 W Keep F i)
    (hfin : ∀ (vs : Nat → Value) (w' : World), W n w' → (∀ i < n, F i w' (vs i)) → wpList P l.toArray Q (l.drop n) (putAll l vs n a0) w') :
    (Code.region id l.toArray true).wp P Q a0 w := by
  subst hn
  refine wp_region_any hm ?_
  have hsz : l.toArray.size = l.length := by simp
  rw [hsz]
  exact typed_all (Q := Q) hB hkeep hstep (fun vs w' h1 h2 => by have h3 := hfin vs w' h1 h2; rw [List.drop_length] at h3; exact h3) l.length (Array.replicate l.length false) a0 w.drew (cnt_all _ l.length (by omega))
    ⟨⟨by simp, fun j oj _ hl => (by rw [getD_replicate_false] at hl; cases hl), fun t h1 ht => absurd ht (by simp; omega)⟩,
      (by rw [cnt_all _ l.length (by omega), Nat.sub_self]; exact hW), rfl, rfl, fun _ _ => rfl, fun i _ hl => (by rw [getD_replicate_false] at hl; cases hl), fun i _ hl => (by rw [getD_replicate_false] at hl; cases hl)⟩
end

/-! ### the world of such a region: the reader's block g, the results' blocks R -/
structure DWQ (w0 : World) (B g : Nat) (R : List Nat) (T : TypeId) (n q D m : Nat) (w : World) : Prop where
  rdr : Rdr w B g (q + m * D)
  chg : Chg w0 w (g :: R)
  gt : g < w0.heap.size
  lt : ∀ b ∈ R, b < w0.heap.size
  ne : ∀ b ∈ R, b ≠ g
  ge : ∀ b ∈ R, B ≤ b
  box : ∀ b ∈ R, ∃ cs, w.heap[b]? = some (.cells cs T (0, 0)) ∧ cs.size = n
/-- what an operation leaves: the reader and the results' blocks apart all that was; a result's block may become right -/
structure Kq (g : Nat) (R : List Nat) (Good : Nat → World → Prop) (w w' : World) : Prop where
  chg : Chg w w' (g :: R)
  res : ∀ b ∈ R, b < w.heap.size → w'.heap[b]? = w.heap[b]? ∨ Good b w'
theorem rdr_chg {w w' : World} {B g q : Nat} {L : List Nat} (h : Rdr w B g q) (hc : Chg w w' L) (h1 : g ∉ L) (h2 : ∀ b ∈ L, B ≤ b) : Rdr w' B g q := by
  have hlt := h.lt
  obtain ⟨bs, A, c, p, k1, k2, k3, k4, k5⟩ := h
  exact ⟨bs, A, c, p, k1, k2, k3, (hc.block g hlt h1).trans k4, k5.keep fun x hx => hc.cell (by omega) (fun e => by have := h2 _ e; omega)⟩
section
variable {w0 w w' : World} {B g n q D m : Nat} {R : List Nat} {T : TypeId} {Good : Nat → World → Prop}
theorem DWQ.size (h : DWQ w0 B g R T n q D m w) : ∀ b ∈ R, b < w.heap.size := fun b hb => Nat.lt_of_lt_of_le (h.lt b hb) h.chg.size
theorem DWQ.next (h : DWQ w0 B g R T n q D m w) (hb : Below w.heap.size w w') : DWQ w0 B g R T n q D (m + 1) w' := by
  refine ⟨(h.rdr.keep hb).more (by rw [Nat.succ_mul]; omega), h.chg.trans (Chg.of_below hb []) (fun x hx => by cases hx), h.gt, h.lt, h.ne, h.ge, fun b hbR => ?_⟩
  obtain ⟨cs, h1, h2⟩ := h.box b hbR
  exact ⟨cs, (hb.block _ (h.size b hbR)).trans h1, h2⟩
theorem DWQ.same (h : DWQ w0 B g R T n q D m w) : DWQ w0 B g R T n q D (m + 1) w := h.next (Below.refl _ _)
theorem DWQ.call (h : DWQ w0 B g R T n q D m w) (hr : Rdr w' B g (q + (m + 1) * D)) (hg : w.grownBy w' (some g)) : DWQ w0 B g R T n q D (m + 1) w' := by
  refine ⟨hr, h.chg.trans (Chg.of_grown (L := [g]) hg (fun j hj => by injection hj with hj; simp [hj])) (fun x hx => by simp at hx; simp [hx]), h.gt, h.lt, h.ne, h.ge, fun b hbR => ?_⟩
  obtain ⟨cs, h1, h2⟩ := h.box b hbR
  exact ⟨cs, (hg.block _ (h.size b hbR) (fun e => by injection e with e; exact h.ne b hbR e)).trans h1, h2⟩
theorem DWQ.new (h : DWQ w0 B g R T n q D m w) : w.heap.size ≠ g := by have := h.rdr.lt; omega
theorem DWQ.new2 (h : DWQ w0 B g R T n q D m w) : w.heap.size ∉ R := fun e => Nat.lt_irrefl _ (h.size _ e)
theorem DWQ.old (h : DWQ w0 B g R T n q D m w) {b : Nat} {x : Obj} (hx : w0.heap[b]? = some x ∧ b ≠ g ∧ b ∉ R) : w.heap[b]? = some x := by
  have hlt : b < w0.heap.size := by
    rcases Nat.lt_or_ge b w0.heap.size with h1 | h1
    · exact h1
    · have := hx.1; rw [Array.getElem?_eq_none h1] at this; cases this
  rw [h.chg.block b hlt (fun e => by rcases List.mem_cons.1 e with e | e; exact hx.2.1 e; exact hx.2.2 e)]
  exact hx.1
/-- a result's block is written -/
theorem DWQ.stored (h : DWQ w0 B g R T n q D m w) {b : Nat} (hbR : b ∈ R) {cs : Array Value} (hc : Chg w w' [b]) (hb : w'.heap[b]? = some (.cells cs T (0, 0))) (hn : cs.size = n) : DWQ w0 B g R T n q D (m + 1) w' := by
  refine ⟨(rdr_chg h.rdr hc (by simp; exact fun e => h.ne b hbR e.symm) (fun j hj => by simp at hj; subst hj; exact h.ge _ hbR)).more (by rw [Nat.succ_mul]; omega), h.chg.trans hc (fun x hx => by simp at hx; subst hx; exact .inl (List.mem_cons_of_mem _ hbR)), h.gt, h.lt, h.ne, h.ge, fun c hcR => ?_⟩
  by_cases hcb : c = b
  · subst hcb; exact ⟨cs, hb, hn⟩
  · obtain ⟨ds, h1, h2⟩ := h.box c hcR
    exact ⟨ds, (hc.block _ (h.size c hcR) (by simpa using hcb)).trans h1, h2⟩
theorem kq_refl : Kq g R Good w w := ⟨Chg.refl _ _, fun _ _ _ => .inl rfl⟩
theorem kq_below (h : Below w.heap.size w w') : Kq g R Good w w' := ⟨Chg.of_below h _, fun _ _ hl => .inl (h.block _ hl)⟩
theorem kq_kp (h : Kp g w w') (hne : ∀ b ∈ R, b ≠ g) : Kq g R Good w w' := ⟨Chg.of_grown h (fun j hj => by injection hj with hj; simp [hj]), fun b hb hl => .inl (h.block _ hl (fun e => by injection e with e; exact hne b hb e))⟩
theorem kq_good {b : Nat} (hb : b ∈ R) (hc : Chg w w' [b]) (h : Good b w') : Kq g R Good w w' :=
  ⟨⟨hc.os, hc.tape, hc.output, hc.size, fun k hk hn => hc.block k hk (fun e => hn (by simp at e; subst e; exact List.mem_cons_of_mem _ hb))⟩, fun c _ hl => by
    by_cases hcb : c = b
    · subst hcb; exact .inr h
    · exact .inl (hc.block c hl (by simpa using hcb))⟩
theorem kq_block (h : Kq g R Good w w') {b : Nat} {x : Obj} (hb : b ≠ g) (hb2 : b ∉ R) (hx : w.heap[b]? = some x) : w'.heap[b]? = some x := by
  have hlt : b < w.heap.size := by
    rcases Nat.lt_or_ge b w.heap.size with h1 | h1
    · exact h1
    · rw [Array.getElem?_eq_none h1] at hx; cases hx
  rw [h.chg.block b hlt (fun e => by rcases List.mem_cons.1 e with e | e; exact hb e; exact hb2 e)]
  exact hx
theorem kq_cell (h : Kq g R Good w w') {b o : Nat} {x : Value} (hb : b ≠ g) (hb2 : b ∉ R) (hx : w.cell? ⟨b, o, none⟩ = some x) : w'.cell? ⟨b, o, none⟩ = some x := by
  rw [h.chg.cell (p := ⟨b, o, none⟩) (cell_lt hx) (fun e => by rcases List.mem_cons.1 e with e | e; exact hb e; exact hb2 e)]
  exact hx
end
def qRow (g : Nat) (R : List Nat) (n : Nat) (C : List Value → Prop) : Ty := fun w v => ∃ b cs t fr, v = .slice (some ⟨b, 0, none⟩) n n ∧ b ≠ g ∧ b ∉ R ∧ w.heap[b]? = some (.cells cs t fr) ∧ C cs.toList
def qAdrS (g : Nat) (R : List Nat) (B : Nat) : Ty := fun w v => ∃ b o, ∃ l : Tx, v = .pointer (some ⟨b, o, none⟩) ∧ b ≠ g ∧ b ∉ R ∧ w.cell? ⟨b, o, none⟩ = some (sv l) ∧ l.length ≤ B
def qAdrI (g : Nat) (R : List Nat) (lo hi : Int) : Ty := fun w v => ∃ b o, ∃ z : Int, v = .pointer (some ⟨b, o, none⟩) ∧ b ≠ g ∧ b ∉ R ∧ w.cell? ⟨b, o, none⟩ = some (.int .i64 z) ∧ lo ≤ z ∧ z ≤ hi
section
variable {g : Nat} {R : List Nat} {Good : Nat → World → Prop}
def StaysQ (g : Nat) (R : List Nat) (Good : Nat → World → Prop) (F : Ty) : Prop := ∀ w w' v, Kq g R Good w w' → F w v → F w' v
theorem staysQ_tIs {v : Value} : StaysQ g R Good (tIs v) := fun _ _ _ _ h => h
theorem staysQ_tNum {n : Int} : StaysQ g R Good (tNum n) := fun _ _ _ _ h => h
theorem staysQ_tInt {a b : Int} : StaysQ g R Good (tInt a b) := fun _ _ _ _ h => h
theorem staysQ_tTxt {n : Nat} : StaysQ g R Good (tTxt n) := fun _ _ _ _ h => h
theorem staysQ_qRow {n : Nat} {C : List Value → Prop} : StaysQ g R Good (qRow g R n C) := fun _ _ _ hk ⟨b, cs, t, fr, h1, h2, h2', h3, h4⟩ => ⟨b, cs, t, fr, h1, h2, h2', kq_block hk h2 h2' h3, h4⟩
theorem staysQ_qAdrS {n : Nat} : StaysQ g R Good (qAdrS g R n) := fun _ _ _ hk ⟨b, o, l, h1, h2, h2', h3, h4⟩ => ⟨b, o, l, h1, h2, h2', kq_cell hk h2 h2' h3, h4⟩
theorem staysQ_qAdrI {x y : Int} : StaysQ g R Good (qAdrI g R x y) := fun _ _ _ hk ⟨b, o, z, h1, h2, h2', h3, h4⟩ => ⟨b, o, z, h1, h2, h2', kq_cell hk h2 h2' h3, h4⟩
theorem rowQ_txt {B n : Nat} {w : World} {b k : Nat} {cs : Array Value} {t : TypeId} {fr : Nat × Nat} (hb : b ≠ g) (hb2 : b ∉ R) (h : w.heap[b]? = some (.cells cs t fr)) (hC : cTxt B n cs.toList) (hk : k < n) : qAdrS g R B w (.pointer (some ⟨b, k, none⟩)) := by
  obtain ⟨b', o, l, e, h1, h2, h3⟩ := row_txt hb h hC hk
  injection e with e
  injection e with e
  injection e with e1 e2
  subst e1 e2
  exact ⟨b, k, l, rfl, hb, hb2, h2, h3⟩
theorem rowQ_int {lo hi : Int} {n : Nat} {w : World} {b k : Nat} {cs : Array Value} {t : TypeId} {fr : Nat × Nat} (hb : b ≠ g) (hb2 : b ∉ R) (h : w.heap[b]? = some (.cells cs t fr)) (hC : cInt lo hi n cs.toList) (hk : k < n) : qAdrI g R lo hi w (.pointer (some ⟨b, k, none⟩)) := by
  obtain ⟨b', o, z, e, h1, h2, h3, h4⟩ := row_int hb h hC hk
  injection e with e
  injection e with e
  injection e with e1 e2
  subst e1 e2
  exact ⟨b, k, z, rfl, hb, hb2, h2, h3, h4⟩
/-- what was stored into a result's block -/
def qGood (Good : Nat → World → Prop) (b : Nat) : Ty := fun w _ => Good b w
/-- a result's block that is right stays so -/
def Solid (g : Nat) (R : List Nat) (Good : Nat → World → Prop) : Prop := ∀ w w' b, Chg w w' (g :: R) → b ∈ R → Good b w → b < w.heap.size ∧ (w'.heap[b]? = w.heap[b]? → Good b w')
theorem stays_qGood {b : Nat} (hs : Solid g R Good) (hb : b ∈ R) : StaysQ g R Good (qGood Good b) := fun w w' _ hk h => by
  obtain ⟨h1, h2⟩ := hs w w' b hk.chg hb h
  rcases hk.res b hb h1 with h3 | h3
  · exact h2 h3
  · exact h3
end
theorem size_three {cs : Array Value} (h : cs.size = 3) : ∃ z0 z1 z2, cs = #[z0, z1, z2] := by
  obtain ⟨l⟩ := cs
  match l, h with
  | [a, b, c], _ => exact ⟨a, b, c, rfl⟩
theorem size_five {cs : Array Value} (h : cs.size = 5) : ∃ z0 z1 z2 z3 z4, cs = #[z0, z1, z2, z3, z4] := by
  obtain ⟨l⟩ := cs
  match l, h with
  | [a, b, c, d, e], _ => exact ⟨a, b, c, d, e, rfl⟩
theorem cells_setQ {w : World} {b o : Nat} {cs : Array Value} {t : TypeId} {u : Value} (h : w.heap[b]? = some (.cells cs t (0, 0))) : (w.setCell ⟨b, o, none⟩ u).heap[b]? = some (.cells (cs.setIfInBounds o u) t (0, 0)) := by
  simp [World.setCell, Array.getElem?_modify, h]
theorem chg_one {w w1 : World} {b o : Nat} {u : Value} (h : Chg w w1 [b]) : Chg w (w1.setCell ⟨b, o, none⟩ u) [b] := h.trans (Chg.setCell (L := [b]) (by simp)) (fun x hx => .inl hx)
theorem chg_set5 {w : World} {b : Nat} {z0 z1 z2 z3 z4 v0 v1 v2 v3 v4 : Value} {t : TypeId} (h : w.heap[b]? = some (.cells #[z0, z1, z2, z3, z4] t (0, 0))) :
    Chg w (((((w.setCell ⟨b, 0, none⟩ v0).setCell ⟨b, 1, none⟩ v1).setCell ⟨b, 2, none⟩ v2).setCell ⟨b, 3, none⟩ v3).setCell ⟨b, 4, none⟩ v4) [b] ∧ (((((w.setCell ⟨b, 0, none⟩ v0).setCell ⟨b, 1, none⟩ v1).setCell ⟨b, 2, none⟩ v2).setCell ⟨b, 3, none⟩ v3).setCell ⟨b, 4, none⟩ v4).heap[b]? = some (.cells #[v0, v1, v2, v3, v4] t (0, 0)) :=
  ⟨chg_one (chg_one (chg_one (chg_one (chg_one (Chg.refl _ _))))), cells_setQ (cells_setQ (cells_setQ (cells_setQ (cells_setQ h))))⟩
theorem chg_set3 {w : World} {b : Nat} {z0 z1 z2 v0 v1 v2 : Value} {t : TypeId} (h : w.heap[b]? = some (.cells #[z0, z1, z2] t (0, 0))) :
    Chg w (((w.setCell ⟨b, 0, none⟩ v0).setCell ⟨b, 1, none⟩ v1).setCell ⟨b, 2, none⟩ v2) [b] ∧ (((w.setCell ⟨b, 0, none⟩ v0).setCell ⟨b, 1, none⟩ v1).setCell ⟨b, 2, none⟩ v2).heap[b]? = some (.cells #[v0, v1, v2] t (0, 0)) :=
  ⟨chg_one (chg_one (chg_one (Chg.refl _ _))), cells_setQ (cells_setQ (cells_setQ h))⟩
theorem box_threeQ {w : World} {b : Nat} {c0 c1 c2 : Value} {t : TypeId} (h : w.heap[b]? = some (.cells #[c0, c1, c2] t (0, 0))) :
    (w.cell? ⟨b, 0, none⟩ = some c0 ∧ w.cell? ⟨b, 1, none⟩ = some c1 ∧ w.cell? ⟨b, 2, none⟩ = some c2) ∧ (w.frozen? ⟨b, 0, none⟩ = false ∧ w.frozen? ⟨b, 1, none⟩ = false ∧ w.frozen? ⟨b, 2, none⟩ = false) := by
  simp [World.cell?, World.frozen?, h]
end Go.Proofs.Ytlafdpndpjcklaa
