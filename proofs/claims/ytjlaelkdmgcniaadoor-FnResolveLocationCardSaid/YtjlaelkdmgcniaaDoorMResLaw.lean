/- For every code: ResolveLocation of the program and of the reference agree on the drawn location and text; an invalid location leads nowhere; an empty text means the location without its query; a whole one means itself; no other text leads to another host: the card FnResolveLocationCardSaid holds. No conditions. -/
import Derived.Test.YtjlaelkdmgcniaaDoorBase
import Derived.Test.YtjlaelkdmgcniaaDoorDrawT
import Derived.OneCell
import Derived.Test.YtjlaelkdmgcniaaDoorReadLocI
import Derived.Test.YtjlaelkdmgcniaaDoorLocDrew
import Derived.Test.YtjlaelkdmgcniaaDoorTie
import Derived.Test.YtjlaelkdmgcniaaDoorCards
import Derived.ProofKit
import Derived.OpenShut
import Derived.LaidMore
import Derived.Lay
import Derived.SevenTiedAt
import Derived.Stop.Joined
import Derived.Test.YtjlaelkdmgcniaaDoorResS
import Derived.Test.YtjlaelkdmgcniaaDoorResI
/- What a call may have turned: some blocks, and what is new. No function of the program is walked here. -/
namespace Go.Proofs.YtjlaelkdmgcniaaDoor
open Go.RowKit

/-- what a call may have turned: the blocks L alone, and what is new -/
structure Chg (w w' : World) (L : List Nat) : Prop where
  os : w'.os = w.os
  tape : w'.tape = w.tape
  output : w'.output = w.output
  size : w.heap.size ≤ w'.heap.size
  block : ∀ k, k < w.heap.size → k ∉ L → w'.heap[k]? = w.heap[k]?
theorem Chg.refl (w : World) (L : List Nat) : Chg w w L := ⟨rfl, rfl, rfl, Nat.le_refl _, fun _ _ _ => rfl⟩
theorem Chg.trans {a b c : World} {L M : List Nat} (h : Chg a b L) (k : Chg b c M) (hM : ∀ x, x ∈ M → x ∈ L ∨ a.heap.size ≤ x) : Chg a c L :=
  ⟨k.os.trans h.os, k.tape.trans h.tape, k.output.trans h.output, Nat.le_trans h.size k.size, fun i hi hn => (k.block i (Nat.lt_of_lt_of_le hi h.size) (fun e => by rcases hM i e with e | e; exact hn e; omega)).trans (h.block i hi hn)⟩
theorem Chg.of_below {w w' : World} (h : Below w.heap.size w w') (L : List Nat) : Chg w w' L := ⟨h.os, h.tape, h.output, h.size, fun k hk _ => h.block k hk⟩
theorem Chg.below {w w' : World} {L : List Nat} {B : Nat} (h : Chg w w' L) (hB : B ≤ w.heap.size) (hL : ∀ b, b ∈ L → B ≤ b) : Below B w w' :=
  ⟨h.os, h.tape, h.output, h.size, fun k hk => h.block k (by omega) (fun e => by have := hL k e; omega)⟩
theorem Chg.of_grown {w w' : World} {r : Option Nat} (h : w.grownBy w' r) {L : List Nat} (hr : ∀ g, r = some g → g ∈ L) : Chg w w' L :=
  ⟨h.os, h.tape, h.output, h.size, fun k hk hn => h.block k hk (fun e => hn (hr k e.symm))⟩
theorem Chg.setCell {w : World} {p : Addr} {u : Value} {L : List Nat} (h : p.block ∈ L) : Chg w (w.setCell p u) L :=
  ⟨rfl, rfl, rfl, by simp [World.setCell], fun k _ hn => Below.heap_setCell _ _ _ _ (fun e => hn (by rw [e]; exact h))⟩
theorem Chg.alloc {w0 w : World} {L : List Nat} (h : Chg w0 w L) (o : Obj) : Chg w0 (w.alloc o) L := h.trans (Chg.of_below ((Below.refl _ _).alloc (Nat.le_refl _) o) []) (fun x hx => by cases hx)
theorem Chg.drew {w0 w : World} {L : List Nat} (h : Chg w0 w L) : Chg w0 w.drew L := ⟨h.os, h.tape, h.output, h.size, h.block⟩
theorem Chg.cell {w w' : World} {L : List Nat} (h : Chg w w' L) {p : Addr} (hp : p.block < w.heap.size) (hn : p.block ∉ L) : w'.cell? p = w.cell? p := World.cell?_of_block (h.block _ hp hn)
end Go.Proofs.YtjlaelkdmgcniaaDoor

/- Regions that draw their order, store into a result's block besides, and have no tail: the typed rule. No function of the program is walked here. -/
namespace Go.Proofs.YtjlaelkdmgcniaaDoor
open Go Go.RowKit

def hreach0 (l : List Oper) (m i : Nat) : Bool := match hdst l i with
  | some d => decide (d < m) && (List.range i).all fun j => hdst l j != some d
  | none => true
def typedA (l : List Oper) (m : Nat) : Bool := (List.range l.length).all fun i => hplain l i && hreach0 l m i
theorem hreach0_spec {l : List Oper} {m i : Nat} {d : Tmp} (h : hreach0 l m i = true) (hd : hdst l i = some d) : d < m ∧ ∀ j < i, hdst l j ≠ some d := by
  unfold hreach0 at h
  rw [hd] at h
  simp only [Bool.and_eq_true, decide_eq_true_eq, List.all_eq_true, List.mem_range, bne_iff_ne, ne_eq] at h
  exact h
section
variable {P : Program} {l : List Oper} {n : Nat} {a0 : Act} {W : Nat → World → Prop} {Keep : World → World → Prop} {F : Nat → World → Value → Prop}
structure TInvA (l : List Oper) (a0 : Act) (W : Nat → World → Prop) (F : Nat → World → Value → Prop) (listed : Array Bool) (a : Act) (w : World) : Prop where
  head : HeadInv .any l.toArray l.length listed
  world : W (l.length - cnt listed l.length) w
  defers : a.defers = a0.defers
  size : a.tmps.size = a0.tmps.size
  base : ∀ s, (∀ i < l.length, listed.getD i false = true → hdst l i ≠ some s) → a.tmps[s]? = a0.tmps[s]?
  vals : ∀ i < l.length, listed.getD i false = true → ∀ d, hdst l i = some d → F i w (a.tmps.getD d undef)
  none : ∀ i < l.length, listed.getD i false = true → hdst l i = none → ∃ v, F i w v
theorem putAll_spec0 (vs : Nat → Value) (hr : ∀ i < n, hreach0 l a0.tmps.size i = true) : ∀ k, k ≤ n →
    (putAll l vs k a0).defers = a0.defers ∧ (putAll l vs k a0).tmps.size = a0.tmps.size ∧ (∀ i < k, ∀ d, hdst l i = some d → (putAll l vs k a0).tmps[d]? = some (vs i)) ∧
      (∀ s, (∀ i < k, hdst l i ≠ some s) → (putAll l vs k a0).tmps[s]? = a0.tmps[s]?)
  | 0, _ => ⟨rfl, rfl, fun i hi => absurd hi (by omega), fun _ _ => rfl⟩
  | k + 1, hk => by
    obtain ⟨h1, h2, h3, h4⟩ := putAll_spec0 vs hr k (by omega)
    cases hd : hdst l k with
    | none =>
      have e : putAll l vs (k + 1) a0 = putAll l vs k a0 := by simp only [putAll, hd, Act.put]
      rw [e]
      refine ⟨h1, h2, fun i hi d' hd' => ?_, fun s hs => h4 s fun i hi => hs i (by omega)⟩
      by_cases hik : i = k
      · subst hik; rw [hd] at hd'; cases hd'
      · exact h3 i (by omega) d' hd'
    | some d =>
      obtain ⟨hdm, hnew⟩ := hreach0_spec (hr k (by omega)) hd
      simp only [putAll, hd, Act.put]
      refine ⟨h1, by simpa using h2, fun i hi d' hd' => ?_, fun s hs => ?_⟩
      · by_cases hik : i = k
        · subst hik
          rw [hd] at hd'
          cases hd'
          simp [h2, hdm]
        · have hne : d ≠ d' := fun e => hnew i (by omega) (by rw [hd', e])
          rw [Array.getElem?_setIfInBounds_ne hne]
          exact h3 i (by omega) d' hd'
      · have hne : d ≠ s := fun e => hs k (by omega) (by rw [hd, e])
        rw [Array.getElem?_setIfInBounds_ne hne]
        exact h4 s fun i hi => hs i (by omega)
theorem typed_all {Q : Exit → Act → World → Prop} (hB : typedA l a0.tmps.size = true) (hkeep : ∀ j < l.length, ∀ w w' v, Keep w w' → F j w v → F j w' v)
    (hstep : ∀ i < l.length, TStep P l l.length a0 W Keep F i)
    (hfin : ∀ (vs : Nat → Value) (w' : World), W l.length w' → (∀ i < l.length, F i w' (vs i)) → Q .normal (putAll l vs l.length a0) w') :
    ∀ (f : Nat) (listed : Array Bool) (a : Act) (w : World), cnt listed l.length = f → TInvA l a0 W F listed a w → wpAny P .any l.toArray Q f listed a w := by
  simp only [typedA, List.all_eq_true, List.mem_range, Bool.and_eq_true] at hB
  intro f
  induction f with
  | zero =>
    intro listed a w hc inv
    have hl1 := cnt_zero hc
    refine ⟨?_, ?_⟩
    · cases hr : Region.ready .any l.toArray listed with
      | nil => rfl
      | cons i r =>
        have hi : i ∈ Region.ready .any l.toArray listed := by rw [hr]; simp
        obtain ⟨hun, o, ho, _⟩ := mem_ready.1 hi
        have hil : i < l.length := by
          have := (List.getElem?_eq_some_iff.1 (show l[i]? = some o by simpa using ho)).1; exact this
        have := hl1 i hil
        rw [getD_both hun] at this
        cases this
    · have hfa : ∀ vs : Nat → Value, (∀ i < l.length, ∀ d, hdst l i = some d → vs i = a.tmps.getD d undef) → a = putAll l vs l.length a0 := by
        intro vs hvs
        obtain ⟨p1, p2, p3, p4⟩ := putAll_spec0 (l := l) (n := l.length) (a0 := a0) vs (fun i hi => (hB i hi).2) l.length (Nat.le_refl _)
        generalize putAll l vs l.length a0 = b at *
        have e1 : a.tmps = b.tmps := by
          apply Array.ext_getElem?
          intro s
          by_cases hex : ∃ i, i < l.length ∧ hdst l i = some s
          · obtain ⟨i, hi, hd⟩ := hex
            rw [p3 i hi s hd, hvs i hi s hd]
            have hsz : s < a.tmps.size := by rw [inv.size]; exact (hreach0_spec (hB i hi).2 hd).1
            simp [hsz]
          · have hno : ∀ i < l.length, hdst l i ≠ some s := fun i hi e => hex ⟨i, hi, e⟩
            rw [p4 s hno]
            exact inv.base s fun i hi _ => hno i hi
        have e2 : a.defers = b.defers := by rw [inv.defers, p1]
        cases a; cases b
        simp only at e1 e2
        rw [e1, e2]
      have hex : ∀ i, ∃ v, i < l.length → (F i w v ∧ ∀ d, hdst l i = some d → v = a.tmps.getD d undef) := by
        intro i
        by_cases hi : i < l.length
        · cases hd : hdst l i with
          | none =>
            obtain ⟨v, hv⟩ := inv.none i hi (hl1 i hi) hd
            exact ⟨v, fun _ => ⟨hv, fun d e => by cases e⟩⟩
          | some d => exact ⟨a.tmps.getD d undef, fun _ => ⟨inv.vals i hi (hl1 i hi) d hd, fun d' e => by injection e with e; rw [e]⟩⟩
        · exact ⟨undef, fun h => absurd h hi⟩
      have hvs : ∀ i < l.length, F i w ((hex i).choose) ∧ ∀ d, hdst l i = some d → (hex i).choose = a.tmps.getD d undef := fun i hi => (hex i).choose_spec hi
      have hq := hfin (fun i => (hex i).choose) w (by have := inv.world; rw [hc] at this; simpa using this) (fun i hi => (hvs i hi).1)
      rw [← hfa _ (fun i hi => (hvs i hi).2)] at hq
      exact hq
  | succ f ih =>
    intro listed a w hc inv
    have hls : listed.size = l.length := by simpa using inv.head.size
    obtain ⟨i0, hi0, hu0, hbef⟩ := cnt_some (listed := listed) (n := l.length) (by omega)
    have hi0r : i0 ∈ Region.ready .any l.toArray listed := by
      have h1 := (hB i0 hi0).1
      unfold hplain at h1
      split at h1
      · rename_i o ho
        simp only [Bool.and_eq_true, Array.all_eq_true'] at h1
        refine mem_ready.2 ⟨getD_in (by omega) hu0, o, by simpa using ho, fun e he hb => ?_⟩
        have := h1.2 e he
        simp only [hb, Bool.not_true, Bool.false_or, decide_eq_true_eq] at this
        exact hbef _ this
      · cases h1
    refine ⟨fun h0 => (by rw [h0] at hi0r; cases hi0r), fun i hi => ?_⟩
    obtain ⟨hun, o, ho, haft⟩ := mem_ready.1 hi
    have hol : l[i]? = some o := by simpa using ho
    have hin : i < l.length := (List.getElem?_eq_some_iff.1 hol).1
    have hgu : o.guard.isNone = true := by
      have h1 := (hB i hin).1
      unfold hplain at h1
      rw [hol] at h1
      simp only [Bool.and_eq_true] at h1
      exact h1.1
    have hunf := getD_both hun
    unfold wpOp
    simp only [ho, wanted_plain hgu, if_true]
    left
    have hcs := cnt_set (n := l.length) (by omega) hunf hin
    have hm : l.length - cnt listed l.length < l.length := by have := cnt_le listed l.length; omega
    refine hstep i hin o hol (l.length - cnt listed l.length) a w hm inv.world (fun s hs => inv.base s fun j hj _ => hs j hj) (fun j hj d' hd' => ?_) _ Q fun v w' hw' hk hv => ?_
    · obtain ⟨oi, hoi, e, he, hb, hon⟩ := Region.waitsFor_spec hj
      have : oi = o := Option.some.inj (hoi.symm.trans ho)
      subst this
      have hl2 := haft e he hb
      rw [hon] at hl2
      have hjn : j < l.length := by
        have h1 := (hB i hin).1
        unfold hplain at h1
        rw [hol] at h1
        simp only [Bool.and_eq_true, Array.all_eq_true'] at h1
        have := h1.2 e he
        simp only [hb, Bool.not_true, Bool.false_or, decide_eq_true_eq] at this
        omega
      exact inv.vals j hjn hl2 d' hd'
    · have hod : o.dst = hdst l i := by simp [hdst, hol]
      rw [hod]
      refine ih _ _ w' (by omega) ⟨inv.head.set hi hin, ?_, ?_, ?_, ?_, ?_, ?_⟩
      · have : l.length - cnt (listed.setIfInBounds i true) l.length = l.length - cnt listed l.length + 1 := by have := cnt_le listed l.length; omega
        rw [this]; exact hw'
      · cases hd : hdst l i <;> simpa [Act.put] using inv.defers
      · cases hd : hdst l i <;> simpa [Act.put] using inv.size
      · intro s hs
        have hb0 := inv.base s fun j hj hl => hs j hj (getD_set_true hl)
        cases hd : hdst l i with
        | none => exact hb0
        | some d =>
          have hne : d ≠ s := fun e => hs i hin (getD_set_self (by omega)) (by rw [hd, e])
          rw [act_put_other hne]
          exact hb0
      · intro j hj hl d' hd'
        by_cases hij : i = j
        · subst hij
          rw [hd', act_put_slot (by rw [inv.size]; exact (hreach0_spec (hB i hin).2 hd').1)]
          exact hv
        · rw [getD_set_ne false hij] at hl
          have hv2 := hkeep j hj w w' _ hk (inv.vals j hj hl d' hd')
          cases hd : hdst l i with
          | none => exact hv2
          | some d =>
            have hne : d ≠ d' := by
              intro e
              subst e
              rcases Nat.lt_or_gt_of_ne hij with h | h
              · exact (hreach0_spec (hB j hj).2 hd').2 i h hd
              · exact (hreach0_spec (hB i hin).2 hd).2 j h hd'
            rw [getD_of (act_put_other hne v)]
            exact hv2
      · intro j hj hl hd'
        by_cases hij : i = j
        · subst hij; exact ⟨v, hv⟩
        · rw [getD_set_ne false hij] at hl
          obtain ⟨v2, hv2⟩ := inv.none j hj hl hd'
          exact ⟨v2, hkeep j hj w w' _ hk hv2⟩
/-- A region that draws its order, without a tail: each operation is looked at once. -/
theorem wp_region_all {id : Nat} {Q : Exit → Act → World → Prop} {w : World} (n : Nat) (hn : l.length = n) (hm : P.follows .mixedOrders = true) (hB : typedA l a0.tmps.size = true)
    (W : Nat → World → Prop) (Keep : World → World → Prop) (F : Nat → World → Value → Prop) (hW : W 0 w.drew) (hkeep : ∀ j < n, ∀ w w' v, Keep w w' → F j w v → F j w' v)
    (hstep : ∀ i < n, TStep P l n a0 W Keep F i)
    (hfin : ∀ (vs : Nat → Value) (w' : World), W n w' → (∀ i < n, F i w' (vs i)) → wpList P l.toArray Q (l.drop n) (putAll l vs n a0) w') :
    (Code.region id l.toArray true).wp P Q a0 w := by
  subst hn
  refine wp_region_any hm ?_
  have hsz : l.toArray.size = l.length := by simp
  rw [hsz]
  exact typed_all (Q := Q) hB hkeep hstep (fun vs w' h1 h2 => by have h3 := hfin vs w' h1 h2; rw [List.drop_length] at h3; exact h3) l.length (Array.replicate l.length false) a0 w.drew (cnt_all _ l.length (by omega))
    ⟨⟨by simp, fun j oj _ hl => (by rw [getD_replicate_false] at hl; cases hl), fun t h1 ht => absurd ht (by simp; omega)⟩,
      (by rw [cnt_all _ l.length (by omega), Nat.sub_self]; exact hW), rfl, rfl, fun _ _ => rfl, fun i _ hl => (by rw [getD_replicate_false] at hl; cases hl), fun i _ hl => (by rw [getD_replicate_false] at hl; cases hl)⟩
end

/-! ### the world of such a region: the reader's block g, the results' blocks R -/
structure DWQ (w0 : World) (B g : Nat) (R : List Nat) (T : TypeId) (n q D m : Nat) (w : World) : Prop where
  rdr : Rdr w B g (q + m * D)
  chg : Chg w0 w (g :: R)
  gt : g < w0.heap.size
  lt : ∀ b ∈ R, b < w0.heap.size
  ne : ∀ b ∈ R, b ≠ g
  ge : ∀ b ∈ R, B ≤ b
  box : ∀ b ∈ R, ∃ cs, w.heap[b]? = some (.cells cs T (0, 0)) ∧ cs.size = n
/-- what an operation leaves: the reader and the results' blocks apart all that was; a result's block may become right -/
structure Kq (g : Nat) (R : List Nat) (Good : Nat → World → Prop) (w w' : World) : Prop where
  chg : Chg w w' (g :: R)
  res : ∀ b ∈ R, b < w.heap.size → w'.heap[b]? = w.heap[b]? ∨ Good b w'
theorem rdr_chg {w w' : World} {B g q : Nat} {L : List Nat} (h : Rdr w B g q) (hc : Chg w w' L) (h1 : g ∉ L) (h2 : ∀ b ∈ L, B ≤ b) : Rdr w' B g q := by
  have hlt := h.lt
  obtain ⟨bs, A, c, p, k1, k2, k3, k4, k5⟩ := h
  exact ⟨bs, A, c, p, k1, k2, k3, (hc.block g hlt h1).trans k4, k5.keep fun x hx => hc.cell (by omega) (fun e => by have := h2 _ e; omega)⟩
section
variable {w0 w w' : World} {B g n q D m : Nat} {R : List Nat} {T : TypeId} {Good : Nat → World → Prop}
theorem DWQ.size (h : DWQ w0 B g R T n q D m w) : ∀ b ∈ R, b < w.heap.size := fun b hb => Nat.lt_of_lt_of_le (h.lt b hb) h.chg.size
theorem DWQ.next (h : DWQ w0 B g R T n q D m w) (hb : Below w.heap.size w w') : DWQ w0 B g R T n q D (m + 1) w' := by
  refine ⟨(h.rdr.keep hb).more (by rw [Nat.succ_mul]; omega), h.chg.trans (Chg.of_below hb []) (fun x hx => by cases hx), h.gt, h.lt, h.ne, h.ge, fun b hbR => ?_⟩
  obtain ⟨cs, h1, h2⟩ := h.box b hbR
  exact ⟨cs, (hb.block _ (h.size b hbR)).trans h1, h2⟩
theorem DWQ.same (h : DWQ w0 B g R T n q D m w) : DWQ w0 B g R T n q D (m + 1) w := h.next (Below.refl _ _)
theorem DWQ.call (h : DWQ w0 B g R T n q D m w) (hr : Rdr w' B g (q + (m + 1) * D)) (hg : w.grownBy w' (some g)) : DWQ w0 B g R T n q D (m + 1) w' := by
  refine ⟨hr, h.chg.trans (Chg.of_grown (L := [g]) hg (fun j hj => by injection hj with hj; simp [hj])) (fun x hx => by simp at hx; simp [hx]), h.gt, h.lt, h.ne, h.ge, fun b hbR => ?_⟩
  obtain ⟨cs, h1, h2⟩ := h.box b hbR
  exact ⟨cs, (hg.block _ (h.size b hbR) (fun e => by injection e with e; exact h.ne b hbR e)).trans h1, h2⟩
theorem DWQ.new (h : DWQ w0 B g R T n q D m w) : w.heap.size ≠ g := by have := h.rdr.lt; omega
theorem DWQ.new2 (h : DWQ w0 B g R T n q D m w) : w.heap.size ∉ R := fun e => Nat.lt_irrefl _ (h.size _ e)
theorem DWQ.old (h : DWQ w0 B g R T n q D m w) {b : Nat} {x : Obj} (hx : w0.heap[b]? = some x ∧ b ≠ g ∧ b ∉ R) : w.heap[b]? = some x := by
  have hlt : b < w0.heap.size := by
    rcases Nat.lt_or_ge b w0.heap.size with h1 | h1
    · exact h1
    · have := hx.1; rw [Array.getElem?_eq_none h1] at this; cases this
  rw [h.chg.block b hlt (fun e => by rcases List.mem_cons.1 e with e | e; exact hx.2.1 e; exact hx.2.2 e)]
  exact hx.1
/-- a result's block is written -/
theorem DWQ.stored (h : DWQ w0 B g R T n q D m w) {b : Nat} (hbR : b ∈ R) {cs : Array Value} (hc : Chg w w' [b]) (hb : w'.heap[b]? = some (.cells cs T (0, 0))) (hn : cs.size = n) : DWQ w0 B g R T n q D (m + 1) w' := by
  refine ⟨(rdr_chg h.rdr hc (by simp; exact fun e => h.ne b hbR e.symm) (fun j hj => by simp at hj; subst hj; exact h.ge _ hbR)).more (by rw [Nat.succ_mul]; omega), h.chg.trans hc (fun x hx => by simp at hx; subst hx; exact .inl (List.mem_cons_of_mem _ hbR)), h.gt, h.lt, h.ne, h.ge, fun c hcR => ?_⟩
  by_cases hcb : c = b
  · subst hcb; exact ⟨cs, hb, hn⟩
  · obtain ⟨ds, h1, h2⟩ := h.box c hcR
    exact ⟨ds, (hc.block _ (h.size c hcR) (by simpa using hcb)).trans h1, h2⟩
theorem kq_refl : Kq g R Good w w := ⟨Chg.refl _ _, fun _ _ _ => .inl rfl⟩
theorem kq_below (h : Below w.heap.size w w') : Kq g R Good w w' := ⟨Chg.of_below h _, fun _ _ hl => .inl (h.block _ hl)⟩
theorem kq_kp (h : Kp g w w') (hne : ∀ b ∈ R, b ≠ g) : Kq g R Good w w' := ⟨Chg.of_grown h (fun j hj => by injection hj with hj; simp [hj]), fun b hb hl => .inl (h.block _ hl (fun e => by injection e with e; exact hne b hb e))⟩
theorem kq_good {b : Nat} (hb : b ∈ R) (hc : Chg w w' [b]) (h : Good b w') : Kq g R Good w w' :=
  ⟨⟨hc.os, hc.tape, hc.output, hc.size, fun k hk hn => hc.block k hk (fun e => hn (by simp at e; subst e; exact List.mem_cons_of_mem _ hb))⟩, fun c _ hl => by
    by_cases hcb : c = b
    · subst hcb; exact .inr h
    · exact .inl (hc.block c hl (by simpa using hcb))⟩
theorem kq_block (h : Kq g R Good w w') {b : Nat} {x : Obj} (hb : b ≠ g) (hb2 : b ∉ R) (hx : w.heap[b]? = some x) : w'.heap[b]? = some x := by
  have hlt : b < w.heap.size := by
    rcases Nat.lt_or_ge b w.heap.size with h1 | h1
    · exact h1
    · rw [Array.getElem?_eq_none h1] at hx; cases hx
  rw [h.chg.block b hlt (fun e => by rcases List.mem_cons.1 e with e | e; exact hb e; exact hb2 e)]
  exact hx
theorem kq_cell (h : Kq g R Good w w') {b o : Nat} {x : Value} (hb : b ≠ g) (hb2 : b ∉ R) (hx : w.cell? ⟨b, o, none⟩ = some x) : w'.cell? ⟨b, o, none⟩ = some x := by
  rw [h.chg.cell (p := ⟨b, o, none⟩) (cell_lt hx) (fun e => by rcases List.mem_cons.1 e with e | e; exact hb e; exact hb2 e)]
  exact hx
end
def qRow (g : Nat) (R : List Nat) (n : Nat) (C : List Value → Prop) : Ty := fun w v => ∃ b cs t fr, v = .slice (some ⟨b, 0, none⟩) n n ∧ b ≠ g ∧ b ∉ R ∧ w.heap[b]? = some (.cells cs t fr) ∧ C cs.toList
def qAdrS (g : Nat) (R : List Nat) (B : Nat) : Ty := fun w v => ∃ b o, ∃ l : Tx, v = .pointer (some ⟨b, o, none⟩) ∧ b ≠ g ∧ b ∉ R ∧ w.cell? ⟨b, o, none⟩ = some (sv l) ∧ l.length ≤ B
def qAdrI (g : Nat) (R : List Nat) (lo hi : Int) : Ty := fun w v => ∃ b o, ∃ z : Int, v = .pointer (some ⟨b, o, none⟩) ∧ b ≠ g ∧ b ∉ R ∧ w.cell? ⟨b, o, none⟩ = some (.int .i64 z) ∧ lo ≤ z ∧ z ≤ hi
section
variable {g : Nat} {R : List Nat} {Good : Nat → World → Prop}
def StaysQ (g : Nat) (R : List Nat) (Good : Nat → World → Prop) (F : Ty) : Prop := ∀ w w' v, Kq g R Good w w' → F w v → F w' v
theorem staysQ_tIs {v : Value} : StaysQ g R Good (tIs v) := fun _ _ _ _ h => h
theorem staysQ_tNum {n : Int} : StaysQ g R Good (tNum n) := fun _ _ _ _ h => h
theorem staysQ_tInt {a b : Int} : StaysQ g R Good (tInt a b) := fun _ _ _ _ h => h
theorem staysQ_tTxt {n : Nat} : StaysQ g R Good (tTxt n) := fun _ _ _ _ h => h
theorem staysQ_qRow {n : Nat} {C : List Value → Prop} : StaysQ g R Good (qRow g R n C) := fun _ _ _ hk ⟨b, cs, t, fr, h1, h2, h2', h3, h4⟩ => ⟨b, cs, t, fr, h1, h2, h2', kq_block hk h2 h2' h3, h4⟩
theorem staysQ_qAdrS {n : Nat} : StaysQ g R Good (qAdrS g R n) := fun _ _ _ hk ⟨b, o, l, h1, h2, h2', h3, h4⟩ => ⟨b, o, l, h1, h2, h2', kq_cell hk h2 h2' h3, h4⟩
theorem staysQ_qAdrI {x y : Int} : StaysQ g R Good (qAdrI g R x y) := fun _ _ _ hk ⟨b, o, z, h1, h2, h2', h3, h4⟩ => ⟨b, o, z, h1, h2, h2', kq_cell hk h2 h2' h3, h4⟩
theorem rowQ_txt {B n : Nat} {w : World} {b k : Nat} {cs : Array Value} {t : TypeId} {fr : Nat × Nat} (hb : b ≠ g) (hb2 : b ∉ R) (h : w.heap[b]? = some (.cells cs t fr)) (hC : cTxt B n cs.toList) (hk : k < n) : qAdrS g R B w (.pointer (some ⟨b, k, none⟩)) := by
  obtain ⟨b', o, l, e, h1, h2, h3⟩ := row_txt hb h hC hk
  injection e with e
  injection e with e
  injection e with e1 e2
  subst e1 e2
  exact ⟨b, k, l, rfl, hb, hb2, h2, h3⟩
theorem rowQ_int {lo hi : Int} {n : Nat} {w : World} {b k : Nat} {cs : Array Value} {t : TypeId} {fr : Nat × Nat} (hb : b ≠ g) (hb2 : b ∉ R) (h : w.heap[b]? = some (.cells cs t fr)) (hC : cInt lo hi n cs.toList) (hk : k < n) : qAdrI g R lo hi w (.pointer (some ⟨b, k, none⟩)) := by
  obtain ⟨b', o, z, e, h1, h2, h3, h4⟩ := row_int hb h hC hk
  injection e with e
  injection e with e
  injection e with e1 e2
  subst e1 e2
  exact ⟨b, k, z, rfl, hb, hb2, h2, h3, h4⟩
/-- what was stored into a result's block -/
def qGood (Good : Nat → World → Prop) (b : Nat) : Ty := fun w _ => Good b w
/-- a result's block that is right stays so -/
def Solid (g : Nat) (R : List Nat) (Good : Nat → World → Prop) : Prop := ∀ w w' b, Chg w w' (g :: R) → b ∈ R → Good b w → b < w.heap.size ∧ (w'.heap[b]? = w.heap[b]? → Good b w')
theorem stays_qGood {b : Nat} (hs : Solid g R Good) (hb : b ∈ R) : StaysQ g R Good (qGood Good b) := fun w w' _ hk h => by
  obtain ⟨h1, h2⟩ := hs w w' b hk.chg hb h
  rcases hk.res b hb h1 with h3 | h3
  · exact h2 h3
  · exact h3
end
theorem size_three {cs : Array Value} (h : cs.size = 3) : ∃ z0 z1 z2, cs = #[z0, z1, z2] := by
  obtain ⟨l⟩ := cs
  match l, h with
  | [a, b, c], _ => exact ⟨a, b, c, rfl⟩
theorem size_five {cs : Array Value} (h : cs.size = 5) : ∃ z0 z1 z2 z3 z4, cs = #[z0, z1, z2, z3, z4] := by
  obtain ⟨l⟩ := cs
  match l, h with
  | [a, b, c, d, e], _ => exact ⟨a, b, c, d, e, rfl⟩
theorem cells_setQ {w : World} {b o : Nat} {cs : Array Value} {t : TypeId} {u : Value} (h : w.heap[b]? = some (.cells cs t (0, 0))) : (w.setCell ⟨b, o, none⟩ u).heap[b]? = some (.cells (cs.setIfInBounds o u) t (0, 0)) := by
  simp [World.setCell, Array.getElem?_modify, h]
theorem chg_one {w w1 : World} {b o : Nat} {u : Value} (h : Chg w w1 [b]) : Chg w (w1.setCell ⟨b, o, none⟩ u) [b] := h.trans (Chg.setCell (L := [b]) (by simp)) (fun x hx => .inl hx)
theorem chg_set5 {w : World} {b : Nat} {z0 z1 z2 z3 z4 v0 v1 v2 v3 v4 : Value} {t : TypeId} (h : w.heap[b]? = some (.cells #[z0, z1, z2, z3, z4] t (0, 0))) :
    Chg w (((((w.setCell ⟨b, 0, none⟩ v0).setCell ⟨b, 1, none⟩ v1).setCell ⟨b, 2, none⟩ v2).setCell ⟨b, 3, none⟩ v3).setCell ⟨b, 4, none⟩ v4) [b] ∧ (((((w.setCell ⟨b, 0, none⟩ v0).setCell ⟨b, 1, none⟩ v1).setCell ⟨b, 2, none⟩ v2).setCell ⟨b, 3, none⟩ v3).setCell ⟨b, 4, none⟩ v4).heap[b]? = some (.cells #[v0, v1, v2, v3, v4] t (0, 0)) :=
  ⟨chg_one (chg_one (chg_one (chg_one (chg_one (Chg.refl _ _))))), cells_setQ (cells_setQ (cells_setQ (cells_setQ (cells_setQ h))))⟩
theorem chg_set3 {w : World} {b : Nat} {z0 z1 z2 v0 v1 v2 : Value} {t : TypeId} (h : w.heap[b]? = some (.cells #[z0, z1, z2] t (0, 0))) :
    Chg w (((w.setCell ⟨b, 0, none⟩ v0).setCell ⟨b, 1, none⟩ v1).setCell ⟨b, 2, none⟩ v2) [b] ∧ (((w.setCell ⟨b, 0, none⟩ v0).setCell ⟨b, 1, none⟩ v1).setCell ⟨b, 2, none⟩ v2).heap[b]? = some (.cells #[v0, v1, v2] t (0, 0)) :=
  ⟨chg_one (chg_one (chg_one (Chg.refl _ _))), cells_setQ (cells_setQ (cells_setQ h))⟩
theorem box_threeQ {w : World} {b : Nat} {c0 c1 c2 : Value} {t : TypeId} (h : w.heap[b]? = some (.cells #[c0, c1, c2] t (0, 0))) :
    (w.cell? ⟨b, 0, none⟩ = some c0 ∧ w.cell? ⟨b, 1, none⟩ = some c1 ∧ w.cell? ⟨b, 2, none⟩ = some c2) ∧ (w.frozen? ⟨b, 0, none⟩ = false ∧ w.frozen? ⟨b, 1, none⟩ = false ∧ w.frozen? ⟨b, 2, none⟩ = false) := by
  simp [World.cell?, World.frozen?, h]
end Go.Proofs.YtjlaelkdmgcniaaDoor

/- Locations: what the laws ask besides: plain laws; sameLocation; the drawn text: walks. -/
namespace Go.Proofs.YtjlaelkdmgcniaaDoor
open Go.RowKit

theorem hexD_no47 : ∀ n, n < 16 → hexD n ≠ 47 := by decide
theorem escPart_no47 (t : Tx) : noB 47 (escPart t) := by
  intro b hb
  unfold escPart at hb
  obtain ⟨c, _, hc⟩ := List.mem_flatMap.1 hb
  unfold escByte at hc
  split at hc
  · rename_i hp
    simp at hc
    subst hc
    exact (plainByte_no2 hp).1
  · simp only [hex3, List.mem_cons, List.not_mem_nil, or_false] at hc
    rcases hc with rfl | rfl | rfl
    · decide
    · exact hexD_no47 _ (byte_div c)
    · exact hexD_no47 _ (byte_mod c)
theorem nameByte_no47 {c : UInt8} (h : nameByte c = true) : c ≠ 47 := by rintro rfl; revert h; decide
theorem noB_join2 {c d : UInt8} (hd : d ≠ c) {xs : List Tx} (h : ∀ x ∈ xs, noB c x) : noB c (Lib.join xs [d]) := noB_join hd h
theorem query_no47 {q : Tx} (h : (readAsked q).2 = true) : noB 47 q := by
  rcases readAsked_cases q with h1 | ⟨ps, h1, h2, h3⟩
  · rw [h1] at h; cases h
  · rw [← h3, askedText_eq h2]
    refine noB_join (by decide) ?_
    intro x hx
    obtain ⟨p, hp, rfl⟩ := List.mem_map.1 hx
    have hn := asked_names h2 p hp
    unfold pText
    exact noB_append (fun b hb => nameByte_no47 (List.all_eq_true.1 hn b hb)) (noB_cons (by decide) (escPart_no47 _))
theorem last_app {y x : Tx} (hx : x ≠ []) : (y ++ x).getLast? = x.getLast? := by
  rw [List.getLast?_append]
  obtain ⟨a, ha⟩ : ∃ a, x.getLast? = some a := by
    cases h : x.getLast? with
    | none => exact absurd (List.getLast?_eq_none_iff.1 h) hx
    | some a => exact ⟨a, rfl⟩
  rw [ha]
  rfl
theorem last_no {c : UInt8} {x t : Tx} (hx : x ≠ []) (hn : noB c x) {y : Tx} : y ++ x ≠ t ++ [c] := by
  intro e
  have h := congrArg List.getLast? e
  rw [last_app hx, last_app (by simp)] at h
  have h2 : c ∈ x := List.mem_of_getLast? (h.trans (by simp))
  exact hn c h2 rfl
theorem loc_slashes {l : Lc} (h : locOk l = true) (t : Tx) : locBody l ≠ t ++ [47, 47] := by
  have H := locOk_parts h
  intro e
  rw [locBody_eq, show t ++ [(47 : UInt8), 47] = (t ++ [47]) ++ [47] by simp] at e
  unfold quT at e
  by_cases hq : l.qu = []
  · rw [if_pos hq, List.append_nil] at e
    by_cases hp : l.path = []
    · rw [hp, Lib.join_nil, List.append_nil, ← List.append_assoc] at e
      have e2 := List.append_inj_left' e rfl
      exact last_no (host_no H.host).2.2 (host_no H.host).1 e2
    · have hx : ∀ x ∈ l.path, x ≠ [] ∧ noB 47 x := fun x hx => ⟨(step_no (H.path x hx)).2.2, (step_no (H.path x hx)).1⟩
      have hj := join_last (c := 47) (sep := [47]) l.path hp hx
      have hne : Lib.join l.path [47] ≠ [] := join_nonempty hp fun x h => (hx x h).1
      have h2 := congrArg List.getLast? e
      rw [last_app (by simp), last_app hne, last_app (by simp)] at h2
      exact hj (h2.trans (by simp))
  · rw [if_neg hq] at e
    rw [show l.sch ++ [58, 47, 47] ++ (l.host ++ [47] ++ (Lib.join l.path [47] ++ 63 :: l.qu)) = (l.sch ++ [58, 47, 47] ++ (l.host ++ [47] ++ (Lib.join l.path [47] ++ [63]))) ++ l.qu by simp] at e
    exact last_no hq (query_no47 H.qu) e
theorem readLoc_slashes (s : Tx) : readLoc (s ++ [47, 47]) = (zeroL, false) := by
  rcases readLoc_cases (s ++ [47, 47]) with h | ⟨l, _, h1, h2⟩
  · exact h
  · exact absurd h2 (loc_slashes h1 s)

set_option maxRecDepth 100000 in
set_option maxHeartbeats 2000000 in
theorem laws_sameLocation (l : Lc) (A A' : Option Addr) (c c' : Nat) (w : World) (hp : Rd w w.heap.size A (scells l.path)) (hq : Rd w w.heap.size A' (scells l.path)) (hn : l.path.length ≤ maxLen) :
    Calls Tryd.prog 7 #[lcV l A c, lcV l A' c'] w fun e w' => e = .returned (.bool true) ∧ Below w.heap.size w w' := by
  have HB0 := Lib.hid (Below.alloc (o := .cells (lcCells l A' c') 25) (Below.alloc (o := .cells (lcCells l A c) 25) (Below.refl w.heap.size w) (Nat.le_refl _)) (by simp))
  have HT := Lib.hid (laws_sameTexts l.path l.path A A' c c' _ ((hp.below HB0.out).more HB0.out.size) ((hq.below HB0.out).more HB0.out.size) hn)
  rw [beq_self_eq_true] at HT
  clear hp hq hn
  go_enter Tryd.func7, Tryd.ntmps7
  go_wp2_with fail
  refine HT.out.mono ?_
  rintro e w1 ⟨rfl, hb⟩
  have HB := Lib.hid (HB0.out.trans (hb.mono HB0.out.size))
  clear hb
  go_wp2
  go_ret
  exact ⟨rfl, HB.out⟩

end Go.Proofs.YtjlaelkdmgcniaaDoor

/- What the cards of this seat are closed by. -/
namespace Go.Proofs.YtjlaelkdmgcniaaDoor
end Go.Proofs.YtjlaelkdmgcniaaDoor
namespace Go
variable {H : Type} {enc : TypeId × Value → H}
/-- a card's wrap with the world's shape kept for the contract -/
theorem returnsInHanded_of_change_and_shaped {a : Assume} {C : Checked} {os : Os} {f : FuncId} {fn : Func} {s : ChangeSpec} {conds : List PathCond} {apart fresh handsOn again : Bool} {X : World → Array Value → Prop}
    (hX : ∀ (w w' : World) (args : Array Value), w.heap = w'.heap → X w args → X w' args)
    (own : ownKnob C.prog.godebug = none) (started : os.Started) (noInit : C.prog.inits.idxOf? f = none) (hfn : C.prog.funcs[f]? = some fn)
    (witness : ∃ (w : World) (tape : Tape) (i : Input), w.os = os ∧ (w.forCall tape i).Shaped C.prog ∧ i.vars = [] ∧ Input.okWide C.prog (w.forCall tape i) .any w.heap.size f i ∧
      ((s.pre enc C.prog fn conds apart (w.forCall tape i).memory i.args ∧ X (w.forCall tape i).memory i.args) ∧ sizedMet enc C.prog fn (OpenSpec.ofChange s) apart (w.forCall tape i).memory i.args) ∧ a.holds C.prog (lone (Frame.enter C.prog f i.args .normal) [] (w.forCall tape i)))
    (contract : ∀ (W : World) (base : Nat) (args : Array Value) (ds gs : List (DataW H)) (before : List MemPlace),
      (∀ (j : Nat) t v, fn.params[j]? = some t → args[j]? = some v → Value.okWide C.prog W .any base t v) →
      DataW.Whole enc C.prog fn.params.toList s.vars apart W args.toList ds gs before →
      conds.all (PathCond.test C.prog ⟨fn.params.toList, ds, s.plain.varTypes C.prog, gs⟩) = true →
      (DataW.weightsEach C.prog (fn.params.toList ++ s.plain.varTypes C.prog) (ds ++ gs)).all (· ≤ reachBytes) = true → X W args →
      W.ShapedOpen C.prog →
      a.holds C.prog (lone (Frame.enter C.prog f args .normal) [] W) →
      Calls C.prog f args W fun e W' => ∃ v, e = .returned v ∧ s.post enc C.prog fn apart fresh handsOn again W args v W') :
    ReturnsInHanded a C os f .any (fun w args => (s.pre enc C.prog fn conds apart w args ∧ X w args) ∧ sizedMet enc C.prog fn (OpenSpec.ofChange s) apart w args) (s.post enc C.prog fn apart fresh handsOn again) := by
  refine returnsInHanded_of_calls own started noInit witness ?_
  intro w tape i _ hsh _ hok hpre hholds
  obtain ⟨_, _, _, fn', hfn', _, _, _, _, hval⟩ := hok
  have e : fn' = fn := Option.some.inj (hfn'.symm.trans hfn)
  subst e
  obtain ⟨⟨⟨ds, gs, before, hw, hc⟩, hx⟩, hz⟩ := hpre
  have hw' := DataW.Whole.of_heap (w' := w.forCall tape i) (by rfl) hw
  refine (contract (w.forCall tape i) w.heap.size i.args ds gs before hval hw' hc (hz.weights hw) (hX _ _ _ (by rfl) hx) hsh hholds).mono fun e W' ⟨v, he, hp⟩ => ?_
  subst he
  exact ChangeSpec.post_blind hp
end Go

/- A drawn location and a text drawn for it: a walk. -/
namespace Go.Proofs.YtjlaelkdmgcniaaDoor
open Go.RowKit

theorem num_quo {w : World} (k : Nat) (_ : Nat) (h : (k : Int) < 14) : tInt 0 1 w (.int .i64 (IntKind.i64.wrap ((k : Int) / 13))) := by
  have h9 : k = 0 ∨ k = 1 ∨ k = 2 ∨ k = 3 ∨ k = 4 ∨ k = 5 ∨ k = 6 ∨ k = 7 ∨ k = 8 ∨ k = 9 ∨ k = 10 ∨ k = 11 ∨ k = 12 ∨ k = 13 := by omega
  rcases h9 with rfl | rfl | rfl | rfl | rfl | rfl | rfl | rfl | rfl | rfl | rfl | rfl | rfl | rfl <;> exact ⟨_, rfl, by decide, by decide⟩
theorem own_at {w w' : World} {base size n : Nat} {e : TypeId} {v : Value} {xs : List Value} (h : w.ownsRow base e size v n xs) (hk : ∀ g, v.ownBlock = some g → w'.heap[g]? = w.heap[g]?) : w'.ownsRow base e size v n xs := by
  refine ⟨h.1, ?_⟩
  rcases h.2 with hn | ⟨g, cap, cur, rfl, hb, hgg, rest⟩
  · exact .inl hn
  · refine .inr ⟨g, cap, cur, rfl, hb, ?_, rest⟩
    rw [hk g rfl]
    exact hgg
theorem size_four {cs : Array Value} (h : cs.size = 4) : ∃ z0 z1 z2 z3, cs = #[z0, z1, z2, z3] := by
  obtain ⟨l⟩ := cs
  match l, h with
  | [a, b, c, d], _ => exact ⟨a, b, c, d, rfl⟩
theorem chg_set4 {w : World} {b : Nat} {z0 z1 z2 z3 v0 v1 v2 v3 : Value} {t : TypeId} (h : w.heap[b]? = some (.cells #[z0, z1, z2, z3] t (0, 0))) :
    Chg w ((((w.setCell ⟨b, 0, none⟩ v0).setCell ⟨b, 1, none⟩ v1).setCell ⟨b, 2, none⟩ v2).setCell ⟨b, 3, none⟩ v3) [b] ∧ ((((w.setCell ⟨b, 0, none⟩ v0).setCell ⟨b, 1, none⟩ v1).setCell ⟨b, 2, none⟩ v2).setCell ⟨b, 3, none⟩ v3).heap[b]? = some (.cells #[v0, v1, v2, v3] t (0, 0)) :=
  ⟨chg_one (chg_one (chg_one (chg_one (Chg.refl _ _)))), cells_setQ (cells_setQ (cells_setQ (cells_setQ h)))⟩
def GoodL (l : Lc) (A : Option Addr) (c : Nat) (k : Nat) (w : World) : Prop := w.heap[k]? = some (.cells (lcCells l A c) 25 (0, 0))
theorem solid_goodL {g : Nat} {R : List Nat} {l : Lc} {A : Option Addr} {c : Nat} : Solid g R (GoodL l A c) := fun _ _ _ _ _ h => ⟨lt_of_block h, fun e => e.trans h⟩
/-- a location of short texts, its path in a row from a block on that lies behind all that is turned -/
def qLoc (g : Nat) (R : List Nat) (B0 : Nat) : Ty := fun w v => ∃ A c l, v = lcV l A c ∧ OwnS w B0 A c l.path ∧ SmL l ∧ l.path.length ≤ 10 ∧ g < B0 ∧ ∀ b ∈ R, b < B0
theorem staysQ_qLoc {g : Nat} {R : List Nat} {Good : Nat → World → Prop} {B0 : Nat} : StaysQ g R Good (qLoc g R B0) := fun w w' v hk ⟨A, c, l, h1, h2, h3, h4, h5, h6⟩ =>
  ⟨A, c, l, h1, own_at h2 (fun k hg => hk.chg.block k (h2.lt k hg).2 (fun e => by
    have := (h2.lt k hg).1
    rcases List.mem_cons.1 e with e | e
    · omega
    · have := h6 _ e; omega)), h3, h4, h5, h6⟩
theorem sum_lenL {n : Nat} : ∀ {xs : List Tx}, (∀ x ∈ xs, x.length ≤ n) → (xs.map (fun x => x.length + ([47] : Tx).length)).sum ≤ (n + 1) * xs.length
  | [], _ => by simp
  | x :: t, h => by
    have h1 := h x (by simp)
    have h2 := sum_lenL (xs := t) (fun z hz => h z (List.mem_cons_of_mem _ hz))
    simp only [List.map_cons, List.sum_cons, List.length_cons, List.length_nil, Nat.mul_add] at *
    omega
theorem join_lenL {n : Nat} {xs : List Tx} (h : ∀ x ∈ xs, x.length ≤ n) : (Lib.join xs [47]).length ≤ (n + 1) * xs.length := join_len xs [47] _ _ (sum_lenL h) (Nat.le_refl _)
theorem alloc2_new (w : World) (cs ds : Array Value) (t u : TypeId) : ((w.alloc (.cells cs t)).alloc (.cells ds u)).heap[w.heap.size + 1]? = some (.cells ds u (0, 0)) := by
  have h := heap_alloc_new (w.alloc (.cells cs t)) (.cells ds u)
  rw [show (w.alloc (.cells cs t)).heap.size = w.heap.size + 1 by simp] at h
  exact h
theorem locText_len {l : Lc} (hs : SmL l) (hn : l.path.length ≤ 10) : (locText l).length ≤ 2000 := by
  unfold locText
  split
  · have h1 := join_lenL (n := 100) (xs := l.path) (fun x hx => hs.2.2.2 x hx)
    have h2 : (100 + 1) * l.path.length ≤ 1010 := by omega
    have a1 := hs.1
    have a2 := hs.2.1
    have a3 := hs.2.2.1
    unfold locBody
    by_cases hq : l.qu = []
    · rw [if_pos hq]; simp only [List.length_append, List.length_cons, List.length_nil]; omega
    · rw [if_neg hq]; simp only [List.length_append, List.length_cons, List.length_nil]; omega
  · simp
/-- the call drew a location and a text -/
def DrewRL (w : World) (e : Ending) (w' : World) : Prop :=
  ∃ A c l, ∃ s : Tx, e = .returned (.tuple #[lcV l A c, sv s]) ∧ OwnS w' w.heap.size A c l.path ∧ SmL l ∧ l.path.length ≤ 10 ∧ s.length ≤ 2000 ∧ Below w.heap.size w w'
set_option maxRecDepth 20000 in
set_option maxHeartbeats 4000000 in
theorem spec_DrawResolveLocation (bs : Tx) (A : Option Addr) (c : Nat) (w : World) (hr : Rd w w.heap.size A (bcells bs)) (hc : bs.length ≤ c) (hm : bs.length ≤ 1048576) :
    Calls Tryd.prog 4 #[.slice A bs.length c] w (DrewRL w) := by
  have HA := Lib.hid ((Below.refl w.heap.size w).alloc (Nat.le_refl _) (.cells #[.string ⟨#[]⟩, .string ⟨#[]⟩, .slice none 0 0, .string ⟨#[]⟩] 25))
  have HR := Lib.hid (hr.below HA.out)
  have HZ0 := Lib.hid (heap_alloc_new w (.cells #[.string ⟨#[]⟩, .string ⟨#[]⟩, .slice none 0 0, .string ⟨#[]⟩] 25))
  clear hr
  go_enter Tryd.func4, Tryd.ntmps4
  go_wp2_with fail
  refine (spec_l20Open bs w.heap.size A c _ HR.out HA.out.size hc hm).mono ?_
  rintro e w1 ⟨rfl, hr1, hb1⟩
  have HR1 : Hid (Rdr w1 w.heap.size (w.heap.size + 1) 0) := by show Rdr _ _ _ _; simpa using hr1
  have HB1 := Lib.hid (HA.out.trans (hb1.mono HA.out.size))
  have HZ1 := Lib.hid ((hb1.block w.heap.size (by simp)).trans HZ0.out)
  have hl1 : w.heap.size + 1 < w1.heap.size := HR1.out.lt
  clear hr1 hb1
  go_wp2_with fail
  refine (spec_l20Location w.heap.size (w.heap.size + 1) 0 _ _ HR1.out (by omega) (by omega) (by omega)).mono ?_
  rintro e w2 ⟨A2, c2, l, rfl, ho2, hs2, hn2, hr2, hg2⟩
  have HS2 := Lib.hid hs2
  have hA2 := (Below.refl w2.heap.size w2).alloc (Nat.le_refl _) (.cells (lcCells l A2 c2) 25)
  have HO3 := Lib.hid (ownS_keep ho2 hA2)
  have HR3 := Lib.hid (hr2.keep hA2)
  have hz2 := hg2.size
  have HZ3 := Lib.hid (bx_keep ((hg2.block w.heap.size (by omega) (by simp)).trans HZ1.out) hA2)
  have HB2 := Lib.hid (HB1.out.trans (grown_to_below hg2 HB1.out.size (fun g h => by injection h; omega)))
  have HB3 := Lib.hid (HB2.out.trans (hA2.mono HB2.out.size))
  have HX3 := Lib.hid (heap_alloc_new w2 (.cells (lcCells l A2 c2) 25))
  have hz3 : w2.heap.size < (w2.alloc (.cells (lcCells l A2 c2) 25)).heap.size := by simp
  clear ho2 hs2 hr2 hg2 hA2
  go_upto_region 3 with fail
  generalize w2.alloc (.cells (lcCells l A2 c2) 25) = w3 at *
  go_wp2_with fail
  refine (spec_pick w.heap.size (w.heap.size + 1) _ 5 _ (HR3.out.keep ((Below.refl _ _).alloc (Nat.le_refl _) _)) (by omega) (by omega) (by omega)).mono ?_
  rintro e w4 ⟨k4, rfl, hk4, hr4, hg4⟩
  have hlit : w4.heap[w3.heap.size]? = _ := (hg4.block w3.heap.size (by simp) (by simp; omega)).trans (heap_alloc_new w3 _)
  obtain ⟨x4, hx4c, hx4⟩ := lit_str (k := k4) (B := 100) (n := 5) hlit (by decide +kernel) (by omega)
  have HR4 := Lib.hid hr4
  have HG4 := Lib.hid (grown_trans (World.grownBy_alloc w3 _ (some (w.heap.size + 1))) hg4)
  have hz4 := HG4.out.size
  have hk4' : k4 < 5 := by omega
  clear hlit hr4 hg4 hk4
  go_wp2_with fail
  refine (spec_pick w.heap.size (w.heap.size + 1) _ 4 _ HR4.out (by omega) (by omega) (by omega)).mono ?_
  rintro e w5 ⟨k5, rfl, hk5, hr5, hg5⟩
  have HR5 := Lib.hid hr5
  have HG5 := Lib.hid (grown_trans HG4.out hg5)
  have hk5' : k5 ≤ 3 := by omega
  clear hr5 hg5 hk5 hx4c HR4 HG4 hk4'
  go_wp2
  go_loopw [6, 7] (fun t i wr => ∃ (k : Nat) (s : Tx), k ≤ 3 ∧ i = .int .i64 (k : Int) ∧ t = sv s ∧ s.length ≤ 100 + 200 * (3 - k) ∧ Rdr wr w.heap.size (w.heap.size + 1) (300 + 20 * (3 - k)) ∧ w3.grownBy wr (some (w.heap.size + 1))) (fun _ i _ => (intOf i).toNat)
  case atStart => exact ⟨k5, x4, hk5', rfl, rfl, by omega, HR5.out.more (by omega), HG5.out⟩
  case round =>
    obtain ⟨k, s, hk, rfl, rfl, hsl, hr, hg⟩ := hrel
    have HR := Lib.hid hr
    have HG := Lib.hid hg
    clear hr hg HR5 HG5
    by_cases hk0 : 0 < k
    · obtain ⟨sb, hsb⟩ : ∃ sb, sb = 100 + 200 * (3 - k) := ⟨_, rfl⟩
      have hsl2 : s.length ≤ sb := by omega
      have hsb2 : sb ≤ 700 := by omega
      have HSB := Lib.hid hsb
      clear hsb hsl
      obtain ⟨qb, hqb⟩ : ∃ qb, qb = 300 + 20 * (3 - k) := ⟨_, rfl⟩
      have HR2 : Hid (Rdr wr w.heap.size (w.heap.size + 1) qb) := by show Rdr _ _ _ _; rw [hqb]; exact HR.out
      have hqb2 : qb ≤ 400 := by omega
      have HQB := Lib.hid hqb
      clear hqb HR
      go_wp2_with fail
      refine wp_region_typed 18 (by kernel_rfl) (by kernel_rfl) (DW wr w.heap.size (w.heap.size + 1) qb) (Kp (w.heap.size + 1)) (fun i => ([tTxt sb, tRow (w.heap.size + 1) 4 (cTxt 100 4), tIs (.pointer (some ⟨w.heap.size + 1, 0, none⟩)), tNum 4, tAdrS (w.heap.size + 1) 100, tTxt 100, tTxt (sb + 100), tRow (w.heap.size + 1) 3 (cTxt 100 3), tIs (.pointer (some ⟨w.heap.size + 1, 0, none⟩)), tNum 14, tInt 0 1, tIs (.pointer (some ⟨w.heap.size + 1, 0, none⟩)), tNum 14, tInt 0 1, tInt 0 2, tAdrS (w.heap.size + 1) 100, tTxt 100, tTxt (sb + 200)] : List Ty).getD i tAny) ?hW ?hkeep ?hstep ?hfin
      case hkeep =>
        refine all_lt_succ (all_lt_succ (all_lt_succ (all_lt_succ (all_lt_succ (all_lt_succ (all_lt_succ (all_lt_succ (all_lt_succ (all_lt_succ (all_lt_succ (all_lt_succ (all_lt_succ (all_lt_succ (all_lt_succ (all_lt_succ (all_lt_succ (all_lt_succ all_lt_zero ?_) ?_) ?_) ?_) ?_) ?_) ?_) ?_) ?_) ?_) ?_) ?_) ?_) ?_) ?_) ?_) ?_) ?_
        · exact stays_txt _
        · exact stays_row _ _
        · exact stays_is _
        · exact stays_num _
        · exact stays_adrS _
        · exact stays_txt _
        · exact stays_txt _
        · exact stays_row _ _
        · exact stays_is _
        · exact stays_num _
        · exact stays_int _ _
        · exact stays_is _
        · exact stays_num _
        · exact stays_int _ _
        · exact stays_int _ _
        · exact stays_adrS _
        · exact stays_txt _
        · exact stays_txt _
      case hstep =>
        refine all_lt_succ (all_lt_succ (all_lt_succ (all_lt_succ (all_lt_succ (all_lt_succ (all_lt_succ (all_lt_succ (all_lt_succ (all_lt_succ (all_lt_succ (all_lt_succ (all_lt_succ (all_lt_succ (all_lt_succ (all_lt_succ (all_lt_succ (all_lt_succ all_lt_zero ?_) ?_) ?_) ?_) ?_) ?_) ?_) ?_) ?_) ?_) ?_) ?_) ?_) ?_) ?_) ?_) ?_) ?_
        · (intro o ho m a w1 hm hW hb hd K Q hK; obtain rfl := Option.some.inj ho; have e0 : a.tmps[6]?.getD undef = sv s := (by rw [hb 6 (by decide +kernel)]; simp); go_simp; exact hK _ _ hW.same (kp_refl _) ⟨_, rfl, by omega⟩)
        · (intro o ho m a w1 hm hW hb hd K Q hK; obtain rfl := Option.some.inj ho; go_simp; exact hK _ _ (hW.next ((Below.refl _ _).alloc (Nat.le_refl _) _)) (kp_below ((Below.refl _ _).alloc (Nat.le_refl _) _)) ⟨_, _, _, _, rfl, hW.new, heap_alloc_new w1 _, by decide +kernel⟩)
        · (intro o ho m a w1 hm hW hb hd K Q hK; obtain rfl := Option.some.inj ho; have e0 : a.tmps[4]?.getD undef = (.pointer (some ⟨w.heap.size + 1, 0, none⟩)) := (by rw [hb 4 (by decide +kernel)]; simp); go_simp; exact hK _ _ hW.same (kp_refl _) rfl)
        · (intro o ho m a w1 hm hW hb hd K Q hK; obtain rfl := Option.some.inj ho; have e1 := slotE (hd 2 (by kernel_rfl) 25 rfl); go_simp; refine (spec_pick _ _ _ _ w1 hW.1 (by omega) (by omega) (by omega)).mono ?_; rintro e w2 ⟨k, rfl, hk, hr2, hg2⟩; exact hK _ _ ⟨hr2.more (by omega), grown_trans hW.2 hg2⟩ hg2 ⟨k, rfl, hk⟩)
        · (intro o ho m a w1 hm hW hb hd K Q hK; obtain rfl := Option.some.inj ho; obtain ⟨b, cs, t, fr, e1, hbg, hh, hC⟩ := (hd 1 (by kernel_rfl) 24 rfl); obtain ⟨k, e2, hk⟩ := (hd 3 (by kernel_rfl) 26 rfl); have e1 := slotE e1; have e2 := slotE e2; have hk2 := num_lt hk (by omega); go_simp; exact hK _ _ hW.same (kp_refl _) (row_txt hbg hh hC (by omega)))
        · (intro o ho m a w1 hm hW hb hd K Q hK; obtain rfl := Option.some.inj ho; obtain ⟨b, o, x, e1, hbg, hc, hx⟩ := (hd 4 (by kernel_rfl) 27 rfl); have e1 := slotE e1; go_simp; exact hK _ _ hW.same (kp_refl _) ⟨x, rfl, hx⟩)
        · (intro o ho m a w1 hm hW hb hd K Q hK; obtain rfl := Option.some.inj ho; obtain ⟨x, e1, hx⟩ := (hd 0 (by kernel_rfl) 23 rfl); obtain ⟨y, e2, hy⟩ := (hd 5 (by kernel_rfl) 28 rfl); have e1 := slotE e1; have e2 := slotE e2; have hsum : (9223372036854775807 < x.length + y.length) = False := (by rw [eq_iff_iff, iff_false]; omega); go_simp; exact hK _ _ hW.same (kp_refl _) ⟨x ++ y, rfl, by simp; omega⟩)
        · (intro o ho m a w1 hm hW hb hd K Q hK; obtain rfl := Option.some.inj ho; go_simp; exact hK _ _ (hW.next ((Below.refl _ _).alloc (Nat.le_refl _) _)) (kp_below ((Below.refl _ _).alloc (Nat.le_refl _) _)) ⟨_, _, _, _, rfl, hW.new, heap_alloc_new w1 _, by decide +kernel⟩)
        · (intro o ho m a w1 hm hW hb hd K Q hK; obtain rfl := Option.some.inj ho; have e0 : a.tmps[4]?.getD undef = (.pointer (some ⟨w.heap.size + 1, 0, none⟩)) := (by rw [hb 4 (by decide +kernel)]; simp); go_simp; exact hK _ _ hW.same (kp_refl _) rfl)
        · (intro o ho m a w1 hm hW hb hd K Q hK; obtain rfl := Option.some.inj ho; have e1 := slotE (hd 8 (by kernel_rfl) 31 rfl); go_simp; refine (spec_pick _ _ _ _ w1 hW.1 (by omega) (by omega) (by omega)).mono ?_; rintro e w2 ⟨k, rfl, hk, hr2, hg2⟩; exact hK _ _ ⟨hr2.more (by omega), grown_trans hW.2 hg2⟩ hg2 ⟨k, rfl, hk⟩)
        · (intro o ho m a w1 hm hW hb hd K Q hK; obtain rfl := Option.some.inj ho; obtain ⟨k, e1, hk⟩ := (hd 9 (by kernel_rfl) 32 rfl); have e1 := slotE e1; go_simp; exact hK _ _ hW.same (kp_refl _) (num_quo (w := w1) k 13 (by omega)))
        · (intro o ho m a w1 hm hW hb hd K Q hK; obtain rfl := Option.some.inj ho; have e0 : a.tmps[4]?.getD undef = (.pointer (some ⟨w.heap.size + 1, 0, none⟩)) := (by rw [hb 4 (by decide +kernel)]; simp); go_simp; exact hK _ _ hW.same (kp_refl _) rfl)
        · (intro o ho m a w1 hm hW hb hd K Q hK; obtain rfl := Option.some.inj ho; have e1 := slotE (hd 11 (by kernel_rfl) 34 rfl); go_simp; refine (spec_pick _ _ _ _ w1 hW.1 (by omega) (by omega) (by omega)).mono ?_; rintro e w2 ⟨k, rfl, hk, hr2, hg2⟩; exact hK _ _ ⟨hr2.more (by omega), grown_trans hW.2 hg2⟩ hg2 ⟨k, rfl, hk⟩)
        · (intro o ho m a w1 hm hW hb hd K Q hK; obtain rfl := Option.some.inj ho; obtain ⟨k, e1, hk⟩ := (hd 12 (by kernel_rfl) 35 rfl); have e1 := slotE e1; go_simp; exact hK _ _ hW.same (kp_refl _) (num_quo (w := w1) k 13 (by omega)))
        · (intro o ho m a w1 hm hW hb hd K Q hK; obtain rfl := Option.some.inj ho; obtain ⟨z1, e1, hz1, hz2⟩ := (hd 10 (by kernel_rfl) 33 rfl); obtain ⟨z2, e2, hz3, hz4⟩ := (hd 13 (by kernel_rfl) 36 rfl); have e1 := slotE e1; have e2 := slotE e2; go_simp; exact hK _ _ hW.same (kp_refl _) ⟨_, congrArg (Value.int .i64) (IntWalk.i64_in (z1 + z2) (by omega)), by omega, by omega⟩)
        · (intro o ho m a w1 hm hW hb hd K Q hK; obtain rfl := Option.some.inj ho; obtain ⟨b, cs, t, fr, e1, hbg, hh, hC⟩ := (hd 7 (by kernel_rfl) 30 rfl); obtain ⟨z, e2, hz0, hz1⟩ := (hd 14 (by kernel_rfl) 37 rfl); obtain ⟨k, rfl⟩ := Int.eq_ofNat_of_zero_le hz0; have e1 := slotE e1; have e2 := slotE e2; have hk2 : (k : Int) < 3 := (by omega); go_simp; exact hK _ _ hW.same (kp_refl _) (row_txt hbg hh hC (by omega)))
        · (intro o ho m a w1 hm hW hb hd K Q hK; obtain rfl := Option.some.inj ho; obtain ⟨b, o, x, e1, hbg, hc, hx⟩ := (hd 15 (by kernel_rfl) 38 rfl); have e1 := slotE e1; go_simp; exact hK _ _ hW.same (kp_refl _) ⟨x, rfl, hx⟩)
        · (intro o ho m a w1 hm hW hb hd K Q hK; obtain rfl := Option.some.inj ho; obtain ⟨x, e1, hx⟩ := (hd 6 (by kernel_rfl) 29 rfl); obtain ⟨y, e2, hy⟩ := (hd 16 (by kernel_rfl) 39 rfl); have e1 := slotE e1; have e2 := slotE e2; have hsum : (9223372036854775807 < x.length + y.length) = False := (by rw [eq_iff_iff, iff_false]; omega); go_simp; exact hK _ _ hW.same (kp_refl _) ⟨x ++ y, rfl, by simp; omega⟩)
      case hW => exact ⟨(HR2.out.keep (Below.refl _ _).drew).more (by omega), grown_drew (grown_refl _ _)⟩
      case hfin =>
        intro vs w6 hW hF
        simp only [putAll, hdst, List.getElem?_cons_succ, List.getElem?_cons_zero, Option.bind, List.drop_succ_cons, List.drop_zero, Act.put]
        obtain ⟨x, h17, hx⟩ := hF 17 (by omega)
        rw [h17]
        obtain ⟨hr6, hg6⟩ := hW
        have HR6 := Lib.hid hr6
        have HG6 := Lib.hid (grown_trans HG.out hg6)
        clear hF h17 hr6 hg6
        go_simp
        go_wp2
        go_roundw
        case rel => exact ⟨k - 1, x, by omega, by go_num, rfl, by have := HSB.out; omega, HR6.out.more (by have := HQB.out; omega), HG6.out⟩
        case measure => simp [intOf]; omega
    · have hk1 : k = 0 := by omega
      subst hk1
      have hsl3 : s.length ≤ 700 := by omega
      have HR3' : Hid (Rdr wr w.heap.size (w.heap.size + 1) 360) := HR.out.more (by omega)
      clear HR hsl hk hk0
      go_wp2_with fail
      refine (spec_pick w.heap.size (w.heap.size + 1) _ 6 _ (HR3'.out.keep (((Below.refl _ _).alloc (Nat.le_refl _) _).alloc (by simp) _)) (by omega) (by omega) (by omega)).mono ?_
      rintro e w6 ⟨k6, rfl, hk6, hr6, hg6⟩
      have hgz : w.heap.size + 1 < wr.heap.size := by have := HG.out.size; omega
      have hl1 : w6.heap[wr.heap.size]? = _ := (hg6.block wr.heap.size (by simp; omega) (by simp; omega)).trans ((heap_alloc_old (wr.alloc _) _ (by simp)).trans (heap_alloc_new wr _))
      have hl2 : w6.heap[wr.heap.size + 1]? = _ := (hg6.block (wr.heap.size + 1) (by simp) (by simp; omega)).trans (alloc2_new wr _ _ _ _)
      obtain ⟨z, hzc, hz0, hz1⟩ := okI_get 0 4 6 _ (show okI 0 4 6 [.int .i64 0, .int .i64 0, .int .i64 1, .int .i64 2, .int .i64 3, .int .i64 4] = true by decide +kernel) k6 (by omega)
      obtain ⟨z, rfl⟩ := Int.eq_ofNat_of_zero_le hz0
      have hzz : w6.cell? ⟨wr.heap.size + 1, k6, none⟩ = some (.int .i64 (z : Int)) := by rw [cell_of_row w6 _ _ _ _ _ hl2, ← Array.getElem?_toList]; exact hzc
      obtain ⟨x8, hx8c, hx8⟩ := lit_str (k := z) (B := 100) (n := 5) hl1 (by decide +kernel) (by omega)
      have hsum : (9223372036854775807 < s.length + x8.length) = False := by rw [eq_iff_iff, iff_false]; omega
      have HR6 := Lib.hid hr6
      have HG6 := Lib.hid (grown_trans HG.out (grown_trans (grown_trans (World.grownBy_alloc wr _ (some (w.heap.size + 1))) (World.grownBy_alloc _ _ (some (w.heap.size + 1)))) hg6))
      have hk6' : k6 < 6 := by omega
      have hz5 : z < 5 := by omega
      have hsx : (s ++ x8).length ≤ 2000 := by simp; omega
      clear hl1 hl2 hzc hr6 hg6 hk6 hz0 hz1
      go_wp2_with fail
      refine (spec_pick w.heap.size (w.heap.size + 1) _ 9 _ HR6.out (by omega) (by omega) (by omega)).mono ?_
      rintro e w7 ⟨k7, rfl, hk7, hr7, hg7⟩
      have HR7 := Lib.hid hr7
      have HG7 := Lib.hid (grown_trans HG6.out hg7)
      have hz7 := HG7.out.size
      have HX7 := Lib.hid (And.intro ((HG7.out.block w2.heap.size hz3 (by simp; omega)).trans HX3.out) (And.intro (show w2.heap.size ≠ w.heap.size + 1 by omega) (show w2.heap.size ∉ [w.heap.size] by simp; omega)))
      have HZ7 := Lib.hid ((HG7.out.block w.heap.size (by omega) (by simp)).trans HZ3.out)
      have HO7 := Lib.hid (own_g HO3.out HG7.out hl1)
      have HB7 := Lib.hid (HB3.out.trans (grown_to_below HG7.out HB3.out.size (fun g h => by injection h; omega)))
      clear hr7 hg7 HR6 HG6 hx8c hzz hsum
      generalize s ++ x8 = s9 at *
      by_cases hk70 : k7 = 0
      · subst hk70
        have hgW : w.heap.size + 1 < w7.heap.size := by omega
        have hRW : ∀ b ∈ [w.heap.size], b < w7.heap.size := by simp; omega
        have HSOLID := Lib.hid (solid_goodL (g := w.heap.size + 1) (R := [w.heap.size]) (l := l) (A := A2) (c := c2))
        go_upto_region 10 with fail
        go_wp2_with fail
        refine wp_region_all 6 (by kernel_rfl) (by kernel_rfl) (by kernel_rfl) (DWQ w7 w.heap.size (w.heap.size + 1) [w.heap.size] 25 4 1000 200) (Kq (w.heap.size + 1) [w.heap.size] (GoodL l A2 c2)) (fun i => ([tIs (lcV l A2 c2), tIs (.pointer (some ⟨w.heap.size + 1, 0, none⟩)), qLoc (w.heap.size + 1) [w.heap.size] w7.heap.size, tTxt 2000, qGood (GoodL l A2 c2) w.heap.size, tTxt 2000] : List Ty).getD i tAny) ?hWsS1 ?hkeepS1 ?hstepS1 ?hfinsS1
        case hkeepS1 =>
          refine all_lt_succ (all_lt_succ (all_lt_succ (all_lt_succ (all_lt_succ (all_lt_succ all_lt_zero ?_) ?_) ?_) ?_) ?_) ?_
          · exact staysQ_tIs
          · exact staysQ_tIs
          · exact staysQ_qLoc
          · exact staysQ_tTxt
          · exact stays_qGood HSOLID.out (by simp)
          · exact staysQ_tTxt
        case hstepS1 =>
          refine all_lt_succ (all_lt_succ (all_lt_succ (all_lt_succ (all_lt_succ (all_lt_succ all_lt_zero ?_) ?_) ?_) ?_) ?_) ?_
          · (intro o ho m a w1 hm hW hb hd K Q hK; obtain rfl := Option.some.inj ho; have e0 : a.tmps[5]?.getD undef = .pointer (some ⟨w2.heap.size, 0, none⟩) := (by rw [hb 5 (by decide +kernel)]; simp); have hbl := hW.old HX7.out; obtain ⟨⟨q0, q1, q2, q3⟩, -⟩ := box_four hbl; go_simp; exact hK _ _ hW.same kq_refl rfl)
          · (intro o ho m a w1 hm hW hb hd K Q hK; obtain rfl := Option.some.inj ho; have e0 : a.tmps[4]?.getD undef = (.pointer (some ⟨w.heap.size + 1, 0, none⟩)) := (by rw [hb 4 (by decide +kernel)]; simp); go_simp; exact hK _ _ hW.same kq_refl rfl)
          · (intro o ho m a w1 hm hW hb hd K Q hK; obtain rfl := Option.some.inj ho; have e1 := slotE (hd 1 (by kernel_rfl) 55 rfl); go_simp; have hm2 := Nat.mul_le_mul_right (200) (Nat.le_of_lt hm); refine (spec_l20Location _ _ _ _ w1 hW.rdr (by omega) (by omega) (by omega)).mono ?_; rintro e w2 ⟨A9, c9, l9, rfl, ho9, hs9, hn9, hr2, hg2⟩; exact hK _ _ (hW.call (hr2.more (by rw [Nat.succ_mul m]; omega)) hg2) (kq_kp hg2 hW.ne) ⟨A9, c9, l9, rfl, own_base ho9 hW.chg.size, hs9, hn9, hgW, hRW⟩)
          · (intro o ho m a w1 hm hW hb hd K Q hK; obtain rfl := Option.some.inj ho; obtain ⟨A9, c9, l9, e1, ho9, hs9, hn9, hg9, hR9⟩ := (hd 2 (by kernel_rfl) 56 rfl); have e1 := slotE e1; go_simp; refine (spec_LocationText l9 A9 c9 w1 (ownS_rd ho9) (smL_fit hs9 hn9)).mono ?_; rintro e w2 ⟨rfl, hb2⟩; exact hK _ _ (hW.next hb2) (kq_below hb2) ⟨_, rfl, locText_len hs9 hn9⟩)
          · (intro o ho m a w1 hm hW hb hd K Q hK; obtain rfl := Option.some.inj ho; have e1 := slotE (hd 0 (by kernel_rfl) 54 rfl); have e0 : a.tmps[2]?.getD undef = .pointer (some ⟨w.heap.size, 0, none⟩) := (by rw [hb 2 (by decide +kernel)]; simp); have hbR : w.heap.size ∈ [w.heap.size] := (by simp); obtain ⟨cs, hcs, hcn⟩ := hW.box _ hbR; obtain ⟨z0, z1, z2, z3, rfl⟩ := size_four hcn; obtain ⟨⟨r0, r1, r2, r3⟩, r4, r5, r6, r7⟩ := box_four hcs; go_simp; have hst := chg_set4 (v0 := sv l.sch) (v1 := sv l.host) (v2 := .slice A2 l.path.length c2) (v3 := sv l.qu) hcs; exact hK undef _ (hW.stored hbR hst.1 hst.2 rfl) (kq_good hbR hst.1 hst.2) hst.2)
          · (intro o ho m a w1 hm hW hb hd K Q hK; obtain rfl := Option.some.inj ho; obtain ⟨x, e1, hx⟩ := (hd 3 (by kernel_rfl) 57 rfl); have e1 := slotE e1; go_simp; exact hK _ _ hW.same kq_refl ⟨x, rfl, hx⟩)
        case hWsS1 => exact ⟨(HR7.out.keep (Below.refl _ _).drew).more (by omega), (Chg.refl _ _).drew, hgW, by simp; omega, by simp, by simp, by simp; exact ⟨_, HZ7.out, rfl⟩⟩
        case hfinsS1 =>
          intro vs w8 hW hF
          simp only [putAll, hdst, List.getElem?_cons_succ, List.getElem?_cons_zero, Option.bind, List.drop_succ_cons, List.drop_zero, Act.put]
          have h4 : w8.heap[w.heap.size]? = some (.cells (lcCells l A2 c2) 25 (0, 0)) := hF 4 (by omega)
          obtain ⟨t9, h5, ht9⟩ := hF 5 (by omega)
          rw [h5]
          have hrow : ∀ g, Value.ownBlock (.slice A2 l.path.length c2) = some g → w1.heap.size ≤ g ∧ g < w7.heap.size := fun g hg => HO7.out.lt g hg
          have HBW := Lib.hid (HB7.out.trans (hW.chg.below (B := w.heap.size) HB7.out.size (by simp)))
          have HO8 := Lib.hid (own_at HO7.out (fun g hg => hW.chg.block g (by have := hrow g hg; omega) (by have := hrow g hg; simp; omega)))
          obtain ⟨⟨f0, f1, f2, f3⟩, -⟩ := box_four h4
          clear hF h4 h5 hW
          go_simp
          go_wp2
          refine bodyPost_ret (v := .tuple #[lcV l A2 c2, sv t9]) (by simp [results, Tryd.results4, go_sem, *]) rfl ?_
          exact ⟨A2, c2, l, t9, rfl, own_base HO8.out (by omega), HS2.out, hn2, ht9, HBW.out⟩
      · have hk71 : ((k7 : Int) == 0) = false := by simp; omega
        clear hk70
        obtain ⟨⟨f0, f1, f2, f3⟩, -⟩ := box_four HX7.out.1
        obtain ⟨⟨z0, z1, z2, z3⟩, z4, z5, z6, z7⟩ := box_four HZ7.out
        go_wp2
        refine bodyPost_ret (v := .tuple #[lcV l A2 c2, sv s9]) (by simp [results, Tryd.results4, go_sem, *]) rfl ?_
        refine ⟨A2, c2, l, s9, rfl, own_base (own_off (own_off (own_off (own_off HO7.out (by omega)) (by omega)) (by omega)) (by omega)) (by omega), HS2.out, hn2, hsx, ?_⟩
        exact Below.setCell (Below.setCell (Below.setCell (Below.setCell HB7.out (Nat.le_refl _) _) (Nat.le_refl _) _) (Nat.le_refl _) _) (Nat.le_refl _) _
end Go.Proofs.YtjlaelkdmgcniaaDoor

/- FnResolveLocation: a walk. -/
namespace Go.Proofs.YtjlaelkdmgcniaaDoor
open Go.RowKit

theorem resolve_no {l : Lc} {s : Tx} (h : (resolve l s).2 = false) : (resolve l s).1 = zeroL := by
  unfold resolve at *
  split at h
  · next hl =>
    rw [if_pos hl]
    split at h
    · next hr => rw [hr] at h; cases h
    · next hr =>
      rw [if_neg hr]
      split at h
      · cases h
      · next hs =>
        rw [if_neg hs]
        split at h
        · cases h
        · next ho => rw [if_neg ho]
  · next hl => rw [if_neg hl]
theorem resolve_qu {l : Lc} {s : Tx} (h : (resolve l s).2 = true) : (resolve l s).1.qu.length ≤ s.length := by
  unfold resolve at *
  split at h
  · next hl =>
    rw [if_pos hl]
    split at h
    · next hr =>
      rw [if_pos hr]
      rcases readLoc_cases s with e | ⟨l2, e, _, ht⟩
      · rw [e] at hr; cases hr
      · rw [e]
        show l2.qu.length ≤ _
        rw [← ht, locBody_eq]
        unfold quT
        split
        · next h => rw [h]; simp
        · simp; omega
    · next hr =>
      rw [if_neg hr]
      split at h
      · next hs => rw [if_pos hs]; simp
      · next hs =>
        rw [if_neg hs]
        split at h
        · next ho => rw [if_pos ho]; simp [resOut]
        · cases h
  · cases h
theorem resolve_fit {l : Lc} {s : Tx} (hs : s.length ≤ 10000) (h : (resolve l s).2 = true) : FitL (resolve l s).1 := by
  have hk := (resolve_ok h).1
  have hq := resolve_qu h
  have h1 := loc_lens hk
  have h6 := (locOk_parts hk).six
  exact ⟨by omega, by omega, by omega, by omega, fun x hx => by
    have := (locOk_parts hk).path x hx
    simp only [stepOk, Bool.and_eq_true, decide_eq_true_eq] at this
    have := this.1.1.1.2
    omega⟩
theorem resolve_six {l : Lc} {s : Tx} : (resolve l s).1.path.length ≤ 6 := by
  cases h : (resolve l s).2
  · rw [resolve_no h]; simp [zeroL]
  · exact (locOk_parts (resolve_ok h).1).six
theorem readLoc_six {s : Tx} : (readLoc s).1.path.length ≤ 6 := by
  rcases readLoc_cases s with e | ⟨l, e, h, _⟩
  · rw [e]; simp [zeroL]
  · rw [e]; exact (locOk_parts h).six
set_option maxRecDepth 20000 in
set_option maxHeartbeats 8000000 in
theorem resolveLocation_walk (bs : Tx) (A : Option Addr) (c : Nat) (w : World) (hr : Rd w w.heap.size A (bcells bs)) (hc : bs.length ≤ c) (hm : bs.length ≤ maxLen) (hmx : Hm w) :
    Calls Tryd.prog 3 #[.slice A bs.length c] w fun e w' => e = .returned (.bool true) ∧ Below w.heap.size w w' := by
  unfold maxLen at hm
  by_cases h : 1048576 < bs.length
  · go_enter Tryd.func3, Tryd.ntmps3
    go_wp2
    go_ret
    exact ⟨rfl, Below.refl _ _⟩
  have HD := Lib.hid (spec_DrawResolveLocation bs A c w hr hc (by omega))
  have HM := Lib.hid hmx
  clear hr hmx
  go_enter Tryd.func3, Tryd.ntmps3
  go_wp2_with fail
  refine HD.out.mono ?_
  rintro e w1 ⟨A1, c1, l, s, rfl, ho, hsm, hn, hs, hb⟩
  have hf := smL_fit hsm hn
  have HI := Lib.hid (fun w A c hr hm => impl_ResolveLocation l s A c w hr hf hm (by omega) (by omega))
  have HS := Lib.hid (fun w A c hr => spec_ResolveLocation l s A c w hr hf (by omega) (by omega))
  have HN := Lib.hid (fun w A c hr hm => impl_ResolveLocation l [] A c w hr hf hm (by simp) (by omega))
  have HV := Lib.hid (fun w A c hr hm => impl_LocationValid l A c w hr hf hm)
  have HRL := Lib.hid (fun w hm => impl_ReadLocation s (by omega) w hm)
  have HRB := Lib.hid (fun h => resolve_bad (l := l) (s := s) h)
  have HRN := Lib.hid (fun h => resolve_nil (l := l) h)
  have HRW := Lib.hid (fun h1 h2 => resolve_whole (l := l) (s := s) h1 h2)
  have HRK := Lib.hid (fun h => resolve_ok (l := l) (s := s) h)
  have HRF := Lib.hid (fun h => resolve_fit (l := l) (s := s) (by omega) h)
  have HSX := Lib.hid (resolve_six (l := l) (s := s))
  have HRX := Lib.hid (readLoc_six (s := s))
  have HA1 := Lib.hid ((Below.refl w1.heap.size w1).alloc (Nat.le_refl _) (.cells (lcCells l A1 c1) 25))
  have HB1 := Lib.hid ((hb.trans (HA1.out.mono hb.size)))
  have HO1 := Lib.hid (ownS_keep ho HA1.out)
  have HX1 := Lib.hid (heap_alloc_new w1 (.cells (lcCells l A1 c1) 25))
  have hpl : l.path.length ≤ maxLen := by unfold maxLen; omega
  have HPL := Lib.hid hpl
  clear ho hb hf hsm hpl
  generalize resolve l s = r at *
  obtain ⟨x, ok⟩ := r
  generalize readLoc s = rl at *
  obtain ⟨wl, is⟩ := rl
  generalize hlv : locOk l = lv at *
  have HLV := Lib.hid hlv
  clear hlv
  dsimp only at HRK HRF HSX HRX
  go_upto_region 4 with fail
  generalize w1.alloc (.cells (lcCells l A1 c1) 25) = v1 at *
  obtain ⟨⟨f0, f1, f2, f3⟩, -⟩ := box_four HX1.out
  go_wp2_with fail
  refine (HI.out _ A1 c1 (ownS_rd HO1.out) (HM.out.below HB1.out)).mono ?_
  rintro e w2 ⟨A2, c2, rfl, ho, hb⟩
  have HA2 := Lib.hid ((Below.refl w2.heap.size w2).alloc (Nat.le_refl _) (.cells (lcCells x A2 c2) 25))
  have HB12 := Lib.hid (hb.trans (HA2.out.mono hb.size))
  have HB2 := Lib.hid (HB1.out.trans (HB12.out.mono HB1.out.size))
  have HO1 := Lib.hid (ownS_keep HO1.out HB12.out)
  have HX1 := Lib.hid (bx_keep HX1.out HB12.out)
  have HO2 := Lib.hid (ownS_keep ho HA2.out)
  have HX2 := Lib.hid (heap_alloc_new w2 (.cells (lcCells x A2 c2) 25))
  clear ho hb f0 f1 f2 f3 HB12 HI
  dsimp only
  go_upto_region 5 with fail
  generalize w2.alloc (.cells (lcCells x A2 c2) 25) = v2 at *
  obtain ⟨⟨f0, f1, f2, f3⟩, -⟩ := box_four HX1.out
  go_wp2_with fail
  refine (HS.out _ A1 c1 (ownS_rd HO1.out)).mono ?_
  rintro e w3 ⟨A3, c3, rfl, hr3, hc3, hb⟩
  have HA3 := Lib.hid ((Below.refl w3.heap.size w3).alloc (Nat.le_refl _) (.cells (lcCells x A3 c3) 25))
  have HB23 := Lib.hid (hb.trans (HA3.out.mono hb.size))
  have HB3 := Lib.hid (HB2.out.trans (HB23.out.mono HB2.out.size))
  have HO1 := Lib.hid (ownS_keep HO1.out HB23.out)
  have HX1 := Lib.hid (bx_keep HX1.out HB23.out)
  have HO2 := Lib.hid (ownS_keep HO2.out HB23.out)
  have HX2 := Lib.hid (bx_keep HX2.out HB23.out)
  have HR3 := Lib.hid ((hr3.below HA3.out).more HA3.out.size)
  have HX3 := Lib.hid (heap_alloc_new w3 (.cells (lcCells x A3 c3) 25))
  clear hr3 hb f0 f1 f2 f3 HB23 HS hc3
  dsimp only
  go_upto_region 6 with fail
  generalize w3.alloc (.cells (lcCells x A3 c3) 25) = v3 at *
  obtain ⟨⟨f0, f1, f2, f3⟩, -⟩ := box_four HX2.out
  obtain ⟨⟨g0, g1, g2, g3⟩, -⟩ := box_four HX3.out
  have hoo : (ok != ok) = false := by simp
  go_wp2_with fail
  refine (laws_sameLocation x A2 A3 c2 c3 _ (ownS_rd HO2.out) HR3.out (by have := HSX.out; unfold maxLen; omega)).mono ?_
  rintro e w4 ⟨rfl, hb⟩
  have HB4 := Lib.hid (HB3.out.trans (hb.mono HB3.out.size))
  have HO1 := Lib.hid (ownS_keep HO1.out hb)
  have HX1 := Lib.hid (bx_keep HX1.out hb)
  have HO2 := Lib.hid (ownS_keep HO2.out hb)
  have HX2 := Lib.hid (bx_keep HX2.out hb)
  obtain ⟨⟨z0, z1, z2, z3⟩, -⟩ := box_four HX1.out
  clear hb f0 f1 f2 f3 g0 g1 g2 g3 HX3 HR3
  go_wp2_with fail
  refine (HV.out _ A1 c1 (ownS_rd HO1.out) (HM.out.below HB4.out)).mono ?_
  rintro e w5 ⟨rfl, hb⟩
  have HB5 := Lib.hid (HB4.out.trans (hb.mono HB4.out.size))
  have HO1 := Lib.hid (ownS_keep HO1.out hb)
  have HX1 := Lib.hid (bx_keep HX1.out hb)
  have HO2 := Lib.hid (ownS_keep HO2.out hb)
  have HX2 := Lib.hid (bx_keep HX2.out hb)
  clear hb z0 z1 z2 z3
  cases lv with
  | false =>
    have hz := HRB.out rfl
    injection hz with hz1 hz2
    subst hz1 hz2
    have hh0 : List.isEmpty zeroL.host = true := rfl
    obtain ⟨⟨f0, f1, f2, f3⟩, -⟩ := box_four HX2.out
    go_wp2_with fail
    refine (laws_alive _).mono ?_
    rintro e w6 ⟨rfl, hb⟩
    have HB6 := Lib.hid (HB5.out.trans (hb.mono HB5.out.size))
    clear hb
    go_wp2
    go_ret
    exact ⟨rfl, HB6.out⟩
  | true =>
    have hnil := HRN.out rfl
    rw [hnil] at HN
    clear HRB HRN hnil hoo
    go_wp2_with fail
    refine (HRL.out _ (HM.out.below HB5.out)).mono ?_
    rintro e w6 ⟨A6, c6, rfl, ho, hb⟩
    have HA6 := Lib.hid ((Below.refl w6.heap.size w6).alloc (Nat.le_refl _) (.cells (lcCells wl A6 c6) 25))
    have HB56 := Lib.hid (hb.trans (HA6.out.mono hb.size))
    have HB6 := Lib.hid (HB5.out.trans (HB56.out.mono HB5.out.size))
    have HO1 := Lib.hid (ownS_keep HO1.out HB56.out)
    have HX1 := Lib.hid (bx_keep HX1.out HB56.out)
    have HO2 := Lib.hid (ownS_keep HO2.out HB56.out)
    have HX2 := Lib.hid (bx_keep HX2.out HB56.out)
    have HO6 := Lib.hid (ownS_keep ho HA6.out)
    have HX6 := Lib.hid (heap_alloc_new w6 (.cells (lcCells wl A6 c6) 25))
    clear ho hb HB56 HRL
    dsimp only
    go_upto_region 11 with fail
    generalize w6.alloc (.cells (lcCells wl A6 c6) 25) = v6 at *
    obtain ⟨⟨f0, f1, f2, f3⟩, -⟩ := box_four HX1.out
    go_wp2_with fail
    refine (HN.out _ A1 c1 (ownS_rd HO1.out) (HM.out.below HB6.out)).mono ?_
    rintro e w7 ⟨A7, c7, rfl, ho, hb⟩
    have HA7 := Lib.hid ((Below.refl w7.heap.size w7).alloc (Nat.le_refl _) (.cells (lcCells ⟨l.sch, l.host, l.path, []⟩ A7 c7) 25))
    have HB67 := Lib.hid (hb.trans (HA7.out.mono hb.size))
    have HB7 := Lib.hid (HB6.out.trans (HB67.out.mono HB6.out.size))
    have HO1 := Lib.hid (ownS_keep HO1.out HB67.out)
    have HX1 := Lib.hid (bx_keep HX1.out HB67.out)
    have HO2 := Lib.hid (ownS_keep HO2.out HB67.out)
    have HX2 := Lib.hid (bx_keep HX2.out HB67.out)
    have HO6 := Lib.hid (ownS_keep HO6.out HB67.out)
    have HX6 := Lib.hid (bx_keep HX6.out HB67.out)
    have HO7 := Lib.hid (ownS_keep ho HA7.out)
    have HX7 := Lib.hid (heap_alloc_new w7 (.cells (lcCells ⟨l.sch, l.host, l.path, []⟩ A7 c7) 25))
    clear ho hb HB67 HN f0 f1 f2 f3
    dsimp only
    go_upto_region 12 with fail
    generalize w7.alloc (.cells (lcCells ⟨l.sch, l.host, l.path, []⟩ A7 c7) 25) = v7 at *
    obtain ⟨⟨f0, f1, f2, f3⟩, -⟩ := box_four HX1.out
    obtain ⟨⟨g0, g1, g2, g3⟩, -⟩ := box_four HX7.out
    have HT := Lib.hid (laws_sameTexts l.path l.path A7 A1 c7 c1 _ (ownS_rd HO7.out) (ownS_rd HO1.out) HPL.out)
    rw [beq_self_eq_true] at HT
    go_cut [92] (fun t wx => t = .bool false ∧ Below v7.heap.size v7 wx)
    case first =>
      go_wp2_with fail
      refine HT.out.mono ?_
      rintro e w8 ⟨rfl, hb⟩
      have HB8 := Lib.hid hb
      have HO2 := Lib.hid (ownS_keep HO2.out hb)
      have HX2 := Lib.hid (bx_keep HX2.out hb)
      have HO6 := Lib.hid (ownS_keep HO6.out hb)
      have HX6 := Lib.hid (bx_keep HX6.out hb)
      clear hb f0 f1 f2 f3 g0 g1 g2 g3
      cases is with
      | false =>
        go_wp2
        go_meet
        case rel => exact ⟨rfl, HB8.out⟩
      | true =>
        have hz := HRW.out trivial rfl
        injection hz with hz1 hz2
        subst hz1 hz2
        obtain ⟨⟨p0, p1, p2, p3⟩, -⟩ := box_four HX2.out
        obtain ⟨⟨q0, q1, q2, q3⟩, -⟩ := box_four HX6.out
        go_wp2_with fail
        refine (laws_sameLocation x A2 A6 c2 c6 _ (ownS_rd HO2.out) (ownS_rd HO6.out) (by have := HSX.out; unfold maxLen; omega)).mono ?_
        rintro e w9 ⟨rfl, hb⟩
        have HB9 := Lib.hid (HB8.out.trans (hb.mono HB8.out.size))
        clear hb
        go_wp2
        go_meet
        case rel => exact ⟨rfl, HB9.out⟩
    case rest =>
      obtain ⟨rfl, hb⟩ := hcut
      have HB8 := Lib.hid (HB7.out.trans (hb.mono HB7.out.size))
      have HX1 := Lib.hid (bx_keep HX1.out hb)
      have HO2 := Lib.hid (ownS_keep HO2.out hb)
      have HX2 := Lib.hid (bx_keep HX2.out hb)
      clear hb f0 f1 f2 f3 g0 g1 g2 g3 HT HRW
      cases ok with
      | false =>
        go_wp2
        go_ret
        exact ⟨rfl, HB8.out⟩
      | true =>
        obtain ⟨hk, hor⟩ := HRK.out rfl
        have HVX := Lib.hid (fun w A c hr hm => impl_LocationValid x A c w hr (HRF.out rfl) hm)
        rw [hk] at HVX
        obtain ⟨⟨p0, p1, p2, p3⟩, -⟩ := box_four HX2.out
        go_wp2_with fail
        refine (HVX.out _ A2 c2 (ownS_rd HO2.out) (HM.out.below HB8.out)).mono ?_
        rintro e w9 ⟨rfl, hb⟩
        have HB9 := Lib.hid (HB8.out.trans (hb.mono HB8.out.size))
        have HX1 := Lib.hid (bx_keep HX1.out hb)
        have HX2 := Lib.hid (bx_keep HX2.out hb)
        clear hb p0 p1 p2 p3
        cases is with
        | true =>
          go_wp2
          go_ret
          exact ⟨rfl, HB9.out⟩
        | false =>
          rcases hor with h | ⟨h1, h2⟩
          · cases h
          have e1 : (x.host == l.host) = true := by rw [h1]; simp
          have e2 : (x.sch == l.sch) = true := by rw [h2]; simp
          obtain ⟨⟨p0, p1, p2, p3⟩, -⟩ := box_four HX2.out
          obtain ⟨⟨q0, q1, q2, q3⟩, -⟩ := box_four HX1.out
          clear h1 h2
          go_wp2
          go_ret
          exact ⟨rfl, HB9.out⟩
end Go.Proofs.YtjlaelkdmgcniaaDoor

namespace Go.Proofs.YtjlaelkdmgcniaaDoor
open Go.RowKit Go.ChangeShapes Go.WideShapes Go.ChangeAt Go.Joins
set_option maxRecDepth 100000 in
theorem fnResolveLocation_lifted (os : Os) (started : os.Started) (H : Type) (enc : TypeId × Value → H) :
    ReturnsInHanded {} Tryd.checked os 3 .any (fun w args => (Rows.fnResolveLocationSpec.pre enc Tryd.prog Tryd.f3 Rows.fnResolveLocationRow.domain false w args ∧ laidMetH Tryd.prog Rows.fnResolveLocationRow.laid w) ∧ sizedMet enc Tryd.prog Tryd.f3 (OpenSpec.ofChange Rows.fnResolveLocationSpec) false w args)
      (Rows.fnResolveLocationSpec.post enc Tryd.prog Tryd.f3 false true false false) := by
  refine returnsInHanded_of_change_and_shaped (C := Tryd.checked) (X := fun w _ => laidMetH Tryd.prog Rows.fnResolveLocationRow.laid w) (fun _ _ _ hh h => h.of_heap hh) Tryd.own started (by kernel_rfl) Tryd.func3
    (ChangeSpec.witness_shaped (enc := enc) (C := Tryd.checked) (os := os) (X := fun w _ => laidMetH Tryd.prog Rows.fnResolveLocationRow.laid w) false (World.laidAll Tryd.prog os Rows.fnResolveLocationRow.laid) #[.slice none 0 0] 8 (World.laidAll_os _ _ _)
      (World.shaped_of_ZipB (by kernel_rfl) (by kernel_rfl)) (by kernel_rfl) (by kernel_rfl) (by kernel_rfl)
      (by rw [MakeChecks.laidMetH_plain _ _ _ (by kernel_rfl)]; exact laidMet_laidAll _ (by kernel_rfl) (by kernel_rfl))) ?_
  intro W base args ds gs before hval0 hW _ _ _ hsh _
  have hval : ∀ (j : Nat) t v, Tryd.f3.params[j]? = some t → args[j]? = some v → Value.okWide Tryd.prog W .any base t v := hval0
  have hW' := hW
  obtain ⟨p, q, hA0, hV, rfl, _, _⟩ := hW
  have hA : DataW.TrodAll enc Tryd.prog W 0 (fun _ => true) true Tryd.f3.params.toList args.toList ds p := hA0
  rw [Tryd.params3] at hA hval
  obtain ⟨v0, d0, rfl, rfl, h0⟩ := trodAll_one hA
  obtain ⟨rfl, rfl⟩ := trodVars_none hV
  obtain ⟨A, c, bs, rfl, hr, hlc, hcm⟩ := open_bytes Tryd.underlying22 Tryd.underlying5 (by kernel_rfl) (hval 0 _ v0 rfl rfl) h0
  refine (resolveLocation_walk bs A c W hr hlc (Nat.le_trans hlc hcm) (hm_shaped hsh)).mono fun e W' ⟨he, hw⟩ => ?_
  subst he
  exact ⟨_, rfl, law_post hW' rfl rfl (by kernel_rfl) Tryd.underlying4 Tryd.laidOut (of_decide_eq_true (by kernel_rfl)) hw⟩

theorem fnResolveLocation_holds : Rows.FnResolveLocationSaid :=
  OpenClaim.holds_of_wide 3 Tryd.f3 rfl rfl rfl rfl rfl rfl rfl ⟨rfl, rfl, rfl, rfl, rfl⟩ rfl rfl rfl rfl rfl (by kernel_rfl) Tryd.func3 (by kernel_rfl)
    (of_decide_eq_true (by kernel_rfl)) (by unfold Func.isWrapper; first | (rw [if_pos (by decide +kernel)]; kernel_rfl) | (rw [if_neg (by decide +kernel)]; exact ⟨rfl, rfl⟩))
    (fun os started H enc _ => fnResolveLocation_lifted os started H enc)

theorem fnResolveLocation_cardHolds : Rows.FnResolveLocationCardSaid :=
  Claim7.holds_tied_plain_at .later [] _ true _ false fnResolveLocation_holds (fun _ h => by cases h) (by kernel_rfl) (fun _ h => by cases h) fnResolveLocation_row_tie rfl ⟨rfl, rfl⟩ (by kernel_rfl) rfl
    (fun f fn hf hfn => by
      obtain rfl : f = 3 := Option.some.inj ((show Tryd.prog.funcNamed "loop.example/templateescaper/laws.FnResolveLocation" = some 3 by kernel_rfl).symm.trans hf) |>.symm
      obtain rfl : fn = Tryd.f3 := (Option.some.inj (Tryd.func3.symm.trans hfn)).symm
      exact ⟨by kernel_rfl, fun j t ht => by
        rw [Tryd.params3] at ht
        have hm : t ∈ [22] := by simpa using Array.mem_of_getElem? ht
        have hall : ([22].all fun u => !Tryd.prog.wantsStandIn u) = true := by kernel_rfl
        exact (show Tryd.prog.wantsStandIn t = false by simpa using List.all_eq_true.1 hall t hm)⟩)
    (by kernel_rfl)

#print axioms fnResolveLocation_cardHolds
end Go.Proofs.YtjlaelkdmgcniaaDoor
