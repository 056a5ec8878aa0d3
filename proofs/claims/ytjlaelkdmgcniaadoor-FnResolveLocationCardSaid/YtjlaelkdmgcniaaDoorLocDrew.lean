/- Locations drawn for the laws, and a location stored into a box: walks. -/
import Derived.Test.YtjlaelkdmgcniaaDoorDrawT
import Derived.Test.YtjlaelkdmgcniaaDoorStrs
import Derived.Test.YtjlaelkdmgcniaaDoorTyped
import Derived.Test.YtjlaelkdmgcniaaDoorLocValid
import Derived.Test.YtjlaelkdmgcniaaDoorSameS
import Derived.Test.YtjlaelkdmgcniaaDoorTypedB
import Derived.Test.YtjlaelkdmgcniaaDoorPairS
import Derived.Deep.QuietTactic
import Derived.BigQuiet
import Derived.Test.YtjlaelkdmgcniaaDoorLocText
import Derived.Test.YtjlaelkdmgcniaaDoorLower
/- Drawn texts in rows of the call's own. No function of the program is walked here. -/
namespace Go.Proofs.YtjlaelkdmgcniaaDoor
open Go.RowKit

/-- a row of one text of at most n bytes, in a block of its own -/
def tOneS (g n : Nat) : Ty := fun w v => ∃ b, ∃ x : Tx, v = .slice (some ⟨b, 0, none⟩) 1 1 ∧ b ≠ g ∧ w.heap[b]? = some (.cells #[sv x] 9 (0, 0)) ∧ x.length ≤ n
theorem stays_tOneS {g n : Nat} : Stays g (tOneS g n) := fun _ _ _ hk ⟨b, x, h1, h2, h3, h4⟩ => ⟨b, x, h1, h2, kp_block hk h2 h3, h4⟩

/-- one text that lies in a block of its own, appended to texts of the call's own -/
theorem app_str_at {ops : Array Oper} {rest : List Oper} {o : Oper} {a : Act} {Q : Exit → Act → World → Prop} {W : World} (hgd : o.guard = none) (s x : Operand)
    (ho : o.op = .call { callee := .builtin .append, args := #[s, x], argTypes := #[23, 23] }) (base : Nat) (A : Option Addr) (c : Nat) (xs : List Tx) (u : Tx)
    (hs : a.eval s = .slice A xs.length c) (hown : OwnS W base A c xs) (b : Nat) (hx : a.eval x = .slice (some ⟨b, 0, none⟩) 1 1) (hh : W.heap[b]? = some (.cells #[sv u] 9 (0, 0))) (hlen : xs.length ≤ 4294967296) (hbase : base ≤ W.heap.size)
    (h : ∀ A' c' w', OwnS w' base A' c' (xs ++ [u]) → W.grownBy w' (Value.ownBlock (.slice A xs.length c)) → wpList Tryd.prog ops Q rest (a.put o.dst (.slice A' (xs ++ [u]).length c')) w') :
    wpList Tryd.prog ops Q (o :: rest) a W := by
  obtain ⟨i0, hi, hz0, hz1, hz2⟩ := info_parts Tryd.info_string
  refine wpList_append_own _ hgd s x _ ho base _ i0 _ 1 16 Tryd.underlying23 hi hz0 hz1 hz2 rfl (by decide) _ _ _ hs hown ⟨b, 0, none⟩ 1 1 [sv u] hx rfl ?_ ?_ (by unfold maxLen; omega) (by omega) hbase ?_
  · intro j z hj
    rw [Addr.add_lit, Nat.zero_add, cell_of_row W b j _ _ _ hh]
    simpa using hj
  · intro z hz
    simp at hz
    subst hz
    rfl
  · intro v' w' ho' hg' _
    obtain ⟨A', c', rfl, _, _⟩ := own_shape ho'
    have hl : (xs ++ [u]).length = xs.length + 1 := by simp
    rw [hl] at h
    refine h A' c' w' ?_ hg'
    unfold OwnS
    rw [List.length_append, List.map_append]
    exact ho'
theorem ownS_set {w : World} {base c g k : Nat} {xs : List Tx} (h : OwnS w base (some ⟨g, 0, none⟩) c xs) (t : Tx) : OwnS (w.setCell ⟨g, k, none⟩ (sv t)) base (some ⟨g, 0, none⟩) c (xs.set k t) := by
  have h1 := (h.stored k (sv t)).1
  unfold OwnS
  rw [List.length_set, List.map_set]
  exact h1
theorem ownS_at {w : World} {base c g k : Nat} {xs : List Tx} (h : OwnS w base (some ⟨g, 0, none⟩) c xs) (hk : k < xs.length) : w.cell? ⟨g, k, none⟩ = some (sv xs[k]) ∧ w.frozen? ⟨g, k, none⟩ = false := by
  refine ⟨?_, h.frozenAt _⟩
  rw [h.cellAt k (by omega)]
  simp [hk]

theorem lit_int {w : World} {g k n : Nat} {lo hi : Int} {cs : Array Value} {t : TypeId} {fr : Nat × Nat} (h : w.heap[g]? = some (.cells cs t fr)) (hok : okI lo hi n cs.toList = true) (hk : k < n) : ∃ z : Int, w.cell? ⟨g, k, none⟩ = some (.int .i64 z) ∧ lo ≤ z ∧ z ≤ hi := by
  obtain ⟨z, h1, h2⟩ := okI_get lo hi n _ hok k hk
  exact ⟨z, by rw [cell_of_row w g _ cs t fr h, ← Array.getElem?_toList]; exact h1, h2⟩

/-- texts of at most B bytes -/
def ShortS (B : Nat) (xs : List Tx) : Prop := ∀ x ∈ xs, x.length ≤ B
theorem shortS_snoc {B : Nat} {xs : List Tx} {x : Tx} (h : ShortS B xs) (hx : x.length ≤ B) : ShortS B (xs ++ [x]) := by
  intro y hy
  rcases List.mem_append.1 hy with hy | hy
  · exact h y hy
  · simp at hy; subst hy; exact hx
theorem shortS_set {B k : Nat} {xs : List Tx} {x : Tx} (h : ShortS B xs) (hx : x.length ≤ B) : ShortS B (xs.set k x) := by
  intro y hy
  rcases List.mem_or_eq_of_mem_set hy with hy | hy
  · exact h y hy
  · rw [hy]; exact hx
/-- the call drew at most n texts of at most B bytes into a row of its own, and at most m numbers -/
def DrawnSs (w : World) (B g q m n L : Nat) (e : Ending) (w' : World) : Prop :=
  ∃ A c xs, e = .returned (.slice A (List.length xs) c) ∧ OwnS w' w.heap.size A c xs ∧ xs.length ≤ n ∧ ShortS L xs ∧ Rdr w' B g (q + m) ∧ w.grownBy w' (some g)
/-- the call drew a text of at most L bytes, and at most m numbers -/
def DrawnT (w : World) (B g q m L : Nat) (e : Ending) (w' : World) : Prop :=
  ∃ l : Tx, e = .returned (.string ⟨l.toArray⟩) ∧ l.length ≤ L ∧ Rdr w' B g (q + m) ∧ w.grownBy w' (some g)
/-- the call drew at most n texts of at most L bytes into a row of its own; below nothing has turned -/
def DrewSn (w : World) (n L : Nat) (e : Ending) (w' : World) : Prop :=
  ∃ A c xs, e = .returned (.slice A (List.length xs) c) ∧ OwnS w' w.heap.size A c xs ∧ xs.length ≤ n ∧ ShortS L xs ∧ Below w.heap.size w w'
def DrewT (w : World) (L : Nat) (e : Ending) (w' : World) : Prop :=
  ∃ l : Tx, e = .returned (.string ⟨l.toArray⟩) ∧ l.length ≤ L ∧ Below w.heap.size w w'
theorem below_reader {w w1 w2 : World} (hb1 : Below w.heap.size w w1) (hg : w1.grownBy w2 (some w.heap.size)) : Below w.heap.size w w2 := hb1.trans (grown_to_below hg hb1.size (fun g h => by injection h; omega))
end Go.Proofs.YtjlaelkdmgcniaaDoor

/- Regions that draw their order, whose tail is an append and a store into a field whose address may be taken early: the typed rule for them. No function of the program is walked here. -/
namespace Go.Proofs.YtjlaelkdmgcniaaDoor
open Go

/-- the operation waits for nothing of the region -/
def hfree (l : List Oper) (i : Nat) : Bool := match l[i]? with
  | some o => o.guard.isNone && o.after.all fun e => !Region.binds .any e
  | none => false
/-- n operations, the append at n, the floating operation at n + 1 -/
def typedFB (l : List Oper) (n m : Nat) : Bool :=
  decide (n + 2 < l.length) && Region.sinkB .any l.toArray n && ((List.range l.length).all fun t => decide (t ≤ n + 1) || (if t = n + 2 then Region.waitsFor .any l.toArray t n else Region.waitsFor .any l.toArray t (t - 1))) &&
  ((List.range n).all fun i => hplain l i && hreach l m i) && hfree l (n + 1) && (match hdst l (n + 1) with | some d => decide (d < m) && (List.range n).all fun j => hdst l j != some d | none => false) &&
  decide (Region.ready .any l.toArray ((headListed n (l.length - n)).setIfInBounds (n + 1) true) = [n]) &&
  Region.seqB .any l.toArray (l.length - (n + 2)) (n + 2) (((headListed n (l.length - n)).setIfInBounds (n + 1) true).setIfInBounds n true) &&
  decide (Region.ready .any l.toArray (headListed n (l.length - n)) = [n, n + 1]) &&
  Region.seqB .any l.toArray (l.length - (n + 1)) (n + 1) ((headListed n (l.length - n)).setIfInBounds n true)

section
variable {P : Program} {l : List Oper} {n : Nat} {a0 : Act} {W : Nat → World → Prop} {Keep : World → World → Prop} {F : Nat → World → Value → Prop} {v0 : Value}

structure FInv (l : List Oper) (n : Nat) (a0 : Act) (W : Nat → World → Prop) (F : Nat → World → Value → Prop) (v0 : Value) (listed : Array Bool) (a : Act) (w : World) : Prop where
  lsize : listed.size = l.length
  closed : ∀ j oj, l[j]? = some oj → listed.getD j false = true → ∀ e ∈ oj.after, Region.binds .any e = true → listed.getD e.on false = true
  tail : ∀ t, n ≤ t → t ≠ n + 1 → t < l.length → listed.getD t true = false
  world : W (n - cnt listed n) w
  defers : a.defers = a0.defers
  size : a.tmps.size = a0.tmps.size
  base : ∀ s, (∀ i < n, listed.getD i false = true → hdst l i ≠ some s) → (listed.getD (n + 1) false = true → hdst l (n + 1) ≠ some s) → a.tmps[s]? = a0.tmps[s]?
  vals : ∀ i < n, listed.getD i false = true → ∀ d, hdst l i = some d → F i w (a.tmps.getD d undef)
  fval : listed.getD (n + 1) false = true → ∀ d, hdst l (n + 1) = some d → a.tmps.getD d undef = v0

/-- One operation of the head, at whatever moment it comes up. -/
def TStepF (P : Program) (l : List Oper) (n : Nat) (a0 : Act) (W : Nat → World → Prop) (Keep : World → World → Prop) (F : Nat → World → Value → Prop) (i : Nat) : Prop :=
  ∀ o, l[i]? = some o → ∀ (m : Nat) (a : Act) (w : World), m < n → W m w → (∀ s, (∀ j < n + 2, j = n ∨ hdst l j ≠ some s) → a.tmps[s]? = a0.tmps[s]?) →
    (∀ j, Region.waitsFor .any l.toArray i j = true → ∀ d, hdst l j = some d → F j w (a.tmps.getD d undef)) →
    ∀ (K : Act → World → Prop) (Q : Exit → Act → World → Prop), (∀ v w', W (m + 1) w' → Keep w w' → F i w' v → K (a.put o.dst v) w') → o.wp P a w K Q

/-- the floating operation, at whatever moment it comes up -/
def FStep (P : Program) (l : List Oper) (n : Nat) (a0 : Act) (v0 : Value) : Prop :=
  ∀ o, l[n + 1]? = some o → ∀ (a : Act) (w : World), (∀ s, (∀ j < n + 2, j = n ∨ hdst l j ≠ some s) → a.tmps[s]? = a0.tmps[s]?) →
    ∀ (K : Act → World → Prop) (Q : Exit → Act → World → Prop), K (a.put o.dst v0) w → o.wp P a w K Q

theorem fwaits {listed : Array Bool} {a : Act} {w : World} (hs : Region.sinkB .any l.toArray n = true)
    (hc : ∀ t, t < l.length → t ≤ n + 1 ∨ (if t = n + 2 then Region.waitsFor .any l.toArray t n else Region.waitsFor .any l.toArray t (t - 1)) = true) (hn : n + 2 < l.length) (inv : FInv l n a0 W F v0 listed a w) :
    ∀ (d i : Nat), n - i = d → i < n → listed.getD i true = false → ∀ t, n ≤ t → t ≠ n + 1 → t ∉ Region.ready .any l.toArray listed := by
  intro d
  induction d using Nat.strongRecOn with
  | _ d ih =>
    intro i hd hi hun t ht htf hr
    obtain ⟨_, ot, hot, hall⟩ := mem_ready.1 hr
    have htlt : t < l.length := by simpa using (Array.getElem?_eq_some_iff.1 hot).1
    by_cases htn : t = n
    · subst htn
      have h1 := List.all_eq_true.1 hs i (List.mem_range.2 hi)
      obtain ⟨j, hj, hj2⟩ := List.any_eq_true.1 h1
      simp only [Bool.and_eq_true, decide_eq_true_eq] at hj2
      obtain ⟨oj, hoj, e, he, hb, hon⟩ := Region.waitsFor_spec hj2.2
      have hjle : j ≤ t := by have := List.mem_range.1 hj; omega
      by_cases hjt : j = t
      · subst hjt
        have : oj = ot := Option.some.inj (hoj.symm.trans hot)
        subst this
        have h2 := hall e he hb
        rw [hon, getD_both hun] at h2
        cases h2
      · cases hl : listed.getD j false with
        | true =>
          have h2 := inv.closed j oj (by simpa using hoj) hl e he hb
          rw [hon, getD_both hun] at h2
          cases h2
        | false =>
          have hjs : j < listed.size := by rw [inv.lsize]; omega
          exact ih (t - j) (by omega) j rfl (by omega) (getD_in hjs hl) t (Nat.le_refl _) htf hr
    · rcases hc t htlt with h1 | h1
      · omega
      · have hex : ∃ u, n ≤ u ∧ u ≠ n + 1 ∧ u < l.length ∧ Region.waitsFor .any l.toArray t u = true := by
          split at h1
          · exact ⟨n, Nat.le_refl _, by omega, by omega, h1⟩
          · exact ⟨t - 1, by omega, by omega, by omega, h1⟩
        obtain ⟨u, hu1, hu2, hu3, hu4⟩ := hex
        obtain ⟨o', ho', e, he, hb, hon⟩ := Region.waitsFor_spec hu4
        have : o' = ot := Option.some.inj (ho'.symm.trans hot)
        subst this
        have h2 := hall e he hb
        rw [hon, getD_both (inv.tail u hu1 hu2 hu3)] at h2
        cases h2

theorem FInv.set {listed : Array Bool} {a a' : Act} {w w' : World} {i : Nat} (inv : FInv l n a0 W F v0 listed a w) (hi : i ∈ Region.ready .any l.toArray listed) (hin : i < n ∨ i = n + 1)
    (h1 : W (n - cnt (listed.setIfInBounds i true) n) w') (h2 : a'.defers = a0.defers) (h3 : a'.tmps.size = a0.tmps.size)
    (h4 : ∀ s, (∀ j < n, (listed.setIfInBounds i true).getD j false = true → hdst l j ≠ some s) → ((listed.setIfInBounds i true).getD (n + 1) false = true → hdst l (n + 1) ≠ some s) → a'.tmps[s]? = a0.tmps[s]?)
    (h5 : ∀ j < n, (listed.setIfInBounds i true).getD j false = true → ∀ d, hdst l j = some d → F j w' (a'.tmps.getD d undef))
    (h6 : (listed.setIfInBounds i true).getD (n + 1) false = true → ∀ d, hdst l (n + 1) = some d → a'.tmps.getD d undef = v0) : FInv l n a0 W F v0 (listed.setIfInBounds i true) a' w' := by
  obtain ⟨_, oi, hoi, hall⟩ := mem_ready.1 hi
  refine ⟨by simp [inv.lsize], fun j oj hj hl e he hb => ?_, fun t ht htf ht' => by rw [getD_set_ne true (by omega)]; exact inv.tail t ht htf ht', h1, h2, h3, h4, h5, h6⟩
  by_cases hij : i = j
  · subst hij
    have : oj = oi := Option.some.inj ((by simpa using hj : l.toArray[i]? = some oj).symm.trans hoi)
    subst this
    exact getD_set_true (hall e he hb)
  · rw [getD_set_ne false hij] at hl
    exact getD_set_true (inv.closed j oj hj hl e he hb)

theorem wpList_one {Q : Exit → Act → World → Prop} {ops : Array Oper} {i : Nat} {o : Oper} {rest : List Oper} {a : Act} {w : World} (h0 : ops[i]? = some o) (h : wpList P ops Q (o :: rest) a w) : wpOp P ops Q i (wpList P ops Q rest) a w := by
  unfold wpOp; simp only [h0]; exact h

theorem typedF_any {Q : Exit → Act → World → Prop} (hB : typedFB l n a0.tmps.size = true) (hkeep : ∀ j < n, ∀ w w' v, Keep w w' → F j w v → F j w' v)
    (hstep : ∀ i < n, TStepF P l n a0 W Keep F i) (hf : FStep P l n a0 v0)
    (hfin1 : ∀ (vs : Nat → Value) (w' : World) o, l[n]? = some o → W n w' → (∀ i < n, F i w' (vs i)) → wpList P l.toArray Q (o :: l.drop (n + 2)) ((putAll l vs n a0).put (hdst l (n + 1)) v0) w')
    (hfin2 : ∀ (vs : Nat → Value) (w' : World), W n w' → (∀ i < n, F i w' (vs i)) → wpList P l.toArray Q (l.drop n) (putAll l vs n a0) w') :
    ∀ (f : Nat) (listed : Array Bool) (a : Act) (w : World), cnt listed n + (if listed.getD (n + 1) false then 0 else 1) = f → FInv l n a0 W F v0 listed a w → wpAny P .any l.toArray Q (f + (l.length - n - 1)) listed a w := by
  simp only [typedFB, Bool.and_eq_true, Bool.or_eq_true, decide_eq_true_eq, List.all_eq_true, List.mem_range] at hB
  obtain ⟨⟨⟨⟨⟨⟨⟨⟨⟨hn, hsink⟩, hchain⟩, hall⟩, hfree1⟩, hfd⟩, hr1⟩, hs1⟩, hr2⟩, hs2⟩ := hB
  have hn0 : n < l.length := by omega
  have hn1 : n + 1 < l.length := by omega
  obtain ⟨df, hdf, hdfm, hdfn⟩ : ∃ d, hdst l (n + 1) = some d ∧ d < a0.tmps.size ∧ ∀ j < n, hdst l j ≠ some d := by
    split at hfd
    · rename_i d hd
      simp only [Bool.and_eq_true, decide_eq_true_eq, List.all_eq_true, List.mem_range, bne_iff_ne, ne_eq] at hfd
      exact ⟨d, hd, hfd.1, hfd.2⟩
    · cases hfd
  -- what the frame holds
  have hact : ∀ (listed : Array Bool) (a : Act) (w : World), FInv l n a0 W F v0 listed a w → cnt listed n = 0 →
      a = if listed.getD (n + 1) false then (putAll l (fun i => match hdst l i with | some d => a.tmps.getD d undef | none => undef) n a0).put (hdst l (n + 1)) v0 else putAll l (fun i => match hdst l i with | some d => a.tmps.getD d undef | none => undef) n a0 := by
    intro listed a w inv hc
    have hl1 := cnt_zero hc
    obtain ⟨p1, p2, p3, p4⟩ := putAll_spec (l := l) (n := n) (a0 := a0) (fun i => match hdst l i with | some d => a.tmps.getD d undef | none => undef) (fun i hi => (hall i hi).2) n (Nat.le_refl _)
    generalize putAll l (fun i => match hdst l i with | some d => a.tmps.getD d undef | none => undef) n a0 = b at *
    have key : ∀ s, (listed.getD (n + 1) false = true → s ≠ df) → a.tmps[s]? = b.tmps[s]? := by
      intro s hsf
      by_cases hex : ∃ i, i < n ∧ hdst l i = some s
      · obtain ⟨i, hi, hd⟩ := hex
        rw [p3 i hi s hd]
        simp only [hd]
        have hsz : s < a.tmps.size := by
          obtain ⟨d, hd2, hdm, _⟩ := hreach_spec (hall i hi).2
          rw [hd] at hd2
          cases hd2
          rw [inv.size]; exact hdm
        simp [hsz]
      · have hno : ∀ i < n, hdst l i ≠ some s := fun i hi e => hex ⟨i, hi, e⟩
        rw [p4 s hno]
        exact inv.base s (fun i hi _ => hno i hi) (fun hlf e => hsf hlf (by rw [hdf] at e; exact (Option.some.inj e).symm))
    have e2 : a.defers = b.defers := by rw [inv.defers, p1]
    cases hlf : listed.getD (n + 1) false
    · have e1 : a.tmps = b.tmps := by
        apply Array.ext_getElem?
        intro s
        exact key s (fun h => by rw [hlf] at h; cases h)
      simp only [Bool.false_eq_true, if_false]
      cases a; cases b
      simp only at e1 e2
      rw [e1, e2]
    · have e1 : a.tmps = b.tmps.setIfInBounds df v0 := by
        apply Array.ext_getElem?
        intro s
        by_cases hs : s = df
        · subst hs
          have h1 := inv.fval hlf s hdf
          have hsz : s < a.tmps.size := by rw [inv.size]; exact hdfm
          have hsz2 : s < b.tmps.size := by rw [p2]; exact hdfm
          rw [Array.getElem?_setIfInBounds_self_of_lt hsz2, ← h1]
          simp [hsz]
        · rw [Array.getElem?_setIfInBounds_ne (Ne.symm hs)]
          exact key s (fun _ => hs)
      simp only [if_true, hdf, Act.put]
      cases a; cases b
      simp only at e1 e2
      rw [e1, e2]
  have hvs : ∀ (listed : Array Bool) (a : Act) (w : World), FInv l n a0 W F v0 listed a w → cnt listed n = 0 → ∀ i < n, F i w ((fun i => match hdst l i with | some d => a.tmps.getD d undef | none => undef) i) := by
    intro listed a w inv hc i hi
    obtain ⟨d, hd, _, _⟩ := hreach_spec (hall i hi).2
    simp only [hd]
    exact inv.vals i hi (cnt_zero hc i hi) d hd
  have hlist : ∀ (listed : Array Bool) (a : Act) (w : World), FInv l n a0 W F v0 listed a w → cnt listed n = 0 → listed = if listed.getD (n + 1) false then (headListed n (l.length - n)).setIfInBounds (n + 1) true else headListed n (l.length - n) := by
    intro listed a w inv hc
    have hl1 := cnt_zero hc
    have hls := inv.lsize
    have h0 : ∀ i, i < l.length → i ≠ n + 1 → listed.getD i false = (headListed n (l.length - n)).getD i false := by
      intro i hi hif
      by_cases hin : i < n
      · rw [hl1 i hin]
        simp [headListed, hin, Array.getElem?_append]
      · have := getD_both (inv.tail i (by omega) hif hi)
        rw [this]
        have h2 : i - n < l.length - n := by omega
        simp [headListed, hin, Array.getElem?_append, h2]
    have hsz : (headListed n (l.length - n)).size = l.length := by simp [headListed]; omega
    have hh0 : (headListed n (l.length - n)).getD (n + 1) false = false := by
      have h3 : (1 : Nat) < l.length - n := by omega
      simp [headListed, h3]
    cases hlf : listed.getD (n + 1) false
    · simp only [Bool.false_eq_true, if_false]
      apply Array.ext
      · rw [hls, hsz]
      · intro i hi hi'
        have : listed.getD i false = (headListed n (l.length - n)).getD i false := by
          by_cases hif : i = n + 1
          · subst hif; rw [hlf, hh0]
          · exact h0 i (by omega) hif
        simpa [hi, hi'] using this
    · simp only [if_true]
      apply Array.ext
      · rw [hls, Array.size_setIfInBounds, hsz]
      · intro i hi hi'
        have : listed.getD i false = ((headListed n (l.length - n)).setIfInBounds (n + 1) true).getD i false := by
          by_cases hif : i = n + 1
          · subst hif; rw [hlf, getD_set_self (by rw [hsz]; omega)]
          · rw [getD_set_ne false (Ne.symm hif)]; exact h0 i (by omega) hif
        rw [Array.size_setIfInBounds] at hi'
        simpa [hi, hi'] using this
  -- the floating operation, in the middle
  have hfloat : ∀ (g : Nat) (listed : Array Bool) (a : Act) (w : World), FInv l n a0 W F v0 listed a w → listed.getD (n + 1) false = false → n + 1 ∈ Region.ready .any l.toArray listed →
      (∀ listed' a', FInv l n a0 W F v0 listed' a' w → cnt listed' n = cnt listed n → listed'.getD (n + 1) false = true → wpAny P .any l.toArray Q g listed' a' w) → wpOp P l.toArray Q (n + 1) (wpAny P .any l.toArray Q g (listed.setIfInBounds (n + 1) true)) a w := by
    intro g listed a w inv hlf hr hgo
    obtain ⟨o, ho⟩ : ∃ o, l[n + 1]? = some o := ⟨l[n + 1], List.getElem?_eq_getElem hn1⟩
    have hgu : o.guard.isNone = true := by
      unfold hfree at hfree1
      rw [ho] at hfree1
      simp only [Bool.and_eq_true] at hfree1
      exact hfree1.1
    have hod : o.dst = some df := by simpa [hdst, ho] using hdf
    have hls := inv.lsize
    have hcn : cnt (listed.setIfInBounds (n + 1) true) n = cnt listed n := cnt_congr fun i hi => getD_set_ne false (by omega)
    unfold wpOp
    simp only [show l.toArray[n + 1]? = some o by simpa using ho, wanted_plain hgu, if_true]
    left
    refine hf o ho a w (fun s h1 => inv.base s (fun j hj _ => (h1 j (by omega)).resolve_left (by omega)) (fun _ => (h1 (n + 1) (by omega)).resolve_left (by omega))) _ Q ?_
    rw [hod]
    refine hgo _ _ ?_ hcn (getD_set_self (by omega))
    refine inv.set hr (.inr rfl) (by rw [hcn]; exact inv.world) (by simpa [Act.put] using inv.defers) (by simpa [Act.put] using inv.size) ?_ ?_ ?_
    · intro s h1 h2
      have hne : df ≠ s := fun e => h2 (getD_set_self (by omega)) (by rw [hdf, e])
      rw [act_put_other hne]
      refine inv.base s (fun j hj hl => h1 j hj (by rw [getD_set_ne false (by omega)]; exact hl)) (fun h => by rw [hlf] at h; cases h)
    · intro j hj hl d hd
      have hne : df ≠ d := fun e => hdfn j hj (by rw [hd, e])
      rw [getD_of (act_put_other hne v0)]
      exact inv.vals j hj (by rwa [getD_set_ne false (by omega)] at hl) d hd
    · intro _ d hd
      rw [hdf] at hd
      cases hd
      exact act_put_slot (by rw [inv.size]; exact hdfm) v0
  intro f
  induction f with
  | zero =>
    intro listed a w hc inv
    have hc0 : cnt listed n = 0 := by omega
    have hlf : listed.getD (n + 1) false = true := by
      cases h : listed.getD (n + 1) false
      · rw [h] at hc; simp at hc
      · rfl
    have ha := hact listed a w inv hc0
    have hL := hlist listed a w inv hc0
    rw [hlf] at ha hL
    simp only [if_true] at ha hL
    obtain ⟨o, ho⟩ : ∃ o, l[n]? = some o := ⟨l[n], List.getElem?_eq_getElem hn0⟩
    have h1 := hfin1 _ w o ho (by have := inv.world; rw [hc0] at this; simpa using this) (hvs listed a w inv hc0)
    rw [← ha] at h1
    rw [Nat.zero_add, show l.length - n - 1 = (l.length - (n + 2)) + 1 by omega]
    rw [hL]
    refine ⟨fun h0 => (by rw [hr1] at h0; cases h0), fun i hi => ?_⟩
    rw [hr1] at hi
    have hin : i = n := by simpa using hi
    subst hin
    refine wpOp_mono (fun a' w' h' => ?_) (wpList_one (by simpa using ho) h1)
    have := wpAny_of_seq (md := .any) (Q' := Q) (ops := l.toArray) (l.drop (i + 2)) (i + 2) _ a' w' (fun j => by simp [List.getElem?_drop]) (by rw [List.length_drop]; exact hs1) h'
    rwa [List.length_drop] at this
  | succ f ih =>
    intro listed a w hc inv
    have hls := inv.lsize
    rw [show f + 1 + (l.length - n - 1) = f + (l.length - n - 1) + 1 by omega]
    by_cases hc0 : cnt listed n = 0
    · have hlf : listed.getD (n + 1) false = false := by
        cases h : listed.getD (n + 1) false
        · rfl
        · rw [h] at hc; simp at hc; omega
      have hf0 : f = 0 := by rw [hlf] at hc; simp at hc; omega
      have ha := hact listed a w inv hc0
      have hL := hlist listed a w inv hc0
      rw [hlf] at ha hL
      simp only [Bool.false_eq_true, if_false] at ha hL
      have hR : Region.ready .any l.toArray listed = [n, n + 1] := by rw [hL]; exact hr2
      refine ⟨fun h0 => (by rw [hR] at h0; cases h0), fun i hi => ?_⟩
      have hi' := hi
      rw [hR] at hi
      have hin : i = n ∨ i = n + 1 := by simpa using hi
      rcases hin with rfl | rfl
      · have h2 := hfin2 _ w (by have := inv.world; rw [hc0] at this; simpa using this) (hvs listed a w inv hc0)
        rw [← ha] at h2
        obtain ⟨o, ho⟩ : ∃ o, l[i]? = some o := ⟨l[i], List.getElem?_eq_getElem hn0⟩
        have hd : l.drop i = o :: l.drop (i + 1) := by
          rw [List.drop_eq_getElem_cons hn0]
          congr 1
          rw [List.getElem?_eq_getElem hn0] at ho
          exact Option.some.inj ho
        rw [hd] at h2
        refine wpOp_mono (fun a' w' h' => ?_) (wpList_one (by simpa using ho) h2)
        have := wpAny_of_seq (md := .any) (Q' := Q) (ops := l.toArray) (l.drop (i + 1)) (i + 1) (listed.setIfInBounds i true) a' w' (fun j => by simp [List.getElem?_drop]) (by rw [List.length_drop, hL]; exact hs2) h'
        rw [List.length_drop] at this
        rw [hf0, Nat.zero_add, show l.length - i - 1 = l.length - (i + 1) by omega]
        exact this
      · refine hfloat _ listed a w inv hlf hi' fun listed' a' inv' hcn hl' => ?_
        exact ih listed' a' w (by rw [hcn, hc0, hl', hf0]; rfl) inv'
    · obtain ⟨i0, hi0, hu0, hbef⟩ := cnt_some (listed := listed) (n := n) hc0
      have hi0r : i0 ∈ Region.ready .any l.toArray listed := by
        have h1 := (hall i0 hi0).1
        unfold hplain at h1
        split at h1
        · rename_i o ho
          simp only [Bool.and_eq_true, Array.all_eq_true'] at h1
          refine mem_ready.2 ⟨getD_in (by omega) hu0, o, by simpa using ho, fun e he hb => ?_⟩
          have := h1.2 e he
          simp only [hb, Bool.not_true, Bool.false_or, decide_eq_true_eq] at this
          exact hbef _ this
        · cases h1
      refine ⟨fun h0 => (by rw [h0] at hi0r; cases hi0r), fun i hi => ?_⟩
      have hin : i < n ∨ i = n + 1 := by
        rcases Nat.lt_or_ge i n with h | h
        · exact .inl h
        · by_cases hif : i = n + 1
          · exact .inr hif
          · exact absurd hi (fwaits hsink hchain hn inv _ i0 rfl hi0 (getD_in (by omega) hu0) i h hif)
      obtain ⟨hun, o, ho, haft⟩ := mem_ready.1 hi
      have hol : l[i]? = some o := by simpa using ho
      have hunf := getD_both hun
      rcases hin with hin | hin
      · have hgu : o.guard.isNone = true := by
          have h1 := (hall i hin).1
          unfold hplain at h1
          rw [hol] at h1
          simp only [Bool.and_eq_true] at h1
          exact h1.1
        obtain ⟨d, hd, hdm, _⟩ := hreach_spec (hall i hin).2
        have hod : o.dst = some d := by simpa [hdst, hol] using hd
        unfold wpOp
        simp only [ho, wanted_plain hgu, if_true]
        left
        have hcs := cnt_set (n := n) (by omega) hunf hin
        have hlf1 : (listed.setIfInBounds i true).getD (n + 1) false = listed.getD (n + 1) false := getD_set_ne false (by omega)
        have hm : n - cnt listed n < n := by have := cnt_le listed n; omega
        refine hstep i hin o hol (n - cnt listed n) a w hm inv.world (fun s hs => inv.base s (fun j hj _ => (hs j (by omega)).resolve_left (by omega)) (fun _ => (hs (n + 1) (by omega)).resolve_left (by omega))) (fun j hj d' hd' => ?_) _ Q fun v w' hw' hk hv => ?_
        · obtain ⟨oi, hoi, e, he, hb, hon⟩ := Region.waitsFor_spec hj
          have : oi = o := Option.some.inj (hoi.symm.trans ho)
          subst this
          have hl2 := haft e he hb
          rw [hon] at hl2
          have hjn : j < n := by
            have h1 := (hall i hin).1
            unfold hplain at h1
            rw [hol] at h1
            simp only [Bool.and_eq_true, Array.all_eq_true'] at h1
            have := h1.2 e he
            simp only [hb, Bool.not_true, Bool.false_or, decide_eq_true_eq] at this
            omega
          exact inv.vals j hjn hl2 d' hd'
        · rw [hod]
          refine ih _ _ w' (by rw [hlf1]; omega) (inv.set hi (.inl hin) ?_ ?_ ?_ ?_ ?_ ?_)
          · have : n - cnt (listed.setIfInBounds i true) n = n - cnt listed n + 1 := by have := cnt_le listed n; omega
            rw [this]; exact hw'
          · simpa [Act.put] using inv.defers
          · simpa [Act.put] using inv.size
          · intro s hs hs2
            have hne : d ≠ s := fun e => hs i hin (getD_set_self (by omega)) (by rw [hd, e])
            rw [act_put_other hne]
            exact inv.base s (fun j hj hl => hs j hj (getD_set_true hl)) (fun hl => hs2 (getD_set_true hl))
          · intro j hj hl d' hd'
            by_cases hij : i = j
            · subst hij
              rw [hd] at hd'
              cases hd'
              rw [act_put_slot (by rw [inv.size]; exact hdm)]
              exact hv
            · rw [getD_set_ne false hij] at hl
              have hne : d ≠ d' := by
                intro e
                subst e
                obtain ⟨di, hdi, _, hi2⟩ := hreach_spec (hall i hin).2
                obtain ⟨dj, hdj, _, hj2⟩ := hreach_spec (hall j hj).2
                rw [hd] at hdi; cases hdi
                rw [hd'] at hdj; cases hdj
                rcases Nat.lt_or_gt_of_ne hij with h | h
                · exact hj2 i h hd
                · exact hi2 j h hd'
              rw [getD_of (act_put_other hne v)]
              exact hkeep j hj w w' _ hk (inv.vals j hj hl d' hd')
          · intro hl d' hd'
            rw [hlf1] at hl
            have hne : d ≠ d' := fun e => hdfn i hin (by rw [hdf] at hd'; cases hd'; rw [hd, e])
            rw [getD_of (act_put_other hne v)]
            exact inv.fval hl d' hd'
      · subst hin
        refine hfloat _ listed a w inv hunf hi fun listed' a' inv' hcn hl' => ?_
        exact ih listed' a' w (by rw [hcn, hl']; rw [hunf] at hc; simp at hc ⊢; omega) inv'

/-- A region that draws its order, an append and a store behind it, the address of the store taken at whatever moment. -/
theorem wp_region_typedF {id : Nat} {Q : Exit → Act → World → Prop} {w : World} (n : Nat) (v0 : Value) (hm : P.follows .mixedOrders = true) (hB : typedFB l n a0.tmps.size = true)
    (W : Nat → World → Prop) (Keep : World → World → Prop) (F : Nat → World → Value → Prop) (hW : W 0 w.drew) (hkeep : ∀ j < n, ∀ w w' v, Keep w w' → F j w v → F j w' v)
    (hstep : ∀ i < n, TStepF P l n a0 W Keep F i) (hf : FStep P l n a0 v0)
    (hfin1 : ∀ (vs : Nat → Value) (w' : World) o, l[n]? = some o → W n w' → (∀ i < n, F i w' (vs i)) → wpList P l.toArray Q (o :: l.drop (n + 2)) ((putAll l vs n a0).put (hdst l (n + 1)) v0) w')
    (hfin2 : ∀ (vs : Nat → Value) (w' : World), W n w' → (∀ i < n, F i w' (vs i)) → wpList P l.toArray Q (l.drop n) (putAll l vs n a0) w') :
    (Code.region id l.toArray true).wp P Q a0 w := by
  have hB' := hB
  simp only [typedFB, Bool.and_eq_true, Bool.or_eq_true, decide_eq_true_eq, List.all_eq_true, List.mem_range] at hB'
  obtain ⟨⟨⟨⟨⟨⟨⟨⟨⟨hn, _⟩, _⟩, _⟩, _⟩, _⟩, _⟩, _⟩, _⟩, _⟩ := hB'
  refine wp_region_any hm ?_
  have hsz : l.toArray.size = l.length := by simp
  rw [hsz]
  have h := typedF_any (Q := Q) hB hkeep hstep hf hfin1 hfin2 (n + 1) (Array.replicate l.length false) a0 w.drew (by rw [cnt_all _ n (by omega), getD_replicate_false]; rfl)
    ⟨by simp, fun j oj _ hl => (by rw [getD_replicate_false] at hl; cases hl), fun t _ _ ht => getD_in (by simpa using ht) (getD_replicate_false _ _),
      (by rw [cnt_all _ n (by omega), Nat.sub_self]; exact hW), rfl, rfl, fun _ _ _ => rfl, fun i _ hl => (by rw [getD_replicate_false] at hl; cases hl), fun hl => (by rw [getD_replicate_false] at hl; cases hl)⟩
  rw [show n + 1 + (l.length - n - 1) = l.length by omega] at h
  exact h
end
end Go.Proofs.YtjlaelkdmgcniaaDoor

/- Locations in the laws: size, conversion, equality: walks. -/
namespace Go.Proofs.YtjlaelkdmgcniaaDoor
open Go.RowKit

def lsize (l : Lc) : Nat := l.sch.length + l.host.length + (l.path.length + ssize l.path) + l.qu.length
theorem ssize_mem : ∀ {xs : List Tx} {x : Tx}, x ∈ xs → x.length ≤ ssize xs
  | y :: t, x, h => by
    simp only [ssize]
    rcases List.mem_cons.1 h with rfl | h
    · omega
    · have := ssize_mem h; omega
theorem fitL_of {l : Lc} (h : lsize l ≤ 1048576) : FitL l := by
  unfold lsize at h
  refine ⟨by omega, by omega, by omega, by omega, fun x hx => ?_⟩
  have := ssize_mem hx
  omega



/-- what a function that gives a location of its own leaves -/
def NewL (w : World) (l : Lc) (e : Ending) (w' : World) : Prop := ∃ A c, e = .returned (lcV l A c) ∧ OwnS w' w.heap.size A c l.path ∧ Below w.heap.size w w'

theorem own_off {w : World} {base size n g o : Nat} {e : TypeId} {v u : Value} {xs : List Value} (h : w.ownsRow base e size v n xs) (hg : g < base) : (w.setCell ⟨g, o, none⟩ u).ownsRow base e size v n xs := by
  refine h.kept (grown_set (grown_refl _ _) _ _) ?_
  cases hv : v.ownBlock with
  | none => exact .inl rfl
  | some k =>
    have := (h.lt k hv).1
    exact .inr (by simp; omega)

def lcEq (a b : Lc) : Bool := a.sch == b.sch && (a.host == b.host && (a.path == b.path && a.qu == b.qu))
theorem lcEq_iff (a b : Lc) : lcEq a b = true ↔ a = b := by
  obtain ⟨a1, a2, a3, a4⟩ := a
  obtain ⟨b1, b2, b3, b4⟩ := b
  simp [lcEq]
end Go.Proofs.YtjlaelkdmgcniaaDoor

/- Drawn locations: walks. -/
namespace Go.Proofs.YtjlaelkdmgcniaaDoor
open Go.RowKit

/-- a location without path and query, of short texts -/
def tLoc0 (n : Nat) : Ty := fun _ v => ∃ x y : Tx, v = .agg #[sv x, sv y, .slice none 0 0, sv []] ∧ x.length ≤ n ∧ y.length ≤ n
theorem stays_tLoc0 {g n : Nat} : Stays g (tLoc0 n) := fun _ _ _ _ h => h
/-- a box of cells of its own, made since the block B -/
def tBoxN (g B : Nat) (cs : Array Value) (t : TypeId) : Ty := fun w v => ∃ b, v = .pointer (some ⟨b, 0, none⟩) ∧ b ≠ g ∧ B ≤ b ∧ w.heap[b]? = some (.cells cs t (0, 0))
theorem stays_tBoxN {g B : Nat} {cs : Array Value} {t : TypeId} : Stays g (tBoxN g B cs t) := fun _ _ _ hk ⟨b, h1, h2, h3, h4⟩ => ⟨b, h1, h2, h3, kp_block hk h2 h4⟩
theorem box_four {w : World} {b : Nat} {x y z u : Value} {t : TypeId} (h : w.heap[b]? = some (.cells #[x, y, z, u] t (0, 0))) :
    (w.cell? ⟨b, 0, none⟩ = some x ∧ w.cell? ⟨b, 1, none⟩ = some y ∧ w.cell? ⟨b, 2, none⟩ = some z ∧ w.cell? ⟨b, 3, none⟩ = some u) ∧ (w.frozen? ⟨b, 0, none⟩ = false ∧ w.frozen? ⟨b, 1, none⟩ = false ∧ w.frozen? ⟨b, 2, none⟩ = false ∧ w.frozen? ⟨b, 3, none⟩ = false) := by
  simp [World.cell?, World.frozen?, h]


/-- a location in a box of the call's own, its path in a row of the call's own, and the result's box as it was -/
structure LSt (w0 w : World) (g b : Nat) (l : Lc) (A : Option Addr) (c : Nat) : Prop where
  box : w.heap[b]? = some (.cells (lcCells l A c) 25 (0, 0))
  own : OwnS w (b + 1) A c l.path
  res : w.heap[w0.heap.size]? = some (.cells #[.string ⟨#[]⟩, .string ⟨#[]⟩, .slice none 0 0, .string ⟨#[]⟩] 25 (0, 0))
  lt : w0.heap.size < b
  old : g < w0.heap.size
section
variable {w0 w w' : World} {g b : Nat} {l : Lc} {A : Option Addr} {c : Nat}
theorem LSt.size (h : LSt w0 w g b l A c) : b < w.heap.size := lt_of_block h.box
theorem LSt.grow (h : LSt w0 w g b l A c) (hg : w.grownBy w' (some g)) : LSt w0 w' g b l A c := by
  have h1 := h.lt; have h2 := h.old; have h3 := h.size
  exact ⟨(hg.block b h3 (by intro e; injection e; omega)).trans h.box, own_g h.own hg (by omega), (hg.block _ (by omega) (by intro e; injection e; omega)).trans h.res, h1, h2⟩
theorem LSt.alloc (h : LSt w0 w g b l A c) (o : Obj) : LSt w0 (w.alloc o) g b l A c := by
  have h1 := h.lt; have h3 := h.size
  exact ⟨(heap_alloc_old w _ h3).trans h.box, own_below h.own ((Below.refl _ _).alloc (Nat.le_refl _) _), (heap_alloc_old w _ (by omega)).trans h.res, h1, h.old⟩
theorem LSt.set (h : LSt w0 w g b l A c) (o : Nat) (u : Value) {l' : Lc} (hc : (lcCells l A c).setIfInBounds o u = lcCells l' A c) (hp : l'.path = l.path) : LSt w0 (w.setCell ⟨b, o, none⟩ u) g b l' A c := by
  have h1 := h.lt
  refine ⟨?_, ?_, ?_, h1, h.old⟩
  · rw [← hc]; exact cells_set h.box
  · rw [hp]; exact own_off h.own (by omega)
  · rw [← h.res]; exact Below.heap_setCell _ _ _ _ (by show w0.heap.size ≠ b; omega)
theorem LSt.app (h : LSt w0 w g b l A c) {A' : Option Addr} {c' : Nat} {xs : List Tx} (ho : OwnS w' (b + 1) A' c' xs) (hg : w.grownBy w' (Value.ownBlock (.slice A l.path.length c))) (v : Value) (hv : v = .slice A' xs.length c') : LSt w0 (w'.setCell ⟨b, 2, none⟩ v) g b { l with path := xs } A' c' := by
  subst hv
  have h1 := h.lt; have h3 := h.size
  have hr := ownS_row h.own
  have hb : w'.heap[b]? = some (.cells (lcCells l A c) 25 (0, 0)) := (hg.block b h3 (fun e => by have := hr _ e.symm; omega)).trans h.box
  refine ⟨cells_set hb, own_off ho (by omega), ?_, h1, h.old⟩
  exact (Below.heap_setCell _ _ _ _ (by show w0.heap.size ≠ b; omega)).trans ((hg.block _ (by omega) (fun e => by have := hr _ e.symm; omega)).trans h.res)
theorem LSt.boxApp (h : LSt w0 w g b l A c) (hg : w.grownBy w' (Value.ownBlock (.slice A l.path.length c))) : w'.heap[b]? = some (.cells (lcCells l A c) 25 (0, 0)) := by
  have hr := ownS_row h.own
  exact (hg.block b h.size (fun e => by have := hr _ e.symm; omega)).trans h.box
theorem rdr_set {B q k o : Nat} {u : Value} (h : Rdr w B g q) (hk : g < k) : Rdr (w.setCell ⟨k, o, none⟩ u) B g q := h.frame (row := some k) (grown_set (grown_refl _ _) _ _) (fun j hj => by injection hj; omega)
theorem grown_set_up {row : Option Nat} {k o : Nat} {u : Value} (h : w0.grownBy w row) (hk : w0.heap.size ≤ k) : w0.grownBy (w.setCell ⟨k, o, none⟩ u) row := grown_set_new h (p := ⟨k, o, none⟩) hk u
end
/-- short texts -/
def SmL (l : Lc) : Prop := l.sch.length ≤ 100 ∧ l.host.length ≤ 100 ∧ l.qu.length ≤ 100 ∧ ShortS 100 l.path
/-- the call drew a location whose path lies in a row of its own, and at most m numbers -/
def DrawnL (w : World) (B g q m : Nat) (e : Ending) (w' : World) : Prop :=
  ∃ A c l, e = .returned (lcV l A c) ∧ OwnS w' w.heap.size A c l.path ∧ SmL l ∧ l.path.length ≤ 10 ∧ Rdr w' B g (q + m) ∧ w.grownBy w' (some g)

set_option maxRecDepth 100000 in
set_option maxHeartbeats 800000 in
theorem spec_l20Location (B g q : Nat) (n : Int) (w : World) (h : Rdr w B g q) (hq : q ≤ 100000000) (hn : n ≤ 1000000000) (hn0 : -1000000000 ≤ n) :
    Calls Tryd.prog 13 #[.pointer (some ⟨g, 0, none⟩), .int .i64 n] w (DrawnL w B g q 200) := by
  have hlt := h.lt
  have H := Lib.hid h
  clear h
  go_enter Tryd.func13, Tryd.ntmps13
  go_wp2_with fail
  refine wp_region_typed 12 (by kernel_rfl) (by kernel_rfl) (DW (w.alloc (.cells #[.string ⟨#[]⟩, .string ⟨#[]⟩, .slice none 0 0, .string ⟨#[]⟩] 25)) B g q) (Kp g) (fun i => ([tRow g 2 (cTxt 100 2), tIs (.pointer (some ⟨g, 0, none⟩)), tNum 2, tAdrS g 100, tTxt 100, tRow g 3 (cTxt 100 3), tIs (.pointer (some ⟨g, 0, none⟩)), tNum 3, tAdrS g 100, tTxt 100, tLoc0 100, tBoxN g (w.heap.size + 1) #[.string ⟨#[]⟩, .string ⟨#[]⟩, .slice none 0 0, .string ⟨#[]⟩] 25] : List Ty).getD i tAny) ?hW ?hkeep ?hstep ?hfin
  case hkeep =>
    refine all_lt_succ (all_lt_succ (all_lt_succ (all_lt_succ (all_lt_succ (all_lt_succ (all_lt_succ (all_lt_succ (all_lt_succ (all_lt_succ (all_lt_succ (all_lt_succ all_lt_zero ?_) ?_) ?_) ?_) ?_) ?_) ?_) ?_) ?_) ?_) ?_) ?_
    · exact stays_row _ _
    · exact stays_is _
    · exact stays_num _
    · exact stays_adrS _
    · exact stays_txt _
    · exact stays_row _ _
    · exact stays_is _
    · exact stays_num _
    · exact stays_adrS _
    · exact stays_txt _
    · exact stays_tLoc0
    · exact stays_tBoxN
  case hstep =>
    refine all_lt_succ (all_lt_succ (all_lt_succ (all_lt_succ (all_lt_succ (all_lt_succ (all_lt_succ (all_lt_succ (all_lt_succ (all_lt_succ (all_lt_succ (all_lt_succ all_lt_zero ?_) ?_) ?_) ?_) ?_) ?_) ?_) ?_) ?_) ?_) ?_) ?_
    · (intro o ho m a w1 hm hW hb hd K Q hK; obtain rfl := Option.some.inj ho; go_simp; exact hK _ _ (hW.next ((Below.refl _ _).alloc (Nat.le_refl _) _)) (kp_below ((Below.refl _ _).alloc (Nat.le_refl _) _)) ⟨_, _, _, _, rfl, hW.new, heap_alloc_new w1 _, by decide +kernel⟩)
    · (intro o ho m a w1 hm hW hb hd K Q hK; obtain rfl := Option.some.inj ho; have e0 : a.tmps[0]?.getD undef = (.pointer (some ⟨g, 0, none⟩)) := (by rw [hb 0 (by decide +kernel)]; simp); go_simp; exact hK _ _ hW.same (kp_refl _) rfl)
    · (intro o ho m a w1 hm hW hb hd K Q hK; obtain rfl := Option.some.inj ho; have e1 := slotE (hd 1 (by kernel_rfl) 8 rfl); go_simp; refine (spec_pick _ _ _ _ w1 hW.1 (by omega) (by omega) (by omega)).mono ?_; rintro e w2 ⟨k, rfl, hk, hr2, hg2⟩; exact hK _ _ ⟨hr2.more (by omega), grown_trans hW.2 hg2⟩ hg2 ⟨k, rfl, hk⟩)
    · (intro o ho m a w1 hm hW hb hd K Q hK; obtain rfl := Option.some.inj ho; obtain ⟨b, cs, t, fr, e1, hbg, hh, hC⟩ := (hd 0 (by kernel_rfl) 7 rfl); obtain ⟨k, e2, hk⟩ := (hd 2 (by kernel_rfl) 9 rfl); have e1 := slotE e1; have e2 := slotE e2; have hk2 := num_lt hk (by omega); go_simp; exact hK _ _ hW.same (kp_refl _) (row_txt hbg hh hC (by omega)))
    · (intro o ho m a w1 hm hW hb hd K Q hK; obtain rfl := Option.some.inj ho; obtain ⟨b, o, x, e1, hbg, hc, hx⟩ := (hd 3 (by kernel_rfl) 10 rfl); have e1 := slotE e1; go_simp; exact hK _ _ hW.same (kp_refl _) ⟨x, rfl, hx⟩)
    · (intro o ho m a w1 hm hW hb hd K Q hK; obtain rfl := Option.some.inj ho; go_simp; exact hK _ _ (hW.next ((Below.refl _ _).alloc (Nat.le_refl _) _)) (kp_below ((Below.refl _ _).alloc (Nat.le_refl _) _)) ⟨_, _, _, _, rfl, hW.new, heap_alloc_new w1 _, by decide +kernel⟩)
    · (intro o ho m a w1 hm hW hb hd K Q hK; obtain rfl := Option.some.inj ho; have e0 : a.tmps[0]?.getD undef = (.pointer (some ⟨g, 0, none⟩)) := (by rw [hb 0 (by decide +kernel)]; simp); go_simp; exact hK _ _ hW.same (kp_refl _) rfl)
    · (intro o ho m a w1 hm hW hb hd K Q hK; obtain rfl := Option.some.inj ho; have e1 := slotE (hd 6 (by kernel_rfl) 13 rfl); go_simp; refine (spec_pick _ _ _ _ w1 hW.1 (by omega) (by omega) (by omega)).mono ?_; rintro e w2 ⟨k, rfl, hk, hr2, hg2⟩; exact hK _ _ ⟨hr2.more (by omega), grown_trans hW.2 hg2⟩ hg2 ⟨k, rfl, hk⟩)
    · (intro o ho m a w1 hm hW hb hd K Q hK; obtain rfl := Option.some.inj ho; obtain ⟨b, cs, t, fr, e1, hbg, hh, hC⟩ := (hd 5 (by kernel_rfl) 12 rfl); obtain ⟨k, e2, hk⟩ := (hd 7 (by kernel_rfl) 14 rfl); have e1 := slotE e1; have e2 := slotE e2; have hk2 := num_lt hk (by omega); go_simp; exact hK _ _ hW.same (kp_refl _) (row_txt hbg hh hC (by omega)))
    · (intro o ho m a w1 hm hW hb hd K Q hK; obtain rfl := Option.some.inj ho; obtain ⟨b, o, x, e1, hbg, hc, hx⟩ := (hd 8 (by kernel_rfl) 15 rfl); have e1 := slotE e1; go_simp; exact hK _ _ hW.same (kp_refl _) ⟨x, rfl, hx⟩)
    · (intro o ho m a w1 hm hW hb hd K Q hK; obtain rfl := Option.some.inj ho; obtain ⟨x, e1, hx⟩ := (hd 4 (by kernel_rfl) 11 rfl); obtain ⟨y, e2, hy⟩ := (hd 9 (by kernel_rfl) 16 rfl); have e1 := slotE e1; have e2 := slotE e2; go_simp; exact hK _ _ hW.same (kp_refl _) ⟨x, y, rfl, hx, hy⟩)
    · (intro o ho m a w1 hm hW hb hd K Q hK; obtain rfl := Option.some.inj ho; go_simp; exact hK _ _ (hW.next ((Below.refl _ _).alloc (Nat.le_refl _) _)) (kp_below ((Below.refl _ _).alloc (Nat.le_refl _) _)) ⟨_, rfl, hW.new, (by have hzz := hW.2.size; first | exact hzz | (simp at hzz; omega)), heap_alloc_new w1 _⟩)
  case hW => exact ⟨((H.out.keep ((Below.refl _ _).alloc (Nat.le_refl _) _)).keep (Below.refl _ _).drew).more (by omega), grown_drew (grown_refl _ _)⟩
  case hfin =>
    intro vs w3 hW hF
    simp only [putAll, hdst, List.getElem?_cons_succ, List.getElem?_cons_zero, Option.bind, List.drop_succ_cons, List.drop_zero, Act.put]
    obtain ⟨x, y, h10, hx, hy⟩ := hF 10 (by omega)
    obtain ⟨b, h11, hbg, hbB, hh⟩ := hF 11 (by omega)
    rw [h10, h11]
    obtain ⟨hr3, hg3⟩ := hW
    obtain ⟨⟨f0, f1, f2, f3⟩, f4, f5, f6, f7⟩ := box_four hh
    have hres3 : w3.heap[w.heap.size]? = some (.cells #[.string ⟨#[]⟩, .string ⟨#[]⟩, .slice none 0 0, .string ⟨#[]⟩] 25 (0, 0)) := (hg3.block w.heap.size (by simp) (by intro e; injection e; omega)).trans (heap_alloc_new w _)
    have HL0 : Hid (LSt w w3 g b ⟨[], [], [], []⟩ none 0) := ⟨hh, ownS_nil _ _, hres3, by omega, hlt⟩
    have HL4 := Lib.hid ((((HL0.out.set 0 (sv x) (l' := ⟨x, [], [], []⟩) rfl rfl).set 1 (sv y) (l' := ⟨x, y, [], []⟩) rfl rfl).set 2 (.slice none 0 0) (l' := ⟨x, y, [], []⟩) rfl rfl).set 3 (sv []) (l' := ⟨x, y, [], []⟩) rfl rfl)
    have HR4 := Lib.hid (rdr_set (o := 3) (k := b) (u := sv []) (rdr_set (o := 2) (k := b) (u := .slice none 0 0) (rdr_set (o := 1) (k := b) (u := sv y) (rdr_set (o := 0) (u := sv x) (k := b) hr3 (by omega)) (by omega)) (by omega)) (by omega))
    have HG4 := Lib.hid (grown_set_up (o := 3) (u := sv []) (k := b) (grown_set_up (o := 2) (u := .slice none 0 0) (k := b) (grown_set_up (o := 1) (u := sv y) (k := b) (grown_set_up (o := 0) (u := sv x) (k := b) (grown_trans (World.grownBy_alloc w (.cells #[.string ⟨#[]⟩, .string ⟨#[]⟩, .slice none 0 0, .string ⟨#[]⟩] 25) _) hg3) (by omega)) (by omega)) (by omega)) (by omega))
    clear hF h10 h11 hr3 hg3 hh hres3 HL0
    go_simp
    go_wp2_with fail
    refine (spec_pick B g _ 4 _ HR4.out (by omega) (by omega) (by omega)).mono ?_
    rintro e w5 ⟨k5, rfl, hk5, hr5, hg5⟩
    have HL5 := Lib.hid (HL4.out.grow hg5)
    have HR5 := Lib.hid hr5
    have HG5 := Lib.hid (grown_trans HG4.out hg5)
    have hk5' : k5 ≤ 3 := by omega
    clear hr5 hg5 hk5 f0 f1 f2 f3 f4 f5 f6 f7 HL4 HR4 HG4
    go_wp2
    go_loopw [6] (fun i wr => ∃ (k : Nat) (A : Option Addr) (c : Nat) (l : Lc), i = .int .i64 (k : Int) ∧ k + l.path.length ≤ 3 ∧ LSt w wr g b l A c ∧ SmL l ∧ Rdr wr B g (q + 13 + 20 * l.path.length) ∧ w.grownBy wr (some g)) (fun i _ => (intOf i).toNat)
    case atStart => exact ⟨k5, none, 0, ⟨x, y, [], []⟩, rfl, by simpa using hk5', HL5.out, ⟨hx, hy, by simp, (fun p hp => by cases hp)⟩, HR5.out.more (by simp), HG5.out⟩
    case round =>
      obtain ⟨k, A, c, l, rfl, hkl, hl, hs, hr, hg⟩ := hrel
      have HL := Lib.hid hl
      have HS := Lib.hid hs
      have HR := Lib.hid hr
      have HG := Lib.hid hg
      clear hl hs hr hg
      by_cases hk : 0 < k
      · have HC2 := Lib.hid (box_four HL.out.box).1.2.2.1
        have hne : b ≠ g := hbg
        go_wp2_with fail
        refine wp_region_typed 8 (by kernel_rfl) (by kernel_rfl) (DW wr B g (q + 13 + 20 * l.path.length)) (Kp g) (fun i => ([tIs (.pointer (some ⟨b, 2, none⟩)), tIs (.slice A l.path.length c), tRow g 4 (cTxt 100 4), tIs (.pointer (some ⟨g, 0, none⟩)), tNum 4, tAdrS g 100, tTxt 100, tOneS g 100] : List Ty).getD i tAny) ?hW2 ?hkeep2 ?hstep2 ?hfin2
        case hkeep2 =>
          refine all_lt_succ (all_lt_succ (all_lt_succ (all_lt_succ (all_lt_succ (all_lt_succ (all_lt_succ (all_lt_succ all_lt_zero ?_) ?_) ?_) ?_) ?_) ?_) ?_) ?_
          · exact stays_is _
          · exact stays_is _
          · exact stays_row _ _
          · exact stays_is _
          · exact stays_num _
          · exact stays_adrS _
          · exact stays_txt _
          · exact stays_tOneS
        case hstep2 =>
          refine all_lt_succ (all_lt_succ (all_lt_succ (all_lt_succ (all_lt_succ (all_lt_succ (all_lt_succ (all_lt_succ all_lt_zero ?_) ?_) ?_) ?_) ?_) ?_) ?_) ?_
          · (intro o ho m a w1 hm hW hb hd K Q hK; obtain rfl := Option.some.inj ho; have e0 : a.tmps[5]?.getD undef = .pointer (some ⟨b, 0, none⟩) := (by rw [hb 5 (by decide +kernel)]; simp); go_simp; exact hK _ _ hW.same (kp_refl _) rfl)
          · (intro o ho m a w1 hm hW hb hd K Q hK; obtain rfl := Option.some.inj ho; have e1 := slotE (hd 0 (by kernel_rfl) 24 rfl); have hcw := kp_cell hW.2 hne HC2.out; go_simp; exact hK _ _ hW.same (kp_refl _) rfl)
          · (intro o ho m a w1 hm hW hb hd K Q hK; obtain rfl := Option.some.inj ho; go_simp; exact hK _ _ (hW.next ((Below.refl _ _).alloc (Nat.le_refl _) _)) (kp_below ((Below.refl _ _).alloc (Nat.le_refl _) _)) ⟨_, _, _, _, rfl, hW.new, heap_alloc_new w1 _, by decide +kernel⟩)
          · (intro o ho m a w1 hm hW hb hd K Q hK; obtain rfl := Option.some.inj ho; have e0 : a.tmps[0]?.getD undef = (.pointer (some ⟨g, 0, none⟩)) := (by rw [hb 0 (by decide +kernel)]; simp); go_simp; exact hK _ _ hW.same (kp_refl _) rfl)
          · (intro o ho m a w1 hm hW hb hd K Q hK; obtain rfl := Option.some.inj ho; have e1 := slotE (hd 3 (by kernel_rfl) 27 rfl); go_simp; refine (spec_pick _ _ _ _ w1 hW.1 (by omega) (by omega) (by omega)).mono ?_; rintro e w2 ⟨k, rfl, hk, hr2, hg2⟩; exact hK _ _ ⟨hr2.more (by omega), grown_trans hW.2 hg2⟩ hg2 ⟨k, rfl, hk⟩)
          · (intro o ho m a w1 hm hW hb hd K Q hK; obtain rfl := Option.some.inj ho; obtain ⟨b, cs, t, fr, e1, hbg, hh, hC⟩ := (hd 2 (by kernel_rfl) 26 rfl); obtain ⟨k, e2, hk⟩ := (hd 4 (by kernel_rfl) 28 rfl); have e1 := slotE e1; have e2 := slotE e2; have hk2 := num_lt hk (by omega); go_simp; exact hK _ _ hW.same (kp_refl _) (row_txt hbg hh hC (by omega)))
          · (intro o ho m a w1 hm hW hb hd K Q hK; obtain rfl := Option.some.inj ho; obtain ⟨b, o, x, e1, hbg, hc, hx⟩ := (hd 5 (by kernel_rfl) 29 rfl); have e1 := slotE e1; go_simp; exact hK _ _ hW.same (kp_refl _) ⟨x, rfl, hx⟩)
          · (intro o ho m a w1 hm hW hb hd K Q hK; obtain rfl := Option.some.inj ho; obtain ⟨x, e1, hx⟩ := (hd 6 (by kernel_rfl) 30 rfl); have e1 := slotE e1; go_simp; exact hK _ _ (hW.next ((Below.refl _ _).alloc (Nat.le_refl _) _)) (kp_below ((Below.refl _ _).alloc (Nat.le_refl _) _)) ⟨_, x, rfl, hW.new, heap_alloc_new w1 _, hx⟩)
        case hW2 => exact ⟨(HR.out.keep (Below.refl _ _).drew).more (by omega), grown_drew (grown_refl _ _)⟩
        case hfin2 =>
          intro vs w3 hW hF
          simp only [putAll, hdst, List.getElem?_cons_succ, List.getElem?_cons_zero, Option.bind, List.drop_succ_cons, List.drop_zero, Act.put]
          have h1 : vs 1 = .slice A l.path.length c := hF 1 (by omega)
          obtain ⟨b2, x2, h7, hbg2, hh2, hx2⟩ := hF 7 (by omega)
          rw [h1, h7]
          obtain ⟨hr3, hg3⟩ := hW
          have HL3 := Lib.hid (HL.out.grow hg3)
          have HR3 := Lib.hid hr3
          have HG3 := Lib.hid (grown_trans HG.out hg3)
          have hsz3 := HL3.out.size
          clear hF h1 h7 hr3 hg3
          go_simp
          go_wp2_with (at_builtin; refine app_str_at rfl _ _ rfl (b + 1) A c l.path x2 (by rfl) HL3.out.own b2 (by rfl) hh2 ?_ ?_ ?_; (focus omega); (focus omega); intro A6 c6 w6 ho6 hg6; have HBX6 := box_four (HL3.out.boxApp hg6); obtain ⟨⟨f0, f1, f2, f3⟩, f4, f5, f6, f7⟩ := HBX6)
          go_roundw
          case rel =>
            refine ⟨k - 1, A6, c6, { l with path := l.path ++ [x2] }, by go_num, by simp; omega, HL3.out.app ho6 hg6 _ (by simp), ⟨HS.out.1, HS.out.2.1, HS.out.2.2.1, shortS_snoc HS.out.2.2.2 hx2⟩, ?_, ?_⟩
            · exact (rdr_set (HR3.out.frame hg6 (own_lt HL3.out.own (by omega))) (by omega)).more (by simp; omega)
            · exact grown_set_up (grown_own HG3.out hg6 (by omega) (ownS_row HL3.out.own)) (by omega)
          case measure => simp [intOf]; omega
      · have hk0 : k = 0 := by omega
        subst hk0
        have HS : Hid (SmL l ∧ l.path.length ≤ 9) := ⟨HS.out, by omega⟩
        go_wp2_with fail
        refine (spec_pick B g _ 3 _ HR.out (by omega) (by omega) (by omega)).mono ?_
        rintro e ws ⟨k1, rfl, hk1, hr1, hg1⟩
        have HL := Lib.hid (HL.out.grow hg1)
        have HG := Lib.hid (grown_trans HG.out hg1)
        have HR := Lib.hid (hr1.more (q' := q + 80) (by omega))
        clear hr1 hg1 hk1
        by_cases h1 : k1 = 0
        · subst h1
          go_wp2_with fail
          refine (spec_pick B g _ 2 _ (HR.out.keep ((Below.refl _ _).alloc (Nat.le_refl _) _)) (by omega) (by omega) (by omega)).mono ?_
          rintro e w7 ⟨k7, rfl, hk7, hr7, hg7⟩
          have hsz7 : ws.heap.size < w7.heap.size := by have := hg7.size; simp at this; omega
          have hlit : w7.heap[ws.heap.size]? = _ := (hg7.block ws.heap.size (by simp) (by have h1 := HL.out.size; have h2 := HL.out.lt; have h3 := HL.out.old; simp; omega)).trans (heap_alloc_new ws _)
          obtain ⟨x7, hx7c, hx7⟩ := lit_str (k := k7) (B := 100) (n := 2) hlit (by decide +kernel) (by rcases hk7 with hk7 | hk7 <;> omega)
          have HL7 := Lib.hid ((HL.out.alloc _).grow hg7)
          have HR7 := Lib.hid hr7
          have HG7 := Lib.hid (grown_trans (grown_alloc HG.out _) hg7)
          clear hlit hr7 hg7
          obtain ⟨⟨f0, f1, f2, f3⟩, f4, f5, f6, f7⟩ := box_four HL7.out.box
          have HSX : Hid (SmL { l with qu := x7 } ∧ ({ l with qu := x7 } : Lc).path.length ≤ 9) := ⟨⟨HS.out.1.1, HS.out.1.2.1, hx7, HS.out.1.2.2.2⟩, HS.out.2⟩
          have HLX := Lib.hid (HL7.out.set 3 (sv x7) (l' := { l with qu := x7 }) rfl rfl)
          have HRX := Lib.hid (rdr_set (o := 3) (u := sv x7) (k := b) HR7.out (by have h2 := HL.out.lt; have h3 := HL.out.old; omega))
          have HGX := Lib.hid (grown_set_up (o := 3) (u := sv x7) (k := b) HG7.out (by have h2 := HL.out.lt; omega))
          generalize ({ l with qu := x7 } : Lc) = l at HLX HSX
          have HL := HLX
          have HS := HSX
          have HR := HRX
          have HG := HGX
          clear HLX HSX HRX HGX
          go_wp2_with fail
          refine (spec_odd B g _ n _ HR.out (by omega) hn hn0).mono ?_
          rintro e ws ⟨bo, rfl, hr1, hg1⟩
          have HL := Lib.hid (HL.out.grow hg1)
          have HG := Lib.hid (grown_trans HG.out hg1)
          have HR := Lib.hid (hr1.more (q' := q + 90) (by omega))
          clear hr1 hg1
          cases bo
          ·
            obtain ⟨⟨f0, f1, f2, f3⟩, f4, f5, f6, f7⟩ := box_four HL.out.box
            obtain ⟨⟨r0, r1, r2, r3⟩, r4, r5, r6, r7⟩ := box_four HL.out.res
            go_wp2
            refine bodyPost_ret (v := lcV l A c) (by simp [results, Tryd.results13, go_sem, *]) rfl ?_
            have HZ := HL.out
            have HN := HZ.lt
            have HO := HZ.old
            refine ⟨A, c, l, rfl, ?_, HS.out.1, by have := HS.out.2; omega, ?_, ?_⟩
            · exact own_off (own_off (own_off (own_off (own_base HZ.own (b := w.heap.size + 1) (by omega)) (by omega)) (by omega)) (by omega)) (by omega) |> fun h => own_base h (by omega)
            · exact (rdr_set (rdr_set (rdr_set (rdr_set HR.out (by omega)) (by omega)) (by omega)) (by omega)).more (by omega)
            · exact grown_set_up (grown_set_up (grown_set_up (grown_set_up HG.out (by omega)) (by omega)) (by omega)) (by omega)
          ·
            go_wp2_with fail
            refine (spec_pick B g _ 4 _ HR.out (by omega) (by omega) (by omega)).mono ?_
            rintro e ws ⟨k9, rfl, hk9, hr1, hg1⟩
            have HL := Lib.hid (HL.out.grow hg1)
            have HG := Lib.hid (grown_trans HG.out hg1)
            have HR := Lib.hid (hr1.more (q' := q + 95) (by omega))
            clear hr1 hg1 hk9
            obtain rfl | rfl | rfl | ⟨n0, n1, n2⟩ : k9 = 0 ∨ k9 = 1 ∨ k9 = 2 ∨ (((k9 : Int) == 0) = false ∧ ((k9 : Int) == 1) = false ∧ ((k9 : Int) == 2) = false) := by
              by_cases h0 : k9 = 0
              · exact .inl h0
              · by_cases h1 : k9 = 1
                · exact .inr (.inl h1)
                · by_cases h2 : k9 = 2
                  · exact .inr (.inr (.inl h2))
                  · exact .inr (.inr (.inr ⟨by simp; omega, by simp; omega, by simp; omega⟩))
            ·
              go_wp2_with fail
              refine (spec_pick B g _ 3 _ (HR.out.keep ((Below.refl _ _).alloc (Nat.le_refl _) _)) (by omega) (by omega) (by omega)).mono ?_
              rintro e w7 ⟨k7, rfl, hk7, hr7, hg7⟩
              have hsz7 : ws.heap.size < w7.heap.size := by have := hg7.size; simp at this; omega
              have hlit : w7.heap[ws.heap.size]? = _ := (hg7.block ws.heap.size (by simp) (by have h1 := HL.out.size; have h2 := HL.out.lt; have h3 := HL.out.old; simp; omega)).trans (heap_alloc_new ws _)
              obtain ⟨x7, hx7c, hx7⟩ := lit_str (k := k7) (B := 100) (n := 3) hlit (by decide +kernel) (by rcases hk7 with hk7 | hk7 <;> omega)
              have HL7 := Lib.hid ((HL.out.alloc _).grow hg7)
              have HR7 := Lib.hid hr7
              have HG7 := Lib.hid (grown_trans (grown_alloc HG.out _) hg7)
              clear hlit hr7 hg7
              obtain ⟨⟨f0, f1, f2, f3⟩, f4, f5, f6, f7⟩ := box_four HL7.out.box
              have HSX : Hid (SmL { l with sch := x7 } ∧ ({ l with sch := x7 } : Lc).path.length ≤ 9) := ⟨⟨hx7, HS.out.1.2.1, HS.out.1.2.2.1, HS.out.1.2.2.2⟩, HS.out.2⟩
              have HLX := Lib.hid (HL7.out.set 0 (sv x7) (l' := { l with sch := x7 }) rfl rfl)
              have HRX := Lib.hid (rdr_set (o := 0) (u := sv x7) (k := b) HR7.out (by have h2 := HL.out.lt; have h3 := HL.out.old; omega))
              have HGX := Lib.hid (grown_set_up (o := 0) (u := sv x7) (k := b) HG7.out (by have h2 := HL.out.lt; omega))
              generalize ({ l with sch := x7 } : Lc) = l at HLX HSX
              have HL := HLX
              have HS := HSX
              have HR := HRX
              have HG := HGX
              clear HLX HSX HRX HGX
              obtain ⟨⟨f0, f1, f2, f3⟩, f4, f5, f6, f7⟩ := box_four HL.out.box
              obtain ⟨⟨r0, r1, r2, r3⟩, r4, r5, r6, r7⟩ := box_four HL.out.res
              go_wp2
              refine bodyPost_ret (v := lcV l A c) (by simp [results, Tryd.results13, go_sem, *]) rfl ?_
              have HZ := HL.out
              have HN := HZ.lt
              have HO := HZ.old
              refine ⟨A, c, l, rfl, ?_, HS.out.1, by have := HS.out.2; omega, ?_, ?_⟩
              · exact own_off (own_off (own_off (own_off (own_base HZ.own (b := w.heap.size + 1) (by omega)) (by omega)) (by omega)) (by omega)) (by omega) |> fun h => own_base h (by omega)
              · exact (rdr_set (rdr_set (rdr_set (rdr_set HR.out (by omega)) (by omega)) (by omega)) (by omega)).more (by omega)
              · exact grown_set_up (grown_set_up (grown_set_up (grown_set_up HG.out (by omega)) (by omega)) (by omega)) (by omega)
            ·
              go_wp2_with fail
              refine (spec_pick B g _ 3 _ (HR.out.keep ((Below.refl _ _).alloc (Nat.le_refl _) _)) (by omega) (by omega) (by omega)).mono ?_
              rintro e w7 ⟨k7, rfl, hk7, hr7, hg7⟩
              have hsz7 : ws.heap.size < w7.heap.size := by have := hg7.size; simp at this; omega
              have hlit : w7.heap[ws.heap.size]? = _ := (hg7.block ws.heap.size (by simp) (by have h1 := HL.out.size; have h2 := HL.out.lt; have h3 := HL.out.old; simp; omega)).trans (heap_alloc_new ws _)
              obtain ⟨x7, hx7c, hx7⟩ := lit_str (k := k7) (B := 100) (n := 3) hlit (by decide +kernel) (by rcases hk7 with hk7 | hk7 <;> omega)
              have HL7 := Lib.hid ((HL.out.alloc _).grow hg7)
              have HR7 := Lib.hid hr7
              have HG7 := Lib.hid (grown_trans (grown_alloc HG.out _) hg7)
              clear hlit hr7 hg7
              obtain ⟨⟨f0, f1, f2, f3⟩, f4, f5, f6, f7⟩ := box_four HL7.out.box
              have HSX : Hid (SmL { l with host := x7 } ∧ ({ l with host := x7 } : Lc).path.length ≤ 9) := ⟨⟨HS.out.1.1, hx7, HS.out.1.2.2.1, HS.out.1.2.2.2⟩, HS.out.2⟩
              have HLX := Lib.hid (HL7.out.set 1 (sv x7) (l' := { l with host := x7 }) rfl rfl)
              have HRX := Lib.hid (rdr_set (o := 1) (u := sv x7) (k := b) HR7.out (by have h2 := HL.out.lt; have h3 := HL.out.old; omega))
              have HGX := Lib.hid (grown_set_up (o := 1) (u := sv x7) (k := b) HG7.out (by have h2 := HL.out.lt; omega))
              generalize ({ l with host := x7 } : Lc) = l at HLX HSX
              have HL := HLX
              have HS := HSX
              have HR := HRX
              have HG := HGX
              clear HLX HSX HRX HGX
              obtain ⟨⟨f0, f1, f2, f3⟩, f4, f5, f6, f7⟩ := box_four HL.out.box
              obtain ⟨⟨r0, r1, r2, r3⟩, r4, r5, r6, r7⟩ := box_four HL.out.res
              go_wp2
              refine bodyPost_ret (v := lcV l A c) (by simp [results, Tryd.results13, go_sem, *]) rfl ?_
              have HZ := HL.out
              have HN := HZ.lt
              have HO := HZ.old
              refine ⟨A, c, l, rfl, ?_, HS.out.1, by have := HS.out.2; omega, ?_, ?_⟩
              · exact own_off (own_off (own_off (own_off (own_base HZ.own (b := w.heap.size + 1) (by omega)) (by omega)) (by omega)) (by omega)) (by omega) |> fun h => own_base h (by omega)
              · exact (rdr_set (rdr_set (rdr_set (rdr_set HR.out (by omega)) (by omega)) (by omega)) (by omega)).more (by omega)
              · exact grown_set_up (grown_set_up (grown_set_up (grown_set_up HG.out (by omega)) (by omega)) (by omega)) (by omega)
            ·
              have HC2 := Lib.hid (box_four HL.out.box).1.2.2.1
              have hne : b ≠ g := hbg
              go_wp2_with fail
              refine wp_region_typed 8 (by kernel_rfl) (by kernel_rfl) (DW ws B g (q + 95)) (Kp g) (fun i => ([tIs (.pointer (some ⟨b, 2, none⟩)), tIs (.slice A l.path.length c), tRow g 5 (cTxt 100 5), tIs (.pointer (some ⟨g, 0, none⟩)), tNum 5, tAdrS g 100, tTxt 100, tOneS g 100] : List Ty).getD i tAny) ?hW3 ?hkeep3 ?hstep3 ?hfin3
              case hkeep3 =>
                refine all_lt_succ (all_lt_succ (all_lt_succ (all_lt_succ (all_lt_succ (all_lt_succ (all_lt_succ (all_lt_succ all_lt_zero ?_) ?_) ?_) ?_) ?_) ?_) ?_) ?_
                · exact stays_is _
                · exact stays_is _
                · exact stays_row _ _
                · exact stays_is _
                · exact stays_num _
                · exact stays_adrS _
                · exact stays_txt _
                · exact stays_tOneS
              case hstep3 =>
                refine all_lt_succ (all_lt_succ (all_lt_succ (all_lt_succ (all_lt_succ (all_lt_succ (all_lt_succ (all_lt_succ all_lt_zero ?_) ?_) ?_) ?_) ?_) ?_) ?_) ?_
                · (intro o ho m a w1 hm hW hb hd K Q hK; obtain rfl := Option.some.inj ho; have e0 : a.tmps[5]?.getD undef = .pointer (some ⟨b, 0, none⟩) := (by rw [hb 5 (by decide +kernel)]; simp); go_simp; exact hK _ _ hW.same (kp_refl _) rfl)
                · (intro o ho m a w1 hm hW hb hd K Q hK; obtain rfl := Option.some.inj ho; have e1 := slotE (hd 0 (by kernel_rfl) 72 rfl); have hcw := kp_cell hW.2 hne HC2.out; go_simp; exact hK _ _ hW.same (kp_refl _) rfl)
                · (intro o ho m a w1 hm hW hb hd K Q hK; obtain rfl := Option.some.inj ho; go_simp; exact hK _ _ (hW.next ((Below.refl _ _).alloc (Nat.le_refl _) _)) (kp_below ((Below.refl _ _).alloc (Nat.le_refl _) _)) ⟨_, _, _, _, rfl, hW.new, heap_alloc_new w1 _, by decide +kernel⟩)
                · (intro o ho m a w1 hm hW hb hd K Q hK; obtain rfl := Option.some.inj ho; have e0 : a.tmps[0]?.getD undef = (.pointer (some ⟨g, 0, none⟩)) := (by rw [hb 0 (by decide +kernel)]; simp); go_simp; exact hK _ _ hW.same (kp_refl _) rfl)
                · (intro o ho m a w1 hm hW hb hd K Q hK; obtain rfl := Option.some.inj ho; have e1 := slotE (hd 3 (by kernel_rfl) 75 rfl); go_simp; refine (spec_pick _ _ _ _ w1 hW.1 (by omega) (by omega) (by omega)).mono ?_; rintro e w2 ⟨k, rfl, hk, hr2, hg2⟩; exact hK _ _ ⟨hr2.more (by omega), grown_trans hW.2 hg2⟩ hg2 ⟨k, rfl, hk⟩)
                · (intro o ho m a w1 hm hW hb hd K Q hK; obtain rfl := Option.some.inj ho; obtain ⟨b, cs, t, fr, e1, hbg, hh, hC⟩ := (hd 2 (by kernel_rfl) 74 rfl); obtain ⟨k, e2, hk⟩ := (hd 4 (by kernel_rfl) 76 rfl); have e1 := slotE e1; have e2 := slotE e2; have hk2 := num_lt hk (by omega); go_simp; exact hK _ _ hW.same (kp_refl _) (row_txt hbg hh hC (by omega)))
                · (intro o ho m a w1 hm hW hb hd K Q hK; obtain rfl := Option.some.inj ho; obtain ⟨b, o, x, e1, hbg, hc, hx⟩ := (hd 5 (by kernel_rfl) 77 rfl); have e1 := slotE e1; go_simp; exact hK _ _ hW.same (kp_refl _) ⟨x, rfl, hx⟩)
                · (intro o ho m a w1 hm hW hb hd K Q hK; obtain rfl := Option.some.inj ho; obtain ⟨x, e1, hx⟩ := (hd 6 (by kernel_rfl) 78 rfl); have e1 := slotE e1; go_simp; exact hK _ _ (hW.next ((Below.refl _ _).alloc (Nat.le_refl _) _)) (kp_below ((Below.refl _ _).alloc (Nat.le_refl _) _)) ⟨_, x, rfl, hW.new, heap_alloc_new w1 _, hx⟩)
              case hW3 => exact ⟨(HR.out.keep (Below.refl _ _).drew).more (by omega), grown_drew (grown_refl _ _)⟩
              case hfin3 =>
                intro vs w3 hW hF
                simp only [putAll, hdst, List.getElem?_cons_succ, List.getElem?_cons_zero, Option.bind, List.drop_succ_cons, List.drop_zero, Act.put]
                have h1 : vs 1 = .slice A l.path.length c := hF 1 (by omega)
                obtain ⟨b2, x2, h7, hbg2, hh2, hx2⟩ := hF 7 (by omega)
                rw [h1, h7]
                obtain ⟨hr3, hg3⟩ := hW
                have HL3 := Lib.hid (HL.out.grow hg3)
                have HR3 := Lib.hid hr3
                have HG3 := Lib.hid (grown_trans HG.out hg3)
                have hsz3 := HL3.out.size
                have hl9 := HS.out.2
                clear hF h1 h7 hr3 hg3
                go_simp
                go_wp2_with (at_builtin; refine app_str_at rfl _ _ rfl (b + 1) A c l.path x2 (by rfl) HL3.out.own b2 (by rfl) hh2 ?_ ?_ ?_; (focus omega); (focus omega); intro A6 c6 w6 ho6 hg6; obtain ⟨⟨f0, f1, f2, f3⟩, f4, f5, f6, f7⟩ := box_four (HL3.out.boxApp hg6); obtain ⟨⟨r0, r1, r2, r3⟩, r4, r5, r6, r7⟩ := box_four (HL3.out.app ho6 hg6 (.slice A6 (l.path.length + 1) c6) (by simp)).res; obtain ⟨⟨p0, p1, p2, p3⟩, -⟩ := box_four (HL3.out.app ho6 hg6 (.slice A6 (l.path.length + 1) c6) (by simp)).box)
                have HL := Lib.hid (HL3.out.app ho6 hg6 (.slice A6 (l.path.length + 1) c6) (by simp))
                have HR := Lib.hid (rdr_set (o := 2) (u := .slice A6 (l.path.length + 1) c6) (k := b) (HR3.out.frame hg6 (own_lt HL3.out.own (by have h2 := HL.out.lt; have h3 := HL.out.old; omega))) (by have h2 := HL.out.lt; have h3 := HL.out.old; omega))
                have HG := Lib.hid (grown_set_up (o := 2) (u := .slice A6 (l.path.length + 1) c6) (k := b) (grown_own HG3.out hg6 (by have h2 := HL.out.lt; omega) (ownS_row HL3.out.own)) (by have h2 := HL.out.lt; omega))
                refine bodyPost_ret (v := lcV { l with path := l.path ++ [x2] } A6 c6) (by simp [results, Tryd.results13, go_sem, *]) rfl ?_
                have HZ := HL.out
                have HN := HZ.lt
                have HO := HZ.old
                refine ⟨A6, c6, { l with path := l.path ++ [x2] }, rfl, ?_, ⟨HS.out.1.1, HS.out.1.2.1, HS.out.1.2.2.1, shortS_snoc HS.out.1.2.2.2 hx2⟩, by simp; omega, ?_, ?_⟩
                · exact own_off (own_off (own_off (own_off (own_base HZ.own (b := w.heap.size + 1) (by omega)) (by omega)) (by omega)) (by omega)) (by omega) |> fun h => own_base h (by omega)
                · exact (rdr_set (rdr_set (rdr_set (rdr_set HR.out (by omega)) (by omega)) (by omega)) (by omega)).more (by omega)
                · exact grown_set_up (grown_set_up (grown_set_up (grown_set_up HG.out (by omega)) (by omega)) (by omega)) (by omega)
            ·
              go_wp2_with fail
              refine (spec_pick B g _ 2 _ (HR.out.keep ((Below.refl _ _).alloc (Nat.le_refl _) _)) (by omega) (by omega) (by omega)).mono ?_
              rintro e w7 ⟨k7, rfl, hk7, hr7, hg7⟩
              have hsz7 : ws.heap.size < w7.heap.size := by have := hg7.size; simp at this; omega
              have hlit : w7.heap[ws.heap.size]? = _ := (hg7.block ws.heap.size (by simp) (by have h1 := HL.out.size; have h2 := HL.out.lt; have h3 := HL.out.old; simp; omega)).trans (heap_alloc_new ws _)
              obtain ⟨x7, hx7c, hx7⟩ := lit_str (k := k7) (B := 100) (n := 2) hlit (by decide +kernel) (by rcases hk7 with hk7 | hk7 <;> omega)
              have HL7 := Lib.hid ((HL.out.alloc _).grow hg7)
              have HR7 := Lib.hid hr7
              have HG7 := Lib.hid (grown_trans (grown_alloc HG.out _) hg7)
              clear hlit hr7 hg7
              obtain ⟨⟨f0, f1, f2, f3⟩, f4, f5, f6, f7⟩ := box_four HL7.out.box
              have HSX : Hid (SmL { l with qu := x7 } ∧ ({ l with qu := x7 } : Lc).path.length ≤ 9) := ⟨⟨HS.out.1.1, HS.out.1.2.1, hx7, HS.out.1.2.2.2⟩, HS.out.2⟩
              have HLX := Lib.hid (HL7.out.set 3 (sv x7) (l' := { l with qu := x7 }) rfl rfl)
              have HRX := Lib.hid (rdr_set (o := 3) (u := sv x7) (k := b) HR7.out (by have h2 := HL.out.lt; have h3 := HL.out.old; omega))
              have HGX := Lib.hid (grown_set_up (o := 3) (u := sv x7) (k := b) HG7.out (by have h2 := HL.out.lt; omega))
              generalize ({ l with qu := x7 } : Lc) = l at HLX HSX
              have HL := HLX
              have HS := HSX
              have HR := HRX
              have HG := HGX
              clear HLX HSX HRX HGX
              obtain ⟨⟨f0, f1, f2, f3⟩, f4, f5, f6, f7⟩ := box_four HL.out.box
              obtain ⟨⟨r0, r1, r2, r3⟩, r4, r5, r6, r7⟩ := box_four HL.out.res
              go_wp2
              refine bodyPost_ret (v := lcV l A c) (by simp [results, Tryd.results13, go_sem, *]) rfl ?_
              have HZ := HL.out
              have HN := HZ.lt
              have HO := HZ.old
              refine ⟨A, c, l, rfl, ?_, HS.out.1, by have := HS.out.2; omega, ?_, ?_⟩
              · exact own_off (own_off (own_off (own_off (own_base HZ.own (b := w.heap.size + 1) (by omega)) (by omega)) (by omega)) (by omega)) (by omega) |> fun h => own_base h (by omega)
              · exact (rdr_set (rdr_set (rdr_set (rdr_set HR.out (by omega)) (by omega)) (by omega)) (by omega)).more (by omega)
              · exact grown_set_up (grown_set_up (grown_set_up (grown_set_up HG.out (by omega)) (by omega)) (by omega)) (by omega)
        · have h1' : ((k1 : Int) == 0) = false := by simp; omega
          clear h1
          go_wp2_with fail
          refine (spec_odd B g _ n _ HR.out (by omega) hn hn0).mono ?_
          rintro e ws ⟨bo, rfl, hr1, hg1⟩
          have HL := Lib.hid (HL.out.grow hg1)
          have HG := Lib.hid (grown_trans HG.out hg1)
          have HR := Lib.hid (hr1.more (q' := q + 90) (by omega))
          clear hr1 hg1
          cases bo
          ·
            obtain ⟨⟨f0, f1, f2, f3⟩, f4, f5, f6, f7⟩ := box_four HL.out.box
            obtain ⟨⟨r0, r1, r2, r3⟩, r4, r5, r6, r7⟩ := box_four HL.out.res
            go_wp2
            refine bodyPost_ret (v := lcV l A c) (by simp [results, Tryd.results13, go_sem, *]) rfl ?_
            have HZ := HL.out
            have HN := HZ.lt
            have HO := HZ.old
            refine ⟨A, c, l, rfl, ?_, HS.out.1, by have := HS.out.2; omega, ?_, ?_⟩
            · exact own_off (own_off (own_off (own_off (own_base HZ.own (b := w.heap.size + 1) (by omega)) (by omega)) (by omega)) (by omega)) (by omega) |> fun h => own_base h (by omega)
            · exact (rdr_set (rdr_set (rdr_set (rdr_set HR.out (by omega)) (by omega)) (by omega)) (by omega)).more (by omega)
            · exact grown_set_up (grown_set_up (grown_set_up (grown_set_up HG.out (by omega)) (by omega)) (by omega)) (by omega)
          ·
            go_wp2_with fail
            refine (spec_pick B g _ 4 _ HR.out (by omega) (by omega) (by omega)).mono ?_
            rintro e ws ⟨k9, rfl, hk9, hr1, hg1⟩
            have HL := Lib.hid (HL.out.grow hg1)
            have HG := Lib.hid (grown_trans HG.out hg1)
            have HR := Lib.hid (hr1.more (q' := q + 95) (by omega))
            clear hr1 hg1 hk9
            obtain rfl | rfl | rfl | ⟨n0, n1, n2⟩ : k9 = 0 ∨ k9 = 1 ∨ k9 = 2 ∨ (((k9 : Int) == 0) = false ∧ ((k9 : Int) == 1) = false ∧ ((k9 : Int) == 2) = false) := by
              by_cases h0 : k9 = 0
              · exact .inl h0
              · by_cases h1 : k9 = 1
                · exact .inr (.inl h1)
                · by_cases h2 : k9 = 2
                  · exact .inr (.inr (.inl h2))
                  · exact .inr (.inr (.inr ⟨by simp; omega, by simp; omega, by simp; omega⟩))
            ·
              go_wp2_with fail
              refine (spec_pick B g _ 3 _ (HR.out.keep ((Below.refl _ _).alloc (Nat.le_refl _) _)) (by omega) (by omega) (by omega)).mono ?_
              rintro e w7 ⟨k7, rfl, hk7, hr7, hg7⟩
              have hsz7 : ws.heap.size < w7.heap.size := by have := hg7.size; simp at this; omega
              have hlit : w7.heap[ws.heap.size]? = _ := (hg7.block ws.heap.size (by simp) (by have h1 := HL.out.size; have h2 := HL.out.lt; have h3 := HL.out.old; simp; omega)).trans (heap_alloc_new ws _)
              obtain ⟨x7, hx7c, hx7⟩ := lit_str (k := k7) (B := 100) (n := 3) hlit (by decide +kernel) (by rcases hk7 with hk7 | hk7 <;> omega)
              have HL7 := Lib.hid ((HL.out.alloc _).grow hg7)
              have HR7 := Lib.hid hr7
              have HG7 := Lib.hid (grown_trans (grown_alloc HG.out _) hg7)
              clear hlit hr7 hg7
              obtain ⟨⟨f0, f1, f2, f3⟩, f4, f5, f6, f7⟩ := box_four HL7.out.box
              have HSX : Hid (SmL { l with sch := x7 } ∧ ({ l with sch := x7 } : Lc).path.length ≤ 9) := ⟨⟨hx7, HS.out.1.2.1, HS.out.1.2.2.1, HS.out.1.2.2.2⟩, HS.out.2⟩
              have HLX := Lib.hid (HL7.out.set 0 (sv x7) (l' := { l with sch := x7 }) rfl rfl)
              have HRX := Lib.hid (rdr_set (o := 0) (u := sv x7) (k := b) HR7.out (by have h2 := HL.out.lt; have h3 := HL.out.old; omega))
              have HGX := Lib.hid (grown_set_up (o := 0) (u := sv x7) (k := b) HG7.out (by have h2 := HL.out.lt; omega))
              generalize ({ l with sch := x7 } : Lc) = l at HLX HSX
              have HL := HLX
              have HS := HSX
              have HR := HRX
              have HG := HGX
              clear HLX HSX HRX HGX
              obtain ⟨⟨f0, f1, f2, f3⟩, f4, f5, f6, f7⟩ := box_four HL.out.box
              obtain ⟨⟨r0, r1, r2, r3⟩, r4, r5, r6, r7⟩ := box_four HL.out.res
              go_wp2
              refine bodyPost_ret (v := lcV l A c) (by simp [results, Tryd.results13, go_sem, *]) rfl ?_
              have HZ := HL.out
              have HN := HZ.lt
              have HO := HZ.old
              refine ⟨A, c, l, rfl, ?_, HS.out.1, by have := HS.out.2; omega, ?_, ?_⟩
              · exact own_off (own_off (own_off (own_off (own_base HZ.own (b := w.heap.size + 1) (by omega)) (by omega)) (by omega)) (by omega)) (by omega) |> fun h => own_base h (by omega)
              · exact (rdr_set (rdr_set (rdr_set (rdr_set HR.out (by omega)) (by omega)) (by omega)) (by omega)).more (by omega)
              · exact grown_set_up (grown_set_up (grown_set_up (grown_set_up HG.out (by omega)) (by omega)) (by omega)) (by omega)
            ·
              go_wp2_with fail
              refine (spec_pick B g _ 3 _ (HR.out.keep ((Below.refl _ _).alloc (Nat.le_refl _) _)) (by omega) (by omega) (by omega)).mono ?_
              rintro e w7 ⟨k7, rfl, hk7, hr7, hg7⟩
              have hsz7 : ws.heap.size < w7.heap.size := by have := hg7.size; simp at this; omega
              have hlit : w7.heap[ws.heap.size]? = _ := (hg7.block ws.heap.size (by simp) (by have h1 := HL.out.size; have h2 := HL.out.lt; have h3 := HL.out.old; simp; omega)).trans (heap_alloc_new ws _)
              obtain ⟨x7, hx7c, hx7⟩ := lit_str (k := k7) (B := 100) (n := 3) hlit (by decide +kernel) (by rcases hk7 with hk7 | hk7 <;> omega)
              have HL7 := Lib.hid ((HL.out.alloc _).grow hg7)
              have HR7 := Lib.hid hr7
              have HG7 := Lib.hid (grown_trans (grown_alloc HG.out _) hg7)
              clear hlit hr7 hg7
              obtain ⟨⟨f0, f1, f2, f3⟩, f4, f5, f6, f7⟩ := box_four HL7.out.box
              have HSX : Hid (SmL { l with host := x7 } ∧ ({ l with host := x7 } : Lc).path.length ≤ 9) := ⟨⟨HS.out.1.1, hx7, HS.out.1.2.2.1, HS.out.1.2.2.2⟩, HS.out.2⟩
              have HLX := Lib.hid (HL7.out.set 1 (sv x7) (l' := { l with host := x7 }) rfl rfl)
              have HRX := Lib.hid (rdr_set (o := 1) (u := sv x7) (k := b) HR7.out (by have h2 := HL.out.lt; have h3 := HL.out.old; omega))
              have HGX := Lib.hid (grown_set_up (o := 1) (u := sv x7) (k := b) HG7.out (by have h2 := HL.out.lt; omega))
              generalize ({ l with host := x7 } : Lc) = l at HLX HSX
              have HL := HLX
              have HS := HSX
              have HR := HRX
              have HG := HGX
              clear HLX HSX HRX HGX
              obtain ⟨⟨f0, f1, f2, f3⟩, f4, f5, f6, f7⟩ := box_four HL.out.box
              obtain ⟨⟨r0, r1, r2, r3⟩, r4, r5, r6, r7⟩ := box_four HL.out.res
              go_wp2
              refine bodyPost_ret (v := lcV l A c) (by simp [results, Tryd.results13, go_sem, *]) rfl ?_
              have HZ := HL.out
              have HN := HZ.lt
              have HO := HZ.old
              refine ⟨A, c, l, rfl, ?_, HS.out.1, by have := HS.out.2; omega, ?_, ?_⟩
              · exact own_off (own_off (own_off (own_off (own_base HZ.own (b := w.heap.size + 1) (by omega)) (by omega)) (by omega)) (by omega)) (by omega) |> fun h => own_base h (by omega)
              · exact (rdr_set (rdr_set (rdr_set (rdr_set HR.out (by omega)) (by omega)) (by omega)) (by omega)).more (by omega)
              · exact grown_set_up (grown_set_up (grown_set_up (grown_set_up HG.out (by omega)) (by omega)) (by omega)) (by omega)
            ·
              have HC2 := Lib.hid (box_four HL.out.box).1.2.2.1
              have hne : b ≠ g := hbg
              go_wp2_with fail
              refine wp_region_typed 8 (by kernel_rfl) (by kernel_rfl) (DW ws B g (q + 95)) (Kp g) (fun i => ([tIs (.pointer (some ⟨b, 2, none⟩)), tIs (.slice A l.path.length c), tRow g 5 (cTxt 100 5), tIs (.pointer (some ⟨g, 0, none⟩)), tNum 5, tAdrS g 100, tTxt 100, tOneS g 100] : List Ty).getD i tAny) ?hW4 ?hkeep4 ?hstep4 ?hfin4
              case hkeep4 =>
                refine all_lt_succ (all_lt_succ (all_lt_succ (all_lt_succ (all_lt_succ (all_lt_succ (all_lt_succ (all_lt_succ all_lt_zero ?_) ?_) ?_) ?_) ?_) ?_) ?_) ?_
                · exact stays_is _
                · exact stays_is _
                · exact stays_row _ _
                · exact stays_is _
                · exact stays_num _
                · exact stays_adrS _
                · exact stays_txt _
                · exact stays_tOneS
              case hstep4 =>
                refine all_lt_succ (all_lt_succ (all_lt_succ (all_lt_succ (all_lt_succ (all_lt_succ (all_lt_succ (all_lt_succ all_lt_zero ?_) ?_) ?_) ?_) ?_) ?_) ?_) ?_
                · (intro o ho m a w1 hm hW hb hd K Q hK; obtain rfl := Option.some.inj ho; have e0 : a.tmps[5]?.getD undef = .pointer (some ⟨b, 0, none⟩) := (by rw [hb 5 (by decide +kernel)]; simp); go_simp; exact hK _ _ hW.same (kp_refl _) rfl)
                · (intro o ho m a w1 hm hW hb hd K Q hK; obtain rfl := Option.some.inj ho; have e1 := slotE (hd 0 (by kernel_rfl) 72 rfl); have hcw := kp_cell hW.2 hne HC2.out; go_simp; exact hK _ _ hW.same (kp_refl _) rfl)
                · (intro o ho m a w1 hm hW hb hd K Q hK; obtain rfl := Option.some.inj ho; go_simp; exact hK _ _ (hW.next ((Below.refl _ _).alloc (Nat.le_refl _) _)) (kp_below ((Below.refl _ _).alloc (Nat.le_refl _) _)) ⟨_, _, _, _, rfl, hW.new, heap_alloc_new w1 _, by decide +kernel⟩)
                · (intro o ho m a w1 hm hW hb hd K Q hK; obtain rfl := Option.some.inj ho; have e0 : a.tmps[0]?.getD undef = (.pointer (some ⟨g, 0, none⟩)) := (by rw [hb 0 (by decide +kernel)]; simp); go_simp; exact hK _ _ hW.same (kp_refl _) rfl)
                · (intro o ho m a w1 hm hW hb hd K Q hK; obtain rfl := Option.some.inj ho; have e1 := slotE (hd 3 (by kernel_rfl) 75 rfl); go_simp; refine (spec_pick _ _ _ _ w1 hW.1 (by omega) (by omega) (by omega)).mono ?_; rintro e w2 ⟨k, rfl, hk, hr2, hg2⟩; exact hK _ _ ⟨hr2.more (by omega), grown_trans hW.2 hg2⟩ hg2 ⟨k, rfl, hk⟩)
                · (intro o ho m a w1 hm hW hb hd K Q hK; obtain rfl := Option.some.inj ho; obtain ⟨b, cs, t, fr, e1, hbg, hh, hC⟩ := (hd 2 (by kernel_rfl) 74 rfl); obtain ⟨k, e2, hk⟩ := (hd 4 (by kernel_rfl) 76 rfl); have e1 := slotE e1; have e2 := slotE e2; have hk2 := num_lt hk (by omega); go_simp; exact hK _ _ hW.same (kp_refl _) (row_txt hbg hh hC (by omega)))
                · (intro o ho m a w1 hm hW hb hd K Q hK; obtain rfl := Option.some.inj ho; obtain ⟨b, o, x, e1, hbg, hc, hx⟩ := (hd 5 (by kernel_rfl) 77 rfl); have e1 := slotE e1; go_simp; exact hK _ _ hW.same (kp_refl _) ⟨x, rfl, hx⟩)
                · (intro o ho m a w1 hm hW hb hd K Q hK; obtain rfl := Option.some.inj ho; obtain ⟨x, e1, hx⟩ := (hd 6 (by kernel_rfl) 78 rfl); have e1 := slotE e1; go_simp; exact hK _ _ (hW.next ((Below.refl _ _).alloc (Nat.le_refl _) _)) (kp_below ((Below.refl _ _).alloc (Nat.le_refl _) _)) ⟨_, x, rfl, hW.new, heap_alloc_new w1 _, hx⟩)
              case hW4 => exact ⟨(HR.out.keep (Below.refl _ _).drew).more (by omega), grown_drew (grown_refl _ _)⟩
              case hfin4 =>
                intro vs w3 hW hF
                simp only [putAll, hdst, List.getElem?_cons_succ, List.getElem?_cons_zero, Option.bind, List.drop_succ_cons, List.drop_zero, Act.put]
                have h1 : vs 1 = .slice A l.path.length c := hF 1 (by omega)
                obtain ⟨b2, x2, h7, hbg2, hh2, hx2⟩ := hF 7 (by omega)
                rw [h1, h7]
                obtain ⟨hr3, hg3⟩ := hW
                have HL3 := Lib.hid (HL.out.grow hg3)
                have HR3 := Lib.hid hr3
                have HG3 := Lib.hid (grown_trans HG.out hg3)
                have hsz3 := HL3.out.size
                have hl9 := HS.out.2
                clear hF h1 h7 hr3 hg3
                go_simp
                go_wp2_with (at_builtin; refine app_str_at rfl _ _ rfl (b + 1) A c l.path x2 (by rfl) HL3.out.own b2 (by rfl) hh2 ?_ ?_ ?_; (focus omega); (focus omega); intro A6 c6 w6 ho6 hg6; obtain ⟨⟨f0, f1, f2, f3⟩, f4, f5, f6, f7⟩ := box_four (HL3.out.boxApp hg6); obtain ⟨⟨r0, r1, r2, r3⟩, r4, r5, r6, r7⟩ := box_four (HL3.out.app ho6 hg6 (.slice A6 (l.path.length + 1) c6) (by simp)).res; obtain ⟨⟨p0, p1, p2, p3⟩, -⟩ := box_four (HL3.out.app ho6 hg6 (.slice A6 (l.path.length + 1) c6) (by simp)).box)
                have HL := Lib.hid (HL3.out.app ho6 hg6 (.slice A6 (l.path.length + 1) c6) (by simp))
                have HR := Lib.hid (rdr_set (o := 2) (u := .slice A6 (l.path.length + 1) c6) (k := b) (HR3.out.frame hg6 (own_lt HL3.out.own (by have h2 := HL.out.lt; have h3 := HL.out.old; omega))) (by have h2 := HL.out.lt; have h3 := HL.out.old; omega))
                have HG := Lib.hid (grown_set_up (o := 2) (u := .slice A6 (l.path.length + 1) c6) (k := b) (grown_own HG3.out hg6 (by have h2 := HL.out.lt; omega) (ownS_row HL3.out.own)) (by have h2 := HL.out.lt; omega))
                refine bodyPost_ret (v := lcV { l with path := l.path ++ [x2] } A6 c6) (by simp [results, Tryd.results13, go_sem, *]) rfl ?_
                have HZ := HL.out
                have HN := HZ.lt
                have HO := HZ.old
                refine ⟨A6, c6, { l with path := l.path ++ [x2] }, rfl, ?_, ⟨HS.out.1.1, HS.out.1.2.1, HS.out.1.2.2.1, shortS_snoc HS.out.1.2.2.2 hx2⟩, by simp; omega, ?_, ?_⟩
                · exact own_off (own_off (own_off (own_off (own_base HZ.own (b := w.heap.size + 1) (by omega)) (by omega)) (by omega)) (by omega)) (by omega) |> fun h => own_base h (by omega)
                · exact (rdr_set (rdr_set (rdr_set (rdr_set HR.out (by omega)) (by omega)) (by omega)) (by omega)).more (by omega)
                · exact grown_set_up (grown_set_up (grown_set_up (grown_set_up HG.out (by omega)) (by omega)) (by omega)) (by omega)
            ·
              go_wp2_with fail
              refine (spec_pick B g _ 2 _ (HR.out.keep ((Below.refl _ _).alloc (Nat.le_refl _) _)) (by omega) (by omega) (by omega)).mono ?_
              rintro e w7 ⟨k7, rfl, hk7, hr7, hg7⟩
              have hsz7 : ws.heap.size < w7.heap.size := by have := hg7.size; simp at this; omega
              have hlit : w7.heap[ws.heap.size]? = _ := (hg7.block ws.heap.size (by simp) (by have h1 := HL.out.size; have h2 := HL.out.lt; have h3 := HL.out.old; simp; omega)).trans (heap_alloc_new ws _)
              obtain ⟨x7, hx7c, hx7⟩ := lit_str (k := k7) (B := 100) (n := 2) hlit (by decide +kernel) (by rcases hk7 with hk7 | hk7 <;> omega)
              have HL7 := Lib.hid ((HL.out.alloc _).grow hg7)
              have HR7 := Lib.hid hr7
              have HG7 := Lib.hid (grown_trans (grown_alloc HG.out _) hg7)
              clear hlit hr7 hg7
              obtain ⟨⟨f0, f1, f2, f3⟩, f4, f5, f6, f7⟩ := box_four HL7.out.box
              have HSX : Hid (SmL { l with qu := x7 } ∧ ({ l with qu := x7 } : Lc).path.length ≤ 9) := ⟨⟨HS.out.1.1, HS.out.1.2.1, hx7, HS.out.1.2.2.2⟩, HS.out.2⟩
              have HLX := Lib.hid (HL7.out.set 3 (sv x7) (l' := { l with qu := x7 }) rfl rfl)
              have HRX := Lib.hid (rdr_set (o := 3) (u := sv x7) (k := b) HR7.out (by have h2 := HL.out.lt; have h3 := HL.out.old; omega))
              have HGX := Lib.hid (grown_set_up (o := 3) (u := sv x7) (k := b) HG7.out (by have h2 := HL.out.lt; omega))
              generalize ({ l with qu := x7 } : Lc) = l at HLX HSX
              have HL := HLX
              have HS := HSX
              have HR := HRX
              have HG := HGX
              clear HLX HSX HRX HGX
              obtain ⟨⟨f0, f1, f2, f3⟩, f4, f5, f6, f7⟩ := box_four HL.out.box
              obtain ⟨⟨r0, r1, r2, r3⟩, r4, r5, r6, r7⟩ := box_four HL.out.res
              go_wp2
              refine bodyPost_ret (v := lcV l A c) (by simp [results, Tryd.results13, go_sem, *]) rfl ?_
              have HZ := HL.out
              have HN := HZ.lt
              have HO := HZ.old
              refine ⟨A, c, l, rfl, ?_, HS.out.1, by have := HS.out.2; omega, ?_, ?_⟩
              · exact own_off (own_off (own_off (own_off (own_base HZ.own (b := w.heap.size + 1) (by omega)) (by omega)) (by omega)) (by omega)) (by omega) |> fun h => own_base h (by omega)
              · exact (rdr_set (rdr_set (rdr_set (rdr_set HR.out (by omega)) (by omega)) (by omega)) (by omega)).more (by omega)
              · exact grown_set_up (grown_set_up (grown_set_up (grown_set_up HG.out (by omega)) (by omega)) (by omega)) (by omega)
end Go.Proofs.YtjlaelkdmgcniaaDoor

/- samePairs of the laws: a walk. -/
namespace Go.Proofs.YtjlaelkdmgcniaaDoor
open Go.RowKit

end Go.Proofs.YtjlaelkdmgcniaaDoor

namespace Go.Proofs.YtjlaelkdmgcniaaDoor
open Go.RowKit

/-- the call drew a location of its own -/
def DrewL (w : World) (e : Ending) (w' : World) : Prop :=
  ∃ A c l, e = .returned (lcV l A c) ∧ OwnS w' w.heap.size A c l.path ∧ SmL l ∧ l.path.length ≤ 10 ∧ Below w.heap.size w w'
theorem smL_fit {l : Lc} (h : SmL l) (hn : l.path.length ≤ 10) : FitL l :=
  ⟨by have := h.1; omega, by have := h.2.1; omega, by have := h.2.2.1; omega, by omega, fun x hx => by have := h.2.2.2 x hx; omega⟩
theorem bx_keep {w w' : World} {b : Nat} {o : Obj} (h : w.heap[b]? = some o) (hb : Below w.heap.size w w') : w'.heap[b]? = some o := by
  refine (hb.block b ?_).trans h
  rcases Nat.lt_or_ge b w.heap.size with h1 | h1
  · exact h1
  · rw [Array.getElem?_eq_none h1] at h; cases h

end Go.Proofs.YtjlaelkdmgcniaaDoor
