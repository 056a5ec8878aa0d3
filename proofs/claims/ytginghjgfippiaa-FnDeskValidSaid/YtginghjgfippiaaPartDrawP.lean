/- Parts while they are drawn: rows of parts of the call's own. No function of the program is walked here. -/
import Derived.Test.YtginghjgfippiaaDrawS
import Derived.Test.YtginghjgfippiaaPartT
import Derived.Maps.AppendAt
namespace Go.Proofs.Ytginghjgfippiaa
open Go.RowKit

/-- what a part's five cells hold -/
structure Raw where
  k : Int
  t : Tx
  n : Tx
  Ap : Option Addr
  lp : Nat
  cp : Nat
  Ao : Option Addr
  lo : Nat
  co : Nat
abbrev Raw.v (r : Raw) : Value := ptV r.k r.t r.n r.Ap r.lp r.cp r.Ao r.lo r.co
abbrev Raw.cs (r : Raw) : List Value := [.int .i64 r.k, sv r.t, sv r.n, .slice r.Ap r.lp r.cp, .slice r.Ao r.lo r.co]
def rcells : List Raw → List Value
  | [] => []
  | r :: s => r.cs ++ rcells s
theorem rcells_length : ∀ rs : List Raw, (rcells rs).length = rs.length * 5
  | [] => rfl
  | r :: s => by simp [rcells, rcells_length s]; omega
theorem rcells_append : ∀ rs ss : List Raw, rcells (rs ++ ss) = rcells rs ++ rcells ss
  | [], _ => rfl
  | r :: s, ss => by simp [rcells, rcells_append s ss]
theorem rcells_get : ∀ (rs : List Raw) (i : Nat) (r : Raw) (j : Nat), rs[i]? = some r → j < 5 → (rcells rs)[i * 5 + j]? = r.cs[j]?
  | x :: s, 0, r, j, h, hj => by
    simp at h
    subst h
    simp only [rcells, Nat.zero_mul, Nat.zero_add]
    rw [List.getElem?_append_left (by simpa using hj)]
  | x :: s, i + 1, r, j, h, hj => by
    have := rcells_get s i r j (by simpa using h) hj
    simp only [rcells]
    rw [List.getElem?_append_right (by simp; omega), show (i + 1) * 5 + j - x.cs.length = i * 5 + j by simp; omega]
    exact this
theorem rcells_set : ∀ (rs : List Raw) (i : Nat) (r : Raw) (t : Tx), rs[i]? = some r → (rcells rs).set (i * 5 + 1) (sv t) = rcells (rs.set i { r with t := t })
  | x :: s, 0, r, t, h => by
    simp at h
    subst h
    simp [rcells]
  | x :: s, i + 1, r, t, h => by
    have := rcells_set s i r t (by simpa using h)
    simp only [rcells, List.set_cons_succ]
    rw [← this, List.set_append_right _ _ (by simp; omega)]
    congr 2
    simp
    omega
theorem rcells_val (rs : List Raw) : ∀ z ∈ rcells rs, z.oneCell' = true := by
  intro z hz
  induction rs with
  | nil => simp [rcells] at hz
  | cons r s ih =>
    simp only [rcells, List.mem_append] at hz
    rcases hz with hz | hz
    · simp at hz
      rcases hz with rfl | rfl | rfl | rfl | rfl <;> rfl
    · exact ih hz
/-- parts in a row of the call's own -/
def OwnN (w : World) (base : Nat) (A : Option Addr) (c : Nat) (rs : List Raw) : Prop := w.ownsRow base 66 5 (.slice A rs.length c) rs.length (rcells rs)
theorem ownN_nil (w : World) (base : Nat) : OwnN w base none 0 [] := World.ownsRow_nil w base _ 5
theorem ownN_row {w : World} {base c : Nat} {A : Option Addr} {rs : List Raw} (h : OwnN w base A c rs) : ∀ g, Value.ownBlock (.slice A rs.length c) = some g → base ≤ g := fun g hg => (h.lt g hg).1
theorem ownN_cap {w : World} {base c : Nat} {A : Option Addr} {rs : List Raw} (h : OwnN w base A c rs) : rs.length ≤ c := by
  obtain ⟨A', c', e, h1, _⟩ := own_shape h
  injection e with _ _ e3
  omega

/-- parts that can be read at a place, appended to parts of the call's own; where the row lies then is told -/
theorem app_parts_at {ops : Array Oper} {rest : List Oper} {o : Oper} {a : Act} {Q : Exit → Act → World → Prop} {W : World} (hgd : o.guard = none) (s x : Operand)
    (ho : o.op = .call { callee := .builtin .append, args := #[s, x], argTypes := #[23, 23] }) (base : Nat) (A : Option Addr) (c : Nat) (rs us : List Raw)
    (hs : a.eval s = .slice A rs.length c) (hown : OwnN W base A c rs) (b o' c' : Nat) (hx : a.eval x = .slice (some ⟨b, o', none⟩) us.length c') (hh : ∀ j u, (rcells us)[j]? = some u → W.cell? ⟨b, o' + j, none⟩ = some u) (hlu : us.length ≤ 4294967296) (hlen : rs.length ≤ 4294967296) (hbase : base ≤ W.heap.size)
    (h : ∀ A' c' w', OwnN w' base A' c' (rs ++ us) → W.grownBy w' (Value.ownBlock (.slice A rs.length c)) → (Value.ownBlock (.slice A' (rs.length + us.length) c') = Value.ownBlock (.slice A rs.length c) ∨ Value.ownBlock (.slice A' (rs.length + us.length) c') = some W.heap.size) → wpList Try.prog ops Q rest (a.put o.dst (.slice A' (rs ++ us).length c')) w') :
    wpList Try.prog ops Q (o :: rest) a W := by
  obtain ⟨i0, hi, hz0, hz1, hz2⟩ := info_parts Try.info_Part
  refine wpList_append_own_at _ hgd s x _ ho base _ i0 _ 5 88 Try.underlying23 hi hz0 hz1 hz2 rfl (by decide) _ _ _ hs hown ⟨b, o', none⟩ us.length c' (rcells us) hx (by rw [rcells_length]) ?_ (rcells_val us) (by unfold maxLen; omega) (by omega) hbase ?_
  · intro j z hj
    rw [Addr.add_lit]
    exact hh j z hj
  · intro v' w' ho' hg' _ hbk
    obtain ⟨A', c', rfl, _, _⟩ := own_shape ho'
    have hl : (rs ++ us).length = rs.length + us.length := by simp
    rw [hl] at h
    refine h A' c' w' ?_ hg' hbk
    unfold OwnN
    rw [List.length_append, rcells_append]
    exact ho'
/-- the cells hold these parts, and what they lead to lies in the blocks S -/
def Els (w : World) (S : Nat → Prop) (rs : List Raw) (xs : List Pt) : Prop := rs.length = xs.length ∧ ∀ (i : Nat) (r : Raw) (x : Pt), rs[i]? = some r → xs[i]? = some x → InP w S x r.v
theorem Els.nil {w : World} {S : Nat → Prop} : Els w S [] [] := ⟨rfl, fun i r x h => by simp at h⟩
theorem Els.keep {w w' : World} {S S' : Nat → Prop} {rs : List Raw} {xs : List Pt} (h : Els w S rs xs) (hk : ∀ p : Addr, S p.block → w'.cell? p = w.cell? p) (hS : ∀ b, S b → S' b) : Els w' S' rs xs :=
  ⟨h.1, fun i r x h1 h2 => InP.keep hk hS _ _ (h.2 i r x h1 h2)⟩
theorem Els.cons {w : World} {S : Nat → Prop} {rs : List Raw} {xs : List Pt} {r : Raw} {x : Pt} (hx : InP w S x r.v) (h : Els w S rs xs) : Els w S (r :: rs) (x :: xs) := by
  refine ⟨by simp [h.1], fun i r2 x2 h1 h2 => ?_⟩
  cases i with
  | zero =>
    simp at h1 h2
    subst h1 h2
    exact hx
  | succ i => exact h.2 i r2 x2 (by simpa using h1) (by simpa using h2)
theorem Els.append {w : World} {S : Nat → Prop} {rs ss : List Raw} {xs ys : List Pt} (h : Els w S rs xs) (hy : Els w S ss ys) : Els w S (rs ++ ss) (xs ++ ys) := by
  refine ⟨by simp [h.1, hy.1], fun i r2 x2 h1 h2 => ?_⟩
  rcases Nat.lt_or_ge i rs.length with hi | hi
  · rw [List.getElem?_append_left hi] at h1
    rw [List.getElem?_append_left (by have := h.1; omega)] at h2
    exact h.2 i r2 x2 h1 h2
  · rw [List.getElem?_append_right hi] at h1
    rw [List.getElem?_append_right (by have := h.1; omega)] at h2
    rw [← h.1] at h2
    exact hy.2 _ r2 x2 h1 h2
theorem Els.set {w : World} {S : Nat → Prop} {rs : List Raw} {xs : List Pt} (h : Els w S rs xs) {i : Nat} {r : Raw} {x : Pt} (hx : InP w S x r.v) : Els w S (rs.set i r) (xs.set i x) := by
  refine ⟨by simp [h.1], fun j r2 x2 h1 h2 => ?_⟩
  rw [List.getElem?_set] at h1 h2
  by_cases hij : i = j
  · subst hij
    rw [if_pos rfl] at h1 h2
    split at h1
    · split at h2
      · injection h1 with h1; injection h2 with h2
        subst h1 h2
        exact hx
      · cases h2
    · cases h1
  · rw [if_neg hij] at h1 h2
    exact h.2 j r2 x2 h1 h2
theorem Els.rdP {w : World} {S : Nat → Prop} {rs : List Raw} {xs : List Pt} {A : Option Addr} {base c : Nat} (h : Els w S rs xs) (ho : OwnN w base A c rs) (hS : ∀ b, Value.ownBlock (.slice A rs.length c) = some b → S b) : RdP w S A xs := fun hne => by
  have hl : 0 < rs.length := by
    rw [h.1]
    rcases Nat.eq_zero_or_pos xs.length with h0 | h0
    · exact absurd (List.eq_nil_of_length_eq_zero h0) hne
    · exact h0
  obtain ⟨g, rfl, h1, h2⟩ := own_some ho hl
  have hrd : Rd w w.heap.size (some ⟨g, 0, none⟩) (rcells rs) := Rd.of_own ho
  obtain ⟨b, o, e, _, hc⟩ := hrd (by intro e; have := rcells_length rs; rw [e] at this; simp at this; omega)
  injection e with e
  injection e with e1 e2
  subst e1
  subst e2
  refine ⟨g, 0, rfl, hS g rfl, InPs.of_get fun i hi => ?_⟩
  have hir : i < rs.length := by rw [h.1]; exact hi
  have hr : rs[i]? = some rs[i] := List.getElem?_eq_getElem hir
  have key : ∀ j (hj : j < 5), w.cell? ⟨g, 0 + i * 5 + j, none⟩ = (rs[i]).cs[j]? := fun j hj => by
    have hg := rcells_get rs i _ j hr hj
    have hv : (rs[i]).cs[j]? = some ((rs[i]).cs[j]'(by simpa using hj)) := List.getElem?_eq_getElem _
    rw [hv, show 0 + i * 5 + j = 0 + (i * 5 + j) by omega]
    exact hc _ _ (hg.trans hv)
  refine ⟨(rs[i]).v, ⟨_, _, _, _, _, rfl, key 0 (by omega), key 1 (by omega), key 2 (by omega), key 3 (by omega), key 4 (by omega)⟩, h.2 i _ _ hr (List.getElem?_eq_getElem hi)⟩
/-- parts in a row of the call's own, and what they lead to in other blocks since B -/
structure PLs (w : World) (B : Nat) (A : Option Addr) (c : Nat) (rs : List Raw) (xs : List Pt) : Prop where
  own : OwnN w B A c rs
  els : Els w (fun j => B ≤ j ∧ j < w.heap.size ∧ Value.ownBlock (.slice A rs.length c) ≠ some j) rs xs
section
variable {w w' : World} {B c : Nat} {A : Option Addr} {rs : List Raw} {xs : List Pt}
theorem PLs.len (h : PLs w B A c rs xs) : rs.length = xs.length := h.els.1
theorem PLs.nil (w : World) (B : Nat) : PLs w B none 0 [] [] := ⟨ownN_nil w B, Els.nil⟩
theorem PLs.base {B' : Nat} (h : PLs w B A c rs xs) (hb : B' ≤ B) : PLs w B' A c rs xs :=
  ⟨own_base h.own hb, h.els.keep (fun _ _ => rfl) (fun _ hj => ⟨Nat.le_trans hb hj.1, hj.2⟩)⟩
theorem PLs.grow {row : Option Nat} (h : PLs w B A c rs xs) (hg : w.grownBy w' row) (hr : ∀ j, row = some j → j < B) : PLs w' B A c rs xs := by
  refine ⟨h.own.kept hg ?_, h.els.keep (fun p hp => World.cell?_of_block (hg.block _ hp.2.1 (fun e => by have := hr _ e.symm; have := hp.1; omega))) (fun _ hj => ⟨hj.1, Nat.lt_of_lt_of_le hj.2.1 hg.size, hj.2.2⟩)⟩
  cases hv : Value.ownBlock (.slice A rs.length c) with
  | none => exact .inl rfl
  | some k => exact .inr fun e => by have := hr _ e.symm; have := ownN_row h.own k hv; omega
theorem PLs.keep (h : PLs w B A c rs xs) (hb : Below w.heap.size w w') : PLs w' B A c rs xs := h.grow (row := none) (below_grownBy hb _) (fun j hj => by cases hj)
theorem PLs.rd (h : PLs w B A c rs xs) : RdP w (fun j => B ≤ j ∧ j < w.heap.size) A xs :=
  (h.els.keep (fun _ _ => rfl) (fun _ hj => ⟨hj.1, hj.2.1⟩)).rdP h.own (fun b hb => h.own.lt b hb)
theorem PLs.cap (h : PLs w B A c rs xs) : rs.length ≤ c := ownN_cap h.own
/-- appended -/
theorem PLs.app (h : PLs w B A c rs xs) {A' : Option Addr} {c' : Nat} {us : List Raw} {ys : List Pt} (ho : OwnN w' B A' c' (rs ++ us)) (hg : w.grownBy w' (Value.ownBlock (.slice A rs.length c)))
    (hbk : Value.ownBlock (.slice A' (rs.length + us.length) c') = Value.ownBlock (.slice A rs.length c) ∨ Value.ownBlock (.slice A' (rs.length + us.length) c') = some w.heap.size)
    (hx : Els w (fun j => B ≤ j ∧ j < w.heap.size ∧ Value.ownBlock (.slice A rs.length c) ≠ some j) us ys) : PLs w' B A' c' (rs ++ us) (xs ++ ys) := by
  refine ⟨ho, (h.els.append hx).keep (fun p hp => World.cell?_of_block (hg.block _ hp.2.1 (fun e => hp.2.2 e.symm))) (fun j hj => ⟨hj.1, Nat.lt_of_lt_of_le hj.2.1 hg.size, ?_⟩)⟩
  rw [List.length_append]
  rcases hbk with e | e
  · rw [e]; exact hj.2.2
  · rw [e]; intro e2; injection e2; omega
/-- copied into a row of its own -/
theorem PLs.copied (h : PLs w B A c rs xs) {A' : Option Addr} {c' : Nat} (ho : OwnN w' B A' c' rs) (hnew : ∀ j, Value.ownBlock (.slice A' rs.length c') = some j → w.heap.size ≤ j) (hk : ∀ j, j < w.heap.size → w'.heap[j]? = w.heap[j]?) (hsz : w.heap.size ≤ w'.heap.size) : PLs w' B A' c' rs xs :=
  ⟨ho, h.els.keep (fun p hp => World.cell?_of_block (hk _ hp.2.1)) (fun _ hj => ⟨hj.1, Nat.lt_of_lt_of_le hj.2.1 hsz, fun e => by have := hnew _ e; have := hj.2.1; omega⟩)⟩
/-- a part's text is written -/
theorem PLs.text {g i : Nat} (h : PLs w B (some ⟨g, 0, none⟩) c rs xs) {r : Raw} {k : Int} {t0 n : Tx} {us vs : List Pt} (hr : rs[i]? = some r) (hx : xs[i]? = some (.mk k t0 n us vs)) (t : Tx) :
    PLs (w.setCell ⟨g, i * 5 + 1, none⟩ (sv t)) B (some ⟨g, 0, none⟩) c (rs.set i { r with t := t }) (xs.set i (.mk k t n us vs)) := by
  have h1 := (h.own.stored (i * 5 + 1) (sv t)).1
  rw [rcells_set rs i r t hr] at h1
  have hl : (rs.set i { r with t := t }).length = rs.length := by simp
  have hp := h.els.2 i r _ hr hx
  refine ⟨by unfold OwnN; rw [hl]; exact h1, ?_⟩
  have hk : ∀ p : Addr, (B ≤ p.block ∧ p.block < w.heap.size ∧ Value.ownBlock (.slice (some ⟨g, 0, none⟩) rs.length c) ≠ some p.block) → (w.setCell ⟨g, i * 5 + 1, none⟩ (sv t)).cell? p = w.cell? p := fun p hp => World.cell?_of_block (Below.heap_setCell _ _ _ _ (fun e => hp.2.2 (by rw [e]; rfl)))
  have hS : ∀ j, (B ≤ j ∧ j < w.heap.size ∧ Value.ownBlock (.slice (some ⟨g, 0, none⟩) rs.length c) ≠ some j) → B ≤ j ∧ j < (w.setCell ⟨g, i * 5 + 1, none⟩ (sv t)).heap.size ∧ Value.ownBlock (.slice (some ⟨g, 0, none⟩) (rs.set i { r with t := t }).length c) ≠ some j := fun j hj => ⟨hj.1, by simpa [World.setCell] using hj.2.1, hj.2.2⟩
  refine (h.els.keep hk hS).set ?_
  have hp2 := InP.keep hk hS _ _ hp
  obtain ⟨Ap, cp, Ao, co, e, g1, g2, g3, g4⟩ := hp2.parts
  injection e with e
  simp only [Array.mk.injEq, List.cons.injEq, and_true, Value.slice.injEq] at e
  obtain ⟨e1, e2, e3, ⟨e4, e5, e6⟩, e7, e8, e9⟩ := e
  have := InP.mk (k := k) (t := t) (n := n) g1 g2 g3 g4
  show InP _ _ _ (ptV r.k t r.n r.Ap r.lp r.cp r.Ao r.lo r.co)
  rw [show ptV r.k t r.n r.Ap r.lp r.cp r.Ao r.lo r.co = ptV k t n Ap us.length cp Ao vs.length co by
    simp only [ptV]
    rw [e1, e3, e4, e5, e6, e7, e8, e9]]
  exact this
end
/-- places and bytes of a list -/
def wt (xs : List Pt) : Nat := xs.length + Pt.sizes xs
theorem sizes_append : ∀ xs ys : List Pt, Pt.sizes (xs ++ ys) = Pt.sizes xs + Pt.sizes ys
  | [], ys => by simp [Pt.sizes]
  | x :: t, ys => by simp only [List.cons_append, Pt.sizes, sizes_append t ys]; omega
theorem wt_append (xs ys : List Pt) : wt (xs ++ ys) = wt xs + wt ys := by unfold wt; rw [List.length_append, sizes_append]; omega
theorem wt_one (k : Int) (t n : Tx) (us vs : List Pt) : wt [.mk k t n us vs] = 1 + (t.length + n.length + wt us + wt vs) := by simp [wt, Pt.sizes, Pt.size]
theorem wt_nil : wt [] = 0 := by simp [wt, Pt.sizes]
theorem sizes_set : ∀ (xs : List Pt) (i : Nat) (k : Int) (t0 t n : Tx) (us vs : List Pt), xs[i]? = some (.mk k t0 n us vs) → Pt.sizes (xs.set i (.mk k t n us vs)) + t0.length = Pt.sizes xs + t.length
  | x :: s, 0, k, t0, t, n, us, vs, h => by
    simp at h
    subst h
    simp only [List.set_cons_zero, Pt.sizes, Pt.size]
    omega
  | x :: s, i + 1, k, t0, t, n, us, vs, h => by
    have := sizes_set s i k t0 t n us vs (by simpa using h)
    simp only [List.set_cons_succ, Pt.sizes]
    omega
theorem wt_set {xs : List Pt} {i : Nat} {k : Int} {t0 t n : Tx} {us vs : List Pt} (h : xs[i]? = some (.mk k t0 n us vs)) : wt (xs.set i (.mk k t n us vs)) + t0.length = wt xs + t.length := by
  have := sizes_set xs i k t0 t n us vs h
  unfold wt
  rw [List.length_set]
  omega
end Go.Proofs.Ytginghjgfippiaa
