/- Drawn data: fields in a row of the call's own; a walk. -/
import Derived.Test.YtginghjgfippiaaFieldDraw
import Derived.Test.YtginghjgfippiaaFieldT
namespace Go.Proofs.Ytginghjgfippiaa
open Go.RowKit

/-- what a field's four cells hold -/
structure FRaw where
  n : Tx
  t : Tx
  h : Bool
  A : Option Addr
  l : Nat
  c : Nat
abbrev FRaw.v (r : FRaw) : Value := fdV r.n r.t r.h r.A r.l r.c
abbrev FRaw.cs (r : FRaw) : List Value := [sv r.n, sv r.t, .bool r.h, .slice r.A r.l r.c]
def fcells : List FRaw → List Value
  | [] => []
  | r :: s => r.cs ++ fcells s
theorem fcells_length : ∀ rs : List FRaw, (fcells rs).length = rs.length * 4
  | [] => rfl
  | r :: s => by simp [fcells, fcells_length s]; omega
theorem fcells_append : ∀ rs ss : List FRaw, fcells (rs ++ ss) = fcells rs ++ fcells ss
  | [], _ => rfl
  | r :: s, ss => by simp [fcells, fcells_append s ss]
theorem fcells_get : ∀ (rs : List FRaw) (i : Nat) (r : FRaw) (j : Nat), rs[i]? = some r → j < 4 → (fcells rs)[i * 4 + j]? = r.cs[j]?
  | x :: s, 0, r, j, h, hj => by
    simp at h
    subst h
    simp only [fcells, Nat.zero_mul, Nat.zero_add]
    rw [List.getElem?_append_left (by simpa using hj)]
  | x :: s, i + 1, r, j, h, hj => by
    have := fcells_get s i r j (by simpa using h) hj
    simp only [fcells]
    rw [List.getElem?_append_right (by simp; omega), show (i + 1) * 4 + j - x.cs.length = i * 4 + j by simp; omega]
    exact this
theorem fcells_val (rs : List FRaw) : ∀ z ∈ fcells rs, z.oneCell' = true := by
  intro z hz
  induction rs with
  | nil => simp [fcells] at hz
  | cons r s ih =>
    simp only [fcells, List.mem_append] at hz
    rcases hz with hz | hz
    · simp at hz
      rcases hz with rfl | rfl | rfl | rfl <;> rfl
    · exact ih hz
/-- fields in a row of the call's own -/
def OwnF (w : World) (base : Nat) (A : Option Addr) (c : Nat) (rs : List FRaw) : Prop := w.ownsRow base 54 4 (.slice A rs.length c) rs.length (fcells rs)
theorem ownF_row {w : World} {base c : Nat} {A : Option Addr} {rs : List FRaw} (h : OwnF w base A c rs) : ∀ g, Value.ownBlock (.slice A rs.length c) = some g → base ≤ g := fun g hg => (h.lt g hg).1
theorem ownF_cap {w : World} {base c : Nat} {A : Option Addr} {rs : List FRaw} (h : OwnF w base A c rs) : rs.length ≤ c := by
  obtain ⟨A', c', e, h1, _⟩ := own_shape h
  injection e with _ _ e3
  omega
theorem own_emptyF (w : World) : OwnF (w.alloc (.cells #[] 54)) w.heap.size (some ⟨w.heap.size, 0, none⟩) 0 [] :=
  ⟨rfl, .inr ⟨w.heap.size, 0, #[], rfl, Nat.le_refl _, heap_alloc_new w _, Nat.le_refl _, Nat.zero_le _, rfl, rfl⟩⟩
/-- fields that can be read at a place, appended to fields of the call's own; where the row lies then is told -/
theorem app_fields_at {ops : Array Oper} {rest : List Oper} {o : Oper} {a : Act} {Q : Exit → Act → World → Prop} {W : World} (hgd : o.guard = none) (s x : Operand)
    (ho : o.op = .call { callee := .builtin .append, args := #[s, x], argTypes := #[32, 32] }) (base : Nat) (A : Option Addr) (c : Nat) (rs us : List FRaw)
    (hs : a.eval s = .slice A rs.length c) (hown : OwnF W base A c rs) (b o' c' : Nat) (hx : a.eval x = .slice (some ⟨b, o', none⟩) us.length c') (hh : ∀ j u, (fcells us)[j]? = some u → W.cell? ⟨b, o' + j, none⟩ = some u) (hlu : us.length ≤ 4294967296) (hlen : rs.length ≤ 4294967296) (hbase : base ≤ W.heap.size)
    (h : ∀ A' c' w', OwnF w' base A' c' (rs ++ us) → W.grownBy w' (Value.ownBlock (.slice A rs.length c)) → (Value.ownBlock (.slice A' (rs.length + us.length) c') = Value.ownBlock (.slice A rs.length c) ∨ Value.ownBlock (.slice A' (rs.length + us.length) c') = some W.heap.size) → wpList Try.prog ops Q rest (a.put o.dst (.slice A' (rs ++ us).length c')) w') :
    wpList Try.prog ops Q (o :: rest) a W := by
  obtain ⟨i0, hi, hz0, hz1, hz2⟩ := info_parts Try.info_Field
  refine wpList_append_own_at _ hgd s x _ ho base _ i0 _ 4 64 Try.underlying32 hi hz0 hz1 hz2 rfl (by decide) _ _ _ hs hown ⟨b, o', none⟩ us.length c' (fcells us) hx (by rw [fcells_length]) ?_ (fcells_val us) (by unfold maxLen; omega) (by omega) hbase ?_
  · intro j z hj
    rw [Addr.add_lit]
    exact hh j z hj
  · intro v' w' ho' hg' _ hbk
    obtain ⟨A', c', rfl, _, _⟩ := own_shape ho'
    have hl : (rs ++ us).length = rs.length + us.length := by simp
    rw [hl] at h
    refine h A' c' w' ?_ hg' hbk
    unfold OwnF
    rw [List.length_append, fcells_append]
    exact ho'
/-- the cells hold these fields, and what they lead to lies in the blocks S -/
def ElsF (w : World) (S : Nat → Prop) (rs : List FRaw) (xs : List Fd) : Prop := rs.length = xs.length ∧ ∀ (i : Nat) (r : FRaw) (x : Fd), rs[i]? = some r → xs[i]? = some x → InF w S x r.v
theorem ElsF.nil {w : World} {S : Nat → Prop} : ElsF w S [] [] := ⟨rfl, fun i r x h => by simp at h⟩
theorem ElsF.keep {w w' : World} {S S' : Nat → Prop} {rs : List FRaw} {xs : List Fd} (h : ElsF w S rs xs) (hk : ∀ p : Addr, S p.block → w'.cell? p = w.cell? p) (hS : ∀ b, S b → S' b) : ElsF w' S' rs xs :=
  ⟨h.1, fun i r x h1 h2 => InF.keep hk hS _ _ (h.2 i r x h1 h2)⟩
theorem ElsF.cons {w : World} {S : Nat → Prop} {rs : List FRaw} {xs : List Fd} {r : FRaw} {x : Fd} (hx : InF w S x r.v) (h : ElsF w S rs xs) : ElsF w S (r :: rs) (x :: xs) := by
  refine ⟨by simp [h.1], fun i r2 x2 h1 h2 => ?_⟩
  cases i with
  | zero =>
    simp at h1 h2
    subst h1 h2
    exact hx
  | succ i => exact h.2 i r2 x2 (by simpa using h1) (by simpa using h2)
theorem ElsF.append {w : World} {S : Nat → Prop} {rs ss : List FRaw} {xs ys : List Fd} (h : ElsF w S rs xs) (hy : ElsF w S ss ys) : ElsF w S (rs ++ ss) (xs ++ ys) := by
  refine ⟨by simp [h.1, hy.1], fun i r2 x2 h1 h2 => ?_⟩
  rcases Nat.lt_or_ge i rs.length with hi | hi
  · rw [List.getElem?_append_left hi] at h1
    rw [List.getElem?_append_left (by have := h.1; omega)] at h2
    exact h.2 i r2 x2 h1 h2
  · rw [List.getElem?_append_right hi] at h1
    rw [List.getElem?_append_right (by have := h.1; omega)] at h2
    rw [← h.1] at h2
    exact hy.2 _ r2 x2 h1 h2
theorem ElsF.rdF {w : World} {S : Nat → Prop} {rs : List FRaw} {xs : List Fd} {A : Option Addr} {base c : Nat} (h : ElsF w S rs xs) (ho : OwnF w base A c rs) (hS : ∀ b, Value.ownBlock (.slice A rs.length c) = some b → S b) : RdF w S A xs := fun hne => by
  have hl : 0 < rs.length := by
    rw [h.1]
    rcases Nat.eq_zero_or_pos xs.length with h0 | h0
    · exact absurd (List.eq_nil_of_length_eq_zero h0) hne
    · exact h0
  obtain ⟨g, rfl, h1, h2⟩ := own_some ho hl
  have hrd : Rd w w.heap.size (some ⟨g, 0, none⟩) (fcells rs) := Rd.of_own ho
  obtain ⟨b, o, e, _, hc⟩ := hrd (by intro e; have := fcells_length rs; rw [e] at this; simp at this; omega)
  injection e with e
  injection e with e1 e2
  subst e1
  subst e2
  refine ⟨g, 0, rfl, hS g rfl, fun i hi => ?_⟩
  have hir : i < rs.length := by rw [h.1]; exact hi
  have hr : rs[i]? = some rs[i] := List.getElem?_eq_getElem hir
  have key : ∀ j (hj : j < 4), w.cell? ⟨g, 0 + i * 4 + j, none⟩ = (rs[i]).cs[j]? := fun j hj => by
    have hg := fcells_get rs i _ j hr hj
    have hv : (rs[i]).cs[j]? = some ((rs[i]).cs[j]'(by simpa using hj)) := List.getElem?_eq_getElem _
    rw [hv, show 0 + i * 4 + j = 0 + (i * 4 + j) by omega]
    exact hc _ _ (hg.trans hv)
  exact ⟨(rs[i]).v, ⟨_, _, _, _, rfl, key 0 (by omega), key 1 (by omega), key 2 (by omega), key 3 (by omega)⟩, h.2 i _ _ hr (List.getElem?_eq_getElem hi)⟩
/-- fields in a row of the call's own, and what they lead to in other blocks since B -/
structure FLs (w : World) (B : Nat) (A : Option Addr) (c : Nat) (rs : List FRaw) (xs : List Fd) : Prop where
  own : OwnF w B A c rs
  els : ElsF w (fun j => B ≤ j ∧ j < w.heap.size ∧ Value.ownBlock (.slice A rs.length c) ≠ some j) rs xs
section
variable {w w' : World} {B c : Nat} {A : Option Addr} {rs : List FRaw} {xs : List Fd}
theorem FLs.len (h : FLs w B A c rs xs) : rs.length = xs.length := h.els.1
theorem FLs.grow {row : Option Nat} (h : FLs w B A c rs xs) (hg : w.grownBy w' row) (hr : ∀ j, row = some j → j < B) : FLs w' B A c rs xs := by
  refine ⟨h.own.kept hg ?_, h.els.keep (fun p hp => World.cell?_of_block (hg.block _ hp.2.1 (fun e => by have := hr _ e.symm; have := hp.1; omega))) (fun _ hj => ⟨hj.1, Nat.lt_of_lt_of_le hj.2.1 hg.size, hj.2.2⟩)⟩
  cases hv : Value.ownBlock (.slice A rs.length c) with
  | none => exact .inl rfl
  | some k => exact .inr fun e => by have := hr _ e.symm; have := ownF_row h.own k hv; omega
theorem FLs.keep (h : FLs w B A c rs xs) (hb : Below w.heap.size w w') : FLs w' B A c rs xs := h.grow (row := none) (below_grownBy hb _) (fun j hj => by cases hj)
theorem FLs.rd (h : FLs w B A c rs xs) : RdF w (fun j => B ≤ j ∧ j < w.heap.size) A xs :=
  (h.els.keep (fun _ _ => rfl) (fun _ hj => ⟨hj.1, hj.2.1⟩)).rdF h.own (fun b hb => h.own.lt b hb)
theorem FLs.cap (h : FLs w B A c rs xs) : rs.length ≤ c := ownF_cap h.own
theorem FLs.app (h : FLs w B A c rs xs) {A' : Option Addr} {c' : Nat} {us : List FRaw} {ys : List Fd} (ho : OwnF w' B A' c' (rs ++ us)) (hg : w.grownBy w' (Value.ownBlock (.slice A rs.length c)))
    (hbk : Value.ownBlock (.slice A' (rs.length + us.length) c') = Value.ownBlock (.slice A rs.length c) ∨ Value.ownBlock (.slice A' (rs.length + us.length) c') = some w.heap.size)
    (hx : ElsF w (fun j => B ≤ j ∧ j < w.heap.size ∧ Value.ownBlock (.slice A rs.length c) ≠ some j) us ys) : FLs w' B A' c' (rs ++ us) (xs ++ ys) := by
  refine ⟨ho, (h.els.append hx).keep (fun p hp => World.cell?_of_block (hg.block _ hp.2.1 (fun e => hp.2.2 e.symm))) (fun j hj => ⟨hj.1, Nat.lt_of_lt_of_le hj.2.1 hg.size, ?_⟩)⟩
  rw [List.length_append]
  rcases hbk with e | e
  · rw [e]; exact hj.2.2
  · rw [e]; intro e2; injection e2; omega
end
/-- places and bytes of a list -/
def fwt (xs : List Fd) : Nat := xs.length + Fd.sizes xs
theorem fwt_append (xs ys : List Fd) : fwt (xs ++ ys) = fwt xs + fwt ys := by unfold fwt Fd.sizes; rw [List.length_append, List.map_append, List.sum_append]; omega
theorem fwt_nil : fwt [] = 0 := rfl
theorem ssize_le : ∀ (is : List Tx), (∀ x ∈ is, x.length ≤ 100) → ssize is ≤ 100 * is.length
  | [], _ => by simp [ssize]
  | x :: t, h => by
    have h1 := h x (by simp)
    have h2 := ssize_le t (fun y hy => h y (List.mem_cons_of_mem _ hy))
    simp only [ssize, List.length_cons]
    omega
theorem fwt_one {n t : Tx} {hh : Bool} {is : List Tx} (hn : n.length ≤ 100) (ht : t.length ≤ 100) (hl : is.length ≤ 6) (hi : ∀ x ∈ is, x.length ≤ 100) : fwt [⟨n, t, hh, is⟩] ≤ 900 := by
  have := ssize_le is hi
  simp [fwt, Fd.sizes, Fd.size]
  omega
theorem rawf_in {w : World} {S : Nat → Prop} (n t : Tx) (hh : Bool) : InF w S ⟨n, t, hh, []⟩ (FRaw.v ⟨n, t, hh, none, 0, 0⟩) := ⟨none, 0, rfl, (fun h => absurd rfl h), Nat.le_refl _⟩
theorem rawf_row {w : World} {b : Nat} {us : List FRaw} {cs : Array Value} {t : TypeId} {fr : Nat × Nat} (h : w.heap[b]? = some (.cells cs t fr)) (hc : cs.toList = fcells us) : ∀ j u, (fcells us)[j]? = some u → w.cell? ⟨b, 0 + j, none⟩ = some u := fun j u hu => by
  rw [Nat.zero_add, cell_of_row w b j cs t fr h, ← Array.getElem?_toList, hc]; exact hu
end Go.Proofs.Ytginghjgfippiaa
