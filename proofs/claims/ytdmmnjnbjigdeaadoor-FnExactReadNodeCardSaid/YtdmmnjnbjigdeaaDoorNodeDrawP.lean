/- Nodes while they are drawn: rows of nodes of the call's own. No function of the program is walked here. -/
import Derived.Test.YtdmmnjnbjigdeaaDoorDrawS
import Derived.Test.YtdmmnjnbjigdeaaDoorNodeTo
import Derived.Maps.AppendAt
namespace Go.Proofs.YtdmmnjnbjigdeaaDoor
open Go.RowKit

/-- what a node's five cells hold -/
structure Raw where
  k : Int
  n : Int
  t : Tx
  An : Option Addr
  ln : Nat
  cn : Nat
  Ai : Option Addr
  li : Nat
  ci : Nat
abbrev Raw.v (r : Raw) : Value := ndV r.k r.n r.t r.An r.ln r.cn r.Ai r.li r.ci
abbrev Raw.cs (r : Raw) : List Value := [.int .i64 r.k, .int .i64 r.n, sv r.t, .slice r.An r.ln r.cn, .slice r.Ai r.li r.ci]
def rcells : List Raw → List Value
  | [] => []
  | r :: s => r.cs ++ rcells s
theorem rcells_length : ∀ rs : List Raw, (rcells rs).length = rs.length * 5
  | [] => rfl
  | r :: s => by simp [rcells, rcells_length s]; omega
theorem rcells_append : ∀ rs ss : List Raw, rcells (rs ++ ss) = rcells rs ++ rcells ss
  | [], _ => rfl
  | r :: s, ss => by simp [rcells, rcells_append s ss]
theorem rcells_get : ∀ (rs : List Raw) (i : Nat) (r : Raw) (j : Nat), rs[i]? = some r → j < 5 → (rcells rs)[i * 5 + j]? = r.cs[j]?
  | x :: s, 0, r, j, h, hj => by
    simp at h
    subst h
    simp only [rcells, Nat.zero_mul, Nat.zero_add]
    rw [List.getElem?_append_left (by simpa using hj)]
  | x :: s, i + 1, r, j, h, hj => by
    have := rcells_get s i r j (by simpa using h) hj
    simp only [rcells]
    rw [List.getElem?_append_right (by simp; omega), show (i + 1) * 5 + j - x.cs.length = i * 5 + j by simp; omega]
    exact this
/-- nodes in a row of the call's own -/
def OwnN (w : World) (base : Nat) (A : Option Addr) (c : Nat) (rs : List Raw) : Prop := w.ownsRow base 26 5 (.slice A rs.length c) rs.length (rcells rs)
theorem ownN_nil (w : World) (base : Nat) : OwnN w base none 0 [] := World.ownsRow_nil w base _ 5
theorem ownN_row {w : World} {base c : Nat} {A : Option Addr} {rs : List Raw} (h : OwnN w base A c rs) : ∀ g, Value.ownBlock (.slice A rs.length c) = some g → base ≤ g := fun g hg => (h.lt g hg).1

/-- one node that lies in a block of its own, appended to nodes of the call's own -/
theorem app_node_at {ops : Array Oper} {rest : List Oper} {o : Oper} {a : Act} {Q : Exit → Act → World → Prop} {W : World} (hgd : o.guard = none) (s x : Operand)
    (ho : o.op = .call { callee := .builtin .append, args := #[s, x], argTypes := #[24, 24] }) (base : Nat) (A : Option Addr) (c : Nat) (rs : List Raw) (r : Raw)
    (hs : a.eval s = .slice A rs.length c) (hown : OwnN W base A c rs) (b : Nat) (hx : a.eval x = .slice (some ⟨b, 0, none⟩) 1 1) (hh : W.heap[b]? = some (.cells #[.int .i64 r.k, .int .i64 r.n, sv r.t, .slice r.An r.ln r.cn, .slice r.Ai r.li r.ci] 26 (0, 0))) (hlen : rs.length ≤ 4294967296) (hbase : base ≤ W.heap.size)
    (h : ∀ A' c' w', OwnN w' base A' c' (rs ++ [r]) → W.grownBy w' (Value.ownBlock (.slice A rs.length c)) → (Value.ownBlock (.slice A' (rs.length + 1) c') = Value.ownBlock (.slice A rs.length c) ∨ Value.ownBlock (.slice A' (rs.length + 1) c') = some W.heap.size) → wpList Tryd.prog ops Q rest (a.put o.dst (.slice A' (rs ++ [r]).length c')) w') :
    wpList Tryd.prog ops Q (o :: rest) a W := by
  obtain ⟨i0, hi, hz0, hz1, hz2⟩ := info_parts Tryd.info_Node
  refine wpList_append_own_at _ hgd s x _ ho base _ i0 _ 5 80 Tryd.underlying24 hi hz0 hz1 hz2 rfl (by decide) _ _ _ hs hown ⟨b, 0, none⟩ 1 1 r.cs hx rfl ?_ ?_ (by unfold maxLen; omega) (by omega) hbase ?_
  · intro j z hj
    rw [Addr.add_lit, Nat.zero_add, cell_of_row W b j _ _ _ hh]
    simpa using hj
  · intro z hz
    simp at hz
    rcases hz with rfl | rfl | rfl | rfl | rfl <;> rfl
  · intro v' w' ho' hg' _ hbk
    obtain ⟨A', c', rfl, _, _⟩ := own_shape ho'
    have hl : (rs ++ [r]).length = rs.length + 1 := by simp
    rw [hl] at h
    refine h A' c' w' ?_ hg' hbk
    unfold OwnN
    rw [List.length_append, rcells_append]
    simpa [rcells] using ho'
/-- one text that lies in a block of its own, appended to texts of the call's own; where the row lies then is told -/
theorem app_strb_at {ops : Array Oper} {rest : List Oper} {o : Oper} {a : Act} {Q : Exit → Act → World → Prop} {W : World} (hgd : o.guard = none) (s x : Operand)
    (ho : o.op = .call { callee := .builtin .append, args := #[s, x], argTypes := #[23, 23] }) (base : Nat) (A : Option Addr) (c : Nat) (xs : List Tx) (u : Tx)
    (hs : a.eval s = .slice A xs.length c) (hown : OwnS W base A c xs) (b : Nat) (hx : a.eval x = .slice (some ⟨b, 0, none⟩) 1 1) (hh : W.heap[b]? = some (.cells #[sv u] 9 (0, 0))) (hlen : xs.length ≤ 4294967296) (hbase : base ≤ W.heap.size)
    (h : ∀ A' c' w', OwnS w' base A' c' (xs ++ [u]) → W.grownBy w' (Value.ownBlock (.slice A xs.length c)) → (Value.ownBlock (.slice A' (xs.length + 1) c') = Value.ownBlock (.slice A xs.length c) ∨ Value.ownBlock (.slice A' (xs.length + 1) c') = some W.heap.size) → wpList Tryd.prog ops Q rest (a.put o.dst (.slice A' (xs ++ [u]).length c')) w') :
    wpList Tryd.prog ops Q (o :: rest) a W := by
  obtain ⟨i0, hi, hz0, hz1, hz2⟩ := info_parts Tryd.info_string
  refine wpList_append_own_at _ hgd s x _ ho base _ i0 _ 1 16 Tryd.underlying23 hi hz0 hz1 hz2 rfl (by decide) _ _ _ hs hown ⟨b, 0, none⟩ 1 1 [sv u] hx rfl ?_ ?_ (by unfold maxLen; omega) (by omega) hbase ?_
  · intro j z hj
    rw [Addr.add_lit, Nat.zero_add, cell_of_row W b j _ _ _ hh]
    simpa using hj
  · intro z hz
    simp at hz
    subst hz
    rfl
  · intro v' w' ho' hg' _ hbk
    obtain ⟨A', c', rfl, _, _⟩ := own_shape ho'
    have hl : (xs ++ [u]).length = xs.length + 1 := by simp
    rw [hl] at h
    refine h A' c' w' ?_ hg' hbk
    unfold OwnS
    rw [List.length_append, List.map_append]
    exact ho'

/-- the cells hold these nodes, and what they lead to lies in the blocks S -/
def Els (w : World) (S : Nat → Prop) (rs : List Raw) (xs : List Nd) : Prop := rs.length = xs.length ∧ ∀ (i : Nat) (r : Raw) (x : Nd), rs[i]? = some r → xs[i]? = some x → InN w S x r.v
theorem Els.keep {w w' : World} {S S' : Nat → Prop} {rs : List Raw} {xs : List Nd} (h : Els w S rs xs) (hk : ∀ p : Addr, S p.block → w'.cell? p = w.cell? p) (hS : ∀ b, S b → S' b) : Els w' S' rs xs :=
  ⟨h.1, fun i r x h1 h2 => InN.keep hk hS _ _ (h.2 i r x h1 h2)⟩
theorem Els.snoc {w : World} {S : Nat → Prop} {rs : List Raw} {xs : List Nd} {r : Raw} {x : Nd} (h : Els w S rs xs) (hx : InN w S x r.v) : Els w S (rs ++ [r]) (xs ++ [x]) := by
  refine ⟨by simp [h.1], fun i r2 x2 h1 h2 => ?_⟩
  rcases Nat.lt_or_ge i rs.length with hi | hi
  · rw [List.getElem?_append_left hi] at h1
    rw [List.getElem?_append_left (by have := h.1; omega)] at h2
    exact h.2 i r2 x2 h1 h2
  · rw [List.getElem?_append_right hi] at h1
    rw [List.getElem?_append_right (by have := h.1; omega)] at h2
    have h3 : i - rs.length = 0 := by
      rcases Nat.eq_zero_or_pos (i - rs.length) with h0 | h0
      · exact h0
      · rw [List.getElem?_eq_none (by simp; omega)] at h1; cases h1
    rw [h3] at h1
    rw [← h.1, h3] at h2
    simp at h1 h2
    subst h1
    subst h2
    exact hx
theorem Els.rdN {w : World} {S : Nat → Prop} {rs : List Raw} {xs : List Nd} {A : Option Addr} {base c : Nat} (h : Els w S rs xs) (ho : OwnN w base A c rs) (hS : ∀ b, Value.ownBlock (.slice A rs.length c) = some b → S b) : RdN w S A xs := fun hne => by
  have hl : 0 < rs.length := by
    rw [h.1]
    rcases Nat.eq_zero_or_pos xs.length with h0 | h0
    · exact absurd (List.eq_nil_of_length_eq_zero h0) hne
    · exact h0
  obtain ⟨g, rfl, h1, h2⟩ := own_some ho hl
  have hrd : Rd w w.heap.size (some ⟨g, 0, none⟩) (rcells rs) := Rd.of_own ho
  obtain ⟨b, o, e, _, hc⟩ := hrd (by intro e; have := rcells_length rs; rw [e] at this; simp at this; omega)
  injection e with e
  injection e with e1 e2
  subst e1
  subst e2
  refine ⟨g, 0, rfl, hS g rfl, InNs.of_get fun i hi => ?_⟩
  have hir : i < rs.length := by rw [h.1]; exact hi
  have hr : rs[i]? = some rs[i] := List.getElem?_eq_getElem hir
  have key : ∀ j (hj : j < 5), w.cell? ⟨g, 0 + i * 5 + j, none⟩ = (rs[i]).cs[j]? := fun j hj => by
    have hg := rcells_get rs i _ j hr hj
    have hv : (rs[i]).cs[j]? = some ((rs[i]).cs[j]'(by simpa using hj)) := List.getElem?_eq_getElem _
    rw [hv, show 0 + i * 5 + j = 0 + (i * 5 + j) by omega]
    exact hc _ _ (hg.trans hv)
  refine ⟨(rs[i]).v, ⟨_, _, _, _, _, rfl, key 0 (by omega), key 1 (by omega), key 2 (by omega), key 3 (by omega), key 4 (by omega)⟩, h.2 i _ _ hr (List.getElem?_eq_getElem hi)⟩

theorem offN {w : World} {base size n g o : Nat} {e : TypeId} {v u : Value} {xs : List Value} (h : w.ownsRow base e size v n xs) (hg : g < base) : (w.setCell ⟨g, o, none⟩ u).ownsRow base e size v n xs := by
  refine h.kept (grown_set (grown_refl _ _) _ _) ?_
  cases hv : v.ownBlock with
  | none => exact .inl rfl
  | some k => exact .inr (by have := (h.lt k hv).1; intro e; injection e; omega)
theorem set_cellN {w : World} {g o : Nat} {u : Value} {p : Addr} (h : p.block ≠ g) : (w.setCell ⟨g, o, none⟩ u).cell? p = w.cell? p := World.cell?_of_block (Below.heap_setCell _ _ _ _ h)

/-- a node in a box of the call's own, its names and its nodes in rows of the call's own, and the result's box as it was -/
structure NSt (w0 w : World) (g b : Nat) (kd nn : Int) (tt : Tx) (An : Option Addr) (cn : Nat) (ns : List Tx) (Ai : Option Addr) (ci : Nat) (rs : List Raw) (xs : List Nd) : Prop where
  box : w.heap[b]? = some (.cells (ndCells kd nn tt An ns.length cn Ai rs.length ci) 26 (0, 0))
  nown : OwnS w (b + 1) An cn ns
  iown : OwnN w (b + 1) Ai ci rs
  els : Els w (fun j => b < j ∧ j < w.heap.size ∧ Value.ownBlock (.slice An ns.length cn) ≠ some j ∧ Value.ownBlock (.slice Ai rs.length ci) ≠ some j) rs xs
  apart : ∀ j, Value.ownBlock (.slice An ns.length cn) = some j → Value.ownBlock (.slice Ai rs.length ci) ≠ some j
  res : w.heap[w0.heap.size]? = some (.cells #[.int .i64 0, .int .i64 0, .string ⟨#[]⟩, .slice none 0 0, .slice none 0 0] 26 (0, 0))
  lt : w0.heap.size < b
  old : g < w0.heap.size
section
variable {w0 w w' : World} {g b : Nat} {kd nn : Int} {tt : Tx} {An Ai : Option Addr} {cn ci : Nat} {ns : List Tx} {rs : List Raw} {xs : List Nd}
theorem NSt.size (h : NSt w0 w g b kd nn tt An cn ns Ai ci rs xs) : b < w.heap.size := lt_of_block h.box
theorem NSt.grow (h : NSt w0 w g b kd nn tt An cn ns Ai ci rs xs) (hg : w.grownBy w' (some g)) : NSt w0 w' g b kd nn tt An cn ns Ai ci rs xs := by
  have h1 := h.lt; have h2 := h.old; have h3 := h.size
  refine ⟨(hg.block b h3 (by intro e; injection e; omega)).trans h.box, own_g h.nown hg (by omega), own_g h.iown hg (by omega), ?_, h.apart, (hg.block _ (by omega) (by intro e; injection e; omega)).trans h.res, h1, h2⟩
  exact h.els.keep (fun p hp => World.cell?_of_block (hg.block _ hp.2.1 (by intro e; injection e; have := hp.1; omega))) (fun j hj => ⟨hj.1, Nat.lt_of_lt_of_le hj.2.1 hg.size, hj.2.2⟩)
theorem NSt.alloc (h : NSt w0 w g b kd nn tt An cn ns Ai ci rs xs) (o : Obj) : NSt w0 (w.alloc o) g b kd nn tt An cn ns Ai ci rs xs := h.grow (World.grownBy_alloc w o _)
theorem NSt.set (h : NSt w0 w g b kd nn tt An cn ns Ai ci rs xs) (o : Nat) (u : Value) {nn' : Int} {tt' : Tx} (hc : (ndCells kd nn tt An ns.length cn Ai rs.length ci).setIfInBounds o u = ndCells kd nn' tt' An ns.length cn Ai rs.length ci) : NSt w0 (w.setCell ⟨b, o, none⟩ u) g b kd nn' tt' An cn ns Ai ci rs xs := by
  have h1 := h.lt
  refine ⟨by rw [← hc]; exact cells_set h.box, offN h.nown (by omega), offN h.iown (by omega), ?_, h.apart, (Below.heap_setCell _ _ _ _ (by show w0.heap.size ≠ b; omega)).trans h.res, h1, h.old⟩
  exact h.els.keep (fun p hp => set_cellN (by have := hp.1; omega)) (fun j hj => ⟨hj.1, by simpa [World.setCell] using hj.2.1, hj.2.2⟩)
theorem NSt.appI (h : NSt w0 w g b kd nn tt An cn ns Ai ci rs xs) {A' : Option Addr} {c' : Nat} {r : Raw} {x : Nd} (ho : OwnN w' (b + 1) A' c' (rs ++ [r])) (hg : w.grownBy w' (Value.ownBlock (.slice Ai rs.length ci)))
    (hbk : Value.ownBlock (.slice A' (rs.length + 1) c') = Value.ownBlock (.slice Ai rs.length ci) ∨ Value.ownBlock (.slice A' (rs.length + 1) c') = some w.heap.size)
    (hx : InN w (fun j => b < j ∧ j < w.heap.size ∧ Value.ownBlock (.slice An ns.length cn) ≠ some j ∧ Value.ownBlock (.slice Ai rs.length ci) ≠ some j) x r.v) (v : Value) (hv : v = .slice A' (rs ++ [r]).length c') :
    NSt w0 (w'.setCell ⟨b, 4, none⟩ v) g b kd nn tt An cn ns A' c' (rs ++ [r]) (xs ++ [x]) := by
  subst hv
  have h1 := h.lt; have h3 := h.size
  have hr := ownN_row h.iown
  have hn := h.nown.lt
  have hl : (rs ++ [r]).length = rs.length + 1 := by simp
  have hne : ∀ j, j ≤ b → some j ≠ Value.ownBlock (.slice Ai rs.length ci) := fun j hj e => by have := hr _ e.symm; omega
  refine ⟨?_, offN ?_ (by omega), offN ho (by omega), ?_, ?_, ?_, h1, h.old⟩
  · exact cells_set ((hg.block b h3 (hne b (Nat.le_refl _))).trans h.box)
  · exact h.nown.kept hg (by
      cases hv : Value.ownBlock (.slice An ns.length cn) with
      | none => exact .inl rfl
      | some k => exact .inr fun e => h.apart k hv e.symm)
  · refine (h.els.snoc hx).keep (fun p hp => ?_) (fun j hj => ⟨hj.1, by have := hg.size; simp [World.setCell]; omega, hj.2.2.1, ?_⟩)
    · rw [set_cellN (by have := hp.1; omega)]
      exact World.cell?_of_block (hg.block _ hp.2.1 (fun e => hp.2.2.2 e.symm))
    · rw [hl]
      rcases hbk with e | e
      · rw [e]; exact hj.2.2.2
      · rw [e]; intro e2; injection e2; omega
  · intro j hj
    rw [hl]
    rcases hbk with e | e
    · rw [e]; exact h.apart j hj
    · rw [e]; intro e2; injection e2; have := (hn j hj).2; omega
  · exact (Below.heap_setCell _ _ _ _ (by show w0.heap.size ≠ b; omega)).trans ((hg.block _ (by omega) (hne _ (by omega))).trans h.res)
theorem NSt.appN (h : NSt w0 w g b kd nn tt An cn ns Ai ci rs xs) {A' : Option Addr} {c' : Nat} {y : Tx} (ho : OwnS w' (b + 1) A' c' (ns ++ [y])) (hg : w.grownBy w' (Value.ownBlock (.slice An ns.length cn)))
    (hbk : Value.ownBlock (.slice A' (ns.length + 1) c') = Value.ownBlock (.slice An ns.length cn) ∨ Value.ownBlock (.slice A' (ns.length + 1) c') = some w.heap.size) (v : Value) (hv : v = .slice A' (ns ++ [y]).length c') :
    NSt w0 (w'.setCell ⟨b, 3, none⟩ v) g b kd nn tt A' c' (ns ++ [y]) Ai ci rs xs := by
  subst hv
  have h1 := h.lt; have h3 := h.size
  have hr := ownS_row h.nown
  have hn := h.iown.lt
  have hl : (ns ++ [y]).length = ns.length + 1 := by simp
  have hne : ∀ j, j ≤ b → some j ≠ Value.ownBlock (.slice An ns.length cn) := fun j hj e => by have := hr _ e.symm; omega
  refine ⟨?_, offN ho (by omega), offN ?_ (by omega), ?_, ?_, ?_, h1, h.old⟩
  · exact cells_set ((hg.block b h3 (hne b (Nat.le_refl _))).trans h.box)
  · exact h.iown.kept hg (by
      cases hv : Value.ownBlock (.slice Ai rs.length ci) with
      | none => exact .inl rfl
      | some k => exact .inr fun e => h.apart k e.symm hv)
  · refine h.els.keep (fun p hp => ?_) (fun j hj => ⟨hj.1, by have := hg.size; simp [World.setCell]; omega, ?_, hj.2.2.2⟩)
    · rw [set_cellN (by have := hp.1; omega)]
      exact World.cell?_of_block (hg.block _ hp.2.1 (fun e => hp.2.2.1 e.symm))
    · rw [hl]
      rcases hbk with e | e
      · rw [e]; exact hj.2.2.1
      · rw [e]; intro e2; injection e2; omega
  · intro j hj
    rw [hl] at hj
    rcases hbk with e | e
    · rw [e] at hj; exact h.apart j hj
    · rw [e] at hj; injection hj with hj; subst hj; intro e2; have := (hn _ e2).2; omega
  · exact (Below.heap_setCell _ _ _ _ (by show w0.heap.size ≠ b; omega)).trans ((hg.block _ (by omega) (hne _ (by omega))).trans h.res)
theorem NSt.boxI (h : NSt w0 w g b kd nn tt An cn ns Ai ci rs xs) (hg : w.grownBy w' (Value.ownBlock (.slice Ai rs.length ci))) : w'.heap[b]? = some (.cells (ndCells kd nn tt An ns.length cn Ai rs.length ci) 26 (0, 0)) :=
  (hg.block b h.size (fun e => by have := ownN_row h.iown _ e.symm; omega)).trans h.box
theorem NSt.boxN (h : NSt w0 w g b kd nn tt An cn ns Ai ci rs xs) (hg : w.grownBy w' (Value.ownBlock (.slice An ns.length cn))) : w'.heap[b]? = some (.cells (ndCells kd nn tt An ns.length cn Ai rs.length ci) 26 (0, 0)) :=
  (hg.block b h.size (fun e => by have := ownS_row h.nown _ e.symm; omega)).trans h.box
/-- the node that was made, once the result's box is written -/
theorem NSt.done (h : NSt w0 w g b kd nn tt An cn ns Ai ci rs xs) (hk : ∀ p : Addr, w0.heap.size < p.block → w'.cell? p = w.cell? p) (hz : w.heap.size ≤ w'.heap.size) : InN w' (Fresh w0 w') (.mk kd nn tt ns xs) (ndV kd nn tt An ns.length cn Ai rs.length ci) := by
  have h1 := h.lt
  have hin : InN w (fun j => w0.heap.size < j ∧ j < w.heap.size) (.mk kd nn tt ns xs) (ndV kd nn tt An ns.length cn Ai xs.length ci) := by
    refine InN.mk (ownS_rdIn h.nown fun j h2 h3 => ⟨by omega, h3⟩) (ownS_cap h.nown) ?_ ?_
    · obtain ⟨A, c, e, hc, _⟩ := own_shape h.iown
      injection e with _ _ e3
      rw [← h.els.1, e3]; exact hc
    · exact (h.els.keep (fun _ _ => rfl) (fun j hj => ⟨by have := hj.1; omega, hj.2.1⟩)).rdN h.iown fun j hj => by have := h.iown.lt j hj; omega
  rw [h.els.1]
  exact InN.keep (fun p hp => hk p hp.1) (fun j hj => ⟨by omega, by omega⟩) _ _ hin
end
end Go.Proofs.YtdmmnjnbjigdeaaDoor
