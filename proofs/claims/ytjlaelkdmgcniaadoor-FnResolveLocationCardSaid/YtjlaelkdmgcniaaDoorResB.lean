/- A location in a box, its path shortened in its row. No function of the program is walked here. -/
import Derived.Test.YtjlaelkdmgcniaaDoorLocDrew
import Derived.Test.YtjlaelkdmgcniaaDoorResP
import Derived.Test.YtjlaelkdmgcniaaDoorTypedB
import Derived.ArgAppend
import Derived.Maps.AppendAt
import Derived.Test.YtjlaelkdmgcniaaDoorCut
import Derived.Test.YtjlaelkdmgcniaaDoorShelf
namespace Go.Proofs.YtjlaelkdmgcniaaDoor
open Go.RowKit

theorem ownS_pop {w : World} {base c : Nat} {A : Option Addr} {xs : List Tx} (h : OwnS w base A c xs) (hx : xs ≠ []) : OwnS w base A c xs.dropLast := by
  have hl : 0 < xs.length := List.length_pos_iff.2 hx
  refine ⟨by simp, ?_⟩
  rcases h.2 with ⟨_, h2⟩ | ⟨g, cap, cur, hv, hb, hg, h1, h2, h3, h4⟩
  · omega
  · injection hv with e1 e2 e3
    subst e1 e3
    refine .inr ⟨g, c, cur, by simp, hb, hg, by simp; omega, h2, h3, ?_⟩
    have e : cur.toList.take (xs.dropLast.length * 1) = (cur.toList.take (xs.length * 1)).take (xs.dropLast.length * 1) := by
      rw [List.take_take]
      congr 1
      simp
    rw [e, h4]
    simp [List.dropLast_eq_take]
section
variable {w0 w w' : World} {g b : Nat} {l : Lc} {A : Option Addr} {c : Nat}
theorem LSt.keep (h : LSt w0 w g b l A c) (hb : Below w.heap.size w w') : LSt w0 w' g b l A c := by
  have h1 := h.lt; have h3 := h.size
  exact ⟨(hb.block b h3).trans h.box, own_below h.own hb, (hb.block _ (by omega)).trans h.res, h1, h.old⟩
theorem LSt.pop (h : LSt w0 w g b l A c) (hx : l.path ≠ []) (v : Value) (hv : v = .slice A (l.path.length - 1) c) : LSt w0 (w.setCell ⟨b, 2, none⟩ v) g b { l with path := l.path.dropLast } A c := by
  subst hv
  have h1 := h.lt
  refine ⟨?_, own_off (ownS_pop h.own hx) (by omega), ?_, h1, h.old⟩
  · have := cells_set (o := 2) (u := .slice A (l.path.length - 1) c) h.box
    rw [this]
    simp [lcCells]
  · rw [← h.res]; exact Below.heap_setCell _ _ _ _ (by show w0.heap.size ≠ b; omega)
theorem LSt.empty (h : LSt w0 w g b l A c) (v : Value) (hv : v = .slice none 0 0) : LSt w0 (w.setCell ⟨b, 2, none⟩ v) g b { l with path := [] } none 0 := by
  subst hv
  have h1 := h.lt
  refine ⟨?_, ownS_nil _ _, ?_, h1, h.old⟩
  · have := cells_set (o := 2) (u := .slice none 0 0) h.box
    rw [this]
    simp [lcCells]
  · rw [← h.res]; exact Below.heap_setCell _ _ _ _ (by show w0.heap.size ≠ b; omega)
end
/-- a location in a box of the call's own, its path in a row of the call's own that lies elsewhere; the result's box r is as it was -/
structure LBx (w : World) (B r b : Nat) (l : Lc) (A : Option Addr) (c : Nat) : Prop where
  box : w.heap[b]? = some (.cells (lcCells l A c) 25 (0, 0))
  own : OwnS w B A c l.path
  ne : Value.ownBlock (.slice A l.path.length c) ≠ some b
  res : w.heap[r]? = some (.cells #[.string ⟨#[]⟩, .string ⟨#[]⟩, .slice none 0 0, .string ⟨#[]⟩] 25 (0, 0))
  rlt : r < B
  bge : B ≤ b
section
variable {w w' : World} {B r b : Nat} {l : Lc} {A : Option Addr} {c : Nat}
theorem LBx.keep (h : LBx w B r b l A c) (hb : Below w.heap.size w w') : LBx w' B r b l A c :=
  ⟨(hb.block b (lt_of_block h.box)).trans h.box, own_below h.own hb, h.ne, (hb.block r (lt_of_block h.res)).trans h.res, h.rlt, h.bge⟩
theorem own_far {base size n g o : Nat} {e : TypeId} {v u : Value} {xs : List Value} (h : w.ownsRow base e size v n xs) (hg : v.ownBlock ≠ some g) : (w.setCell ⟨g, o, none⟩ u).ownsRow base e size v n xs := by
  refine ⟨h.1, ?_⟩
  rcases h.2 with hn | ⟨k, cap, cur, rfl, hb, hgg, rest⟩
  · exact .inl hn
  · refine .inr ⟨k, cap, cur, rfl, hb, ?_, rest⟩
    rw [← hgg]
    exact Below.heap_setCell _ _ _ _ (by show k ≠ g; intro e; exact hg (by rw [← e]; rfl))
theorem LBx.qu (h : LBx w B r b l A c) (v : Value) {q : Tx} (hv : v = sv q) : LBx (w.setCell ⟨b, 3, none⟩ v) B r b { l with qu := q } A c := by
  subst hv
  refine ⟨?_, own_far h.own h.ne, h.ne, (Below.heap_setCell _ _ _ _ (by show r ≠ b; have := h.rlt; have := h.bge; omega)).trans h.res, h.rlt, h.bge⟩
  rw [cells_set h.box]
  simp [lcCells]
theorem LBx.pop (h : LBx w B r b l A c) (hx : l.path ≠ []) (v : Value) (hv : v = .slice A (l.path.length - 1) c) : LBx (w.setCell ⟨b, 2, none⟩ v) B r b { l with path := l.path.dropLast } A c := by
  subst hv
  refine ⟨?_, own_far (ownS_pop h.own hx) ?_, ?_, (Below.heap_setCell _ _ _ _ (by show r ≠ b; have := h.rlt; have := h.bge; omega)).trans h.res, h.rlt, h.bge⟩
  · rw [cells_set h.box]
    simp [lcCells]
  · have := h.ne; cases A <;> exact this
  · have := h.ne; cases A <;> exact this
theorem LBx.empty (h : LBx w B r b l A c) (v : Value) (hv : v = .slice none 0 0) : LBx (w.setCell ⟨b, 2, none⟩ v) B r b { l with path := [] } none 0 := by
  subst hv
  refine ⟨?_, ownS_nil _ _, (by intro e; cases e), (Below.heap_setCell _ _ _ _ (by show r ≠ b; have := h.rlt; have := h.bge; omega)).trans h.res, h.rlt, h.bge⟩
  rw [cells_set h.box]
  simp [lcCells]
theorem LBx.boxApp (h : LBx w B r b l A c) (hg : w.grownBy w' (Value.ownBlock (.slice A l.path.length c))) : w'.heap[b]? = some (.cells (lcCells l A c) 25 (0, 0)) :=
  (hg.block b (lt_of_block h.box) (fun e => h.ne e.symm)).trans h.box
theorem LBx.app (h : LBx w B r b l A c) {A' : Option Addr} {c' : Nat} {xs : List Tx} (ho : OwnS w' B A' c' xs) (hg : w.grownBy w' (Value.ownBlock (.slice A l.path.length c)))
    (hbk : Value.ownBlock (.slice A' xs.length c') = Value.ownBlock (.slice A l.path.length c) ∨ Value.ownBlock (.slice A' xs.length c') = some w.heap.size) (v : Value) (hv : v = .slice A' xs.length c') : LBx (w'.setCell ⟨b, 2, none⟩ v) B r b { l with path := xs } A' c' := by
  subst hv
  have hbl := lt_of_block h.box
  have hne : Value.ownBlock (.slice A' xs.length c') ≠ some b := by
    rcases hbk with e | e
    · rw [e]; exact h.ne
    · rw [e]; intro e2; injection e2; omega
  have hr := ownS_row h.own
  refine ⟨cells_set (h.boxApp hg), own_far ho hne, hne, ?_, h.rlt, h.bge⟩
  exact (Below.heap_setCell _ _ _ _ (by show r ≠ b; have := h.rlt; have := h.bge; omega)).trans ((hg.block r (lt_of_block h.res) (fun e => by have := hr _ e.symm; have := h.rlt; omega)).trans h.res)
end
/-- one text that lies in a block of its own, appended to texts of the call's own; where the row lies then is told -/
theorem app_strb_at {ops : Array Oper} {rest : List Oper} {o : Oper} {a : Act} {Q : Exit → Act → World → Prop} {W : World} (hgd : o.guard = none) (s x : Operand)
    (ho : o.op = .call { callee := .builtin .append, args := #[s, x], argTypes := #[23, 23] }) (base : Nat) (A : Option Addr) (c : Nat) (xs : List Tx) (u : Tx)
    (hs : a.eval s = .slice A xs.length c) (hown : OwnS W base A c xs) (b : Nat) (hx : a.eval x = .slice (some ⟨b, 0, none⟩) 1 1) (hh : W.heap[b]? = some (.cells #[sv u] 9 (0, 0))) (hlen : xs.length ≤ 4294967296) (hbase : base ≤ W.heap.size)
    (h : ∀ A' c' w', OwnS w' base A' c' (xs ++ [u]) → W.grownBy w' (Value.ownBlock (.slice A xs.length c)) → (Value.ownBlock (.slice A' (xs.length + 1) c') = Value.ownBlock (.slice A xs.length c) ∨ Value.ownBlock (.slice A' (xs.length + 1) c') = some W.heap.size) → wpList Tryd.prog ops Q rest (a.put o.dst (.slice A' (xs ++ [u]).length c')) w') :
    wpList Tryd.prog ops Q (o :: rest) a W := by
  obtain ⟨i0, hi, hz0, hz1, hz2⟩ := info_parts Tryd.info_string
  refine wpList_append_own_at _ hgd s x _ ho base _ i0 _ 1 16 Tryd.underlying23 hi hz0 hz1 hz2 rfl (by decide) _ _ _ hs hown ⟨b, 0, none⟩ 1 1 [sv u] hx rfl ?_ ?_ (by unfold maxLen; omega) (by omega) hbase ?_
  · intro j z hj
    rw [Addr.add_lit, Nat.zero_add, cell_of_row W b j _ _ _ hh]
    simpa using hj
  · intro z hz
    simp at hz
    subst hz
    rfl
  · intro v' w' ho' hg' _ hbk
    obtain ⟨A', c', rfl, _, _⟩ := own_shape ho'
    have hl : (xs ++ [u]).length = xs.length + 1 := by simp
    rw [hl] at h
    refine h A' c' w' ?_ hg' hbk
    unfold OwnS
    rw [List.length_append, List.map_append]
    exact ho'

/-- texts that lie elsewhere, appended to an empty row: nothing that lay before is changed -/
theorem wp_app_fresh {o : Oper} {a : Act} {K : Act → World → Prop} {Q : Exit → Act → World → Prop} {W : World} (s x : Operand)
    (ho : o.op = .call { callee := .builtin .append, args := #[s, x], argTypes := #[23, 23] }) (B g : Nat)
    (hs : a.eval s = .slice (some ⟨g, 0, none⟩) 0 0) (hBg : B ≤ g) (hg : W.heap[g]? = some (.cells #[] 9 (0, 0))) (A' : Option Addr) (c' : Nat) (ys : List Tx) (hx : a.eval x = .slice A' ys.length c') (hrd : Rd W W.heap.size A' (scells ys))
    (hlen : ys.length ≤ 4294967296) (hB : B ≤ W.heap.size)
    (h : ∀ A2 c2 w', OwnS w' B A2 c2 ys → Below W.heap.size W w' → K (a.put o.dst (.slice A2 ys.length c2)) w') : o.wp Tryd.prog a W K Q := by
  obtain ⟨i0, hi, hz0, hz1, hz2⟩ := info_parts Tryd.info_string
  have hempty : OwnS W B (some ⟨g, 0, none⟩) 0 [] := ⟨rfl, .inr ⟨g, 0, #[], rfl, hBg, hg, Nat.le_refl _, Nat.zero_le _, rfl, rfl⟩⟩
  by_cases hy : ys = []
  · subst hy
    have hr : (Builtin.append_ #[23, 23] o.type #[.slice (some ⟨g, 0, none⟩) 0 0, .slice A' 0 c']).run Tryd.prog W = .ok (.slice (some ⟨g, 0, none⟩) 0 0) W := by
      cases A' <;> simp [Builtin.append_, run_underlying Tryd.underlying23, sizeOf, typeInfo, hi, Builtin.lenOf, Builtin.firstCells, storeCells, loadCells, loadCellsFrom]
    unfold Oper.wp execOp
    simp only [ho, Go.resolve, invoke, builtin, Sem.run_bind, Sem.run_pure, Result.andThen_ok, List.map_toArray, List.map_cons, List.map_nil, hs, hx, List.length_nil, hr]
    exact h _ _ W hempty (Below.refl _ _)
  · obtain ⟨b, o', rfl, hb, hc⟩ := hrd (by simpa [scells] using hy)
    have hpos : 0 < ys.length := List.length_pos_iff.2 hy
    obtain ⟨v', w', hr, hown, hgr⟩ := run_append_arg_grows (P := Tryd.prog) W 23 o.type _ i0 _ 1 16 Tryd.underlying23 hi hz0 hz1 hz2 rfl (by decide) ⟨g, 0, none⟩ 0 0 [] rfl (fun j u hu => by simp at hu) ⟨b, o', none⟩ ys.length c' (scells ys) (by simp [scells]) (fun j u hu => by rw [Addr.add_lit]; exact hc j u hu) (by omega) (by unfold maxLen; omega) (by omega)
    obtain ⟨A2, c2, rfl, _, _⟩ := own_shape hown
    unfold Oper.wp execOp
    simp only [ho, Go.resolve, invoke, builtin, Sem.run_bind, Sem.run_pure, Result.andThen_ok, List.map_toArray, List.map_cons, List.map_nil, hs, hx, hr]
    rw [Nat.zero_add] at hown ⊢
    rw [List.nil_append] at hown
    exact h _ _ w' (own_base hown hB) (grown_to_below hgr (Nat.le_refl _) (fun g e => by cases e))
/-- a location whose path lies in a row of the call's own -/
def bLoc (B : Nat) (l : Lc) : TyB := fun w v => ∃ A c, v = lcV l A c ∧ OwnS w B A c l.path
theorem keeps_bLoc {B : Nat} {l : Lc} : ∀ w w' x, KB w w' → bLoc B l w x → bLoc B l w' x := fun _ _ _ hk ⟨A, c, h1, h2⟩ => ⟨A, c, h1, own_below h2 hk⟩
def bOwnT (B : Nat) (xs : List Tx) : TyB := fun w v => ∃ A c, v = .slice A xs.length c ∧ OwnS w B A c xs
theorem keeps_bOwnT {B : Nat} {xs : List Tx} : ∀ w w' x, KB w w' → bOwnT B xs w x → bOwnT B xs w' x := fun _ _ _ hk ⟨A, c, h1, h2⟩ => ⟨A, c, h1, own_below h2 hk⟩
theorem cutP_hit (t : Tx) (w : World) : Calls Tryd.prog 17 #[.string ⟨((47 : UInt8) :: t).toArray⟩, .string ⟨#[47]⟩] w fun e w' => e = .returned (.tuple #[sv t, .bool true]) ∧ w' = w := by
  have h := Tryd.strings_CutPrefix ⟨((47 : UInt8) :: t).toArray⟩ ⟨#[47]⟩ w
  have e1 : Lib.hasPrefix (47 :: t) [47] = true := by simp [Lib.hasPrefix]
  have e2 : Lib.trimPrefix (47 :: t) [47] = t := by unfold Lib.trimPrefix; rw [if_pos e1]; rfl
  have e : (⟨#[47]⟩ : ByteArray).data.toList = [47] := rfl
  rw [e] at h
  simp only [e1, e2] at h
  exact h
theorem cutP_miss (s : Tx) (hs : s.head? ≠ some 47) (w : World) : Calls Tryd.prog 17 #[.string ⟨s.toArray⟩, .string ⟨#[47]⟩] w fun e w' => e = .returned (.tuple #[sv s, .bool false]) ∧ w' = w := by
  have h := Tryd.strings_CutPrefix ⟨s.toArray⟩ ⟨#[47]⟩ w
  have e0 : s = [] ∨ ∃ c t, s = c :: t ∧ ¬ (47 : UInt8) = c := by
    cases s with
    | nil => exact .inl rfl
    | cons c t => exact .inr ⟨c, t, rfl, fun e => hs (by rw [← e]; rfl)⟩
  have e1 : Lib.hasPrefix s [47] = false := by
    rcases e0 with rfl | ⟨c, t, rfl, hc⟩ <;> simp [Lib.hasPrefix, List.isPrefixOf, *]
  have e2 : Lib.trimPrefix s [47] = s := by
    rcases e0 with rfl | ⟨c, t, rfl, hc⟩ <;> simp [Lib.trimPrefix, *]
  have e : (⟨#[47]⟩ : ByteArray).data.toList = [47] := rfl
  rw [e] at h
  simp only [e1, e2] at h
  exact h
theorem cut_at (s : Tx) (c : UInt8) (hl : s.length ≤ 4294967296) (w : World) : Calls Tryd.prog 16 #[.string ⟨s.toArray⟩, .string ⟨#[c]⟩] w fun e w' => e = .returned (.tuple #[sv (s.take (at_ c s)), sv (s.drop (at_ c s + 1)), .bool (has c s)]) ∧ ∃ n, w' = w.drewN n := by
  have h := strings_Cut s c hl w
  have hle := at_le c s
  have e1 : (if has c s then s.take (at_ c s) else s) = s.take (at_ c s) := by
    split
    · rfl
    · next hn => rw [List.take_of_length_le]; simp [has] at hn; omega
  have e2 : (if has c s then s.drop (at_ c s + 1) else []) = s.drop (at_ c s + 1) := by
    split
    · rfl
    · next hn => rw [List.drop_eq_nil_of_le]; simp [has] at hn; omega
  rw [e1, e2] at h
  exact h
theorem hm_pos {w : World} (h : Hm w) : 0 < w.heap.size := by
  obtain ⟨m, h⟩ := h
  rcases Nat.eq_zero_or_pos w.heap.size with h0 | h0
  · have : w.heap[(0 : Nat)]? = none := Array.getElem?_eq_none (by omega)
    simp [World.cell?, this] at h
  · exact h0
end Go.Proofs.YtjlaelkdmgcniaaDoor
