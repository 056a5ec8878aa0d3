/- Outlines of parts: plain functions, and rows of lines beside a box. No function of the program is walked here. -/
import Derived.Test.YtginghjgfippiaaPartV
import Derived.Maps.AppendAt
namespace Go.Proofs.Ytginghjgfippiaa
open Go.RowKit
namespace Pt
mutual
/-- the lines of a part -/
def line : Pt → Tx → List Tx
  | mk k t n xs ys, b =>
    if k = 1 then [b ++ ([116, 101, 120, 116, 32] ++ t)]
    else if k = 2 then [b ++ ([104, 111, 108, 101, 32] ++ n)]
    else if k = 4 then (b ++ ([101, 97, 99, 104, 32] ++ n)) :: lines xs (b ++ [32])
    else (b ++ ([105, 102, 32] ++ n)) :: (lines xs (b ++ [32]) ++ (if ys = [] then [] else (b ++ [101, 108, 115, 101]) :: lines ys (b ++ [32])))
def lines : List Pt → Tx → List Tx
  | [], _ => []
  | x :: s, b => line x b ++ lines s b
end
theorem lines_take : ∀ (xs : List Pt) (b : Tx) (j : Nat) (h : j < xs.length), lines (xs.take (j + 1)) b = lines (xs.take j) b ++ line xs[j] b
  | x :: s, b, 0, _ => by simp [lines]
  | x :: s, b, j + 1, h => by
    have := lines_take s b j (by simpa using h)
    simp only [List.take_succ_cons, lines, this, List.getElem_cons_succ, List.append_assoc]
theorem lines_of {xs : List Pt} (h : ∀ x ∈ xs, ∀ b, (line x b).length ≤ 2 * many x) (b : Tx) : (lines xs b).length ≤ 2 * manys xs := by
  induction xs with
  | nil => simp [lines, manys]
  | cons x t ih =>
    have h1 := h x (by simp) b
    have h2 := ih (fun y hy => h y (List.mem_cons_of_mem _ hy))
    simp only [lines, manys, List.length_append]
    omega
theorem line_len (x : Pt) : ∀ b, (line x b).length ≤ 2 * many x := by
  induction x using ind with
  | h k t n xs ys ih1 ih2 =>
    intro b
    have h1 := lines_of ih1 (b ++ [32])
    have h2 := lines_of ih2 (b ++ [32])
    simp only [line, many]
    by_cases k1 : k = 1
    · rw [if_pos k1]; simp; omega
    rw [if_neg k1]
    by_cases k2 : k = 2
    · rw [if_pos k2]; simp; omega
    rw [if_neg k2]
    by_cases k4 : k = 4
    · rw [if_pos k4]; simp; omega
    rw [if_neg k4]
    by_cases hy : ys = []
    · rw [if_pos hy]; simp; omega
    · rw [if_neg hy]
      have h3 := manys_len ys
      have h4 : 0 < ys.length := List.length_pos_iff.2 hy
      simp
      omega
theorem lines_len (xs : List Pt) (b : Tx) : (lines xs b).length ≤ 2 * manys xs := lines_of (fun x _ => line_len x) b
theorem oks_mem : ∀ {xs : List Pt} {d : Nat} {pv : Bool} {x : Pt}, oks xs d pv = true → x ∈ xs → ok x d = true
  | y :: s, d, pv, x, h, hx => by
    rw [oks, Bool.and_eq_true, Bool.and_eq_true] at h
    rcases List.mem_cons.1 hx with e | hx
    · subst e; exact h.1
    · exact oks_mem h.2.2 hx
/-- the kinds of right parts -/
theorem ok_kinds {k : Int} {t n : Tx} {xs ys : List Pt} {d : Nat} (h : ok (.mk k t n xs ys) d = true) :
    (k = 1 ∧ xs = [] ∧ ys = []) ∨ (k = 2 ∧ xs = [] ∧ ys = []) ∨ ((k = 3 ∨ k = 4 ∧ ys = []) ∧ ∃ d', d = d' + 1 ∧ oks xs d' false = true ∧ oks ys d' false = true) := by
  rw [ok] at h
  by_cases k1 : k = 1
  · rw [if_pos k1] at h
    simp only [Bool.and_eq_true, List.isEmpty_iff] at h
    exact .inl ⟨k1, h.2.2.1, h.2.2.2⟩
  rw [if_neg k1] at h
  by_cases k2 : k = 2
  · rw [if_pos k2] at h
    simp only [Bool.and_eq_true, List.isEmpty_iff] at h
    exact .inr (.inl ⟨k2, h.2.2.2.1, h.2.2.2.2⟩)
  rw [if_neg k2] at h
  by_cases k34 : k = 3 ∨ k = 4
  · rw [if_pos k34] at h
    simp only [Bool.and_eq_true, decide_eq_true_eq] at h
    obtain ⟨_, _, h3, h4, h5, h6⟩ := h
    obtain ⟨d', rfl⟩ : ∃ d', d = d' + 1 := ⟨d - 1, by omega⟩
    refine .inr (.inr ⟨?_, d', rfl, h5, h6⟩)
    rcases k34 with e | e
    · exact .inl e
    · refine .inr ⟨e, ?_⟩
      cases ys with
      | nil => rfl
      | cons y s => rw [e] at h3; simp at h3
  · rw [if_neg k34] at h; cases h
theorem manys_nil : manys [] = 0 := rfl
theorem lines_ge_of {xs : List Pt} {d : Nat} (h : ∀ x ∈ xs, ∀ d b, ok x d = true → many x ≤ (line x b).length) (b : Tx) : ∀ pv, oks xs d pv = true → manys xs ≤ (lines xs b).length := by
  induction xs with
  | nil => intro pv _; simp [lines, manys]
  | cons x t ih =>
    intro pv ho
    rw [oks, Bool.and_eq_true, Bool.and_eq_true] at ho
    have h1 := h x (by simp) d b ho.1
    have h2 := ih (fun y hy => h y (List.mem_cons_of_mem _ hy)) _ ho.2.2
    simp only [lines, manys, List.length_append]
    omega
theorem line_ge (x : Pt) : ∀ d b, ok x d = true → many x ≤ (line x b).length := by
  induction x using ind with
  | h k t n xs ys ih1 ih2 =>
    intro d b ho
    simp only [line, many]
    rcases ok_kinds ho with ⟨rfl, rfl, rfl⟩ | ⟨rfl, rfl, rfl⟩ | ⟨hk, d', rfl, hx, hy⟩
    · simp [manys]
    · simp [manys]
    · have h1 := lines_ge_of ih1 (b ++ [32]) _ hx
      have h2 := lines_ge_of ih2 (b ++ [32]) _ hy
      rw [if_neg (by omega), if_neg (by omega)]
      by_cases k4 : k = 4
      · rw [if_pos k4]
        have hys : ys = [] := by
          rcases hk with e | ⟨_, e⟩
          · omega
          · exact e
        rw [hys, manys_nil]
        simp
        omega
      rw [if_neg k4]
      by_cases he : ys = []
      · rw [if_pos he, he, manys_nil]; simp; omega
      · rw [if_neg he]; simp; omega
theorem lines_ge {xs : List Pt} {d : Nat} {pv : Bool} (b : Tx) (h : oks xs d pv = true) : manys xs ≤ (lines xs b).length := lines_ge_of (fun x _ => line_ge x) b pv h
theorem lines_ne_of {xs : List Pt} (h : ∀ x ∈ xs, ∀ b, ∀ l ∈ line x b, l ≠ []) (b : Tx) : ∀ l ∈ lines xs b, l ≠ [] := by
  induction xs with
  | nil => intro l hl; simp [lines] at hl
  | cons x t ih =>
    intro l hl
    rw [lines, List.mem_append] at hl
    rcases hl with hl | hl
    · exact h x (by simp) b l hl
    · exact ih (fun y hy => h y (List.mem_cons_of_mem _ hy)) l hl
theorem line_ne (x : Pt) : ∀ b, ∀ l ∈ line x b, l ≠ [] := by
  induction x using ind with
  | h k t n xs ys ih1 ih2 =>
    intro b l hl
    have h1 := lines_ne_of ih1 (b ++ [32]) l
    have h2 := lines_ne_of ih2 (b ++ [32]) l
    simp only [line] at hl
    by_cases k1 : k = 1
    · rw [if_pos k1] at hl; simp at hl; subst hl; simp
    rw [if_neg k1] at hl
    by_cases k2 : k = 2
    · rw [if_pos k2] at hl; simp at hl; subst hl; simp
    rw [if_neg k2] at hl
    by_cases k4 : k = 4
    · rw [if_pos k4] at hl
      rcases List.mem_cons.1 hl with e | hl
      · subst e; simp
      · exact h1 hl
    rw [if_neg k4] at hl
    rcases List.mem_cons.1 hl with e | hl
    · subst e; simp
    rcases List.mem_append.1 hl with hl | hl
    · exact h1 hl
    by_cases he : ys = []
    · rw [if_pos he] at hl; cases hl
    · rw [if_neg he] at hl
      rcases List.mem_cons.1 hl with e | hl
      · subst e; simp
      · exact h2 hl
theorem lines_ne (xs : List Pt) (b : Tx) : ∀ l ∈ lines xs b, l ≠ [] := lines_ne_of (fun x _ => line_ne x) b
end Pt

/-- one text that lies in a block of its own, appended to texts of the call's own; where the row lies then is told -/
theorem app_strb_at {ops : Array Oper} {rest : List Oper} {o : Oper} {a : Act} {Q : Exit → Act → World → Prop} {W : World} (hgd : o.guard = none) (s x : Operand)
    (ho : o.op = .call { callee := .builtin .append, args := #[s, x], argTypes := #[25, 25] }) (base : Nat) (A : Option Addr) (c : Nat) (xs : List Tx) (u : Tx)
    (hs : a.eval s = .slice A xs.length c) (hown : OwnS W base A c xs) (b : Nat) (hx : a.eval x = .slice (some ⟨b, 0, none⟩) 1 1) (hh : W.heap[b]? = some (.cells #[sv u] 9 (0, 0))) (hlen : xs.length ≤ 4294967296) (hbase : base ≤ W.heap.size)
    (h : ∀ A' c' w', OwnS w' base A' c' (xs ++ [u]) → W.grownBy w' (Value.ownBlock (.slice A xs.length c)) → (Value.ownBlock (.slice A' (xs.length + 1) c') = Value.ownBlock (.slice A xs.length c) ∨ Value.ownBlock (.slice A' (xs.length + 1) c') = some W.heap.size) → wpList Try.prog ops Q rest (a.put o.dst (.slice A' (xs ++ [u]).length c')) w') :
    wpList Try.prog ops Q (o :: rest) a W := by
  obtain ⟨i0, hi, hz0, hz1, hz2⟩ := info_parts Try.info_string
  refine wpList_append_own_at _ hgd s x _ ho base _ i0 _ 1 16 Try.underlying25 hi hz0 hz1 hz2 rfl (by decide) _ _ _ hs hown ⟨b, 0, none⟩ 1 1 [sv u] hx rfl ?_ ?_ (by unfold maxLen; omega) (by omega) hbase ?_
  · intro j z hj
    rw [Addr.add_lit, Nat.zero_add, cell_of_row W b j _ _ _ hh]
    simpa using hj
  · intro z hz
    simp at hz
    subst hz
    rfl
  · intro v' w' ho' hg' _ hbk
    obtain ⟨A', c', rfl, _, _⟩ := own_shape ho'
    have hl : (xs ++ [u]).length = xs.length + 1 := by simp
    rw [hl] at h
    refine h A' c' w' ?_ hg' hbk
    unfold OwnS
    rw [List.length_append, List.map_append]
    exact ho'
theorem run_append_none_any {P : Program} {w : World} (base : Nat) (t ty e : TypeId) (i : TypeInfo) (size c' : Nat) (ht : P.underlying t = some (.slice e)) (hi : P.info? e = some i)
    (v : Value) (n : Nat) (xs : List Value) (hown : w.ownsRow base e size v n xs) : (Builtin.append_ #[t, t] ty #[v, .slice none 0 c']).run P w = .ok v w := by
  rcases hown.2 with ⟨rfl, rfl⟩ | ⟨g, cap, cur, rfl, _, _, hnc, _⟩
  · simp [Builtin.append_, run_underlying ht, sizeOf, typeInfo, hi, Builtin.lenOf, Builtin.firstCells]
  · simp [Builtin.append_, run_underlying ht, sizeOf, typeInfo, hi, Builtin.lenOf, Builtin.firstCells, hnc, storeCells]
/-- texts that lie elsewhere, appended to texts of the call's own; where the row lies then is told -/
theorem app_texts_at {ops : Array Oper} {rest : List Oper} {o : Oper} {a : Act} {Q : Exit → Act → World → Prop} {W : World} (hgd : o.guard = none) (s x : Operand)
    (ho : o.op = .call { callee := .builtin .append, args := #[s, x], argTypes := #[25, 25] }) (base : Nat) (A : Option Addr) (c : Nat) (xs : List Tx)
    (hs : a.eval s = .slice A xs.length c) (hown : OwnS W base A c xs) (A' : Option Addr) (c' : Nat) (ys : List Tx) (hx : a.eval x = .slice A' ys.length c') (hrd : Rd W W.heap.size A' (scells ys))
    (hlx : xs.length ≤ 4294967296) (hly : ys.length ≤ 4294967296) (hbase : base ≤ W.heap.size)
    (h : ∀ A2 c2 w', OwnS w' base A2 c2 (xs ++ ys) → W.grownBy w' (Value.ownBlock (.slice A xs.length c)) → (Value.ownBlock (.slice A2 (xs.length + ys.length) c2) = Value.ownBlock (.slice A xs.length c) ∨ Value.ownBlock (.slice A2 (xs.length + ys.length) c2) = some W.heap.size) → wpList Try.prog ops Q rest (a.put o.dst (.slice A2 (xs ++ ys).length c2)) w') :
    wpList Try.prog ops Q (o :: rest) a W := by
  obtain ⟨i0, hi, hz0, hz1, hz2⟩ := info_parts Try.info_string
  have hl : (xs ++ ys).length = xs.length + ys.length := by simp
  rw [hl] at h
  cases A' with
  | none =>
    have hy : ys = [] := by
      refine Classical.byContradiction fun hne => ?_
      obtain ⟨b, o', e', _⟩ := hrd (by simpa [scells] using hne)
      cases e'
    subst hy
    have hr := run_append_none_any (P := Try.prog) base 25 o.type _ i0 1 c' Try.underlying25 hi _ _ _ hown
    refine wpList_plain hgd fun _ hK => ?_
    unfold Oper.wp execOp
    simp only [ho, resolve, invoke, builtin, Sem.run_bind, Sem.run_pure, Result.andThen_ok, List.map_toArray, List.map_cons, List.map_nil, hs, hx, List.length_nil, hr]
    exact hK _ _ (h A c W (by simpa using hown) (grown_refl _ _) (.inl rfl))
  | some ad =>
    refine wpList_append_own_at _ hgd s x _ ho base _ i0 _ 1 16 Try.underlying25 hi hz0 hz1 hz2 rfl (by decide) _ _ _ hs hown ad ys.length c' (scells ys) hx (by simp [scells]) ?_ (scells_one ys) (by unfold maxLen; omega) (by omega) hbase ?_
    · intro j z hj
      obtain ⟨b, o', e, _, hc⟩ := hrd (by intro e; rw [e] at hj; simp at hj)
      injection e with e
      subst e
      rw [Addr.add_lit]
      exact hc j z hj
    · intro v' w' ho' hg' _ hbk
      obtain ⟨A2, c2, rfl, _, _⟩ := own_shape ho'
      refine h A2 c2 w' ?_ hg' hbk
      unfold OwnS
      rw [List.length_append, List.map_append]
      exact ho'
/-- lines of the call's own beside a box -/
structure LSt (w wv : World) (bx : Nat) (cs : Array Value) (A : Option Addr) (c : Nat) (ls : List Tx) : Prop where
  own : OwnS wv w.heap.size A c ls
  box : wv.heap[bx]? = some (.cells cs 66 (0, 0))
  lt : bx < wv.heap.size
  ge : w.heap.size ≤ bx
  ne : ∀ k, Value.ownBlock (.slice A ls.length c) = some k → k ≠ bx
  bel : Below w.heap.size w wv
theorem LSt.keep {w wv w2 : World} {bx c : Nat} {cs : Array Value} {A : Option Addr} {ls : List Tx} (h : LSt w wv bx cs A c ls) (hb : Below wv.heap.size wv w2) : LSt w w2 bx cs A c ls :=
  ⟨ownS_keep h.own hb, bx_keep h.box hb, Nat.lt_of_lt_of_le h.lt hb.size, h.ge, h.ne, h.bel.trans (hb.mono h.bel.size)⟩
theorem LSt.app {w wv w2 : World} {bx c c2 : Nat} {cs : Array Value} {A A2 : Option Addr} {ls us : List Tx} (h : LSt w wv bx cs A c ls) (ho : OwnS w2 w.heap.size A2 c2 (ls ++ us)) (hg : wv.grownBy w2 (Value.ownBlock (.slice A ls.length c)))
    (hbk : Value.ownBlock (.slice A2 (ls.length + us.length) c2) = Value.ownBlock (.slice A ls.length c) ∨ Value.ownBlock (.slice A2 (ls.length + us.length) c2) = some wv.heap.size) : LSt w w2 bx cs A2 c2 (ls ++ us) :=
  ⟨ho, (hg.block bx h.lt (fun e => h.ne bx e.symm rfl)).trans h.box, Nat.lt_of_lt_of_le h.lt hg.size, h.ge, fun k hk => by
    rw [List.length_append] at hk
    rcases hbk with e | e
    · exact h.ne k (by rw [← e]; exact hk)
    · rw [e] at hk; injection hk with hk; have := h.lt; omega, h.bel.trans (grown_to_below hg h.bel.size (ownS_row h.own))⟩
end Go.Proofs.Ytginghjgfippiaa
