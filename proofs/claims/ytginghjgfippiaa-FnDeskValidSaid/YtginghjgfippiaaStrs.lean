/- Slices of texts that the call itself has made; strings.Join by its contract. -/
import Derived.Test.YtginghjgfippiaaBase
import Derived.Lib.Join
import Derived.Deep.AppendLies
namespace Go.Proofs.Ytginghjgfippiaa
open Go.RowKit

theorem Try.info_string : (Try.prog.info? 9).map (fun i => (i.zero, i.size, i.bytes)) = some (some (.string ⟨#[]⟩), 1, 16) := by kernel_rfl
/-- texts in a row of the call's own -/
def OwnS (w : World) (base : Nat) (A : Option Addr) (c : Nat) (xs : List Tx) : Prop := w.ownsRow base 9 1 (.slice A xs.length c) xs.length (xs.map sv)
def NewS (w : World) (xs : List Tx) (e : Ending) (w' : World) : Prop := ∃ A c, e = .returned (.slice A xs.length c) ∧ OwnS w' w.heap.size A c xs ∧ Below w.heap.size w w'
def NewSB (w : World) (r : List Tx × Bool) (e : Ending) (w' : World) : Prop := ∃ A c, e = .returned (.tuple #[.slice A r.1.length c, .bool r.2]) ∧ OwnS w' w.heap.size A c r.1 ∧ Below w.heap.size w w'
theorem ownS_nil (w : World) (base : Nat) : OwnS w base none 0 [] := World.ownsRow_nil w base _ 1
theorem ownS_empty (w : World) (base : Nat) (h : base ≤ w.heap.size) : OwnS (w.alloc (.cells #[] 9)) base (some ⟨w.heap.size, 0, none⟩) 0 [] := World.ownsRow_lit w #[] 0 h (by simp [maxLen]) rfl
theorem ownS_keep {w w' : World} {base c : Nat} {A : Option Addr} {xs : List Tx} (h : OwnS w base A c xs) (hb : Below w.heap.size w w') : OwnS w' base A c xs := own_below h hb
theorem ownS_dn {w : World} {base c n : Nat} {A : Option Addr} {xs : List Tx} (h : OwnS w base A c xs) (_ : Below w.heap.size w w) : OwnS (w.drewN n) base A c xs := own_below h (below_drewN (Below.refl _ _) n)
theorem ownS_rd {w : World} {base c : Nat} {A : Option Addr} {xs : List Tx} (h : OwnS w base A c xs) : Rd w w.heap.size A (xs.map sv) := Rd.of_own h
theorem ownS_row {w : World} {base c : Nat} {A : Option Addr} {xs : List Tx} (h : OwnS w base A c xs) : ∀ g, Value.ownBlock (.slice A xs.length c) = some g → base ≤ g := fun g hg => (h.lt g hg).1
theorem ownS_cap {w : World} {base c : Nat} {A : Option Addr} {xs : List Tx} (h : OwnS w base A c xs) : xs.length ≤ c := by
  obtain ⟨A', c', e, hc, _⟩ := own_shape h
  injection e with _ _ e3
  omega
theorem app_str {ops : Array Oper} {rest : List Oper} {o : Oper} {a : Act} {Q : Exit → Act → World → Prop} {W : World} (hgd : o.guard = none) (s x : Operand)
    (ho : o.op = .call { callee := .builtin .append, args := #[s, x], argTypes := #[25, 25] }) (base : Nat) (A : Option Addr) (c n : Nat) (xs : List Tx) (p : Tx)
    (hs : a.eval s = .slice A n c) (hn : n = xs.length) (hown : OwnS W base A c xs) (g : Nat) (hx : a.eval x = .slice (some ⟨g, 0, none⟩) 1 1) (hg : g = W.heap.size) (hlen : xs.length ≤ 4294967296) (hbase : base ≤ W.heap.size)
    (h : ∀ A' c' w', OwnS w' base A' c' (xs ++ [p]) → W.grownBy w' (Value.ownBlock (.slice A xs.length c)) → wpList Try.prog ops Q rest (a.put o.dst (.slice A' (xs.length + 1) c')) w') :
    wpList Try.prog ops Q (o :: rest) a (W.alloc (.cells #[sv p] 9)) := by
  subst hn
  subst hg
  obtain ⟨i0, hi, hz0, hz1, hz2⟩ := info_parts Try.info_string
  refine wpList_append_own _ hgd s x _ ho base _ i0 _ 1 16 Try.underlying25 hi hz0 hz1 hz2 rfl (by decide) _ _ _ hs (World.ownsRow.alloc hown _) ⟨W.heap.size, 0, none⟩ 1 1 [sv p] hx rfl ?_ ?_ (by unfold maxLen; omega) (by omega) (by simp; omega) ?_
  · intro j u hj
    have h1 : (W.alloc (.cells #[sv p] 9)).cell? ⟨W.heap.size, j, none⟩ = #[sv p][j]? := World.cell?_alloc_at _ _ _ _ rfl
    rw [Addr.add_lit, Nat.zero_add, h1]
    simpa using hj
  · intro u hu
    simp at hu
    subst hu
    rfl
  · intro v' w' ho' hg' _
    obtain ⟨A', c', rfl, _, _⟩ := own_shape ho'
    refine h A' c' w' ?_ (grown_trans (World.grownBy_alloc W _ _) hg')
    unfold OwnS
    rw [List.length_append, List.map_append]
    exact ho'

/-- one text appended, at a step of a region that draws its order -/
theorem step_app_str {ops : Array Oper} {o : Oper} {a : Act} {K : Act → World → Prop} {Q : Exit → Act → World → Prop} {E : Prop} {w : World} (hgd : o.guard = none) (s x : Operand)
    (ho : o.op = .call { callee := .builtin .append, args := #[s, x], argTypes := #[25, 25] }) (base : Nat) (A : Option Addr) (c n : Nat) (xs : List Tx) (p : Tx)
    (hs : a.eval s = .slice A n c) (hn : n = xs.length) (hown : OwnS w base A c xs) (g : Nat) (hx : a.eval x = .slice (some ⟨g, 0, none⟩) 1 1) (hg : w.heap[g]? = some (.cells #[sv p] 9 (0, 0))) (hlen : xs.length ≤ 4294967296) (hbase : base ≤ w.heap.size)
    (h : ∀ A' c' w', OwnS w' base A' c' (xs ++ [p]) → w.grownBy w' (Value.ownBlock (.slice A xs.length c)) → K (a.put o.dst (.slice A' (xs.length + 1) c')) w') :
    if Region.wanted o (yielded ops a.tmps) = true then Oper.wp Try.prog o a w K Q else E := by
  subst hn
  obtain ⟨i0, hi, hz0, hz1, hz2⟩ := info_parts Try.info_string
  refine step_append_lies w hgd s x _ ho base _ i0 _ 1 16 Try.underlying25 hi hz0 hz1 hz2 rfl (by decide) _ xs.length (xs.map sv) hs hown ⟨g, 0, none⟩ 1 1 [sv p] hx rfl (World.news_of_block (cs := #[sv p]) hg) ?_ (by omega) (by unfold maxLen; omega) (by omega) hbase _ rfl ?_
  · intro u hu
    simp at hu
    subst hu
    rfl
  · intro g' cap w' ho' hg' _ _
    refine h _ _ w' ?_ hg'
    unfold OwnS
    rw [List.length_append, List.map_append]
    exact ho'

/-! ### texts put together -/
theorem join_len (xs : List Tx) (sep : Tx) (n m : Nat) (hn : (xs.map (fun x => x.length + sep.length)).sum ≤ n) (hm : n ≤ m) : (Lib.join xs sep).length ≤ m := by
  refine Nat.le_trans ?_ (Nat.le_trans hn hm)
  clear hn hm
  cases xs with
  | nil => simp [Lib.join_nil]
  | cons x r =>
    rw [Lib.join_cons, List.length_append, Lib.joinTail_length]
    have : (r.map (fun x => x.length + sep.length)).sum = sep.length * r.length + Lib.lens r := by
      induction r with
      | nil => rfl
      | cons y r ih =>
        rw [List.map_cons, List.sum_cons, ih, List.length_cons, Nat.mul_succ]
        simp only [Lib.lens, List.map_cons, List.sum_cons]
        omega
    rw [List.map_cons, List.sum_cons, this]
    omega
theorem join_snoc (xs : List Tx) (x sep : Tx) : Lib.join (xs ++ [x]) sep = if xs = [] then x else Lib.join xs sep ++ sep ++ x := by
  cases xs with
  | nil => simp [Lib.join_one]
  | cons y r =>
    rw [List.cons_append, Lib.join_cons, Lib.join_cons, if_neg (by simp)]
    simp [Lib.joinTail, List.append_assoc]

end Go.Proofs.Ytginghjgfippiaa
