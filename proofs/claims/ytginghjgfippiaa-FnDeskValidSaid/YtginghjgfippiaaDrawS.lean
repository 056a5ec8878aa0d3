/- Drawn texts in rows of the call's own. No function of the program is walked here. -/
import Derived.Test.YtginghjgfippiaaDrawT
import Derived.Test.YtginghjgfippiaaStrs
namespace Go.Proofs.Ytginghjgfippiaa
open Go.RowKit

/-- a row of one text of at most n bytes, in a block of its own -/
def tOneS (g n : Nat) : Ty := fun w v => ∃ b, ∃ x : Tx, v = .slice (some ⟨b, 0, none⟩) 1 1 ∧ b ≠ g ∧ w.heap[b]? = some (.cells #[sv x] 9 (0, 0)) ∧ x.length ≤ n
theorem stays_tOneS {g n : Nat} : Stays g (tOneS g n) := fun _ _ _ hk ⟨b, x, h1, h2, h3, h4⟩ => ⟨b, x, h1, h2, kp_block hk h2 h3, h4⟩

/-- one text that lies in a block of its own, appended to texts of the call's own -/
theorem app_str_at {ops : Array Oper} {rest : List Oper} {o : Oper} {a : Act} {Q : Exit → Act → World → Prop} {W : World} (hgd : o.guard = none) (s x : Operand)
    (ho : o.op = .call { callee := .builtin .append, args := #[s, x], argTypes := #[25, 25] }) (base : Nat) (A : Option Addr) (c : Nat) (xs : List Tx) (u : Tx)
    (hs : a.eval s = .slice A xs.length c) (hown : OwnS W base A c xs) (b : Nat) (hx : a.eval x = .slice (some ⟨b, 0, none⟩) 1 1) (hh : W.heap[b]? = some (.cells #[sv u] 9 (0, 0))) (hlen : xs.length ≤ 4294967296) (hbase : base ≤ W.heap.size)
    (h : ∀ A' c' w', OwnS w' base A' c' (xs ++ [u]) → W.grownBy w' (Value.ownBlock (.slice A xs.length c)) → wpList Try.prog ops Q rest (a.put o.dst (.slice A' (xs ++ [u]).length c')) w') :
    wpList Try.prog ops Q (o :: rest) a W := by
  obtain ⟨i0, hi, hz0, hz1, hz2⟩ := info_parts Try.info_string
  refine wpList_append_own _ hgd s x _ ho base _ i0 _ 1 16 Try.underlying25 hi hz0 hz1 hz2 rfl (by decide) _ _ _ hs hown ⟨b, 0, none⟩ 1 1 [sv u] hx rfl ?_ ?_ (by unfold maxLen; omega) (by omega) hbase ?_
  · intro j z hj
    rw [Addr.add_lit, Nat.zero_add, cell_of_row W b j _ _ _ hh]
    simpa using hj
  · intro z hz
    simp at hz
    subst hz
    rfl
  · intro v' w' ho' hg' _
    obtain ⟨A', c', rfl, _, _⟩ := own_shape ho'
    have hl : (xs ++ [u]).length = xs.length + 1 := by simp
    rw [hl] at h
    refine h A' c' w' ?_ hg'
    unfold OwnS
    rw [List.length_append, List.map_append]
    exact ho'
theorem ownS_set {w : World} {base c g k : Nat} {xs : List Tx} (h : OwnS w base (some ⟨g, 0, none⟩) c xs) (t : Tx) : OwnS (w.setCell ⟨g, k, none⟩ (sv t)) base (some ⟨g, 0, none⟩) c (xs.set k t) := by
  have h1 := (h.stored k (sv t)).1
  unfold OwnS
  rw [List.length_set, List.map_set]
  exact h1
theorem ownS_at {w : World} {base c g k : Nat} {xs : List Tx} (h : OwnS w base (some ⟨g, 0, none⟩) c xs) (hk : k < xs.length) : w.cell? ⟨g, k, none⟩ = some (sv xs[k]) ∧ w.frozen? ⟨g, k, none⟩ = false := by
  refine ⟨?_, h.frozenAt _⟩
  rw [h.cellAt k (by omega)]
  simp [hk]

theorem lit_int {w : World} {g k n : Nat} {lo hi : Int} {cs : Array Value} {t : TypeId} {fr : Nat × Nat} (h : w.heap[g]? = some (.cells cs t fr)) (hok : okI lo hi n cs.toList = true) (hk : k < n) : ∃ z : Int, w.cell? ⟨g, k, none⟩ = some (.int .i64 z) ∧ lo ≤ z ∧ z ≤ hi := by
  obtain ⟨z, h1, h2⟩ := okI_get lo hi n _ hok k hk
  exact ⟨z, by rw [cell_of_row w g _ cs t fr h, ← Array.getElem?_toList]; exact h1, h2⟩

/-- texts of at most B bytes -/
def ShortS (B : Nat) (xs : List Tx) : Prop := ∀ x ∈ xs, x.length ≤ B
theorem shortS_snoc {B : Nat} {xs : List Tx} {x : Tx} (h : ShortS B xs) (hx : x.length ≤ B) : ShortS B (xs ++ [x]) := by
  intro y hy
  rcases List.mem_append.1 hy with hy | hy
  · exact h y hy
  · simp at hy; subst hy; exact hx
theorem shortS_set {B k : Nat} {xs : List Tx} {x : Tx} (h : ShortS B xs) (hx : x.length ≤ B) : ShortS B (xs.set k x) := by
  intro y hy
  rcases List.mem_or_eq_of_mem_set hy with hy | hy
  · exact h y hy
  · rw [hy]; exact hx
/-- the call drew at most n texts of at most B bytes into a row of its own, and at most m numbers -/
def DrawnSs (w : World) (B g q m n L : Nat) (e : Ending) (w' : World) : Prop :=
  ∃ A c xs, e = .returned (.slice A (List.length xs) c) ∧ OwnS w' w.heap.size A c xs ∧ xs.length ≤ n ∧ ShortS L xs ∧ Rdr w' B g (q + m) ∧ w.grownBy w' (some g)
/-- the call drew a text of at most L bytes, and at most m numbers -/
def DrawnT (w : World) (B g q m L : Nat) (e : Ending) (w' : World) : Prop :=
  ∃ l : Tx, e = .returned (.string ⟨l.toArray⟩) ∧ l.length ≤ L ∧ Rdr w' B g (q + m) ∧ w.grownBy w' (some g)
/-- the call drew at most n texts of at most L bytes into a row of its own; below nothing has turned -/
def DrewSn (w : World) (n L : Nat) (e : Ending) (w' : World) : Prop :=
  ∃ A c xs, e = .returned (.slice A (List.length xs) c) ∧ OwnS w' w.heap.size A c xs ∧ xs.length ≤ n ∧ ShortS L xs ∧ Below w.heap.size w w'
def DrewT (w : World) (L : Nat) (e : Ending) (w' : World) : Prop :=
  ∃ l : Tx, e = .returned (.string ⟨l.toArray⟩) ∧ l.length ≤ L ∧ Below w.heap.size w w'
theorem below_reader {w w1 w2 : World} (hb1 : Below w.heap.size w w1) (hg : w1.grownBy w2 (some w.heap.size)) : Below w.heap.size w w2 := hb1.trans (grown_to_below hg hb1.size (fun g h => by injection h; omega))
end Go.Proofs.Ytginghjgfippiaa
