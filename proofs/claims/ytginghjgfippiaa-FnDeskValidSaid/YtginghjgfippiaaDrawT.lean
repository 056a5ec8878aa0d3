/- What an operation of a drawing region yields: predicates that stay, and how the draws' operations keep to them. -/
import Derived.Test.YtginghjgfippiaaTyped
import Derived.Test.YtginghjgfippiaaDraw
import Derived.Test.YtginghjgfippiaaOpen
namespace Go.Proofs.Ytginghjgfippiaa
open Go.RowKit

abbrev Kp (g : Nat) (w w' : World) : Prop := w.grownBy w' (some g)
abbrev Ty := World → Value → Prop

def tAny : Ty := fun _ _ => True
def tIs (v0 : Value) : Ty := fun _ v => v = v0
def tNum (n : Int) : Ty := fun _ v => ∃ k : Nat, v = .int .i64 (k : Int) ∧ ((k : Int) < n ∨ k = 0)
def tInt (lo hi : Int) : Ty := fun _ v => ∃ z : Int, v = .int .i64 z ∧ lo ≤ z ∧ z ≤ hi
def tTxt (B : Nat) : Ty := fun _ v => ∃ l : Tx, v = sv l ∧ l.length ≤ B
def tPr (B : Nat) : Ty := fun _ v => ∃ a b : Tx, v = .agg #[sv a, sv b] ∧ a.length ≤ B ∧ b.length ≤ B
/-- a row that was laid just now, of n elements; its cells keep to C -/
def tRow (g n : Nat) (C : List Value → Prop) : Ty := fun w v => ∃ b cs t fr, v = .slice (some ⟨b, 0, none⟩) n n ∧ b ≠ g ∧ w.heap[b]? = some (.cells cs t fr) ∧ C cs.toList
def tAdrS (g B : Nat) : Ty := fun w v => ∃ b o, ∃ l : Tx, v = .pointer (some ⟨b, o, none⟩) ∧ b ≠ g ∧ w.cell? ⟨b, o, none⟩ = some (sv l) ∧ l.length ≤ B
def tAdrP (g B : Nat) : Ty := fun w v => ∃ b o, ∃ x y : Tx, v = .pointer (some ⟨b, o, none⟩) ∧ b ≠ g ∧ w.cell? ⟨b, o, none⟩ = some (sv x) ∧ w.cell? ⟨b, o + 1, none⟩ = some (sv y) ∧ x.length ≤ B ∧ y.length ≤ B
def tAdrI (g : Nat) (lo hi : Int) : Ty := fun w v => ∃ b o, ∃ z : Int, v = .pointer (some ⟨b, o, none⟩) ∧ b ≠ g ∧ w.cell? ⟨b, o, none⟩ = some (.int .i64 z) ∧ lo ≤ z ∧ z ≤ hi
def tOneP (g B : Nat) (t : TypeId) : Ty := fun w v => ∃ b, ∃ x y : Tx, v = .slice (some ⟨b, 0, none⟩) 1 1 ∧ b ≠ g ∧ w.heap[b]? = some (.cells #[sv x, sv y] t (0, 0)) ∧ x.length ≤ B ∧ y.length ≤ B

def Stays (g : Nat) (F : Ty) : Prop := ∀ w w' v, Kp g w w' → F w v → F w' v

section
variable {g : Nat} {w w' : World}
theorem kp_block (h : Kp g w w') {b : Nat} {x : Obj} (hb : b ≠ g) (hx : w.heap[b]? = some x) : w'.heap[b]? = some x := by
  have hlt : b < w.heap.size := by
    rcases Nat.lt_or_ge b w.heap.size with h1 | h1
    · exact h1
    · rw [Array.getElem?_eq_none h1] at hx; cases hx
  rw [h.block b hlt (fun e => hb (by injection e))]
  exact hx
theorem cell_lt {b o : Nat} {x : Value} (h : w.cell? ⟨b, o, none⟩ = some x) : b < w.heap.size := by
  rcases Nat.lt_or_ge b w.heap.size with h1 | h1
  · exact h1
  · simp [World.cell?, Array.getElem?_eq_none h1] at h
theorem kp_cell (h : Kp g w w') {b o : Nat} {x : Value} (hb : b ≠ g) (hx : w.cell? ⟨b, o, none⟩ = some x) : w'.cell? ⟨b, o, none⟩ = some x := by
  rw [World.cell?_of_block (a := ⟨b, o, none⟩) (h.block b (cell_lt hx) (fun e => hb (by injection e)))]
  exact hx
end

section
variable {g : Nat}
theorem stays_any : Stays g tAny := fun _ _ _ _ _ => trivial
theorem stays_is (v : Value) : Stays g (tIs v) := fun _ _ _ _ h => h
theorem stays_num (n : Int) : Stays g (tNum n) := fun _ _ _ _ h => h
theorem stays_int (a b : Int) : Stays g (tInt a b) := fun _ _ _ _ h => h
theorem stays_txt (n : Nat) : Stays g (tTxt n) := fun _ _ _ _ h => h
theorem stays_pr (n : Nat) : Stays g (tPr n) := fun _ _ _ _ h => h
theorem stays_row (n : Nat) (C : List Value → Prop) : Stays g (tRow g n C) := fun _ _ _ hk ⟨b, cs, t, fr, h1, h2, h3, h4⟩ => ⟨b, cs, t, fr, h1, h2, kp_block hk h2 h3, h4⟩
theorem stays_adrS (n : Nat) : Stays g (tAdrS g n) := fun _ _ _ hk ⟨b, o, l, h1, h2, h3, h4⟩ => ⟨b, o, l, h1, h2, kp_cell hk h2 h3, h4⟩
theorem stays_adrP (n : Nat) : Stays g (tAdrP g n) := fun _ _ _ hk ⟨b, o, x, y, h1, h2, h3, h4, h5⟩ => ⟨b, o, x, y, h1, h2, kp_cell hk h2 h3, kp_cell hk h2 h4, h5⟩
theorem stays_adrI (a b : Int) : Stays g (tAdrI g a b) := fun _ _ _ hk ⟨b, o, z, h1, h2, h3, h4⟩ => ⟨b, o, z, h1, h2, kp_cell hk h2 h3, h4⟩
theorem stays_oneP (n : Nat) (t : TypeId) : Stays g (tOneP g n t) := fun _ _ _ hk ⟨b, x, y, h1, h2, h3, h4⟩ => ⟨b, x, y, h1, h2, kp_block hk h2 h3, h4⟩

/-! ### the world: the reader, what was there, and how many operations -/
def DW (w0 : World) (B g q m : Nat) (w : World) : Prop := Rdr w B g (q + m) ∧ w0.grownBy w (some g)
theorem DW.next {w0 w w' : World} {B q m : Nat} (h : DW w0 B g q m w) (hb : Below w.heap.size w w') : DW w0 B g q (m + 1) w' := ⟨(h.1.keep hb).more (by omega), grown_below h.2 hb⟩
theorem DW.same {w0 w : World} {B q m : Nat} (h : DW w0 B g q m w) : DW w0 B g q (m + 1) w := h.next (Below.refl _ _)
theorem kp_refl (w : World) : Kp g w w := grown_refl w _
theorem kp_below {w w' : World} (h : Below w.heap.size w w') : Kp g w w' := below_grownBy h _
theorem DW.new {w0 w : World} {B q m : Nat} (h : DW w0 B g q m w) : w.heap.size ≠ g := by have := h.1.lt; omega
end

/-! ### a row's element -/
/-- n texts of at most B bytes -/
abbrev cTxt (B n : Nat) (cs : List Value) : Prop := okS B n cs = true
abbrev cPr (B n : Nat) (cs : List Value) : Prop := okP B n cs = true
def okI : Int → Int → Nat → List Value → Bool
  | _, _, 0, [] => true
  | lo, hi, n + 1, .int .i64 z :: t => decide (lo ≤ z) && decide (z ≤ hi) && okI lo hi n t
  | _, _, _, _ => false
theorem okI_get : ∀ (lo hi : Int) (n : Nat) (cs : List Value), okI lo hi n cs = true → ∀ k, k < n → ∃ z : Int, cs[k]? = some (.int .i64 z) ∧ lo ≤ z ∧ z ≤ hi
  | lo, hi, n + 1, .int .i64 z :: t, h, 0, _ => by
    simp only [okI, Bool.and_eq_true, decide_eq_true_eq] at h
    exact ⟨z, rfl, h.1.1, h.1.2⟩
  | lo, hi, n + 1, .int .i64 z :: t, h, k + 1, hk => by
    simp only [okI, Bool.and_eq_true] at h
    obtain ⟨x, h1, h3⟩ := okI_get lo hi n t h.2 k (by omega)
    exact ⟨x, by simpa using h1, h3⟩
  | _, _, 0, _, _, k, hk => absurd hk (by omega)
abbrev cInt (lo hi : Int) (n : Nat) (cs : List Value) : Prop := okI lo hi n cs = true

theorem row_txt {g B n : Nat} {w : World} {b k : Nat} {cs : Array Value} {t : TypeId} {fr : Nat × Nat} (hb : b ≠ g) (h : w.heap[b]? = some (.cells cs t fr)) (hC : cTxt B n cs.toList) (hk : k < n) : tAdrS g B w (.pointer (some ⟨b, k, none⟩)) := by
  obtain ⟨l, h1, h2⟩ := lit_str h hC hk
  exact ⟨b, k, l, rfl, hb, h1, h2⟩
theorem row_pr {g B n : Nat} {w : World} {b k : Nat} {cs : Array Value} {t : TypeId} {fr : Nat × Nat} (hb : b ≠ g) (h : w.heap[b]? = some (.cells cs t fr)) (hC : cPr B n cs.toList) (hk : k < n) : tAdrP g B w (.pointer (some ⟨b, k * 2, none⟩)) := by
  obtain ⟨x, y, h1, h2, h3, h4⟩ := lit_pair h hC hk
  exact ⟨b, k * 2, x, y, rfl, hb, h1, h2, h3, h4⟩
theorem row_int {g n : Nat} {lo hi : Int} {w : World} {b k : Nat} {cs : Array Value} {t : TypeId} {fr : Nat × Nat} (hb : b ≠ g) (h : w.heap[b]? = some (.cells cs t fr)) (hC : cInt lo hi n cs.toList) (hk : k < n) : tAdrI g lo hi w (.pointer (some ⟨b, k, none⟩)) := by
  obtain ⟨z, h1, h2⟩ := okI_get lo hi n _ hC k hk
  refine ⟨b, k, z, rfl, hb, ?_, h2⟩
  rw [cell_of_row w b _ cs t fr h, ← Array.getElem?_toList]; exact h1

theorem num_lt {k : Nat} {n : Int} (h : (k : Int) < n ∨ k = 0) (hn : 0 < n) : (k : Int) < n := by omega
theorem slotE {a : Array Value} {d : Nat} {v : Value} (h : a.getD d undef = v) : a[d]?.getD undef = v := by
  rw [← h]; simp


/-- the reader turns, the call's own row stays -/
theorem own_g {w w' : World} {g base size n : Nat} {e : TypeId} {v : Value} {xs : List Value} (h : w.ownsRow base e size v n xs) (hg : w.grownBy w' (some g)) (hlt : g < base) : w'.ownsRow base e size v n xs := by
  refine h.kept hg ?_
  cases ho : v.ownBlock with
  | none => exact .inl rfl
  | some k => exact .inr (by have := (h.lt k ho).1; intro e; injection e; omega)
theorem own_lt {w : World} {g base size n : Nat} {e : TypeId} {v : Value} {xs : List Value} (h : w.ownsRow base e size v n xs) (hlt : g < base) : ∀ k, v.ownBlock = some k → g < k := fun k hk => by have := (h.lt k hk).1; omega
/-- behind an append to a row of the call's own -/
theorem grown_own {w0 w w' : World} {g base : Nat} {row : Option Nat} (h : w0.grownBy w (some g)) (hg : w.grownBy w' row) (hb : w0.heap.size ≤ base) (hr : ∀ k, row = some k → base ≤ k) : w0.grownBy w' (some g) :=
  ⟨hg.os.trans h.os, hg.tape.trans h.tape, hg.output.trans h.output, Nat.le_trans h.size hg.size, fun k hk hn => (hg.block k (Nat.lt_of_lt_of_le hk h.size) (fun e => by have := hr k e.symm; omega)).trans (h.block k hk hn)⟩

/-- short texts -/
def Small (ps : List Pr) : Prop := ps.length ≤ 2000000 ∧ ∀ p ∈ ps, p.1.length ≤ 100 ∧ p.2.length ≤ 100

theorem small_fit {ps : List Pr} (h : Small ps) : Fit ps := fun p hp => by
  have := h.2 p hp
  unfold maxLen
  omega


end Go.Proofs.Ytginghjgfippiaa
