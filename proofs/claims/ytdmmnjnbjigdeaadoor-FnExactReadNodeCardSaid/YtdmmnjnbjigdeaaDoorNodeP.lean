/- Nodes: what they are, and how they lie in memory. No program is walked here. -/
import Derived.Test.YtdmmnjnbjigdeaaDoorStrS
import Derived.Test.YtdmmnjnbjigdeaaDoorTypedB
namespace Go.Proofs.YtdmmnjnbjigdeaaDoor
open Go.RowKit

inductive Nd where
  | mk (kind num : Int) (text : Tx) (names : List Tx) (inside : List Nd)
namespace Nd
def kind : Nd → Int | mk k _ _ _ _ => k
def num : Nd → Int | mk _ n _ _ _ => n
def text : Nd → Tx | mk _ _ t _ _ => t
def names : Nd → List Tx | mk _ _ _ ns _ => ns
def inside : Nd → List Nd | mk _ _ _ _ xs => xs
mutual
/-- how deep: a number for inductions -/
def deep : Nd → Nat
  | mk _ _ _ _ xs => deeps xs + 1
def deeps : List Nd → Nat
  | [] => 0
  | x :: t => max (deep x) (deeps t)
end
theorem deep_mem : ∀ {xs : List Nd} {x : Nd}, x ∈ xs → deep x ≤ deeps xs
  | y :: t, x, h => by
    rcases List.mem_cons.1 h with h | h
    · subst h; simp only [deeps]; omega
    · have := deep_mem h; simp only [deeps]; omega
theorem deep_lt {k n : Int} {t : Tx} {ns : List Tx} {xs : List Nd} {x : Nd} (h : x ∈ xs) : deep x < deep (mk k n t ns xs) := by
  have := deep_mem h
  simp only [deep]
  omega
/-- induction on nodes -/
theorem ind {P : Nd → Prop} (h : ∀ k n t ns xs, (∀ x ∈ xs, P x) → P (mk k n t ns xs)) (x : Nd) : P x := by
  have : ∀ d (x : Nd), deep x ≤ d → P x := by
    intro d
    induction d with
    | zero => intro x hx; cases x; simp [deep] at hx
    | succ d ih =>
      intro x hx
      cases x with
      | mk k n t ns xs => exact h k n t ns xs fun y hy => ih y (by have := deep_lt (k := k) (n := n) (t := t) (ns := ns) hy; omega)
  exact this _ x (Nat.le_refl _)
mutual
/-- equal: kinds, numbers, texts, names, and the nodes in them -/
def same : Nd → Nd → Bool
  | mk k n t ns xs, mk k' n' t' ns' xs' => k == k' && (n == n' && (t == t' && (ns == ns' && sames xs xs')))
def sames : List Nd → List Nd → Bool
  | [], [] => true
  | x :: t, y :: s => same x y && sames t s
  | _, _ => false
end
theorem sames_iff {xs : List Nd} (h : ∀ x ∈ xs, ∀ y, same x y = true ↔ x = y) : ∀ ys, sames xs ys = true ↔ xs = ys := by
  induction xs with
  | nil => intro ys; cases ys <;> simp [sames]
  | cons x t ih =>
    intro ys
    cases ys with
    | nil => simp [sames]
    | cons y s => rw [sames, Bool.and_eq_true, h x (by simp), ih (fun z hz => h z (List.mem_cons_of_mem _ hz)), List.cons.injEq]
theorem same_iff (x : Nd) : ∀ y, same x y = true ↔ x = y := by
  induction x using ind with
  | h k n t ns xs ih =>
    intro y
    cases y with
    | mk k' n' t' ns' xs' => simp [same, sames_iff ih]
theorem same_self (x : Nd) : same x x = true := (same_iff x x).2 rfl
theorem same_comm (x y : Nd) : same x y = same y x := by
  rw [Bool.eq_iff_iff, same_iff, same_iff]
  exact ⟨Eq.symm, Eq.symm⟩
mutual
/-- the bytes and places of a node -/
def size : Nd → Nat
  | mk _ _ t ns xs => t.length + (ns.length + ssize ns) + (xs.length + sizes xs)
def sizes : List Nd → Nat
  | [] => 0
  | x :: t => size x + sizes t
end
theorem sizes_drop : ∀ (xs : List Nd) (k : Nat) (h : k < xs.length), sizes (xs.drop k) = size xs[k] + sizes (xs.drop (k + 1))
  | x :: t, 0, _ => by simp [sizes]
  | x :: t, k + 1, h => by simpa using sizes_drop t k (by simpa using h)
theorem sizes_drop_le : ∀ (xs : List Nd) (k : Nat), sizes (xs.drop k) ≤ sizes xs
  | [], k => by simp
  | x :: t, 0 => by simp
  | x :: t, k + 1 => by have := sizes_drop_le t k; simp [sizes]; omega
theorem size_mem : ∀ {xs : List Nd} {x : Nd}, x ∈ xs → size x ≤ sizes xs
  | y :: t, x, h => by
    rcases List.mem_cons.1 h with h | h
    · subst h; simp only [sizes]; omega
    · have := size_mem h; simp only [sizes]; omega
mutual
/-- lengths that the model can bear -/
def Fit : Nd → Prop
  | mk _ _ t ns xs => t.length ≤ maxLen ∧ FitS ns ∧ ns.length ≤ maxLen ∧ xs.length ≤ maxLen ∧ Fits xs
def Fits : List Nd → Prop
  | [] => True
  | x :: t => Fit x ∧ Fits t
end
theorem fits_mem : ∀ {xs : List Nd} {x : Nd}, Fits xs → x ∈ xs → Fit x
  | y :: t, x, h, hx => by
    simp only [Fits] at h
    rcases List.mem_cons.1 hx with e | hx
    · subst e; exact h.1
    · exact fits_mem h.2 hx
theorem fits_all : ∀ {xs : List Nd}, (∀ x ∈ xs, Fit x) → Fits xs
  | [], _ => trivial
  | x :: t, h => ⟨h x (by simp), fits_all fun y hy => h y (List.mem_cons_of_mem _ hy)⟩
theorem fit_size (x : Nd) : size x ≤ 1048576 → Fit x := by
  induction x using ind with
  | h k n t ns xs ih =>
    intro h
    simp only [size] at h
    unfold Fit maxLen
    refine ⟨by omega, fun y hy => ?_, by omega, by omega, fits_all fun y hy => ih y hy ?_⟩
    · have : y.length ≤ ssize ns := by
        clear h ih
        induction ns with
        | nil => cases hy
        | cons z s ih2 =>
          rcases List.mem_cons.1 hy with e | hy
          · subst e; simp only [ssize]; omega
          · have := ih2 hy; simp only [ssize]; omega
      unfold maxLen
      omega
    · have := size_mem hy; omega
end Nd

/-- a node's value -/
abbrev ndV (k n : Int) (t : Tx) (An : Option Addr) (ln cn : Nat) (Ai : Option Addr) (li ci : Nat) : Value := .agg #[.int .i64 k, .int .i64 n, sv t, .slice An ln cn, .slice Ai li ci]
abbrev ndCells (k n : Int) (t : Tx) (An : Option Addr) (ln cn : Nat) (Ai : Option Addr) (li ci : Nat) : Array Value := #[.int .i64 k, .int .i64 n, sv t, .slice An ln cn, .slice Ai li ci]
/-- five cells that make one value -/
def At5 (w : World) (b o : Nat) (v : Value) : Prop :=
  ∃ c0 c1 c2 c3 c4, v = .agg #[c0, c1, c2, c3, c4] ∧ w.cell? ⟨b, o, none⟩ = some c0 ∧ w.cell? ⟨b, o + 1, none⟩ = some c1 ∧ w.cell? ⟨b, o + 2, none⟩ = some c2 ∧ w.cell? ⟨b, o + 3, none⟩ = some c3 ∧ w.cell? ⟨b, o + 4, none⟩ = some c4
/-- what a slice reads as, in one of the blocks S -/
def RdIn (w : World) (S : Nat → Prop) (A : Option Addr) (xs : List Value) : Prop :=
  xs ≠ [] → ∃ b o, A = some ⟨b, o, none⟩ ∧ S b ∧ ∀ j u, xs[j]? = some u → w.cell? ⟨b, o + j, none⟩ = some u
mutual
/-- the value is the node; what it leads to lies in the blocks S -/
def InN (w : World) (S : Nat → Prop) : Nd → Value → Prop
  | .mk k n t ns xs, v => ∃ An cn Ai ci, v = ndV k n t An ns.length cn Ai xs.length ci ∧ RdIn w S An (scells ns) ∧ ns.length ≤ cn ∧ xs.length ≤ ci ∧ (xs ≠ [] → ∃ b o, Ai = some ⟨b, o, none⟩ ∧ S b ∧ InNs w S b o xs)
def InNs (w : World) (S : Nat → Prop) (b : Nat) : Nat → List Nd → Prop
  | _, [] => True
  | o, x :: t => (∃ v, At5 w b o v ∧ InN w S x v) ∧ InNs w S b (o + 5) t
end
/-- nodes in a slice -/
def RdN (w : World) (S : Nat → Prop) (A : Option Addr) (xs : List Nd) : Prop := xs ≠ [] → ∃ b o, A = some ⟨b, o, none⟩ ∧ S b ∧ InNs w S b o xs
/-- the blocks that there are -/
abbrev All (w : World) : Nat → Prop := fun b => b < w.heap.size

section
variable {w w' : World} {S S' : Nat → Prop}
theorem RdIn.keep {A : Option Addr} {xs : List Value} (h : RdIn w S A xs) (hk : ∀ p : Addr, S p.block → w'.cell? p = w.cell? p) (hS : ∀ b, S b → S' b) : RdIn w' S' A xs := fun hne => by
  obtain ⟨b, o, e, hb, hc⟩ := h hne
  exact ⟨b, o, e, hS b hb, fun j u hu => (hk ⟨b, o + j, none⟩ hb).trans (hc j u hu)⟩
theorem RdIn.rd {A : Option Addr} {xs : List Value} {B : Nat} (h : RdIn w S A xs) (hB : ∀ b, S b → b < B) : Rd w B A xs := fun hne => by
  obtain ⟨b, o, e, hb, hc⟩ := h hne
  exact ⟨b, o, e, hB b hb, hc⟩
theorem RdIn.of {A : Option Addr} {xs : List Value} {B : Nat} (h : Rd w B A xs) (hB : ∀ b, b < B → S b) : RdIn w S A xs := fun hne => by
  obtain ⟨b, o, e, hb, hc⟩ := h hne
  exact ⟨b, o, e, hB b hb, hc⟩
theorem InNs.get {b : Nat} : ∀ {o : Nat} {xs : List Nd}, InNs w S b o xs → ∀ i (h : i < xs.length), ∃ v, At5 w b (o + i * 5) v ∧ InN w S xs[i] v
  | o, x :: t, h, 0, _ => by simp only [InNs] at h; simpa using h.1
  | o, x :: t, h, i + 1, hi => by
    simp only [InNs] at h
    obtain ⟨v, h1, h2⟩ := InNs.get h.2 i (by simpa using hi)
    exact ⟨v, by rw [show o + (i + 1) * 5 = o + 5 + i * 5 by omega]; exact h1, by simpa using h2⟩
theorem InNs.of_get {b : Nat} : ∀ {o : Nat} {xs : List Nd}, (∀ i (h : i < xs.length), ∃ v, At5 w b (o + i * 5) v ∧ InN w S xs[i] v) → InNs w S b o xs
  | _, [], _ => by simp only [InNs]
  | o, x :: t, h => by
    simp only [InNs]
    refine ⟨by have h0 := h 0 (by simp); rw [Nat.zero_mul, Nat.add_zero] at h0; exact h0, InNs.of_get fun i hi => ?_⟩
    obtain ⟨v, h1, h2⟩ := h (i + 1) (by simpa using hi)
    exact ⟨v, by rw [show o + 5 + i * 5 = o + (i + 1) * 5 by omega]; exact h1, h2⟩
theorem At5.keep {b o : Nat} {v : Value} (h : At5 w b o v) (hk : ∀ p : Addr, p.block = b → w'.cell? p = w.cell? p) : At5 w' b o v := by
  obtain ⟨c0, c1, c2, c3, c4, e, h0, h1, h2, h3, h4⟩ := h
  exact ⟨c0, c1, c2, c3, c4, e, (hk ⟨b, o, none⟩ rfl).trans h0, (hk ⟨b, o + 1, none⟩ rfl).trans h1, (hk ⟨b, o + 2, none⟩ rfl).trans h2, (hk ⟨b, o + 3, none⟩ rfl).trans h3, (hk ⟨b, o + 4, none⟩ rfl).trans h4⟩
theorem InN.keep (hk : ∀ p : Addr, S p.block → w'.cell? p = w.cell? p) (hS : ∀ b, S b → S' b) (x : Nd) : ∀ v, InN w S x v → InN w' S' x v := by
  induction x using Nd.ind with
  | h k n t ns xs ih =>
    intro v h
    simp only [InN] at h ⊢
    obtain ⟨An, cn, Ai, ci, e, hr, h1, h2, h3⟩ := h
    refine ⟨An, cn, Ai, ci, e, hr.keep hk hS, h1, h2, fun hne => ?_⟩
    obtain ⟨b, o, e2, hb, hin⟩ := h3 hne
    refine ⟨b, o, e2, hS b hb, InNs.of_get fun i hi => ?_⟩
    obtain ⟨u, h4, h5⟩ := hin.get i hi
    exact ⟨u, h4.keep fun p hp => hk p (by rw [hp]; exact hb), ih _ (List.getElem_mem hi) u h5⟩
theorem InN.now {x : Nd} {v : Value} (h : InN w (All w) x v) (hb : Below w.heap.size w w') : InN w' (All w') x v := InN.keep (fun _ hp => hb.cell hp) (fun _ h => Nat.lt_of_lt_of_le h hb.size) x v h
theorem InN.parts {k n : Int} {t : Tx} {ns : List Tx} {xs : List Nd} {v : Value} (h : InN w S (.mk k n t ns xs) v) : ∃ An cn Ai ci, v = ndV k n t An ns.length cn Ai xs.length ci ∧ RdIn w S An (scells ns) ∧ ns.length ≤ cn ∧ xs.length ≤ ci ∧ RdN w S Ai xs := by
  simp only [InN] at h
  exact h
theorem InN.mk {k n : Int} {t : Tx} {ns : List Tx} {xs : List Nd} {An Ai : Option Addr} {cn ci : Nat} (h1 : RdIn w S An (scells ns)) (h2 : ns.length ≤ cn) (h3 : xs.length ≤ ci) (h4 : RdN w S Ai xs) : InN w S (.mk k n t ns xs) (ndV k n t An ns.length cn Ai xs.length ci) := by
  simp only [InN]
  exact ⟨An, cn, Ai, ci, rfl, h1, h2, h3, h4⟩
theorem RdN.keep {A : Option Addr} {xs : List Nd} (h : RdN w S A xs) (hk : ∀ p : Addr, S p.block → w'.cell? p = w.cell? p) (hS : ∀ b, S b → S' b) : RdN w' S' A xs := fun hne => by
  obtain ⟨b, o, e, hb, hin⟩ := h hne
  refine ⟨b, o, e, hS b hb, InNs.of_get fun i hi => ?_⟩
  obtain ⟨u, h4, h5⟩ := hin.get i hi
  exact ⟨u, h4.keep fun p hp => hk p (by rw [hp]; exact hb), InN.keep hk hS _ u h5⟩
theorem RdN.now {A : Option Addr} {xs : List Nd} (h : RdN w (All w) A xs) (hb : Below w.heap.size w w') : RdN w' (All w') A xs := h.keep (fun _ hp => hb.cell hp) (fun _ h => Nat.lt_of_lt_of_le h hb.size)
/-- one node of a slice: its address, its five cells, its value -/
theorem RdN.at {A : Option Addr} {xs : List Nd} (h : RdN w S A xs) {k : Nat} (hk : k < xs.length) : ∃ b o, A = some ⟨b, o, none⟩ ∧ S b ∧ ∃ kd n t An ln cn Ai li ci, InN w S xs[k] (ndV kd n t An ln cn Ai li ci) ∧
    w.cell? ⟨b, o + k * 5, none⟩ = some (.int .i64 kd) ∧ w.cell? ⟨b, o + k * 5 + 1, none⟩ = some (.int .i64 n) ∧ w.cell? ⟨b, o + k * 5 + 2, none⟩ = some (sv t) ∧ w.cell? ⟨b, o + k * 5 + 3, none⟩ = some (.slice An ln cn) ∧ w.cell? ⟨b, o + k * 5 + 4, none⟩ = some (.slice Ai li ci) := by
  obtain ⟨b, o, e, hb, hin⟩ := h (by intro e; rw [e] at hk; simp at hk)
  obtain ⟨v, ⟨c0, c1, c2, c3, c4, e5, h0, h1, h2, h3, h4⟩, hv⟩ := hin.get k hk
  refine ⟨b, o, e, hb, ?_⟩
  generalize xs[k] = x at *
  cases x with
  | mk kd n t ns ys =>
    have hv' := hv
    obtain ⟨An, cn, Ai, ci, e6, _⟩ := hv'.parts
    subst e6
    injection e5 with e5
    simp only [Array.mk.injEq, List.cons.injEq, and_true] at e5
    obtain ⟨rfl, rfl, rfl, rfl, rfl⟩ := e5
    exact ⟨kd, n, t, An, ns.length, cn, Ai, ys.length, ci, hv, h0, h1, h2, h3, h4⟩
end
end Go.Proofs.YtdmmnjnbjigdeaaDoor
