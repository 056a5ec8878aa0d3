/- Parts of templates: what they are, and how they lie in memory. No program is walked here. -/
import Derived.Test.YtginghjgfippiaaStrS
import Derived.Test.YtginghjgfippiaaTypedB
namespace Go.Proofs.Ytginghjgfippiaa
open Go.RowKit

inductive Pt where
  | mk (kind : Int) (text name : Tx) (parts other : List Pt)
namespace Pt
def kind : Pt → Int | mk k _ _ _ _ => k
def text : Pt → Tx | mk _ t _ _ _ => t
def name : Pt → Tx | mk _ _ n _ _ => n
def parts : Pt → List Pt | mk _ _ _ xs _ => xs
def other : Pt → List Pt | mk _ _ _ _ ys => ys
mutual
/-- how deep: a number for inductions -/
def deep : Pt → Nat
  | mk _ _ _ xs ys => max (deeps xs) (deeps ys) + 1
def deeps : List Pt → Nat
  | [] => 0
  | x :: t => max (deep x) (deeps t)
end
theorem deep_mem : ∀ {xs : List Pt} {x : Pt}, x ∈ xs → deep x ≤ deeps xs
  | y :: t, x, h => by
    rcases List.mem_cons.1 h with h | h
    · subst h; simp only [deeps]; omega
    · have := deep_mem h; simp only [deeps]; omega
/-- induction on parts -/
theorem ind {P : Pt → Prop} (h : ∀ k t n xs ys, (∀ x ∈ xs, P x) → (∀ y ∈ ys, P y) → P (mk k t n xs ys)) (x : Pt) : P x := by
  have : ∀ d (x : Pt), deep x ≤ d → P x := by
    intro d
    induction d with
    | zero => intro x hx; cases x; simp [deep] at hx
    | succ d ih =>
      intro x hx
      cases x with
      | mk k t n xs ys =>
        simp only [deep] at hx
        exact h k t n xs ys (fun y hy => ih y (by have := deep_mem hy; omega)) (fun y hy => ih y (by have := deep_mem hy; omega))
  exact this _ x (Nat.le_refl _)
mutual
/-- equal: kinds, texts, names, and the parts in them -/
def same : Pt → Pt → Bool
  | mk k t n xs ys, mk k' t' n' xs' ys' => k == k' && (t == t' && (n == n' && (sames xs xs' && sames ys ys')))
def sames : List Pt → List Pt → Bool
  | [], [] => true
  | x :: t, y :: s => same x y && sames t s
  | _, _ => false
end
theorem sames_iff {xs : List Pt} (h : ∀ x ∈ xs, ∀ y, same x y = true ↔ x = y) : ∀ ys, sames xs ys = true ↔ xs = ys := by
  induction xs with
  | nil => intro ys; cases ys <;> simp [sames]
  | cons x t ih =>
    intro ys
    cases ys with
    | nil => simp [sames]
    | cons y s => rw [sames, Bool.and_eq_true, h x (by simp), ih (fun z hz => h z (List.mem_cons_of_mem _ hz)), List.cons.injEq]
theorem same_iff (x : Pt) : ∀ y, same x y = true ↔ x = y := by
  induction x using ind with
  | h k t n xs ys ih1 ih2 =>
    intro y
    cases y with
    | mk k' t' n' xs' ys' => simp [same, sames_iff ih1, sames_iff ih2]
theorem same_self (x : Pt) : same x x = true := (same_iff x x).2 rfl
theorem sames_self (xs : List Pt) : sames xs xs = true := (sames_iff (fun x _ => same_iff x) xs).2 rfl
mutual
/-- the bytes and places of a part -/
def size : Pt → Nat
  | mk _ t n xs ys => t.length + n.length + (xs.length + sizes xs) + (ys.length + sizes ys)
def sizes : List Pt → Nat
  | [] => 0
  | x :: t => size x + sizes t
end
theorem sizes_drop : ∀ (xs : List Pt) (k : Nat) (h : k < xs.length), sizes (xs.drop k) = size xs[k] + sizes (xs.drop (k + 1))
  | x :: t, 0, _ => by simp [sizes]
  | x :: t, k + 1, h => by simpa using sizes_drop t k (by simpa using h)
theorem sizes_drop_le : ∀ (xs : List Pt) (k : Nat), sizes (xs.drop k) ≤ sizes xs
  | [], k => by simp
  | x :: t, 0 => by simp
  | x :: t, k + 1 => by have := sizes_drop_le t k; simp [sizes]; omega
theorem size_mem : ∀ {xs : List Pt} {x : Pt}, x ∈ xs → size x ≤ sizes xs
  | y :: t, x, h => by
    rcases List.mem_cons.1 h with h | h
    · subst h; simp only [sizes]; omega
    · have := size_mem h; simp only [sizes]; omega
mutual
/-- how many parts there are, the part itself included -/
def many : Pt → Nat
  | mk _ _ _ xs ys => 1 + manys xs + manys ys
def manys : List Pt → Nat
  | [] => 0
  | x :: t => many x + manys t
end
theorem manys_drop : ∀ (xs : List Pt) (k : Nat) (h : k < xs.length), manys (xs.drop k) = many xs[k] + manys (xs.drop (k + 1))
  | x :: t, 0, _ => by simp [manys]
  | x :: t, k + 1, h => by simpa using manys_drop t k (by simpa using h)
theorem manys_take : ∀ (xs : List Pt) (k : Nat) (h : k < xs.length), manys (xs.take (k + 1)) = manys (xs.take k) + many xs[k]
  | x :: t, 0, _ => by simp [manys]
  | x :: t, k + 1, h => by have := manys_take t k (by simpa using h); simp only [List.take_succ_cons, manys, List.getElem_cons_succ, this]; omega
theorem manys_take_le : ∀ (xs : List Pt) (k : Nat), manys (xs.take k) ≤ manys xs
  | [], k => by simp
  | x :: t, 0 => by simp [manys]
  | x :: t, k + 1 => by have := manys_take_le t k; simp [manys]; omega
theorem many_mem : ∀ {xs : List Pt} {x : Pt}, x ∈ xs → many x ≤ manys xs
  | y :: t, x, h => by
    rcases List.mem_cons.1 h with h | h
    · subst h; simp only [manys]; omega
    · have := many_mem h; simp only [manys]; omega
theorem manys_len : ∀ (xs : List Pt), xs.length ≤ manys xs
  | [] => by simp
  | x :: t => by
    have := manys_len t
    cases x with
    | mk k t n xs ys => simp only [manys, many, List.length_cons]; omega
theorem manys_size {xs : List Pt} (h : ∀ x ∈ xs, many x ≤ 1 + size x) : manys xs ≤ xs.length + sizes xs := by
  induction xs with
  | nil => simp [manys]
  | cons x t ih =>
    have h1 := h x (by simp)
    have h2 := ih (fun y hy => h y (List.mem_cons_of_mem _ hy))
    simp only [manys, sizes, List.length_cons]
    omega
theorem many_size (x : Pt) : many x ≤ 1 + size x := by
  induction x using ind with
  | h k t n xs ys ih1 ih2 =>
    have h1 := manys_size ih1
    have h2 := manys_size ih2
    simp only [many, size]
    omega
mutual
/-- lengths that the model can bear -/
def Fit : Pt → Prop
  | mk _ t n xs ys => t.length ≤ maxLen ∧ n.length ≤ maxLen ∧ xs.length ≤ maxLen ∧ ys.length ≤ maxLen ∧ Fits xs ∧ Fits ys
def Fits : List Pt → Prop
  | [] => True
  | x :: t => Fit x ∧ Fits t
end
theorem fits_mem : ∀ {xs : List Pt} {x : Pt}, Fits xs → x ∈ xs → Fit x
  | y :: t, x, h, hx => by
    simp only [Fits] at h
    rcases List.mem_cons.1 hx with e | hx
    · subst e; exact h.1
    · exact fits_mem h.2 hx
theorem fits_all : ∀ {xs : List Pt}, (∀ x ∈ xs, Fit x) → Fits xs
  | [], _ => trivial
  | x :: t, h => ⟨h x (by simp), fits_all fun y hy => h y (List.mem_cons_of_mem _ hy)⟩
theorem fit_size (x : Pt) : size x ≤ 1048576 → Fit x := by
  induction x using ind with
  | h k t n xs ys ih1 ih2 =>
    intro h
    simp only [size] at h
    unfold Fit maxLen
    exact ⟨by omega, by omega, by omega, by omega, fits_all fun y hy => ih1 y hy (by have := size_mem hy; omega), fits_all fun y hy => ih2 y hy (by have := size_mem hy; omega)⟩
end Pt

/-- a part's value -/
abbrev ptV (k : Int) (t n : Tx) (Ap : Option Addr) (lp cp : Nat) (Ao : Option Addr) (lo co : Nat) : Value := .agg #[.int .i64 k, sv t, sv n, .slice Ap lp cp, .slice Ao lo co]
abbrev ptCells (k : Int) (t n : Tx) (Ap : Option Addr) (lp cp : Nat) (Ao : Option Addr) (lo co : Nat) : Array Value := #[.int .i64 k, sv t, sv n, .slice Ap lp cp, .slice Ao lo co]
/-- five cells that make one value -/
def At5 (w : World) (b o : Nat) (v : Value) : Prop :=
  ∃ c0 c1 c2 c3 c4, v = .agg #[c0, c1, c2, c3, c4] ∧ w.cell? ⟨b, o, none⟩ = some c0 ∧ w.cell? ⟨b, o + 1, none⟩ = some c1 ∧ w.cell? ⟨b, o + 2, none⟩ = some c2 ∧ w.cell? ⟨b, o + 3, none⟩ = some c3 ∧ w.cell? ⟨b, o + 4, none⟩ = some c4
/-- what a slice reads as, in one of the blocks S -/
def RdIn (w : World) (S : Nat → Prop) (A : Option Addr) (xs : List Value) : Prop :=
  xs ≠ [] → ∃ b o, A = some ⟨b, o, none⟩ ∧ S b ∧ ∀ j u, xs[j]? = some u → w.cell? ⟨b, o + j, none⟩ = some u
mutual
/-- the value is the part; what it leads to lies in the blocks S -/
def InP (w : World) (S : Nat → Prop) : Pt → Value → Prop
  | .mk k t n xs ys, v => ∃ Ap cp Ao co, v = ptV k t n Ap xs.length cp Ao ys.length co ∧ xs.length ≤ cp ∧ ys.length ≤ co ∧ (xs ≠ [] → ∃ b o, Ap = some ⟨b, o, none⟩ ∧ S b ∧ InPs w S b o xs) ∧ (ys ≠ [] → ∃ b o, Ao = some ⟨b, o, none⟩ ∧ S b ∧ InPs w S b o ys)
def InPs (w : World) (S : Nat → Prop) (b : Nat) : Nat → List Pt → Prop
  | _, [] => True
  | o, x :: t => (∃ v, At5 w b o v ∧ InP w S x v) ∧ InPs w S b (o + 5) t
end
/-- parts in a slice -/
def RdP (w : World) (S : Nat → Prop) (A : Option Addr) (xs : List Pt) : Prop := xs ≠ [] → ∃ b o, A = some ⟨b, o, none⟩ ∧ S b ∧ InPs w S b o xs
/-- the blocks that there are -/
abbrev All (w : World) : Nat → Prop := fun b => b < w.heap.size

section
variable {w w' : World} {S S' : Nat → Prop}
theorem RdIn.keep {A : Option Addr} {xs : List Value} (h : RdIn w S A xs) (hk : ∀ p : Addr, S p.block → w'.cell? p = w.cell? p) (hS : ∀ b, S b → S' b) : RdIn w' S' A xs := fun hne => by
  obtain ⟨b, o, e, hb, hc⟩ := h hne
  exact ⟨b, o, e, hS b hb, fun j u hu => (hk ⟨b, o + j, none⟩ hb).trans (hc j u hu)⟩
theorem RdIn.rd {A : Option Addr} {xs : List Value} {B : Nat} (h : RdIn w S A xs) (hB : ∀ b, S b → b < B) : Rd w B A xs := fun hne => by
  obtain ⟨b, o, e, hb, hc⟩ := h hne
  exact ⟨b, o, e, hB b hb, hc⟩
theorem RdIn.of {A : Option Addr} {xs : List Value} {B : Nat} (h : Rd w B A xs) (hB : ∀ b, b < B → S b) : RdIn w S A xs := fun hne => by
  obtain ⟨b, o, e, hb, hc⟩ := h hne
  exact ⟨b, o, e, hB b hb, hc⟩
theorem InPs.get {b : Nat} : ∀ {o : Nat} {xs : List Pt}, InPs w S b o xs → ∀ i (h : i < xs.length), ∃ v, At5 w b (o + i * 5) v ∧ InP w S xs[i] v
  | o, x :: t, h, 0, _ => by simp only [InPs] at h; simpa using h.1
  | o, x :: t, h, i + 1, hi => by
    simp only [InPs] at h
    obtain ⟨v, h1, h2⟩ := InPs.get h.2 i (by simpa using hi)
    exact ⟨v, by rw [show o + (i + 1) * 5 = o + 5 + i * 5 by omega]; exact h1, by simpa using h2⟩
theorem InPs.of_get {b : Nat} : ∀ {o : Nat} {xs : List Pt}, (∀ i (h : i < xs.length), ∃ v, At5 w b (o + i * 5) v ∧ InP w S xs[i] v) → InPs w S b o xs
  | _, [], _ => by simp only [InPs]
  | o, x :: t, h => by
    simp only [InPs]
    refine ⟨by have h0 := h 0 (by simp); rw [Nat.zero_mul, Nat.add_zero] at h0; exact h0, InPs.of_get fun i hi => ?_⟩
    obtain ⟨v, h1, h2⟩ := h (i + 1) (by simpa using hi)
    exact ⟨v, by rw [show o + 5 + i * 5 = o + (i + 1) * 5 by omega]; exact h1, h2⟩
theorem At5.keep {b o : Nat} {v : Value} (h : At5 w b o v) (hk : ∀ p : Addr, p.block = b → w'.cell? p = w.cell? p) : At5 w' b o v := by
  obtain ⟨c0, c1, c2, c3, c4, e, h0, h1, h2, h3, h4⟩ := h
  exact ⟨c0, c1, c2, c3, c4, e, (hk ⟨b, o, none⟩ rfl).trans h0, (hk ⟨b, o + 1, none⟩ rfl).trans h1, (hk ⟨b, o + 2, none⟩ rfl).trans h2, (hk ⟨b, o + 3, none⟩ rfl).trans h3, (hk ⟨b, o + 4, none⟩ rfl).trans h4⟩
theorem InP.keep (hk : ∀ p : Addr, S p.block → w'.cell? p = w.cell? p) (hS : ∀ b, S b → S' b) (x : Pt) : ∀ v, InP w S x v → InP w' S' x v := by
  induction x using Pt.ind with
  | h k t n xs ys ih1 ih2 =>
    intro v h
    simp only [InP] at h ⊢
    obtain ⟨Ap, cp, Ao, co, e, h1, h2, h3, h4⟩ := h
    refine ⟨Ap, cp, Ao, co, e, h1, h2, fun hne => ?_, fun hne => ?_⟩
    · obtain ⟨b, o, e2, hb, hin⟩ := h3 hne
      refine ⟨b, o, e2, hS b hb, InPs.of_get fun i hi => ?_⟩
      obtain ⟨u, h4, h5⟩ := hin.get i hi
      exact ⟨u, h4.keep fun p hp => hk p (by rw [hp]; exact hb), ih1 _ (List.getElem_mem hi) u h5⟩
    · obtain ⟨b, o, e2, hb, hin⟩ := h4 hne
      refine ⟨b, o, e2, hS b hb, InPs.of_get fun i hi => ?_⟩
      obtain ⟨u, h4, h5⟩ := hin.get i hi
      exact ⟨u, h4.keep fun p hp => hk p (by rw [hp]; exact hb), ih2 _ (List.getElem_mem hi) u h5⟩
theorem InP.now {x : Pt} {v : Value} (h : InP w (All w) x v) (hb : Below w.heap.size w w') : InP w' (All w') x v := InP.keep (fun _ hp => hb.cell hp) (fun _ h => Nat.lt_of_lt_of_le h hb.size) x v h
theorem InP.parts {k : Int} {t n : Tx} {xs ys : List Pt} {v : Value} (h : InP w S (.mk k t n xs ys) v) : ∃ Ap cp Ao co, v = ptV k t n Ap xs.length cp Ao ys.length co ∧ xs.length ≤ cp ∧ ys.length ≤ co ∧ RdP w S Ap xs ∧ RdP w S Ao ys := by
  simp only [InP] at h
  exact h
theorem InP.mk {k : Int} {t n : Tx} {xs ys : List Pt} {Ap Ao : Option Addr} {cp co : Nat} (h1 : xs.length ≤ cp) (h2 : ys.length ≤ co) (h3 : RdP w S Ap xs) (h4 : RdP w S Ao ys) : InP w S (.mk k t n xs ys) (ptV k t n Ap xs.length cp Ao ys.length co) := by
  simp only [InP]
  exact ⟨Ap, cp, Ao, co, rfl, h1, h2, h3, h4⟩
theorem RdP.nil_ {A : Option Addr} : RdP w S A [] := fun h => absurd rfl h
theorem RdP.keep {A : Option Addr} {xs : List Pt} (h : RdP w S A xs) (hk : ∀ p : Addr, S p.block → w'.cell? p = w.cell? p) (hS : ∀ b, S b → S' b) : RdP w' S' A xs := fun hne => by
  obtain ⟨b, o, e, hb, hin⟩ := h hne
  refine ⟨b, o, e, hS b hb, InPs.of_get fun i hi => ?_⟩
  obtain ⟨u, h4, h5⟩ := hin.get i hi
  exact ⟨u, h4.keep fun p hp => hk p (by rw [hp]; exact hb), InP.keep hk hS _ u h5⟩
theorem RdP.now {A : Option Addr} {xs : List Pt} (h : RdP w (All w) A xs) (hb : Below w.heap.size w w') : RdP w' (All w') A xs := h.keep (fun _ hp => hb.cell hp) (fun _ h => Nat.lt_of_lt_of_le h hb.size)
/-- one part of a slice: its address, its five cells, its value -/
theorem RdP.at {A : Option Addr} {xs : List Pt} (h : RdP w S A xs) {k : Nat} (hk : k < xs.length) : ∃ b o, A = some ⟨b, o, none⟩ ∧ S b ∧ ∃ kd t n Ap lp cp Ao lo co, InP w S xs[k] (ptV kd t n Ap lp cp Ao lo co) ∧
    w.cell? ⟨b, o + k * 5, none⟩ = some (.int .i64 kd) ∧ w.cell? ⟨b, o + k * 5 + 1, none⟩ = some (sv t) ∧ w.cell? ⟨b, o + k * 5 + 2, none⟩ = some (sv n) ∧ w.cell? ⟨b, o + k * 5 + 3, none⟩ = some (.slice Ap lp cp) ∧ w.cell? ⟨b, o + k * 5 + 4, none⟩ = some (.slice Ao lo co) := by
  obtain ⟨b, o, e, hb, hin⟩ := h (by intro e; rw [e] at hk; simp at hk)
  obtain ⟨v, ⟨c0, c1, c2, c3, c4, e5, h0, h1, h2, h3, h4⟩, hv⟩ := hin.get k hk
  refine ⟨b, o, e, hb, ?_⟩
  generalize xs[k] = x at *
  cases x with
  | mk kd t n us vs =>
    have hv' := hv
    obtain ⟨Ap, cp, Ao, co, e6, _⟩ := hv'.parts
    subst e6
    injection e5 with e5
    simp only [Array.mk.injEq, List.cons.injEq, and_true] at e5
    obtain ⟨rfl, rfl, rfl, rfl, rfl⟩ := e5
    exact ⟨kd, t, n, Ap, us.length, cp, Ao, vs.length, co, hv, h0, h1, h2, h3, h4⟩
end

/-- a field of data -/
structure Fd where
  name : Tx
  text : Tx
  holds : Bool
  items : List Tx
deriving DecidableEq
namespace Fd
def size (f : Fd) : Nat := f.name.length + f.text.length + (f.items.length + ssize f.items)
def sizes (xs : List Fd) : Nat := (xs.map size).sum
theorem sizes_drop : ∀ (xs : List Fd) (k : Nat) (h : k < xs.length), sizes (xs.drop k) = size xs[k] + sizes (xs.drop (k + 1))
  | x :: t, 0, _ => by simp [sizes]
  | x :: t, k + 1, h => by simpa using sizes_drop t k (by simpa using h)
theorem sizes_drop_le : ∀ (xs : List Fd) (k : Nat), sizes (xs.drop k) ≤ sizes xs
  | [], k => by simp
  | x :: t, 0 => by simp
  | x :: t, k + 1 => by have := sizes_drop_le t k; simp [sizes] at *; omega
theorem size_mem : ∀ {xs : List Fd} {x : Fd}, x ∈ xs → size x ≤ sizes xs
  | y :: t, x, h => by
    rcases List.mem_cons.1 h with h | h
    · subst h; simp [sizes]
    · have := size_mem h; simp [sizes] at *; omega
def Fit (f : Fd) : Prop := f.name.length ≤ maxLen ∧ f.text.length ≤ maxLen ∧ FitS f.items ∧ f.items.length ≤ maxLen
def same (f g : Fd) : Bool := f.name == g.name && (f.text == g.text && (f.holds == g.holds && f.items == g.items))
theorem same_self (f : Fd) : same f f = true := by simp [same]
def sames : List Fd → List Fd → Bool
  | [], [] => true
  | x :: t, y :: s => same x y && sames t s
  | _, _ => false
theorem sames_self : ∀ xs, sames xs xs = true
  | [] => rfl
  | x :: t => by rw [sames, same_self, sames_self t]; rfl
theorem fit_size {x : Fd} (h : size x ≤ 1048576) : Fit x := by
  unfold size at h
  unfold Fit maxLen
  refine ⟨by omega, by omega, fun y hy => ?_, by omega⟩
  have : y.length ≤ ssize x.items := by
    clear h
    generalize x.items = ns at *
    induction ns with
    | nil => cases hy
    | cons z s ih2 =>
      rcases List.mem_cons.1 hy with e | hy
      · subst e; simp only [ssize]; omega
      · have := ih2 hy; simp only [ssize]; omega
  unfold maxLen
  omega
end Fd
abbrev fdV (n t : Tx) (h : Bool) (A : Option Addr) (l c : Nat) : Value := .agg #[sv n, sv t, .bool h, .slice A l c]
abbrev fdCells (n t : Tx) (h : Bool) (A : Option Addr) (l c : Nat) : Array Value := #[sv n, sv t, .bool h, .slice A l c]
/-- four cells that make one value -/
def At4 (w : World) (b o : Nat) (v : Value) : Prop :=
  ∃ c0 c1 c2 c3, v = .agg #[c0, c1, c2, c3] ∧ w.cell? ⟨b, o, none⟩ = some c0 ∧ w.cell? ⟨b, o + 1, none⟩ = some c1 ∧ w.cell? ⟨b, o + 2, none⟩ = some c2 ∧ w.cell? ⟨b, o + 3, none⟩ = some c3
/-- the value is the field -/
def InF (w : World) (S : Nat → Prop) (f : Fd) (v : Value) : Prop := ∃ A c, v = fdV f.name f.text f.holds A f.items.length c ∧ RdIn w S A (scells f.items) ∧ f.items.length ≤ c
/-- fields in a slice -/
def RdF (w : World) (S : Nat → Prop) (A : Option Addr) (xs : List Fd) : Prop := xs ≠ [] → ∃ b o, A = some ⟨b, o, none⟩ ∧ S b ∧ ∀ i (h : i < xs.length), ∃ v, At4 w b (o + i * 4) v ∧ InF w S xs[i] v
section
variable {w w' : World} {S S' : Nat → Prop}
theorem At4.keep {b o : Nat} {v : Value} (h : At4 w b o v) (hk : ∀ p : Addr, p.block = b → w'.cell? p = w.cell? p) : At4 w' b o v := by
  obtain ⟨c0, c1, c2, c3, e, h0, h1, h2, h3⟩ := h
  exact ⟨c0, c1, c2, c3, e, (hk ⟨b, o, none⟩ rfl).trans h0, (hk ⟨b, o + 1, none⟩ rfl).trans h1, (hk ⟨b, o + 2, none⟩ rfl).trans h2, (hk ⟨b, o + 3, none⟩ rfl).trans h3⟩
theorem InF.keep (hk : ∀ p : Addr, S p.block → w'.cell? p = w.cell? p) (hS : ∀ b, S b → S' b) (x : Fd) (v : Value) (h : InF w S x v) : InF w' S' x v := by
  obtain ⟨A, c, e, hr, hc⟩ := h
  exact ⟨A, c, e, hr.keep hk hS, hc⟩
theorem InF.now {x : Fd} {v : Value} (h : InF w (All w) x v) (hb : Below w.heap.size w w') : InF w' (All w') x v := InF.keep (fun _ hp => hb.cell hp) (fun _ h => Nat.lt_of_lt_of_le h hb.size) x v h
theorem RdF.keep {A : Option Addr} {xs : List Fd} (h : RdF w S A xs) (hk : ∀ p : Addr, S p.block → w'.cell? p = w.cell? p) (hS : ∀ b, S b → S' b) : RdF w' S' A xs := fun hne => by
  obtain ⟨b, o, e, hb, hin⟩ := h hne
  refine ⟨b, o, e, hS b hb, fun i hi => ?_⟩
  obtain ⟨u, h4, h5⟩ := hin i hi
  exact ⟨u, h4.keep fun p hp => hk p (by rw [hp]; exact hb), h5.keep hk hS _ u⟩
theorem RdF.now {A : Option Addr} {xs : List Fd} (h : RdF w (All w) A xs) (hb : Below w.heap.size w w') : RdF w' (All w') A xs := h.keep (fun _ hp => hb.cell hp) (fun _ h => Nat.lt_of_lt_of_le h hb.size)
theorem RdF.at {A : Option Addr} {xs : List Fd} (h : RdF w S A xs) {k : Nat} (hk : k < xs.length) : ∃ b o, A = some ⟨b, o, none⟩ ∧ S b ∧ ∃ n t hh Ai li ci, InF w S xs[k] (fdV n t hh Ai li ci) ∧
    w.cell? ⟨b, o + k * 4, none⟩ = some (sv n) ∧ w.cell? ⟨b, o + k * 4 + 1, none⟩ = some (sv t) ∧ w.cell? ⟨b, o + k * 4 + 2, none⟩ = some (.bool hh) ∧ w.cell? ⟨b, o + k * 4 + 3, none⟩ = some (.slice Ai li ci) := by
  obtain ⟨b, o, e, hb, hin⟩ := h (by intro e; rw [e] at hk; simp at hk)
  obtain ⟨v, ⟨c0, c1, c2, c3, e5, h0, h1, h2, h3⟩, hv⟩ := hin k hk
  refine ⟨b, o, e, hb, ?_⟩
  have hv' := hv
  obtain ⟨Ai, ci, e6, _⟩ := hv'
  subst e6
  injection e5 with e5
  simp only [Array.mk.injEq, List.cons.injEq, and_true] at e5
  obtain ⟨rfl, rfl, rfl, rfl⟩ := e5
  exact ⟨_, _, _, Ai, _, ci, hv, h0, h1, h2, h3⟩
end
end Go.Proofs.Ytginghjgfippiaa
