import Derived.Test.YtmboieajfdkllaaGreatU01
import Derived.Maps.AppendAt
import Derived.Lib.IndexMore
import Derived.Deep.CutBlock
import Derived.Laws.OwnMore
set_option maxHeartbeats 4000000
set_option maxRecDepth 100000
open Go.Proofs.Tryz
namespace Go.Proofs.YtmboieajfdkllaaGreat
open Go.RowKit
def xm : Array Value := #[.int .i64 0, .string ⟨#[]⟩, .string ⟨#[]⟩, .slice none 0 0, .slice none 0 0]
theorem Tryz.info_Part : (Tryz.prog.info? 115).map (fun i => (i.zero, i.size, i.bytes)) = some (some (.agg xm), 5, 88) := by kernel_rfl
theorem XS {w : World} {base c : Nat} {A : Option Addr} {xs : List Tx} (h : OwnS w base A c xs) {S : Nat -> Prop} (hS : ∀ b, base <= b -> b < w.heap.size -> S b) : RdIn w S A (qS xs) := fun hne => by
 have hl : 0 < xs.length := by
  rcases Nat.eq_zero_or_pos xs.length with h0 | h0
  ·exact absurd (by rw [List.eq_nil_of_length_eq_zero h0]; rfl) hne
  exact h0
 obtain ⟨g, hA, h1, h2⟩ := zJ h hl
 obtain ⟨b, o, e, hb, hc⟩ := yi h hne
 subst hA
 injection e with e
 injection e with e1 e2
 subst e1
 subst e2
 exact ⟨g, 0, rfl, hS g h1 h2, hc⟩
def AtC (cs : Array Value) (o : Nat) (v : Value) : Prop := ∃ c0 c1 c2 c3 c4, v = .agg #[c0, c1, c2, c3, c4] /\ cs[o]? = some c0 /\ cs[o + 1]? = some c1 /\ cs[o + 2]? = some c2 /\ cs[o + 3]? = some c3 /\ cs[o + 4]? = some c4
abbrev set5 (cs : Array Value) (o : Nat) (c0 c1 c2 c3 c4 : Value) : Array Value := ((((cs.setIfInBounds o c0).setIfInBounds (o + 1) c1).setIfInBounds (o + 2) c2).setIfInBounds (o + 3) c3).setIfInBounds (o + 4) c4
theorem set5_at {cs : Array Value} {o : Nat} {c0 c1 c2 c3 c4 : Value} (h : o + 5 <= cs.size) : AtC (set5 cs o c0 c1 c2 c3 c4) o (.agg #[c0, c1, c2, c3, c4]) := by
 refine ⟨c0, c1, c2, c3, c4, rfl, ?_, ?_, ?_, ?_, ?_⟩ <;> simp [Array.getElem?_setIfInBounds] <;> omega
theorem XT {cs : Array Value} {o q : Nat} {c0 c1 c2 c3 c4 v : Value} (h : AtC cs q v) (hq : q + 5 <= o \/ o + 5 <= q) : AtC (set5 cs o c0 c1 c2 c3 c4) q v := by
 obtain ⟨d0, d1, d2, d3, d4, e, h0, h1, h2, h3, h4⟩ := h
 have key : ∀ i, (i < o \/ o + 5 <= i) -> (set5 cs o c0 c1 c2 c3 c4)[i]? = cs[i]? := by
  intro i hi
  unfold set5
  rw [Array.getElem?_setIfInBounds_ne (by omega), Array.getElem?_setIfInBounds_ne (by omega), Array.getElem?_setIfInBounds_ne (by omega), Array.getElem?_setIfInBounds_ne (by omega), Array.getElem?_setIfInBounds_ne (by omega)]
 exact ⟨d0, d1, d2, d3, d4, e, (key q (by omega)).trans h0, (key _ (by omega)).trans h1, (key _ (by omega)).trans h2, (key _ (by omega)).trans h3, (key _ (by omega)).trans h4⟩
theorem XU {cs : Array Value} {o : Nat} {c0 c1 c2 c3 c4 : Value} : (set5 cs o c0 c1 c2 c3 c4).size = cs.size := by simp
theorem jj {w : World} {b o : Nat} {cs : Array Value} {t : TypeId} (hb : w.heap[b]? = some (.cells cs t (0, 0))) (ho : o < cs.size) : ∃ u, w.cell? ⟨b, o, none⟩ = some u /\ w.frozen? ⟨b, o, none⟩ = false := by
 refine ⟨cs[o], ?_, by simp [World.frozen?, hb]⟩
 rw [cell_of_row w b _ cs t (0, 0) hb]
 simp [ho]
theorem kY (w : World) (cs ds es : Array Value) (t u v : TypeId) : Below w.heap.size w (((w.alloc (.cells cs t)).alloc (.cells ds u)).alloc (.cells es v)) /\ (((w.alloc (.cells cs t)).alloc (.cells ds u)).alloc (.cells es v)).heap[w.heap.size]? = some (.cells cs t (0, 0)) /\ (((w.alloc (.cells cs t)).alloc (.cells ds u)).alloc (.cells es v)).heap[w.heap.size + 1]? = some (.cells ds u (0, 0)) /\ (((w.alloc (.cells cs t)).alloc (.cells ds u)).alloc (.cells es v)).heap[w.heap.size + 2]? = some (.cells es v (0, 0)) /\ (((w.alloc (.cells cs t)).alloc (.cells ds u)).alloc (.cells es v)).heap.size = w.heap.size + 3 := by
 obtain ⟨h1, h2, h3⟩ := qE w cs ds t u
 have hs : ((w.alloc (.cells cs t)).alloc (.cells ds u)).heap.size = w.heap.size + 2 := by simp
 generalize (w.alloc (.cells cs t)).alloc (.cells ds u) = w2 at *
 have h4 := heap_alloc_new w2 (.cells es v)
 rw [hs] at h4
 exact ⟨h1.alloc (by omega) _, (heap_alloc_old w2 _ (by omega)).trans h2, (heap_alloc_old w2 _ (by omega)).trans h3, h4, by simp; omega⟩
structure Raw where
 k : Int
 t : Tx
 n : Tx
 Ap : Option Addr
 lp : Nat
 cp : Nat
 Ao : Option Addr
 lo : Nat
 co : Nat
abbrev Raw.v (r : Raw) : Value := ptV r.k r.t r.n r.Ap r.lp r.cp r.Ao r.lo r.co
abbrev Raw.cs (r : Raw) : List Value := [.int .i64 r.k, sv r.t, sv r.n, .slice r.Ap r.lp r.cp, .slice r.Ao r.lo r.co]
def zb : List Raw -> List Value
 | [] => []
 | r :: s => r.cs ++ zb s
theorem jq : ∀ rs : List Raw, (zb rs).length = rs.length * 5
 | [] => rfl
 | r :: s => by simp [zb, jq s]; omega
theorem xI : ∀ rs ss : List Raw, zb (rs ++ ss) = zb rs ++ zb ss
 | [], _ => rfl
 | r :: s, ss => by simp [zb, xI s ss]
theorem xJ : ∀ (rs : List Raw) (i : Nat) (r : Raw) (j : Nat), rs[i]? = some r -> j < 5 -> (zb rs)[i * 5 + j]? = r.cs[j]?
 | x :: s, 0, r, j, h, hj => by
  simp at h
  subst h
  simp only [zb, Nat.zero_mul, Nat.zero_add]
  rw [List.getElem?_append_left (by simpa using hj)]
 | x :: s, i + 1, r, j, h, hj => by
  have := xJ s i r j (by simpa using h) hj
  simp only [zb]
  rw [List.getElem?_append_right (by simp; omega), show (i + 1) * 5 + j - x.cs.length = i * 5 + j by simp; omega]
  exact this
theorem Wc : ∀ (rs : List Raw) (i : Nat) (r : Raw) (t : Tx), rs[i]? = some r -> (zb rs).set (i * 5 + 1) (sv t) = zb (rs.set i { r with t := t })
 | x :: s, 0, r, t, h => by
  simp at h
  subst h
  simp [zb]
 | x :: s, i + 1, r, t, h => by
  have := Wc s i r t (by simpa using h)
  simp only [zb, List.set_cons_succ]
  rw [<- this, List.set_append_right _ _ (by simp; omega)]
  congr 2
  simp
  omega
theorem Xa (rs : List Raw) : ∀ z ∈ zb rs, z.oneCell' = true := by
 intro z hz
 induction rs with
 | nil => simp [zb] at hz
 | cons r s ih =>
  simp only [zb, List.mem_append] at hz
  rcases hz with hz | hz
  ·simp at hz
   rcases hz with rfl | rfl | rfl | rfl | rfl <;> rfl
  exact ih hz
def OwnN (w : World) (base : Nat) (A : Option Addr) (c : Nat) (rs : List Raw) : Prop := w.ownsRow base 115 5 (.slice A rs.length c) rs.length (zb rs)
theorem kJ (w : World) (base : Nat) : OwnN w base none 0 [] := World.ownsRow_nil w base _ 5
theorem Xb {w : World} {base c : Nat} {A : Option Addr} {rs : List Raw} (h : OwnN w base A c rs) : ∀ g, Value.ownBlock (.slice A rs.length c) = some g -> base <= g := fun g hg => (h.lt g hg).1
theorem xK {w : World} {base c : Nat} {A : Option Addr} {rs : List Raw} (h : OwnN w base A c rs) : rs.length <= c := by
 obtain ⟨A', c', e, h1, _⟩ := jf h
 injection e with _ _ e3
 omega
theorem zD {ops : Array Oper} {rest : List Oper} {o : Oper} {a : Act} {Q : Exit -> Act -> World -> Prop} {W : World} (hgd : o.guard = none) (s x : Operand)
  (ho : o.op = .call { callee := .builtin .append, args := #[s, x], argTypes := #[27, 27] }) (base : Nat) (A : Option Addr) (c : Nat) (rs us : List Raw)
  (hs : a.eval s = .slice A rs.length c) (hown : OwnN W base A c rs) (b o' c' : Nat) (hx : a.eval x = .slice (some ⟨b, o', none⟩) us.length c') (hh : ∀ j u, (zb us)[j]? = some u -> W.cell? ⟨b, o' + j, none⟩ = some u) (hlu : us.length <= 4294967296) (hlen : rs.length <= 4294967296) (hbase : base <= W.heap.size)
  (h : ∀ A' c' w', OwnN w' base A' c' (rs ++ us) -> W.grownBy w' (Value.ownBlock (.slice A rs.length c)) -> (Value.ownBlock (.slice A' (rs.length + us.length) c') = Value.ownBlock (.slice A rs.length c) \/ Value.ownBlock (.slice A' (rs.length + us.length) c') = some W.heap.size) -> wpList Tryz.prog ops Q rest (a.put o.dst (.slice A' (rs ++ us).length c')) w') :
  wpList Tryz.prog ops Q (o :: rest) a W := by
 obtain ⟨i0, hi, hz0, hz1, hz2⟩ := info_parts Tryz.info_Part
 refine wpList_append_own_at _ hgd s x _ ho base _ i0 _ 5 88 underlying27 hi hz0 hz1 hz2 rfl (by decide) _ _ _ hs hown ⟨b, o', none⟩ us.length c' (zb us) hx (by rw [jq]) ?_ (Xa us) (by unfold maxLen; omega) (by omega) hbase ?_
 ·intro j z hj
  rw [Addr.add_lit]
  exact hh j z hj
 intro v' w' ho' hg' _ hbk
 obtain ⟨A', c', rfl, _, _⟩ := jf ho'
 have hl : (rs ++ us).length = rs.length + us.length := by simp
 rw [hl] at h
 refine h A' c' w' ?_ hg' hbk
 unfold OwnN
 rw [List.length_append, xI]
 exact ho'
def Els (w : World) (S : Nat -> Prop) (rs : List Raw) (xs : List Pt) : Prop := rs.length = xs.length /\ ∀ (i : Nat) (r : Raw) (x : Pt), rs[i]? = some r -> xs[i]? = some x -> InP w S x r.v
theorem Els.nil {w : World} {S : Nat -> Prop} : Els w S [] [] := ⟨rfl, fun i r x h => by simp at h⟩
theorem Els.keep {w w' : World} {S S' : Nat -> Prop} {rs : List Raw} {xs : List Pt} (h : Els w S rs xs) (hk : ∀ p : Addr, S p.block -> w'.cell? p = w.cell? p) (hS : ∀ b, S b -> S' b) : Els w' S' rs xs :=
 ⟨h.1, fun i r x h1 h2 => InP.keep hk hS _ _ (h.2 i r x h1 h2)⟩
theorem Els.cons {w : World} {S : Nat -> Prop} {rs : List Raw} {xs : List Pt} {r : Raw} {x : Pt} (hx : InP w S x r.v) (h : Els w S rs xs) : Els w S (r :: rs) (x :: xs) := by
 refine ⟨by simp [h.1], fun i r2 x2 h1 h2 => ?_⟩
 cases i with
 | zero =>
  simp at h1 h2
  subst h1 h2
  exact hx
 | succ i => exact h.2 i r2 x2 (by simpa using h1) (by simpa using h2)
theorem Els.append {w : World} {S : Nat -> Prop} {rs ss : List Raw} {xs ys : List Pt} (h : Els w S rs xs) (hy : Els w S ss ys) : Els w S (rs ++ ss) (xs ++ ys) := by
 refine ⟨by simp [h.1, hy.1], fun i r2 x2 h1 h2 => ?_⟩
 rcases Nat.lt_or_ge i rs.length with hi | hi
 ·rw [List.getElem?_append_left hi] at h1
  rw [List.getElem?_append_left (by have := h.1; omega)] at h2
  exact h.2 i r2 x2 h1 h2
 rw [List.getElem?_append_right hi] at h1
 rw [List.getElem?_append_right (by have := h.1; omega)] at h2
 rw [<- h.1] at h2
 exact hy.2 _ r2 x2 h1 h2
theorem Els.set {w : World} {S : Nat -> Prop} {rs : List Raw} {xs : List Pt} (h : Els w S rs xs) {i : Nat} {r : Raw} {x : Pt} (hx : InP w S x r.v) : Els w S (rs.set i r) (xs.set i x) := by
 refine ⟨by simp [h.1], fun j r2 x2 h1 h2 => ?_⟩
 rw [List.getElem?_set] at h1 h2
 by_cases hij : i = j
 ·subst hij
  rw [if_pos rfl] at h1 h2
  split at h1
  ·split at h2
   ·injection h1 with h1; injection h2 with h2
    subst h1 h2
    exact hx
   cases h2
  cases h1
 rw [if_neg hij] at h1 h2
 exact h.2 j r2 x2 h1 h2
theorem Els.rdP {w : World} {S : Nat -> Prop} {rs : List Raw} {xs : List Pt} {A : Option Addr} {base c : Nat} (h : Els w S rs xs) (ho : OwnN w base A c rs) (hS : ∀ b, Value.ownBlock (.slice A rs.length c) = some b -> S b) : RdP w S A xs := fun hne => by
 have hl : 0 < rs.length := by
  rw [h.1]
  rcases Nat.eq_zero_or_pos xs.length with h0 | h0
  ·exact absurd (List.eq_nil_of_length_eq_zero h0) hne
  exact h0
 obtain ⟨g, rfl, h1, h2⟩ := zJ ho hl
 have hrd : Rd w w.heap.size (some ⟨g, 0, none⟩) (zb rs) := Rd.of_own ho
 obtain ⟨b, o, e, _, hc⟩ := hrd (by intro e; have := jq rs; rw [e] at this; simp at this; omega)
 injection e with e
 injection e with e1 e2
 subst e1
 subst e2
 refine ⟨g, 0, rfl, hS g rfl, InPs.of_get fun i hi => ?_⟩
 have hir : i < rs.length := by rw [h.1]; exact hi
 have hr : rs[i]? = some rs[i] := List.getElem?_eq_getElem hir
 have key : ∀ j (hj : j < 5), w.cell? ⟨g, 0 + i * 5 + j, none⟩ = (rs[i]).cs[j]? := fun j hj => by
  have hg := xJ rs i _ j hr hj
  have hv : (rs[i]).cs[j]? = some ((rs[i]).cs[j]'(by simpa using hj)) := List.getElem?_eq_getElem _
  rw [hv, show 0 + i * 5 + j = 0 + (i * 5 + j) by omega]
  exact hc _ _ (hg.trans hv)
 refine ⟨(rs[i]).v, ⟨_, _, _, _, _, rfl, key 0 (by omega), key 1 (by omega), key 2 (by omega), key 3 (by omega), key 4 (by omega)⟩, h.2 i _ _ hr (List.getElem?_eq_getElem hi)⟩
structure PLs (w : World) (B : Nat) (A : Option Addr) (c : Nat) (rs : List Raw) (xs : List Pt) : Prop where
 own : OwnN w B A c rs
 els : Els w (fun j => B <= j /\ j < w.heap.size /\ Value.ownBlock (.slice A rs.length c) ≠ some j) rs xs
section
variable {w w' : World} {B c : Nat} {A : Option Addr} {rs : List Raw} {xs : List Pt}
theorem PLs.len (h : PLs w B A c rs xs) : rs.length = xs.length := h.els.1
theorem PLs.grow {row : Option Nat} (h : PLs w B A c rs xs) (hg : w.grownBy w' row) (hr : ∀ j, row = some j -> j < B) : PLs w' B A c rs xs := by
 refine ⟨h.own.kept hg ?_, h.els.keep (fun p hp => World.cell?_of_block (hg.block _ hp.2.1 (fun e => by have := hr _ e.symm; have := hp.1; omega))) (fun _ hj => ⟨hj.1, Nat.lt_of_lt_of_le hj.2.1 hg.size, hj.2.2⟩)⟩
 cases hv : Value.ownBlock (.slice A rs.length c) with
 | none => exact .inl rfl
 | some k => exact .inr fun e => by have := hr _ e.symm; have := Xb h.own k hv; omega
theorem PLs.keep (h : PLs w B A c rs xs) (hb : Below w.heap.size w w') : PLs w' B A c rs xs := h.grow (row := none) (jg hb _) (fun j hj => by cases hj)
theorem PLs.rd (h : PLs w B A c rs xs) : RdP w (fun j => B <= j /\ j < w.heap.size) A xs :=
 (h.els.keep (fun _ _ => rfl) (fun _ hj => ⟨hj.1, hj.2.1⟩)).rdP h.own (fun b hb => h.own.lt b hb)
theorem PLs.cap (h : PLs w B A c rs xs) : rs.length <= c := xK h.own
theorem PLs.app (h : PLs w B A c rs xs) {A' : Option Addr} {c' : Nat} {us : List Raw} {ys : List Pt} (ho : OwnN w' B A' c' (rs ++ us)) (hg : w.grownBy w' (Value.ownBlock (.slice A rs.length c)))
  (hbk : Value.ownBlock (.slice A' (rs.length + us.length) c') = Value.ownBlock (.slice A rs.length c) \/ Value.ownBlock (.slice A' (rs.length + us.length) c') = some w.heap.size)
  (hx : Els w (fun j => B <= j /\ j < w.heap.size /\ Value.ownBlock (.slice A rs.length c) ≠ some j) us ys) : PLs w' B A' c' (rs ++ us) (xs ++ ys) := by
 refine ⟨ho, (h.els.append hx).keep (fun p hp => World.cell?_of_block (hg.block _ hp.2.1 (fun e => hp.2.2 e.symm))) (fun j hj => ⟨hj.1, Nat.lt_of_lt_of_le hj.2.1 hg.size, ?_⟩)⟩
 rw [List.length_append]
 rcases hbk with e | e
 ·rw [e]; exact hj.2.2
 rw [e]; intro e2; injection e2; omega
theorem PLs.copied (h : PLs w B A c rs xs) {A' : Option Addr} {c' : Nat} (ho : OwnN w' B A' c' rs) (hnew : ∀ j, Value.ownBlock (.slice A' rs.length c') = some j -> w.heap.size <= j) (hk : ∀ j, j < w.heap.size -> w'.heap[j]? = w.heap[j]?) (hsz : w.heap.size <= w'.heap.size) : PLs w' B A' c' rs xs :=
 ⟨ho, h.els.keep (fun p hp => World.cell?_of_block (hk _ hp.2.1)) (fun _ hj => ⟨hj.1, Nat.lt_of_lt_of_le hj.2.1 hsz, fun e => by have := hnew _ e; have := hj.2.1; omega⟩)⟩
theorem PLs.text {g i : Nat} (h : PLs w B (some ⟨g, 0, none⟩) c rs xs) {r : Raw} {k : Int} {t0 n : Tx} {us vs : List Pt} (hr : rs[i]? = some r) (hx : xs[i]? = some (.mk k t0 n us vs)) (t : Tx) :
  PLs (w.setCell ⟨g, i * 5 + 1, none⟩ (sv t)) B (some ⟨g, 0, none⟩) c (rs.set i { r with t := t }) (xs.set i (.mk k t n us vs)) := by
 have h1 := (h.own.stored (i * 5 + 1) (sv t)).1
 rw [Wc rs i r t hr] at h1
 have hl : (rs.set i { r with t := t }).length = rs.length := by simp
 have hp := h.els.2 i r _ hr hx
 refine ⟨by unfold OwnN; rw [hl]; exact h1, ?_⟩
 have hk : ∀ p : Addr, (B <= p.block /\ p.block < w.heap.size /\ Value.ownBlock (.slice (some ⟨g, 0, none⟩) rs.length c) ≠ some p.block) -> (w.setCell ⟨g, i * 5 + 1, none⟩ (sv t)).cell? p = w.cell? p := fun p hp => World.cell?_of_block (Below.heap_setCell _ _ _ _ (fun e => hp.2.2 (by rw [e]; rfl)))
 have hS : ∀ j, (B <= j /\ j < w.heap.size /\ Value.ownBlock (.slice (some ⟨g, 0, none⟩) rs.length c) ≠ some j) -> B <= j /\ j < (w.setCell ⟨g, i * 5 + 1, none⟩ (sv t)).heap.size /\ Value.ownBlock (.slice (some ⟨g, 0, none⟩) (rs.set i { r with t := t }).length c) ≠ some j := fun j hj => ⟨hj.1, by simpa [World.setCell] using hj.2.1, hj.2.2⟩
 refine (h.els.keep hk hS).set ?_
 have hp2 := InP.keep hk hS _ _ hp
 obtain ⟨Ap, cp, Ao, co, e, g1, g2, g3, g4⟩ := hp2.parts
 injection e with e
 simp only [Array.mk.injEq, List.cons.injEq, and_true, Value.slice.injEq] at e
 obtain ⟨e1, e2, e3, ⟨e4, e5, e6⟩, e7, e8, e9⟩ := e
 have := InP.mk (k := k) (t := t) (n := n) g1 g2 g3 g4
 show InP _ _ _ (ptV r.k t r.n r.Ap r.lp r.cp r.Ao r.lo r.co)
 rw [show ptV r.k t r.n r.Ap r.lp r.cp r.Ao r.lo r.co = ptV k t n Ap us.length cp Ao vs.length co by
  simp only [ptV]
  rw [e1, e3, e4, e5, e6, e7, e8, e9]]
 exact this
end
def wt (xs : List Pt) : Nat := xs.length + Pt.sizes xs
theorem kK : ∀ xs ys : List Pt, Pt.sizes (xs ++ ys) = Pt.sizes xs + Pt.sizes ys
 | [], ys => by simp [Pt.sizes]
 | x :: t, ys => by simp only [List.cons_append, Pt.sizes, kK t ys]; omega
theorem Yh (xs ys : List Pt) : wt (xs ++ ys) = wt xs + wt ys := by unfold wt; rw [List.length_append, kK]; omega
theorem Ye (k : Int) (t n : Tx) (us vs : List Pt) : wt [.mk k t n us vs] = 1 + (t.length + n.length + wt us + wt vs) := by simp [wt, Pt.sizes, Pt.size]
theorem Yg : wt [] = 0 := by simp [wt, Pt.sizes]
theorem Wg : ∀ (xs : List Pt) (i : Nat) (k : Int) (t0 t n : Tx) (us vs : List Pt), xs[i]? = some (.mk k t0 n us vs) -> Pt.sizes (xs.set i (.mk k t n us vs)) + t0.length = Pt.sizes xs + t.length
 | x :: s, 0, k, t0, t, n, us, vs, h => by
  simp at h
  subst h
  simp only [List.set_cons_zero, Pt.sizes, Pt.size]
  omega
 | x :: s, i + 1, k, t0, t, n, us, vs, h => by
  have := Wg s i k t0 t n us vs (by simpa using h)
  simp only [List.set_cons_succ, Pt.sizes]
  omega
theorem wt_set {xs : List Pt} {i : Nat} {k : Int} {t0 t n : Tx} {us vs : List Pt} (h : xs[i]? = some (.mk k t0 n us vs)) : wt (xs.set i (.mk k t n us vs)) + t0.length = wt xs + t.length := by
 have := Wg xs i k t0 t n us vs h
 unfold wt
 rw [List.length_set]
 omega
def has2 (c : UInt8) : Tx -> Bool
 | x :: y :: t => (x == c && y == c) || has2 c (y :: t)
 | _ => false
def two : Tx -> Bool
 | x :: y :: t => (x == 123 && y == 123) || ((x == 125 && y == 125) || two (y :: t))
 | _ => false
theorem yF (t : Tx) : two t = (has2 123 t || has2 125 t) := by
 induction t with
 | nil => rfl
 | cons x s ih =>
  cases s with
  | nil => rfl
  | cons y r =>
   simp only [two, has2, ih]
   cases (x == 123 && y == 123) <;> cases (x == 125 && y == 125) <;> cases has2 123 (y :: r) <;> simp
theorem Xc (c : UInt8) (s : Tx) : Lib.contains s [c, c] = has2 c s := by
 unfold Lib.contains
 induction s with
 | nil => rfl
 | cons x t ih =>
  have hg := Lib.index_ge t [c, c]
  cases t with
  | nil => simp [Lib.index, has2]
  | cons y r =>
   rw [has2, <- ih, Lib.index]
   have e : List.isPrefixOf [c, c] (x :: y :: r) = (x == c && y == c) := by
    simp only [List.isPrefixOf, Bool.and_true]
    rw [Bool.eq_iff_iff]
    simp only [Bool.and_eq_true, beq_iff_eq]
    exact ⟨fun h => ⟨h.1.symm, h.2.symm⟩, fun h => ⟨h.1.symm, h.2.symm⟩⟩
   rw [e]
   cases (x == c && y == c)
   ·simp only [Bool.false_eq_true, if_false, Bool.false_or]
    by_cases h : Lib.index (y :: r) [c, c] = -1
    ·rw [h]; decide
    rw [if_neg (by simpa using h)]
    rw [Bool.eq_iff_iff]
    simp
    omega
   simp
def zY (n : Tx) : Bool := n == [105, 102] || (n == [101, 97, 99, 104] || (n == [101, 108, 115, 101] || n == [101, 110, 100]))
def zE (c : UInt8) : Bool := c == 123 || c == 125
def zA (t : Tx) : Bool := zx t && (!(t == []) && (!two t && (!zE (t.headD 0) && !zE (t.getLastD 0))))
namespace Pt
mutual
def ok : Pt -> Nat -> Bool
 | mk k t n xs ys, d =>
  if k = 1 then zA t && (n == [] && (xs.isEmpty && ys.isEmpty))
  else if k = 2 then qJ n && (!zY n && (t == [] && (xs.isEmpty && ys.isEmpty)))
  else if k = 3 \/ k = 4 then qJ n && (t == [] && (!(decide (k = 4) && !ys.isEmpty) && (decide (d ≠ 0) && (oks xs (d - 1) false && oks ys (d - 1) false))))
  else false
def oks : List Pt -> Nat -> Bool -> Bool
 | [], _, _ => true
 | x :: s, d, pv => ok x d && (!(pv && decide (kind x = 1)) && oks s d (decide (kind x = 1)))
end
def valid (xs : List Pt) : Bool := decide (manys xs <= 30) && oks xs 3 false
def pvAt (xs : List Pt) (j : Nat) : Bool := match j with
 | 0 => false
 | j + 1 => match xs[j]? with
  | some x => decide (kind x = 1)
  | none => false
theorem pvAt_succ {xs : List Pt} {j : Nat} (h : j < xs.length) : pvAt xs (j + 1) = decide (kind xs[j] = 1) := by simp [pvAt, h]
theorem oks_step {xs : List Pt} {j d : Nat} {r : Bool} (h : oks (xs.drop j) d (pvAt xs j) = r) (hj : j < xs.length) : (ok xs[j] d && (!(pvAt xs j && decide (kind xs[j] = 1)) && oks (xs.drop (j + 1)) d (pvAt xs (j + 1)))) = r := by
 rw [qX xs j hj, oks] at h
 rw [pvAt_succ hj]; exact h
theorem oks_end {xs : List Pt} {j d : Nat} {p r : Bool} (h : oks (xs.drop j) d p = r) (hj : ¬ j < xs.length) : true = r := by
 rw [zc xs j (by omega), oks] at h; exact h
end Pt
theorem RdP.at2 {w : World} {S : Nat -> Prop} {A : Option Addr} {xs : List Pt} (h : RdP w S A xs) {k : Nat} (hk : k < xs.length) : ∃ b o, A = some ⟨b, o, none⟩ /\ S b /\ ∃ kd t n us vs Ap cp Ao co, xs[k] = .mk kd t n us vs /\ us.length <= cp /\ vs.length <= co /\ RdP w S Ap us /\ RdP w S Ao vs ∧
  w.cell? ⟨b, o + k * 5, none⟩ = some (.int .i64 kd) /\ w.cell? ⟨b, o + k * 5 + 1, none⟩ = some (sv t) /\ w.cell? ⟨b, o + k * 5 + 2, none⟩ = some (sv n) /\ w.cell? ⟨b, o + k * 5 + 3, none⟩ = some (.slice Ap us.length cp) /\ w.cell? ⟨b, o + k * 5 + 4, none⟩ = some (.slice Ao vs.length co) := by
 obtain ⟨b, o, e, hb, kd, t, n, Ap, lp, cp, Ao, lo, co, hin, c0, c1, c2, c3, c4⟩ := h.at hk
 refine ⟨b, o, e, hb, ?_⟩
 generalize xs[k] = x at *
 cases x with
 | mk kd' t' n' us vs =>
  obtain ⟨Ap', cp', Ao', co', e6, g1, g2, g3, g4⟩ := hin.parts
  injection e6 with e6
  simp only [Array.mk.injEq, List.cons.injEq, and_true, Value.int.injEq, Value.slice.injEq, true_and] at e6
  obtain ⟨rfl, e2, e3, ⟨rfl, rfl, rfl⟩, rfl, rfl, rfl⟩ := e6
  have e2' : t = t' := by injection e2 with e2; injection e2 with e2; simpa using e2
  have e3' : n = n' := by injection e3 with e3; injection e3 with e3; simpa using e3
  subst e2' e3'
  exact ⟨kd, t, n, us, vs, Ap, cp, Ao, co, rfl, g1, g2, g3, g4, c0, c1, c2, c3, c4⟩
def CtC (f : FuncId) (d : Nat) : Prop := ∀ (xs : List Pt) (A : Option Addr) (c : Nat) (w : World), Pt.deeps xs <= d -> RdP w (All w) A xs -> Pt.manys xs <= 2000000 →
  Calls Tryz.prog f #[.slice A xs.length c] w fun e w' => e = .returned (.int .i64 (Pt.manys xs : Int)) /\ Below w.heap.size w w'
theorem Xd (d : Nat) : CtC 124 d := by
 induction d with
 | zero =>
  intro xs A c w hd hx hm
  cases xs with
  | cons x t => cases x; simp [Pt.deeps, Pt.deep] at hd
  | nil =>
   go_enter func124, ntmps124
   go_wp2
   refine wp_loop_rounds 1 ?_
   rw [rounds_succ]
   go_wp2
   go_ret
   exact ⟨rfl, Below.refl _ _⟩
 | succ d ih =>
 intro xs A c w hd hx hm
 have HX := qb hx
 have HD := qb hd
 have HM := qb hm
 have IH := qb ih
 have hxl : xs.length <= 2000000 := Nat.le_trans (Pt.manys_len xs) hm
 clear hx hd hm ih
 go_enter func124, ntmps124
 go_wp2
 go_loopw [3, 8] (fun m i wr => ∃ (j : Nat), j <= xs.length /\ i = .int .i64 j /\ m = .int .i64 ((Pt.manys (xs.take j) : Nat) : Int) /\ Below w.heap.size w wr) (fun _ i _ => xs.length - (intOf i).toNat)
 case atStart => exact ⟨0, Nat.zero_le _, rfl, rfl, Below.refl _ _⟩
 obtain ⟨j, hj, rfl, rfl, hb⟩ := hrel
 have HB := qb hb
 clear hb
 by_cases hlt : j < xs.length
 ·obtain ⟨b1, o1, rfl, hb1, kd, tt, nn, us, vs, Ap, cp, Ao, co, hxj, g1, g2, g3, g4, c0, c1, c2, c3, c4⟩ := (HX.out.now HB.out).at2 hlt
  have hmem : Pt.mk kd tt nn us vs ∈ xs := by rw [<- hxj]; exact List.getElem_mem hlt
  have hdp := Pt.deep_mem hmem
  have hmm := Pt.many_mem hmem
  simp only [Pt.deep] at hdp
  simp only [Pt.many] at hmm
  have hD := HD.out
  have hM := HM.out
  have HA1 := qb ((Below.refl wr.heap.size wr).alloc (Nat.le_refl _) (.cells (qD kd tt nn Ap us.length cp Ao vs.length co) 115))
  have HC1 := qb (fun w2 (hb : Below _ _ w2) => IH.out us Ap cp w2 (by omega) ((g3.now HA1.out).now hb) (by omega))
  have HC2 := qb (fun w2 (hb : Below _ _ w2) => IH.out vs Ao co w2 (by omega) ((g4.now HA1.out).now hb) (by omega))
  have HTK := qb (Pt.manys_take xs j hlt)
  rw [hxj] at HTK
  simp only [Pt.many] at HTK
  have hle := Pt.manys_take_le xs (j + 1)
  rw [HTK.out] at hle
  have HXB := qb (heap_alloc_new wr (.cells (qD kd tt nn Ap us.length cp Ao vs.length co) 115))
  have HB1 := qb (qa3 HB.out HA1.out)
  have hsz : wr.heap.size < (wr.alloc (.cells (qD kd tt nn Ap us.length cp Ao vs.length co) 115)).heap.size := by simp
  generalize Pt.manys us = m1 at *
  generalize Pt.manys vs = m2 at *
  generalize Pt.manys (xs.take j) = ct at *
  clear g1 g2 g3 g4 hdp hxj hmem hD
  go_upto_region 5 with fail
  generalize wr.alloc (.cells (qD kd tt nn Ap us.length cp Ao vs.length co) 115) = wb at *
  obtain ⟨⟨f0, f1, f2, f3, f4⟩, -⟩ := qI HXB.out
  have HF3 := qb f3
  have HF4 := qb f4
  go_wp2_with fail
  refine qU 10 (by kernel_rfl) (by kernel_rfl) (fun _ w => Below (World.heap wb).size wb w) KB (fun i => ([bIs (.int .i64 (ct : Int)), bIs (.pointer (some ⟨wr.heap.size, 3, none⟩)), bIs (.slice Ap us.length cp), bIs (.int .i64 (m1 : Int)), bIs (.int .i64 (1 + (m1 : Int))), bIs (.pointer (some ⟨wr.heap.size, 4, none⟩)), bIs (.slice Ao vs.length co), bIs (.int .i64 (m2 : Int)), bIs (.int .i64 (1 + (m1 : Int) + (m2 : Int))), bIs (.int .i64 ((ct : Int) + (1 + (m1 : Int) + (m2 : Int))))] : List TyB).getD i bAny) ?hWbB1 ?hkeepB1 ?hstepB1 ?hfinbB1
  case hkeepB1 =>
   refine qg (qg (qg (qg (qg (qg (qg (qg (qg (qg qG ?_) ?_) ?_) ?_) ?_) ?_) ?_) ?_) ?_) ?_
   all_goals exact qj
  case hstepB1 =>
   refine qg (qg (qg (qg (qg (qg (qg (qg (qg (qg qG ?_) ?_) ?_) ?_) ?_) ?_) ?_) ?_) ?_) ?_
   all_goals (intro o ho m' a w1 hm' hW hb hd K Q hK; obtain rfl := Option.some.inj ho)
   ·(have e0 : a.tmps[3]?.getD undef = (.int .i64 (ct : Int)) := (by rw [hb 3 (by decide +kernel)]; simp); go_simp; exact hK _ _ hW (VY _) rfl)
   ·(have e0 : a.tmps[5]?.getD undef = .pointer (some ⟨wr.heap.size, 0, none⟩) := (by rw [hb 5 (by decide +kernel)]; simp); go_simp; exact hK _ _ hW (VY _) rfl)
   ·(have e0 := qo (hd 1 (by kernel_rfl) 13 rfl); have hcw := (hW.cell (p := ⟨wr.heap.size, 3, none⟩) hsz).trans HF3.out; go_simp; exact hK _ _ hW (VY _) rfl)
   ·(have e0 := qo (hd 2 (by kernel_rfl) 14 rfl); go_simp; refine (HC1.out _ hW).mono ?_; rintro e w2 ⟨rfl, hb2⟩; exact hK _ _ (qa3 hW hb2) hb2 rfl)
   ·(have e0 := qo (hd 3 (by kernel_rfl) 15 rfl); go_simp; exact hK _ _ hW (VY _) (show Value.int _ _ = Value.int _ _ from congrArg (Value.int _) (IntWalk.i64_in _ (by omega))))
   ·(have e0 : a.tmps[5]?.getD undef = .pointer (some ⟨wr.heap.size, 0, none⟩) := (by rw [hb 5 (by decide +kernel)]; simp); go_simp; exact hK _ _ hW (VY _) rfl)
   ·(have e0 := qo (hd 5 (by kernel_rfl) 17 rfl); have hcw := (hW.cell (p := ⟨wr.heap.size, 4, none⟩) hsz).trans HF4.out; go_simp; exact hK _ _ hW (VY _) rfl)
   ·(have e0 := qo (hd 6 (by kernel_rfl) 18 rfl); go_simp; refine (HC2.out _ hW).mono ?_; rintro e w2 ⟨rfl, hb2⟩; exact hK _ _ (qa3 hW hb2) hb2 rfl)
   ·(have e0 := qo (hd 4 (by kernel_rfl) 16 rfl); have e1 := qo (hd 7 (by kernel_rfl) 19 rfl); go_simp; exact hK _ _ hW (VY _) (show Value.int _ _ = Value.int _ _ from congrArg (Value.int _) (IntWalk.i64_in _ (by omega))))
   (have e0 := qo (hd 0 (by kernel_rfl) 12 rfl); have e1 := qo (hd 8 (by kernel_rfl) 20 rfl); go_simp; exact hK _ _ hW (VY _) (show Value.int _ _ = Value.int _ _ from congrArg (Value.int _) (IntWalk.i64_in _ (by omega))))
  case hWbB1 => exact (Below.refl _ _).drew
  intro vs' w3 hW hF
  simp only [qF, hdst, List.getElem?_cons_succ, List.getElem?_cons_zero, Option.bind, List.drop_succ_cons, List.drop_zero, Act.put]
  have h9 : vs' 9 = .int .i64 ((ct : Int) + (1 + (m1 : Int) + (m2 : Int))) := hF 9 (by omega)
  rw [h9]
  have HB3 := qb (qa3 HB1.out hW)
  clear hF h9 hW
  go_simp
  go_wp2
  go_roundw
  case rel => exact ⟨j + 1, by omega, by go_num, by rw [HTK.out]; go_num, HB3.out⟩
  case measure => simp [intOf]; omega
 have HT : Hid (xs.take j = xs) := by show _ = _; exact List.take_of_length_le (by omega)
 go_wp2
 go_ret
 exact ⟨qA (by rw [HT.out]), HB.out⟩
theorem Xe (d : Nat) : CtC 104 d := by
 induction d with
 | zero =>
  intro xs A c w hd hx hm
  cases xs with
  | cons x t => cases x; simp [Pt.deeps, Pt.deep] at hd
  | nil =>
   go_enter func104, ntmps104
   go_wp2
   refine wp_loop_rounds 1 ?_
   rw [rounds_succ]
   go_wp2
   go_ret
   exact ⟨rfl, Below.refl _ _⟩
 | succ d ih =>
 intro xs A c w hd hx hm
 have HX := qb hx
 have HD := qb hd
 have HM := qb hm
 have IH := qb ih
 have hxl : xs.length <= 2000000 := Nat.le_trans (Pt.manys_len xs) hm
 clear hx hd hm ih
 go_enter func104, ntmps104
 go_wp2
 go_loopw [3, 4] (fun m i wr => ∃ (j s : Nat), j <= xs.length /\ i = .int .i64 j /\ m = .int .i64 (s : Int) /\ s = Pt.manys (xs.take j) + (xs.length - j) /\ Below w.heap.size w wr) (fun _ i _ => xs.length - (intOf i).toNat)
 case atStart => exact ⟨0, xs.length, Nat.zero_le _, rfl, rfl, by simp [Pt.manys], Below.refl _ _⟩
 obtain ⟨j, s, hj, rfl, rfl, hs, hb⟩ := hrel
 have HB := qb hb
 have HS := qb hs
 clear hb hs
 by_cases hlt : j < xs.length
 ·obtain ⟨b1, o1, rfl, hb1, kd, tt, nn, us, vs, Ap, cp, Ao, co, hxj, g1, g2, g3, g4, c0, c1, c2, c3, c4⟩ := (HX.out.now HB.out).at2 hlt
  have hmem : Pt.mk kd tt nn us vs ∈ xs := by rw [<- hxj]; exact List.getElem_mem hlt
  have hdp := Pt.deep_mem hmem
  have hmm := Pt.many_mem hmem
  simp only [Pt.deep] at hdp
  simp only [Pt.many] at hmm
  have hD := HD.out
  have hM := HM.out
  have HC1 := qb (fun w2 (hb : Below wr.heap.size wr w2) => IH.out us Ap cp w2 (by omega) (g3.now hb) (by omega))
  have HC2 := qb (fun w2 (hb : Below wr.heap.size wr w2) => IH.out vs Ao co w2 (by omega) (g4.now hb) (by omega))
  have HTK := qb (Pt.manys_take xs j hlt)
  rw [hxj] at HTK
  simp only [Pt.many] at HTK
  have hle := Pt.manys_take_le xs (j + 1)
  rw [HTK.out] at hle
  have hsb : s <= 4000000 := by have := HS.out; omega
  generalize Pt.manys us = m1 at *
  generalize Pt.manys vs = m2 at *
  have HF3 := qb c3
  have HF4 := qb c4
  clear g1 g2 g3 g4 hdp hxj hmem hD
  go_upto_region 5 with fail
  go_wp2_with fail
  refine qU 15 (by kernel_rfl) (by kernel_rfl) (fun _ w => Below (World.heap wr).size wr w) KB (fun i => ([bIs (.int .i64 (s : Int)), bIs (.slice (some ⟨b1, o1, none⟩) xs.length c), bIs (.int .i64 (j : Int)), bIs (.pointer (some ⟨b1, o1 + j * 5, none⟩)), bIs (.pointer (some ⟨b1, o1 + j * 5 + 3, none⟩)), bIs (.slice Ap us.length cp), bIs (.int .i64 (m1 : Int)), bIs (.int .i64 ((s : Int) + (m1 : Int))), bIs (.slice (some ⟨b1, o1, none⟩) xs.length c), bIs (.int .i64 (j : Int)), bIs (.pointer (some ⟨b1, o1 + j * 5, none⟩)), bIs (.pointer (some ⟨b1, o1 + j * 5 + 4, none⟩)), bIs (.slice Ao vs.length co), bIs (.int .i64 (m2 : Int)), bIs (.int .i64 ((s : Int) + (m1 : Int) + (m2 : Int)))] : List TyB).getD i bAny) ?hWbB2 ?hkeepB2 ?hstepB2 ?hfinbB2
  case hkeepB2 =>
   refine qg (qg (qg (qg (qg (qg (qg (qg (qg (qg (qg (qg (qg (qg (qg qG ?_) ?_) ?_) ?_) ?_) ?_) ?_) ?_) ?_) ?_) ?_) ?_) ?_) ?_) ?_
   all_goals exact qj
  case hstepB2 =>
   refine qg (qg (qg (qg (qg (qg (qg (qg (qg (qg (qg (qg (qg (qg (qg qG ?_) ?_) ?_) ?_) ?_) ?_) ?_) ?_) ?_) ?_) ?_) ?_) ?_) ?_) ?_
   all_goals (intro o ho m' a w1 hm' hW hb hd K Q hK; obtain rfl := Option.some.inj ho)
   ·(have e0 : a.tmps[3]?.getD undef = (.int .i64 (s : Int)) := (by rw [hb 3 (by decide +kernel)]; simp); go_simp; exact hK _ _ hW (VY _) rfl)
   ·(have e0 : a.tmps[0]?.getD undef = (.slice (some ⟨b1, o1, none⟩) xs.length c) := (by rw [hb 0 (by decide +kernel)]; simp); go_simp; exact hK _ _ hW (VY _) rfl)
   ·(have e0 : a.tmps[4]?.getD undef = (.int .i64 (j : Int)) := (by rw [hb 4 (by decide +kernel)]; simp); go_simp; exact hK _ _ hW (VY _) rfl)
   ·(have e0 := qo (hd 1 (by kernel_rfl) 14 rfl); have e1 := qo (hd 2 (by kernel_rfl) 15 rfl); go_simp; exact hK _ _ hW (VY _) rfl)
   ·(have e0 := qo (hd 3 (by kernel_rfl) 16 rfl); go_simp; exact hK _ _ hW (VY _) rfl)
   ·(have e0 := qo (hd 4 (by kernel_rfl) 17 rfl); have hcw := (hW.cell (p := ⟨b1, o1 + j * 5 + 3, none⟩) hb1).trans HF3.out; go_simp; exact hK _ _ hW (VY _) rfl)
   ·(have e0 := qo (hd 5 (by kernel_rfl) 18 rfl); go_simp; refine (HC1.out _ hW).mono ?_; rintro e w2 ⟨rfl, hb2⟩; exact hK _ _ (qa3 hW hb2) hb2 rfl)
   ·(have e0 := qo (hd 0 (by kernel_rfl) 13 rfl); have e1 := qo (hd 6 (by kernel_rfl) 19 rfl); go_simp; exact hK _ _ hW (VY _) (show Value.int _ _ = Value.int _ _ from congrArg (Value.int _) (IntWalk.i64_in _ (by omega))))
   ·(have e0 : a.tmps[0]?.getD undef = (.slice (some ⟨b1, o1, none⟩) xs.length c) := (by rw [hb 0 (by decide +kernel)]; simp); go_simp; exact hK _ _ hW (VY _) rfl)
   ·(have e0 : a.tmps[4]?.getD undef = (.int .i64 (j : Int)) := (by rw [hb 4 (by decide +kernel)]; simp); go_simp; exact hK _ _ hW (VY _) rfl)
   ·(have e0 := qo (hd 8 (by kernel_rfl) 21 rfl); have e1 := qo (hd 9 (by kernel_rfl) 22 rfl); go_simp; exact hK _ _ hW (VY _) rfl)
   ·(have e0 := qo (hd 10 (by kernel_rfl) 23 rfl); go_simp; exact hK _ _ hW (VY _) rfl)
   ·(have e0 := qo (hd 11 (by kernel_rfl) 24 rfl); have hcw := (hW.cell (p := ⟨b1, o1 + j * 5 + 4, none⟩) hb1).trans HF4.out; go_simp; exact hK _ _ hW (VY _) rfl)
   ·(have e0 := qo (hd 12 (by kernel_rfl) 25 rfl); go_simp; refine (HC2.out _ hW).mono ?_; rintro e w2 ⟨rfl, hb2⟩; exact hK _ _ (qa3 hW hb2) hb2 rfl)
   (have e0 := qo (hd 7 (by kernel_rfl) 20 rfl); have e1 := qo (hd 13 (by kernel_rfl) 26 rfl); go_simp; exact hK _ _ hW (VY _) (show Value.int _ _ = Value.int _ _ from congrArg (Value.int _) (IntWalk.i64_in _ (by omega))))
  case hWbB2 => exact (Below.refl _ _).drew
  intro vs' w3 hW hF
  simp only [qF, hdst, List.getElem?_cons_succ, List.getElem?_cons_zero, Option.bind, List.drop_succ_cons, List.drop_zero, Act.put]
  have h9 : vs' 14 = .int .i64 ((s : Int) + (m1 : Int) + (m2 : Int)) := hF 14 (by omega)
  rw [h9]
  have HB3 := qb (qa3 HB.out hW)
  clear hF h9 hW
  go_simp
  go_wp2
  go_roundw
  case rel => exact ⟨j + 1, s + m1 + m2, by omega, by go_num, by go_num, by have := HS.out; have := HTK.out; omega, HB3.out⟩
  case measure => simp [intOf]; omega
 have HT : Hid (s = Pt.manys xs) := by
  show _ = _
  have h := HS.out
  rw [List.take_of_length_le (by omega)] at h
  omega
 go_wp2
 go_ret
 exact ⟨qA (by rw [HT.out]), HB.out⟩
section
variable {w w' : World} {B c : Nat} {A : Option Addr} {rs : List Raw} {xs : List Pt}
theorem PLs.cellN (h : PLs w B A c rs xs) {i : Nat} (hi : i < rs.length) : ∃ g, A = some ⟨g, 0, none⟩ /\ B <= g /\ g < w.heap.size /\ (∀ j, j < 5 -> w.cell? ⟨g, i * 5 + j, none⟩ = (rs[i]).cs[j]?) /\ ∀ o, w.frozen? ⟨g, o, none⟩ = false := by
 obtain ⟨g, rfl, h1, h2⟩ := zJ h.own (by omega)
 have hrd : Rd w w.heap.size (some ⟨g, 0, none⟩) (zb rs) := Rd.of_own h.own
 obtain ⟨b, o, e, _, hc⟩ := hrd (by intro e; have := jq rs; rw [e] at this; simp at this; omega)
 injection e with e
 injection e with e1 e2
 subst e1 e2
 have hr : rs[i]? = some rs[i] := List.getElem?_eq_getElem hi
 refine ⟨g, rfl, h1, h2, fun j hj => ?_, fun o => h.own.frozenAt o⟩
 have hg := xJ rs i _ j hr hj
 have hv : (rs[i]).cs[j]? = some ((rs[i]).cs[j]'(by simpa using hj)) := List.getElem?_eq_getElem _
 rw [hv, show i * 5 + j = 0 + (i * 5 + j) by omega]
 exact hc _ _ (hg.trans hv)
theorem PLs.one (h : PLs w B A c rs xs) {i : Nat} (hi : i < xs.length) : ∃ g r k t n us vs, A = some ⟨g, 0, none⟩ /\ rs[i]? = some r /\ xs[i]? = some (.mk k t n us vs) /\ B <= g /\ g < w.heap.size /\ w.cell? ⟨g, i * 5, none⟩ = some (.int .i64 k) /\ w.cell? ⟨g, i * 5 + 1, none⟩ = some (sv t) /\ w.frozen? ⟨g, i * 5 + 1, none⟩ = false := by
 have hir : i < rs.length := by rw [h.len]; exact hi
 obtain ⟨g, rfl, h1, h2, hc, hf⟩ := h.cellN hir
 have hp := h.els.2 i _ _ (List.getElem?_eq_getElem hir) (List.getElem?_eq_getElem hi)
 have c0 := hc 0 (by omega)
 have c1 := hc 1 (by omega)
 generalize hxx : xs[i] = x at hp
 cases x with
 | mk k t n us vs =>
  obtain ⟨Ap, cp, Ao, co, e, _⟩ := hp.parts
  injection e with e
  simp only [Array.mk.injEq, List.cons.injEq, and_true] at e
  refine ⟨g, rs[i], k, t, n, us, vs, rfl, List.getElem?_eq_getElem hir, by rw [List.getElem?_eq_getElem hi, hxx], h1, h2, ?_, ?_, hf _⟩
  ·rw [<- e.1]; simpa using c0
  rw [<- e.2.1]; simpa using c1
end
theorem text_wt {xs : List Pt} {i : Nat} {k : Int} {t n : Tx} {us vs : List Pt} (h : xs[i]? = some (.mk k t n us vs)) : t.length <= wt xs := by
 have hm : Pt.mk k t n us vs ∈ xs := List.mem_of_getElem? h
 have := Pt.size_mem hm
 simp only [Pt.size] at this
 unfold wt
 omega
theorem ZS (w : World) : OwnN (w.alloc (.cells #[] 115)) w.heap.size (some ⟨w.heap.size, 0, none⟩) 0 [] :=
 ⟨rfl, .inr ⟨w.heap.size, 0, #[], rfl, Nat.le_refl _, heap_alloc_new w _, Nat.le_refl _, Nat.zero_le _, rfl, rfl⟩⟩
def AddP (w : World) (B : Nat) (A : Option Addr) (c l n : Nat) (e : Ending) (w' : World) : Prop :=
 ∃ A' c' rs' xs', e = .returned (.slice A' (List.length rs') c') /\ PLs w' B A' c' rs' xs' /\ wt xs' <= n /\ w.grownBy w' (Value.ownBlock (.slice A l c)) /\ (Value.ownBlock (.slice A' rs'.length c') = Value.ownBlock (.slice A l c) \/ ∀ j, Value.ownBlock (.slice A' rs'.length c') = some j -> w.heap.size <= j)
abbrev zR (t : Tx) : Raw := ⟨1, t, [], none, 0, 0, none, 0, 0⟩
theorem vp {w : World} {S : Nat -> Prop} (k : Int) (t n : Tx) : InP w S (.mk k t n [] []) (Raw.v ⟨k, t, n, none, 0, 0, none, 0, 0⟩) := InP.mk (xs := []) (ys := []) (cp := 0) (co := 0) (Nat.le_refl _) (Nat.le_refl _) RdP.nil_ RdP.nil_
theorem zH {w : World} {b : Nat} {us : List Raw} {cs : Array Value} {t : TypeId} {fr : Nat × Nat} (h : w.heap[b]? = some (.cells cs t fr)) (hc : cs.toList = zb us) : ∀ j u, (zb us)[j]? = some u -> w.cell? ⟨b, 0 + j, none⟩ = some u := fun j u hu => by
 rw [Nat.zero_add, cell_of_row w b j cs t fr h, <- Array.getElem?_toList, hc]; exact hu
theorem Yj (t : Tx) (B : Nat) (A : Option Addr) (c : Nat) (rs : List Raw) (xs : List Pt) (w : World) (h : PLs w B A c rs xs) (hB : B <= w.heap.size) (hw : wt xs <= 1000000) (ht : t.length <= 1000000) :
  Calls Tryz.prog 138 #[.slice A rs.length c, sv t] w (AddP w B A c rs.length (wt xs + 1 + t.length)) := by
 have H := qb h
 have hrl : rs.length <= 1000000 := by rw [h.len]; unfold wt at hw; omega
 by_cases hl : ∃ k t0 n us vs, xs[xs.length - 1]? = some (.mk k t0 n us vs) /\ k = 1
 ·obtain ⟨k, t0, n, us, vs, hx, rfl⟩ := hl
  have hne : 0 < xs.length := by
   rcases Nat.eq_zero_or_pos xs.length with h0 | h0
   ·rw [List.eq_nil_of_length_eq_zero h0] at hx; simp at hx
   exact h0
  have hi : rs.length - 1 < xs.length := by rw [h.len]; omega
  obtain ⟨g, r, k', t', n', us', vs', rfl, hr, hx', hg1, hg2, c0, c1, c2⟩ := h.one hi
  rw [<- h.len, hx'] at hx
  injection hx with hx
  injection hx with e1 e2 e3 e4 e5
  subst e1 e2 e3 e4 e5
  have hXX := qb hx'
  have hRR := qb hr
  have htw := text_wt hx'
  have hWS := qb (wt_set (t := t' ++ t) hx')
  have hrp : 0 < rs.length := by rw [h.len]; exact hne
  have hi0 : (0 : Int) <= (rs.length : Int) - 1 := by omega
  have hi1 : ((rs.length : Int) - 1).toNat = rs.length - 1 := by omega
  have hi2 : (rs.length : Int) - 1 < (rs.length : Int) := by omega
  have hsum : (9223372036854775807 < t'.length + t.length) = False := by rw [eq_iff_iff, iff_false]; omega
  have HA := qb ((Below.refl w.heap.size w).alloc (Nat.le_refl _) (.cells #[] 115))
  have HRD : Hid (∀ j u, (zb rs)[j]? = some u -> (w.alloc (.cells #[] 115)).cell? ⟨g, 0 + j, none⟩ = some u) := by
   intro j u hu
   have hrd : Rd w w.heap.size (some ⟨g, 0, none⟩) (zb rs) := Rd.of_own h.own
   obtain ⟨b, o, e, hb, hc⟩ := hrd (by intro e; have := jq rs; rw [e] at this; simp at this; omega)
   injection e with e
   injection e with e1 e2
   subst e1 e2
   exact (HA.out.cell (p := ⟨g, 0 + j, none⟩) hb).trans (hc j u hu)
  clear h hx' hr
  go_enter func138, ntmps138
  go_wp2_with (at_builtin; refine zD rfl _ _ rfl w.heap.size (some ⟨w.heap.size, 0, none⟩) 0 [] rs (by rfl) (ZS w) g 0 c (by rfl) HRD.out (by omega) (by simp) (by simp) ?_; intro A3 c3 w3 ho3 hg3 hbk3; have hP3 := PLs.copied H.out (zC ho3 hB) (fun j hj => (ho3.lt j hj).1) (fun j hj => (hg3.block j (by simp; omega) (by simp [Value.ownBlock]; omega)).trans (heap_alloc_old w _ hj)) (by have := hg3.size; simp at this; omega); obtain ⟨g3, r3, k3, t3, n3, us3, vs3, rfl, hr3, hx3, hb3, hl3, d0, d1, d2⟩ := hP3.one (by rw [<- H.out.len]; omega : rs.length - 1 < xs.length); obtain ⟨rfl, rfl, rfl, rfl, rfl⟩ : 1 = k3 /\ t' = t3 /\ n' = n3 /\ us' = us3 /\ vs' = vs3 := (by have e := hXX.out.symm.trans hx3; injection e with e; injection e with e1 e2 e3 e4 e5; exact ⟨e1, e2, e3, e4, e5⟩); have HP3 := qb (hP3.text hr3 hx3 (t' ++ t)); have HG3 := qb hg3; have HO3 := qb (ho3.lt g3 rfl); clear hP3 ho3 hg3 hbk3 hr3 hx3)
  go_ret
  have hbw : Below w.heap.size w (w3.setCell ⟨g3, (rs.length - 1) * 5 + 1, none⟩ (sv (t' ++ t))) := Below.setCell (HA.out.trans (zo HG3.out (by simp) (fun j hj => by injection hj with hj; simp at hj; omega))) (p := ⟨g3, (rs.length - 1) * 5 + 1, none⟩) HO3.out.1 _
  exact ⟨some ⟨g3, 0, none⟩, c3, _, _, by simp, HP3.out, by have := hWS.out; simp at this; omega, jg hbw _, .inr (fun j hj => by injection hj with hj; rw [<- hj]; exact HO3.out.1)⟩
 have hnk : ∀ k t0 n us vs, xs[xs.length - 1]? = some (.mk k t0 n us vs) -> ¬ k = 1 := fun k t0 n us vs e1 e2 => hl ⟨k, t0, n, us, vs, e1, e2⟩
 clear hl
 have HA := qb ((Below.refl w.heap.size w).alloc (Nat.le_refl _) (.cells #[.int .i64 1, sv t, sv [], .slice none 0 0, .slice none 0 0] 115))
 have HRW := qb (zH (us := [zR t]) (heap_alloc_new w (.cells #[.int .i64 1, sv t, sv [], .slice none 0 0, .slice none 0 0] 115)) rfl)
 have HP := qb (h.keep HA.out)
 have HNO := qb h.own.lt
 by_cases h0 : xs = []
 ·have hr0 : rs = [] := List.eq_nil_of_length_eq_zero (by rw [h.len, h0]; rfl)
  have hl0 : rs.length = 0 := by rw [hr0]; rfl
  have hneg : decide ((0 : Int) <= (rs.length : Int) - 1) = false := by rw [hl0]; rfl
  subst hr0
  subst h0
  clear h hnk hneg hl0
  go_enter func138, ntmps138
  go_wp2_with (at_builtin; refine zD rfl _ _ rfl B _ c _ [zR t] (by rfl) HP.out.own w.heap.size 0 1 (by rfl) HRW.out (by simp) (by first | omega | (simp; done)) (by first | (simp; done) | (simp; omega)) ?_; intro A3 c3 w3 ho3 hg3 hbk3)
  go_ret
  have hP3 := HP.out.app (ys := [.mk 1 t [] [] []]) ho3 hg3 hbk3 (Els.cons (vp 1 t []) Els.nil)
  refine ⟨A3, c3, _, _, by simp, hP3, by rw [Yh, Ye, Yg]; first | (simp; done) | (simp; omega), jF (World.grownBy_alloc w _ _) hg3, ?_⟩
  rw [List.length_append]
  rcases hbk3 with e | e
  ·exact .inl e
  exact .inr (fun j hj => by rw [show ([zR t] : List Raw).length = 1 from rfl] at hj; rw [show ([zR t] : List Raw).length = 1 from rfl] at e; rw [e] at hj; injection hj with hj; simp at hj; omega)
 have hne : 0 < xs.length := List.length_pos_iff.2 h0
 have hi : rs.length - 1 < xs.length := by rw [h.len]; omega
 obtain ⟨g, r, k, t0, n, us, vs, rfl, hr, hx, hg1, hg2, c0, c1, c2⟩ := h.one hi
 have hk := hnk k t0 n us vs (by rw [<- h.len]; exact hx)
 have hk' : (k == 1) = false := by simpa using hk
 have hrp : 0 < rs.length := by rw [h.len]; exact hne
 have hi0 : (0 : Int) <= (rs.length : Int) - 1 := by omega
 have hi1 : ((rs.length : Int) - 1).toNat = rs.length - 1 := by omega
 have hi2 : (rs.length : Int) - 1 < (rs.length : Int) := by omega
 clear h hnk hr hx hk c1 c2 h0
 go_enter func138, ntmps138
 go_wp2_with (at_builtin; refine zD rfl _ _ rfl B _ c _ [zR t] (by rfl) HP.out.own w.heap.size 0 1 (by rfl) HRW.out (by simp) (by first | omega | (simp; done)) (by first | (simp; done) | (simp; omega)) ?_; intro A3 c3 w3 ho3 hg3 hbk3)
 go_ret
 have hP3 := HP.out.app (ys := [.mk 1 t [] [] []]) ho3 hg3 hbk3 (Els.cons (vp 1 t []) Els.nil)
 refine ⟨A3, c3, _, _, by simp, hP3, by rw [Yh, Ye, Yg]; first | (simp; done) | (simp; omega), jF (World.grownBy_alloc w _ _) hg3, ?_⟩
 rw [List.length_append]
 rcases hbk3 with e | e
 ·exact .inl e
 exact .inr (fun j hj => by rw [show ([zR t] : List Raw).length = 1 from rfl] at hj; rw [show ([zR t] : List Raw).length = 1 from rfl] at e; rw [e] at hj; injection hj with hj; simp at hj; omega)
theorem WT (B M : Nat) (A : Option Addr) (c : Nat) (rs : List Raw) (xs : List Pt) (Am : Option Addr) (cm : Nat) (more : List Pt) (w : World) (h : PLs w B A c rs xs) (hBM : B <= M) (hM : M <= w.heap.size) (hA : ∀ j, Value.ownBlock (.slice A rs.length c) = some j -> j < M)
  (hm : RdP w (fun j => M <= j /\ j < w.heap.size) Am more) (hw : wt xs + wt more <= 1000000) :
  Calls Tryz.prog 167 #[.slice A rs.length c, .slice Am more.length cm] w (AddP w B A c rs.length (wt xs + wt more)) := by
 have HMO := qb hm
 have HAM := qb hA
 have H := qb h
 have hml : more.length <= 1000000 := by unfold wt at hw; omega
 clear hm hA h
 go_enter func167, ntmps167
 go_wp2
 go_loopw [0, 5] (fun l i wr => ∃ (k : Nat) (A1 : Option Addr) (c1 : Nat) (rs1 : List Raw) (xs1 : List Pt), k <= more.length /\ i = .int .i64 (k : Int) /\ l = .slice A1 rs1.length c1 /\ PLs wr B A1 c1 rs1 xs1 /\ wt xs1 + wt (more.drop k) <= wt xs + wt more /\ w.grownBy wr (Value.ownBlock (.slice A rs.length c)) /\ (Value.ownBlock (.slice A1 rs1.length c1) = Value.ownBlock (.slice A rs.length c) \/ ∀ j, Value.ownBlock (.slice A1 rs1.length c1) = some j -> w.heap.size <= j)) (fun _ i _ => more.length - (intOf i).toNat)
 case atStart => exact ⟨0, A, c, rs, xs, Nat.zero_le _, rfl, rfl, H.out, by simp, xb _ _, .inl rfl⟩
 obtain ⟨k, A1, c1, rs1, xs1, hk, rfl, rfl, hp, hwt, hg, hor⟩ := hrel
 have HP := qb hp
 have HG := qb hg
 have HOR := qb hor
 have hbz := hg.size
 by_cases hlt : k < more.length
 ·have hmr : RdP wr (fun j => M <= j /\ j < w.heap.size) Am more := HMO.out.keep (fun p hp => World.cell?_of_block (hg.block _ hp.2 (fun e => by have := HAM.out _ e.symm; have := hp.1; omega))) (fun _ h => h)
  obtain ⟨b, o, rfl, hb1, kd, tt, nn, us, vs, Ap, cp, Ao, co, hmk, g1, g2, g3, g4, m0, m1, m2, m3, m4⟩ := hmr.at2 hlt
  have hbl : b < wr.heap.size := by have := hb1.2; omega
  have hwd : wt (more.drop k) = 1 + (tt.length + nn.length + wt us + wt vs) + wt (more.drop (k + 1)) := by
   rw [qX more k hlt, hmk]
   unfold wt
   simp only [List.length_cons, Pt.sizes, Pt.size]
   omega
  have HWD := qb hwd
  have HWT := qb hwt
  have hEx : InP wr (fun j => B <= j /\ j < wr.heap.size /\ Value.ownBlock (.slice A1 rs1.length c1) ≠ some j) (.mk kd tt nn us vs) (Raw.v ⟨kd, tt, nn, Ap, us.length, cp, Ao, vs.length, co⟩) :=
   InP.keep (fun _ _ => rfl) (fun j hj => ⟨Nat.le_trans hBM hj.1, by have := hj.2; omega, fun e => by
    rcases HOR.out with e2 | e2
    ·rw [e2] at e; have := HAM.out _ e; have := hj.1; omega
    ·have := e2 _ e; have := hj.2; omega⟩) _ _ (InP.mk (k := kd) (t := tt) (n := nn) g1 g2 g3 g4)
  have HEX := qb hEx
  have htl : tt.length <= 1000000 := by omega
  clear hp hg hor hmr hmk g1 g2 g3 g4 hEx hwd hwt
  by_cases hk1 : kd = 1
  ·subst hk1
   have HADD := qb (Yj tt B A1 c1 rs1 xs1 wr HP.out (by omega) (by have := HWT.out; have := HWD.out; omega) htl)
   go_wp2_with fail
   refine HADD.out.mono ?_
   rintro e w2 ⟨A2, c2, rs2, xs2, rfl, hp2, hw2, hg2, hor2⟩
   have HG2 : Hid (w.grownBy w2 (Value.ownBlock (.slice A rs.length c))) := by
    rcases HOR.out with e | e
    ·exact jF HG.out (by rw [<- e]; exact hg2)
    exact ⟨hg2.os.trans HG.out.os, hg2.tape.trans HG.out.tape, hg2.output.trans HG.out.output, Nat.le_trans HG.out.size hg2.size, fun j hj hn => (hg2.block j (by omega) (fun e2 => by have := e _ e2.symm; omega)).trans (HG.out.block j hj hn)⟩
   have HOR2 : Hid (Value.ownBlock (.slice A2 rs2.length c2) = Value.ownBlock (.slice A rs.length c) \/ ∀ j, Value.ownBlock (.slice A2 rs2.length c2) = some j -> w.heap.size <= j) := by
    rcases hor2 with e | e
    ·rcases HOR.out with e2 | e2
     ·exact .inl (e.trans e2)
     exact .inr (fun j hj => e2 j (by rw [<- e]; exact hj))
    exact .inr (fun j hj => by have := e j hj; omega)
   clear hg2 hor2
   go_wp2
   go_roundw
   case rel => exact ⟨k + 1, A2, c2, rs2, xs2, by omega, by go_num, rfl, hp2, by have := HWT.out; have := HWD.out; omega, HG2.out, HOR2.out⟩
   case measure => simp [intOf]; omega
  have hk1' : (kd == 1) = false := by simpa using hk1
  have hrl : rs1.length <= 1000000 := by rw [HP.out.len]; have := HWT.out; unfold wt at *; omega
  have HA := qb ((Below.refl wr.heap.size wr).alloc (Nat.le_refl _) (.cells (qD kd tt nn Ap us.length cp Ao vs.length co) 115))
  have HPA := qb (HP.out.keep HA.out)
  have HRW := qb (zH (us := [⟨kd, tt, nn, Ap, us.length, cp, Ao, vs.length, co⟩]) (heap_alloc_new wr (.cells (qD kd tt nn Ap us.length cp Ao vs.length co) 115)) rfl)
  have HEA : Hid (InP (wr.alloc (.cells (qD kd tt nn Ap us.length cp Ao vs.length co) 115)) (fun j => B <= j /\ j < (wr.alloc (.cells (qD kd tt nn Ap us.length cp Ao vs.length co) 115)).heap.size /\ Value.ownBlock (.slice A1 rs1.length c1) ≠ some j) (.mk kd tt nn us vs) (Raw.v ⟨kd, tt, nn, Ap, us.length, cp, Ao, vs.length, co⟩)) :=
   InP.keep (fun p hp => HA.out.cell hp.2.1) (fun j hj => ⟨hj.1, by simp; have := hj.2.1; omega, hj.2.2⟩) _ _ HEX.out
  clear hk1
  go_wp2_with (at_builtin; refine zD rfl _ _ rfl B A1 c1 rs1 [⟨kd, tt, nn, Ap, us.length, cp, Ao, vs.length, co⟩] (by rfl) HPA.out.own wr.heap.size 0 1 (by rfl) HRW.out (by simp) (by omega) (by simp; omega) ?_; intro A3 c3 w3 ho3 hg3 hbk3)
  have HP3 := qb (HPA.out.app (ys := [.mk kd tt nn us vs]) ho3 hg3 hbk3 (Els.cons HEA.out Els.nil))
  have hz3 := hg3.size
  have HG3 : Hid (w.grownBy w3 (Value.ownBlock (.slice A rs.length c))) := by
   rcases HOR.out with e | e
   ·exact jF (jF HG.out (World.grownBy_alloc wr _ _)) (by rw [<- e]; exact hg3)
   exact ⟨hg3.os.trans HG.out.os, hg3.tape.trans HG.out.tape, hg3.output.trans HG.out.output, by simp at hz3; omega, fun j hj hn => (hg3.block j (by simp; omega) (fun e2 => by have := e _ e2.symm; omega)).trans ((heap_alloc_old wr _ (by omega)).trans (HG.out.block j hj hn))⟩
  have HOR3 : Hid (Value.ownBlock (.slice A3 (rs1 ++ [(⟨kd, tt, nn, Ap, us.length, cp, Ao, vs.length, co⟩ : Raw)]).length c3) = Value.ownBlock (.slice A rs.length c) \/ ∀ j, Value.ownBlock (.slice A3 (rs1 ++ [(⟨kd, tt, nn, Ap, us.length, cp, Ao, vs.length, co⟩ : Raw)]).length c3) = some j -> w.heap.size <= j) := by
   show _ \/ _
   rw [List.length_append]
   rcases hbk3 with e | e
   ·rcases HOR.out with e2 | e2
    ·exact .inl (e.trans e2)
    exact .inr (fun j hj => e2 j (by rw [<- e]; exact hj))
   exact .inr (fun j hj => by rw [e] at hj; injection hj with hj; simp at hj; omega)
  clear ho3 hg3 hbk3
  go_roundw
  case rel => exact ⟨k + 1, A3, c3, _, _, by omega, by go_num, by simp, HP3.out, by rw [Yh, Ye]; have := HWT.out; have := HWD.out; omega, HG3.out, HOR3.out⟩
  case measure => simp [intOf]; omega
 have hwe : wt (more.drop k) = 0 := by rw [zc more k (by omega)]; exact Yg
 go_wp2
 go_ret
 exact ⟨A1, c1, rs1, xs1, rfl, HP.out, by omega, HG.out, HOR.out⟩
structure Chg (w w' : World) (L : List Nat) : Prop where
 os : w'.os = w.os
 tape : w'.tape = w.tape
 output : w'.output = w.output
 size : w.heap.size <= w'.heap.size
 block : ∀ k, k < w.heap.size -> k ∉ L -> w'.heap[k]? = w.heap[k]?
theorem Chg.refl (w : World) (L : List Nat) : Chg w w L := ⟨rfl, rfl, rfl, Nat.le_refl _, fun _ _ _ => rfl⟩
theorem Chg.trans {a b c : World} {L M : List Nat} (h : Chg a b L) (k : Chg b c M) (hM : ∀ x, x ∈ M -> x ∈ L \/ a.heap.size <= x) : Chg a c L :=
 ⟨k.os.trans h.os, k.tape.trans h.tape, k.output.trans h.output, Nat.le_trans h.size k.size, fun i hi hn => (k.block i (Nat.lt_of_lt_of_le hi h.size) (fun e => by rcases hM i e with e | e; exact hn e; omega)).trans (h.block i hi hn)⟩
theorem Chg.of_below {w w' : World} (h : Below w.heap.size w w') (L : List Nat) : Chg w w' L := ⟨h.os, h.tape, h.output, h.size, fun k hk _ => h.block k hk⟩
theorem Chg.below {w w' : World} {L : List Nat} {B : Nat} (h : Chg w w' L) (hB : B <= w.heap.size) (hL : ∀ b, b ∈ L -> B <= b) : Below B w w' :=
 ⟨h.os, h.tape, h.output, h.size, fun k hk => h.block k (by omega) (fun e => by have := hL k e; omega)⟩
theorem Chg.of_grown {w w' : World} {r : Option Nat} (h : w.grownBy w' r) {L : List Nat} (hr : ∀ g, r = some g -> g ∈ L) : Chg w w' L :=
 ⟨h.os, h.tape, h.output, h.size, fun k hk hn => h.block k hk (fun e => hn (hr k e.symm))⟩
theorem Chg.setCell {w : World} {p : Addr} {u : Value} {L : List Nat} (h : p.block ∈ L) : Chg w (w.setCell p u) L :=
 ⟨rfl, rfl, rfl, by simp [World.setCell], fun k _ hn => Below.heap_setCell _ _ _ _ (fun e => hn (by rw [e]; exact h))⟩
theorem Chg.drew {w0 w : World} {L : List Nat} (h : Chg w0 w L) : Chg w0 w.drew L := ⟨h.os, h.tape, h.output, h.size, h.block⟩
theorem zt {w w' : World} {base size n : Nat} {e : TypeId} {v : Value} {xs : List Value} (h : w.ownsRow base e size v n xs) (hk : ∀ g, v.ownBlock = some g -> w'.heap[g]? = w.heap[g]?) : w'.ownsRow base e size v n xs := by
 refine ⟨h.1, ?_⟩
 rcases h.2 with hn | ⟨g, cap, cur, rfl, hb, hgg, rest⟩
 ·exact .inl hn
 refine .inr ⟨g, cap, cur, rfl, hb, ?_, rest⟩
 rw [hk g rfl]
 exact hgg
abbrev bk (A : Option Addr) (n c : Nat) : List Nat := (Value.ownBlock (.slice A n c)).toList
theorem qO {A : Option Addr} {n c g : Nat} : g ∈ bk A n c ↔ Value.ownBlock (.slice A n c) = some g := by
 unfold bk
 cases Value.ownBlock (.slice A n c) <;> simp [eq_comm]
mutual
def OwP (w : World) : Pt -> Raw -> List Nat -> Prop
 | .mk k t n xs ys, r, L => r.k = k /\ r.t = t /\ r.n = n /\ r.lp = xs.length /\ r.lo = ys.length /\ ∃ rs L1 qs L2, OwnN w 0 r.Ap r.cp rs /\ OwPs w xs rs L1 /\ OwnN w 0 r.Ao r.co qs /\ OwPs w ys qs L2 /\ L = (bk r.Ap r.lp r.cp ++ L1) ++ (bk r.Ao r.lo r.co ++ L2)
def OwPs (w : World) : List Pt -> List Raw -> List Nat -> Prop
 | [], rs, L => rs = [] /\ L = []
 | x :: s, rs, L => ∃ r rs' L1 L2, rs = r :: rs' /\ L = L1 ++ L2 /\ OwP w x r L1 /\ OwPs w s rs' L2
end
section
variable {w w' : World}
theorem OwPs.len : ∀ {xs : List Pt} {rs : List Raw} {L : List Nat}, OwPs w xs rs L -> rs.length = xs.length
 | [], rs, L, h => by simp only [OwPs] at h; rw [h.1]; rfl
 | x :: s, rs, L, h => by
  simp only [OwPs] at h
  obtain ⟨r, rs', L1, L2, rfl, rfl, _, h2⟩ := h
  simp [h2.len]
theorem OwPs.keep_of {xs : List Pt} (hx : ∀ x ∈ xs, ∀ (r : Raw) (L : List Nat), OwP w x r L -> (∀ b ∈ L, w'.heap[b]? = w.heap[b]?) -> OwP w' x r L) : ∀ {rs : List Raw} {L : List Nat}, OwPs w xs rs L -> (∀ b ∈ L, w'.heap[b]? = w.heap[b]?) -> OwPs w' xs rs L := by
 induction xs with
 | nil => intro rs L h _; simp only [OwPs] at h ⊢; exact h
 | cons x s ih =>
  intro rs L h hk
  simp only [OwPs] at h ⊢
  obtain ⟨r, rs', L1, L2, rfl, rfl, h1, h2⟩ := h
  exact ⟨r, rs', L1, L2, rfl, rfl, hx x (by simp) r L1 h1 (fun b hb => hk b (by simp [hb])), ih (fun y hy => hx y (List.mem_cons_of_mem _ hy)) h2 (fun b hb => hk b (by simp [hb]))⟩
theorem OwP.keep (x : Pt) : ∀ (r : Raw) (L : List Nat), OwP w x r L -> (∀ b ∈ L, w'.heap[b]? = w.heap[b]?) -> OwP w' x r L := by
 induction x using Pt.ind with
 | h k t n xs ys ih1 ih2 =>
  intro r L h hk
  simp only [OwP] at h ⊢
  obtain ⟨h1, h2, h3, h4, h5, rs, L1, qs, L2, h6, h7, h8, h9, rfl⟩ := h
  refine ⟨h1, h2, h3, h4, h5, rs, L1, qs, L2, zt h6 (fun g hg => hk g ?_), OwPs.keep_of ih1 h7 (fun b hb => hk b (by simp [hb])), zt h8 (fun g hg => hk g ?_), OwPs.keep_of ih2 h9 (fun b hb => hk b (by simp [hb])), rfl⟩
  ·rw [List.mem_append, List.mem_append]; exact .inl (.inl (qO.2 (by rw [h4, <- h7.len]; exact hg)))
  rw [List.mem_append, List.mem_append, List.mem_append]; exact .inr (.inl (qO.2 (by rw [h5, <- h9.len]; exact hg)))
theorem OwPs.keep {xs : List Pt} {rs : List Raw} {L : List Nat} (h : OwPs w xs rs L) (hk : ∀ b ∈ L, w'.heap[b]? = w.heap[b]?) : OwPs w' xs rs L := OwPs.keep_of (fun x _ => OwP.keep x) h hk
theorem OwPs.snoc : ∀ {xs : List Pt} {rs : List Raw} {L L1 : List Nat} {x : Pt} {r : Raw}, OwPs w xs rs L -> OwP w x r L1 -> OwPs w (xs ++ [x]) (rs ++ [r]) (L ++ L1)
 | [], rs, L, L1, x, r, h, hx => by
  simp only [OwPs] at h
  obtain ⟨rfl, rfl⟩ := h
  simp only [List.nil_append, OwPs]
  exact ⟨r, [], L1, [], rfl, by simp, hx, rfl, rfl⟩
 | y :: s, rs, L, L1, x, r, h, hx => by
  simp only [OwPs] at h
  obtain ⟨r1, rs', La, Lb, rfl, rfl, h1, h2⟩ := h
  simp only [List.cons_append, OwPs]
  exact ⟨r1, rs' ++ [r], La, Lb ++ L1, rfl, by simp, h1, h2.snoc hx⟩
theorem OwPs.els_of {S : Nat -> Prop} : ∀ {xs : List Pt} {rs : List Raw} {L : List Nat}, (∀ x ∈ xs, ∀ (r : Raw) (L1 : List Nat), OwP w x r L1 -> (∀ b ∈ L1, S b) -> InP w S x r.v) -> OwPs w xs rs L -> (∀ b ∈ L, S b) -> Els w S rs xs
 | [], rs, L, _, h, _ => by simp only [OwPs] at h; rw [h.1]; exact Els.nil
 | x :: s, rs, L, hx, h, hS => by
  simp only [OwPs] at h
  obtain ⟨r, rs', L1, L2, rfl, rfl, h1, h2⟩ := h
  exact Els.cons (hx x (by simp) r L1 h1 (fun b hb => hS b (by simp [hb]))) (h2.els_of (fun y hy => hx y (List.mem_cons_of_mem _ hy)) (fun b hb => hS b (by simp [hb])))
theorem OwP.inP {S : Nat -> Prop} (x : Pt) : ∀ (r : Raw) (L : List Nat), OwP w x r L -> (∀ b ∈ L, S b) -> InP w S x r.v := by
 induction x using Pt.ind with
 | h k t n xs ys ih1 ih2 =>
  intro r L h hS
  simp only [OwP] at h
  obtain ⟨rfl, rfl, rfl, h4, h5, rs, L1, qs, L2, h6, h7, h8, h9, rfl⟩ := h
  have hl1 := h7.len
  have hl2 := h9.len
  have e1 := h7.els_of ih1 (fun b hb => hS b (by simp [hb]))
  have e2 := h9.els_of ih2 (fun b hb => hS b (by simp [hb]))
  have hv : r.v = ptV r.k r.t r.n r.Ap xs.length r.cp r.Ao ys.length r.co := by unfold Raw.v; rw [h4, h5]
  rw [hv]
  refine InP.mk (by rw [<- hl1]; exact xK h6) (by rw [<- hl2]; exact xK h8) (e1.rdP h6 (fun g hg => hS g ?_)) (e2.rdP h8 (fun g hg => hS g ?_))
  ·rw [List.mem_append, List.mem_append]; exact .inl (.inl (qO.2 (by rw [h4, <- hl1]; exact hg)))
  rw [List.mem_append, List.mem_append, List.mem_append]; exact .inr (.inl (qO.2 (by rw [h5, <- hl2]; exact hg)))
theorem OwPs.els {S : Nat -> Prop} {xs : List Pt} {rs : List Raw} {L : List Nat} (h : OwPs w xs rs L) (hS : ∀ b ∈ L, S b) : Els w S rs xs := h.els_of (fun x _ => OwP.inP x) hS
theorem OwPs.lt_of {xs : List Pt} (hx : ∀ x ∈ xs, ∀ (r : Raw) (L : List Nat), OwP w x r L -> ∀ b ∈ L, b < w.heap.size) : ∀ {rs : List Raw} {L : List Nat}, OwPs w xs rs L -> ∀ b ∈ L, b < w.heap.size := by
 induction xs with
 | nil => intro rs L h b hb; simp only [OwPs] at h; rw [h.2] at hb; cases hb
 | cons x s ih =>
  intro rs L h b hb
  simp only [OwPs] at h
  obtain ⟨r, rs', L1, L2, rfl, rfl, h1, h2⟩ := h
  rw [List.mem_append] at hb
  rcases hb with hb | hb
  ·exact hx x (by simp) r L1 h1 b hb
  exact ih (fun y hy => hx y (List.mem_cons_of_mem _ hy)) h2 b hb
theorem OwP.lt (x : Pt) : ∀ (r : Raw) (L : List Nat), OwP w x r L -> ∀ b ∈ L, b < w.heap.size := by
 induction x using Pt.ind with
 | h k t n xs ys ih1 ih2 =>
  intro r L h b hb
  simp only [OwP] at h
  obtain ⟨rfl, rfl, rfl, h4, h5, rs, L1, qs, L2, h6, h7, h8, h9, rfl⟩ := h
  rw [List.mem_append, List.mem_append, List.mem_append] at hb
  rcases hb with (hb | hb) | (hb | hb)
  ·exact (h6.lt b (by rw [h7.len, <- h4]; exact qO.1 hb)).2
  ·exact h7.lt_of ih1 b hb
  ·exact (h8.lt b (by rw [h9.len, <- h5]; exact qO.1 hb)).2
  exact h9.lt_of ih2 b hb
theorem OwPs.lt {xs : List Pt} {rs : List Raw} {L : List Nat} (h : OwPs w xs rs L) : ∀ b ∈ L, b < w.heap.size := h.lt_of (fun x _ => OwP.lt x)
end
structure PLo (w : World) (B : Nat) (A : Option Addr) (c : Nat) (rs : List Raw) (xs : List Pt) (L : List Nat) : Prop where
 own : OwnN w B A c rs
 els : OwPs w xs rs L
 nodup : (bk A rs.length c ++ L).Nodup
 rng : ∀ j ∈ L, B <= j
section
variable {w w' : World} {B c : Nat} {A : Option Addr} {rs : List Raw} {xs : List Pt} {L : List Nat}
theorem PLo.len (h : PLo w B A c rs xs L) : rs.length = xs.length := h.els.len
theorem PLo.cap (h : PLo w B A c rs xs L) : rs.length <= c := xK h.own
theorem PLo.keep (h : PLo w B A c rs xs L) (hb : Below w.heap.size w w') : PLo w' B A c rs xs L :=
 ⟨jy h.own hb, h.els.keep (fun j hj => hb.block j (h.els.lt j hj)), h.nodup, h.rng⟩
theorem PLo.lts (h : PLo w B A c rs xs L) : ∀ j ∈ bk A rs.length c ++ L, B <= j /\ j < w.heap.size := by
 intro j hj
 rw [List.mem_append] at hj
 rcases hj with hj | hj
 ·exact h.own.lt j (qO.1 hj)
 exact ⟨h.rng j hj, h.els.lt j hj⟩
theorem PLo.pls (h : PLo w B A c rs xs L) : PLs w B A c rs xs :=
 ⟨h.own, h.els.els fun j hj => ⟨h.rng j hj, h.els.lt j hj, fun e => (List.nodup_append.1 h.nodup).2.2 j (qO.2 e) j hj rfl⟩⟩
theorem PLo.rd (h : PLo w B A c rs xs L) : RdP w (fun j => B <= j /\ j < w.heap.size) A xs := h.pls.rd
theorem PLo.all (h : PLo w B A c rs xs L) : RdP w (All w) A xs := h.rd.keep (fun _ _ => rfl) (fun _ hj => hj.2)
theorem PLo.base {B' : Nat} (h : PLo w B A c rs xs L) (hb : B' <= B) : PLo w B' A c rs xs L := ⟨zC h.own hb, h.els, h.nodup, fun j hj => Nat.le_trans hb (h.rng j hj)⟩
theorem PLo.empty (w : World) : PLo (w.alloc (.cells #[] 115)) w.heap.size (some ⟨w.heap.size, 0, none⟩) 0 [] [] [] := ⟨ZS w, by simp [OwPs], by show ([w.heap.size] ++ []).Nodup; simp, fun j hj => by cases hj⟩
theorem PLo.nil (w : World) (B : Nat) : PLo w B none 0 [] [] [] := ⟨kJ w B, by simp [OwPs], List.nodup_nil, fun j hj => by cases hj⟩
theorem PLo.at (h : PLo w B A c rs xs L) (hk : ∀ j, B <= j -> j < w.heap.size -> w'.heap[j]? = w.heap[j]?) : PLo w' B A c rs xs L :=
 ⟨zt h.own (fun g hg => hk g (h.own.lt g hg).1 (h.own.lt g hg).2), h.els.keep (fun j hj => hk j (h.rng j hj) (h.els.lt j hj)), h.nodup, h.rng⟩
end
def InX (w : World) (B : Nat) (x : Pt) (raw : Raw) : Prop := ∃ L, OwP w x raw L /\ L.Nodup /\ ∀ j ∈ L, B <= j
theorem vf {w : World} {B : Nat} (k : Int) (t n : Tx) : InX w B (.mk k t n [] []) ⟨k, t, n, none, 0, 0, none, 0, 0⟩ := by
 refine ⟨[], ?_, List.nodup_nil, fun j hj => by cases hj⟩
 rw [OwP]
 exact ⟨rfl, rfl, rfl, rfl, rfl, [], [], [], [], kJ _ _, by simp [OwPs], kJ _ _, by simp [OwPs], rfl⟩
theorem ZA {W w5 w6 : World} {B B5 B6 : Nat} {k : Int} {t nm : Tx} {A5 A6 : Option Addr} {c5 c6 : Nat} {rs5 rs6 : List Raw} {xs ys : List Pt} {L5 L6 : List Nat} (h5 : PLo w5 B5 A5 c5 rs5 xs L5) (hk5 : ∀ j, B5 <= j -> j < w5.heap.size -> W.heap[j]? = w5.heap[j]?) (h6 : PLo w6 B6 A6 c6 rs6 ys L6) (hk6 : ∀ j, B6 <= j -> j < w6.heap.size -> W.heap[j]? = w6.heap[j]?) (hB5 : B <= B5) (hB6 : B <= B6) (hd : w5.heap.size <= B6 \/ (rs6 = [] /\ A6 = none)) : InX W B (.mk k t nm xs ys) ⟨k, t, nm, A5, rs5.length, c5, A6, rs6.length, c6⟩ := by
 have g5 := h5.at hk5
 have g6 := h6.at hk6
 refine ⟨(bk A5 rs5.length c5 ++ L5) ++ (bk A6 rs6.length c6 ++ L6), ?_, ?_, ?_⟩
 ·rw [OwP]
  exact ⟨rfl, rfl, rfl, h5.len, h6.len, rs5, L5, rs6, L6, zC g5.own (Nat.zero_le _), g5.els, zC g6.own (Nat.zero_le _), g6.els, rfl⟩
 ·rw [List.nodup_append]
  refine ⟨h5.nodup, h6.nodup, fun a ha b hb e => ?_⟩
  subst e
  have h1 := h5.lts a ha
  have h2 := h6.lts a hb
  rcases hd with hd | ⟨hd, hA⟩
  ·omega
  subst hd; subst hA
  rw [List.mem_append] at hb
  rcases hb with hb | hb
  ·simp [Value.ownBlock] at hb
  have h7 := h6.els
  have h8 := h6.len
  cases ys with
  | nil => simp only [OwPs] at h7; rw [h7.2] at hb; cases hb
  | cons => simp at h8
 ·intro j hj
  rw [List.mem_append] at hj
  rcases hj with hj | hj
  ·exact Nat.le_trans hB5 (h5.lts j hj).1
  exact Nat.le_trans hB6 (h6.lts j hj).1
theorem plo_new {w wx W w3 : World} {A A3 : Option Addr} {c c3 : Nat} {rs : List Raw} {acc : List Pt} {raw : Raw} {x : Pt} {L : List Nat} (hB : Below w.heap.size w wx) (h : PLo wx w.heap.size A c rs acc L) (hW : Below wx.heap.size wx W)
  (hx : InX W wx.heap.size x raw)
  (ho : OwnN w3 w.heap.size A3 c3 (rs ++ [raw])) (hg : W.grownBy w3 (Value.ownBlock (.slice A rs.length c))) (hbk : Value.ownBlock (.slice A3 (rs.length + [raw].length) c3) = Value.ownBlock (.slice A rs.length c) \/ Value.ownBlock (.slice A3 (rs.length + [raw].length) c3) = some W.heap.size) :
  (∃ L', PLo w3 w.heap.size A3 c3 (rs ++ [raw]) (acc ++ [x]) L') /\ Below w.heap.size w w3 := by
 have h2 := h.keep hW
 obtain ⟨L1, hx1, hx2, hx3⟩ := hx
 have hxl := OwP.lt x raw L1 hx1
 have hnd := List.nodup_append.1 h.nodup
 have hkeep : ∀ j, j < W.heap.size -> j ∉ bk A rs.length c -> w3.heap[j]? = W.heap[j]? := fun j hj hn => hg.block j hj (fun e => hn (qO.2 e.symm))
 have hrow := fun j hj => (h.lts j (List.mem_append_left _ hj)).2
 refine ⟨⟨L ++ L1, ho, (h2.els.snoc hx1).keep (fun j hj => ?_), ?_, fun j hj => ?_⟩, hB.trans ((hW.mono hB.size).trans (zo hg (Nat.le_trans hB.size hW.size) (fun g hg => (h.own.lt g hg).1)))⟩
 ·rw [List.mem_append] at hj
  rcases hj with hj | hj
  ·exact hkeep j (h2.els.lt j hj) (fun e => hnd.2.2 j e j hj rfl)
  exact hkeep j (hxl j hj) (fun e => by have := hrow j e; have := hx3 j hj; omega)
 ·have hLL : (L ++ L1).Nodup := by
   rw [List.nodup_append]
   exact ⟨hnd.2.1, hx2, fun a ha b hb e => by subst e; have := h.els.lt a ha; have := hx3 a hb; omega⟩
  rw [List.nodup_append]
  rw [List.length_append]
  rcases hbk with e | e
  ·rw [show bk A3 (rs.length + [raw].length) c3 = bk A rs.length c from congrArg _ e]
   refine ⟨hnd.1, hLL, fun a ha b hb e2 => ?_⟩
   subst e2
   rw [List.mem_append] at hb
   rcases hb with hb | hb
   ·exact hnd.2.2 a ha a hb rfl
   have := hrow a ha; have := hx3 a hb; omega
  rw [show bk A3 (rs.length + [raw].length) c3 = [W.heap.size] from congrArg _ e]
  refine ⟨by simp, hLL, fun a ha b hb e2 => ?_⟩
  subst e2
  simp only [List.mem_singleton] at ha
  subst ha
  rw [List.mem_append] at hb
  rcases hb with hb | hb
  ·have := h.els.lt _ hb; have := hW.size; omega
  have := hxl _ hb; omega
 rw [List.mem_append] at hj
 rcases hj with hj | hj
 ·exact h.rng j hj
 exact Nat.le_trans hB.size (hx3 j hj)
def PLx (w : World) (B : Nat) (A : Option Addr) (c : Nat) (rs : List Raw) (xs : List Pt) : Prop := ∃ L, PLo w B A c rs xs L
section
variable {w w' : World} {B c : Nat} {A : Option Addr} {rs : List Raw} {xs : List Pt}
theorem PLx.own (h : PLx w B A c rs xs) : OwnN w B A c rs := h.elim fun _ h => h.own
theorem PLx.len (h : PLx w B A c rs xs) : rs.length = xs.length := h.elim fun _ h => h.len
theorem PLx.cap (h : PLx w B A c rs xs) : rs.length <= c := h.elim fun _ h => h.cap
theorem PLx.keep (h : PLx w B A c rs xs) (hb : Below w.heap.size w w') : PLx w' B A c rs xs := h.elim fun L h => ⟨L, h.keep hb⟩
theorem PLx.all (h : PLx w B A c rs xs) : RdP w (All w) A xs := h.elim fun _ h => h.all
theorem PLx.empty (w : World) : PLx (w.alloc (.cells #[] 115)) w.heap.size (some ⟨w.heap.size, 0, none⟩) 0 [] [] := ⟨[], PLo.empty w⟩
end
theorem ju {w wx W w3 : World} {A A3 : Option Addr} {c c3 : Nat} {rs : List Raw} {acc : List Pt} {raw : Raw} {x : Pt} (hB : Below w.heap.size w wx) (h : PLx wx w.heap.size A c rs acc) (hW : Below wx.heap.size wx W)
  (hx : InX W wx.heap.size x raw)
  (ho : OwnN w3 w.heap.size A3 c3 (rs ++ [raw])) (hg : W.grownBy w3 (Value.ownBlock (.slice A rs.length c))) (hbk : Value.ownBlock (.slice A3 (rs.length + [raw].length) c3) = Value.ownBlock (.slice A rs.length c) \/ Value.ownBlock (.slice A3 (rs.length + [raw].length) c3) = some W.heap.size) :
  PLx w3 w.heap.size A3 c3 (rs ++ [raw]) (acc ++ [x]) /\ Below w.heap.size w w3 := h.elim fun _ h => plo_new hB h hW hx ho hg hbk
theorem vg {W w5 w6 : World} {B B5 B6 : Nat} {k : Int} {t nm : Tx} {A5 A6 : Option Addr} {c5 c6 : Nat} {rs5 rs6 : List Raw} {xs ys : List Pt} (h5 : PLx w5 B5 A5 c5 rs5 xs) (hk5 : ∀ j, B5 <= j -> j < w5.heap.size -> W.heap[j]? = w5.heap[j]?) (h6 : PLx w6 B6 A6 c6 rs6 ys) (hk6 : ∀ j, B6 <= j -> j < w6.heap.size -> W.heap[j]? = w6.heap[j]?) (hB5 : B <= B5) (hB6 : B <= B6) (hd : w5.heap.size <= B6) : InX W B (.mk k t nm xs ys) ⟨k, t, nm, A5, rs5.length, c5, A6, rs6.length, c6⟩ :=
 h5.elim fun _ h5 => h6.elim fun _ h6 => ZA h5 hk5 h6 hk6 hB5 hB6 (.inl hd)
theorem ZB {W w5 : World} {B B5 : Nat} {k : Int} {t nm : Tx} {A5 : Option Addr} {c5 : Nat} {rs5 : List Raw} {xs : List Pt} (h5 : PLx w5 B5 A5 c5 rs5 xs) (hk5 : ∀ j, B5 <= j -> j < w5.heap.size -> W.heap[j]? = w5.heap[j]?) (hB5 : B <= B5) : InX W B (.mk k t nm xs []) ⟨k, t, nm, A5, rs5.length, c5, none, 0, 0⟩ :=
 h5.elim fun _ h5 => ZA h5 hk5 (PLo.nil w5 (max B w5.heap.size)) (fun j h1 h2 => absurd h2 (by omega)) hB5 (by omega) (.inr ⟨rfl, rfl⟩)
def jP : Array Value := #[.string ⟨#[]⟩, .string ⟨#[]⟩, .bool false, .slice none 0 0]
theorem Tryz.info_Field : (Tryz.prog.info? 62).map (fun i => (i.zero, i.size, i.bytes)) = some (some (.agg jP), 4, 64) := by kernel_rfl
def AtD (cs : Array Value) (o : Nat) (v : Value) : Prop := ∃ c0 c1 c2 c3, v = .agg #[c0, c1, c2, c3] /\ cs[o]? = some c0 /\ cs[o + 1]? = some c1 /\ cs[o + 2]? = some c2 /\ cs[o + 3]? = some c3
abbrev set4 (cs : Array Value) (o : Nat) (c0 c1 c2 c3 : Value) : Array Value := (((cs.setIfInBounds o c0).setIfInBounds (o + 1) c1).setIfInBounds (o + 2) c2).setIfInBounds (o + 3) c3
theorem set4_at {cs : Array Value} {o : Nat} {c0 c1 c2 c3 : Value} (h : o + 4 <= cs.size) : AtD (set4 cs o c0 c1 c2 c3) o (.agg #[c0, c1, c2, c3]) := by
 refine ⟨c0, c1, c2, c3, rfl, ?_, ?_, ?_, ?_⟩ <;> simp [Array.getElem?_setIfInBounds] <;> omega
theorem Jy {cs : Array Value} {o q : Nat} {c0 c1 c2 c3 v : Value} (h : AtD cs q v) (hq : q + 4 <= o \/ o + 4 <= q) : AtD (set4 cs o c0 c1 c2 c3) q v := by
 obtain ⟨d0, d1, d2, d3, e, h0, h1, h2, h3⟩ := h
 have key : ∀ i, (i < o \/ o + 4 <= i) -> (set4 cs o c0 c1 c2 c3)[i]? = cs[i]? := by
  intro i hi
  unfold set4
  rw [Array.getElem?_setIfInBounds_ne (by omega), Array.getElem?_setIfInBounds_ne (by omega), Array.getElem?_setIfInBounds_ne (by omega), Array.getElem?_setIfInBounds_ne (by omega)]
 exact ⟨d0, d1, d2, d3, e, (key q (by omega)).trans h0, (key _ (by omega)).trans h1, (key _ (by omega)).trans h2, (key _ (by omega)).trans h3⟩
theorem Jz {cs : Array Value} {o : Nat} {c0 c1 c2 c3 : Value} : (set4 cs o c0 c1 c2 c3).size = cs.size := by simp
structure FRaw where
 n : Tx
 t : Tx
 h : Bool
 A : Option Addr
 l : Nat
 c : Nat
abbrev FRaw.v (r : FRaw) : Value := fdV r.n r.t r.h r.A r.l r.c
abbrev FRaw.cs (r : FRaw) : List Value := [sv r.n, sv r.t, .bool r.h, .slice r.A r.l r.c]
def qY : List FRaw -> List Value
 | [] => []
 | r :: s => r.cs ++ qY s
theorem jH : ∀ rs : List FRaw, (qY rs).length = rs.length * 4
 | [] => rfl
 | r :: s => by simp [qY, jH s]; omega
theorem vI : ∀ rs ss : List FRaw, qY (rs ++ ss) = qY rs ++ qY ss
 | [], _ => rfl
 | r :: s, ss => by simp [qY, vI s ss]
theorem xx : ∀ (rs : List FRaw) (i : Nat) (r : FRaw) (j : Nat), rs[i]? = some r -> j < 4 -> (qY rs)[i * 4 + j]? = r.cs[j]?
 | x :: s, 0, r, j, h, hj => by
  simp at h
  subst h
  simp only [qY, Nat.zero_mul, Nat.zero_add]
  rw [List.getElem?_append_left (by simpa using hj)]
 | x :: s, i + 1, r, j, h, hj => by
  have := xx s i r j (by simpa using h) hj
  simp only [qY]
  rw [List.getElem?_append_right (by simp; omega), show (i + 1) * 4 + j - x.cs.length = i * 4 + j by simp; omega]
  exact this
theorem QA (rs : List FRaw) : ∀ z ∈ qY rs, z.oneCell' = true := by
 intro z hz
 induction rs with
 | nil => simp [qY] at hz
 | cons r s ih =>
  simp only [qY, List.mem_append] at hz
  rcases hz with hz | hz
  ·simp at hz
   rcases hz with rfl | rfl | rfl | rfl <;> rfl
  exact ih hz
def OwnF (w : World) (base : Nat) (A : Option Addr) (c : Nat) (rs : List FRaw) : Prop := w.ownsRow base 62 4 (.slice A rs.length c) rs.length (qY rs)
theorem Yt {w : World} {base c : Nat} {A : Option Addr} {rs : List FRaw} (h : OwnF w base A c rs) : ∀ g, Value.ownBlock (.slice A rs.length c) = some g -> base <= g := fun g hg => (h.lt g hg).1
theorem QB {w : World} {base c : Nat} {A : Option Addr} {rs : List FRaw} (h : OwnF w base A c rs) : rs.length <= c := by
 obtain ⟨A', c', e, h1, _⟩ := jf h
 injection e with _ _ e3
 omega
theorem WI (w : World) : OwnF (w.alloc (.cells #[] 62)) w.heap.size (some ⟨w.heap.size, 0, none⟩) 0 [] :=
 ⟨rfl, .inr ⟨w.heap.size, 0, #[], rfl, Nat.le_refl _, heap_alloc_new w _, Nat.le_refl _, Nat.zero_le _, rfl, rfl⟩⟩
theorem jI {ops : Array Oper} {rest : List Oper} {o : Oper} {a : Act} {Q : Exit -> Act -> World -> Prop} {W : World} (hgd : o.guard = none) (s x : Operand)
  (ho : o.op = .call { callee := .builtin .append, args := #[s, x], argTypes := #[28, 28] }) (base : Nat) (A : Option Addr) (c : Nat) (rs us : List FRaw)
  (hs : a.eval s = .slice A rs.length c) (hown : OwnF W base A c rs) (b o' c' : Nat) (hx : a.eval x = .slice (some ⟨b, o', none⟩) us.length c') (hh : ∀ j u, (qY us)[j]? = some u -> W.cell? ⟨b, o' + j, none⟩ = some u) (hlu : us.length <= 4294967296) (hlen : rs.length <= 4294967296) (hbase : base <= W.heap.size)
  (h : ∀ A' c' w', OwnF w' base A' c' (rs ++ us) -> W.grownBy w' (Value.ownBlock (.slice A rs.length c)) -> (Value.ownBlock (.slice A' (rs.length + us.length) c') = Value.ownBlock (.slice A rs.length c) \/ Value.ownBlock (.slice A' (rs.length + us.length) c') = some W.heap.size) -> wpList Tryz.prog ops Q rest (a.put o.dst (.slice A' (rs ++ us).length c')) w') :
  wpList Tryz.prog ops Q (o :: rest) a W := by
 obtain ⟨i0, hi, hz0, hz1, hz2⟩ := info_parts Tryz.info_Field
 refine wpList_append_own_at _ hgd s x _ ho base _ i0 _ 4 64 underlying28 hi hz0 hz1 hz2 rfl (by decide) _ _ _ hs hown ⟨b, o', none⟩ us.length c' (qY us) hx (by rw [jH]) ?_ (QA us) (by unfold maxLen; omega) (by omega) hbase ?_
 ·intro j z hj
  rw [Addr.add_lit]
  exact hh j z hj
 intro v' w' ho' hg' _ hbk
 obtain ⟨A', c', rfl, _, _⟩ := jf ho'
 have hl : (rs ++ us).length = rs.length + us.length := by simp
 rw [hl] at h
 refine h A' c' w' ?_ hg' hbk
 unfold OwnF
 rw [List.length_append, vI]
 exact ho'
def ElsF (w : World) (S : Nat -> Prop) (rs : List FRaw) (xs : List Fd) : Prop := rs.length = xs.length /\ ∀ (i : Nat) (r : FRaw) (x : Fd), rs[i]? = some r -> xs[i]? = some x -> InF w S x r.v
theorem ElsF.nil {w : World} {S : Nat -> Prop} : ElsF w S [] [] := ⟨rfl, fun i r x h => by simp at h⟩
theorem ElsF.keep {w w' : World} {S S' : Nat -> Prop} {rs : List FRaw} {xs : List Fd} (h : ElsF w S rs xs) (hk : ∀ p : Addr, S p.block -> w'.cell? p = w.cell? p) (hS : ∀ b, S b -> S' b) : ElsF w' S' rs xs :=
 ⟨h.1, fun i r x h1 h2 => InF.keep hk hS _ _ (h.2 i r x h1 h2)⟩
theorem ElsF.cons {w : World} {S : Nat -> Prop} {rs : List FRaw} {xs : List Fd} {r : FRaw} {x : Fd} (hx : InF w S x r.v) (h : ElsF w S rs xs) : ElsF w S (r :: rs) (x :: xs) := by
 refine ⟨by simp [h.1], fun i r2 x2 h1 h2 => ?_⟩
 cases i with
 | zero =>
  simp at h1 h2
  subst h1 h2
  exact hx
 | succ i => exact h.2 i r2 x2 (by simpa using h1) (by simpa using h2)
theorem ElsF.append {w : World} {S : Nat -> Prop} {rs ss : List FRaw} {xs ys : List Fd} (h : ElsF w S rs xs) (hy : ElsF w S ss ys) : ElsF w S (rs ++ ss) (xs ++ ys) := by
 refine ⟨by simp [h.1, hy.1], fun i r2 x2 h1 h2 => ?_⟩
 rcases Nat.lt_or_ge i rs.length with hi | hi
 ·rw [List.getElem?_append_left hi] at h1
  rw [List.getElem?_append_left (by have := h.1; omega)] at h2
  exact h.2 i r2 x2 h1 h2
 rw [List.getElem?_append_right hi] at h1
 rw [List.getElem?_append_right (by have := h.1; omega)] at h2
 rw [<- h.1] at h2
 exact hy.2 _ r2 x2 h1 h2
theorem ElsF.rdF {w : World} {S : Nat -> Prop} {rs : List FRaw} {xs : List Fd} {A : Option Addr} {base c : Nat} (h : ElsF w S rs xs) (ho : OwnF w base A c rs) (hS : ∀ b, Value.ownBlock (.slice A rs.length c) = some b -> S b) : RdF w S A xs := fun hne => by
 have hl : 0 < rs.length := by
  rw [h.1]
  rcases Nat.eq_zero_or_pos xs.length with h0 | h0
  ·exact absurd (List.eq_nil_of_length_eq_zero h0) hne
  exact h0
 obtain ⟨g, rfl, h1, h2⟩ := zJ ho hl
 have hrd : Rd w w.heap.size (some ⟨g, 0, none⟩) (qY rs) := Rd.of_own ho
 obtain ⟨b, o, e, _, hc⟩ := hrd (by intro e; have := jH rs; rw [e] at this; simp at this; omega)
 injection e with e
 injection e with e1 e2
 subst e1
 subst e2
 refine ⟨g, 0, rfl, hS g rfl, fun i hi => ?_⟩
 have hir : i < rs.length := by rw [h.1]; exact hi
 have hr : rs[i]? = some rs[i] := List.getElem?_eq_getElem hir
 have key : ∀ j (hj : j < 4), w.cell? ⟨g, 0 + i * 4 + j, none⟩ = (rs[i]).cs[j]? := fun j hj => by
  have hg := xx rs i _ j hr hj
  have hv : (rs[i]).cs[j]? = some ((rs[i]).cs[j]'(by simpa using hj)) := List.getElem?_eq_getElem _
  rw [hv, show 0 + i * 4 + j = 0 + (i * 4 + j) by omega]
  exact hc _ _ (hg.trans hv)
 exact ⟨(rs[i]).v, ⟨_, _, _, _, rfl, key 0 (by omega), key 1 (by omega), key 2 (by omega), key 3 (by omega)⟩, h.2 i _ _ hr (List.getElem?_eq_getElem hi)⟩
structure FLs (w : World) (B : Nat) (A : Option Addr) (c : Nat) (rs : List FRaw) (xs : List Fd) : Prop where
 own : OwnF w B A c rs
 els : ElsF w (fun j => B <= j /\ j < w.heap.size /\ Value.ownBlock (.slice A rs.length c) ≠ some j) rs xs
section
variable {w w' : World} {B c : Nat} {A : Option Addr} {rs : List FRaw} {xs : List Fd}
theorem FLs.len (h : FLs w B A c rs xs) : rs.length = xs.length := h.els.1
theorem FLs.grow {row : Option Nat} (h : FLs w B A c rs xs) (hg : w.grownBy w' row) (hr : ∀ j, row = some j -> j < B) : FLs w' B A c rs xs := by
 refine ⟨h.own.kept hg ?_, h.els.keep (fun p hp => World.cell?_of_block (hg.block _ hp.2.1 (fun e => by have := hr _ e.symm; have := hp.1; omega))) (fun _ hj => ⟨hj.1, Nat.lt_of_lt_of_le hj.2.1 hg.size, hj.2.2⟩)⟩
 cases hv : Value.ownBlock (.slice A rs.length c) with
 | none => exact .inl rfl
 | some k => exact .inr fun e => by have := hr _ e.symm; have := Yt h.own k hv; omega
theorem FLs.keep (h : FLs w B A c rs xs) (hb : Below w.heap.size w w') : FLs w' B A c rs xs := h.grow (row := none) (jg hb _) (fun j hj => by cases hj)
theorem FLs.rd (h : FLs w B A c rs xs) : RdF w (fun j => B <= j /\ j < w.heap.size) A xs :=
 (h.els.keep (fun _ _ => rfl) (fun _ hj => ⟨hj.1, hj.2.1⟩)).rdF h.own (fun b hb => h.own.lt b hb)
theorem FLs.cap (h : FLs w B A c rs xs) : rs.length <= c := QB h.own
theorem FLs.app (h : FLs w B A c rs xs) {A' : Option Addr} {c' : Nat} {us : List FRaw} {ys : List Fd} (ho : OwnF w' B A' c' (rs ++ us)) (hg : w.grownBy w' (Value.ownBlock (.slice A rs.length c)))
  (hbk : Value.ownBlock (.slice A' (rs.length + us.length) c') = Value.ownBlock (.slice A rs.length c) \/ Value.ownBlock (.slice A' (rs.length + us.length) c') = some w.heap.size)
  (hx : ElsF w (fun j => B <= j /\ j < w.heap.size /\ Value.ownBlock (.slice A rs.length c) ≠ some j) us ys) : FLs w' B A' c' (rs ++ us) (xs ++ ys) := by
 refine ⟨ho, (h.els.append hx).keep (fun p hp => World.cell?_of_block (hg.block _ hp.2.1 (fun e => hp.2.2 e.symm))) (fun j hj => ⟨hj.1, Nat.lt_of_lt_of_le hj.2.1 hg.size, ?_⟩)⟩
 rw [List.length_append]
 rcases hbk with e | e
 ·rw [e]; exact hj.2.2
 rw [e]; intro e2; injection e2; omega
end
def fwt (xs : List Fd) : Nat := xs.length + Fd.sizes xs
theorem Yw (xs ys : List Fd) : fwt (xs ++ ys) = fwt xs + fwt ys := by unfold fwt Fd.sizes; rw [List.length_append, List.map_append, List.sum_append]; omega
theorem fwt_nil : fwt [] = 0 := rfl
theorem vJ : ∀ (is : List Tx), (∀ x ∈ is, x.length <= 100) -> qR is <= 100 * is.length
 | [], _ => by simp [qR]
 | x :: t, h => by
  have h1 := h x (by simp)
  have h2 := vJ t (fun y hy => h y (List.mem_cons_of_mem _ hy))
  simp only [qR, List.length_cons]
  omega
theorem YY {n t : Tx} {hh : Bool} {is : List Tx} (hn : n.length <= 100) (ht : t.length <= 100) (hl : is.length <= 6) (hi : ∀ x ∈ is, x.length <= 100) : fwt [⟨n, t, hh, is⟩] <= 900 := by
 have := vJ is hi
 simp [fwt, Fd.sizes, Fd.size]
 omega
theorem vK {w : World} {S : Nat -> Prop} (n t : Tx) (hh : Bool) : InF w S ⟨n, t, hh, []⟩ (FRaw.v ⟨n, t, hh, none, 0, 0⟩) := ⟨none, 0, rfl, (fun h => absurd rfl h), Nat.le_refl _⟩
theorem jJ {w : World} {b : Nat} {us : List FRaw} {cs : Array Value} {t : TypeId} {fr : Nat × Nat} (h : w.heap[b]? = some (.cells cs t fr)) (hc : cs.toList = qY us) : ∀ j u, (qY us)[j]? = some u -> w.cell? ⟨b, 0 + j, none⟩ = some u := fun j u hu => by
 rw [Nat.zero_add, cell_of_row w b j cs t fr h, <- Array.getElem?_toList, hc]; exact hu
def OwF (w : World) (B : Nat) (x : Fd) (r : FRaw) : Prop := r.n = x.name /\ r.t = x.text /\ r.h = x.holds /\ r.l = x.items.length /\ OwnS w B r.A r.c x.items
def fblk : List FRaw -> List Nat
 | [] => []
 | r :: s => bk r.A r.l r.c ++ fblk s
theorem kj : ∀ (rs : List FRaw) (r : FRaw), fblk (rs ++ [r]) = fblk rs ++ bk r.A r.l r.c
 | [], r => by simp [fblk]
 | x :: s, r => by simp [fblk, kj s r]
theorem jm {j : Nat} : ∀ {rs : List FRaw}, j ∈ fblk rs ↔ ∃ r ∈ rs, j ∈ bk r.A r.l r.c
 | [] => by simp [fblk]
 | x :: s => by simp only [fblk, List.mem_append, List.mem_cons, exists_eq_or_imp, jm (rs := s)]
section
variable {w w' : World} {B : Nat} {x : Fd} {r : FRaw}
theorem OwF.keep (h : OwF w B x r) (hk : ∀ j ∈ bk r.A r.l r.c, w'.heap[j]? = w.heap[j]?) : OwF w' B x r :=
 ⟨h.1, h.2.1, h.2.2.1, h.2.2.2.1, zt h.2.2.2.2 (fun g hg => hk g (qO.2 (by rw [h.2.2.2.1]; exact hg)))⟩
theorem OwF.lt (h : OwF w B x r) : ∀ j ∈ bk r.A r.l r.c, B <= j /\ j < w.heap.size := fun j hj => h.2.2.2.2.lt j (by rw [<- h.2.2.2.1]; exact qO.1 hj)
theorem OwF.base {B' : Nat} (h : OwF w B x r) (hb : B' <= B) : OwF w B' x r := ⟨h.1, h.2.1, h.2.2.1, h.2.2.2.1, zC h.2.2.2.2 hb⟩
theorem OwF.inF (h : OwF w B x r) : InF w (All w) x r.v := by
 obtain ⟨h1, h2, h3, h4, h5⟩ := h
 obtain ⟨A', c', e, hc, _⟩ := jf h5
 injection e with e1 e2 e3
 refine ⟨r.A, r.c, by rw [FRaw.v, h1, h2, h3, h4], fun hne => ?_, by omega⟩
 obtain ⟨b, o, e, hb, zz⟩ := (Rd.of_own h5) (by simpa [qS] using hne)
 exact ⟨b, o, e, hb, fun i u hu => zz i u hu⟩
end
structure FLo (w : World) (B : Nat) (A : Option Addr) (c : Nat) (rs : List FRaw) (xs : List Fd) : Prop where
 own : OwnF w B A c rs
 len : rs.length = xs.length
 els : ∀ (i : Nat) (r : FRaw) (x : Fd), rs[i]? = some r -> xs[i]? = some x -> OwF w B x r
 nodup : (bk A rs.length c ++ fblk rs).Nodup
section
variable {w w' : World} {B c : Nat} {A : Option Addr} {rs : List FRaw} {xs : List Fd}
theorem FLo.el (h : FLo w B A c rs xs) {r : FRaw} (hr : r ∈ rs) : ∃ x, OwF w B x r := by
 obtain ⟨i, hi, e⟩ := List.mem_iff_getElem.1 hr
 have hx : i < xs.length := by rw [<- h.len]; exact hi
 exact ⟨xs[i], h.els i r _ (by rw [List.getElem?_eq_getElem hi, e]) (List.getElem?_eq_getElem hx)⟩
theorem FLo.lts (h : FLo w B A c rs xs) : ∀ j ∈ bk A rs.length c ++ fblk rs, B <= j /\ j < w.heap.size := by
 intro j hj
 rw [List.mem_append] at hj
 rcases hj with hj | hj
 ·exact h.own.lt j (qO.1 hj)
 obtain ⟨r, hr, hj⟩ := jm.1 hj
 obtain ⟨x, hx⟩ := h.el hr
 exact hx.lt j hj
theorem FLo.at (h : FLo w B A c rs xs) (hk : ∀ j, B <= j -> j < w.heap.size -> w'.heap[j]? = w.heap[j]?) : FLo w' B A c rs xs :=
 ⟨zt h.own (fun g hg => hk g (h.own.lt g hg).1 (h.own.lt g hg).2), h.len, fun i r x h1 h2 => (h.els i r x h1 h2).keep (fun j hj => hk j ((h.els i r x h1 h2).lt j hj).1 ((h.els i r x h1 h2).lt j hj).2), h.nodup⟩
theorem FLo.keep (h : FLo w B A c rs xs) (hb : Below w.heap.size w w') : FLo w' B A c rs xs := h.at (fun j _ hj => hb.block j hj)
theorem FLo.base {B' : Nat} (h : FLo w B A c rs xs) (hb : B' <= B) : FLo w B' A c rs xs := ⟨zC h.own hb, h.len, fun i r x h1 h2 => (h.els i r x h1 h2).base hb, h.nodup⟩
theorem FLo.cap (h : FLo w B A c rs xs) : rs.length <= c := QB h.own
theorem FLo.all (h : FLo w B A c rs xs) : RdF w (All w) A xs := by
 have he : ElsF w (All w) rs xs := ⟨h.len, fun i r x h1 h2 => (h.els i r x h1 h2).inF⟩
 exact he.rdF h.own (fun b hb => (h.own.lt b hb).2)
theorem FLo.nil (w : World) (B : Nat) : FLo w B none 0 [] [] := ⟨⟨rfl, .inl ⟨rfl, rfl⟩⟩, rfl, fun i r x h => by simp at h, by simp [fblk, bk, Value.ownBlock]⟩
end
theorem kk {wx W w3 : World} {B : Nat} {A A3 : Option Addr} {c c3 : Nat} {rs : List FRaw} {acc : List Fd} {raw : FRaw} {x : Fd} (hB : B <= wx.heap.size) (h : FLo wx B A c rs acc) (hW : Below wx.heap.size wx W)
  (hx : OwF W wx.heap.size x raw)
  (ho : OwnF w3 B A3 c3 (rs ++ [raw])) (hg : W.grownBy w3 (Value.ownBlock (.slice A rs.length c))) (hbk : Value.ownBlock (.slice A3 (rs.length + [raw].length) c3) = Value.ownBlock (.slice A rs.length c) \/ Value.ownBlock (.slice A3 (rs.length + [raw].length) c3) = some W.heap.size) :
  FLo w3 B A3 c3 (rs ++ [raw]) (acc ++ [x]) := by
 have h2 := h.keep hW
 have hxl := hx.lt
 have hnd := List.nodup_append.1 h.nodup
 have hkeep : ∀ j, j < W.heap.size -> j ∉ bk A rs.length c -> w3.heap[j]? = W.heap[j]? := fun j hj hn => hg.block j hj (fun e => hn (qO.2 e.symm))
 have hrow := fun j hj => (h.lts j (List.mem_append_left _ hj)).2
 have hfl := fun j hj => (h.lts j (List.mem_append_right _ hj)).2
 refine ⟨ho, by simp [h.len], fun i r y h1 h3 => ?_, ?_⟩
 ·rcases Nat.lt_or_ge i rs.length with hi | hi
  ·rw [List.getElem?_append_left hi] at h1
   rw [List.getElem?_append_left (by have := h.len; omega)] at h3
   refine (h2.els i r y h1 h3).keep (fun j hj => hkeep j ((h2.els i r y h1 h3).lt j hj).2 (fun e => hnd.2.2 j e j (jm.2 ⟨r, List.mem_of_getElem? h1, hj⟩) rfl))
  rw [List.getElem?_append_right hi] at h1
  rw [List.getElem?_append_right (by have := h.len; omega), <- h.len] at h3
  have hi0 : i - rs.length = 0 := by
   rcases Nat.eq_zero_or_pos (i - rs.length) with e | e
   ·exact e
   rw [List.getElem?_eq_none (by simp; omega)] at h1; cases h1
  rw [hi0] at h1 h3
  simp only [List.getElem?_cons_zero, Option.some.injEq] at h1 h3
  subst h1; subst h3
  exact (hx.keep (fun j hj => hkeep j (hxl j hj).2 (fun e => by have := hrow j e; have := (hxl j hj).1; omega))).base hB
 rw [kj, List.length_append]
 have hs : (bk raw.A raw.l raw.c).Nodup := by
  unfold bk
  cases Value.ownBlock (.slice raw.A raw.l raw.c) <;> simp
 have hLL : (fblk rs ++ bk raw.A raw.l raw.c).Nodup := by
  rw [List.nodup_append]
  exact ⟨hnd.2.1, hs, fun a ha b hb e => by subst e; have := hfl a ha; have := (hxl a hb).1; omega⟩
 rw [List.nodup_append]
 rcases hbk with e | e
 ·rw [show bk A3 (rs.length + [raw].length) c3 = bk A rs.length c from congrArg _ e]
  refine ⟨hnd.1, hLL, fun a ha b hb e2 => ?_⟩
  subst e2
  rw [List.mem_append] at hb
  rcases hb with hb | hb
  ·exact hnd.2.2 a ha a hb rfl
  have := hrow a ha; have := (hxl a hb).1; omega
 rw [show bk A3 (rs.length + [raw].length) c3 = [W.heap.size] from congrArg _ e]
 refine ⟨by simp, hLL, fun a ha b hb e2 => ?_⟩
 subst e2
 simp only [List.mem_singleton] at ha
 subst ha
 rw [List.mem_append] at hb
 rcases hb with hb | hb
 ·have := hfl _ hb; have := hW.size; omega
 have := (hxl _ hb).2; omega
theorem yM : ∀ (rs : List FRaw) (k : Nat) (r' : FRaw) (j : Nat) (v : Value) (hk : k < rs.length), j < 4 -> r'.cs = (rs[k]).cs.set j v -> qY (rs.set k r') = (qY rs).set (k * 4 + j) v
 | x :: s, 0, r', j, v, _, hj, h => by
  simp only [List.getElem_cons_zero] at h
  simp only [List.set_cons_zero, qY, Nat.zero_mul, Nat.zero_add]
  rw [h, List.set_append_left _ _ (by simpa using hj)]
 | x :: s, k + 1, r', j, v, hk, hj, h => by
  simp only [List.getElem_cons_succ] at h
  have ih := yM s k r' j v (by simpa using hk) hj h
  simp only [List.set_cons_succ, qY]
  rw [ih, List.set_append_right _ _ (by simp; omega), show (k + 1) * 4 + j - x.cs.length = k * 4 + j by simp; omega]
theorem yN {w : World} {B g c : Nat} {rs : List FRaw} (h : OwnF w B (some ⟨g, 0, none⟩) c rs) {k j : Nat} {r' : FRaw} {v : Value} (hk : k < rs.length) (hj : j < 4) (hr : r'.cs = (rs[k]).cs.set j v) :
  OwnF (w.setCell ⟨g, k * 4 + j, none⟩ v) B (some ⟨g, 0, none⟩) c (rs.set k r') := by
 have h2 := (World.ownsRow.stored h (k * 4 + j) v).1
 unfold OwnF
 rw [List.length_set, yM rs k r' j v hk hj hr]
 exact h2
theorem kN : ∀ (a b : List FRaw), fblk (a ++ b) = fblk a ++ fblk b
 | [], b => rfl
 | x :: s, b => by simp [fblk, kN s b]
theorem FLo.setr {w W : World} {B c : Nat} {A : Option Addr} {rs : List FRaw} {xs : List Fd} (h : FLo w B A c rs xs) {k : Nat} (hk : k < rs.length) {r' : FRaw} {x' : Fd} (ho : OwnF W B A c (rs.set k r')) (hx : OwF W B x' r')
  (hkeep : ∀ (i : Nat) (r : FRaw), i ≠ k -> rs[i]? = some r -> ∀ j ∈ bk r.A r.l r.c, W.heap[j]? = w.heap[j]?)
  (hb : bk r'.A r'.l r'.c = bk (rs[k]).A (rs[k]).l (rs[k]).c \/ ∃ b, bk r'.A r'.l r'.c = [b] /\ b ∉ bk A rs.length c /\ b ∉ fblk rs) : FLo W B A c (rs.set k r') (xs.set k x') := by
 refine ⟨ho, by simp [h.len], fun i r y h1 h2 => ?_, ?_⟩
 ·by_cases hi : k = i
  ·subst hi
   rw [List.getElem?_set_self hk] at h1
   rw [List.getElem?_set_self (by rw [<- h.len]; exact hk)] at h2
   injection h1 with h1
   injection h2 with h2
   subst h1; subst h2
   exact hx
  rw [List.getElem?_set_ne hi] at h1 h2
  exact (h.els i r y h1 h2).keep (hkeep i r (fun e => hi e.symm) h1)
 have hn := h.nodup
 have e1 : rs = rs.take k ++ rs[k] :: rs.drop (k + 1) := by rw [List.getElem_cons_drop, List.take_append_drop]
 have e2 : rs.set k r' = rs.take k ++ r' :: rs.drop (k + 1) := List.set_eq_take_append_cons_drop .. |>.trans (by rw [if_pos hk])
 have f1 : fblk rs = fblk (rs.take k) ++ (bk (rs[k]).A (rs[k]).l (rs[k]).c ++ fblk (rs.drop (k + 1))) := by
  conv => lhs; rw [e1]
  rw [kN]; rfl
 have f2 : fblk (rs.set k r') = fblk (rs.take k) ++ (bk r'.A r'.l r'.c ++ fblk (rs.drop (k + 1))) := by rw [e2, kN]; rfl
 rw [List.length_set, f2]
 rcases hb with e | ⟨b, e, b1, b2⟩
 ·rw [e, <- f1]; exact hn
 rw [f1] at hn b2
 rw [e]
 simp only [List.mem_append, not_or] at b2
 rw [List.nodup_append, List.nodup_append, List.nodup_append] at hn ⊢
 obtain ⟨n1, ⟨n2, ⟨n3, n4, n5⟩, n6⟩, n7⟩ := hn
 refine ⟨n1, ⟨n2, ⟨by simp, n4, fun a ha c hc e9 => ?_⟩, fun a ha c hc e9 => ?_⟩, fun a ha c hc e9 => ?_⟩
 ·rw [List.mem_singleton] at ha
  subst ha; subst e9
  exact b2.2.2 hc
 ·subst e9
  rw [List.mem_append, List.mem_singleton] at hc
  rcases hc with rfl | hc
  ·exact b2.1 ha
  exact n6 a ha a (List.mem_append_right _ hc) rfl
 subst e9
 rw [List.mem_append, List.mem_append, List.mem_singleton] at hc
 rcases hc with hc | rfl | hc
 ·exact n7 a ha a (List.mem_append_left _ hc) rfl
 ·exact b1 ha
 exact n7 a ha a (List.mem_append_right _ (List.mem_append_right _ hc)) rfl
theorem zT {w : World} {base size n : Nat} {e : TypeId} {v : Value} {xs : List Value} (h : w.ownsRow base e size v n xs) : ∀ g, v.ownBlock = some g -> ∃ cs, w.heap[g]? = some (.cells cs e) := by
 intro g hg
 rcases h.2 with ⟨rfl, _⟩ | ⟨g', cap, cur, rfl, _, hh, _⟩
 ·simp [Value.ownBlock] at hg
 simp only [Value.ownBlock, Option.some.injEq] at hg
 subst hg
 exact ⟨cur, hh⟩
theorem OwPs.ty_of {w : World} {xs : List Pt} (hx : ∀ x ∈ xs, ∀ (r : Raw) (L : List Nat), OwP w x r L -> ∀ b ∈ L, ∃ cs, w.heap[b]? = some (.cells cs 115)) : ∀ {rs : List Raw} {L : List Nat}, OwPs w xs rs L -> ∀ b ∈ L, ∃ cs, w.heap[b]? = some (.cells cs 115) := by
 induction xs with
 | nil => intro rs L h b hb; simp only [OwPs] at h; rw [h.2] at hb; cases hb
 | cons x s ih =>
  intro rs L h b hb
  simp only [OwPs] at h
  obtain ⟨r, rs', L1, L2, rfl, rfl, h1, h2⟩ := h
  rw [List.mem_append] at hb
  rcases hb with hb | hb
  ·exact hx x (by simp) r L1 h1 b hb
  exact ih (fun y hy => hx y (List.mem_cons_of_mem _ hy)) h2 b hb
theorem OwP.ty {w : World} (x : Pt) : ∀ (r : Raw) (L : List Nat), OwP w x r L -> ∀ b ∈ L, ∃ cs, w.heap[b]? = some (.cells cs 115) := by
 induction x using Pt.ind with
 | h k t n xs ys ih1 ih2 =>
  intro r L h b hb
  simp only [OwP] at h
  obtain ⟨rfl, rfl, rfl, h4, h5, rs, L1, qs, L2, h6, h7, h8, h9, rfl⟩ := h
  rw [List.mem_append, List.mem_append, List.mem_append] at hb
  rcases hb with (hb | hb) | (hb | hb)
  ·exact zT h6 b (by rw [h7.len, <- h4]; exact qO.1 hb)
  ·exact h7.ty_of ih1 b hb
  ·exact zT h8 b (by rw [h9.len, <- h5]; exact qO.1 hb)
  exact h9.ty_of ih2 b hb
theorem PLo.ty {w : World} {B c : Nat} {A : Option Addr} {rs : List Raw} {xs : List Pt} {L : List Nat} (h : PLo w B A c rs xs L) : ∀ b ∈ bk A rs.length c ++ L, ∃ cs, w.heap[b]? = some (.cells cs 115) := by
 intro b hb
 rw [List.mem_append] at hb
 rcases hb with hb | hb
 ·exact zT h.own b (qO.1 hb)
 exact h.els.ty_of (fun x _ => OwP.ty x) b hb
theorem PLx.other {w w' : World} {B c : Nat} {A : Option Addr} {rs : List Raw} {xs : List Pt} (h : PLx w B A c rs xs) (hk : ∀ (j : Nat) (cs : Array Value), w.heap[j]? = some (Obj.cells cs 115) -> w'.heap[j]? = w.heap[j]?) : PLx w' B A c rs xs := by
 obtain ⟨L, h⟩ := h
 have hk2 : ∀ j ∈ bk A rs.length c ++ L, w'.heap[j]? = w.heap[j]? := fun j hj => (h.ty j hj).elim fun cs hc => hk j cs hc
 exact ⟨L, zt h.own (fun g hg => hk2 g (List.mem_append_left _ (qO.2 hg))), h.els.keep (fun j hj => hk2 j (List.mem_append_right _ hj)), h.nodup, h.rng⟩
theorem FLo.ty {w : World} {B c : Nat} {A : Option Addr} {rs : List FRaw} {xs : List Fd} (h : FLo w B A c rs xs) : (∀ g, Value.ownBlock (.slice A rs.length c) = some g -> ∃ cs, w.heap[g]? = some (.cells cs 62)) /\ ∀ b ∈ fblk rs, ∃ cs, w.heap[b]? = some (.cells cs 9) := by
 refine ⟨zT h.own, fun b hb => ?_⟩
 obtain ⟨r, hr, hb⟩ := jm.1 hb
 obtain ⟨x, hx⟩ := h.el hr
 exact zT hx.2.2.2.2 b (by rw [<- hx.2.2.2.1]; exact qO.1 hb)
theorem FLo.keepb {w w' : World} {B c : Nat} {A : Option Addr} {rs : List FRaw} {xs : List Fd} (h : FLo w B A c rs xs) (hk : ∀ j ∈ bk A rs.length c ++ fblk rs, w'.heap[j]? = w.heap[j]?) : FLo w' B A c rs xs :=
 ⟨zt h.own (fun g hg => hk g (List.mem_append_left _ (qO.2 hg))), h.len, fun i r x h1 h2 => (h.els i r x h1 h2).keep (fun j hj => hk j (List.mem_append_right _ (jm.2 ⟨r, List.mem_of_getElem? h1, hj⟩))), h.nodup⟩
theorem FLo.other {w w' : World} {B c : Nat} {A : Option Addr} {rs : List FRaw} {xs : List Fd} (h : FLo w B A c rs xs) (hk : ∀ (j : Nat) (cs : Array Value) (T : TypeId), (T = 62 \/ T = 9) -> w.heap[j]? = some (Obj.cells cs T) -> w'.heap[j]? = w.heap[j]?) : FLo w' B A c rs xs := by
 refine h.keepb fun j hj => ?_
 rw [List.mem_append] at hj
 rcases hj with hj | hj
 ·obtain ⟨cs, hc⟩ := h.ty.1 j (qO.1 hj)
  exact hk j cs _ (.inl rfl) hc
 obtain ⟨cs, hc⟩ := h.ty.2 j hj
 exact hk j cs _ (.inr rfl) hc
end Go.Proofs.YtmboieajfdkllaaGreat
