import Derived.Test.YtmboieajfdkllaaGreatU01
import Derived.Test.YtmboieajfdkllaaGreatU52
import Derived.Deep.CutBlock
import Derived.RegionTactic
import Derived.BigRegion
import Derived.Maps.AppendAt
set_option maxHeartbeats 8000000
set_option maxRecDepth 100000
open Go.Proofs.Tryz
namespace Go.Proofs.YtmboieajfdkllaaGreat
open Go.RowKit
theorem WN (B g q : Nat) (w : World) (h : Rdr w B g q) (hq : q <= 900000000) :
  Calls Tryz.prog 168 #[.pointer (some ⟨g, 0, none⟩)] w fun e w' => ∃ t : Tx, e = .returned (sv t) /\ t.length <= 40 /\ Rdr w' B g (q + 1) /\ w.grownBy w' (some g) := by
 have hlt := h.lt
 have H := qb h
 clear h
 go_enter func168, ntmps168
 go_wp2_with fail
 refine (Yf B g _ 16 _ (H.out.keep ((Below.refl _ _).alloc (Nat.le_refl _) _)) (by omega) (by omega) (by omega)).mono ?_
 rintro e w2 ⟨k, rfl, hk, hr2, hg2⟩
 have hlit : w2.heap[w.heap.size]? = _ := (hg2.block w.heap.size (by simp) (by simp; omega)).trans (heap_alloc_new w _)
 obtain ⟨x, hxc, hx⟩ := Ym (k := k) (B := 40) (n := 16) hlit (by decide +kernel) (by omega)
 have hk' : k < 16 := by omega
 have HR2 := qb hr2
 have HG2 := qb (jF (World.grownBy_alloc w _ _) hg2)
 clear hlit hk hr2 hg2
 go_wp2
 go_ret
 exact ⟨x, rfl, hx, HR2.out.more (by omega), HG2.out⟩
theorem YL (B g q : Nat) (n : Int) (w : World) (h : Rdr w B g q) (hq : q <= 900000000) (hn : n <= 1000000000) (hn0 : -1000000000 <= n) :
  Calls Tryz.prog 103 #[.pointer (some ⟨g, 0, none⟩), .int .i64 n] w fun e w' => ∃ t : Tx, e = .returned (sv t) /\ t.length <= 100 /\ Rdr w' B g (q + 10) /\ w.grownBy w' (some g) := by
 have hlt := h.lt
 have H := qb h
 clear h
 go_enter func103, ntmps103
 go_wp2_with fail
 refine (Yf B g q 7 _ H.out (by omega) (by omega) (by omega)).mono ?_
 rintro e w1 ⟨k1, rfl, hk1, hr1, hg1⟩
 have HR1 := qb hr1
 have HG1 := qb hg1
 have hk1' : k1 <= 6 := by omega
 clear hr1 hg1 hk1
 go_wp2
 go_loopw [5, 6] (fun t i wr => ∃ (k : Nat) (x : Tx) (qk : Nat), k <= 6 /\ i = .int .i64 (k : Int) /\ t = sv x /\ x.length + 12 * k <= 72 /\ Rdr wr B g qk /\ qk + k <= q + 7 /\ w.grownBy wr (some g)) (fun _ i _ => (intOf i).toNat)
 case atStart => exact ⟨k1, [], q + 1, hk1', rfl, rfl, by simp; omega, HR1.out, by omega, HG1.out⟩
 obtain ⟨k, x, qk, hk, rfl, rfl, hx, hr, hqk, hg⟩ := hrel
 have HR := qb hr
 have HG := qb hg
 clear hr hg HR1 HG1
 have hgw : g < wr.heap.size := HR.out.lt
 by_cases hk0 : k = 0
 ·subst hk0
  go_wp2_with fail
  refine (Yu B g qk n wr HR.out (by omega) hn hn0).mono ?_
  rintro e w2 ⟨bo, rfl, hr2, hg2⟩
  have HR2 := qb hr2
  have HG2 := qb (jF HG.out hg2)
  have hgw2 : g < w2.heap.size := HR2.out.lt
  clear hr2 hg2
  cases bo
  ·go_wp2
   go_ret
   exact ⟨x, rfl, by omega, HR2.out.more (by omega), HG2.out⟩
  go_wp2_with fail
  refine (Yf B g _ 3 _ (HR2.out.keep ((Below.refl _ _).alloc (Nat.le_refl _) _)) (by omega) (by omega) (by omega)).mono ?_
  rintro e w3 ⟨k3, rfl, hk3, hr3, hg3⟩
  have hlit : w3.heap[w2.heap.size]? = _ := (hg3.block w2.heap.size (by simp) (by simp; omega)).trans (heap_alloc_new w2 _)
  obtain ⟨y, hyc, hy⟩ := Ym (k := k3) (B := 12) (n := 3) hlit (by decide +kernel) (by omega)
  have hk3' : k3 < 3 := by omega
  have HR3 := qb hr3
  have HG3 := qb (jF HG2.out (jF (World.grownBy_alloc w2 _ _) hg3))
  have hsum : (9223372036854775807 < x.length + y.length) = False := by rw [eq_iff_iff, iff_false]; omega
  clear hlit hk3 hr3 hg3
  go_wp2
  go_ret
  exact ⟨x ++ y, rfl, by simp; omega, HR3.out.more (by omega), HG3.out⟩
 obtain ⟨k, rfl⟩ : ∃ k', k = k' + 1 := ⟨k - 1, by omega⟩
 clear hk0
 go_wp2_with fail
 refine (Yf B g _ 20 _ (HR.out.keep ((Below.refl _ _).alloc (Nat.le_refl _) _)) (by omega) (by omega) (by omega)).mono ?_
 rintro e w3 ⟨k3, rfl, hk3, hr3, hg3⟩
 have hlit : w3.heap[wr.heap.size]? = _ := (hg3.block wr.heap.size (by simp) (by simp; omega)).trans (heap_alloc_new wr _)
 obtain ⟨y, hyc, hy⟩ := Ym (k := k3) (B := 12) (n := 20) hlit (by decide +kernel) (by omega)
 have hk3' : k3 < 20 := by omega
 have HR3 := qb hr3
 have HG3 := qb (jF HG.out (jF (World.grownBy_alloc wr _ _) hg3))
 have hsum : (9223372036854775807 < x.length + y.length) = False := by rw [eq_iff_iff, iff_false]; omega
 clear hlit hk3 hr3 hg3
 go_wp2
 go_roundw
 case rel => exact ⟨k, x ++ y, qk + 1, by omega, by go_num, rfl, by simp; omega, HR3.out, by omega, HG3.out⟩
 case measure => first | (simp [intOf]; done) | (simp [intOf]; omega)
structure FBx (w : World) (B bx : Nat) (n t : Tx) (hh : Bool) (A : Option Addr) (c : Nat) (is : List Tx) : Prop where
 box : w.heap[bx]? = some (.cells (qC n t hh A is.length c) 62 (0, 0))
 own : OwnS w B A c is
 ne : ∀ k, Value.ownBlock (.slice A is.length c) = some k -> k ≠ bx
 lt : bx < w.heap.size
 ge : B <= bx
section
variable {w w' : World} {B bx c : Nat} {n t : Tx} {hh : Bool} {A : Option Addr} {is : List Tx}
theorem FBx.grow {row : Option Nat} (h : FBx w B bx n t hh A c is) (hg : w.grownBy w' row) (hr : ∀ j, row = some j -> j < B) : FBx w' B bx n t hh A c is := by
 refine ⟨(hg.block bx h.lt (fun e => by have := hr _ e.symm; have := h.ge; omega)).trans h.box, h.own.kept hg ?_, h.ne, Nat.lt_of_lt_of_le h.lt hg.size, h.ge⟩
 cases hv : Value.ownBlock (.slice A is.length c) with
 | none => exact .inl rfl
 | some k => exact .inr fun e => by have := hr _ e.symm; have := Yo h.own k hv; omega
theorem FBx.keep (h : FBx w B bx n t hh A c is) (hb : Below w.heap.size w w') : FBx w' B bx n t hh A c is := h.grow (row := none) (jg hb _) (fun j hj => by cases hj)
theorem FBx.text (h : FBx w B bx n t hh A c is) (t' : Tx) : FBx (w.setCell ⟨bx, 1, none⟩ (sv t')) B bx n t' hh A c is := by
 have hg : w.grownBy (w.setCell ⟨bx, 1, none⟩ (sv t')) (some bx) := vD (xb _ _) 1 _
 refine ⟨qP h.box, h.own.kept hg ?_, h.ne, Nat.lt_of_lt_of_le h.lt hg.size, h.ge⟩
 cases hv : Value.ownBlock (.slice A is.length c) with
 | none => exact .inl rfl
 | some k => exact .inr fun e => by injection e with e; exact h.ne k hv e
theorem Yv {w : World} {b : Nat} {c0 c1 c2 c3 : Value} {t : TypeId} (h : w.heap[b]? = some (.cells #[c0, c1, c2, c3] t (0, 0))) :
  (w.cell? ⟨b, 0, none⟩ = some c0 /\ w.cell? ⟨b, 1, none⟩ = some c1 /\ w.cell? ⟨b, 2, none⟩ = some c2 /\ w.cell? ⟨b, 3, none⟩ = some c3) /\ (w.frozen? ⟨b, 0, none⟩ = false /\ w.frozen? ⟨b, 1, none⟩ = false /\ w.frozen? ⟨b, 2, none⟩ = false /\ w.frozen? ⟨b, 3, none⟩ = false) := by
 simp [World.cell?, World.frozen?, h]
theorem FBx.item (h : FBx w B bx n t hh A c is) {j : Nat} (hj : j < is.length) : ∃ r, A = some ⟨r, 0, none⟩ /\ B <= r /\ r < w.heap.size /\ r ≠ bx /\ w.cell? ⟨r, j, none⟩ = some (sv is[j]) /\ w.frozen? ⟨r, j, none⟩ = false ∧
  ∀ x : Tx, FBx (w.setCell ⟨r, j, none⟩ (sv x)) B bx n t hh A c (is.set j x) := by
 obtain ⟨r, rfl, h1, h2⟩ := zJ h.own (by omega)
 have hne : r ≠ bx := h.ne r rfl
 have hsp : is.map sv = (is.take j).map sv ++ sv is[j] :: (is.drop (j + 1)).map sv := by
  conv => lhs; rw [<- List.take_append_drop j is, List.drop_eq_getElem_cons hj, List.map_append, List.map_cons]
 have hPl : ((is.take j).map sv).length = j := by rw [List.length_map, List.length_take]; omega
 have ho := h.own
 unfold OwnS at ho
 rw [hsp] at ho
 obtain ⟨q1, q2⟩ := Km (k := j) ho hPl
 refine ⟨r, rfl, h1, h2, hne, q1, q2, fun x => ?_⟩
 have hs := Kl (k := j) (u0 := sv x) ho hPl
 have hset : (is.set j x).map sv = (is.take j).map sv ++ sv x :: (is.drop (j + 1)).map sv := by
  rw [List.map_set, hsp, List.set_append_right _ _ (by omega), hPl, Nat.sub_self]
  rfl
 have hl : (is.set j x).length = is.length := by simp
 refine ⟨?_, ?_, by rw [hl]; exact h.ne, by have := h.lt; simp [World.setCell]; omega, h.ge⟩
 ·rw [hl]; exact (Below.heap_setCell _ _ _ _ (fun e => hne e.symm)).trans h.box
 unfold OwnS; rw [hl, hset]; exact hs
end
theorem qa0 {o : Oper} {a : Act} {Q : Exit -> Act -> World -> Prop} {K : Act -> World -> Prop} {W : World} (s x : Operand)
  (ho : o.op = .call { callee := .builtin .append, args := #[s, x], argTypes := #[37, 37] }) (base : Nat) (A : Option Addr) (c : Nat) (xs : List Tx) (u : Tx)
  (hs : a.eval s = .slice A xs.length c) (hown : OwnS W base A c xs) (b : Nat) (hx : a.eval x = .slice (some ⟨b, 0, none⟩) 1 1) (hh : W.heap[b]? = some (.cells #[sv u] 9 (0, 0))) (hlen : xs.length <= 4294967296) (hbase : base <= W.heap.size)
  (h : ∀ A' c' w', OwnS w' base A' c' (xs ++ [u]) -> W.grownBy w' (Value.ownBlock (.slice A xs.length c)) -> (Value.ownBlock (.slice A' (xs.length + 1) c') = Value.ownBlock (.slice A xs.length c) \/ Value.ownBlock (.slice A' (xs.length + 1) c') = some W.heap.size) -> K (a.put o.dst (.slice A' (xs.length + 1) c')) w') :
  o.wp Tryz.prog a W K Q := by
 obtain ⟨i0, hi, hz0, hz1, hz2⟩ := info_parts Tryz.info_string
 obtain ⟨v', w', hr, h2, h3, _, h5⟩ := run_append_own_at (P := Tryz.prog) (w := W) base 37 o.type _ i0 _ 1 16 underlying37 hi hz0 hz1 hz2 rfl (by decide) _ xs.length (xs.map sv) hown ⟨b, 0, none⟩ 1 1 [sv u] rfl (by
  intro j z hj
  rw [Addr.add_lit, Nat.zero_add, cell_of_row W b j _ _ _ hh]
  simpa using hj) (by
  intro z hz
  simp at hz
  subst hz
  rfl) (by unfold maxLen; omega) (by omega) hbase
 obtain ⟨A', c', rfl, _, _⟩ := jf h2
 unfold Oper.wp execOp
 simp only [ho, resolve, invoke, builtin, Sem.run_bind, Sem.run_pure, Result.andThen_ok, List.map_toArray, List.map_cons, List.map_nil, hs, hx, hr]
 refine h A' c' w' ?_ h3 h5
 unfold OwnS
 rw [List.length_append, List.map_append]
 exact h2
structure WFld (w0 wr : World) (B0 g q B bx : Nat) (n t : Tx) (hh : Bool) (A : Option Addr) (c : Nat) (is : List Tx) (L : Nat -> Bool) (v : World) : Prop where
 grown : w0.grownBy v (some g)
 size : wr.heap.size <= v.heap.size
 zero : v.heap[w0.heap.size]? = some (.cells #[.string ⟨#[]⟩, .string ⟨#[]⟩, .bool false, .slice none 0 0] 62 (0, 0))
 rdr : Rdr v B0 g (q + 10)
 rdr0 : L 3 = false -> Rdr v B0 g q
 own : L 5 = false -> OwnS v B A c is
 box : L 7 = false -> v.heap[bx]? = some (.cells (qC n t hh A is.length c) 62 (0, 0))
 last : L 7 = true -> L 5 = true
 mid : L 5 = true -> L 1 = true
section
variable {w0 wr : World} {B0 g q B bx c : Nat} {n t : Tx} {hh : Bool} {A : Option Addr} {is : List Tx} {L : Nat -> Bool} {v v' : World}
theorem WFld.keep {i : Nat} (h : WFld w0 wr B0 g q B bx n t hh A c is L v) (hb : Below v.heap.size v v') (hz : w0.heap.size < v.heap.size) (hbx : bx < v.heap.size) (h5 : i ≠ 5) (h7 : i ≠ 7) : WFld w0 wr B0 g q B bx n t hh A c is (updd L i) v' := by
 refine ⟨jF h.grown (jg hb _), Nat.le_trans h.size hb.size, (hb.block _ hz).trans h.zero, h.rdr.keep hb, fun e => (h.rdr0 (by simp [updd] at e; exact e.2)).keep hb, fun e => kC (h.own (by simp [updd] at e; exact e.2)) hb, fun e => (hb.block _ hbx).trans (h.box (by simp [updd] at e; exact e.2)), fun e => ?_, fun e => ?_⟩
 ·simp only [updd, Bool.or_eq_true, decide_eq_true_eq] at e ⊢
  rcases e with e | e
  ·exact absurd e.symm h7
  exact .inr (h.last e)
 simp only [updd, Bool.or_eq_true, decide_eq_true_eq] at e ⊢
 rcases e with e | e
 ·exact absurd e.symm h5
 exact .inr (h.mid e)
theorem WG {w w' : World} {B c g : Nat} {A : Option Addr} {xs : List Tx} (h : OwnS w B A c xs) (hg : w.grownBy w' (some g)) (hgB : g < B) : OwnS w' B A c xs := by
 refine h.kept hg ?_
 cases hv : Value.ownBlock (.slice A xs.length c) with
 | none => exact .inl rfl
 | some k => exact .inr fun e => by injection e with e; have := Yo h k hv; omega
def KFld (g bx : Nat) (n t : Tx) (hh : Bool) (A : Option Addr) (c l : Nat) (i : Nat) (v v' : World) : Prop :=
 ∃ row, v.grownBy v' row /\ (∀ j, row = some j -> (i = 3 /\ j = g) \/ (i = 5 /\ Value.ownBlock (.slice A l c) = some j) \/ (i = 7 /\ j = bx)) /\ (i = 5 -> v.heap[bx]? = some (.cells (qC n t hh A l c) 62 (0, 0)))
theorem Yy {l i : Nat} (hb : Below v.heap.size v v') (h5 : i ≠ 5) : KFld g bx n t hh A c l i v v' := ⟨none, jg hb _, (fun j e => by cases e), fun e => absurd e h5⟩
def fTx : TyB := fun _ v => ∃ x : Tx, v = sv x /\ x.length <= 100
def fOne (N : Nat) : TyB := fun w v => ∃ (b : Nat) (x : Tx), v = .slice (some ⟨b, 0, none⟩) 1 1 /\ N <= b /\ w.heap[b]? = some (.cells #[sv x] 9 (0, 0)) /\ x.length <= 100
def fApd (N B : Nat) (is : List Tx) (row : Option Nat) : TyB := fun w v => ∃ (x : Tx) (A : Option Addr) (c : Nat), v = .slice A (is.length + 1) c /\ OwnS w B A c (is ++ [x]) /\ x.length <= 100 /\ (Value.ownBlock (.slice A (is.length + 1) c) = row \/ ∀ j, Value.ownBlock (.slice A (is.length + 1) c) = some j -> N <= j)
def fDone (B bx : Nat) (n t : Tx) (hh : Bool) (is : List Tx) : TyB := fun w _ => ∃ (x : Tx) (A : Option Addr) (c : Nat), w.heap[bx]? = some (.cells (qC n t hh A (is.length + 1) c) 62 (0, 0)) /\ OwnS w B A c (is ++ [x]) /\ x.length <= 100 /\ (∀ j, Value.ownBlock (.slice A (is.length + 1) c) = some j -> j ≠ bx) /\ bx < w.heap.size
theorem WE {N l i : Nat} {x : Value} (hg : g < N) (hbx : bx < N) (hrow : ∀ j, Value.ownBlock (.slice A l c) = some j -> j < N) (hk : KFld g bx n t hh A c l i v v') (hf : fOne N v x) : fOne N v' x := by
 obtain ⟨row, h1, h2, _⟩ := hk
 obtain ⟨b, y, e, h3, h4, h5⟩ := hf
 refine ⟨b, y, e, h3, (h1.block b (lt_of_block h4) (fun e2 => ?_)).trans h4, h5⟩
 rcases h2 b e2.symm with ⟨_, h⟩ | ⟨_, h⟩ | ⟨_, h⟩
 ·omega
 ·have := hrow b h; omega
 omega
theorem WC {N i : Nat} {x : Value} (hg : g < B) (hbx : bx < N) (hi : i ≠ 5) (hne : ∀ j, Value.ownBlock (.slice A is.length c) = some j -> j ≠ bx) (hk : KFld g bx n t hh A c is.length i v v') (hf : fApd N B is (Value.ownBlock (.slice A is.length c)) v x) : fApd N B is (Value.ownBlock (.slice A is.length c)) v' x := by
 obtain ⟨row, h1, h2, _⟩ := hk
 obtain ⟨y, A2, c2, e, h3, h4, h5⟩ := hf
 refine ⟨y, A2, c2, e, h3.kept h1 ?_, h4, h5⟩
 have hl : (is ++ [y]).length = is.length + 1 := by simp
 rw [hl]
 cases hv : Value.ownBlock (.slice A2 (is.length + 1) c2) with
 | none => exact .inl rfl
 | some k =>
  refine .inr fun e2 => ?_
  have hB := Yo h3 k (by rw [hl]; exact hv)
  rcases h2 k e2.symm with ⟨_, h⟩ | ⟨h, _⟩ | ⟨_, h⟩
  ·omega
  ·exact hi h
  rcases h5 with h6 | h6
  ·exact hne k (by rw [<- h6]; exact hv) h
  have := h6 k hv; omega
theorem WD {i : Nat} {x : Value} (hg : g < B) (hgb : g ≠ bx) (hi : i ≠ 7) (hk : KFld g bx n t hh A c is.length i v v') (hf : fDone B bx n t hh is v x) : fDone B bx n t hh is v' x := by
 obtain ⟨row, h1, h2, h2'⟩ := hk
 obtain ⟨y, A2, c2, h3, h4, h5, h6, h7⟩ := hf
 have hi5 : i ≠ 5 := by
  intro e
  have h8 := (h2' e).symm.trans h3
  injection h8 with h8
  injection h8 with h8
  have h9 := congrArg (fun a : Array Value => a.toList) h8
  simp only [List.cons.injEq, and_true, true_and, Value.slice.injEq] at h9
  omega
 have hr : row = none \/ row = some g := by
  cases row with
  | none => exact .inl rfl
  | some j =>
   rcases h2 j rfl with ⟨_, h⟩ | ⟨h, _⟩ | ⟨h, _⟩
   ·exact .inr (by rw [h])
   ·exact absurd h hi5
   exact absurd h hi
 refine ⟨y, A2, c2, (h1.block bx h7 (fun e => by rcases hr with e2 | e2 <;> rw [e2] at e <;> first | (cases e; done) | (injection e with e; exact hgb e.symm))).trans h3, h4.kept h1 ?_, h5, h6, Nat.lt_of_lt_of_le h7 h1.size⟩
 cases hv : Value.ownBlock (.slice A2 (is ++ [y]).length c2) with
 | none => exact .inl rfl
 | some k =>
  refine .inr fun e2 => ?_
  have hB := Yo h4 k hv
  rcases hr with e3 | e3 <;> rw [e3] at e2 <;> first | (cases e2; done) | (injection e2 with e2; omega)
end
def DrnF (w : World) (B g q : Nat) (n : Tx) (e : Ending) (w' : World) : Prop :=
 ∃ (t : Tx) (hh : Bool) (A : Option Addr) (c : Nat) (is : List Tx), e = .returned (fdV n t hh A is.length c) /\ OwnS w' w.heap.size A c is /\ t.length <= 100 /\ is.length <= 3 /\ (∀ x ∈ is, x.length <= 100) /\ Rdr w' B g (q + 80) /\ w.grownBy w' (some g)
theorem WP (B g q : Nat) (n : Tx) (w : World) (h : Rdr w B g q) (hq : q <= 800000000) : Calls Tryz.prog 139 #[.pointer (some ⟨g, 0, none⟩), sv n] w (DrnF w B g q n) := by
 have hlt := h.lt
 have HR := qb (h.keep ((Below.refl w.heap.size w).alloc (Nat.le_refl _) (.cells #[.string ⟨#[]⟩, .string ⟨#[]⟩, .bool false, .slice none 0 0] 62)))
 have HZ := qb (heap_alloc_new w (.cells #[.string ⟨#[]⟩, .string ⟨#[]⟩, .bool false, .slice none 0 0] 62))
 clear h
 go_enter func139, ntmps139
 go_wp2_with fail
 refine (YL B g q 0 _ HR.out (by omega) (by omega) (by omega)).mono ?_
 rintro e w1 ⟨t0, rfl, ht0, hr1, hg1⟩
 have HZ := qb ((hg1.block w.heap.size (by simp) (by simp; omega)).trans HZ.out)
 have HG := qb (jF (World.grownBy_alloc w (.cells #[.string ⟨#[]⟩, .string ⟨#[]⟩, .bool false, .slice none 0 0] 62) (some g)) hg1)
 have hz : w.heap.size < w1.heap.size := by have := hg1.size; simp at this; omega
 have HR := qb hr1
 clear hr1 hg1
 go_wp2_with fail
 refine (Yf B g _ 2 w1 HR.out (by omega) (by omega) (by omega)).mono ?_
 rintro e w2 ⟨k2, rfl, hk2, hr2, hg2⟩
 have hz2 : w.heap.size < w2.heap.size := Nat.lt_of_lt_of_le hz hg2.size
 have HZ := qb ((hg2.block w.heap.size hz (by simp; omega)).trans HZ.out)
 have HG := qb (jF HG.out hg2)
 have HR := qb hr2
 clear hr2 hg2 hk2
 obtain ⟨hh, hhe⟩ : ∃ hh : Bool, hh = ((k2 : Int) == 0) := ⟨_, rfl⟩
 have HA1 := qb ((Below.refl w2.heap.size w2).alloc (Nat.le_refl _) (.cells #[] 9))
 have HA2 := qb (HA1.out.alloc HA1.out.size (.cells (qC n t0 hh (some ⟨w2.heap.size, 0, none⟩) 0 0) 62))
 have hs1 : (w2.alloc (.cells #[] 9)).heap.size = w2.heap.size + 1 := by simp
 have hbx := heap_alloc_new (w2.alloc (.cells #[] 9)) (.cells (qC n t0 hh (some ⟨w2.heap.size, 0, none⟩) 0 0) 62)
 rw [hs1] at hbx
 have HF : Hid (FBx ((w2.alloc (.cells #[] 9)).alloc (.cells (qC n t0 hh (some ⟨w2.heap.size, 0, none⟩) 0 0) 62)) (w.heap.size + 1) (w2.heap.size + 1) n t0 hh (some ⟨w2.heap.size, 0, none⟩) 0 []) :=
  ⟨hbx, kC (xF w2 _ hz2) ((Below.refl _ _).alloc (Nat.le_refl _) _), fun k hk => by injection hk with hk; have h9 : w2.heap.size = k := hk; omega, by simp, by omega⟩
 have HZ := qb ((HA2.out.block w.heap.size hz2).trans HZ.out)
 have HG := qb (jF HG.out (jg HA2.out (some g)))
 have HR := qb (HR.out.keep HA2.out)
 have hs2 : w2.heap.size + 1 < ((w2.alloc (.cells #[] 9)).alloc (.cells (qC n t0 hh (some ⟨w2.heap.size, 0, none⟩) 0 0) 62)).heap.size := by simp
 clear hbx hs1 HA1 HA2
 go_upto_region 2 with fail
 rw [<- hhe]
 generalize (w2.alloc (.cells #[] 9)).alloc (.cells (qC n t0 hh (some ⟨w2.heap.size, 0, none⟩) 0 0) 62) = wv at *
 have hbz : w.heap.size < w2.heap.size + 1 := by omega
 have hbr : w2.heap.size < w2.heap.size + 1 := by omega
 generalize w2.heap.size + 1 = bx at *
 clear hhe
 go_wp2_with fail
 refine (Yf B g _ 3 wv HR.out (by omega) (by omega) (by omega)).mono ?_
 rintro e w3 ⟨k3, rfl, hk3, hr3, hg3⟩
 have hz3 : bx < w3.heap.size := Nat.lt_of_lt_of_le hs2 hg3.size
 have HZ := qb ((hg3.block w.heap.size (by omega) (by simp; omega)).trans HZ.out)
 have HG := qb (jF HG.out hg3)
 have HR := qb hr3
 have HF := qb (HF.out.grow hg3 (fun j hj => by injection hj with hj; omega))
 clear hr3 hg3 hk3
 go_upto_if 18 with fail
 go_cut [] (fun wx => ∃ t : Tx, t.length <= 100 /\ FBx wx (w.heap.size + 1) bx n t hh (some ⟨w2.heap.size, 0, none⟩) 0 [] /\ Rdr wx B g (q + 20) /\ w.grownBy wx (some g) /\ wx.heap[w.heap.size]? = some (.cells #[.string ⟨#[]⟩, .string ⟨#[]⟩, .bool false, .slice none 0 0] 62 (0, 0)))
 case first =>
  by_cases hk0 : k3 = 0
  ·subst hk0
   go_wp2_with fail
   refine (WN B g _ w3 HR.out (by omega)).mono ?_
   rintro e w4 ⟨t1, rfl, ht1, hr4, hg4⟩
   have hz4 : bx < w4.heap.size := Nat.lt_of_lt_of_le hz3 hg4.size
   have HZ := qb ((hg4.block w.heap.size (by omega) (by simp; omega)).trans HZ.out)
   have HG := qb (jF HG.out hg4)
   have HR := qb hr4
   have HF := qb (HF.out.grow hg4 (fun j hj => by injection hj with hj; omega))
   clear hr4 hg4
   have hgw : g < w4.heap.size := by omega
   go_wp2_with fail
   refine (Yf B g _ 3 _ (HR.out.keep ((Below.refl _ _).alloc (Nat.le_refl _) (.cells #[sv t1, sv [60, 98, 62, 120, 60, 47, 98, 62], sv [60, 105, 62]] 9))) (by omega) (by omega) (by omega)).mono ?_
   rintro e w5 ⟨k5, rfl, hk5, hr5, hg5⟩
   have hlit : w5.heap[w4.heap.size]? = _ := (hg5.block w4.heap.size (by simp) (by simp; omega)).trans (heap_alloc_new w4 _)
   obtain ⟨x, hxc, hx⟩ := Ym (k := k5) (B := 40) (n := 3) hlit (by simp [okS]; exact ⟨by show t1.toArray.size <= 40; simpa using ht1, by decide, by decide⟩) (by omega)
   have hk5' : k5 < 3 := by omega
   have hg6 := jF (World.grownBy_alloc w4 (.cells #[sv t1, sv [60, 98, 62, 120, 60, 47, 98, 62], sv [60, 105, 62]] 9) (some g)) hg5
   have HZ := qb ((hg6.block w.heap.size (by omega) (by simp; omega)).trans HZ.out)
   have HG := qb (jF HG.out hg6)
   have HF := qb (HF.out.grow hg6 (fun j hj => by injection hj with hj; omega))
   have HR := qb hr5
   clear hlit hr5 hg5 hk5 hg6
   obtain ⟨⟨f0, f1, f2, f3⟩, f4, f5, f6, f7⟩ := Yv HF.out.box
   go_wp2
   go_meet
   case rel => exact ⟨x, by omega, HF.out.text x, (HR.out.frame (vD (xb _ _) 1 (sv x)) (fun k hk => by injection hk with hk; omega)).more (by omega), YI HG.out (p := ⟨bx, 1, none⟩) (by show w.heap.size <= bx; omega) _, (Below.heap_setCell _ _ _ _ (by show _ ≠ _; simp; omega)).trans HZ.out⟩
  have hk00 : ((k3 : Int) == 0) = false := by simp; omega
  clear hk0
  go_wp2
  go_meet
  case rel => exact ⟨t0, ht0, HF.out, HR.out.more (by omega), HG.out, HZ.out⟩
 obtain ⟨t, ht, hf, hr, hg, hzz⟩ := hcut
 clear HF HR HG HZ
 have HF := qb hf
 have HR := qb hr
 have HG := qb hg
 have HZ := qb hzz
 clear hf hr hg hzz ht0
 go_wp2_with fail
 refine (Yf B g _ 4 _ HR.out (by omega) (by omega) (by omega)).mono ?_
 rintro e w3 ⟨k0, rfl, hk0, hr3, hg3⟩
 have hzl := HF.out.lt
 have HZ := qb ((hg3.block w.heap.size (by omega) (by simp; omega)).trans HZ.out)
 have HG := qb (jF HG.out hg3)
 have HR := qb hr3
 have HF := qb (HF.out.grow hg3 (fun j hj => by injection hj with hj; omega))
 have hk3 : k0 <= 3 := by omega
 clear hr3 hg3 hk0 hzl hz3
 go_wp2
 go_loopw [6] (fun i wr => ∃ (k : Nat) (A : Option Addr) (c : Nat) (is : List Tx) (qk : Nat), k <= 3 /\ i = .int .i64 (k : Int) /\ is.length + k <= 3 /\ (∀ x ∈ is, x.length <= 100) /\ FBx wr (w.heap.size + 1) bx n t hh A c is /\ Rdr wr B g qk /\ qk + 10 * k <= q + 60 /\ w.grownBy wr (some g) /\ wr.heap[w.heap.size]? = some (.cells #[.string ⟨#[]⟩, .string ⟨#[]⟩, .bool false, .slice none 0 0] 62 (0, 0))) (fun i _ => (intOf i).toNat)
 case atStart => exact ⟨k0, _, _, [], q + 20 + 1, hk3, rfl, by simp; omega, (fun x hx => by cases hx), HF.out, HR.out, by omega, HG.out, HZ.out⟩
 obtain ⟨k, A, c, is, qk, hk, rfl, hil, hib, hf, hr, hqk, hg, hzz⟩ := hrel
 clear HF HR HG HZ
 have HF := qb hf
 have HR := qb hr
 have HG := qb hg
 have HZ := qb hzz
 have HIB := qb hib
 clear hf hr hg hzz hib
 by_cases hk0 : k = 0
 ·subst hk0
  have hil3 : is.length <= 3 := by omega
  have HR := qb (HR.out.more (show qk <= q + 60 by omega))
  clear hil hqk hk
  go_wp2
  go_loopw [7] (fun i w6 => ∃ (j : Nat) (is : List Tx), j <= is.length /\ is.length <= 3 /\ i = .int .i64 (j : Int) /\ (∀ x ∈ is, x.length <= 100) /\ FBx w6 (w.heap.size + 1) bx n t hh A c is /\ Rdr w6 B g (q + 60) /\ w.grownBy w6 (some g) /\ w6.heap[w.heap.size]? = some (.cells #[.string ⟨#[]⟩, .string ⟨#[]⟩, .bool false, .slice none 0 0] 62 (0, 0))) (fun i _ => 3 - (intOf i).toNat)
  case atStart => exact ⟨0, is, Nat.zero_le _, hil3, rfl, HIB.out, HF.out, HR.out, HG.out, HZ.out⟩
  rename World => w6
  obtain ⟨j, ys, hj, hjl, rfl, hib, hf, hr, hg, hzz⟩ := hrel
  clear HF HR HG HZ HIB
  have HF := qb hf
  have HR := qb hr
  have HG := qb hg
  have HZ := qb hzz
  have HIB := qb hib
  clear hf hr hg hzz hib
  obtain ⟨⟨f0, f1, f2, f3⟩, f4, f5, f6, f7⟩ := Yv HF.out.box
  by_cases hlt : j < ys.length
  ·obtain ⟨r, rfl, hr1, hr2, hrn, c0, c1, hset⟩ := HF.out.item hlt
   have HSET := qb hset
   have hxl := HIB.out _ (List.getElem_mem hlt)
   generalize ys[j] = x at *
   clear hset
   go_upto_region 11 with fail
   go_region
   have hyl : (List.take (if (40 : Int) < ↑(List.length x) then (40 : Int) else ↑(List.length x)).toNat x).length <= 100 := Nat.le_trans (List.length_take_le' _ _) hxl
   generalize List.take (if (40 : Int) < ↑(List.length x) then (40 : Int) else ↑(List.length x)).toNat x = y at *
   have hgs : w6.grownBy (w6.setCell ⟨r, j, none⟩ (sv y)).drew (some r) := Yp (vD (xb _ _) j _)
   have HF := qb ((HSET.out y).keep (Below.refl _ _).drew)
   have HR := qb (HR.out.frame hgs (fun k hk => by injection hk with hk; omega))
   have HG := qb (Ya HG.out hgs (Nat.le_refl _) (fun k hk => by injection hk with hk; omega))
   have HZ := qb ((hgs.block _ (by have := HF.out.lt; simp [World.setCell] at this; omega) (by simp; omega)).trans HZ.out)
   have HIB5 : Hid (∀ z ∈ ys.set j y, z.length <= 100) := fun z hz => by
    rcases List.mem_or_eq_of_mem_set hz with h1 | h1
    ·exact HIB.out z h1
    subst h1; exact hyl
   have hsl : (ys.set j y).length = ys.length := by simp
   clear hgs f0 f1 f2 f3 f4 f5 f6 f7 c0 c1 HSET
   go_wp2
   go_roundw
   case rel => exact ⟨j + 1, ys.set j y, by omega, by omega, by go_num, HIB5.out, HF.out, HR.out, HG.out, HZ.out⟩
   case measure => first | (simp [intOf]; done) | (simp [intOf]; omega)
  obtain ⟨⟨z0, z1, z2, z3⟩, z4, z5, z6, z7⟩ := Yv HZ.out
  have hbl := HF.out.lt
  have hbn : w.heap.size ≠ bx := by omega
  have hbn2 : bx ≠ w.heap.size := by omega
  have HBZ := qb hbz
  by_cases h40 : 40 < t.length
  ·have h41 : ((40 : Int) < (t.length : Int)) = True := eq_true (by omega)
   have h42 : ((40 : Int) <= (t.length : Int)) = True := eq_true (by omega)
   have h43 : (40 <= t.length) = True := eq_true (by omega)
   clear h40
   have hgx : w6.grownBy (w6.setCell ⟨bx, 1, none⟩ (sv (t.take 40))) (some bx) := vD (xb _ _) 1 _
   have hgy : ∀ v : World, v.grownBy ((((v.setCell ⟨w.heap.size, 0, none⟩ (sv n)).setCell ⟨w.heap.size, 1, none⟩ (sv (t.take 40))).setCell ⟨w.heap.size, 2, none⟩ (.bool hh)).setCell ⟨w.heap.size, 3, none⟩ (.slice A ys.length c)) (some w.heap.size) := fun v => vD (vD (vD (vD (xb _ _) 0 _) 1 _) 2 _) 3 _
   have HO := qb ((HF.out.text (t.take 40)).own)
   have HOF : Hid (OwnS ((((( w6.setCell ⟨bx, 1, none⟩ (sv (t.take 40))).setCell ⟨w.heap.size, 0, none⟩ (sv n)).setCell ⟨w.heap.size, 1, none⟩ (sv (t.take 40))).setCell ⟨w.heap.size, 2, none⟩ (.bool hh)).setCell ⟨w.heap.size, 3, none⟩ (.slice A ys.length c)) w.heap.size A c ys) := zC (HO.out.kept (hgy _) (by
    cases hv : Value.ownBlock (.slice A ys.length c) with
    | none => exact .inl rfl
    | some k => exact .inr fun e => by injection e with e; have := Yo HO.out k hv; omega)) (Nat.le_succ _)
   have HRF := qb (((HR.out.frame hgx (fun k hk => by injection hk with hk; omega)).frame (hgy _) (fun k hk => by injection hk with hk; omega)).more (show q + 60 <= q + 80 by omega))
   have HGF := qb (Ya (Ya HG.out hgx (Nat.le_refl _) (fun k hk => by injection hk with hk; omega)) (hgy _) (Nat.le_refl _) (fun k hk => by injection hk with hk; omega))
   clear hgx hgy
   go_wp2_with fail
   refine bodyPost_ret (v := fdV n (t.take 40) hh A ys.length c) (by simp [results, results139, go_sem, *]) rfl ?_
   exact ⟨t.take 40, hh, A, c, ys, rfl, HOF.out, by first | omega | (simp; omega), hjl, HIB.out, HRF.out, HGF.out⟩
  have h41 : ((40 : Int) < (t.length : Int)) = False := eq_false (by omega)
  clear h40
  have hgx : w6.grownBy (w6.setCell ⟨bx, 1, none⟩ (sv t)) (some bx) := vD (xb _ _) 1 _
  have hgy : ∀ v : World, v.grownBy ((((v.setCell ⟨w.heap.size, 0, none⟩ (sv n)).setCell ⟨w.heap.size, 1, none⟩ (sv t)).setCell ⟨w.heap.size, 2, none⟩ (.bool hh)).setCell ⟨w.heap.size, 3, none⟩ (.slice A ys.length c)) (some w.heap.size) := fun v => vD (vD (vD (vD (xb _ _) 0 _) 1 _) 2 _) 3 _
  have HO := qb ((HF.out.text t).own)
  have HOF : Hid (OwnS ((((( w6.setCell ⟨bx, 1, none⟩ (sv t)).setCell ⟨w.heap.size, 0, none⟩ (sv n)).setCell ⟨w.heap.size, 1, none⟩ (sv t)).setCell ⟨w.heap.size, 2, none⟩ (.bool hh)).setCell ⟨w.heap.size, 3, none⟩ (.slice A ys.length c)) w.heap.size A c ys) := zC (HO.out.kept (hgy _) (by
   cases hv : Value.ownBlock (.slice A ys.length c) with
   | none => exact .inl rfl
   | some k => exact .inr fun e => by injection e with e; have := Yo HO.out k hv; omega)) (Nat.le_succ _)
  have HRF := qb (((HR.out.frame hgx (fun k hk => by injection hk with hk; omega)).frame (hgy _) (fun k hk => by injection hk with hk; omega)).more (show q + 60 <= q + 80 by omega))
  have HGF := qb (Ya (Ya HG.out hgx (Nat.le_refl _) (fun k hk => by injection hk with hk; omega)) (hgy _) (Nat.le_refl _) (fun k hk => by injection hk with hk; omega))
  clear hgx hgy
  go_wp2_with fail
  refine bodyPost_ret (v := fdV n t hh A ys.length c) (by simp [results, results139, go_sem, *]) rfl ?_
  exact ⟨t, hh, A, c, ys, rfl, HOF.out, by first | omega | (simp; omega), hjl, HIB.out, HRF.out, HGF.out⟩
 obtain ⟨k, rfl⟩ : ∃ k', k = k' + 1 := ⟨k - 1, by omega⟩
 clear hk0
 have hgb : g < w.heap.size + 1 := by omega
 have hzr : w.heap.size < wr.heap.size := by have := HF.out.lt; omega
 have hbr2 : bx < wr.heap.size := HF.out.lt
 have HNR : Hid (∀ j, Value.ownBlock (.slice A is.length c) = some j -> j < wr.heap.size) := fun j hj => (HF.out.own.lt j hj).2
 go_upto_region 7 with fail
 refine qa1d 8 (by rfl) (by kernel_rfl) (by kernel_rfl) (fun L v => WFld w wr B g qk (w.heap.size + 1) bx n t hh A c is L v) (KFld g bx n t hh A c is.length) (fun i => ([bIs (.pointer (some ⟨bx, 3, none⟩)), bIs (.slice A is.length c), bIs (.pointer (some ⟨g, 0, none⟩)), fTx, fOne (World.heap wr).size, fApd (World.heap wr).size (w.heap.size + 1) is (Value.ownBlock (.slice A is.length c)), bIs (.pointer (some ⟨bx, 3, none⟩)), fDone (w.heap.size + 1) bx n t hh is] : List TyB).getD i bAny) ?hWA ?hkeepA ?hstepA ?hfinA
 case hWA => exact ⟨Yp HG.out, Nat.le_refl _, HZ.out, (HR.out.keep (Below.refl _ _).drew).more (by omega), fun _ => HR.out.keep (Below.refl _ _).drew, fun _ => kC HF.out.own (Below.refl _ _).drew, fun _ => HF.out.box, (fun e => by cases e), fun e => by cases e⟩
 case hkeepA =>
  intro i hi j hj hji v v' x hk hf
  have hj8 : j = 0 \/ j = 1 \/ j = 2 \/ j = 3 \/ j = 4 \/ j = 5 \/ j = 6 \/ j = 7 := by omega
  rcases hj8 with rfl | rfl | rfl | rfl | rfl | rfl | rfl | rfl
  ·exact hf
  ·exact hf
  ·exact hf
  ·exact hf
  ·exact WE (x := x) (by omega) hbr2 HNR.out hk hf
  ·exact WC (x := x) hgb hbr2 (fun e => hji e.symm) HF.out.ne hk hf
  ·exact hf
  exact WD (x := x) hgb (by omega) (fun e => hji e.symm) hk hf
 case hstepA =>
  refine qg (qg (qg (qg (qg (qg (qg (qg qG ?_) ?_) ?_) ?_) ?_) ?_) ?_) ?_
  ·intro o ho L a v hL hV hb hd hdL K Q hK
   obtain rfl := Option.some.inj ho
   have hs1 := hV.size
   have e0 : a.tmps[5]?.getD undef = .pointer (some ⟨bx, 0, none⟩) := by rw [hb 5 (by decide +kernel)]; simp
   go_simp
   exact hK _ _ (hV.keep (Below.refl _ _) (by omega) (by omega) (by decide) (by decide)) (Yy (Below.refl _ _) (by decide)) rfl
  ·intro o ho L a v hL hV hb hd hdL K Q hK
   obtain rfl := Option.some.inj ho
   have hs1 := hV.size
   have h70 : L 7 = false := by
    cases h7 : L 7
    ·rfl
    have h8 := hV.mid (hV.last h7); rw [hL] at h8; cases h8
   obtain ⟨⟨f0, f1, f2, f3⟩, -⟩ := Yv (hV.box h70)
   have e0 := qo (hd 0 (by kernel_rfl) 33 rfl)
   go_simp
   exact hK _ _ (hV.keep (Below.refl _ _) (by omega) (by omega) (by decide) (by decide)) (Yy (Below.refl _ _) (by decide)) rfl
  ·intro o ho L a v hL hV hb hd hdL K Q hK
   obtain rfl := Option.some.inj ho
   have hs1 := hV.size
   have e0 : a.tmps[0]?.getD undef = .pointer (some ⟨g, 0, none⟩) := by rw [hb 0 (by decide +kernel)]; simp
   go_simp
   exact hK _ _ (hV.keep (Below.refl _ _) (by omega) (by omega) (by decide) (by decide)) (Yy (Below.refl _ _) (by decide)) rfl
  ·intro o ho L a v hL hV hb hd hdL K Q hK
   obtain rfl := Option.some.inj ho
   have hs1 := hV.size
   have e0 := qo (hd 2 (by kernel_rfl) 35 rfl)
   go_simp
   refine (YL B g qk 0 v (hV.rdr0 hL) (by omega) (by omega) (by omega)).mono ?_
   rintro e v2 ⟨x, rfl, hx, hr2, hg2⟩
   refine hK _ _ ⟨jF hV.grown hg2, Nat.le_trans hs1 hg2.size, (hg2.block _ (by omega) (by simp; omega)).trans hV.zero, hr2, (fun e => by simp [updd] at e), fun e => ?_, fun e => ?_, fun e => ?_, fun e => ?_⟩ ⟨some g, hg2, fun j hj => .inl ⟨rfl, by injection hj with hj; exact hj.symm⟩, fun e => by cases e⟩ ⟨x, rfl, hx⟩
   ·exact WG (hV.own (by simpa [updd] using e)) hg2 hgb
   ·exact (hg2.block _ (by omega) (by simp; omega)).trans (hV.box (by simpa [updd] using e))
   ·have := hV.last (by simpa [updd] using e); simpa [updd] using this
   have := hV.mid (by simpa [updd] using e); simpa [updd] using this
  ·intro o ho L a v hL hV hb hd hdL K Q hK
   obtain rfl := Option.some.inj ho
   have hs1 := hV.size
   obtain ⟨x, ex, hx⟩ := hd 3 (by kernel_rfl) 36 rfl
   have ex := qo ex
   go_simp
   exact hK _ _ (hV.keep ((Below.refl _ _).alloc (Nat.le_refl _) _) (by omega) (by omega) (by decide) (by decide)) (Yy ((Below.refl _ _).alloc (Nat.le_refl _) _) (by decide)) ⟨_, x, rfl, hs1, heap_alloc_new v _, hx⟩
  ·intro o ho L a v hL hV hb hd hdL K Q hK
   obtain rfl := Option.some.inj ho
   have hs1 := hV.size
   have e0 := qo (hd 1 (by kernel_rfl) 34 rfl)
   have hl1 := hdL 1 (by kernel_rfl)
   obtain ⟨b5, x, e5, hb5, hh5, hx⟩ := hd 4 (by kernel_rfl) 37 rfl
   have e5 := qo e5
   have ho5 := hV.own hL
   have h70 : L 7 = false := by
    cases h7 : L 7
    ·rfl
    have h8 := hV.last h7; rw [hL] at h8; cases h8
   have hbo := hV.box h70
   refine qa0 _ _ rfl (w.heap.size + 1) A c is x (by first | exact e0 | (simp [go_sem]; exact e0)) ho5 b5 (by first | exact e5 | (simp [go_sem]; exact e5)) hh5 (by omega) (by omega) ?_
   intro A2 c2 v2 ho2 hg2 hbk2
   refine hK _ _ ⟨Ya hV.grown hg2 (Nat.le_succ _) (Yo ho5), Nat.le_trans hs1 hg2.size, (hg2.block _ (by omega) (fun e => by have := Yo ho5 _ e.symm; omega)).trans hV.zero, hV.rdr.frame hg2 (Yb ho5 hgb), fun e => (hV.rdr0 (by simpa [updd] using e)).frame hg2 (Yb ho5 hgb), (fun e => by simp [updd] at e), fun _ => (hg2.block _ (by omega) (fun e => HF.out.ne _ e.symm rfl)).trans hbo, fun _ => by simp [updd], fun _ => by simp [updd, hl1]⟩ ⟨_, hg2, fun j hj => .inr (.inl ⟨rfl, hj⟩), fun _ => hbo⟩ ⟨x, A2, c2, rfl, ho2, hx, hbk2.imp id (fun e j hj => by rw [e] at hj; injection hj with hj; omega)⟩
  ·intro o ho L a v hL hV hb hd hdL K Q hK
   obtain rfl := Option.some.inj ho
   have hs1 := hV.size
   have e0 : a.tmps[5]?.getD undef = .pointer (some ⟨bx, 0, none⟩) := by rw [hb 5 (by decide +kernel)]; simp
   go_simp
   exact hK _ _ (hV.keep (Below.refl _ _) (by omega) (by omega) (by decide) (by decide)) (Yy (Below.refl _ _) (by decide)) rfl
  intro o ho L a v hL hV hb hd hdL K Q hK
  obtain rfl := Option.some.inj ho
  have hs1 := hV.size
  have hl5 := hdL 5 (by kernel_rfl)
  obtain ⟨x, A2, c2, e5, ho2, hx, hor⟩ := hd 5 (by kernel_rfl) 38 rfl
  have e5 := qo e5
  have e6 := qo (hd 6 (by kernel_rfl) 39 rfl)
  have hbo := hV.box hL
  obtain ⟨⟨f0, f1, f2, f3⟩, f4, f5, f6, f7⟩ := Yv hbo
  have hne2 : ∀ j, Value.ownBlock (.slice A2 (is.length + 1) c2) = some j -> j ≠ bx := fun j hj => by
   rcases hor with e | e
   ·exact HF.out.ne j (by rw [<- e]; exact hj)
   have := e j hj; omega
  go_simp
  refine hK undef _ ⟨YI hV.grown (p := ⟨bx, 3, none⟩) (by show w.heap.size <= bx; omega) _, by simpa [World.setCell] using hs1, (Below.heap_setCell _ _ _ _ (by show _ ≠ _; simp; omega)).trans hV.zero, hV.rdr.frame (vD (xb _ _) 3 _) (fun k hk => by injection hk with hk; omega), fun e => (hV.rdr0 (by simpa [updd] using e)).frame (vD (xb _ _) 3 _) (fun k hk => by injection hk with hk; omega), (fun e => by simp [updd, hl5] at e), (fun e => by simp [updd] at e), (fun _ => by simp [updd, hl5]), fun _ => by simp [updd, hV.mid hl5]⟩ ⟨some bx, vD (xb _ _) 3 _, fun j hj => .inr (.inr ⟨rfl, by injection hj with hj; exact hj.symm⟩), fun e => by cases e⟩ ⟨x, A2, c2, qP hbo, ho2.kept (vD (xb _ bx) 3 _) ?_, hx, hne2, by simp [World.setCell]; omega⟩
  cases hv : Value.ownBlock (.slice A2 (is ++ [x]).length c2) with
  | none => exact .inl rfl
  | some k => exact .inr fun e => by injection e with e; exact hne2 k (by simpa using hv) e
 case hfinA =>
  intro vs w5 L hL hV hF
  simp only [qF, hdst, List.getElem?_cons_succ, List.getElem?_cons_zero, Option.bind, List.drop_succ_cons, List.drop_zero, Act.put]
  obtain ⟨x, A2, c2, hb5, ho5, hx5, hne5, hlt5⟩ := hF 7 (by omega)
  have HF5 : Hid (FBx w5 (w.heap.size + 1) bx n t hh A2 c2 (is ++ [x])) := ⟨by rw [List.length_append]; exact hb5, ho5, by rw [List.length_append]; exact hne5, hlt5, HF.out.ge⟩
  have HR5 := qb hV.rdr
  have HG5 := qb hV.grown
  have HZ5 := qb hV.zero
  have HIB5 : Hid (∀ y ∈ is ++ [x], y.length <= 100) := fun y hy => by
   rcases List.mem_append.1 hy with h1 | h1
   ·exact HIB.out y h1
   simp at h1; subst h1; exact hx5
  clear hF hV hL hb5 ho5 hx5 hne5 hlt5
  go_simp
  go_wp2
  go_roundw
  case rel => exact ⟨k, A2, c2, is ++ [x], qk + 10, by omega, by go_num, by simp; omega, HIB5.out, HF5.out, HR5.out, by omega, HG5.out, HZ5.out⟩
  case measure => first | (simp [intOf]; done) | (simp [intOf]; omega)
end Go.Proofs.YtmboieajfdkllaaGreat
