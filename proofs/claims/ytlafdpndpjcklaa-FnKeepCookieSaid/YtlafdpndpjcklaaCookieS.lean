/- Cookies and slices of cookies: conversion, size, equality, marks: walks. -/
import Derived.Test.YtlafdpndpjcklaaMark
import Derived.StillTailTactics
import Derived.Deep.RegionHeld3
namespace Go.Proofs.Ytlafdpndpjcklaa
open Go.RowKit Go.ChangeShapes Go.WideShapes Go.Deep

/-- a cookie: its name, its text, until when it is kept -/
abbrev Ck := Tx × Tx × Int
abbrev cval (c : Ck) : Value := .agg #[sv c.1, sv c.2.1, .int .i64 c.2.2]
def ccells : List Ck → List Value
  | [] => []
  | p :: t => sv p.1 :: sv p.2.1 :: .int .i64 p.2.2 :: ccells t
theorem ccells_length : ∀ ps : List Ck, (ccells ps).length = ps.length * 3
  | [] => rfl
  | p :: t => by simp [ccells, ccells_length t]; omega
theorem ccells_append : ∀ ps qs : List Ck, ccells (ps ++ qs) = ccells ps ++ ccells qs
  | [], _ => rfl
  | p :: t, qs => by simp [ccells, ccells_append t qs]
theorem ccells_at : ∀ (ps : List Ck) (k : Nat) (h : k < ps.length), (ccells ps)[k * 3]? = some (sv ps[k].1) ∧ (ccells ps)[k * 3 + 1]? = some (sv ps[k].2.1) ∧ (ccells ps)[k * 3 + 2]? = some (.int .i64 ps[k].2.2)
  | p :: t, 0, _ => ⟨rfl, rfl, rfl⟩
  | p :: t, k + 1, h => by
    have := ccells_at t k (by simpa using h)
    rw [show (k + 1) * 3 = k * 3 + 1 + 1 + 1 by omega]
    simpa [ccells] using this
theorem ccells_ne {ps : List Ck} {k : Nat} (h : k < ps.length) : ccells ps ≠ [] := by
  cases ps with
  | nil => simp at h
  | cons p t => simp [ccells]
theorem Rd.cookie {w : World} {B : Nat} {A : Option Addr} {ps : List Ck} (h : Rd w B A (ccells ps)) {k : Nat} (hk : k < ps.length) :
    ∃ b o, A = some ⟨b, o, none⟩ ∧ b < B ∧ w.cell? ⟨b, o + k * 3, none⟩ = some (sv ps[k].1) ∧ w.cell? ⟨b, o + k * 3 + 1, none⟩ = some (sv ps[k].2.1) ∧ w.cell? ⟨b, o + k * 3 + 2, none⟩ = some (.int .i64 ps[k].2.2) := by
  obtain ⟨b, o, e, hb, hc⟩ := h (ccells_ne hk)
  obtain ⟨h0, h1, h2⟩ := ccells_at ps k hk
  exact ⟨b, o, e, hb, hc _ _ h0, hc _ _ h1, hc _ _ h2⟩
theorem ccells_split {ps : List Ck} {k : Nat} (h : k < ps.length) : ccells (ps.take (k + 1)) = ccells (ps.take k) ++ [sv ps[k].1, sv ps[k].2.1, .int .i64 ps[k].2.2] := by
  rw [take_snoc ps k h, ccells_append]; rfl
theorem ccells_one : ∀ (ps : List Ck), ∀ u ∈ ccells ps, u.oneCell' = true
  | [], u, h => by cases h
  | p :: t, u, h => by
    simp only [ccells, List.mem_cons] at h
    rcases h with rfl | rfl | rfl | h
    · rfl
    · rfl
    · rfl
    · exact ccells_one t u h

/-- the bytes of cookies, together -/
def csize : List Ck → Nat
  | [] => 0
  | p :: t => p.1.length + p.2.1.length + csize t
theorem csize_drop : ∀ (ps : List Ck) (k : Nat) (h : k < ps.length), csize (ps.drop k) = ps[k].1.length + ps[k].2.1.length + csize (ps.drop (k + 1))
  | p :: t, 0, _ => by simp [csize]
  | p :: t, k + 1, h => by simpa using csize_drop t k (by simpa using h)
theorem csize_drop_le : ∀ (ps : List Ck) (k : Nat), csize (ps.drop k) ≤ csize ps
  | [], k => by simp
  | p :: t, 0 => by simp
  | p :: t, k + 1 => by have := csize_drop_le t k; simp [csize]; omega

/-- three cells of a row of the call's own are written -/
theorem three_more {n k : Nat} {P R : List Value} (hl : (P ++ R).length = n * 3) (hP : P.length = k * 3) (hk : k < n) : ∃ r0 r1 r2 R', R = r0 :: r1 :: r2 :: R' := by
  rw [List.length_append] at hl
  match R, hl with
  | [], hl => simp at hl; omega
  | [_], hl => simp at hl; omega
  | [_, _], hl => simp at hl; omega
  | r0 :: r1 :: r2 :: R', _ => exact ⟨r0, r1, r2, R', rfl⟩
theorem three_set {α : Type} {P R : List α} {r0 r1 r2 u0 u1 u2 : α} {k : Nat} (hP : P.length = k * 3) :
    (((P ++ r0 :: r1 :: r2 :: R).set (k * 3) u0).set (k * 3 + 1) u1).set (k * 3 + 2) u2 = P ++ u0 :: u1 :: u2 :: R := by
  rw [List.set_append_right _ _ (by omega), List.set_append_right _ _ (by omega), List.set_append_right _ _ (by omega)]
  have a0 : k * 3 - P.length = 0 := by omega
  have a1 : k * 3 + 1 - P.length = 1 := by omega
  have a2 : k * 3 + 2 - P.length = 2 := by omega
  rw [a0, a1, a2]
  rfl

theorem Try.info_Cookie : (Try.prog.info? 25).map (fun i => (i.zero, i.size, i.bytes)) = some (some (.agg #[.string ⟨#[]⟩, .string ⟨#[]⟩, .int .i64 0]), 3, 40) := by kernel_rfl

/-- cookies in a row of the call's own -/
def OwnC (w : World) (base : Nat) (A : Option Addr) (c : Nat) (ps : List Ck) : Prop := w.ownsRow base 25 3 (.slice A ps.length c) ps.length (ccells ps)
def NewC (w : World) (ps : List Ck) (e : Ending) (w' : World) : Prop := ∃ A c, e = .returned (.slice A ps.length c) ∧ OwnC w' w.heap.size A c ps ∧ Below w.heap.size w w'
def NewCB (w : World) (r : List Ck × Bool) (e : Ending) (w' : World) : Prop := ∃ A c, e = .returned (.tuple #[.slice A r.1.length c, .bool r.2]) ∧ OwnC w' w.heap.size A c r.1 ∧ Below w.heap.size w w'
theorem ownC_nil (w : World) (base : Nat) : OwnC w base none 0 [] := World.ownsRow_nil w base _ 3
theorem ownC_empty (w : World) (base : Nat) (h : base ≤ w.heap.size) : OwnC (w.alloc (.cells #[] 25)) base (some ⟨w.heap.size, 0, none⟩) 0 [] := World.ownsRow_lit w #[] 0 h (by simp [maxLen]) rfl
theorem ownC_keep {w w' : World} {base c : Nat} {A : Option Addr} {ps : List Ck} (h : OwnC w base A c ps) (hb : Below w.heap.size w w') : OwnC w' base A c ps := own_below h hb
theorem ownC_rd {w : World} {base c : Nat} {A : Option Addr} {ps : List Ck} (h : OwnC w base A c ps) : Rd w w.heap.size A (ccells ps) := Rd.of_own h
theorem ownC_row {w : World} {base c : Nat} {A : Option Addr} {ps : List Ck} (h : OwnC w base A c ps) : ∀ g, Value.ownBlock (.slice A ps.length c) = some g → base ≤ g := fun g hg => (h.lt g hg).1

theorem app_cookie {ops : Array Oper} {rest : List Oper} {o : Oper} {a : Act} {Q : Exit → Act → World → Prop} {W : World} (hgd : o.guard = none) (s x : Operand)
    (ho : o.op = .call { callee := .builtin .append, args := #[s, x], argTypes := #[23, 23] }) (base : Nat) (A : Option Addr) (c n : Nat) (ps : List Ck) (p : Ck)
    (hs : a.eval s = .slice A n c) (hn : n = ps.length) (hown : OwnC W base A c ps) (g : Nat) (hx : a.eval x = .slice (some ⟨g, 0, none⟩) 1 1) (hg : g = W.heap.size) (hlen : ps.length ≤ 4294967296) (hbase : base ≤ W.heap.size)
    (h : ∀ A' c' w', OwnC w' base A' c' (ps ++ [p]) → W.grownBy w' (Value.ownBlock (.slice A ps.length c)) → wpList Try.prog ops Q rest (a.put o.dst (.slice A' (ps.length + 1) c')) w') :
    wpList Try.prog ops Q (o :: rest) a (W.alloc (.cells #[sv p.1, sv p.2.1, .int .i64 p.2.2] 25)) := by
  subst hn
  subst hg
  obtain ⟨i0, hi, hz0, hz1, hz2⟩ := info_parts Try.info_Cookie
  refine wpList_append_own _ hgd s x _ ho base _ i0 _ 3 40 Try.underlying23 hi hz0 hz1 hz2 rfl (by decide) _ _ _ hs (World.ownsRow.alloc hown _) ⟨W.heap.size, 0, none⟩ 1 1 [sv p.1, sv p.2.1, .int .i64 p.2.2] hx rfl ?_ ?_ (by unfold maxLen; omega) (by omega) (by simp; omega) ?_
  · intro j u hj
    have h1 : (W.alloc (.cells #[sv p.1, sv p.2.1, .int .i64 p.2.2] 25)).cell? ⟨W.heap.size, j, none⟩ = #[sv p.1, sv p.2.1, .int .i64 p.2.2][j]? := World.cell?_alloc_at _ _ _ _ rfl
    rw [Addr.add_lit, Nat.zero_add, h1]
    simpa using hj
  · intro u hu
    simp at hu
    rcases hu with rfl | rfl | rfl <;> rfl
  · intro v' w' ho' hg' _
    obtain ⟨A', c', rfl, _, _⟩ := own_shape ho'
    refine h A' c' w' ?_ (grown_trans (World.grownBy_alloc W _ _) hg')
    unfold OwnC
    rw [List.length_append, ccells_append]
    exact ho'
theorem app_cookies {ops : Array Oper} {rest : List Oper} {o : Oper} {a : Act} {Q : Exit → Act → World → Prop} {W : World} (hgd : o.guard = none) (s x : Operand)
    (ho : o.op = .call { callee := .builtin .append, args := #[s, x], argTypes := #[23, 23] }) (base : Nat) (A : Option Addr) (c n : Nat) (ps qs : List Ck) (A' : Option Addr) (m c' B : Nat)
    (hs : a.eval s = .slice A n c) (hn : n = ps.length) (hown : OwnC W base A c ps) (hx : a.eval x = .slice A' m c') (hm : m = qs.length) (hA' : A' = none → c' = 0) (hrd : Rd W B A' (ccells qs)) (hlen : ps.length + qs.length ≤ 4294967296) (hbase : base ≤ W.heap.size)
    (h : ∀ A2 c2 w', OwnC w' base A2 c2 (ps ++ qs) → W.grownBy w' (Value.ownBlock (.slice A ps.length c)) → wpList Try.prog ops Q rest (a.put o.dst (.slice A2 (ps.length + qs.length) c2)) w') :
    wpList Try.prog ops Q (o :: rest) a W := by
  subst hn
  subst hm
  obtain ⟨i0, hi, hz0, hz1, hz2⟩ := info_parts Try.info_Cookie
  refine app_rows hgd s x ho Try.underlying23 hi hz0 hz1 hz2 rfl (by decide) _ hs hown A' qs.length c' (ccells qs) hx hA' (ccells_length _) hrd (ccells_one _) (by unfold maxLen; omega) (by omega) hbase ?_
  intro v' w' ho' hg'
  obtain ⟨A2, c2, rfl, _, _⟩ := own_shape ho'
  refine h A2 c2 w' ?_ hg'
  unfold OwnC
  rw [List.length_append, ccells_append]
  exact ho'

/-- texts of a length that the model can bear -/
def FitC (ps : List Ck) : Prop := ∀ p ∈ ps, p.1.length ≤ maxLen ∧ p.2.1.length ≤ maxLen








end Go.Proofs.Ytlafdpndpjcklaa
