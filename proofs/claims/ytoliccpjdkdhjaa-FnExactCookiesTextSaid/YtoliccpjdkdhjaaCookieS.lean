/- Cookies and slices of cookies: conversion, size, equality, marks: walks. -/
import Derived.Test.YtoliccpjdkdhjaaMark
import Derived.StillTailTactics
import Derived.Deep.RegionHeld3
namespace Go.Proofs.Ytoliccpjdkdhjaa
open Go.RowKit Go.ChangeShapes Go.WideShapes Go.Deep

/-- a cookie: its name, its text, until when it is kept -/
abbrev Ck := Tx × Tx × Int
abbrev cval (c : Ck) : Value := .agg #[sv c.1, sv c.2.1, .int .i64 c.2.2]
def ccells : List Ck → List Value
  | [] => []
  | p :: t => sv p.1 :: sv p.2.1 :: .int .i64 p.2.2 :: ccells t
theorem ccells_length : ∀ ps : List Ck, (ccells ps).length = ps.length * 3
  | [] => rfl
  | p :: t => by simp [ccells, ccells_length t]; omega
theorem ccells_append : ∀ ps qs : List Ck, ccells (ps ++ qs) = ccells ps ++ ccells qs
  | [], _ => rfl
  | p :: t, qs => by simp [ccells, ccells_append t qs]
theorem ccells_at : ∀ (ps : List Ck) (k : Nat) (h : k < ps.length), (ccells ps)[k * 3]? = some (sv ps[k].1) ∧ (ccells ps)[k * 3 + 1]? = some (sv ps[k].2.1) ∧ (ccells ps)[k * 3 + 2]? = some (.int .i64 ps[k].2.2)
  | p :: t, 0, _ => ⟨rfl, rfl, rfl⟩
  | p :: t, k + 1, h => by
    have := ccells_at t k (by simpa using h)
    rw [show (k + 1) * 3 = k * 3 + 1 + 1 + 1 by omega]
    simpa [ccells] using this
theorem ccells_ne {ps : List Ck} {k : Nat} (h : k < ps.length) : ccells ps ≠ [] := by
  cases ps with
  | nil => simp at h
  | cons p t => simp [ccells]
theorem Rd.cookie {w : World} {B : Nat} {A : Option Addr} {ps : List Ck} (h : Rd w B A (ccells ps)) {k : Nat} (hk : k < ps.length) :
    ∃ b o, A = some ⟨b, o, none⟩ ∧ b < B ∧ w.cell? ⟨b, o + k * 3, none⟩ = some (sv ps[k].1) ∧ w.cell? ⟨b, o + k * 3 + 1, none⟩ = some (sv ps[k].2.1) ∧ w.cell? ⟨b, o + k * 3 + 2, none⟩ = some (.int .i64 ps[k].2.2) := by
  obtain ⟨b, o, e, hb, hc⟩ := h (ccells_ne hk)
  obtain ⟨h0, h1, h2⟩ := ccells_at ps k hk
  exact ⟨b, o, e, hb, hc _ _ h0, hc _ _ h1, hc _ _ h2⟩
theorem ccells_split {ps : List Ck} {k : Nat} (h : k < ps.length) : ccells (ps.take (k + 1)) = ccells (ps.take k) ++ [sv ps[k].1, sv ps[k].2.1, .int .i64 ps[k].2.2] := by
  rw [take_snoc ps k h, ccells_append]; rfl
theorem ccells_one : ∀ (ps : List Ck), ∀ u ∈ ccells ps, u.oneCell' = true
  | [], u, h => by cases h
  | p :: t, u, h => by
    simp only [ccells, List.mem_cons] at h
    rcases h with rfl | rfl | rfl | h
    · rfl
    · rfl
    · rfl
    · exact ccells_one t u h

/-- the bytes of cookies, together -/
def csize : List Ck → Nat
  | [] => 0
  | p :: t => p.1.length + p.2.1.length + csize t
theorem csize_drop : ∀ (ps : List Ck) (k : Nat) (h : k < ps.length), csize (ps.drop k) = ps[k].1.length + ps[k].2.1.length + csize (ps.drop (k + 1))
  | p :: t, 0, _ => by simp [csize]
  | p :: t, k + 1, h => by simpa using csize_drop t k (by simpa using h)
theorem csize_drop_le : ∀ (ps : List Ck) (k : Nat), csize (ps.drop k) ≤ csize ps
  | [], k => by simp
  | p :: t, 0 => by simp
  | p :: t, k + 1 => by have := csize_drop_le t k; simp [csize]; omega

/-- three cells of a row of the call's own are written -/
theorem three_more {n k : Nat} {P R : List Value} (hl : (P ++ R).length = n * 3) (hP : P.length = k * 3) (hk : k < n) : ∃ r0 r1 r2 R', R = r0 :: r1 :: r2 :: R' := by
  rw [List.length_append] at hl
  match R, hl with
  | [], hl => simp at hl; omega
  | [_], hl => simp at hl; omega
  | [_, _], hl => simp at hl; omega
  | r0 :: r1 :: r2 :: R', _ => exact ⟨r0, r1, r2, R', rfl⟩
theorem three_set {α : Type} {P R : List α} {r0 r1 r2 u0 u1 u2 : α} {k : Nat} (hP : P.length = k * 3) :
    (((P ++ r0 :: r1 :: r2 :: R).set (k * 3) u0).set (k * 3 + 1) u1).set (k * 3 + 2) u2 = P ++ u0 :: u1 :: u2 :: R := by
  rw [List.set_append_right _ _ (by omega), List.set_append_right _ _ (by omega), List.set_append_right _ _ (by omega)]
  have a0 : k * 3 - P.length = 0 := by omega
  have a1 : k * 3 + 1 - P.length = 1 := by omega
  have a2 : k * 3 + 2 - P.length = 2 := by omega
  rw [a0, a1, a2]
  rfl

theorem Try.info_Cookie : (Try.prog.info? 28).map (fun i => (i.zero, i.size, i.bytes)) = some (some (.agg #[.string ⟨#[]⟩, .string ⟨#[]⟩, .int .i64 0]), 3, 40) := by kernel_rfl

/-- cookies in a row of the call's own -/
def OwnC (w : World) (base : Nat) (A : Option Addr) (c : Nat) (ps : List Ck) : Prop := w.ownsRow base 28 3 (.slice A ps.length c) ps.length (ccells ps)
def NewC (w : World) (ps : List Ck) (e : Ending) (w' : World) : Prop := ∃ A c, e = .returned (.slice A ps.length c) ∧ OwnC w' w.heap.size A c ps ∧ Below w.heap.size w w'
def NewCB (w : World) (r : List Ck × Bool) (e : Ending) (w' : World) : Prop := ∃ A c, e = .returned (.tuple #[.slice A r.1.length c, .bool r.2]) ∧ OwnC w' w.heap.size A c r.1 ∧ Below w.heap.size w w'
theorem ownC_nil (w : World) (base : Nat) : OwnC w base none 0 [] := World.ownsRow_nil w base _ 3
theorem ownC_empty (w : World) (base : Nat) (h : base ≤ w.heap.size) : OwnC (w.alloc (.cells #[] 28)) base (some ⟨w.heap.size, 0, none⟩) 0 [] := World.ownsRow_lit w #[] 0 h (by simp [maxLen]) rfl
theorem ownC_keep {w w' : World} {base c : Nat} {A : Option Addr} {ps : List Ck} (h : OwnC w base A c ps) (hb : Below w.heap.size w w') : OwnC w' base A c ps := own_below h hb
theorem ownC_rd {w : World} {base c : Nat} {A : Option Addr} {ps : List Ck} (h : OwnC w base A c ps) : Rd w w.heap.size A (ccells ps) := Rd.of_own h
theorem ownC_row {w : World} {base c : Nat} {A : Option Addr} {ps : List Ck} (h : OwnC w base A c ps) : ∀ g, Value.ownBlock (.slice A ps.length c) = some g → base ≤ g := fun g hg => (h.lt g hg).1

theorem app_cookie {ops : Array Oper} {rest : List Oper} {o : Oper} {a : Act} {Q : Exit → Act → World → Prop} {W : World} (hgd : o.guard = none) (s x : Operand)
    (ho : o.op = .call { callee := .builtin .append, args := #[s, x], argTypes := #[23, 23] }) (base : Nat) (A : Option Addr) (c n : Nat) (ps : List Ck) (p : Ck)
    (hs : a.eval s = .slice A n c) (hn : n = ps.length) (hown : OwnC W base A c ps) (g : Nat) (hx : a.eval x = .slice (some ⟨g, 0, none⟩) 1 1) (hg : g = W.heap.size) (hlen : ps.length ≤ 4294967296) (hbase : base ≤ W.heap.size)
    (h : ∀ A' c' w', OwnC w' base A' c' (ps ++ [p]) → W.grownBy w' (Value.ownBlock (.slice A ps.length c)) → wpList Try.prog ops Q rest (a.put o.dst (.slice A' (ps.length + 1) c')) w') :
    wpList Try.prog ops Q (o :: rest) a (W.alloc (.cells #[sv p.1, sv p.2.1, .int .i64 p.2.2] 28)) := by
  subst hn
  subst hg
  obtain ⟨i0, hi, hz0, hz1, hz2⟩ := info_parts Try.info_Cookie
  refine wpList_append_own _ hgd s x _ ho base _ i0 _ 3 40 Try.underlying23 hi hz0 hz1 hz2 rfl (by decide) _ _ _ hs (World.ownsRow.alloc hown _) ⟨W.heap.size, 0, none⟩ 1 1 [sv p.1, sv p.2.1, .int .i64 p.2.2] hx rfl ?_ ?_ (by unfold maxLen; omega) (by omega) (by simp; omega) ?_
  · intro j u hj
    have h1 : (W.alloc (.cells #[sv p.1, sv p.2.1, .int .i64 p.2.2] 28)).cell? ⟨W.heap.size, j, none⟩ = #[sv p.1, sv p.2.1, .int .i64 p.2.2][j]? := World.cell?_alloc_at _ _ _ _ rfl
    rw [Addr.add_lit, Nat.zero_add, h1]
    simpa using hj
  · intro u hu
    simp at hu
    rcases hu with rfl | rfl | rfl <;> rfl
  · intro v' w' ho' hg' _
    obtain ⟨A', c', rfl, _, _⟩ := own_shape ho'
    refine h A' c' w' ?_ (grown_trans (World.grownBy_alloc W _ _) hg')
    unfold OwnC
    rw [List.length_append, ccells_append]
    exact ho'
theorem app_cookies {ops : Array Oper} {rest : List Oper} {o : Oper} {a : Act} {Q : Exit → Act → World → Prop} {W : World} (hgd : o.guard = none) (s x : Operand)
    (ho : o.op = .call { callee := .builtin .append, args := #[s, x], argTypes := #[23, 23] }) (base : Nat) (A : Option Addr) (c n : Nat) (ps qs : List Ck) (A' : Option Addr) (m c' B : Nat)
    (hs : a.eval s = .slice A n c) (hn : n = ps.length) (hown : OwnC W base A c ps) (hx : a.eval x = .slice A' m c') (hm : m = qs.length) (hA' : A' = none → c' = 0) (hrd : Rd W B A' (ccells qs)) (hlen : ps.length + qs.length ≤ 4294967296) (hbase : base ≤ W.heap.size)
    (h : ∀ A2 c2 w', OwnC w' base A2 c2 (ps ++ qs) → W.grownBy w' (Value.ownBlock (.slice A ps.length c)) → wpList Try.prog ops Q rest (a.put o.dst (.slice A2 (ps.length + qs.length) c2)) w') :
    wpList Try.prog ops Q (o :: rest) a W := by
  subst hn
  subst hm
  obtain ⟨i0, hi, hz0, hz1, hz2⟩ := info_parts Try.info_Cookie
  refine app_rows hgd s x ho Try.underlying23 hi hz0 hz1 hz2 rfl (by decide) _ hs hown A' qs.length c' (ccells qs) hx hA' (ccells_length _) hrd (ccells_one _) (by unfold maxLen; omega) (by omega) hbase ?_
  intro v' w' ho' hg'
  obtain ⟨A2, c2, rfl, _, _⟩ := own_shape ho'
  refine h A2 c2 w' ?_ hg'
  unfold OwnC
  rw [List.length_append, ccells_append]
  exact ho'

/-- texts of a length that the model can bear -/
def FitC (ps : List Ck) : Prop := ∀ p ∈ ps, p.1.length ≤ maxLen ∧ p.2.1.length ≤ maxLen

set_option maxHeartbeats 400000 in
theorem laws_szCookie (a b : Tx) (u left : Int) (ha : a.length ≤ maxLen) (hb : b.length ≤ maxLen) (h0 : 0 ≤ left) (h1 : left ≤ 1048576) (w : World) :
    Calls Try.prog 19 #[.agg #[.string ⟨a.toArray⟩, .string ⟨b.toArray⟩, .int .i64 u], .int .i64 left] w fun e w' =>
      e = .returned (.int .i64 (if left < a.length + b.length then -1 else left - a.length - b.length)) ∧ Below w.heap.size w w' := by
  unfold maxLen at ha hb
  go_enter Try.func19, Try.ntmps19
  go_wp2
  all_goals (go_ret; exact ⟨rfl, by go_grown⟩)
theorem laws_szCookie_over (a b : Tx) (u left : Int) (ha : a.length ≤ maxLen) (hb : b.length ≤ maxLen) (h0 : 0 ≤ left) (h1 : left ≤ 1048576) (h2 : left < a.length + b.length) (w : World) :
    Calls Try.prog 19 #[.agg #[.string ⟨a.toArray⟩, .string ⟨b.toArray⟩, .int .i64 u], .int .i64 left] w fun e w' => e = .returned (.int .i64 (-1)) ∧ Below w.heap.size w w' := by
  have h := laws_szCookie a b u left ha hb h0 h1 w
  rwa [if_pos h2] at h
theorem laws_szCookie_fits (a b : Tx) (u left : Int) (ha : a.length ≤ maxLen) (hb : b.length ≤ maxLen) (h0 : 0 ≤ left) (h1 : left ≤ 1048576) (h2 : a.length + b.length ≤ left) (w : World) :
    Calls Try.prog 19 #[.agg #[.string ⟨a.toArray⟩, .string ⟨b.toArray⟩, .int .i64 u], .int .i64 left] w fun e w' => e = .returned (.int .i64 (left - a.length - b.length)) ∧ Below w.heap.size w w' := by
  have h := laws_szCookie a b u left ha hb h0 h1 w
  rwa [if_neg (by omega)] at h

set_option maxHeartbeats 400000 in
theorem laws_toCookie (a b : Tx) (u : Int) (w : World) :
    Calls Try.prog 20 #[.agg #[.string ⟨a.toArray⟩, .string ⟨b.toArray⟩, .int .i64 u]] w fun e w' =>
      e = .returned (.agg #[.string ⟨a.toArray⟩, .string ⟨b.toArray⟩, .int .i64 u]) ∧ Below w.heap.size w w' := by
  go_enter Try.func20, Try.ntmps20
  go_wp2
  go_returns
  exact ⟨rfl, by go_grown⟩

set_option maxHeartbeats 1000000 in
theorem laws_szCookieS_fits (ps : List Ck) (A : Option Addr) (c : Nat) (left : Int) (w : World) (hr : Rd w w.heap.size A (ccells ps)) (hl : FitC ps)
    (h0 : 0 ≤ left) (h1 : left ≤ 1048576) (hn : ps.length ≤ maxLen) (hfit : (ps.length : Int) + csize ps ≤ left) :
    Calls Try.prog 12 #[.slice A ps.length c, .int .i64 left] w fun e w' => e = .returned (.int .i64 (left - ps.length - csize ps)) ∧ Below w.heap.size w w' := by
  unfold maxLen at hn
  go_enter Try.func12, Try.ntmps12
  go_wp2
  go_loopw [1, 5] (fun l i wr => ∃ (k : Nat) (lf : Int), k ≤ ps.length ∧ i = .int .i64 k ∧ l = .int .i64 lf ∧ 0 ≤ lf ∧ lf ≤ 1048576 ∧ lf - csize (ps.drop k) = left - ps.length - csize ps ∧ Below w.heap.size w wr) (fun _ i _ => ps.length - (intOf i).toNat)
  case atStart => exact ⟨0, _, Nat.zero_le _, rfl, rfl, by omega, by omega, by simp, Below.refl _ _⟩
  case round =>
    obtain ⟨k, lf, hk, rfl, rfl, hlf0, hlf1, hrest, hb⟩ := hrel
    have H := Lib.hid hrest
    have HB := Lib.hid hb
    by_cases hlt : k < ps.length
    · obtain ⟨b, o, rfl, hab, hc0, hc1, hc2⟩ := (hr.below hb).cookie hlt
      clear hrest hb
      have hps := csize_drop ps k hlt
      obtain ⟨hla, hlb⟩ := hl _ (List.getElem_mem hlt)
      have HS := Lib.hid (fun w => laws_szCookie_fits ps[k].1 ps[k].2.1 ps[k].2.2 lf hla hlb hlf0 hlf1 (by have := H.out; omega) w)
      have hnn : 0 ≤ lf - (ps[k].1.length : Int) - (ps[k].2.1.length : Int) := by have := H.out; omega
      have HP := Lib.hid hps
      clear hps hla hlb
      go_wp2_with fail
      refine (HS.out _).mono ?_
      rintro e w1 ⟨rfl, hb1⟩
      have HB1 := Lib.hid hb1
      clear hb1
      go_wp2
      go_roundw
      case rel =>
        have := HP.out; have := H.out
        exact ⟨k + 1, _, by omega, by go_num, rfl, by omega, by omega, by omega, HB.out.trans (HB1.out.mono HB.out.size)⟩
      case measure => simp [intOf]; omega
    · go_wp2
      go_ret
      refine ⟨ret_int ?_, hb⟩
      have e : ps.drop k = [] := drop_nil ps k (by omega)
      rw [e] at hrest
      simp [csize] at hrest
      omega

set_option maxHeartbeats 1000000 in
theorem laws_szCookieS_over (ps : List Ck) (A : Option Addr) (c : Nat) (left : Int) (w : World) (hr : Rd w w.heap.size A (ccells ps)) (hl : FitC ps)
    (h0 : 0 ≤ left) (h1 : left ≤ 1048576) (hn : ps.length ≤ maxLen) (hfit : left < (ps.length : Int) + csize ps) :
    Calls Try.prog 12 #[.slice A ps.length c, .int .i64 left] w fun e w' => e = .returned (.int .i64 (-1)) ∧ Below w.heap.size w w' := by
  unfold maxLen at hn
  by_cases hz : left < ps.length
  · go_enter Try.func12, Try.ntmps12
    go_wp2
    go_ret
    exact ⟨rfl, Below.refl _ _⟩
  go_enter Try.func12, Try.ntmps12
  go_wp2
  go_loopw [1, 5] (fun l i wr => ∃ (k : Nat) (lf : Int), k ≤ ps.length ∧ i = .int .i64 k ∧ l = .int .i64 lf ∧ 0 ≤ lf ∧ lf ≤ 1048576 ∧ lf < csize (ps.drop k) ∧ Below w.heap.size w wr) (fun _ i _ => ps.length - (intOf i).toNat)
  case atStart => exact ⟨0, _, Nat.zero_le _, rfl, rfl, by omega, by omega, by simp; omega, Below.refl _ _⟩
  case round =>
    obtain ⟨k, lf, hk, rfl, rfl, hlf0, hlf1, hrest, hb⟩ := hrel
    have HB := Lib.hid hb
    by_cases hlt : k < ps.length
    · obtain ⟨b, o, rfl, hab, hc0, hc1, hc2⟩ := (hr.below hb).cookie hlt
      clear hb
      have HP := Lib.hid (csize_drop ps k hlt)
      obtain ⟨hla, hlb⟩ := hl _ (List.getElem_mem hlt)
      by_cases ho : lf < (ps[k].1.length : Int) + ps[k].2.1.length
      · have HS := Lib.hid (fun w => laws_szCookie_over ps[k].1 ps[k].2.1 ps[k].2.2 lf hla hlb hlf0 hlf1 ho w)
        clear hla hlb
        go_wp2_with fail
        refine (HS.out _).mono ?_
        rintro e w1 ⟨rfl, hb1⟩
        have HB1 := Lib.hid hb1
        clear hb1
        go_wp2
        go_ret
        exact ⟨rfl, HB.out.trans (HB1.out.mono HB.out.size)⟩
      · have HS := Lib.hid (fun w => laws_szCookie_fits ps[k].1 ps[k].2.1 ps[k].2.2 lf hla hlb hlf0 hlf1 (by omega) w)
        have hnn : 0 ≤ lf - (ps[k].1.length : Int) - (ps[k].2.1.length : Int) := by omega
        clear hla hlb
        go_wp2_with fail
        refine (HS.out _).mono ?_
        rintro e w1 ⟨rfl, hb1⟩
        have HB1 := Lib.hid hb1
        clear hb1
        go_wp2
        go_roundw
        case rel =>
          have := HP.out
          exact ⟨k + 1, _, by omega, by go_num, rfl, by omega, by omega, by omega, HB.out.trans (HB1.out.mono HB.out.size)⟩
        case measure => simp [intOf]; omega
    · exfalso
      have e : ps.drop k = [] := drop_nil ps k (by omega)
      rw [e] at hrest
      simp [csize] at hrest
      omega

set_option maxHeartbeats 1000000 in
theorem laws_toCookieS (ps : List Ck) (A : Option Addr) (c : Nat) (w : World) (hr : Rd w w.heap.size A (ccells ps)) (hn : ps.length ≤ 1048576) :
    Calls Try.prog 13 #[.slice A ps.length c] w (NewC w ps) := by
  obtain ⟨i0, hi, hz0, hz1, hz2⟩ := info_parts Try.info_Cookie
  have hmk := fun w => make_row (P := Try.prog) Try.underlying23 hi hz0 hz1 hz2 ps.length (by omega) (by omega) w
  have hsz : (madeCells (Value.agg #[.string ⟨#[]⟩, .string ⟨#[]⟩, .int .i64 0]).cells (ps.length * 3)).size = ps.length * 3 := size_madeCells _ _
  generalize hM : madeCells (Value.agg #[.string ⟨#[]⟩, .string ⟨#[]⟩, .int .i64 0]).cells (ps.length * 3) = M at *
  clear hM hi hz0 hz1 hz2
  have HSZ := Lib.hid hsz
  clear hsz
  go_enter Try.func13, Try.ntmps13
  go_wp2
  go_loopw [4] (fun i wr => ∃ (k : Nat) (R : List Value), k ≤ ps.length ∧ i = .int .i64 k ∧ wr.ownsRow w.heap.size 28 3 (.slice (some ⟨w.heap.size, 0, none⟩) ps.length ps.length) ps.length (ccells (ps.take k) ++ R) ∧ Below w.heap.size w wr) (fun i _ => ps.length - (intOf i).toNat)
  case atStart => exact ⟨0, M.toList, Nat.zero_le _, rfl, World.ownsRow_lit w M ps.length (Nat.le_refl _) (by unfold maxLen; omega) HSZ.out, (Below.refl _ _).alloc (Nat.le_refl _) _⟩
  case round =>
    obtain ⟨k, R, hk, rfl, hown, hb⟩ := hrel
    have HB := Lib.hid hb
    have HO := Lib.hid hown
    by_cases hlt : k < ps.length
    · obtain ⟨b, o, rfl, hab, hc0, hc1, hc2⟩ := (hr.below hb).cookie hlt
      clear hb hown
      go_wp2_with fail
      refine (laws_toCookie ps[k].1 ps[k].2.1 ps[k].2.2 _).mono ?_
      rintro e w1 ⟨rfl, hb1⟩
      have HB1 := Lib.hid hb1
      have ho1 := own_below HO.out hb1
      have hP : (ccells (ps.take k)).length = k * 3 := by rw [ccells_length, List.length_take]; omega
      obtain ⟨r0, r1, r2, R', rfl⟩ := three_more ho1.1 hP hlt
      obtain ⟨x0, hs0, hg0⟩ := own_any ho1 (k * 3) (by omega)
      obtain ⟨x1, hs1, hg1⟩ := own_any ho1 (k * 3 + 1) (by omega)
      obtain ⟨x2, hs2, hg2⟩ := own_any ho1 (k * 3 + 2) (by omega)
      have HO1 := Lib.hid ho1
      have HP := Lib.hid hP
      clear hb1 ho1 hc0 hc1 hc2 hP
      go_wp2
      go_roundw
      case rel =>
        refine ⟨k + 1, R', by omega, by go_num, ?_, ?_⟩
        · have h1 := (HO1.out.stored (k * 3) (sv ps[k].1)).1
          have h2 := (h1.stored (k * 3 + 1) (sv ps[k].2.1)).1
          have h3 := (h2.stored (k * 3 + 2) (.int .i64 ps[k].2.2)).1
          rw [three_set HP.out] at h3
          rw [ccells_split hlt, List.append_assoc]
          exact h3
        · exact (((HB.out.trans (HB1.out.mono HB.out.size)).setCell (Nat.le_refl _) _).setCell (Nat.le_refl _) _).setCell (Nat.le_refl _) _
      case measure => simp [intOf]; omega
    · go_wp2
      go_ret
      have hkn : k = ps.length := by omega
      subst hkn
      have hR : R = [] := by
        have h1 := hown.1
        rw [List.take_length, List.length_append, ccells_length] at h1
        exact List.eq_nil_of_length_eq_zero (by omega)
      subst hR
      rw [List.take_length, List.append_nil] at hown
      exact ⟨_, _, rfl, hown, hb⟩

set_option maxHeartbeats 400000 in
theorem laws_eqCookie (a b : Tx) (u : Int) (c d : Tx) (v : Int) (w : World) :
    Calls Try.prog 32 #[.agg #[.string ⟨a.toArray⟩, .string ⟨b.toArray⟩, .int .i64 u], .agg #[.string ⟨c.toArray⟩, .string ⟨d.toArray⟩, .int .i64 v]] w fun e w' => e = .returned (.bool (a == c && b == d && u == v)) ∧ Below w.heap.size w w' := by
  cases h1 : (a == c)
  · go_enter Try.func32, Try.ntmps32
    go_wp2
    go_ret
    exact ⟨ret_bool (by simp), by go_grown⟩
  · cases h2 : (b == d)
    · go_enter Try.func32, Try.ntmps32
      go_wp2
      go_ret
      exact ⟨ret_bool (by simp), by go_grown⟩
    · by_cases h3 : u = v
      · subst h3
        go_enter Try.func32, Try.ntmps32
        go_wp2
        go_ret
        exact ⟨ret_bool (by simp), by go_grown⟩
      · have h4 : (u != v) = true := by simp [h3]
        have h5 := Lib.hid h3
        clear h3
        go_enter Try.func32, Try.ntmps32
        go_wp2
        go_ret
        exact ⟨ret_bool (by simp [h5.out]), by go_grown⟩

set_option maxHeartbeats 1000000 in
theorem laws_eqCookieS (ps qs : List Ck) (A A' : Option Addr) (c c' : Nat) (w : World) (hp : Rd w w.heap.size A (ccells ps)) (hq : Rd w w.heap.size A' (ccells qs)) (hn : ps.length ≤ maxLen) :
    Calls Try.prog 14 #[.slice A ps.length c, .slice A' qs.length c'] w fun e w' => e = .returned (.bool (ps == qs)) ∧ Below w.heap.size w w' := by
  unfold maxLen at hn
  by_cases hl : ps.length = qs.length
  · have hb0 : ((ps.length : Int) != (qs.length : Int)) = false := by simp [hl]
    have HL := Lib.hid hl
    clear hl
    go_enter Try.func14, Try.ntmps14
    go_wp2
    go_loopw [5] (fun i wr => ∃ (k : Nat), k ≤ ps.length ∧ i = .int .i64 k ∧ (ps.drop k == qs.drop k) = (ps == qs) ∧ Below w.heap.size w wr) (fun i _ => ps.length - (intOf i).toNat)
    case atStart => exact ⟨0, Nat.zero_le _, rfl, rfl, Below.refl _ _⟩
    case round =>
      obtain ⟨k, hk, rfl, heq, hb⟩ := hrel
      have HB := Lib.hid hb
      by_cases hlt : k < ps.length
      · have hlq : k < qs.length := by have := HL.out; omega
        obtain ⟨b, o, rfl, hab, hc0, hc1, hc2⟩ := (hp.below hb).cookie hlt
        obtain ⟨b', o', rfl, hab', hc0', hc1', hc2'⟩ := (hq.below hb).cookie hlq
        have HQ : Hid ((ps[k].1 == qs[k].1 && ps[k].2.1 == qs[k].2.1 && ps[k].2.2 == qs[k].2.2 && (ps.drop (k + 1) == qs.drop (k + 1))) = (ps == qs)) := by
          show _ = _
          rw [← heq, drop_cons ps k hlt, drop_cons qs k hlq, List.cons_beq_cons]
          have : (ps[k] == qs[k]) = (ps[k].1 == qs[k].1 && (ps[k].2.1 == qs[k].2.1 && ps[k].2.2 == qs[k].2.2)) := rfl
          rw [this, Bool.and_assoc (ps[k].1 == qs[k].1)]
        clear hb heq
        go_wp2
        go_still_tail 8, (by kernel_rfl)
        change wpList _ _ _ _ _ wr.drew
        go_wp2_with fail
        refine (laws_eqCookie ps[k].1 ps[k].2.1 ps[k].2.2 qs[k].1 qs[k].2.1 qs[k].2.2 _).mono ?_
        rintro e w1 ⟨rfl, hb1⟩
        have HB1 := Lib.hid hb1
        clear hb1 hc0 hc1 hc2 hc0' hc1' hc2'
        cases hE : (ps[k].1 == qs[k].1 && ps[k].2.1 == qs[k].2.1 && ps[k].2.2 == qs[k].2.2)
        · have HE := Lib.hid hE
          clear hE
          go_wp2
          go_ret
          refine ⟨ret_bool ?_, HB.out.drew.trans (HB1.out.mono HB.out.drew.size)⟩
          rw [← HQ.out, HE.out, Bool.false_and]
        · have HE := Lib.hid hE
          clear hE
          go_wp2
          go_roundw
          case rel =>
            refine ⟨k + 1, by omega, by go_num, ?_, HB.out.drew.trans (HB1.out.mono HB.out.drew.size)⟩
            rw [← HQ.out, HE.out, Bool.true_and]
          case measure => simp [intOf]; omega
      · go_wp2
        go_ret
        refine ⟨ret_bool ?_, hb⟩
        rw [← heq, drop_nil ps k (by omega), drop_nil qs k (by have := HL.out; omega)]
        rfl
  · have hb0 : ((ps.length : Int) != (qs.length : Int)) = true := by simp; omega
    have HL : Hid ((ps == qs) = false) := by show _ = _; simp; intro h; exact hl (by rw [h])
    clear hl
    go_enter Try.func14, Try.ntmps14
    go_wp2
    go_ret
    exact ⟨ret_bool HL.out.symm, Below.refl _ _⟩

end Go.Proofs.Ytoliccpjdkdhjaa
