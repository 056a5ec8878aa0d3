import Derived.Test.YtmboieajfdkllaaGreatU01
import Derived.Test.YtmboieajfdkllaaGreatU00
import Derived.Test.YtmboieajfdkllaaGreatU02
import Derived.Test.YtmboieajfdkllaaGreatU03
set_option maxHeartbeats 400000
set_option maxRecDepth 100000
open Go.Proofs.Tryz
namespace Go.Proofs.YtmboieajfdkllaaGreat
open Go.RowKit
def Hm (w : World) : Prop := ∃ m : Int, w.cell? ⟨0, 0, none⟩ = some (.int .i64 m)
theorem Hm.pos {w : World} (h : Hm w) : 0 < w.heap.size := by
 obtain ⟨m, h⟩ := h
 rcases Nat.lt_or_ge 0 w.heap.size with h0 | h0
 ·exact h0
 have : w.heap[(0 : Nat)]? = none := Array.getElem?_eq_none h0
 simp [World.cell?, this] at h
theorem Hm.below {w w' : World} (h : Hm w) (hb : Below w.heap.size w w') : Hm w' := by
 have hp := h.pos
 obtain ⟨m, h⟩ := h
 exact ⟨m, (hb.cell (p := ⟨0, 0, none⟩) hp).trans h⟩
theorem KW {w : World} (h : w.ShapedOpen Tryz.prog) : Hm w := Tryz.laysM219.s1_3 w h
theorem xU {t : Tx} (h : t ≠ []) : t.headD 0 = t[0]'(List.length_pos_iff.2 h) /\ t.getLastD 0 = t[t.length - 1]'(by have := List.length_pos_iff.2 h; omega) := by
 constructor
 ·cases t with
  | nil => exact absurd rfl h
  | cons x s => rfl
 ·rw [List.getLastD_eq_getLast?, List.getLast?_eq_getElem?, List.getElem?_eq_getElem (by have := List.length_pos_iff.2 h; omega)]; rfl
theorem Zj {xs : List Pt} {j : Nat} (h : j < xs.length) {kd : Int} {t n : Tx} {us vs : List Pt} (e : xs[j] = .mk kd t n us vs) : Pt.pvAt xs (j + 1) = (kd == 1) := by
 rw [Pt.pvAt_succ h, e]
 rw [Bool.eq_iff_iff, decide_eq_true_iff, beq_iff_eq]; rfl
theorem XJ (s : Tx) (c : UInt8) (hl : s.length <= maxLen) (w : World) :
  Calls Tryz.prog 152 #[.string ⟨s.toArray⟩, .int .u8 (c.toNat : Int)] w fun e w' => e = .returned (.bool (s.any (· == c))) /\ w = w' := by
 unfold maxLen at hl
 go_enter func152, ntmps152
 go_wp2
 go_loop [5] (fun i => ∃ k : Nat, k <= s.length /\ i = .int .i64 k /\ (s.drop k).any (· == c) = s.any (· == c)) (fun i => s.length - (intOf i).toNat)
 case atStart => exact ⟨0, Nat.zero_le _, rfl, rfl⟩
 obtain ⟨k, hk, rfl, hall⟩ := hrel
 have H := qb hall
 clear hall
 by_cases hlt : k < s.length
 ·have H2 := H.out
  rw [qX s k hlt, List.any_cons] at H2
  have H3 := qb H2
  clear H2
  cases hq : (s[k] == c)
  ·rw [hq, Bool.false_or] at H3
   have hq' : ((s[k].toNat : Int) == (c.toNat : Int)) = false := by
    rw [beq_eq_false_iff_ne] at *
    intro e
    exact hq (UInt8.toNat_inj.1 (by omega))
   clear hq
   go_wp2
   go_round
   case rel => exact ⟨k + 1, by omega, by go_num, H3.out⟩
   case measure => simp [intOf]; omega
  rw [hq, Bool.true_or] at H3
  have hq' : ((s[k].toNat : Int) == (c.toNat : Int)) = true := by rw [eq_of_beq hq]; simp
  clear hq
  go_wp2
  go_ret
  exact ⟨qw H3.out, rfl⟩
 have H2 := H.out
 rw [zc s k (by omega), List.any_nil] at H2
 have H3 := qb H2
 clear H2
 go_wp2
 go_ret
 exact ⟨qw H3.out, rfl⟩
theorem Zk (c : UInt8) (w : World) :
  Calls Tryz.prog 152 #[.string ⟨#[123, 125]⟩, .int .u8 (c.toNat : Int)] w fun e w' => e = .returned (.bool (zE c)) /\ w = w' := by
 have h := XJ [123, 125] c (by simp [maxLen]) w
 have e : ([123, 125] : Tx).any (· == c) = zE c := by
  simp only [List.any_cons, List.any_nil, Bool.or_false, zE]
  rw [Bool.eq_iff_iff]
  simp only [Bool.or_eq_true, beq_iff_eq]
  exact ⟨fun h => h.imp Eq.symm Eq.symm, fun h => h.imp Eq.symm Eq.symm⟩
 rw [e] at h
 exact h
theorem Zl (s : Tx) (c : UInt8) (hs : s.length <= 1048576) (w : World) (hm : Hm w) :
  Calls Tryz.prog 50 #[.string ⟨s.toArray⟩, .string ⟨#[c, c]⟩] w fun e w' => e = .returned (.bool (has2 c s)) /\ w = w' := by
 obtain ⟨m, hm⟩ := hm
 refine (Tryz.strings_Contains ⟨s.toArray⟩ ⟨#[c, c]⟩ m w (by show s.toArray.size < _; simp; omega) hm).mono fun e w' ⟨he, hw⟩ => ⟨?_, hw.symm⟩
 rw [he]
 exact qw (Xc c s)
theorem XK (n : Tx) (w : World) :
  Calls Tryz.prog 142 #[.string ⟨n.toArray⟩] w fun e w' => e = .returned (.bool (zY n)) /\ w = w' := by
 have HW : Hid (zY n = (n == [105, 102] || (n == [101, 97, 99, 104] || (n == [101, 108, 115, 101] || n == [101, 110, 100])))) := rfl
 cases e1 : (n == [105, 102]) <;> cases e2 : (n == [101, 97, 99, 104]) <;> cases e3 : (n == [101, 108, 115, 101]) <;> cases e4 : (n == [101, 110, 100])
 all_goals
  rw [e1, e2, e3, e4] at HW
  go_enter func142, ntmps142
  go_wp2
  go_ret
  exact ⟨qw HW.out.symm, rfl⟩
theorem XL {t : Tx} {k : Nat} (h : k + 1 < t.length) : two (t.drop k) = (((t.take (k + 2)).drop k == [123, 123]) || (((t.take (k + 2)).drop k == [125, 125]) || two (t.drop (k + 1)))) := by
 have e : (t.take (k + 2)).drop k = [t[k], t[k + 1]] := by
  rw [List.drop_take, qX t k (by omega), qX t (k + 1) h, show k + 2 - k = 2 by omega]; rfl
 have e2 : ∀ a b c d : UInt8, ([a, b] == [c, d]) = (a == c && b == d) := by
  intro a b c d
  rw [Bool.eq_iff_iff]
  simp
 rw [e, qX t k (by omega), qX t (k + 1) h, two, e2, e2]
theorem two_end {t : Tx} {k : Nat} (h : ¬ k + 1 < t.length) : two (t.drop k) = false := by
 have hl : (t.drop k).length <= 1 := by rw [List.length_drop]; omega
 generalize t.drop k = s at *
 match s, hl with
 | [], _ => rfl
 | [x], _ => rfl
theorem XM (t : Tx) (hl : t.length <= 1048576) (w : World) :
  Calls Tryz.prog 141 #[.string ⟨t.toArray⟩] w fun e w' => e = .returned (.bool (two t)) /\ w = w' := by
 go_enter func141, ntmps141
 go_wp2
 go_loop [3] (fun i => ∃ k : Nat, k <= t.length /\ i = .int .i64 k /\ two (t.drop k) = two t) (fun i => t.length - (intOf i).toNat)
 case atStart => exact ⟨0, Nat.zero_le _, rfl, rfl⟩
 obtain ⟨k, hk, rfl, hall⟩ := hrel
 have H := qb hall
 clear hall
 by_cases hlt : k + 1 < t.length
 ·have H2 := H.out
  rw [XL hlt] at H2
  have H3 := qb H2
  clear H2
  cases c1 : ((t.take (k + 2)).drop k == [123, 123])
  ·rw [c1, Bool.false_or] at H3
   cases c2 : ((t.take (k + 2)).drop k == [125, 125])
   ·rw [c2, Bool.false_or] at H3
    go_wp2
    go_round
    case rel => exact ⟨k + 1, by omega, by go_num, H3.out⟩
    case measure => simp [intOf]; omega
   rw [c2, Bool.true_or] at H3
   go_wp2
   go_ret
   exact ⟨qw H3.out, rfl⟩
  rw [c1, Bool.true_or] at H3
  go_wp2
  go_ret
  exact ⟨qw H3.out, rfl⟩
 have H2 := H.out
 rw [two_end hlt] at H2
 have H3 := qb H2
 clear H2
 go_wp2
 go_ret
 exact ⟨qw H3.out, rfl⟩
open Go.Deep
abbrev badW : Tx := [98, 97, 100]
def xi : Value -> Nat
 | .string b => b.size
 | _ => 0
theorem yg (s : Tx) (c : UInt8) (hs : s.length <= 1048576) (w : World) (hm : Hm w) :
  Calls Tryz.prog 97 #[.string ⟨s.toArray⟩, .string ⟨#[c, c]⟩] w fun e w' => e = .returned (.int .i64 (match cut2 c s with
   | none => -1
   | some r => (r.1.length : Int))) /\ w = w' := by
 obtain ⟨m, hm⟩ := hm
 refine (Tryz.strings_Index ⟨s.toArray⟩ ⟨#[c, c]⟩ m w (by show s.toArray.size < _; simp; omega) hm).mono fun e w' ⟨he, hw⟩ => ⟨?_, hw.symm⟩
 rw [he]
 exact qA (ZP c s)
theorem yh (s p : Tx) (w : World) : Calls Tryz.prog 122 #[.string ⟨s.toArray⟩, .string ⟨p.toArray⟩] w fun e w' => e = .returned (.bool (p.isPrefixOf s)) /\ w = w' :=
 (Tryz.strings_HasPrefix ⟨s.toArray⟩ ⟨p.toArray⟩ w).mono fun _ _ ⟨he, hw⟩ => ⟨he, hw.symm⟩
theorem Jn (q : Tx) : cut2 125 (123 :: 123 :: q) = (cut2 125 q).map fun r => (123 :: 123 :: r.1, r.2) := by
 have h1 : cut2 125 (123 :: 123 :: q) = (cut2 125 (123 :: q)).map fun r => (123 :: r.1, r.2) := by rw [cut2]; rfl
 have h2 : cut2 125 (123 :: q) = (cut2 125 q).map fun r => (123 :: r.1, r.2) := by
  cases q with
  | nil => rfl
  | cons y t => rw [cut2]; rfl
 rw [h1, h2]
 cases cut2 125 q <;> rfl
theorem tk_word (p w t : Tx) (a e : Nat) (ha : a = p.length) (he : e = w.length + 2) : List.drop (a + 2) (List.take (a + e) (p ++ 123 :: 123 :: (w ++ 125 :: 125 :: t))) = w := by
 subst ha; subst he
 rw [show p ++ 123 :: 123 :: (w ++ 125 :: 125 :: t) = (p ++ [123, 123]) ++ (w ++ 125 :: 125 :: t) by simp, show p.length + (w.length + 2) = (p ++ [123, 123] : Tx).length + w.length by simp; omega, show p.length + 2 = (p ++ [123, 123] : Tx).length by simp, List.take_length_add_append, List.drop_left, List.take_left]
theorem dr_rest (p w t : Tx) (a e : Nat) (ha : a = p.length) (he : e = w.length + 2) : List.drop (a + e + 2) (p ++ 123 :: 123 :: (w ++ 125 :: 125 :: t)) = t := by
 subst ha; subst he
 rw [show p ++ 123 :: 123 :: (w ++ 125 :: 125 :: t) = (p ++ [123, 123] ++ w ++ [125, 125]) ++ t by simp, show p.length + (w.length + 2) + 2 = (p ++ [123, 123] ++ w ++ [125, 125] : Tx).length by simp; omega, List.drop_left]
theorem xB (p w : Tx) : Pt.pre false p w = p.isPrefixOf w := by simp [Pt.pre]
theorem kB {W : World} {S : Nat -> Prop} {k : Int} {nm : Tx} {A5 A6 : Option Addr} {n5 c5 n6 c6 : Nat} {xs ys : List Pt} (e5 : n5 = xs.length) (h5 : RdP W S A5 xs) (g5 : n5 <= c5) (e6 : n6 = ys.length) (h6 : RdP W S A6 ys) (g6 : n6 <= c6) : InP W S (.mk k [] nm xs ys) (Raw.v ⟨k, [], nm, A5, n5, c5, A6, n6, c6⟩) := by
 subst e5; subst e6
 exact InP.mk g5 g6 h5 h6
theorem xC (xs : List Pt) : xs.length <= Pt.sz xs := by unfold Pt.sz; omega
theorem xD {z : Bool} {p w : Tx} (h : Pt.pre z p w = true) : p.length <= w.length := by
 unfold Pt.pre at h
 rw [Bool.and_eq_true] at h
 obtain ⟨t, ht⟩ := List.isPrefixOf_iff_prefix.1 h.1
 rw [<- ht, List.length_append]; omega
theorem jN {w : World} {b : Nat} {c0 c1 c2 c3 c4 : Value} {T : TypeId} (h : w.heap[b]? = some (.cells #[c0, c1, c2, c3, c4] T (0, 0))) (v : Value) : (w.setCell ⟨b, 3, none⟩ v).heap[b]? = some (.cells #[c0, c1, c2, v, c4] T (0, 0)) := qP h
theorem xj {w : World} {b : Nat} {c0 c1 c2 c3 c4 : Value} {T : TypeId} (h : w.heap[b]? = some (.cells #[c0, c1, c2, c3, c4] T (0, 0))) (v : Value) : (w.setCell ⟨b, 4, none⟩ v).heap[b]? = some (.cells #[c0, c1, c2, c3, v] T (0, 0)) := qP h
theorem xE {w5 W : World} {B : Nat} {A : Option Addr} {c : Nat} {rs : List Raw} {xs : List Pt} (h : PLs w5 B A c rs xs) {S : Nat -> Prop} (hk : ∀ j, B <= j -> j < w5.heap.size -> W.heap[j]? = w5.heap[j]?) (hS : ∀ j, B <= j -> j < w5.heap.size -> S j) : RdP W S A xs :=
 h.rd.keep (fun _ hp => World.cell?_of_block (hk _ hp.1 hp.2)) (fun j hj => hS j hj.1 hj.2)
theorem jO {w wx W w3 : World} {A A3 : Option Addr} {c c3 : Nat} {rs : List Raw} {acc : List Pt} {raw : Raw} {x : Pt} (hB : Below w.heap.size w wx) (h : PLs wx w.heap.size A c rs acc) (hW : Below wx.heap.size wx W)
  (hx : InP W (fun j => wx.heap.size <= j /\ j < W.heap.size) x raw.v)
  (ho : OwnN w3 w.heap.size A3 c3 (rs ++ [raw])) (hg : W.grownBy w3 (Value.ownBlock (.slice A rs.length c))) (hbk : Value.ownBlock (.slice A3 (rs.length + [raw].length) c3) = Value.ownBlock (.slice A rs.length c) \/ Value.ownBlock (.slice A3 (rs.length + [raw].length) c3) = some W.heap.size) :
  PLs w3 w.heap.size A3 c3 (rs ++ [raw]) (acc ++ [x]) /\ Below w.heap.size w w3 := by
 have h2 := h.keep hW
 have hx2 : InP W (fun j => w.heap.size <= j /\ j < W.heap.size /\ Value.ownBlock (.slice A rs.length c) ≠ some j) x raw.v :=
  InP.keep (fun _ _ => rfl) (fun j hj => ⟨Nat.le_trans hB.size hj.1, hj.2, fun e => by have h3 := (h.own.lt j e).2; have h4 := hj.1; omega⟩) _ _ hx
 exact ⟨h2.app ho hg hbk (Els.cons hx2 Els.nil), hB.trans ((hW.mono hB.size).trans (zo hg (Nat.le_trans hB.size hW.size) (fun g hg => (h.own.lt g hg).1)))⟩
end Go.Proofs.YtmboieajfdkllaaGreat
