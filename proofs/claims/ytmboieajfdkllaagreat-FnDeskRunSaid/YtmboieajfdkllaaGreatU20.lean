import Derived.Test.YtmboieajfdkllaaGreatU01
import Derived.Test.YtmboieajfdkllaaGreatU00
import Derived.Deep.QuietTactic
import Derived.BigQuiet
import Derived.IntWalk
import Derived.Outline
import Derived.Test.YtmboieajfdkllaaGreatU19
import Derived.Test.YtmboieajfdkllaaGreatU11
import Derived.Test.YtmboieajfdkllaaGreatU03
import Derived.Lib.IndexMore
set_option maxHeartbeats 4000000
set_option maxRecDepth 100000
open Go.Proofs.Tryz
namespace Go.Proofs.YtmboieajfdkllaaGreat
open Go.RowKit
def at_ (c : UInt8) (l : Tx) : Nat := l.findIdx (· == c)
def has (c : UInt8) (l : Tx) : Bool := decide (at_ c l < l.length)
theorem kh (c : UInt8) (l : Tx) : at_ c l <= l.length := List.findIdx_le_length
theorem ki (c : UInt8) : ∀ l : Tx, Lib.indexByte l c = if at_ c l < l.length then (at_ c l : Int) else -1
 | [] => by simp [Lib.indexByte, at_]
 | b :: t => by
  have ih := ki c t
  unfold Lib.indexByte
  by_cases hb : (b == c) = true
  ·simp [at_, List.findIdx_cons, hb]
  have hb' : (b == c) = false := by simpa using hb
  have e : at_ c (b :: t) = at_ c t + 1 := by simp [at_, List.findIdx_cons, hb']
  have hle := kh c t
  show (if (b == c) = true then (0 : Int) else if (Lib.indexByte t c == -1) = true then -1 else Lib.indexByte t c + 1) = _
  rw [hb']
  by_cases h : at_ c t < t.length
  ·have e2 : Lib.indexByte t c = (at_ c t : Int) := by rw [ih, if_pos h]
   have e3 : ((at_ c t : Int) == -1) = false := by simp
   rw [e2, e3]
   simp [e, h]
  have e2 : Lib.indexByte t c = -1 := by rw [ih, if_neg h]
  rw [e2]
  simp [e, h]
theorem at_step {c : UInt8} {l : Tx} {j : Nat} (h : j <= at_ c l) (hj : j < l.length) (hc : (l[j] == c) = false) : j + 1 <= at_ c l := by
 rcases Nat.lt_or_ge j (at_ c l) with h1 | h1
 ·exact h1
 have e : at_ c l = j := by omega
 have h2 : l.findIdx (· == c) < l.length := by show at_ c l < _; omega
 have h3 : (l[l.findIdx (· == c)]'h2 == c) = true := List.findIdx_getElem (w := h2)
 have h4 : l[l.findIdx (· == c)]'h2 = l[j] := by
  congr 1
 rw [h4, hc] at h3
 cases h3
theorem KU {c : UInt8} {l : Tx} {j : Nat} (h : j <= at_ c l) (hj : j < l.length) (hc : (l[j] == c) = true) : at_ c l = j := by
 rcases Nat.lt_or_ge j (at_ c l) with h1 | h1
 ·have := List.not_of_lt_findIdx (p := (· == c)) (xs := l) h1
  rw [hc] at this
  simp at this
 omega
theorem sl_Cut (l : Tx) (c : UInt8) (hl : l.length <= 4294967296) (w : World) :
  Calls Tryz.prog 94 #[.string ⟨l.toArray⟩, .string ⟨#[c]⟩] w fun e w' =>
   e = .returned (.tuple #[.string ⟨(if has c l then l.take (at_ c l) else l).toArray⟩, .string ⟨(if has c l then l.drop (at_ c l + 1) else []).toArray⟩, .bool (has c l)]) /\ ∃ n, w' = w.drewN n := by
 have HI := qb (fun w => Tryz.stringslite_Index_one ⟨l.toArray⟩ c w)
 have hx : Lib.indexByte l c = if at_ c l < l.length then (at_ c l : Int) else -1 := ki c l
 by_cases h : at_ c l < l.length
 ·have hh : has c l = true := decide_eq_true h
  rw [if_pos h] at hx
  simp only [hh, if_true]
  have HX : Hid (∀ w, Calls Tryz.prog 136 #[.string ⟨l.toArray⟩, .string ⟨#[c]⟩] w fun e w' => e = .returned (.int .i64 (at_ c l : Int)) /\ w = w') := fun w => (HI.out w).mono fun _ _ ⟨a, b⟩ => ⟨by rw [a]; exact qA hx, b.symm⟩
  clear hx hh
  generalize at_ c l = i at *
  have hw : IntKind.i64.wrap ((i : Int) + 1) = (i : Int) + 1 := IntWalk.i64_in _ (by omega)
  have h0 : (0 : Int) <= (i : Int) := by omega
  have h1 : (i : Int) <= (l.length : Int) := by omega
  have h2 : (i : Int) + 1 <= (l.length : Int) := by omega
  have h3 : ((i : Int) + 1).toNat = i + 1 := by omega
  have h4 : (0 : Int) <= (i : Int) + 1 := by omega
  go_enter func94, ntmps94
  go_wp2_with (go_at_call 136; refine qf (HX.out _) ?_)
  go_quiet (fail)
  go_wp2
  go_ret3
  exact ⟨rfl, _, rfl⟩
 have hh : has c l = false := decide_eq_false h
 rw [if_neg h] at hx
 simp only [hh, Bool.false_eq_true, if_false]
 have HX : Hid (∀ w, Calls Tryz.prog 136 #[.string ⟨l.toArray⟩, .string ⟨#[c]⟩] w fun e w' => e = .returned (.int .i64 (-1)) /\ w = w') := fun w => (HI.out w).mono fun _ _ ⟨a, b⟩ => ⟨by rw [a]; exact qA hx, b.symm⟩
 clear hx hh h
 go_enter func94, ntmps94
 go_wp2_with (go_at_call 136; refine qf (HX.out _) ?_)
 go_ret3
 exact ⟨rfl, 0, rfl⟩
theorem KV (l : Tx) (c : UInt8) (hl : l.length <= 4294967296) (w : World) :
  Calls Tryz.prog 47 #[.string ⟨l.toArray⟩, .string ⟨#[c]⟩] w fun e w' =>
   e = .returned (.tuple #[.string ⟨(if has c l then l.take (at_ c l) else l).toArray⟩, .string ⟨(if has c l then l.drop (at_ c l + 1) else []).toArray⟩, .bool (has c l)]) /\ ∃ n, w' = w.drewN n := by
 have HS := qb (fun w => sl_Cut l c hl w)
 generalize (if has c l then l.take (at_ c l) else l) = r1 at *
 generalize (if has c l then l.drop (at_ c l + 1) else []) = r2 at *
 generalize has c l = r3 at *
 clear hl
 go_enter func47, ntmps47
 go_wp2_with (go_at_call 94; refine (HS.out _).mono ?_; rintro e w' ⟨rfl, n, rfl⟩)
 go_ret3
 exact ⟨rfl, n, rfl⟩
open Go.Deep
theorem xS (B b : Nat) (acc s : Tx) (w : World) (h : Bld B b acc w) (hlen : acc.length + s.length <= 68719476736) (hBw : B <= w.heap.size) :
  Calls Tryz.prog 72 #[.pointer (some ⟨b, 0, none⟩), sv s] w fun e w' => e = .returned (.tuple #[.int .i64 (s.length : Int), .nilIface]) /\ Bld B b (acc ++ s) w' /\ Below B w w' := by
 have hs : (⟨s.toArray⟩ : ByteArray).size = s.length := by simp [ByteArray.size]
 refine (Any.Builder_WriteString Tryz.laysB166 Tryz.Builder_ExtraB166 B b (Lib.byteCells acc) ⟨s.toArray⟩ w h (by rw [Lib.byteCells_length, hs]; omega) hBw).mono fun e w' ⟨h1, h2, h3⟩ => ⟨by rw [h1, hs], ?_, h3⟩
 unfold Bld
 rw [Lib.byteCells_append]
 exact .inr h2
theorem Xw (c : UInt8) (w : World) :
  Calls Tryz.prog 148 #[.int .u8 (c.toNat : Int)] w fun e w' => e = .returned (sv (zy c)) /\ w = w' := by
 by_cases h38 : c = 38
 ·
  have n38 : ((c.toNat : Int) == 38) = true := by rw [h38]; rfl
  have HE : Hid (zy c = [38, 97, 109, 112, 59]) := by show _ = _; rw [h38]; rfl
  clear h38
  go_enter func148, ntmps148
  go_wp2
  go_ret
  exact ⟨qM HE.out.symm, rfl⟩
 have n38 := qy h38 38 rfl
 by_cases h60 : c = 60
 ·
  have n60 : ((c.toNat : Int) == 60) = true := by rw [h60]; rfl
  have HE : Hid (zy c = [38, 108, 116, 59]) := by show _ = _; rw [h60]; rfl
  clear h60
  go_enter func148, ntmps148
  go_wp2
  go_ret
  exact ⟨qM HE.out.symm, rfl⟩
 have n60 := qy h60 60 rfl
 by_cases h62 : c = 62
 ·
  have n62 : ((c.toNat : Int) == 62) = true := by rw [h62]; rfl
  have HE : Hid (zy c = [38, 103, 116, 59]) := by show _ = _; rw [h62]; rfl
  clear h62
  go_enter func148, ntmps148
  go_wp2
  go_ret
  exact ⟨qM HE.out.symm, rfl⟩
 have n62 := qy h62 62 rfl
 by_cases h34 : c = 34
 ·
  have n34 : ((c.toNat : Int) == 34) = true := by rw [h34]; rfl
  have HE : Hid (zy c = [38, 113, 117, 111, 116, 59]) := by show _ = _; rw [h34]; rfl
  clear h34
  go_enter func148, ntmps148
  go_wp2
  go_ret
  exact ⟨qM HE.out.symm, rfl⟩
 have n34 := qy h34 34 rfl
 by_cases h39 : c = 39
 ·
  have n39 : ((c.toNat : Int) == 39) = true := by rw [h39]; rfl
  have HE : Hid (zy c = [38, 35, 51, 57, 59]) := by show _ = _; rw [h39]; rfl
  clear h39
  go_enter func148, ntmps148
  go_wp2
  go_ret
  exact ⟨qM HE.out.symm, rfl⟩
 have n39 := qy h39 39 rfl
 have HE : Hid (zy c = []) := by show _ = _; unfold zy; rw [if_neg h38, if_neg h60, if_neg h62, if_neg h34, if_neg h39]
 clear h38 h60 h62 h34 h39
 go_enter func148, ntmps148
 go_wp2
 go_ret
 exact ⟨qM HE.out.symm, rfl⟩
theorem kQ (l : Tx) (hl : l.length <= 1073741824) (w : World) :
  Calls Tryz.prog 116 #[.string ⟨l.toArray⟩] w fun e w' => e = .returned (.string ⟨(escT l).toArray⟩) /\ Below w.heap.size w w' := by
 unfold escT
 go_enter func116, ntmps116
 go_wp2
 go_loopw [4] (fun i wr => ∃ k : Nat, k <= l.length /\ i = .int .i64 k /\ Bld w.heap.size w.heap.size ((l.take k).flatMap entB) wr /\ Below w.heap.size w wr) (fun i _ => l.length - (intOf i).toNat)
 case atStart =>
  refine ⟨0, Nat.zero_le _, rfl, ?_, (Below.refl _ _).alloc (Nat.le_refl _) _⟩
  exact .inl ⟨Nat.le_refl _, _, heap_alloc_new w _, World.ownsRow_nil _ _ _ _, by simp [Value.ownBlock]⟩
 obtain ⟨k, hk, rfl, ho, hb⟩ := hrel
 have HB := qb hb
 have HO := qb ho
 have hsz := hb.size
 clear hb ho
 by_cases hlt : k < l.length
 ·have HS := qb (xc entB l k hlt)
  have hlen := zU entB 6 xe l k
  have hlen2 := zU entB 6 xe l (k + 1)
  rw [HS.out, List.length_append] at hlen2
  generalize (l.take k).flatMap entB = acc at *
  have HC := qb (fun w => Xw l[k] w)
  have HF : Hid (entB l[k] = if zy l[k] = [] then [l[k]] else zy l[k]) := rfl
  generalize entB l[k] = g at *
  generalize zy l[k] = f at *
  by_cases hf : f = []
  ·subst hf
   have HE : Hid (g = [l[k]]) := HF.out
   rw [HE.out, List.length_singleton] at hlen2
   go_wp2_with (first | (go_at_call 148; refine qf (HC.out _) ?_))
   refine (zM _ _ acc l[k] _ HO.out (by omega) HB.out.size).mono ?_
   rintro e w2 ⟨rfl, ho2, hb2⟩
   have HB2 := qb (HB.out.trans hb2)
   have HO2 := qb ho2
   clear hb2 ho2
   go_wp2
   go_roundw
   case rel => exact ⟨k + 1, by omega, by go_num, by rw [HS.out, HE.out]; exact HO2.out, HB2.out⟩
   (case measure => simp [intOf]; omega)
  ·have hf1 : (f != []) = true := by simpa using hf
   have hf2 : List.isEmpty f = false := by simpa using hf
   have hf3 : (f == []) = false := by simpa using hf
   have HE : Hid (g = f) := by show _ = _; rw [HF.out, if_neg hf]
   rw [HE.out] at hlen2
   clear hf
   go_wp2_with (first | (go_at_call 148; refine qf (HC.out _) ?_))
   refine (xS _ _ acc f _ HO.out (by omega) HB.out.size).mono ?_
   rintro e w2 ⟨rfl, ho2, hb2⟩
   have HB2 := qb (HB.out.trans hb2)
   have HO2 := qb ho2
   clear hb2 ho2
   go_wp2
   go_roundw
   case rel => exact ⟨k + 1, by omega, by go_num, by rw [HS.out, HE.out]; exact HO2.out, HB2.out⟩
   (case measure => simp [intOf]; omega)
 ·have hkn : k = l.length := by omega
  subst hkn
  rw [List.take_length] at HO
  go_wp2_with fail
  refine (ve _ _ _ _ HO.out HB.out.size).mono ?_
  rintro e w2 ⟨rfl, hb2⟩
  have HB2 := qb (HB.out.trans hb2)
  clear hb2
  go_wp2
  go_ret
  exact ⟨rfl, HB2.out⟩
theorem Xx (l : Tx) (hl : l.length <= 1073741824) (w : World) :
  Calls Tryz.prog 118 #[.string ⟨l.toArray⟩] w fun e w' => e = .returned (.string ⟨(zp l).toArray⟩) /\ Below w.heap.size w w' := by
 have HP := qb (fun w => yv l [45, 95, 46, 126, 47, 58, 63, 61, 38, 37, 35, 64, 43, 44, 59] hl (by simp [maxLen]) w)
 have HE : Hid (zF [45, 95, 46, 126, 47, 58, 63, 61, 38, 37, 35, 64, 43, 44, 59] l = zp l) := rfl
 rw [HE.out] at HP
 generalize zp l = x at *
 clear hl HE
 go_enter func118, ntmps118
 go_wp2_with fail
 refine (HP.out _).mono ?_
 rintro e w2 ⟨rfl, hb2⟩
 have HB2 := qb hb2
 clear hb2
 go_wp2
 go_ret
 exact ⟨rfl, HB2.out⟩
theorem Zb : ∀ l : Tx, decide (0 <= Lib.indexAny l [47, 63]) = l.any sep
 | [] => rfl
 | b :: t => by
  have ih := Zb t
  have hge := Lib.indexAny_ge [47, 63] t
  have hb : ∀ d : UInt8, (b == d) = decide ((b.toNat : Int) = (d.toNat : Int)) := fun d => by
   rw [Bool.eq_iff_iff, beq_iff_eq, decide_eq_true_eq]
   constructor
   ·rintro rfl; rfl
   intro h; exact UInt8.toNat_inj.1 (by omega)
  have hc : ([47, 63] : Tx).contains b = sep b := by
   show (b == 47 || (b == 63 || false)) = (decide ((b.toNat : Int) = 47) || decide ((b.toNat : Int) = 63))
   rw [Bool.or_false, hb, hb]
   rfl
  unfold Lib.indexAny
  rw [hc, List.any_cons, <- ih]
  cases sep b
  ·simp only [Bool.false_eq_true, if_false, Bool.false_or]
   by_cases h : Lib.indexAny t [47, 63] = -1
   ·simp [h]
   have h1 : (Lib.indexAny t [47, 63] == -1) = false := by simpa using h
   rw [h1]
   simp only [Bool.false_eq_true, if_false]
   rw [decide_eq_decide]
   omega
  simp
theorem any_sep (l : Tx) (hl : l.length <= 1073741824) (ha : l.all zw = true) (w : World) :
  Calls Tryz.prog 174 #[.string ⟨l.toArray⟩, .string ⟨#[47, 63]⟩] w fun e w' => e = .returned (.bool (l.any sep)) /\ Below w.heap.size w w' := by
 refine (Tryz.strings_ContainsAny_laid ⟨l.toArray⟩ ⟨#[47, 63]⟩ w (by show l.toArray.size < _; simp; omega) (by decide) ?_ ?_).mono ?_
 ·intro j b hj
  have h2 := List.all_eq_true.1 ha b (List.mem_of_getElem? (by simpa using hj))
  simp [zw] at h2
  omega
 ·intro j b hj
  have hj' : ([47, 63] : Tx)[j]? = some b := hj
  have := List.mem_of_getElem? hj'
  simp at this
  rcases this with rfl | rfl <;> decide
 rintro e w' ⟨rfl, hb⟩
 refine ⟨?_, hb⟩
 have : Lib.containsAny l [47, 63] = l.any sep := Zb l
 rw [<- this]
theorem Zc (l : Tx) : ∀ k, k <= l.length -> (l.take k).any sep = true -> ∃ j, ∃ h : j < l.length, j < k /\ sep l[j] = true /\ (l.take j).any sep = false
 | 0, _, h => by simp at h
 | k + 1, hk, h => by
  rw [zu l k (by omega), List.any_append] at h
  cases hq : (l.take k).any sep
  ·rw [hq, Bool.false_or] at h
   exact ⟨k, by omega, by omega, by simpa using h, hq⟩
  obtain ⟨j, h1, h2, h3, h4⟩ := Zc l k (by omega) hq
  exact ⟨j, h1, by omega, h3, h4⟩
theorem kR {l : Tx} {j : Nat} (hs : (l.take j).any sep = false) (hc : ∀ i (h : i < l.length), i < j -> qZ l[i] = false) : (l.take j).all (fun c => !(qZ c || sep c)) = true := by
 refine List.all_eq_true.2 fun c hc2 => ?_
 obtain ⟨i, hi, rfl⟩ := List.mem_iff_getElem.1 hc2
 rw [List.length_take] at hi
 have h1 : sep (l.take j)[i] = false := by
  cases h : sep (l.take j)[i]
  ·rfl
  rw [List.any_eq_true.2 ⟨_, hc2, h⟩] at hs; cases hs
 rw [h1, Bool.or_false]
 have h2 := hc i (by omega) (by omega)
 rw [List.getElem_take, h2]
 rfl
theorem Zd (l : Tx) (k : Nat) (hk : k <= l.length) (hc : ∀ i (h : i < l.length), i < k -> qZ l[i] = false) (hs : (l.take k).any sep = true) : qV l = [] := by
 obtain ⟨j, h1, h2, h3, h4⟩ := Zc l k hk hs
 exact yD l j h1 (kR h4 (fun i h hi => hc i h (by omega))) h3 (hc j h1 h2)
theorem Xy (l : Tx) (hc : ∀ i (h : i < l.length), qZ l[i] = false) : qV l = [] := by
 cases hs : (l.take l.length).any sep
 ·refine yC l ?_
  have h := kR hs (fun i h _ => hc i h)
  rwa [List.take_length] at h
 exact Zd l l.length (Nat.le_refl _) (fun i h _ => hc i h) hs
theorem kS (c : UInt8) : qZ c = (c == 58) := by
 unfold qZ
 rw [Bool.eq_iff_iff, beq_iff_eq, decide_eq_true_eq]
 constructor
 ·intro h; exact UInt8.toNat_inj.1 (by have : (58 : UInt8).toNat = 58 := rfl; omega)
 rintro rfl; rfl
theorem Ze (c : UInt8) (l : Tx) (i : Nat) (h : i < l.length) (hi : i < at_ c l) : (l[i] == c) = false := by
 have := List.not_of_lt_findIdx (p := fun x => x == c) (xs := l) (i := i) hi
 simpa using this
theorem Xz (l : Tx) (hl : l.length <= 1073741824) (ha : l.all zw = true) (w : World) :
  Calls Tryz.prog 150 #[.string ⟨l.toArray⟩] w fun e w' => e = .returned (.string ⟨(qV l).toArray⟩) /\ Below w.heap.size w w' := by
 have hix := ki 58 l
 by_cases hlt : at_ 58 l < l.length
 case neg =>
  have HI : Hid (∀ w, Calls Tryz.prog 173 #[.string ⟨l.toArray⟩, .int .u8 58] w fun e w' => e = .returned (.int .i64 (-1)) /\ w = w') := fun w => (Tryz.strings_IndexByte ⟨l.toArray⟩ 58 w).mono fun _ _ ⟨a, b⟩ => ⟨by rw [a]; exact qA (hix.trans (if_neg hlt)), b.symm⟩
  have HE : Hid (qV l = []) := Xy l fun i h => by
   rw [kS]
   exact Ze 58 l i h (by have := kh 58 l; omega)
  clear hix hlt ha
  generalize qV l = sc at *
  go_enter func150, ntmps150
  go_wp2_with fail
  refine (HI.out _).mono ?_
  rintro e w' ⟨rfl, rfl⟩
  go_wp2
  go_ret
  exact ⟨qM HE.out.symm, Below.refl _ _⟩
 have HI : Hid (∀ w, Calls Tryz.prog 173 #[.string ⟨l.toArray⟩, .int .u8 58] w fun e w' => e = .returned (.int .i64 (at_ 58 l : Int)) /\ w = w') := fun w => (Tryz.strings_IndexByte ⟨l.toArray⟩ 58 w).mono fun _ _ ⟨a, b⟩ => ⟨by rw [a]; exact qA (hix.trans (if_pos hlt)), b.symm⟩
 have HCN : Hid (∀ i (h : i < l.length), i < at_ 58 l -> qZ l[i] = false) := fun i h hi => by rw [kS]; exact Ze 58 l i h hi
 have HCC : Hid (qZ l[at_ 58 l] = true) := by
  show _ = _
  rw [kS]
  have h3 := List.findIdx_getElem (w := hlt) (p := fun x => x == 58) (xs := l)
  exact h3
 generalize at_ 58 l = k at *
 have HA := qb (fun w => any_sep (l.take k) (by rw [List.length_take]; omega) (List.all_eq_true.2 fun c hc => List.all_eq_true.1 ha c (List.mem_of_mem_take hc)) w)
 clear hix
 cases hs : (l.take k).any sep
 case true =>
  have HE := qb (Zd l k (by omega) HCN.out hs)
  rw [hs] at HA
  clear hs ha HCC
  generalize qV l = sc at *
  go_enter func150, ntmps150
  go_wp2_with fail
  refine (HI.out _).mono ?_
  rintro e w' ⟨rfl, rfl⟩
  go_wp2_with fail
  refine (HA.out _).mono ?_
  rintro e w2 ⟨rfl, hb⟩
  have HB2 := qb hb
  clear hb
  go_wp2
  go_ret
  exact ⟨qM HE.out.symm, HB2.out⟩
 have HE := qb (yE l k hlt (kR hs HCN.out) HCC.out)
 have HLN : Hid ((l.take k).length = k) := by show _ = _; rw [List.length_take]; omega
 rw [hs] at HA
 clear hs ha HCN HCC
 generalize qV l = sc at *
 go_enter func150, ntmps150
 go_wp2_with fail
 refine (HI.out _).mono ?_
 rintro e w' ⟨rfl, rfl⟩
 go_wp2_with fail
 refine (HA.out _).mono ?_
 rintro e w2 ⟨rfl, hb⟩
 have HB2 := qb hb
 clear hb
 go_wp2
 go_loop [4] (fun i => ∃ j : Nat, j <= k /\ i = .int .i64 j /\ ((l.take k).drop j).all zk = (l.take k).all zk) (fun i => k - (intOf i).toNat)
 case atStart => exact ⟨0, Nat.zero_le _, rfl, rfl⟩
 obtain ⟨j, hj, rfl, hall⟩ := hrel
 have HJ := qb hall
 clear hall
 by_cases hjt : j < k
 ·have hjl : j < l.length := by omega
  have hjk : j < (l.take k).length := by rw [HLN.out]; exact hjt
  have HGT : Hid ((l.take k)[j]'hjk = l[j]) := by show _ = _; rw [List.getElem_take]
  have HLB := qb (fun w => zg l[j] w)
  have HDB := qb (fun w => zf l[j] w)
  have HY : Hid (zk l[j] = true -> ((l.take k).drop (j + 1)).all zk = (l.take k).all zk) := fun h => jD HJ.out hjk (by rw [HGT.out]; exact h)
  have HZ : Hid (zk l[j] = false -> sc = [63]) := fun h => by
   have h2 := jU HJ.out hjk (by rw [HGT.out]; exact h)
   rw [HE.out, <- h2]
   split <;> rfl
  clear HGT hjk
  cases h1 : qu l[j]
  case true =>
   have HT := qb h1
   have HX := qb (HY.out (by unfold zk; rw [h1]; rfl))
   clear h1 HY HZ
   go_wp2_with (first | (go_at_call 169; refine qf (HLB.out _) ?_; rw [HT.out]))
   go_round
   case rel => exact ⟨j + 1, by omega, by go_num, HX.out⟩
   (case measure => simp [intOf]; omega)
  have HT := qb h1
  cases h2 : qK l[j]
  case true =>
   have HD := qb h2
   have HX := qb (HY.out (by unfold zk; rw [h2, Bool.or_true]))
   clear h1 h2 HY HZ
   go_wp2_with (first | (go_at_call 169; refine qf (HLB.out _) ?_; rw [HT.out]) | (go_at_call 144; refine qf (HDB.out _) ?_; rw [HD.out]))
   go_round
   case rel => exact ⟨j + 1, by omega, by go_num, HX.out⟩
   (case measure => simp [intOf]; omega)
  have HD := qb h2
  have HX := qb (HZ.out (by unfold zk; rw [h1, h2]; rfl))
  clear h1 h2 HY HZ
  go_wp2_with (first | (go_at_call 169; refine qf (HLB.out _) ?_; rw [HT.out]) | (go_at_call 144; refine qf (HDB.out _) ?_; rw [HD.out]))
  go_ret
  exact ⟨qM HX.out.symm, HB2.out⟩
 have HAL := qb (jV HJ.out (by rw [HLN.out]; exact hjt))
 by_cases hk0 : k = 0
 ·subst hk0
  have HX : Hid (sc = [63]) := by show _ = _; rw [HE.out, List.take_zero]; rfl
  go_wp2
  go_ret
  exact ⟨qM HX.out.symm, HB2.out⟩
 have HX : Hid (sc = qW (l.take k)) := by
  show _ = _
  rw [HE.out, <- HAL.out, if_pos rfl, if_neg]
  intro h
  have h5 := congrArg List.length (eq_of_beq h)
  rw [HLN.out] at h5
  exact hk0 h5
 have HL := qb (fun w => xA (l.take k) (by rw [List.length_take]; omega) w)
 have k0 : ((k : Int) == 0) = false := by simpa using hk0
 clear hk0
 go_wp2_with fail
 refine (HL.out _).mono ?_
 rintro e w3 ⟨rfl, hb⟩
 have HB3 := qb (qa3 HB2.out hb)
 clear hb
 go_wp2
 go_ret
 exact ⟨qM HX.out.symm, HB3.out⟩
theorem XA (l : Tx) (hl : l.length <= 1073741824) (ha : l.all zw = true) (w : World) :
  Calls Tryz.prog 117 #[.string ⟨l.toArray⟩] w fun e w' => e = .returned (.bool (zO l)) /\ Below w.heap.size w w' := by
 have HS := qb (fun w => Xz l hl ha w)
 have HE : Hid (zO l = (qV l == [] || (qV l == http || (qV l == xf || qV l == xg)))) := rfl
 generalize zO l = r at *
 generalize qV l = s at *
 unfold http xf xg at HE
 by_cases h0 : s = []
 ·subst h0
  have HR : Hid (r = true) := by show _ = _; rw [HE.out]; rfl
  go_enter func117, ntmps117
  go_wp2_with fail
  refine (HS.out _).mono ?_
  rintro e w2 ⟨rfl, hb⟩
  have HB2 := qb hb
  clear hb
  go_wp2
  go_ret
  exact ⟨qw HR.out.symm, HB2.out⟩
 have e0 : (s == []) = false := by simpa using h0
 have e1 : List.isEmpty s = false := by simpa using h0
 rw [e0, Bool.false_or] at HE
 clear h0
 generalize hq1 : (s == [104, 116, 116, 112]) = q1 at *
 generalize hq2 : (s == [104, 116, 116, 112, 115]) = q2 at *
 generalize hq3 : (s == [109, 97, 105, 108, 116, 111]) = q3 at *
 cases q1 <;> cases q2
 all_goals
  go_enter func117, ntmps117
  go_wp2_with fail
  refine (HS.out _).mono ?_
  rintro e w2 ⟨rfl, hb⟩
  have HB2 := qb hb
  clear hb
  cases q3
  all_goals (go_wp2; go_ret; exact ⟨qw (by rw [HE.out]; rfl), HB2.out⟩)
theorem XB (l : Tx) (hl : l.length <= 1073741824) (w : World) :
  Calls Tryz.prog 120 #[.string ⟨l.toArray⟩] w fun e w' => e = .returned (.string ⟨(escS l).toArray⟩) /\ Below w.heap.size w w' := by
 unfold escS
 go_enter func120, ntmps120
 go_wp2
 go_loopw [4] (fun i wr => ∃ k : Nat, k <= l.length /\ i = .int .i64 k /\ Bld w.heap.size w.heap.size ((l.take k).flatMap scrB) wr /\ Below w.heap.size w wr) (fun i _ => l.length - (intOf i).toNat)
 case atStart =>
  refine ⟨0, Nat.zero_le _, rfl, ?_, (Below.refl _ _).alloc (Nat.le_refl _) _⟩
  exact .inl ⟨Nat.le_refl _, _, heap_alloc_new w _, World.ownsRow_nil _ _ _ _, by simp [Value.ownBlock]⟩
 obtain ⟨k, hk, rfl, ho, hb⟩ := hrel
 have HB := qb hb
 have HO := qb ho
 have hsz := hb.size
 clear hb ho
 by_cases hlt : k < l.length
 ·have HS := qb (xc scrB l k hlt)
  have hlen := zU scrB 4 xh l k
  have hlen2 := zU scrB 4 xh l (k + 1)
  rw [HS.out, List.length_append] at hlen2
  generalize (l.take k).flatMap scrB = acc at *
  have HK := qb (fun w => kG [92, 34, 39, 60, 62, 38] l[k] (by simp [maxLen]) w)
  have HF : Hid (scrB l[k] = if jA l[k] then [92, 120, Yd (l[k].toNat / 16), Yd (l[k].toNat % 16)] else [l[k]]) := rfl
  have HG : Hid (jA l[k] = (decide ((l[k].toNat : Int) < 32) || (decide (126 < (l[k].toNat : Int)) || hasB [92, 34, 39, 60, 62, 38] l[k]))) := rfl
  have HX := qb (And.intro (xL l[k]) (xM l[k]))
  generalize scrB l[k] = g at *
  by_cases h32 : (l[k].toNat : Int) < 32
  ·have HE : Hid (g = [92, 120, Yd (l[k].toNat / 16), Yd (l[k].toNat % 16)]) := by show _ = _; rw [HF.out, HG.out, decide_eq_true h32]; rfl
   have h3 : ([92, 120, Yd (l[k].toNat / 16), Yd (l[k].toNat % 16)] : Tx).length = 4 := rfl
   rw [HE.out, h3] at hlen2
   clear h3 HF HG
   go_wp2_with (first | (go_at_call 152; refine qf (HK.out _) ?_; rw [H3.out]))
   refine (xS _ _ acc [92, 120] _ HO.out (by simp; omega) HB.out.size).mono ?_
   rintro e w2 ⟨rfl, ho2, hb2⟩
   have HB2 := qb (HB.out.trans hb2)
   have HO2 := qb ho2
   clear hb2 ho2
   have hq1 : l[k].toNat / 16 < 16 := HX.out.1
   have hq2 : (l[k].toNat : Int) / 16 < 16 := by omega
   have hq3 : l[k].toNat % 16 < 16 := HX.out.2
   have hq4 : (l[k].toNat : Int) % 16 < 16 := by omega
   go_wp2_with fail
   refine (zM _ _ (acc ++ [92, 120]) _ _ HO2.out (by simp; omega) HB2.out.size).mono ?_
   rintro e w3 ⟨rfl, ho3, hb3⟩
   have HB3 := qb (HB2.out.trans hb3)
   have HO3 := qb ho3
   clear hb3 ho3
   go_wp2_with fail
   refine (zM _ _ _ _ _ HO3.out (by simp; omega) HB3.out.size).mono ?_
   rintro e w4 ⟨rfl, ho4, hb4⟩
   have HB4 := qb (HB3.out.trans hb4)
   have HO4 := qb ho4
   clear hb4 ho4
   go_wp2
   go_roundw
   case rel =>
    refine ⟨k + 1, by omega, by go_num, ?_, HB4.out⟩
    have h := HO4.out
    have e1 := jL (l[k].toNat / 16) hq1
    have e2 := jL (l[k].toNat % 16) hq3
    unfold jo at e1 e2
    rw [e1, e2] at h
    rw [HS.out, HE.out]
    simpa using h
   case measure => simp [intOf]; omega
  by_cases h126 : 126 < (l[k].toNat : Int)
  ·have HE : Hid (g = [92, 120, Yd (l[k].toNat / 16), Yd (l[k].toNat % 16)]) := by show _ = _; rw [HF.out, HG.out, decide_eq_true h126, Bool.true_or, Bool.or_true]; rfl
   have h3 : ([92, 120, Yd (l[k].toNat / 16), Yd (l[k].toNat % 16)] : Tx).length = 4 := rfl
   rw [HE.out, h3] at hlen2
   clear h3 HF HG
   go_wp2_with (first | (go_at_call 152; refine qf (HK.out _) ?_; rw [H3.out]))
   refine (xS _ _ acc [92, 120] _ HO.out (by simp; omega) HB.out.size).mono ?_
   rintro e w2 ⟨rfl, ho2, hb2⟩
   have HB2 := qb (HB.out.trans hb2)
   have HO2 := qb ho2
   clear hb2 ho2
   have hq1 : l[k].toNat / 16 < 16 := HX.out.1
   have hq2 : (l[k].toNat : Int) / 16 < 16 := by omega
   have hq3 : l[k].toNat % 16 < 16 := HX.out.2
   have hq4 : (l[k].toNat : Int) % 16 < 16 := by omega
   go_wp2_with fail
   refine (zM _ _ (acc ++ [92, 120]) _ _ HO2.out (by simp; omega) HB2.out.size).mono ?_
   rintro e w3 ⟨rfl, ho3, hb3⟩
   have HB3 := qb (HB2.out.trans hb3)
   have HO3 := qb ho3
   clear hb3 ho3
   go_wp2_with fail
   refine (zM _ _ _ _ _ HO3.out (by simp; omega) HB3.out.size).mono ?_
   rintro e w4 ⟨rfl, ho4, hb4⟩
   have HB4 := qb (HB3.out.trans hb4)
   have HO4 := qb ho4
   clear hb4 ho4
   go_wp2
   go_roundw
   case rel =>
    refine ⟨k + 1, by omega, by go_num, ?_, HB4.out⟩
    have h := HO4.out
    have e1 := jL (l[k].toNat / 16) hq1
    have e2 := jL (l[k].toNat % 16) hq3
    unfold jo at e1 e2
    rw [e1, e2] at h
    rw [HS.out, HE.out]
    simpa using h
   case measure => simp [intOf]; omega
  rw [decide_eq_false h32, decide_eq_false h126, Bool.false_or, Bool.false_or] at HG
  cases hq : hasB [92, 34, 39, 60, 62, 38] l[k]
  case true =>
   have HE : Hid (g = [92, 120, Yd (l[k].toNat / 16), Yd (l[k].toNat % 16)]) := by show _ = _; rw [HF.out, HG.out, hq]; rfl
   have h3 : ([92, 120, Yd (l[k].toNat / 16), Yd (l[k].toNat % 16)] : Tx).length = 4 := rfl
   rw [HE.out, h3] at hlen2
   have H3 := qb hq
   clear h3 HF HG hq
   go_wp2_with (first | (go_at_call 152; refine qf (HK.out _) ?_; rw [H3.out]))
   refine (xS _ _ acc [92, 120] _ HO.out (by simp; omega) HB.out.size).mono ?_
   rintro e w2 ⟨rfl, ho2, hb2⟩
   have HB2 := qb (HB.out.trans hb2)
   have HO2 := qb ho2
   clear hb2 ho2
   have hq1 : l[k].toNat / 16 < 16 := HX.out.1
   have hq2 : (l[k].toNat : Int) / 16 < 16 := by omega
   have hq3 : l[k].toNat % 16 < 16 := HX.out.2
   have hq4 : (l[k].toNat : Int) % 16 < 16 := by omega
   go_wp2_with fail
   refine (zM _ _ (acc ++ [92, 120]) _ _ HO2.out (by simp; omega) HB2.out.size).mono ?_
   rintro e w3 ⟨rfl, ho3, hb3⟩
   have HB3 := qb (HB2.out.trans hb3)
   have HO3 := qb ho3
   clear hb3 ho3
   go_wp2_with fail
   refine (zM _ _ _ _ _ HO3.out (by simp; omega) HB3.out.size).mono ?_
   rintro e w4 ⟨rfl, ho4, hb4⟩
   have HB4 := qb (HB3.out.trans hb4)
   have HO4 := qb ho4
   clear hb4 ho4
   go_wp2
   go_roundw
   case rel =>
    refine ⟨k + 1, by omega, by go_num, ?_, HB4.out⟩
    have h := HO4.out
    have e1 := jL (l[k].toNat / 16) hq1
    have e2 := jL (l[k].toNat % 16) hq3
    unfold jo at e1 e2
    rw [e1, e2] at h
    rw [HS.out, HE.out]
    simpa using h
   case measure => simp [intOf]; omega
  have HE : Hid (g = [l[k]]) := by show _ = _; rw [HF.out, HG.out, hq]; rfl
  rw [HE.out, List.length_singleton] at hlen2
  have H3 := qb hq
  clear HF HG hq HX
  go_wp2_with (first | (go_at_call 152; refine qf (HK.out _) ?_; rw [H3.out]))
  refine (zM _ _ acc l[k] _ HO.out (by omega) HB.out.size).mono ?_
  rintro e w2 ⟨rfl, ho2, hb2⟩
  have HB2 := qb (HB.out.trans hb2)
  have HO2 := qb ho2
  clear hb2 ho2
  go_wp2
  go_roundw
  case rel => exact ⟨k + 1, by omega, by go_num, by rw [HS.out, HE.out]; exact HO2.out, HB2.out⟩
  (case measure => simp [intOf]; omega)
 ·have hkn : k = l.length := by omega
  subst hkn
  rw [List.take_length] at HO
  go_wp2_with fail
  refine (ve _ _ _ _ HO.out HB.out.size).mono ?_
  rintro e w2 ⟨rfl, hb2⟩
  have HB2 := qb (HB.out.trans hb2)
  clear hb2
  go_wp2
  go_ret
  exact ⟨rfl, HB2.out⟩
theorem XC (p : Int) (s : Tx) (hl : s.length <= 1048576) (ha : s.all zw = true) (w : World) :
  Calls Tryz.prog 73 #[.int .i64 p, sv s] w fun e w' => e = .returned (sv (zP p s)) /\ Below w.heap.size w w' := by
 have HS : Hid (zP p s = if p = 1 \/ p = 2 then escT s else if p = 3 then (if zO s then escT (zp s) else [35]) else if p = 4 then zm s else if p = 5 then escS s else []) := rfl
 have hpl := kx s
 generalize zP p s = r at *
 by_cases h1 : p = 1
 ·subst h1
  have HE : Hid (r = escT s) := HS.out
  have HC := qb (fun w => kQ s (by omega) w)
  generalize escT s = x at *
  go_enter func73, ntmps73
  go_wp2_with fail
  refine (HC.out _).mono ?_
  rintro e w2 ⟨rfl, hb⟩
  have HB2 := qb hb
  clear hb
  go_wp2
  go_ret
  exact ⟨qM HE.out.symm, HB2.out⟩
 have n1 : (p == 1) = false := by simpa using h1
 by_cases h2 : p = 2
 ·subst h2
  have HE : Hid (r = escT s) := HS.out
  have HC := qb (fun w => kQ s (by omega) w)
  generalize escT s = x at *
  go_enter func73, ntmps73
  go_wp2_with fail
  refine (HC.out _).mono ?_
  rintro e w2 ⟨rfl, hb⟩
  have HB2 := qb hb
  clear hb
  go_wp2
  go_ret
  exact ⟨qM HE.out.symm, HB2.out⟩
 have n2 : (p == 2) = false := by simpa using h2
 rw [if_neg (by omega)] at HS
 by_cases h3 : p = 3
 ·subst h3
  rw [if_pos rfl] at HS
  have HA := qb (fun w => XA s (by omega) ha w)
  cases hs : zO s
  ·have HE : Hid (r = [35]) := by show _ = _; rw [HS.out, hs]; rfl
   rw [hs] at HA
   clear hs
   go_enter func73, ntmps73
   go_wp2_with fail
   refine (HA.out _).mono ?_
   rintro e w2 ⟨rfl, hb⟩
   have HB2 := qb hb
   clear hb
   go_wp2
   go_ret
   exact ⟨qM HE.out.symm, HB2.out⟩
  have HE : Hid (r = escT (zp s)) := by show _ = _; rw [HS.out, hs]; rfl
  rw [hs] at HA
  clear hs
  have HP := qb (fun w => Xx s (by omega) w)
  have HC := qb (fun w => kQ (zp s) (by omega) w)
  generalize escT (zp s) = x at *
  generalize zp s = y at *
  go_enter func73, ntmps73
  go_wp2_with fail
  refine (HA.out _).mono ?_
  rintro e w2 ⟨rfl, hb⟩
  have HB2 := qb hb
  clear hb
  go_wp2_with fail
  refine (HP.out _).mono ?_
  rintro e w3 ⟨rfl, hb⟩
  have HB3 := qb (qa3 HB2.out hb)
  clear hb
  go_wp2_with fail
  refine (HC.out _).mono ?_
  rintro e w4 ⟨rfl, hb⟩
  have HB4 := qb (qa3 HB3.out hb)
  clear hb
  go_wp2
  go_ret
  exact ⟨qM HE.out.symm, HB4.out⟩
 have n3 : (p == 3) = false := by simpa using h3
 rw [if_neg h3] at HS
 by_cases h4 : p = 4
 ·subst h4
  have HE : Hid (r = zm s) := HS.out
  have HC := qb (fun w => JI s (by omega) w)
  generalize zm s = x at *
  go_enter func73, ntmps73
  go_wp2_with fail
  refine (HC.out _).mono ?_
  rintro e w2 ⟨rfl, hb⟩
  have HB2 := qb hb
  clear hb
  go_wp2
  go_ret
  exact ⟨qM HE.out.symm, HB2.out⟩
 have n4 : (p == 4) = false := by simpa using h4
 rw [if_neg h4] at HS
 by_cases h5 : p = 5
 ·subst h5
  have HE : Hid (r = escS s) := HS.out
  have HC := qb (fun w => XB s (by omega) w)
  generalize escS s = x at *
  go_enter func73, ntmps73
  go_wp2_with fail
  refine (HC.out _).mono ?_
  rintro e w2 ⟨rfl, hb⟩
  have HB2 := qb hb
  clear hb
  go_wp2
  go_ret
  exact ⟨qM HE.out.symm, HB2.out⟩
 have n5 : (p == 5) = false := by simpa using h5
 rw [if_neg h5] at HS
 clear h1 h2 h3 h4 h5
 go_enter func73, ntmps73
 go_wp2
 go_ret
 exact ⟨qM HS.out.symm, Below.refl _ _⟩
end Go.Proofs.YtmboieajfdkllaaGreat
