import Derived.Test.YtmboieajfdkllaaGreatU01
import Derived.Deep.QuietTactic
import Derived.BigQuiet
import Derived.Deep.CutBlock
import Derived.RegionTactic
import Derived.Test.YtmboieajfdkllaaGreatU02
set_option maxHeartbeats 8000000
set_option maxRecDepth 100000
open Go.Proofs.Tryz
namespace Go.Proofs.YtmboieajfdkllaaGreat
def hexs : Tx := [48, 49, 50, 51, 52, 53, 54, 55, 56, 57, 65, 66, 67, 68, 69, 70]
def hexD (n : Nat) : UInt8 := hexs.getD n 0
def qu (c : UInt8) : Bool := zi c || isUp c
def jr (c : UInt8) : Bool := qu c || qK c || decide ((c.toNat : Int) = 45) || decide ((c.toNat : Int) = 95) || decide ((c.toNat : Int) = 46) || decide ((c.toNat : Int) = 126)
def hex3 (c : UInt8) : Tx := [37, hexD (c.toNat / 16), hexD (c.toNat % 16)]
def ji (c : UInt8) : Tx := if jr c then [c] else hex3 c
def zm (l : Tx) : Tx := l.flatMap ji
theorem Xf (l : Tx) (k : Nat) (h : k < l.length) : zm (l.take (k + 1)) = zm (l.take k) ++ ji l[k] := by
 unfold zm
 rw [List.take_add_one, List.getElem?_eq_getElem h, List.flatMap_append]
 simp
theorem Xg (c : UInt8) : (ji c).length <= 3 := by unfold ji hex3; split <;> simp
theorem kL : ∀ l : Tx, (zm l).length <= 3 * l.length
 | [] => by simp [zm]
 | c :: t => by
  have h1 := Xg c
  have h2 := kL t
  unfold zm at *
  rw [List.flatMap_cons, List.length_append, List.length_cons]
  omega
theorem yG (l : Tx) (k : Nat) : (zm (l.take k)).length <= 3 * l.length := by
 have h := kL (l.take k)
 have h2 : (l.take k).length <= l.length := by rw [List.length_take]; omega
 omega
theorem Xh : ∀ k, k < 16 -> (hexs.take (k + 1)).drop k = [hexD k] := by decide
theorem yH (k : Nat) (h : k < hexs.length) : hexs[k] = hexD k := by simp [hexD, h]
theorem xL (c : UInt8) : c.toNat / 16 < 16 := by have := c.toNat_lt; omega
theorem xM (c : UInt8) : c.toNat % 16 < 16 := by omega
open Go.RowKit
def lowB (c : UInt8) : UInt8 := if isUp c then c + 32 else c
def qW (l : Tx) : Tx := l.map lowB
def MRow (w : World) (g : Nat) (cur : Array Value) : Prop := w.heap[g]? = some (.cells cur 5 (cur.size, cur.size + 1))
theorem MRow.cell {w : World} {g : Nat} {cur : Array Value} (h : MRow w g cur) (j : Nat) : w.cell? ⟨g, j, none⟩ = cur[j]? := cell_of_row w g j cur _ _ h
theorem MRow.free {w : World} {g : Nat} {cur : Array Value} (h : MRow w g cur) (j : Nat) (hj : j < cur.size) : w.frozen? ⟨g, j, none⟩ = false := by
 unfold MRow at h
 simp [World.frozen?, h]
 omega
theorem MRow.set {w : World} {g : Nat} {cur : Array Value} (h : MRow w g cur) (j : Nat) (u : Value) : MRow (w.setCell ⟨g, j, none⟩ u) g (cur.setIfInBounds j u) := by
 unfold MRow at h ⊢
 simp [World.setCell, Array.getElem?_modify, h]
theorem Wa {c : UInt8} (h : isUp c = true) : ((lowB c).toNat : Int) = (c.toNat : Int) + 32 := by
 have h' := h
 simp [isUp] at h'
 rw [lowB, if_pos h, UInt8.toNat_add]
 have : (32 : UInt8).toNat = 32 := rfl
 omega
theorem ye {c : UInt8} (h : isUp c = false) : lowB c = c := by rw [lowB, if_neg (by simp [h])]
theorem xA (l : Tx) (hl : l.length <= 4294967296) (w : World) :
  Calls Tryz.prog 67 #[.string ⟨l.toArray⟩] w fun e w' => e = .returned (.string ⟨(qW l).toArray⟩) /\ Below w.heap.size w w' := by
 have hcv := run_bytes_of_string (P := Tryz.prog) w 9 44 5 ⟨l.toArray⟩ underlying9 underlying44 underlying5
 have hsz : (⟨l.toArray⟩ : ByteArray).size = l.length := by simp [ByteArray.size]
 rw [hsz] at hcv
 obtain ⟨cap, hcap⟩ : ∃ cap, cap = grownCap w l.length 0 5 := ⟨_, rfl⟩
 rw [<- hcap] at hcv
 obtain ⟨M, hM⟩ : ∃ M, M = bytesRow ⟨l.toArray⟩ cap := ⟨_, rfl⟩
 rw [<- hM] at hcv
 have HM : Hid (M.size ≥ l.length /\ ∀ j (hj : j < l.length), M[j]? = some (.int .u8 (l[j].toNat : Int))) := by
  refine ⟨?_, fun j hj => ?_⟩
  ·rw [hM]; simp [bytesRow]
  rw [hM]; simp [bytesRow, Array.getElem?_append, hj]
 clear hM hcap hsz
 go_enter func67, ntmps67
 go_wp2
 go_loopw [10] (fun i wr => ∃ (k : Nat) (cur : Array Value), k <= l.length /\ i = .int .i64 k /\ MRow wr w.heap.size cur /\ l.length <= cur.size ∧
  (∀ j (hj : j < l.length), cur[j]? = some (.int .u8 (((if j < k then lowB l[j] else l[j]).toNat : Nat) : Int))) /\ Below w.heap.size w wr) (fun i _ => l.length - (intOf i).toNat)
 case atStart =>
  refine ⟨0, M, Nat.zero_le _, rfl, ?_, HM.out.1, fun j hj => by simpa using HM.out.2 j hj, (Below.refl _ _).drew.alloc (by simp) _⟩
  unfold MRow
  exact heap_alloc_new w.drew _
 obtain ⟨k, cur, hk, rfl, hrow, hcs, hcur, hb⟩ := hrel
 have HB := qb hb
 have HC := qb hcur
 have HR := qb hrow
 by_cases hlt : k < l.length
 ·have hx : wr.cell? ⟨w.heap.size, k, none⟩ = some (.int .u8 (l[k].toNat : Int)) := by rw [hrow.cell k, hcur k hlt, if_neg (by omega)]
  have hf := hrow.free k (by omega)
  clear hb hcur hrow
  cases hu : isUp l[k]
  ·have HU := qb hu
   have hu' : (l[k].toNat : Int) < 65 \/ 90 < (l[k].toNat : Int) := by simp [isUp] at hu; omega
   clear hu
   rcases hu' with hu' | hu'
   all_goals
    go_wp2
    go_roundw
    case rel =>
     refine ⟨k + 1, cur, by omega, by go_num, HR.out, hcs, fun j hj => ?_, HB.out⟩
     rw [HC.out j hj]
     by_cases h1 : j < k
     ·rw [if_pos h1, if_pos (by omega)]
     by_cases h2 : j = k
     ·subst h2
      rw [if_neg (by omega), if_pos (by omega), ye HU.out]
     rw [if_neg h1, if_neg (by omega)]
    case measure => simp [intOf]; omega
  have HU := qb hu
  have hu1 : 65 <= (l[k].toNat : Int) := by simp [isUp] at hu; omega
  have hu2 : (l[k].toNat : Int) <= 90 := by simp [isUp] at hu; omega
  clear hu
  go_wp2
  go_roundw
  case rel =>
   refine ⟨k + 1, _, by omega, by go_num, HR.out.set k _, by simpa using hcs, fun j hj => ?_, HB.out.setCell (Nat.le_refl _) _⟩
   by_cases h2 : j = k
   ·subst h2
    rw [Array.getElem?_setIfInBounds, if_pos rfl, if_pos (by omega), if_pos (by omega), Wa HU.out]
   rw [Array.getElem?_setIfInBounds, if_neg (by omega), HC.out j hj]
   by_cases h1 : j < k
   ·rw [if_pos h1, if_pos (by omega)]
   rw [if_neg h1, if_neg (by omega)]
  case measure => simp [intOf]; omega
 have hkl : k = l.length := by omega
 subst hkl
 have hback := run_convert_bytes_back (P := Tryz.prog) wr 44 9 5 ⟨w.heap.size, 0, none⟩ cap (qW l) underlying44 underlying5 underlying9 (fun j hj => by
  have hj' : j < l.length := by simpa [qW] using hj
  rw [Addr.add_lit, Nat.zero_add, hrow.cell j, hcur j hj', if_pos hj']
  simp [qW])
 have hll : (qW l).length = l.length := by simp [qW]
 rw [hll] at hback
 clear hb hcur hrow hll
 go_wp2
 go_ret
 exact ⟨rfl, HB.out⟩
theorem YT (w : World) : Calls Tryz.prog 26 #[] w fun e w' => e = .returned (.bool true) /\ Below w.heap.size w w' := by
 have HC := qb (xA [65, 98] (by decide) w)
 go_enter func26, ntmps26
 go_wp2_with fail
 refine HC.out.mono ?_
 rintro e w1 ⟨rfl, hb1⟩
 have HB := qb hb1
 have e : qW [65, 98] = [97, 98] := by decide
 rw [e]
 clear hb1 e
 go_wp2
 go_ret
 exact ⟨rfl, HB.out⟩
structure St where
 mode : Int
 tag : Tx
 attr : Tx
 seen : Bool
deriving DecidableEq
abbrev stV (m : Int) (t a : Tx) (z : Bool) : Value := .agg #[.int .i64 m, sv t, sv a, .bool z]
abbrev ql (m : Int) (t a : Tx) (z : Bool) : Array Value := #[.int .i64 m, sv t, sv a, .bool z]
namespace St
abbrev v (s : St) : Value := stV s.mode s.tag s.attr s.seen
def bad : St := ⟨15, [], [], false⟩
def zero : St := ⟨0, [], [], false⟩
def inM (m a b : Int) : Bool := decide (a <= m) && decide (m <= b)
def tagOk (m : Int) (t : Tx) : Bool := if inM m 2 8 then qJ t else if m = 9 then (t == [] || qJ t) else t == []
def attrOk (m : Int) (a : Tx) : Bool := if inM m 4 8 then qJ a else a == []
def seenOk (m : Int) (z : Bool) : Bool := if m = 6 \/ m = 7 then true else if m = 8 then z else !z
def valid (s : St) : Bool := inM s.mode 0 15 && (tagOk s.mode s.tag && (attrOk s.mode s.attr && seenOk s.mode s.seen))
def nameB (c : UInt8) : Bool := qu c || qK c || decide ((c.toNat : Int) = 45)
def bareB (c : UInt8) : Bool := qu c || qK c || ([45, 95, 46, 47, 58] : Tx).any fun d => d == c
def more (m : Int) (t a : Tx) : St := if t.length <= 10 /\ a.length <= 10 then ⟨m, t, a, false⟩ else bad
def script : Tx := [115, 99, 114, 105, 112, 116]
def stepTag (m : Int) (t a : Tx) (z : Bool) (b : UInt8) : St :=
 if b = 62 then (if t == script then ⟨11, [], [], false⟩ else zero)
 else if b = 32 then ⟨3, t, [], false⟩
 else if m = 2 then (if nameB b then more 2 (t ++ [lowB b]) a else bad)
 else if m = 3 then (if qu b then more 4 t (a ++ [lowB b]) else bad)
 else if m = 4 then (if nameB b then more 4 t (a ++ [lowB b]) else if b = 61 then ⟨5, t, a, false⟩ else bad)
 else (if bareB b then ⟨8, t, a, z⟩ else bad)
def stepV (s : St) (b : UInt8) : St :=
 if s.mode = 0 then (if b = 60 then ⟨1, [], [], false⟩ else zero)
 else if s.mode = 1 then (if qu b then ⟨2, [lowB b], [], false⟩ else if b = 47 then ⟨9, [], [], false⟩ else if b = 33 then ⟨10, [], [], false⟩ else bad)
 else if s.mode = 5 then (if b = 34 then ⟨6, s.tag, s.attr, false⟩ else if b = 39 then ⟨7, s.tag, s.attr, false⟩ else if bareB b then ⟨8, s.tag, s.attr, true⟩ else bad)
 else if s.mode = 6 then (if b = 34 then ⟨3, s.tag, [], false⟩ else ⟨6, s.tag, s.attr, true⟩)
 else if s.mode = 7 then (if b = 39 then ⟨3, s.tag, [], false⟩ else ⟨7, s.tag, s.attr, true⟩)
 else if s.mode = 9 then (if b = 62 then (if s.tag = [] then bad else zero) else if qu b || (!(s.tag == []) && (qK b || decide ((b.toNat : Int) = 45))) then more 9 (s.tag ++ [lowB b]) [] else bad)
 else if s.mode = 10 then (if b = 62 then zero else s)
 else if s.mode = 11 then (if b = 60 then ⟨14, [], [], false⟩ else if b = 34 then ⟨12, [], [], false⟩ else ⟨11, [], [], false⟩)
 else if s.mode = 14 then (if b = 60 then ⟨14, [], [], false⟩ else if b = 34 then ⟨12, [], [], false⟩ else if b = 47 then ⟨9, [], [], false⟩ else ⟨11, [], [], false⟩)
 else if s.mode = 12 then (if b = 34 then ⟨11, [], [], false⟩ else if b = 92 then ⟨13, [], [], false⟩ else if b = 60 then bad else s)
 else if s.mode = 13 then (if b = 60 then bad else ⟨12, [], [], false⟩)
 else if s.mode = 15 then bad
 else stepTag s.mode s.tag s.attr s.seen b
def step (s : St) (b : UInt8) : St := if s.valid then stepV s b else bad
def after (s : St) (l : Tx) : St := if s.valid then l.foldl step s else bad
theorem after_take (s : St) (l : Tx) (k : Nat) (hk : k < l.length) : (l.take (k + 1)).foldl step s = step ((l.take k).foldl step s) l[k] := by
 rw [zu l k hk, List.foldl_append]; rfl
def Fit (s : St) : Prop := s.tag.length <= 100 /\ s.attr.length <= 100
theorem fit_bad : Fit bad := by simp [Fit, bad]
theorem fit_zero : Fit zero := by simp [Fit, zero]
theorem fit_more (m : Int) (t a : Tx) : Fit (more m t a) := by
 unfold more
 split
 ·rename_i h; exact ⟨by have := h.1; simp only; omega, by have := h.2; simp only; omega⟩
 exact fit_bad
theorem fit_lit {m : Int} {z : Bool} : Fit ⟨m, [], [], z⟩ := by simp [Fit]
theorem fit_tag {s : St} (h : Fit s) {m : Int} {z : Bool} : Fit ⟨m, s.tag, [], z⟩ := ⟨h.1, by simp⟩
theorem fit_both {s : St} (h : Fit s) {m : Int} {z : Bool} : Fit ⟨m, s.tag, s.attr, z⟩ := h
theorem fit_ite {c : Prop} [Decidable c] {x y : St} (hx : Fit x) (hy : Fit y) : Fit (if c then x else y) := by
 split
 ·exact hx
 exact hy
theorem fit_stepTag {s : St} (h : Fit s) (m : Int) (z : Bool) (b : UInt8) : Fit (stepTag m s.tag s.attr z b) := by
 unfold stepTag
 repeat' (first | exact fit_more _ _ _ | apply fit_ite)
 all_goals first
  | exact fit_bad
  | exact fit_zero
  | exact fit_lit
  | exact fit_more _ _ _
  | exact fit_tag h
  | exact fit_both h
theorem fit_step {s : St} (h : Fit s) (b : UInt8) : Fit (step s b) := by
 unfold step
 refine fit_ite ?_ fit_bad
 unfold stepV
 repeat' (first | exact fit_more _ _ _ | exact fit_stepTag (by assumption) _ _ _ | apply fit_ite)
 all_goals first
  | exact fit_bad
  | exact fit_zero
  | exact fit_lit
  | exact fit_more _ _ _
  | exact fit_tag h
  | exact fit_both h
  | exact fit_stepTag h _ _ _
  | exact h
  | (constructor <;> simp)
theorem fit_fold {s : St} (h : Fit s) (l : Tx) : Fit (l.foldl step s) := by
 induction l generalizing s with
 | nil => exact h
 | cons c t ih => exact ih (fit_step h c)
theorem fit_after {s : St} (h : Fit s) (l : Tx) : Fit (after s l) := by
 unfold after
 split
 ·exact fit_fold h l
 exact fit_bad
def href : Tx := [104, 114, 101, 102]
def src : Tx := [115, 114, 99]
def action : Tx := [97, 99, 116, 105, 111, 110]
def style : Tx := [115, 116, 121, 108, 101]
def addrName (a : Tx) : Bool := a == href || (a == src || a == action)
def noName (a : Tx) : Bool := List.isPrefixOf [111, 110] a || a == style
def place (s : St) : Int :=
 if s.valid then
  (if s.mode = 0 then 1 else if s.mode = 12 then 5
  else if s.mode = 6 \/ s.mode = 7 then (if noName s.attr then 0 else if addrName s.attr then (if s.seen then 4 else 3) else 2)
  else 0)
 else 0
def behind (s : St) : St := if place s = 0 then bad else if s.mode = 6 \/ s.mode = 7 then ⟨s.mode, s.tag, s.attr, true⟩ else s
theorem fit_behind {s : St} (h : Fit s) : Fit (behind s) := by
 unfold behind
 repeat' split
 ·exact fit_bad
 ·exact fit_both h
 exact h
theorem behind_bad (s : St) : (behind s).mode = 15 ↔ place s = 0 := by
 unfold behind
 constructor
 ·intro h
  split at h
  ·assumption
  rename_i hp
  split at h
  ·simp only at h
   rename_i h2; rcases h2 with h2 | h2 <;> rw [h2] at h <;> cases h
  exfalso
  apply hp
  unfold place
  rw [h]
  simp
 intro h; rw [if_pos h]; rfl
end St
def zy (c : UInt8) : Tx :=
 if c = 38 then [38, 97, 109, 112, 59] else if c = 60 then [38, 108, 116, 59] else if c = 62 then [38, 103, 116, 59] else if c = 34 then [38, 113, 117, 111, 116, 59] else if c = 39 then [38, 35, 51, 57, 59] else []
def entB (c : UInt8) : Tx := if zy c = [] then [c] else zy c
def escT (l : Tx) : Tx := l.flatMap entB
theorem xc (f : UInt8 -> Tx) (l : Tx) (k : Nat) (h : k < l.length) : (l.take (k + 1)).flatMap f = (l.take k).flatMap f ++ f l[k] := by
 rw [List.take_add_one, List.getElem?_eq_getElem h, List.flatMap_append]
 simp
theorem xd (f : UInt8 -> Tx) (m : Nat) (hf : ∀ c, (f c).length <= m) : ∀ l : Tx, (l.flatMap f).length <= m * l.length
 | [] => by simp
 | c :: t => by
  have h1 := hf c
  have h2 := xd f m hf t
  rw [List.flatMap_cons, List.length_append, List.length_cons, Nat.mul_succ]
  omega
theorem zU (f : UInt8 -> Tx) (m : Nat) (hf : ∀ c, (f c).length <= m) (l : Tx) (k : Nat) : ((l.take k).flatMap f).length <= m * l.length := by
 have h := xd f m hf (l.take k)
 have h2 : (l.take k).length <= l.length := by rw [List.length_take]; omega
 exact Nat.le_trans h (Nat.mul_le_mul_left m h2)
theorem xe (c : UInt8) : (entB c).length <= 6 := by
 unfold entB zy
 repeat' split
 all_goals simp
theorem vM (l : Tx) : (escT l).length <= 6 * l.length := xd entB 6 xe l
def pctB (keep : Tx) (c : UInt8) : Tx := if qu c || qK c || keep.any (fun d => d == c) then [c] else hex3 c
def zp (l : Tx) : Tx := l.flatMap (pctB [45, 95, 46, 126, 47, 58, 63, 61, 38, 37, 35, 64, 43, 44, 59])
theorem kw (keep : Tx) (c : UInt8) : (pctB keep c).length <= 3 := by unfold pctB hex3; split <;> simp
theorem kx (l : Tx) : (zp l).length <= 3 * l.length := xd _ 3 (kw _) l
def zk (c : UInt8) : Bool := qu c || qK c
def sep (c : UInt8) : Bool := decide ((c.toNat : Int) = 47) || decide ((c.toNat : Int) = 63)
def qZ (c : UInt8) : Bool := decide ((c.toNat : Int) = 58)
def jK (s : Tx) : Tx := s.takeWhile fun c => !(qZ c || sep c)
def qV (s : Tx) : Tx := match s.drop (jK s).length with
 | [] => []
 | c :: _ => if qZ c then (if jK s == [] then [63] else if (jK s).all zk then qW (jK s) else [63]) else []
def http : Tx := [104, 116, 116, 112]
def xf : Tx := [104, 116, 116, 112, 115]
def xg : Tx := [109, 97, 105, 108, 116, 111]
def zO (s : Tx) : Bool := qV s == [] || (qV s == http || (qV s == xf || qV s == xg))
def jo : Tx := [48, 49, 50, 51, 52, 53, 54, 55, 56, 57, 97, 98, 99, 100, 101, 102]
def Yd (n : Nat) : UInt8 := jo.getD n 0
def jA (c : UInt8) : Bool := decide ((c.toNat : Int) < 32) || (decide (126 < (c.toNat : Int)) || ([92, 34, 39, 60, 62, 38] : Tx).any fun d => d == c)
def scrB (c : UInt8) : Tx := if jA c then [92, 120, Yd (c.toNat / 16), Yd (c.toNat % 16)] else [c]
def escS (l : Tx) : Tx := l.flatMap scrB
theorem xh (c : UInt8) : (scrB c).length <= 4 := by unfold scrB; split <;> simp
theorem QE (l : Tx) : (escS l).length <= 4 * l.length := xd scrB 4 xh l
theorem QF : ∀ k, k < 16 -> (jo.take (k + 1)).drop k = [Yd k] := by decide
theorem jL (k : Nat) (h : k < jo.length) : jo[k] = Yd k := by simp [Yd, h]
def zP (p : Int) (s : Tx) : Tx :=
 if p = 1 \/ p = 2 then escT s else if p = 3 then (if zO s then escT (zp s) else [35]) else if p = 4 then zm s else if p = 5 then escS s else []
theorem vN (p : Int) (s : Tx) : (zP p s).length <= 18 * s.length + 1 := by
 have h1 := vM s
 have h2 := vM (zp s)
 have h3 := kx s
 have h4 := kL s
 have h5 := QE s
 unfold zP
 repeat' split
 all_goals first
  | omega
  | (simp only [List.length_cons, List.length_nil]; omega)
namespace Fd
def ok (f : Fd) : Bool := qJ f.name && (qT f.text && (decide (f.items.length <= 5) && f.items.all qT))
def okAt (xs : List Fd) (j : Nat) : Bool := match xs[j]? with
 | some f => ok f && !((xs.take j).any fun g => g.name == f.name)
 | none => true
def oks (xs : List Fd) : Bool := (List.range xs.length).all (okAt xs)
def valid (xs : List Fd) : Bool := decide (xs.length <= 8) && oks xs
theorem oks_no {xs : List Fd} {j : Nat} (h : j < xs.length) (hn : okAt xs j = false) : oks xs = false := by
 rw [Bool.eq_false_iff]
 intro h2
 have := List.all_eq_true.1 h2 j (List.mem_range.2 h)
 rw [hn] at this
 cases this
theorem oks_yes {xs : List Fd} (h : ∀ j, j < xs.length -> okAt xs j = true) : oks xs = true := List.all_eq_true.2 fun j hj => h j (List.mem_range.1 hj)
theorem okAt_of {xs : List Fd} {j : Nat} (h : j < xs.length) {f : Fd} (e : xs[j] = f) : okAt xs j = (ok f && !((xs.take j).any fun g => g.name == f.name)) := by
 unfold okAt
 rw [List.getElem?_eq_getElem h, e]
theorem any_no {xs : List Fd} {n : Tx} {j : Nat} (h : ∀ q (hq : q < xs.length), q < j -> (xs[q].name == n) = false) : ((xs.take j).any fun g => g.name == n) = false := by
 rw [Bool.eq_false_iff]
 intro hh
 obtain ⟨y, hy, e⟩ := List.any_eq_true.1 hh
 obtain ⟨q, hq, rfl⟩ := List.mem_iff_getElem.1 hy
 rw [List.length_take] at hq
 rw [List.getElem_take] at e
 rw [h q (by omega) (by omega)] at e
 cases e
theorem any_yes {xs : List Fd} {n : Tx} {j q : Nat} (hq : q < xs.length) (hj : q < j) (h : (xs[q].name == n) = true) : ((xs.take j).any fun g => g.name == n) = true := by
 refine List.any_eq_true.2 ⟨xs[q], ?_, h⟩
 refine List.mem_iff_getElem.2 ⟨q, by rw [List.length_take]; omega, by rw [List.getElem_take]⟩
end Fd
theorem RdF.at2 {w : World} {S : Nat -> Prop} {A : Option Addr} {xs : List Fd} (h : RdF w S A xs) {k : Nat} (hk : k < xs.length) : ∃ b o, A = some ⟨b, o, none⟩ /\ S b /\ ∃ n t hh is Ai ci, xs[k] = ⟨n, t, hh, is⟩ /\ RdIn w S Ai (qS is) /\ is.length <= ci ∧
  w.cell? ⟨b, o + k * 4, none⟩ = some (sv n) /\ w.cell? ⟨b, o + k * 4 + 1, none⟩ = some (sv t) /\ w.cell? ⟨b, o + k * 4 + 2, none⟩ = some (.bool hh) /\ w.cell? ⟨b, o + k * 4 + 3, none⟩ = some (.slice Ai is.length ci) := by
 obtain ⟨b, o, e, hb, hin⟩ := h (by intro e; rw [e] at hk; simp at hk)
 obtain ⟨v, ⟨c0, c1, c2, c3, e5, h0, h1, h2, h3⟩, hv⟩ := hin k hk
 refine ⟨b, o, e, hb, ?_⟩
 generalize xs[k] = x at *
 obtain ⟨n, t, hh, is⟩ := x
 obtain ⟨Ai, ci, e6, g1, g2⟩ := hv
 subst e6
 injection e5 with e5
 simp only [Array.mk.injEq, List.cons.injEq, and_true] at e5
 obtain ⟨rfl, rfl, rfl, rfl⟩ := e5
 exact ⟨n, t, hh, is, Ai, ci, rfl, g1, g2, h0, h1, h2, h3⟩
theorem vU {is : List Tx} {x : Tx} (h : x ∈ is) {a m : Nat} (hs : a + (is.length + qR is) <= m) : x.length <= m := by
 have : x.length <= qR is := by
  clear hs
  induction is with
  | nil => cases h
  | cons z s ih2 =>
   rcases List.mem_cons.1 h with e | h
   ·subst e; simp only [qR]; omega
   have := ih2 h; simp only [qR]; omega
 omega
theorem vV (l : Tx) (hl : l.length <= maxLen) (w : World) :
  Calls Tryz.prog 107 #[.string ⟨l.toArray⟩] w fun e w' => e = .returned (.bool (qT l)) /\ w = w' := by
 have hl' := hl
 unfold maxLen at hl
 go_enter func107, ntmps107
 by_cases h4 : (l.length : Int) <= 40
 ·have HL := qb hl'
  clear hl'
  go_wp2_with (go_at_call 140; refine (Zr _ HL.out _).mono ?_; rintro e w' ⟨rfl, rfl⟩)
  go_ret
  exact ⟨qw (by simp [qT]; omega), rfl⟩
 go_wp2
 go_ret
 exact ⟨qw (by simp [qT]; omega), rfl⟩
theorem vW (xs : List Fd) (A : Option Addr) (c : Nat) (w : World) (hx : RdF w (All w) A xs) (hc : xs.length <= c) (hs : xs.length + Fd.sizes xs <= 4194304) :
  Calls Tryz.prog 69 #[.slice A xs.length c] w fun e w' => e = .returned (.bool (Fd.valid xs)) /\ Below w.heap.size w w' := by
 have HX := qb hx
 have HSZ := qb hs
 have hxl : xs.length <= 4194304 := by omega
 clear hx hs
 by_cases h8 : 8 < xs.length
 ·have h8' : decide ((8 : Int) < (xs.length : Int)) = true := by simp; omega
  have HE : Hid (Fd.valid xs = false) := by show _ = _; unfold Fd.valid; rw [show decide (xs.length <= 8) = false by simp; omega]; rfl
  clear h8
  go_enter func69, ntmps69
  go_wp2
  go_ret
  exact ⟨qw HE.out.symm, Below.refl _ _⟩
 have h8' : decide ((8 : Int) < (xs.length : Int)) = false := by simp; omega
 have HVL : Hid (Fd.valid xs = Fd.oks xs) := by show _ = _; unfold Fd.valid; rw [show decide (xs.length <= 8) = true by simp; omega]; rfl
 clear h8
 go_enter func69, ntmps69
 go_wp2
 go_loopw [14] (fun i wr => ∃ (j : Nat), j <= xs.length /\ i = .int .i64 j /\ (∀ q, q < j -> Fd.okAt xs q = true) /\ Below w.heap.size w wr) (fun i _ => xs.length - (intOf i).toNat)
 case atStart => exact ⟨0, Nat.zero_le _, rfl, fun q hq => absurd hq (by omega), Below.refl _ _⟩
 obtain ⟨j, hj, rfl, hall, hb⟩ := hrel
 have HB := qb hb
 have HALL := qb hall
 clear hall
 by_cases hlt : j < xs.length
 ·obtain ⟨b1, o1, rfl, hb1, nn, tt, hh, is, Ai, ci, hxj, g1, g2, c0, c1, c2, c3⟩ := (HX.out.now hb).at2 hlt
  have hst := Fd.okAt_of hlt hxj
  have HNO := qb (fun h => Fd.oks_no (xs := xs) hlt h)
  have hmem := Fd.size_mem (List.getElem_mem hlt)
  rw [hxj] at hmem
  unfold Fd.size at hmem
  dsimp only at hmem
  have hsz := HSZ.out
  have hnn : nn.length <= 4194304 := by omega
  have htt : tt.length <= 4194304 := by omega
  have his : is.length <= 4194304 := by omega
  have HIT : Hid (∀ x ∈ is, x.length <= 4194304) := fun x hx => vU (a := 0) hx (by omega)
  have HAT : Hid (Fd.okAt xs j = ((qJ nn && (qT tt && decide (is.length <= 5))) && (is.all qT && !((xs.take j).any fun g => g.name == nn)))) := by
   show _ = _
   rw [hst]
   unfold Fd.ok
   simp only [Bool.and_assoc]
  have HA1 := qb ((Below.refl wr.heap.size wr).alloc (Nat.le_refl _) (.cells (qC nn tt hh Ai is.length ci) 62))
  have HBB := qb (qa3 HB.out HA1.out)
  have HXB := qb (heap_alloc_new wr (.cells (qC nn tt hh Ai is.length ci) 62))
  have HI := qb ((g1.keep (fun _ hp => HA1.out.cell hp) (fun _ h => Nat.lt_of_lt_of_le h HA1.out.size)).rd (B := (wr.alloc (.cells (qC nn tt hh Ai is.length ci) 62)).heap.size) (fun _ h => h))
  have hsz1 : wr.heap.size < (wr.alloc (.cells (qC nn tt hh Ai is.length ci) 62)).heap.size := by simp
  have hst5 : decide (is.length <= 5) = !decide ((5 : Int) < (is.length : Int)) := by
   rw [Bool.eq_iff_iff]; simp; omega
  clear hst hb hmem hsz g1 hxj
  go_upto_region 6 with fail
  generalize wr.alloc (.cells (qC nn tt hh Ai is.length ci) 62) = wb at *
  obtain ⟨⟨f0, f1, f2, f3⟩, -⟩ := qh HXB.out
  clear c0 c1 c2 c3
  have HNV := qb (fun w => jR nn (by unfold maxLen; omega) w)
  have HVO := qb (fun w => Zs tt (by unfold maxLen; omega) w)
  obtain ⟨g, hg⟩ : ∃ g, g = (qJ nn && (qT tt && decide (is.length <= 5))) := ⟨_, rfl⟩
  rw [<- hg] at HAT
  rw [hst5] at hg
  have HG := qb hg
  generalize qJ nn = q0 at *
  generalize qT tt = q1 at *
  generalize hq2 : decide ((5 : Int) < (is.length : Int)) = q2 at *
  clear hg hst5
  go_cut [34] (fun t wx => t = .bool (!g) /\ wx = wb)
  case first =>
   go_wp2_with fail
   refine (HNV.out _).mono ?_
   rintro e9 w2 ⟨rfl, rfl⟩
   cases q0
   ·go_wp2
    go_meet
    case rel => exact ⟨by rw [HG.out]; rfl, rfl⟩
   go_wp2_with fail
   refine (HVO.out _).mono ?_
   rintro e9 w2 ⟨rfl, rfl⟩
   cases q1
   ·go_wp2
    go_meet
    case rel => exact ⟨by rw [HG.out]; rfl, rfl⟩
   cases q2
   all_goals
    go_wp2
    go_meet
    (case rel => exact ⟨by rw [HG.out]; rfl, rfl⟩)
  case rest =>
   obtain ⟨rfl, rfl⟩ := hcut
   clear HNV HVO HG hq2
   rename World => wb
   cases g with
   | false =>
    have HE : Hid (Fd.valid xs = false) := by
     show _ = _
     rw [HVL.out]
     refine HNO.out ?_
     rw [HAT.out]
     rfl
    go_wp2
    go_ret
    exact ⟨qw HE.out.symm, HBB.out⟩
   | true =>
    rw [Bool.true_and] at HAT
    go_wp2
    go_loop [38] (fun i => ∃ q : Nat, q <= is.length /\ i = .int .i64 q /\ (is.drop q).all qT = is.all qT) (fun i => is.length - (intOf i).toNat)
    case atStart => exact ⟨0, Nat.zero_le _, rfl, rfl⟩
    obtain ⟨q, hq, rfl, hav⟩ := hrel
    have HAV := qb hav
    clear hav
    by_cases hlq : q < is.length
    ·obtain ⟨b2, o2, rfl, hb2, d0⟩ := HI.out.str hlq
     have hxx := HIT.out _ (List.getElem_mem hlq)
     have hav2 := HAV.out
     rw [qX is q hlq, List.all_cons] at hav2
     have HAV2 := qb hav2
     clear hav2
     have HVX := qb (fun w => Zs is[q] (by unfold maxLen; omega) w)
     generalize is[q] = x at *
     generalize qT x = qv at *
     go_wp2_with fail
     refine (HVX.out _).mono ?_
     rintro e9 w2 ⟨rfl, rfl⟩
     cases qv
     ·have HE : Hid (Fd.valid xs = false) := by
       show _ = _
       rw [HVL.out]
       refine HNO.out ?_
       rw [HAT.out, <- HAV2.out]; rfl
      go_wp2
      go_ret
      exact ⟨qw HE.out.symm, HBB.out⟩
     rw [Bool.true_and] at HAV2
     go_wp2
     go_round
     case rel => refine ⟨trivial, ?_⟩; (repeat apply Exists.intro); exact ⟨⟨q + 1, by omega, by go_num, HAV2.out⟩, rfl⟩
     case measure => simp [intOf]; omega
    have hav2 := HAV.out
    rw [zc is q (by omega), List.all_nil] at hav2
    rw [<- hav2, Bool.true_and] at HAT
    clear hav2
    have hjc : j <= c := by omega
    go_wp2
    go_loopw [50] (fun i wx => ∃ (q : Nat), q <= j /\ i = .int .i64 q /\ (∀ p (hp : p < xs.length), p < q -> (xs[p].name == nn) = false) /\ Below wb.heap.size wb wx) (fun i _ => j - (intOf i).toNat)
    case atStart => exact ⟨0, Nat.zero_le _, rfl, fun p _ hp => absurd hp (by omega), Below.refl _ _⟩
    obtain ⟨q, hq, rfl, hne, hbx⟩ := hrel
    have HNE := qb hne
    have HBX := qb hbx
    by_cases hlq : q < j
    ·have hlq2 : q < xs.length := by omega
     obtain ⟨b2, o2, hA2, hb2, n2, t2, h2, is2, Ai2, ci2, hxq, k1, k2, d0, d1, d2, d3⟩ := (HX.out.now (qa3 HBB.out hbx)).at2 hlq2
     injection hA2 with hA2
     injection hA2 with hA2a hA2b
     subst hA2a hA2b
     have HY := qb (fun (h : (n2 == nn) = true) => Fd.any_yes (xs := xs) (n := nn) hlq2 hlq (by rw [hxq]; exact h))
     have HZ : Hid ((n2 == nn) = false -> ∀ p (hp : p < xs.length), p < q + 1 -> (xs[p].name == nn) = false) := by
      show _ -> _
      intro h p hp hpq
      rcases Nat.lt_or_ge p q with h1 | h1
      ·exact HNE.out p hp h1
      have : p = q := by omega
      subst this; rw [hxq]; exact h
     have HA2 := qb ((Below.refl wr.heap.size wr).alloc (Nat.le_refl _) (.cells (qC n2 t2 h2 Ai2 is2.length ci2) 62))
     have HB2 := qb (qa3 HBX.out HA2.out)
     have HXB2 := qb (heap_alloc_new wr (.cells (qC n2 t2 h2 Ai2 is2.length ci2) 62))
     have HXF2 := qb (qi HXB.out HB2.out)
     clear hne hbx hxq k1 k2
     go_upto_region 17 with fail
     generalize wr.alloc (.cells (qC n2 t2 h2 Ai2 is2.length ci2) 62) = wy at *
     obtain ⟨⟨y0, y1, y2, y3⟩, -⟩ := qh HXB2.out
     obtain ⟨⟨z0, z1, z2, z3⟩, -⟩ := qh HXF2.out
     cases hq9 : (n2 == nn)
     ·have HZ2 := qb (HZ.out hq9)
      clear HZ HY
      go_wp2
      go_roundw
      case rel => first | exact ⟨q + 1, by omega, by go_num, HZ2.out, HB2.out⟩ | ((repeat apply Exists.intro); exact ⟨⟨q + 1, by omega, by go_num, HZ2.out, HB2.out⟩, rfl⟩)
      case measure => simp [intOf]; omega
     have HE : Hid (Fd.valid xs = false) := by
      show _ = _
      rw [HVL.out]
      refine HNO.out ?_
      rw [HAT.out, HY.out hq9]; rfl
     clear HZ HY
     go_wp2
     go_ret
     exact ⟨qw HE.out.symm, HBB.out.trans (HB2.out.mono HBB.out.size)⟩
    have HAT2 : Hid (Fd.okAt xs j = true) := by
     show _ = _
     rw [HAT.out, Fd.any_no (fun p hp h => HNE.out p hp (by omega))]; rfl
    clear hne hbx
    go_wp2
    go_roundw
    case rel => first | exact ⟨j + 1, by omega, by go_num, fun q hq => by
      rcases Nat.lt_or_ge q j with h | h
      ·exact HALL.out q h
      ·have : q = j := by omega
       subst this; exact HAT2.out, HBB.out.trans (HBX.out.mono HBB.out.size)⟩ | ((repeat apply Exists.intro); exact ⟨⟨j + 1, by omega, by go_num, fun q hq => by
      rcases Nat.lt_or_ge q j with h | h
      ·exact HALL.out q h
      ·have : q = j := by omega
       subst this; exact HAT2.out, HBB.out.trans (HBX.out.mono HBB.out.size)⟩, rfl⟩)
    case measure => simp [intOf]; omega
 have hnm : Fd.oks xs = true := Fd.oks_yes (fun q hq => HALL.out q (by omega))
 have HE : Hid (Fd.valid xs = true) := by show _ = _; rw [HVL.out, hnm]
 clear hnm
 go_wp2
 go_ret
 exact ⟨qw HE.out.symm, HB.out⟩
theorem vX (xs : List Fd) (A : Option Addr) (c : Nat) (w : World) (hx : RdF w (All w) A xs) (hc : xs.length <= c) (hs : xs.length + Fd.sizes xs <= 1048576) :
  Calls Tryz.prog 69 #[.slice A xs.length c] w fun e w' => e = .returned (.bool (Fd.valid xs)) /\ Below w.heap.size w w' := vW xs A c w hx hc (by omega)
theorem vY (xs : List Fd) (A : Option Addr) (c : Nat) (w : World) (hx : RdF w (All w) A xs) (hs : xs.length + Fd.sizes xs <= 4194304) :
  Calls Tryz.prog 66 #[.slice A xs.length c] w fun e w' => e = .returned (.bool (Fd.valid xs)) /\ Below w.heap.size w w' := by
 have HX := qb hx
 have HSZ := qb hs
 have hxl : xs.length <= 4194304 := by omega
 clear hx hs
 have HVL : Hid (Fd.oks xs = false -> Fd.valid xs = false) := fun h => by unfold Fd.valid; rw [h, Bool.and_false]
 go_enter func66, ntmps66
 go_wp2
 go_loopw [3] (fun i wr => ∃ (j : Nat), j <= xs.length /\ i = .int .i64 j /\ (∀ q, q < j -> Fd.okAt xs q = true) /\ Below w.heap.size w wr) (fun i _ => xs.length - (intOf i).toNat)
 case atStart => exact ⟨0, Nat.zero_le _, rfl, fun q hq => absurd hq (by omega), Below.refl _ _⟩
 obtain ⟨j, hj, rfl, hall, hb⟩ := hrel
 have HB := qb hb
 have HALL := qb hall
 clear hall
 by_cases hlt : j < xs.length
 ·obtain ⟨b1, o1, rfl, hb1, nn, tt, hh, is, Ai, ci, hxj, g1, g2, c0, c1, c2, c3⟩ := (HX.out.now hb).at2 hlt
  have hst := Fd.okAt_of hlt hxj
  have HNO := qb (fun h => Fd.oks_no (xs := xs) hlt h)
  have hmem := Fd.size_mem (List.getElem_mem hlt)
  rw [hxj] at hmem
  unfold Fd.size at hmem
  dsimp only at hmem
  have hsz := HSZ.out
  have hnn : nn.length <= 4194304 := by omega
  have htt : tt.length <= 4194304 := by omega
  have his : is.length <= 4194304 := by omega
  have HIT : Hid (∀ x ∈ is, x.length <= 4194304) := fun x hx => vU (a := 0) hx (by omega)
  have HAT : Hid (Fd.okAt xs j = ((qJ nn && (qT tt && decide (is.length <= 5))) && (is.all qT && !((xs.take j).any fun g => g.name == nn)))) := by
   show _ = _
   rw [hst]
   unfold Fd.ok
   simp only [Bool.and_assoc]
  have HA1 := qb ((Below.refl wr.heap.size wr).alloc (Nat.le_refl _) (.cells (qC nn tt hh Ai is.length ci) 62))
  have HBB := qb (qa3 HB.out HA1.out)
  have HXB := qb (heap_alloc_new wr (.cells (qC nn tt hh Ai is.length ci) 62))
  have HI := qb ((g1.keep (fun _ hp => HA1.out.cell hp) (fun _ h => Nat.lt_of_lt_of_le h HA1.out.size)).rd (B := (wr.alloc (.cells (qC nn tt hh Ai is.length ci) 62)).heap.size) (fun _ h => h))
  have hsz1 : wr.heap.size < (wr.alloc (.cells (qC nn tt hh Ai is.length ci) 62)).heap.size := by simp
  have hst5 : decide (is.length <= 5) = !decide ((5 : Int) < (is.length : Int)) := by
   rw [Bool.eq_iff_iff]; simp; omega
  clear hst hb hmem hsz g1 hxj
  go_upto_region 5 with fail
  generalize wr.alloc (.cells (qC nn tt hh Ai is.length ci) 62) = wb at *
  obtain ⟨⟨f0, f1, f2, f3⟩, -⟩ := qh HXB.out
  clear c0 c1 c2 c3
  have HNV := qb (fun w => jS nn (by unfold maxLen; omega) w)
  have HVO := qb (fun w => vV tt (by unfold maxLen; omega) w)
  obtain ⟨g, hg⟩ : ∃ g, g = (qJ nn && (qT tt && decide (is.length <= 5))) := ⟨_, rfl⟩
  rw [<- hg] at HAT
  rw [hst5] at hg
  have HG := qb hg
  generalize qJ nn = q0 at *
  generalize qT tt = q1 at *
  generalize hq2 : decide ((5 : Int) < (is.length : Int)) = q2 at *
  clear hg hst5
  go_cut [32] (fun t wx => t = .bool (!g) /\ wx = wb)
  case first =>
   go_wp2_with fail
   refine (HNV.out _).mono ?_
   rintro e9 w2 ⟨rfl, rfl⟩
   cases q0
   ·go_wp2
    go_meet
    case rel => exact ⟨by rw [HG.out]; rfl, rfl⟩
   go_wp2_with fail
   refine (HVO.out _).mono ?_
   rintro e9 w2 ⟨rfl, rfl⟩
   cases q1
   ·go_wp2
    go_meet
    case rel => exact ⟨by rw [HG.out]; rfl, rfl⟩
   cases q2
   all_goals
    go_wp2
    go_meet
    (case rel => exact ⟨by rw [HG.out]; rfl, rfl⟩)
  case rest =>
   obtain ⟨rfl, rfl⟩ := hcut
   clear HNV HVO HG hq2
   rename World => wb
   cases g with
   | false =>
    have HE : Hid (Fd.valid xs = false) := by
     show _ = _
     refine HVL.out ?_
     refine HNO.out ?_
     rw [HAT.out]
     rfl
    go_wp2
    go_ret
    exact ⟨qw HE.out.symm, HBB.out⟩
   | true =>
    rw [Bool.true_and] at HAT
    go_wp2
    go_loop [5] (fun i => ∃ q : Nat, q <= is.length /\ i = .int .i64 q /\ (is.drop q).all qT = is.all qT) (fun i => is.length - (intOf i).toNat)
    case atStart => exact ⟨0, Nat.zero_le _, rfl, rfl⟩
    obtain ⟨q, hq, rfl, hav⟩ := hrel
    have HAV := qb hav
    clear hav
    by_cases hlq : q < is.length
    ·obtain ⟨b2, o2, rfl, hb2, d0⟩ := HI.out.str hlq
     have hxx := HIT.out _ (List.getElem_mem hlq)
     have hav2 := HAV.out
     rw [qX is q hlq, List.all_cons] at hav2
     have HAV2 := qb hav2
     clear hav2
     have HVX := qb (fun w => vV is[q] (by unfold maxLen; omega) w)
     generalize is[q] = x at *
     generalize qT x = qv at *
     go_wp2_with fail
     refine (HVX.out _).mono ?_
     rintro e9 w2 ⟨rfl, rfl⟩
     cases qv
     ·have HE : Hid (Fd.valid xs = false) := by
       show _ = _
       refine HVL.out ?_
       refine HNO.out ?_
       rw [HAT.out, <- HAV2.out]; rfl
      go_wp2
      go_ret
      exact ⟨qw HE.out.symm, HBB.out⟩
     rw [Bool.true_and] at HAV2
     go_wp2
     go_round
     case rel => refine ⟨trivial, ?_⟩; (repeat apply Exists.intro); exact ⟨⟨q + 1, by omega, by go_num, HAV2.out⟩, rfl⟩
     case measure => simp [intOf]; omega
    have hav2 := HAV.out
    rw [zc is q (by omega), List.all_nil] at hav2
    rw [<- hav2, Bool.true_and] at HAT
    clear hav2
    go_wp2
    go_loopw [6] (fun i wx => ∃ (q : Nat), q <= j /\ i = .int .i64 q /\ (∀ p (hp : p < xs.length), p < q -> (xs[p].name == nn) = false) /\ Below wb.heap.size wb wx) (fun i _ => j - (intOf i).toNat)
    case atStart => exact ⟨0, Nat.zero_le _, rfl, fun p _ hp => absurd hp (by omega), Below.refl _ _⟩
    obtain ⟨q, hq, rfl, hne, hbx⟩ := hrel
    have HNE := qb hne
    have HBX := qb hbx
    by_cases hlq : q < j
    ·have hlq2 : q < xs.length := by omega
     obtain ⟨b2, o2, hA2, hb2, n2, t2, h2, is2, Ai2, ci2, hxq, k1, k2, d0, d1, d2, d3⟩ := (HX.out.now (qa3 HBB.out hbx)).at2 hlq2
     injection hA2 with hA2
     injection hA2 with hA2a hA2b
     subst hA2a hA2b
     have HY := qb (fun (h : (n2 == nn) = true) => Fd.any_yes (xs := xs) (n := nn) hlq2 hlq (by rw [hxq]; exact h))
     have HZ : Hid ((n2 == nn) = false -> ∀ p (hp : p < xs.length), p < q + 1 -> (xs[p].name == nn) = false) := by
      show _ -> _
      intro h p hp hpq
      rcases Nat.lt_or_ge p q with h1 | h1
      ·exact HNE.out p hp h1
      have : p = q := by omega
      subst this; rw [hxq]; exact h
     have HXF2 := qb (qi HXB.out HBX.out)
     obtain ⟨⟨z0, z1, z2, z3⟩, -⟩ := qh HXF2.out
     clear hne hbx hxq k1 k2 d1 d2 d3
     cases hq9 : (n2 == nn)
     ·have HZ2 := qb (HZ.out hq9)
      clear HZ HY
      go_wp2_with fail
      go_quiet (fail)
      go_wp2
      go_roundw
      case rel => first | exact ⟨q + 1, by omega, by go_num, HZ2.out, jn HBX.out _⟩ | ((repeat apply Exists.intro); exact ⟨⟨q + 1, by omega, by go_num, HZ2.out, jn HBX.out _⟩, rfl⟩)
      case measure => simp [intOf]; omega
     have HE : Hid (Fd.valid xs = false) := by
      show _ = _
      refine HVL.out ?_
      refine HNO.out ?_
      rw [HAT.out, HY.out hq9]; rfl
     clear HZ HY
     go_wp2_with fail
     go_quiet (fail)
     go_wp2
     go_ret
     exact ⟨qw HE.out.symm, jn (qa3 HBB.out HBX.out) _⟩
    have HAT2 : Hid (Fd.okAt xs j = true) := by
     show _ = _
     rw [HAT.out, Fd.any_no (fun p hp h => HNE.out p hp (by omega))]; rfl
    clear hne hbx
    go_wp2
    go_roundw
    case rel => first | exact ⟨j + 1, by omega, by go_num, fun q hq => by
      rcases Nat.lt_or_ge q j with h | h
      ·exact HALL.out q h
      ·have : q = j := by omega
       subst this; exact HAT2.out, HBB.out.trans (HBX.out.mono HBB.out.size)⟩ | ((repeat apply Exists.intro); exact ⟨⟨j + 1, by omega, by go_num, fun q hq => by
      rcases Nat.lt_or_ge q j with h | h
      ·exact HALL.out q h
      ·have : q = j := by omega
       subst this; exact HAT2.out, HBB.out.trans (HBX.out.mono HBB.out.size)⟩, rfl⟩)
    case measure => simp [intOf]; omega
 have hnm : Fd.oks xs = true := Fd.oks_yes (fun q hq => HALL.out q (by omega))
 have HE : Hid (Fd.valid xs = decide (xs.length <= 8)) := by show _ = _; unfold Fd.valid; rw [hnm, Bool.and_true]
 clear hnm
 by_cases h8 : 8 < xs.length
 ·have h8' : decide ((xs.length : Int) <= 8) = false := by simp; omega
  rw [show decide (xs.length <= 8) = false by simp; omega] at HE
  clear h8
  go_wp2
  go_ret
  exact ⟨qw HE.out.symm, HB.out⟩
 have h8' : decide ((xs.length : Int) <= 8) = true := by simp; omega
 rw [show decide (xs.length <= 8) = true by simp; omega] at HE
 clear h8
 go_wp2
 go_ret
 exact ⟨qw HE.out.symm, HB.out⟩
theorem vZ (xs : List Fd) (A : Option Addr) (c : Nat) (w : World) (hx : RdF w (All w) A xs) (hs : xs.length + Fd.sizes xs <= 1048576) :
  Calls Tryz.prog 66 #[.slice A xs.length c] w fun e w' => e = .returned (.bool (Fd.valid xs)) /\ Below w.heap.size w w' := vY xs A c w hx (by omega)
structure Dk where
 parts : List Pt
 data : List Fd
namespace Dk
def size (d : Dk) : Nat := (d.parts.length + Pt.sizes d.parts) + (d.data.length + Fd.sizes d.data)
def valid (d : Dk) : Bool := Pt.valid d.parts && Fd.valid d.data
def Fit (d : Dk) : Prop := Pt.Fits d.parts /\ d.parts.length <= maxLen /\ (∀ x ∈ d.data, Fd.Fit x) /\ d.data.length <= maxLen
end Dk
abbrev dkV (Ap : Option Addr) (lp cp : Nat) (Ad : Option Addr) (ld cd : Nat) : Value := .agg #[.slice Ap lp cp, .slice Ad ld cd]
abbrev qx (Ap : Option Addr) (lp cp : Nat) (Ad : Option Addr) (ld cd : Nat) : Array Value := #[.slice Ap lp cp, .slice Ad ld cd]
def InD (w : World) (S : Nat -> Prop) (d : Dk) (v : Value) : Prop := ∃ Ap cp Ad cd, v = dkV Ap d.parts.length cp Ad d.data.length cd /\ RdP w S Ap d.parts /\ d.parts.length <= cp /\ RdF w S Ad d.data /\ d.data.length <= cd
theorem InD.keep {w w' : World} {S S' : Nat -> Prop} (hk : ∀ p : Addr, S p.block -> w'.cell? p = w.cell? p) (hS : ∀ b, S b -> S' b) (x : Dk) (v : Value) (h : InD w S x v) : InD w' S' x v := by
 obtain ⟨Ap, cp, Ad, cd, e, h1, h2, h3, h4⟩ := h
 exact ⟨Ap, cp, Ad, cd, e, h1.keep hk hS, h2, h3.keep hk hS, h4⟩
theorem InD.now {w w' : World} {x : Dk} {v : Value} (h : InD w (All w) x v) (hb : Below w.heap.size w w') : InD w' (All w') x v := InD.keep (fun _ hp => hb.cell hp) (fun _ h => Nat.lt_of_lt_of_le h hb.size) x v h
namespace Pt
mutual
def ck1 : Pt -> St -> St
 | mk k t _ xs ys, s =>
  if k = 1 then St.after s t else if k = 2 then St.behind s
  else if k = 4 then (if ck xs s = s then s else St.bad)
  else (if ck xs s = ck ys s then ck xs s else St.bad)
def ck : List Pt -> St -> St
 | [], s => s
 | x :: r, s => if (ck1 x s).mode = 15 then St.bad else ck r (ck1 x s)
end
mutual
theorem fit_ck1 : ∀ (x : Pt) (s : St), St.Fit s -> St.Fit (ck1 x s)
 | mk k t _ xs ys, s, h => by
  unfold ck1
  exact St.fit_ite (St.fit_after h t) (St.fit_ite (St.fit_behind h) (St.fit_ite (St.fit_ite h St.fit_bad) (St.fit_ite (fit_ck xs s h) St.fit_bad)))
theorem fit_ck : ∀ (xs : List Pt) (s : St), St.Fit s -> St.Fit (ck xs s)
 | [], s, h => by unfold ck; exact h
 | x :: r, s, h => by
  unfold ck
  exact St.fit_ite St.fit_bad (fit_ck r _ (fit_ck1 x s h))
end
def safe (xs : List Pt) : Bool := valid xs && decide (ck xs St.zero = St.zero)
mutual
def ft1 : Pt -> St -> Int × St
 | mk k t _ xs ys, s =>
  if k = 1 then (if (St.after s t).mode = 15 then (1, St.after s t) else (0, St.after s t))
  else if k = 2 then (if (St.behind s).mode = 15 then (2, St.behind s) else (0, St.behind s))
  else if (ft xs s).1 ≠ 0 then ft xs s
  else if (ft ys s).1 ≠ 0 then ft ys s
  else if k = 4 /\ (ft xs s).2 ≠ s then (4, St.bad)
  else if k = 3 /\ (ft xs s).2 ≠ (ft ys s).2 then (3, St.bad)
  else (0, (ft xs s).2)
def ft : List Pt -> St -> Int × St
 | [], s => (0, s)
 | x :: r, s => if (ft1 x s).1 ≠ 0 then ft1 x s else ft r (ft1 x s).2
end
def fault (xs : List Pt) : Int := if valid xs then (if (ft xs St.zero).1 = 0 /\ (ft xs St.zero).2 ≠ St.zero then 5 else (ft xs St.zero).1) else -1
theorem fit_pair {c : Prop} [Decidable c] {x y : Int × St} (hx : St.Fit x.2) (hy : St.Fit y.2) : St.Fit (if c then x else y).2 := by
 split
 ·exact hx
 exact hy
mutual
theorem fit_ft1 : ∀ (x : Pt) (s : St), St.Fit s -> St.Fit (ft1 x s).2
 | mk k t _ xs ys, s, h => by
  unfold ft1
  exact fit_pair (fit_pair (St.fit_after h t) (St.fit_after h t)) (fit_pair (fit_pair (St.fit_behind h) (St.fit_behind h)) (fit_pair (fit_ft xs s h) (fit_pair (fit_ft ys s h) (fit_pair St.fit_bad (fit_pair St.fit_bad (fit_ft xs s h))))))
theorem fit_ft : ∀ (xs : List Pt) (s : St), St.Fit s -> St.Fit (ft xs s).2
 | [], s, h => by unfold ft; exact h
 | x :: r, s, h => by
  unfold ft
  exact fit_pair (fit_ft1 x s h) (fit_ft r _ (fit_ft1 x s h))
end
def Agree (c : St) (f : Int × St) : Prop := (f.1 = 0 -> c = f.2 /\ c.mode ≠ 15) /\ (f.1 ≠ 0 -> c = St.bad)
theorem agree_list {d : Nat} : ∀ {xs : List Pt} {p : Bool}, (∀ x ∈ xs, ∀ (d : Nat) (s : St), ok x d = true -> s.mode ≠ 15 -> (((ft1 x s).1 = 0 -> ck1 x s = (ft1 x s).2 /\ (ck1 x s).mode ≠ 15) /\ ((ft1 x s).1 ≠ 0 -> (ck1 x s).mode = 15))) -> oks xs d p = true -> ∀ s : St, s.mode ≠ 15 -> Agree (ck xs s) (ft xs s)
 | [], _, _, _, s, hs => ⟨fun _ => by unfold ck ft; exact ⟨rfl, hs⟩, fun h => by unfold ft at h; exact absurd rfl h⟩
 | x :: r, p, hx, ho, s, hs => by
  simp only [oks, Bool.and_eq_true] at ho
  have h1 := hx x (by simp) d s ho.1 hs
  unfold ck ft
  by_cases hf : (ft1 x s).1 = 0
  ·obtain ⟨e1, e2⟩ := h1.1 hf
   rw [if_neg e2, if_neg (by simpa using hf), e1]
   exact agree_list (fun y hy => hx y (List.mem_cons_of_mem _ hy)) ho.2.2 _ (by rw [<- e1]; exact e2)
  have e2 := h1.2 hf
  rw [if_pos e2, if_pos hf]
  exact ⟨fun h => absurd h hf, fun _ => rfl⟩
theorem agree_one (x : Pt) : ∀ (d : Nat) (s : St), ok x d = true -> s.mode ≠ 15 -> (((ft1 x s).1 = 0 -> ck1 x s = (ft1 x s).2 /\ (ck1 x s).mode ≠ 15) /\ ((ft1 x s).1 ≠ 0 -> (ck1 x s).mode = 15)) := by
 induction x using ind with
 | h k t n xs ys ih1 ih2 =>
  intro d s ho hs
  rw [ok] at ho
  rw [ck1, ft1]
  by_cases k1 : k = 1
  ·rw [if_pos k1, if_pos k1]
   by_cases hm : (St.after s t).mode = 15
   ·rw [if_pos hm]; exact ⟨fun h => absurd h (by simp), fun _ => hm⟩
   rw [if_neg hm]; exact ⟨fun _ => ⟨rfl, hm⟩, fun h => absurd rfl h⟩
  rw [if_neg k1, if_neg k1]
  rw [if_neg k1] at ho
  by_cases k2 : k = 2
  ·rw [if_pos k2, if_pos k2]
   by_cases hm : (St.behind s).mode = 15
   ·rw [if_pos hm]; exact ⟨fun h => absurd h (by simp), fun _ => hm⟩
   rw [if_neg hm]; exact ⟨fun _ => ⟨rfl, hm⟩, fun h => absurd rfl h⟩
  rw [if_neg k2, if_neg k2]
  rw [if_neg k2] at ho
  by_cases k34 : k = 3 \/ k = 4
  case neg => rw [if_neg k34] at ho; cases ho
  rw [if_pos k34] at ho
  simp only [Bool.and_eq_true] at ho
  obtain ⟨-, -, h4, -, hox, hoy⟩ := ho
  have A1 := agree_list ih1 hox s hs
  have A2 := agree_list ih2 hoy s hs
  rcases k34 with rfl | rfl
  ·rw [if_neg (show ¬ (3 : Int) = 4 by decide)]
   by_cases f1 : (ft xs s).1 = 0
   ·obtain ⟨e1, e2⟩ := A1.1 f1
    rw [if_neg (show ¬ (ft xs s).1 ≠ 0 from fun h => h f1)]
    by_cases f2 : (ft ys s).1 = 0
    ·obtain ⟨e3, e4⟩ := A2.1 f2
     rw [if_neg (show ¬ (ft ys s).1 ≠ 0 from fun h => h f2), if_neg (show ¬ ((3 : Int) = 4 /\ (ft xs s).2 ≠ s) from fun h => absurd h.1 (by decide))]
     by_cases hq : (ft xs s).2 = (ft ys s).2
     ·rw [if_neg (show ¬ ((3 : Int) = 3 /\ (ft xs s).2 ≠ (ft ys s).2) from fun h => h.2 hq), if_pos (show ck xs s = ck ys s by rw [e1, e3, hq])]
      exact ⟨fun _ => ⟨e1, e2⟩, fun h => absurd rfl h⟩
     rw [if_pos (show (3 : Int) = 3 /\ (ft xs s).2 ≠ (ft ys s).2 from ⟨rfl, hq⟩), if_neg (show ¬ ck xs s = ck ys s by rw [e1, e3]; exact hq)]
     exact ⟨fun h => absurd h (by simp), fun _ => rfl⟩
    have e3 := A2.2 f2
    rw [if_pos (show (ft ys s).1 ≠ 0 from f2), if_neg (show ¬ ck xs s = ck ys s by rw [e3]; intro h; rw [h] at e2; exact e2 rfl)]
    exact ⟨fun h => absurd h f2, fun _ => rfl⟩
   have e1 := A1.2 f1
   rw [if_pos (show (ft xs s).1 ≠ 0 from f1)]
   refine ⟨fun h => absurd h f1, fun _ => ?_⟩
   split
   ·rw [e1]; rfl
   rfl
  rw [if_pos (show (4 : Int) = 4 from rfl)]
  have hy : ys = [] := by
   cases ys with
   | nil => rfl
   | cons => simp at h4
  subst hy
  by_cases f1 : (ft xs s).1 = 0
  ·obtain ⟨e1, e2⟩ := A1.1 f1
   rw [if_neg (show ¬ (ft xs s).1 ≠ 0 from fun h => h f1), if_neg (show ¬ (ft [] s).1 ≠ 0 by simp [ft])]
   by_cases hq : (ft xs s).2 = s
   ·rw [if_neg (show ¬ ((4 : Int) = 4 /\ (ft xs s).2 ≠ s) from fun h => h.2 hq), if_neg (show ¬ ((4 : Int) = 3 /\ (ft xs s).2 ≠ (ft [] s).2) from fun h => absurd h.1 (by decide)), if_pos (show ck xs s = s by rw [e1, hq])]
    exact ⟨fun _ => ⟨hq.symm, hs⟩, fun h => absurd rfl h⟩
   rw [if_pos (show (4 : Int) = 4 /\ (ft xs s).2 ≠ s from ⟨rfl, hq⟩), if_neg (show ¬ ck xs s = s by rw [e1]; exact hq)]
   exact ⟨fun h => absurd h (by simp), fun _ => rfl⟩
  have e1 := A1.2 f1
  rw [if_pos (show (ft xs s).1 ≠ 0 from f1), if_neg (show ¬ ck xs s = s by rw [e1]; intro h; exact hs (by rw [<- h]; rfl))]
  exact ⟨fun h => absurd h f1, fun _ => rfl⟩
theorem agree {d : Nat} {xs : List Pt} {p : Bool} (h : oks xs d p = true) (s : St) (hs : s.mode ≠ 15) : Agree (ck xs s) (ft xs s) := agree_list (fun x _ => agree_one x) h s hs
theorem safe_fault {xs : List Pt} (h : valid xs = true) : safe xs = decide (fault xs = 0) := by
 have h2 := h
 unfold valid at h2
 rw [Bool.and_eq_true] at h2
 have A := agree h2.2 St.zero (by decide)
 unfold safe fault
 rw [h, Bool.true_and, if_pos rfl]
 by_cases f1 : (ft xs St.zero).1 = 0
 ·obtain ⟨e1, e2⟩ := A.1 f1
  rw [e1]
  by_cases hq : (ft xs St.zero).2 = St.zero
  ·rw [if_neg (fun h => h.2 hq)]; simp [hq, f1]
  rw [if_pos ⟨f1, hq⟩]; simp [hq]
 have e1 := A.2 f1
 rw [if_neg (fun h => f1 h.1), e1]
 rw [decide_eq_false f1]; decide
end Pt
def cut2 (c : UInt8) : Tx -> Option (Tx × Tx)
 | x :: y :: t => if x == c && y == c then some ([], t) else (cut2 c (y :: t)).map fun p => (x :: p.1, p.2)
 | _ => none
theorem jb {c : UInt8} : ∀ {s p q : Tx}, cut2 c s = some (p, q) -> s = p ++ c :: c :: q
 | [], _, _, h => by simp [cut2] at h
 | [x], _, _, h => by simp [cut2] at h
 | x :: y :: t, p, q, h => by
  rw [cut2] at h
  split at h
  ·rename_i hc
   simp only [Bool.and_eq_true, beq_iff_eq] at hc
   obtain ⟨rfl, rfl⟩ := hc
   injection h with h
   injection h with h1 h2
   subst h1; subst h2; rfl
  cases hq : cut2 c (y :: t) with
  | none => rw [hq] at h; cases h
  | some r =>
   obtain ⟨p', q'⟩ := r
   rw [hq] at h
   injection h with h
   injection h with h1 h2
   dsimp only at h1 h2
   subst h1; subst h2
   rw [jb hq]; rfl
theorem jk {c : UInt8} {s p q : Tx} (h : cut2 c s = some (p, q)) : s.length = p.length + q.length + 2 := by
 rw [jb h]; simp only [List.length_append, List.length_cons]; omega
theorem ZO {c : UInt8} : ∀ {s : Tx}, cut2 c s = none ↔ has2 c s = false
 | [] => by simp [cut2, has2]
 | [x] => by simp [cut2, has2]
 | x :: y :: t => by
  rw [cut2, has2]
  cases hc : (x == c && y == c)
  ·simp only [Bool.false_eq_true, if_false, Option.map_eq_none_iff, Bool.false_or]
   exact ZO
  simp
theorem vl {c : UInt8} (q : Tx) : ∀ (t : Tx), has2 c t = false -> t.getLast? ≠ some c -> cut2 c (t ++ c :: c :: q) = some (t, q)
 | [], _, _ => by simp [cut2]
 | [x], _, h => by
  have hx : (x == c) = false := by simpa using h
  show cut2 c (x :: c :: c :: q) = _
  rw [cut2, hx]
  simp [cut2]
 | x :: y :: t, h, hl => by
  rw [has2] at h
  simp only [Bool.or_eq_false_iff] at h
  have ih := vl q (y :: t) h.2 (by simpa using hl)
  show cut2 c (x :: y :: (t ++ c :: c :: q)) = _
  rw [cut2, h.1]
  simp only [Bool.false_eq_true, if_false]
  have e : cut2 c (y :: (t ++ c :: c :: q)) = some (y :: t, q) := ih
  rw [e]; rfl
theorem ZP (c : UInt8) : ∀ s : Tx, Lib.index s [c, c] = match cut2 c s with
  | none => -1
  | some r => (r.1.length : Int)
 | [] => rfl
 | [x] => by simp [Lib.index, cut2]
 | x :: y :: t => by
  have ih := ZP c (y :: t)
  have e : List.isPrefixOf [c, c] (x :: y :: t) = (x == c && y == c) := by
   simp only [List.isPrefixOf, Bool.and_true]
   rw [Bool.eq_iff_iff]
   simp only [Bool.and_eq_true, beq_iff_eq]
   exact ⟨fun h => ⟨h.1.symm, h.2.symm⟩, fun h => ⟨h.1.symm, h.2.symm⟩⟩
  rw [Lib.index, e, cut2]
  cases hc : (x == c && y == c)
  ·simp only [Bool.false_eq_true, if_false]
   rw [ih]
   cases hq : cut2 c (y :: t) with
   | none => simp
   | some r =>
    have hne : ((r.1.length : Int) == -1) = false := by rw [beq_eq_false_iff_ne]; omega
    simp [hne]
  simp
namespace Pt
def txt (t : Tx) : Pt := mk 1 t [] [] []
def hole (n : Tx) : Pt := mk 2 [] n [] []
abbrev endW : Tx := [101, 110, 100]
abbrev elseW : Tx := [101, 108, 115, 101]
abbrev eachW : Tx := [101, 97, 99, 104, 32]
abbrev ifW : Tx := [105, 102, 32]
abbrev lb : Tx := [123, 123]
abbrev rb : Tx := [125, 125]
abbrev endT : Tx := [123, 123, 101, 110, 100, 125, 125]
abbrev elseT : Tx := [123, 123, 101, 108, 115, 101, 125, 125]
mutual
def wr1 : Pt -> Tx
 | mk k t n xs ys =>
  if k = 1 then t else if k = 2 then lb ++ (n ++ rb)
  else if k = 4 then lb ++ (eachW ++ (n ++ (rb ++ (wr xs ++ endT))))
  else lb ++ (ifW ++ (n ++ (rb ++ (wr xs ++ (if ys.isEmpty then endT else elseT ++ (wr ys ++ endT))))))
def wr : List Pt -> Tx
 | [] => []
 | x :: r => wr1 x ++ wr r
end
theorem wr_append (xs ys : List Pt) : wr (xs ++ ys) = wr xs ++ wr ys := by
 induction xs with
 | nil => simp [wr]
 | cons x t ih => simp [wr, ih]
theorem wr_take (xs : List Pt) (k : Nat) (h : k < xs.length) : wr (xs.take (k + 1)) = wr (xs.take k) ++ wr1 xs[k] := by
 rw [zu xs k h, wr_append]; simp [wr]
theorem wr_len_list {xs : List Pt} (h : ∀ x ∈ xs, (wr1 x).length <= size x + 30 * many x) : (wr xs).length <= sizes xs + 30 * manys xs := by
 induction xs with
 | nil => simp [wr]
 | cons x t ih =>
  have h1 := h x (by simp)
  have h2 := ih (fun y hy => h y (List.mem_cons_of_mem _ hy))
  simp only [wr, sizes, manys, List.length_append]
  omega
theorem wr1_len (x : Pt) : (wr1 x).length <= size x + 30 * many x := by
 induction x using ind with
 | h k t n xs ys ih1 ih2 =>
  have h1 := wr_len_list ih1
  have h2 := wr_len_list ih2
  have e1 : (if ys.isEmpty then endT else elseT ++ (wr ys ++ endT)).length <= 15 + (wr ys).length := by
   split <;> simp only [List.length_append, List.length_cons, List.length_nil] <;> omega
  rw [wr1, size, many]
  split
  ·omega
  split
  ·simp only [List.length_append, List.length_cons, List.length_nil]; omega
  split
  ·simp only [List.length_append, List.length_cons, List.length_nil]; omega
  rw [List.length_append, List.length_append, List.length_append, List.length_append, List.length_append]
  simp only [List.length_cons, List.length_nil]; omega
theorem wr_len (xs : List Pt) : (wr xs).length <= sizes xs + 30 * manys xs := wr_len_list fun x _ => wr1_len x
def pre (z : Bool) (p w : Tx) : Bool := p.isPrefixOf w && (!z || decide (p.length < w.length))
def rd (z : Bool) : Nat -> Nat -> Tx -> List Pt -> Option (List Pt × Tx × Tx)
 | _, 0, _, _ => none
 | d, n + 1, s, acc =>
  if s = [] then some (acc, [], []) else
  match cut2 123 s with
  | none => some (acc ++ [txt s], [], [])
  | some (p, q) =>
   match cut2 125 q with
   | none => none
   | some (w, s2) =>
    if z = true /\ d = 0 then none
    else if w = endW \/ w = elseW then some (if p = [] then acc else acc ++ [txt p], s2, w)
    else if pre z eachW w = true then
     (if d = 0 then none else match rd z (d - 1) n s2 [] with
     | none => none
     | some (xs, s3, st) => if st = endW then rd z d n s3 ((if p = [] then acc else acc ++ [txt p]) ++ [mk 4 [] (w.drop 5) xs []]) else none)
    else if pre z ifW w = true then
     (if d = 0 then none else match rd z (d - 1) n s2 [] with
     | none => none
     | some (xs, s3, st) =>
      if st = endW then rd z d n s3 ((if p = [] then acc else acc ++ [txt p]) ++ [mk 3 [] (w.drop 3) xs []])
      else if st = elseW then (match rd z (d - 1) n s3 [] with
       | none => none
       | some (ys, s4, su) => if su = endW then rd z d n s4 ((if p = [] then acc else acc ++ [txt p]) ++ [mk 3 [] (w.drop 3) xs ys]) else none)
      else none)
    else rd z d n s2 ((if p = [] then acc else acc ++ [txt p]) ++ [hole w])
theorem rd_nil (z : Bool) (d n : Nat) (acc : List Pt) : rd z d (n + 1) [] acc = some (acc, [], []) := by rw [rd, if_pos rfl]
theorem rd_last (z : Bool) (d n : Nat) {s : Tx} (acc : List Pt) (h : s ≠ []) (hc : cut2 123 s = none) : rd z d (n + 1) s acc = some (acc ++ [txt s], [], []) := by
 rw [rd, if_neg h, hc]
theorem rd_text (z : Bool) (d n : Nat) {s p q : Tx} (acc : List Pt) (hc : cut2 123 s = some (p, q)) (hp : p ≠ []) : rd z d (n + 1) s acc = rd z d (n + 1) (123 :: 123 :: q) (acc ++ [txt p]) := by
 have h : s ≠ [] := by intro e; rw [e] at hc; cases hc
 have h2 : (123 :: 123 :: q : Tx) ≠ [] := by simp
 have hc2 : cut2 123 (123 :: 123 :: q) = some ([], q) := by simp [cut2]
 rw [rd, if_neg h, hc]
 conv => rhs; rw [rd, if_neg h2, hc2]
 simp only [if_neg hp, if_true]
section words
variable (z : Bool) (d n : Nat) {s p q w s2 : Tx} (acc : List Pt) (hs : s ≠ []) (hc : cut2 123 s = some (p, q))
include hs hc
theorem rd_open (he : cut2 125 q = none) : rd z d (n + 1) s acc = none := by
 rw [rd, if_neg hs, hc]; simp only [he]
theorem rd_none (h0 : z = true /\ d = 0) : rd z d (n + 1) s acc = none := by
 rw [rd, if_neg hs, hc]
 dsimp only
 cases cut2 125 q with
 | none => rfl
 | some r => obtain ⟨a, b⟩ := r; simp only [if_pos h0]
variable (he : cut2 125 q = some (w, s2)) (h0 : ¬ (z = true /\ d = 0))
include he h0
theorem rd_stop (hw : w = endW \/ w = elseW) : rd z d (n + 1) s acc = some (if p = [] then acc else acc ++ [txt p], s2, w) := by
 rw [rd, if_neg hs, hc]; simp only [he, if_neg h0, if_pos hw]
variable (hw : ¬ (w = endW \/ w = elseW))
include hw
theorem rd_each (h1 : pre z eachW w = true) : rd z d (n + 1) s acc = (if d = 0 then none else match rd z (d - 1) n s2 [] with
     | none => none
     | some (xs, s3, st) => if st = endW then rd z d n s3 ((if p = [] then acc else acc ++ [txt p]) ++ [mk 4 [] (w.drop 5) xs []]) else none) := by
 rw [rd, if_neg hs, hc]; simp only [he, if_neg h0, if_neg hw, if_pos h1]
variable (h1 : ¬ pre z eachW w = true)
include h1
theorem rd_if (h2 : pre z ifW w = true) : rd z d (n + 1) s acc = (if d = 0 then none else match rd z (d - 1) n s2 [] with
     | none => none
     | some (xs, s3, st) =>
      if st = endW then rd z d n s3 ((if p = [] then acc else acc ++ [txt p]) ++ [mk 3 [] (w.drop 3) xs []])
      else if st = elseW then (match rd z (d - 1) n s3 [] with
       | none => none
       | some (ys, s4, su) => if su = endW then rd z d n s4 ((if p = [] then acc else acc ++ [txt p]) ++ [mk 3 [] (w.drop 3) xs ys]) else none)
      else none) := by
 rw [rd, if_neg hs, hc]; simp only [he, if_neg h0, if_neg hw, if_neg h1, if_pos h2]
theorem rd_hole (h2 : ¬ pre z ifW w = true) : rd z d (n + 1) s acc = rd z d n s2 ((if p = [] then acc else acc ++ [txt p]) ++ [hole w]) := by
 rw [rd, if_neg hs, hc]; simp only [he, if_neg h0, if_neg hw, if_neg h1, if_neg h2]
end words
inductive Stop : Tx -> Tx -> Tx -> Prop where
 | none : Stop [] [] []
 | stop (w t : Tx) (h : w = endW \/ w = elseW) : Stop (lb ++ (w ++ (rb ++ t))) t w
theorem name_bytes {n : Tx} (h : qJ n = true) : n ≠ [] /\ ∀ c ∈ n, c ≠ 123 /\ c ≠ 125 /\ c ≠ 32 := by
 unfold qJ at h
 simp only [Bool.and_eq_true, decide_eq_true_eq] at h
 refine ⟨by intro e; rw [e] at h; simp at h, fun c hc => ?_⟩
 have hb := List.all_eq_true.1 h.2 c hc
 refine ⟨?_, ?_, ?_⟩ <;> (intro e; subst e; revert hb; decide)
theorem has2_no {c : UInt8} : ∀ {t : Tx}, (∀ x ∈ t, x ≠ c) -> has2 c t = false
 | [], _ => rfl
 | [_], _ => rfl
 | x :: y :: t, h => by
  rw [has2, has2_no (fun z hz => h z (List.mem_cons_of_mem _ hz))]
  have : (x == c) = false := by simpa using h x (by simp)
  simp [this]
theorem cut_word {w : Tx} (h : ∀ x ∈ w, x ≠ 125) (t : Tx) : cut2 125 (w ++ (rb ++ t)) = some (w, t) := by
 refine vl t w (has2_no h) fun hl => ?_
 exact h 125 (List.mem_of_getLast? hl) rfl
theorem cut_open (q : Tx) : cut2 123 (lb ++ q) = some ([], q) := by simp [cut2]
theorem begins {z : Tx} {w t : Tx} (hs : Stop z t w) {d : Nat} : ∀ {L : List Pt}, oks L d true = true -> (L = [] /\ z = []) \/ ∃ q, wr L ++ z = lb ++ q
 | [], _ => by
  cases hs with
  | none => exact Or.inl ⟨rfl, rfl⟩
  | stop w t h => exact Or.inr ⟨w ++ (rb ++ t), by simp only [wr, List.nil_append]⟩
 | x :: r, h => by
  refine Or.inr ?_
  rw [oks] at h
  simp only [Bool.and_eq_true] at h
  obtain ⟨-, h2, -⟩ := h
  cases x with
  | mk k t n xs ys =>
   have hk : k ≠ 1 := by intro e; subst e; simp [kind] at h2
   rw [wr, wr1, if_neg hk]
   by_cases k2 : k = 2
   ·rw [if_pos k2]; exact ⟨n ++ (rb ++ (wr r ++ z)), by simp only [List.append_assoc]⟩
   rw [if_neg k2]
   by_cases k4 : k = 4
   ·rw [if_pos k4]; exact ⟨eachW ++ (n ++ (rb ++ (wr xs ++ (endT ++ (wr r ++ z))))), by simp only [List.append_assoc]⟩
   rw [if_neg k4]; exact ⟨ifW ++ (n ++ (rb ++ (wr xs ++ ((if ys.isEmpty = true then endT else elseT ++ (wr ys ++ endT)) ++ (wr r ++ z))))), by simp only [List.append_assoc]⟩
theorem txt_facts {t : Tx} (h : zA t = true) : t ≠ [] /\ has2 123 t = false /\ t.getLast? ≠ some 123 := by
 unfold zA at h
 simp only [Bool.and_eq_true, Bool.not_eq_true', beq_eq_false_iff_ne] at h
 obtain ⟨-, h1, h2, -, h4⟩ := h
 rw [yF, Bool.or_eq_false_iff] at h2
 refine ⟨h1, h2.1, fun e => ?_⟩
 have : t.getLastD 0 = 123 := by rw [List.getLastD_eq_getLast?, e]; rfl
 rw [this] at h4
 cases h4
theorem word_not {n : Tx} (h : zY n = false) : ¬ (n = endW \/ n = elseW) := by
 unfold zY at h
 simp only [Bool.or_eq_false_iff, beq_eq_false_iff_ne] at h
 rintro (e | e)
 ·exact h.2.2.2 e
 exact h.2.2.1 e
theorem pre_no {z : Bool} {p n : Tx} (hp : (32 : UInt8) ∈ p) (h : ∀ c ∈ n, c ≠ 32) : ¬ pre z p n = true := by
 intro e
 unfold pre at e
 rw [Bool.and_eq_true] at e
 obtain ⟨t, ht⟩ := List.isPrefixOf_iff_prefix.1 e.1
 exact h 32 (by rw [<- ht]; exact List.mem_append_left _ hp) rfl
theorem pre_yes {z : Bool} {p n : Tx} (h : n ≠ []) : pre z p (p ++ n) = true := by
 unfold pre
 rw [Bool.and_eq_true]
 refine ⟨List.isPrefixOf_iff_prefix.2 ⟨n, rfl⟩, ?_⟩
 have : 0 < n.length := List.length_pos_iff.2 h
 simp only [List.length_append, Bool.or_eq_true, decide_eq_true_eq]
 exact Or.inr (by omega)
theorem rd_wr_aux (z : Bool) : ∀ (N : Nat) (n : Nat), n <= N -> ∀ (L : List Pt) (d : Nat) (tl t w : Tx) (acc : List Pt), oks L d false = true -> Stop tl t w -> (wr L ++ tl).length < n -> rd z (d + z.toNat) n (wr L ++ tl) acc = some (acc ++ L, t, w) := by
 intro N
 induction N with
 | zero => intro n hn L d tl t w acc _ _ hl; omega
 | succ N ih =>
  intro n hn
  obtain _ | n := n
  ·intro L d tl t w acc _ _ hl; omega
  have hz0 : ∀ d, ¬ (z = true /\ d + z.toNat = 0) := by
   rintro d ⟨rfl, h⟩
   simp at h
  have step : ∀ (L : List Pt) (d : Nat) (tl t w : Tx) (acc : List Pt), oks L d true = true -> Stop tl t w -> (wr L ++ tl).length < n + 1 -> rd z (d + z.toNat) (n + 1) (wr L ++ tl) acc = some (acc ++ L, t, w) := by
   intro L d tl t w acc ho hst hl
   cases L with
   | nil =>
    cases hst with
    | none => rw [wr, List.nil_append, rd_nil, List.append_nil]
    | stop w t h =>
     have hb : ∀ x ∈ w, x ≠ (125 : UInt8) := by
      rcases h with rfl | rfl <;> decide
     rw [wr, List.nil_append, rd_stop z _ n acc (by simp) (cut_open _) (cut_word hb t) (hz0 d) h, if_pos rfl, List.append_nil]
   | cons x r =>
    cases x with
    | mk k t1 nm xs ys =>
     rw [oks] at ho
     simp only [Bool.and_eq_true] at ho
     obtain ⟨hx, h2, hr⟩ := ho
     have hk : k ≠ 1 := by intro e; subst e; simp [kind] at h2
     rw [show decide (kind (mk k t1 nm xs ys) = 1) = false by simp [kind, hk]] at hr
     rw [ok, if_neg hk] at hx
     rw [wr, wr1, if_neg hk] at hl ⊢
     by_cases k2 : k = 2
     ·subst k2
      rw [if_pos rfl] at hx hl ⊢
      simp only [Bool.and_eq_true] at hx
      obtain ⟨g1, g2, g3, g4⟩ := hx
      obtain ⟨hn0, hnb⟩ := name_bytes g1
      simp only [beq_iff_eq] at g3
      subst g3
      have e1 : xs = [] := by cases xs with | nil => rfl | cons => simp at g4
      have e2 : ys = [] := by cases ys with | nil => rfl | cons => simp at g4
      subst e1; subst e2
      have e : lb ++ (nm ++ rb) ++ wr r ++ tl = lb ++ (nm ++ (rb ++ (wr r ++ tl))) := by simp only [List.append_assoc]
      rw [e] at hl ⊢
      rw [rd_hole z _ n acc (by simp) (cut_open _) (cut_word (fun c hc => (hnb c hc).2.1) _) (hz0 d) (word_not (by simpa using g2)) (pre_no (by simp) fun c hc => (hnb c hc).2.2) (pre_no (by simp) fun c hc => (hnb c hc).2.2), if_pos rfl]
      rw [ih n (by omega) r d tl t w _ hr hst (by simp only [List.length_append, List.length_cons, List.length_nil] at hl ⊢; omega)]
      simp only [List.append_assoc]; rfl
     rw [if_neg k2] at hx hl ⊢
     by_cases k34 : k = 3 \/ k = 4
     case neg => rw [if_neg k34] at hx; cases hx
     rw [if_pos k34] at hx
     simp only [Bool.and_eq_true] at hx
     obtain ⟨g1, g2, g3, g4, gx, gy⟩ := hx
     have hd : d ≠ 0 := by simpa using g4
     obtain ⟨d, rfl⟩ : ∃ e, d = e + 1 := ⟨d - 1, by omega⟩
     rw [Nat.add_sub_cancel] at gx gy
     have ed : d + 1 + z.toNat - 1 = d + z.toNat := by omega
     have ed0 : ¬ d + 1 + z.toNat = 0 := by omega
     obtain ⟨hn0, hnb⟩ := name_bytes g1
     simp only [beq_iff_eq] at g2
     subst g2
     by_cases k4 : k = 4
     ·subst k4
      rw [if_pos rfl] at hl ⊢
      have e2 : ys = [] := by cases ys with | nil => rfl | cons => simp at g3
      subst e2
      have e : lb ++ (eachW ++ (nm ++ (rb ++ (wr xs ++ endT)))) ++ wr r ++ tl = lb ++ ((eachW ++ nm) ++ (rb ++ (wr xs ++ (lb ++ (endW ++ (rb ++ (wr r ++ tl))))))) := by simp only [List.append_assoc]; rfl
      rw [e] at hl ⊢
      have hpb : ∀ x ∈ eachW, x ≠ (125 : UInt8) := by decide
      have hb : ∀ x ∈ eachW ++ nm, x ≠ (125 : UInt8) := by
       intro x hx
       rcases List.mem_append.1 hx with h | h
       ·exact hpb x h
       exact (hnb x h).2.1
      have hw : ¬ (eachW ++ nm = endW \/ eachW ++ nm = elseW) := by simp
      have hl1 := hl
      simp only [List.length_append, List.length_cons, List.length_nil] at hl1
      rw [rd_each z _ n acc (by simp) (cut_open _) (cut_word hb _) (hz0 _) hw (pre_yes hn0), if_neg ed0, ed]
      rw [ih n (by omega) xs d _ _ _ [] gx (Stop.stop endW (wr r ++ tl) (Or.inl rfl)) (by simp only [List.length_append, List.length_cons, List.length_nil]; omega)]
      dsimp only
      rw [if_pos rfl, if_pos rfl, ih n (by omega) r (d + 1) tl t w _ hr hst (by simp only [List.length_append]; omega)]
      simp only [List.append_assoc, List.nil_append]; rfl
     rw [if_neg k4] at hl ⊢
     have k3 : k = 3 := by rcases k34 with h | h; exact h; exact absurd h k4
     subst k3
     have hpb : ∀ x ∈ ifW, x ≠ (125 : UInt8) := by decide
     have hb : ∀ x ∈ ifW ++ nm, x ≠ (125 : UInt8) := by
      intro x hx
      rcases List.mem_append.1 hx with h | h
      ·exact hpb x h
      exact (hnb x h).2.1
     have hw : ¬ (ifW ++ nm = endW \/ ifW ++ nm = elseW) := by simp
     have hpe : ¬ pre z eachW (ifW ++ nm) = true := by
      intro e
      unfold pre at e
      simp at e
     by_cases hy : ys = []
     ·subst hy
      have e : lb ++ (ifW ++ (nm ++ (rb ++ (wr xs ++ (if ([] : List Pt).isEmpty then endT else elseT ++ (wr [] ++ endT)))))) ++ wr r ++ tl = lb ++ ((ifW ++ nm) ++ (rb ++ (wr xs ++ (lb ++ (endW ++ (rb ++ (wr r ++ tl))))))) := by
       rw [if_pos (by rfl)]; simp only [List.append_assoc]; rfl
      rw [e] at hl ⊢
      have hl1 := hl
      simp only [List.length_append, List.length_cons, List.length_nil] at hl1
      rw [rd_if z _ n acc (by simp) (cut_open _) (cut_word hb _) (hz0 _) hw hpe (pre_yes hn0), if_neg ed0, ed]
      rw [ih n (by omega) xs d _ _ _ [] gx (Stop.stop endW (wr r ++ tl) (Or.inl rfl)) (by simp only [List.length_append, List.length_cons, List.length_nil]; omega)]
      dsimp only
      rw [if_pos rfl, if_pos rfl, ih n (by omega) r (d + 1) tl t w _ hr hst (by simp only [List.length_append]; omega)]
      simp only [List.append_assoc, List.nil_append]; rfl
     have hye : ys.isEmpty = false := by cases ys with | nil => exact absurd rfl hy | cons => rfl
     have e : lb ++ (ifW ++ (nm ++ (rb ++ (wr xs ++ (if ys.isEmpty then endT else elseT ++ (wr ys ++ endT)))))) ++ wr r ++ tl = lb ++ ((ifW ++ nm) ++ (rb ++ (wr xs ++ (lb ++ (elseW ++ (rb ++ (wr ys ++ (lb ++ (endW ++ (rb ++ (wr r ++ tl))))))))))) := by
      rw [hye, if_neg (by simp)]; simp only [List.append_assoc]; rfl
     rw [e] at hl ⊢
     have hl1 := hl
     simp only [List.length_append, List.length_cons, List.length_nil] at hl1
     rw [rd_if z _ n acc (by simp) (cut_open _) (cut_word hb _) (hz0 _) hw hpe (pre_yes hn0), if_neg ed0, ed]
     rw [ih n (by omega) xs d _ _ _ [] gx (Stop.stop elseW _ (Or.inr rfl)) (by simp only [List.length_append, List.length_cons, List.length_nil]; omega)]
     dsimp only
     rw [if_neg (by decide), if_pos rfl]
     rw [ih n (by omega) ys d _ _ _ [] gy (Stop.stop endW (wr r ++ tl) (Or.inl rfl)) (by simp only [List.length_append, List.length_cons, List.length_nil]; omega)]
     dsimp only
     rw [if_pos rfl, if_pos rfl, ih n (by omega) r (d + 1) tl t w _ hr hst (by simp only [List.length_append]; omega)]
     simp only [List.append_assoc, List.nil_append]; rfl
  intro L d tl t w acc ho hst hl
  cases L with
  | nil => exact step [] d tl t w acc rfl hst hl
  | cons x r =>
   cases x with
   | mk k t1 nm xs ys =>
    by_cases hk : k = 1
    ·subst hk
     rw [oks] at ho
     simp only [Bool.and_eq_true] at ho
     obtain ⟨hx, -, hr⟩ := ho
     rw [show decide (kind (mk 1 t1 nm xs ys) = 1) = true by simp [kind]] at hr
     rw [ok, if_pos rfl] at hx
     simp only [Bool.and_eq_true, beq_iff_eq] at hx
     obtain ⟨g1, g2, g4⟩ := hx
     subst g2
     have e1 : xs = [] := by cases xs with | nil => rfl | cons => simp at g4
     have e2 : ys = [] := by cases ys with | nil => rfl | cons => simp at g4
     subst e1; subst e2
     obtain ⟨f1, f2, f3⟩ := txt_facts g1
     rw [wr, wr1, if_pos rfl, List.append_assoc] at hl ⊢
     rcases begins hst hr with ⟨e3, e4⟩ | ⟨q, hq⟩
     ·subst e3; subst e4
      cases hst
      rw [wr, List.append_nil, List.append_nil, rd_last z _ n acc f1 (ZO.2 f2)]
      rfl
     have hs := step r d tl t w (acc ++ [txt t1]) hr hst (by rw [List.length_append] at hl; omega)
     rw [hq] at hs ⊢
     refine (rd_text z _ n acc (vl q t1 f2 f3) f1).trans (Eq.trans hs ?_)
     rw [List.append_assoc]; rfl
    refine step _ d tl t w acc ?_ hst hl
    rw [oks] at ho ⊢
    simp only [Bool.and_eq_true] at ho ⊢
    exact ⟨ho.1, by simp [kind, hk], ho.2.2⟩
theorem rd_wr (z : Bool) {L : List Pt} {d : Nat} (h : oks L d false = true) {n : Nat} (hn : (wr L).length < n) : rd z (d + z.toNat) n (wr L) [] = some (L, [], []) := by
 have := rd_wr_aux z n n (Nat.le_refl _) L d [] [] [] [] h Stop.none (by rw [List.append_nil]; exact hn)
 rwa [List.append_nil, List.nil_append] at this
def readT (z : Bool) (s : Tx) : Option (List Pt) := match rd z (3 + z.toNat) (s.length + 1) s [] with
 | none => none
 | some (L, _, st) => if (st == [] && (valid L && wr L == s)) = true then some L else none
theorem readT_iff {z : Bool} {s : Tx} {L : List Pt} : readT z s = some L ↔ valid L = true /\ wr L = s := by
 constructor
 ·intro h
  unfold readT at h
  split at h
  ·cases h
  split at h
  ·rename_i hc
   injection h with h
   subst h
   simp only [Bool.and_eq_true, beq_iff_eq] at hc
   exact hc.2
  cases h
 rintro ⟨hv, rfl⟩
 have hv2 := hv
 unfold valid at hv2
 rw [Bool.and_eq_true] at hv2
 unfold readT
 rw [rd_wr z hv2.2 (Nat.lt_succ_self _)]
 simp [hv]
theorem readT_same (s : Tx) : readT true s = readT false s := by
 cases h : readT false s with
 | some L => exact readT_iff.2 (readT_iff.1 h)
 | none =>
  cases h2 : readT true s with
  | none => rfl
  | some L => rw [readT_iff.2 (readT_iff.1 h2)] at h; cases h
theorem kK (xs ys : List Pt) : sizes (xs ++ ys) = sizes xs + sizes ys := by
 induction xs with
 | nil => simp [sizes]
 | cons x t ih => simp only [List.cons_append, sizes, ih]; omega
def sz (xs : List Pt) : Nat := xs.length + sizes xs
theorem sz_snoc (xs : List Pt) (x : Pt) : sz (xs ++ [x]) = sz xs + (1 + size x) := by
 unfold sz
 rw [kK]
 simp only [List.length_append, List.length_cons, List.length_nil, sizes]
 omega
theorem sz_text (p : Tx) (acc : List Pt) : sz (if p = [] then acc else acc ++ [txt p]) <= sz acc + p.length + 1 := by
 split
 ·omega
 rw [sz_snoc]; simp only [txt, size, sizes, List.length_nil]; omega
theorem rd_size (z : Bool) : ∀ (n d : Nat) (s : Tx) (acc : List Pt) {L : List Pt} {t w : Tx}, rd z d n s acc = some (L, t, w) -> sz L + t.length <= sz acc + s.length + 1 /\ (w ≠ [] -> sz L + t.length + 2 <= sz acc + s.length) /\ (w = [] -> t = []) := by
 intro n
 induction n with
 | zero => intro d s acc L t w h; rw [rd] at h; cases h
 | succ n ih =>
  intro d s acc L t w h
  rw [rd] at h
  split at h
  ·rename_i hs
   injection h with h
   injection h with h1 h2
   injection h2 with h2 h3
   subst h1; subst h2; subst h3
   exact ⟨by simp only [List.length_nil]; omega, fun h => absurd rfl h, fun _ => rfl⟩
  split at h
  ·injection h with h
   injection h with h1 h2
   injection h2 with h2 h3
   subst h1; subst h2; subst h3
   rw [sz_snoc]
   refine ⟨by simp only [txt, size, sizes, List.length_nil]; omega, fun h => absurd rfl h, fun _ => rfl⟩
  rename_i p q hc
  have hl := jk hc
  have ht := sz_text p acc
  generalize (if p = [] then acc else acc ++ [txt p]) = acc1 at *
  split at h
  ·cases h
  rename_i wd s2 hc2
  have hl2 := jk hc2
  split at h
  ·cases h
  split at h
  ·rename_i hw
   injection h with h
   injection h with h1 h2
   injection h2 with h2 h3
   subst h1; subst h2; subst h3
   refine ⟨by omega, fun _ => by
    have : 1 <= wd.length := by rcases hw with rfl | rfl <;> simp
    omega, fun e => ?_⟩
   subst e
   rcases hw with hw | hw <;> cases hw
  have fin : ∀ {s' : Tx} {x : Pt}, rd z d n s' (acc1 ++ [x]) = some (L, t, w) -> size x + s'.length <= s2.length + wd.length + 1 -> (sz L + t.length <= sz acc + s.length + 1 /\ (w ≠ [] -> sz L + t.length + 2 <= sz acc + s.length) /\ (w = [] -> t = [])) := by
   intro s' x h hx
   obtain ⟨i1, i2, i3⟩ := ih _ _ _ h
   rw [sz_snoc] at i1 i2
   exact ⟨by omega, fun hw => by have := i2 hw; omega, i3⟩
  split at h
  ·split at h
   ·cases h
   split at h
   ·cases h
   rename_i xs s3 st hq
   split at h
   case isFalse => cases h
   rename_i hst
   obtain ⟨i1, i2, i3⟩ := ih _ _ _ hq
   have i2 := i2 (by rw [hst]; simp)
   refine fin h ?_
   simp only [sz, List.length_nil, sizes] at i2
   simp only [size, sizes, List.length_nil, List.length_drop]
   omega
  split at h
  ·split at h
   ·cases h
   split at h
   ·cases h
   rename_i xs s3 st hq
   obtain ⟨i1, i2, i3⟩ := ih _ _ _ hq
   split at h
   ·rename_i hst
    have i2 := i2 (by rw [hst]; simp)
    refine fin h ?_
    simp only [sz, List.length_nil, sizes] at i2
    simp only [size, sizes, List.length_nil, List.length_drop]
    omega
   split at h
   case isFalse => cases h
   rename_i hst
   have i2 := i2 (by rw [hst]; simp)
   split at h
   ·cases h
   rename_i ys s4 su hq2
   split at h
   case isFalse => cases h
   rename_i hsu
   obtain ⟨j1, j2, j3⟩ := ih _ _ _ hq2
   have j2 := j2 (by rw [hsu]; simp)
   refine fin h ?_
   simp only [sz, List.length_nil, sizes] at i2 j2
   simp only [size, List.length_nil, List.length_drop]
   omega
  refine fin h ?_
  simp only [hole, size, sizes, List.length_nil]
  omega
end Pt
end Go.Proofs.YtmboieajfdkllaaGreat
