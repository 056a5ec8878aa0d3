import Derived.Test.YtmboieajfdkllaaGreatU20
import Derived.Test.YtmboieajfdkllaaGreatU02
import Derived.Test.YtmboieajfdkllaaGreatU06
import Derived.Test.YtmboieajfdkllaaGreatU26
import Derived.Test.YtmboieajfdkllaaGreatU28
import Derived.Test.YtmboieajfdkllaaGreatU31
import Derived.Deep.AppendLies
import Derived.Deep.RegionLaw
set_option maxHeartbeats 1600000
set_option maxRecDepth 100000
open Go.Proofs.Tryz
namespace Go.Proofs.YtmboieajfdkllaaGreat
open Go.RowKit
abbrev wd1 (s : Tx) : Tx := s.take (at_ 32 s)
abbrev wd2 (s : Tx) : Tx := s.drop (at_ 32 s + 1)
def orE (s : Tx) : Tx := if s = [] then [101, 109, 112, 116, 121] else s
theorem Zx (s : Tx) (w : World) : Calls Tryz.prog 43 #[sv s] w fun e w' => e = .returned (sv (orE s)) /\ w = w' := by
 go_enter func43, ntmps43
 by_cases hs : s = []
 ·have hq : (s == []) = true := by rw [hs]; rfl
  have hq2 : List.isEmpty s = true := by rw [hs]; rfl
  have HE : Hid (orE s = [101, 109, 112, 116, 121]) := by show _ = _; unfold orE; rw [if_pos hs]
  clear hs
  go_wp2
  go_ret
  exact ⟨qM HE.out.symm, rfl⟩
 have hq : (s == []) = false := by simpa using hs
 have hq2 : List.isEmpty s = false := by cases s with | nil => exact absurd rfl hs | cons => rfl
 have HE : Hid (orE s = s) := by show _ = _; unfold orE; rw [if_neg hs]
 clear hs
 go_wp2
 go_ret
 exact ⟨qM HE.out.symm, rfl⟩
theorem byte_sp (b : UInt8) : ((b.toNat : Int) == 32) = (b == 32) := by
 rw [Bool.eq_iff_iff, beq_iff_eq, beq_iff_eq]
 constructor
 ·intro h
  apply UInt8.toNat_inj.1
  show b.toNat = 32
  omega
 rintro rfl
 rfl
theorem Zy (s : Tx) (hl : s.length <= 4294967296) (w : World) : Calls Tryz.prog 33 #[sv s] w fun e w' => e = .returned (.tuple #[sv (wd1 s), sv (wd2 s)]) /\ Below w.heap.size w w' := by
 have HA := qb (fun (h : ¬ at_ 32 s < s.length) => (show wd1 s = s /\ wd2 s = [] from ⟨List.take_of_length_le (by omega), List.drop_eq_nil_of_le (by omega)⟩))
 go_enter func33, ntmps33
 go_wp2
 go_loopw [4] (fun i wr => ∃ (j : Nat), j <= s.length /\ i = .int .i64 j /\ j <= at_ 32 s /\ wr = w) (fun i _ => s.length - (intOf i).toNat)
 case atStart => exact ⟨0, Nat.zero_le _, rfl, Nat.zero_le _, rfl⟩
 obtain ⟨j, hj, rfl, ha, rfl⟩ := hrel
 by_cases hlt : j < s.length
 ·have hbs := byte_sp s[j]
  cases hc : (s[j] == 32)
  ·have HST := qb (at_step ha hlt hc)
   rw [hc] at hbs
   go_wp2
   go_roundw
   case rel => exact ⟨j + 1, by omega, by go_num, HST.out, by trivial⟩
   case measure => simp [intOf]; omega
  have HF := qb (KU ha hlt hc)
  rw [hc] at hbs
  go_wp2_with fail
  go_region
  go_wp2
  refine bodyPost_ret (v := .tuple #[sv (List.take j s), sv (List.drop (j + 1) s)]) (by simp [results, results33, go_sem, *]) rfl ⟨?_, (Below.refl _ _).drew⟩
  show _ = Ending.returned (.tuple #[sv (s.take (at_ 32 s)), sv (s.drop (at_ 32 s + 1))])
  rw [HF.out]
 have HAA := qb (HA.out (by omega))
 go_wp2
 refine bodyPost_ret (v := .tuple #[sv s, sv []]) (by simp [results, results33, go_sem, *]) rfl ⟨?_, Below.refl _ _⟩
 rw [HAA.out.1, HAA.out.2]
namespace Pt
theorem ok_size_list : ∀ {xs : List Pt} {d : Nat} {p : Bool}, (∀ x ∈ xs, ∀ d, ok x d = true -> size x + 1 <= 700 * many x) -> oks xs d p = true -> xs.length + sizes xs <= 700 * manys xs
 | [], _, _, _, _ => by simp [sizes, manys]
 | x :: r, d, p, hx, ho => by
  rw [oks] at ho
  simp only [Bool.and_eq_true] at ho
  have h1 := hx x (by simp) d ho.1
  have h2 := ok_size_list (fun y hy => hx y (List.mem_cons_of_mem _ hy)) ho.2.2
  rw [sizes, manys, List.length_cons, Nat.mul_add]
  omega
theorem ok_size (x : Pt) : ∀ d, ok x d = true -> size x + 1 <= 700 * many x := by
 induction x using ind with
 | h k t n xs ys ih1 ih2 =>
  intro d ho
  rw [ok] at ho
  rw [size, many]
  by_cases k1 : k = 1
  ·rw [if_pos k1] at ho
   simp only [Bool.and_eq_true, beq_iff_eq, List.isEmpty_iff] at ho
   obtain ⟨h1, rfl, rfl, rfl⟩ := ho
   have := txt_le h1
   simp [sizes, manys]
   omega
  rw [if_neg k1] at ho
  by_cases k2 : k = 2
  ·rw [if_pos k2] at ho
   simp only [Bool.and_eq_true, beq_iff_eq, List.isEmpty_iff] at ho
   obtain ⟨h1, -, rfl, rfl, rfl⟩ := ho
   unfold qJ at h1
   simp only [Bool.and_eq_true, decide_eq_true_eq] at h1
   simp [sizes, manys]
   omega
  rw [if_neg k2] at ho
  by_cases k34 : k = 3 \/ k = 4
  case neg => rw [if_neg k34] at ho; cases ho
  rw [if_pos k34] at ho
  simp only [Bool.and_eq_true, beq_iff_eq] at ho
  obtain ⟨h1, rfl, -, -, hox, hoy⟩ := ho
  unfold qJ at h1
  simp only [Bool.and_eq_true, decide_eq_true_eq] at h1
  have h2 := ok_size_list ih1 hox
  have h3 := ok_size_list ih2 hoy
  simp only [List.length_nil]
  omega
theorem valid_size {xs : List Pt} (h : valid xs = true) : xs.length + sizes xs <= 21000 := by
 unfold valid at h
 simp only [Bool.and_eq_true, decide_eq_true_eq] at h
 have := ok_size_list (fun x _ => ok_size x) h.2
 omega
end Pt
namespace Fd
def chg (g : Fd -> Fd) (nm : Tx) (xs : List Fd) : List Fd := (put nm xs).modify (ix nm xs) g
def setT (t : Tx) (f : Fd) : Fd := ⟨f.name, t, f.holds, f.items⟩
def flip (f : Fd) : Fd := ⟨f.name, f.text, !f.holds, f.items⟩
def addI (t : Tx) (f : Fd) : Fd := ⟨f.name, f.text, f.holds, f.items ++ [t]⟩
theorem sizes_cons (f : Fd) (xs : List Fd) : sizes (f :: xs) = size f + sizes xs := by simp [sizes]
theorem valid_ok {xs : List Fd} (h : valid xs = true) {f : Fd} (hf : f ∈ xs) : ok f = true := by
 unfold valid at h
 simp only [Bool.and_eq_true, decide_eq_true_eq] at h
 obtain ⟨j, hj, e⟩ := List.mem_iff_getElem.1 hf
 have h2 := List.all_eq_true.1 h.2 j (List.mem_range.2 hj)
 rw [okAt_of hj e] at h2
 simp only [Bool.and_eq_true] at h2
 exact h2.1
theorem ok_size {f : Fd} (h : ok f = true) : size f <= 555 := by
 unfold ok at h
 simp only [Bool.and_eq_true, decide_eq_true_eq] at h
 obtain ⟨h1, h2, h3, h4⟩ := h
 unfold qJ at h1
 simp only [Bool.and_eq_true, decide_eq_true_eq] at h1
 have h5 := jE h2
 have h6 := vJ f.items (fun x hx => Nat.le_trans (jE (List.all_eq_true.1 h4 x hx)) (by decide))
 unfold size
 omega
theorem sizes_le {m : Nat} : ∀ {xs : List Fd}, (∀ f ∈ xs, size f <= m) -> sizes xs <= m * xs.length
 | [], _ => by simp [sizes]
 | f :: r, h => by
  have h1 := h f (by simp)
  have h2 := sizes_le (fun y hy => h y (List.mem_cons_of_mem _ hy))
  rw [sizes_cons, List.length_cons, Nat.mul_add]
  omega
theorem valid_size {xs : List Fd} (h : valid xs = true) : xs.length + sizes xs <= 5000 := by
 have h1 := sizes_le (m := 555) (fun f hf => ok_size (valid_ok h hf))
 have h2 := (valid_good h).2
 omega
theorem sizes_modify {g : Fd -> Fd} {c : Nat} (hg : ∀ f, size (g f) <= size f + c) : ∀ (xs : List Fd) (i : Nat), sizes (xs.modify i g) <= sizes xs + c
 | [], i => by simp [sizes]
 | f :: r, 0 => by
  have := hg f
  simp only [List.modify_zero_cons, sizes_cons]
  omega
 | f :: r, i + 1 => by
  have := sizes_modify hg r i
  simp only [List.modify_succ_cons, sizes_cons]
  omega
theorem put_len (nm : Tx) (xs : List Fd) : (put nm xs).length <= xs.length + 1 := by
 unfold put
 split
 ·omega
 simp
theorem put_size (nm : Tx) (xs : List Fd) : sizes (put nm xs) <= sizes xs + nm.length := by
 unfold put
 split
 ·omega
 simp [sizes, size, qR]
theorem chg_len (g : Fd -> Fd) (nm : Tx) (xs : List Fd) : (chg g nm xs).length <= xs.length + 1 := by
 unfold chg
 rw [List.length_modify]
 exact put_len nm xs
theorem chg_size {g : Fd -> Fd} {c : Nat} (hg : ∀ f, size (g f) <= size f + c) (nm : Tx) (xs : List Fd) : sizes (chg g nm xs) <= sizes xs + nm.length + c := by
 have h1 := sizes_modify hg (put nm xs) (ix nm xs)
 have h2 := put_size nm xs
 unfold chg
 omega
theorem ssize_snoc : ∀ (is : List Tx) (t : Tx), qR (is ++ [t]) = qR is + t.length
 | [], t => by simp [qR]
 | x :: r, t => by simp only [List.cons_append, qR, ssize_snoc r t]; omega
theorem setT_size (t : Tx) (f : Fd) : size (setT t f) <= size f + t.length := by simp only [size, setT]; omega
theorem flip_size (f : Fd) : size (flip f) <= size f + 0 := by simp only [size, flip]; omega
theorem addI_size (t : Tx) (f : Fd) : size (addI t f) <= size f + (t.length + 1) := by
 simp only [size, addI, ssize_snoc, List.length_append, List.length_singleton]; omega
theorem ix_lt_put (nm : Tx) (xs : List Fd) : ix nm xs < (put nm xs).length := by
 unfold put
 split
 ·assumption
 have := ix_le nm xs
 simp; omega
end Fd
namespace Dk
def tplW : Tx := [116, 101, 109, 112, 108, 97, 116, 101]
def textW : Tx := [116, 101, 120, 116]
def itemW : Tx := [105, 116, 101, 109]
def holdsW : Tx := [104, 111, 108, 100, 115]
def fillW : Tx := [102, 105, 108, 108]
def plainW : Tx := [112, 108, 97, 105, 110]
def checkW : Tx := [99, 104, 101, 99, 107]
def okW : Tx := [111, 107]
def noW : Tx := [110, 111]
def whatW : Tx := [119, 104, 97, 116]
def ifOk (d y : Dk) : Dk × Tx := if valid y = true then (y, okW) else (d, noW)
def say (d : Dk) (s : Tx) : Dk × Tx :=
 if s = fillW then (d, if (zs d.parts d.data).2 = true then orE (zs d.parts d.data).1 else noW)
 else if s = plainW then (d, orE (zQ d.parts d.data))
 else if s = checkW then (d, jv (Pt.fault d.parts))
 else if wd2 s = [] then (d, whatW)
 else if wd1 s = tplW then (match Pt.readT false (wd2 s) with
  | none => (d, noW)
  | some L => (⟨L, d.data⟩, okW))
 else if wd1 s = textW then ifOk d ⟨d.parts, Fd.chg (Fd.setT (wd2 (wd2 s))) (wd1 (wd2 s)) d.data⟩
 else if wd1 s = itemW then ifOk d ⟨d.parts, Fd.chg (Fd.addI (wd2 (wd2 s))) (wd1 (wd2 s)) d.data⟩
 else if wd1 s = holdsW /\ wd2 s = wd1 (wd2 s) then ifOk d ⟨d.parts, Fd.chg Fd.flip (wd1 (wd2 s)) d.data⟩
 else (d, whatW)
def zero : Dk := ⟨[], []⟩
def line (d : Dk) (s : Tx) : Dk × Tx := if valid d = true then say d s else (zero, [])
theorem valid_size {d : Dk} (h : valid d = true) : size d <= 26000 := by
 unfold valid at h
 rw [Bool.and_eq_true] at h
 have h1 := Pt.valid_size h.1
 have h2 := Fd.valid_size h.2
 unfold size
 omega
end Dk
section
variable {w : World} {B g c : Nat} {rs : List FRaw} {xs : List Fd}
theorem FLo.row_ne (h : FLo w B (some ⟨g, 0, none⟩) c rs xs) {r : FRaw} (hr : r ∈ rs) : ∀ j ∈ bk r.A r.l r.c, j ≠ g := fun j hj e => by
 have hn := (List.nodup_append.1 h.nodup).2.2 g (by show g ∈ [g]; simp) j (jm.2 ⟨r, hr, hj⟩)
 exact hn e.symm
theorem FLo.items_ne (h : FLo w B (some ⟨g, 0, none⟩) c rs xs) {k i : Nat} {r s : FRaw} (hr : rs[k]? = some r) (hs : rs[i]? = some s) (hik : i ≠ k) : ∀ j ∈ bk s.A s.l s.c, j ∉ bk r.A r.l r.c := fun j hj hj2 => by
 have hn := (List.nodup_append.1 h.nodup).2.1
 have key : ∀ (rs : List FRaw), (fblk rs).Nodup -> ∀ (a b : Nat) (x y : FRaw), a < b -> rs[a]? = some x -> rs[b]? = some y -> j ∈ bk x.A x.l x.c -> j ∈ bk y.A y.l y.c -> False := by
  intro rs
  induction rs with
  | nil => intro _ a b x y _ h1; simp at h1
  | cons z t ih =>
   intro hn a b x y hab h1 h2 h3 h4
   simp only [fblk] at hn
   rw [List.nodup_append] at hn
   cases b with
   | zero => omega
   | succ b =>
    cases a with
    | zero =>
     simp at h1 h2
     subst h1
     exact hn.2.2 j h3 j (jm.2 ⟨y, List.mem_of_getElem? h2, h4⟩) rfl
    | succ a => exact ih hn.2.1 a b x y (by omega) (by simpa using h1) (by simpa using h2) h3 h4
 rcases Nat.lt_or_gt_of_ne hik with h1 | h1
 ·exact key rs hn i k s r h1 hs hr hj hj2
 exact key rs hn k i r s h1 hr hs hj2 hj
theorem FLo.cell (h : FLo w B (some ⟨g, 0, none⟩) c rs xs) {k j : Nat} {r : FRaw} {x : Fd} (hk : rs[k]? = some r) (hkx : xs[k]? = some x) (hj : j < 3) (r' : FRaw) (x' : Fd) {v : Value} (hr : r'.cs = r.cs.set j v) (hA : r'.A = r.A /\ r'.l = r.l /\ r'.c = r.c) (hx : r'.n = x'.name /\ r'.t = x'.text /\ r'.h = x'.holds /\ x'.items = x.items) :
  FLo (w.setCell ⟨g, k * 4 + j, none⟩ v) B (some ⟨g, 0, none⟩) c (rs.set k r') (xs.set k x') := by
 obtain ⟨hkl, hke⟩ := List.getElem?_eq_some_iff.1 hk
 obtain ⟨r1, r2, r3⟩ := hA
 have hel := h.els k r x hk hkx
 have hoff : ∀ {s : FRaw}, s ∈ rs -> ∀ b ∈ bk s.A s.l s.c, (w.setCell ⟨g, k * 4 + j, none⟩ v).heap[b]? = w.heap[b]? := fun hs b hb => Below.heap_setCell _ _ _ _ (h.row_ne hs b hb)
 refine h.setr hkl (yN h.own hkl (by omega) (by rw [hke]; exact hr)) ?_ (fun i s _ hs b hb => hoff (List.mem_of_getElem? hs) b hb) (.inl (by rw [hke, r1, r2, r3]))
 refine ⟨hx.1, hx.2.1, hx.2.2.1, by rw [r2, hx.2.2.2]; exact hel.2.2.2.1, ?_⟩
 rw [r1, r3, hx.2.2.2]
 exact zt hel.2.2.2.2 (fun q hq => hoff (List.mem_of_getElem? hk) q (qO.2 (by rw [hel.2.2.2.1]; exact hq)))
theorem VP {W : World} {e : TypeId} {base size n : Nat} {v : Value} {us : List Value} (h : W.ownsRow base e size v n us) (p : Addr) (u : Value) (hp : ∀ q, v.ownBlock = some q -> q ≠ p.block) : (W.setCell p u).ownsRow base e size v n us :=
 zt h fun q hq => Below.heap_setCell _ _ _ _ (hp q hq)
theorem FLo.items0 (h : FLo w B (some ⟨g, 0, none⟩) c rs xs) {k : Nat} {r : FRaw} {x : Fd} (hk : rs[k]? = some r) (hkx : xs[k]? = some x) {W : World} {is : List Tx} (hl : is.length = x.items.length) (ho : OwnS W B r.A r.c is) (hg : w.grownBy W (Value.ownBlock (.slice r.A r.l r.c))) :
  FLo W B (some ⟨g, 0, none⟩) c rs (xs.set k ⟨x.name, x.text, x.holds, is⟩) := by
 obtain ⟨hkl, hke⟩ := List.getElem?_eq_some_iff.1 hk
 have hel := h.els k r x hk hkx
 have hrr : rs.set k r = rs := by rw [<- hke]; exact List.set_getElem_self hkl
 have hk2 : ∀ b, b < w.heap.size -> b ∉ bk r.A r.l r.c -> W.heap[b]? = w.heap[b]? := fun b hb hn => hg.block b hb (fun e => hn (qO.2 e.symm))
 have h2 := h.setr (W := W) hkl (r' := r) (x' := ⟨x.name, x.text, x.holds, is⟩) (by rw [hrr]; exact zt h.own (fun q hq => hk2 q (h.own.lt q hq).2 (fun e => h.row_ne (List.mem_of_getElem? hk) q e (by injection hq with hq; exact hq.symm)))) ⟨hel.1, hel.2.1, hel.2.2.1, by rw [hl]; exact hel.2.2.2.1, ho⟩
  (fun i s hi hs b hb => hk2 b ((h.els i s (xs[i]'(by have := h.len; have := (List.getElem?_eq_some_iff.1 hs).1; omega)) hs (List.getElem?_eq_getElem _)).lt b hb).2 (h.items_ne hk hs hi b hb)) (.inl (by rw [hke]))
 rwa [hrr] at h2
theorem FLo.items1 (h : FLo w B (some ⟨g, 0, none⟩) c rs xs) {k : Nat} {r : FRaw} {x : Fd} (hk : rs[k]? = some r) (hkx : xs[k]? = some x) {W : World} {A' : Option Addr} {c' : Nat} {is : List Tx} (ho : OwnS W B A' c' is) (hg : w.grownBy W (Value.ownBlock (.slice r.A r.l r.c)))
  (hbk : Value.ownBlock (.slice A' is.length c') = Value.ownBlock (.slice r.A r.l r.c) \/ ∃ b, Value.ownBlock (.slice A' is.length c') = some b /\ w.heap.size <= b) :
  FLo (W.setCell ⟨g, k * 4 + 3, none⟩ (.slice A' is.length c')) B (some ⟨g, 0, none⟩) c (rs.set k ⟨r.n, r.t, r.h, A', is.length, c'⟩) (xs.set k ⟨x.name, x.text, x.holds, is⟩) := by
 obtain ⟨hkl, hke⟩ := List.getElem?_eq_some_iff.1 hk
 have hel := h.els k r x hk hkx
 have hk2 : ∀ b, b < w.heap.size -> b ∉ bk r.A r.l r.c -> W.heap[b]? = w.heap[b]? := fun b hb hn => hg.block b hb (fun e => hn (qO.2 e.symm))
 have hgr := h.row_ne (List.mem_of_getElem? hk)
 have hgl : B <= g /\ g < w.heap.size := h.own.lt g rfl
 have hW : OwnF W B (some ⟨g, 0, none⟩) c rs := zt h.own (fun q hq => hk2 q (h.own.lt q hq).2 (fun e => hgr q e (by injection hq with hq; exact hq.symm)))
 have hne : ∀ q, Value.ownBlock (.slice A' is.length c') = some q -> q ≠ g := fun q hq e => by
  rcases hbk with e2 | ⟨b, e2, e3⟩
  ·rw [e2] at hq; exact hgr q (qO.2 hq) e
  rw [e2] at hq; injection hq with hq; omega
 refine h.setr hkl (yN hW hkl (by omega) (by rw [hke]; rfl)) ⟨hel.1, hel.2.1, hel.2.2.1, rfl, VP ho _ _ hne⟩
  (fun i s hi hs b hb => (Below.heap_setCell _ _ _ _ (h.row_ne (List.mem_of_getElem? hs) b hb)).trans (hk2 b ((h.els i s (xs[i]'(by have := h.len; have := (List.getElem?_eq_some_iff.1 hs).1; omega)) hs (List.getElem?_eq_getElem _)).lt b hb).2 (h.items_ne hk hs hi b hb))) ?_
 rw [hke]
 rcases hbk with e2 | ⟨b, e2, e3⟩
 ·exact .inl (congrArg _ e2)
 refine .inr ⟨b, by show (Value.ownBlock (.slice A' is.length c')).toList = [b]; rw [e2]; rfl, fun e => ?_, fun e => ?_⟩
 ·have := (h.lts b (List.mem_append_left _ e)).2; omega
 have := (h.lts b (List.mem_append_right _ e)).2; omega
end
theorem KX {ops : Array Oper} {rest : List Oper} {o : Oper} {a : Act} {Q : Exit -> Act -> World -> Prop} {W : World} (hgd : o.guard = none) (s x : Operand)
  (ho : o.op = .call { callee := .builtin .append, args := #[s, x], argTypes := #[37, 37] }) (base : Nat) (A : Option Addr) (c : Nat) (xs : List Tx) (u : Tx)
  (hs : a.eval s = .slice A xs.length c) (hown : OwnS W base A c xs) (b : Nat) (hx : a.eval x = .slice (some ⟨b, 0, none⟩) 1 1) (hh : W.heap[b]? = some (.cells #[sv u] 9 (0, 0))) (hlen : xs.length <= 4294967296) (hbase : base <= W.heap.size)
  (h : ∀ A' c' w', OwnS w' base A' c' (xs ++ [u]) -> W.grownBy w' (Value.ownBlock (.slice A xs.length c)) -> (Value.ownBlock (.slice A' (xs.length + 1) c') = Value.ownBlock (.slice A xs.length c) \/ Value.ownBlock (.slice A' (xs.length + 1) c') = some W.heap.size) -> wpList Tryz.prog ops Q rest (a.put o.dst (.slice A' (xs ++ [u]).length c')) w') :
  wpList Tryz.prog ops Q (o :: rest) a W := by
 obtain ⟨i0, hi, hz0, hz1, hz2⟩ := info_parts Tryz.info_string
 refine wpList_append_own_at _ hgd s x _ ho base _ i0 _ 1 16 underlying37 hi hz0 hz1 hz2 rfl (by decide) _ _ _ hs hown ⟨b, 0, none⟩ 1 1 [sv u] hx rfl ?_ ?_ (by unfold maxLen; omega) (by omega) hbase ?_
 ·intro j z hj
  rw [Addr.add_lit, Nat.zero_add, cell_of_row W b j _ _ _ hh]
  simpa using hj
 ·intro z hz
  simp at hz
  subst hz
  rfl
 intro v' w' ho' hg' _ hbk
 obtain ⟨A', c', rfl, _, _⟩ := jf ho'
 have hl : (xs ++ [u]).length = xs.length + 1 := by simp
 rw [hl] at h
 refine h A' c' w' ?_ hg' hbk
 unfold OwnS
 rw [List.length_append, List.map_append]
 exact ho'
abbrev Rg (B : Nat) (w : World) : Nat -> Prop := fun j => B <= j /\ j < w.heap.size
structure DOw (w : World) (B : Nat) (Ap : Option Addr) (cp : Nat) (rs : List Raw) (Ad : Option Addr) (cd : Nat) (fs : List FRaw) (d : Dk) : Prop where
 parts : PLx w B Ap cp rs d.parts
 data : FLo w B Ad cd fs d.data
section
variable {w w' : World} {B cp cd : Nat} {Ap Ad : Option Addr} {rs : List Raw} {fs : List FRaw} {d : Dk}
theorem DOw.keep (h : DOw w B Ap cp rs Ad cd fs d) (hb : Below w.heap.size w w') : DOw w' B Ap cp rs Ad cd fs d := ⟨h.parts.keep hb, h.data.keep hb⟩
theorem DOw.low {B' : Nat} (h : DOw w B Ap cp rs Ad cd fs d) (hb : B' <= B) : DOw w B' Ap cp rs Ad cd fs d := ⟨h.parts.base hb, h.data.base hb⟩
theorem DOw.at (h : DOw w B Ap cp rs Ad cd fs d) (hk : ∀ j, B <= j -> j < w.heap.size -> w'.heap[j]? = w.heap[j]?) : DOw w' B Ap cp rs Ad cd fs d := ⟨h.parts.at hk, h.data.at hk⟩
theorem DOw.set (h : DOw w B Ap cp rs Ad cd fs d) {p : Addr} (hp : p.block < B) (v : Value) : DOw (w.setCell p v) B Ap cp rs Ad cd fs d := h.at fun j hj _ => Below.heap_setCell _ _ _ _ (by omega)
theorem DOw.inD (h : DOw w B Ap cp rs Ad cd fs d) : InD w (All w) d (dkV Ap rs.length cp Ad fs.length cd) :=
 ⟨Ap, cp, Ad, cd, by rw [h.parts.len, h.data.len], h.parts.all, by rw [<- h.parts.len]; exact h.parts.cap, h.data.all, by rw [<- h.data.len]; exact h.data.cap⟩
theorem kv {xs : List Pt} {ys : List Fd} {B2 : Nat} (h : PLx w B Ap cp rs xs) (h2 : FLo w B2 Ad cd fs ys) (hg : w.grownBy w' (Value.ownBlock (.slice Ad fs.length cd))) : PLx w' B Ap cp rs xs := by
 refine h.other fun j cs hc => hg.block j (lt_of_block hc) fun e => ?_
 obtain ⟨cs2, hc2⟩ := h2.ty.1 j e.symm
 rw [hc] at hc2
 injection hc2 with hc2
 injection hc2 with _ hc2
 exact absurd hc2 (by decide)
end
theorem kt (a : Tx) : ((a == [116, 101, 109, 112, 108, 97, 116, 101]) = true /\ (a == [116, 101, 120, 116]) = false /\ (a == [105, 116, 101, 109]) = false /\ (a == [104, 111, 108, 100, 115]) = false) \/ ((a == [116, 101, 109, 112, 108, 97, 116, 101]) = false /\ (a == [116, 101, 120, 116]) = true /\ (a == [105, 116, 101, 109]) = false /\ (a == [104, 111, 108, 100, 115]) = false) ∨
  ((a == [116, 101, 109, 112, 108, 97, 116, 101]) = false /\ (a == [116, 101, 120, 116]) = false /\ (a == [105, 116, 101, 109]) = true /\ (a == [104, 111, 108, 100, 115]) = false) \/ ((a == [116, 101, 109, 112, 108, 97, 116, 101]) = false /\ (a == [116, 101, 120, 116]) = false /\ (a == [105, 116, 101, 109]) = false /\ (a == [104, 111, 108, 100, 115]) = true) ∨
  ((a == [116, 101, 109, 112, 108, 97, 116, 101]) = false /\ (a == [116, 101, 120, 116]) = false /\ (a == [105, 116, 101, 109]) = false /\ (a == [104, 111, 108, 100, 115]) = false) := by
 cases h1 : (a == [116, 101, 109, 112, 108, 97, 116, 101])
 case true => rw [beq_iff_eq.1 h1]; exact .inl ⟨rfl, rfl, rfl, rfl⟩
 cases h2 : (a == [116, 101, 120, 116])
 case true => rw [beq_iff_eq.1 h2]; exact .inr (.inl ⟨rfl, rfl, rfl, rfl⟩)
 cases h3 : (a == [105, 116, 101, 109])
 case true => rw [beq_iff_eq.1 h3]; exact .inr (.inr (.inl ⟨rfl, rfl, rfl, rfl⟩))
 cases h4 : (a == [104, 111, 108, 100, 115])
 case true => exact .inr (.inr (.inr (.inl ⟨rfl, rfl, rfl, rfl⟩)))
 exact .inr (.inr (.inr (.inr ⟨rfl, rfl, rfl, rfl⟩)))
theorem vG (a : Tx) : ((a == [102, 105, 108, 108]) = true /\ (a == [112, 108, 97, 105, 110]) = false /\ (a == [99, 104, 101, 99, 107]) = false) \/ ((a == [102, 105, 108, 108]) = false /\ (a == [112, 108, 97, 105, 110]) = true /\ (a == [99, 104, 101, 99, 107]) = false) \/ ((a == [102, 105, 108, 108]) = false /\ (a == [112, 108, 97, 105, 110]) = false /\ (a == [99, 104, 101, 99, 107]) = true) ∨
  ((a == [102, 105, 108, 108]) = false /\ (a == [112, 108, 97, 105, 110]) = false /\ (a == [99, 104, 101, 99, 107]) = false) := by
 cases h1 : (a == [102, 105, 108, 108])
 case true => rw [beq_iff_eq.1 h1]; exact .inl ⟨rfl, rfl, rfl⟩
 cases h2 : (a == [112, 108, 97, 105, 110])
 case true => rw [beq_iff_eq.1 h2]; exact .inr (.inl ⟨rfl, rfl, rfl⟩)
 cases h3 : (a == [99, 104, 101, 99, 107])
 case true => exact .inr (.inr (.inl ⟨rfl, rfl, rfl⟩))
 exact .inr (.inr (.inr ⟨rfl, rfl, rfl⟩))
theorem Qy {s : Tx} (h : (s == [102, 105, 108, 108]) = true \/ (s == [112, 108, 97, 105, 110]) = true \/ (s == [99, 104, 101, 99, 107]) = true) : (wd1 s == [116, 101, 109, 112, 108, 97, 116, 101]) = false /\ (wd1 s == [116, 101, 120, 116]) = false /\ (wd1 s == [105, 116, 101, 109]) = false /\ (wd1 s == [104, 111, 108, 100, 115]) = false /\ (wd2 s == []) = true := by
 rcases h with h | h | h
 all_goals
  rw [beq_iff_eq] at h
  subst h
  decide
theorem ku {s : Tx} (h : (wd2 s == []) = false) : (s == [102, 105, 108, 108]) = false /\ (s == [112, 108, 97, 105, 110]) = false /\ (s == [99, 104, 101, 99, 107]) = false := by
 refine ⟨?_, ?_, ?_⟩
 all_goals
  rw [Bool.eq_false_iff]
  intro h2
  rw [beq_iff_eq] at h2
  subst h2
  revert h
  decide
theorem jG (s : Tx) : (wd1 s).length <= s.length /\ (wd2 s).length <= s.length := by
 constructor
 ·rw [List.length_take]; omega
 rw [List.length_drop]; omega
theorem vH {s : Tx} (h : (wd2 s == []) = false) : (wd2 s).length + 1 <= s.length := by
 have hne : wd2 s ≠ [] := by simpa using h
 have hp : 0 < (wd2 s).length := List.length_pos_iff.2 hne
 rw [List.length_drop] at hp ⊢
 omega
namespace Dk
section
variable {d : Dk} {s : Tx}
theorem say_fill (h : (s == [102, 105, 108, 108]) = true) : say d s = (d, if (zs d.parts d.data).2 = true then orE (zs d.parts d.data).1 else noW) := by
 rw [beq_iff_eq] at h
 unfold say
 rw [if_pos (show s = fillW from h)]
theorem say_plain (h1 : (s == [102, 105, 108, 108]) = false) (h : (s == [112, 108, 97, 105, 110]) = true) : say d s = (d, orE (zQ d.parts d.data)) := by
 rw [beq_iff_eq] at h
 rw [beq_eq_false_iff_ne] at h1
 unfold say
 rw [if_neg (show ¬ s = fillW from h1), if_pos (show s = plainW from h)]
theorem say_check (h1 : (s == [102, 105, 108, 108]) = false) (h2 : (s == [112, 108, 97, 105, 110]) = false) (h : (s == [99, 104, 101, 99, 107]) = true) : say d s = (d, jv (Pt.fault d.parts)) := by
 rw [beq_iff_eq] at h
 rw [beq_eq_false_iff_ne] at h1 h2
 unfold say
 rw [if_neg (show ¬ s = fillW from h1), if_neg (show ¬ s = plainW from h2), if_pos (show s = checkW from h)]
theorem say_none (h1 : (s == [102, 105, 108, 108]) = false) (h2 : (s == [112, 108, 97, 105, 110]) = false) (h3 : (s == [99, 104, 101, 99, 107]) = false) (hr : (wd2 s == []) = true) : say d s = (d, whatW) := by
 rw [beq_eq_false_iff_ne] at h1 h2 h3
 rw [beq_iff_eq] at hr
 unfold say
 rw [if_neg (show ¬ s = fillW from h1), if_neg (show ¬ s = plainW from h2), if_neg (show ¬ s = checkW from h3), if_pos hr]
theorem say_more (hr : (wd2 s == []) = false) : say d s = if wd1 s = tplW then (match Pt.readT false (wd2 s) with
  | none => (d, noW)
  | some L => (⟨L, d.data⟩, okW))
 else if wd1 s = textW then ifOk d ⟨d.parts, Fd.chg (Fd.setT (wd2 (wd2 s))) (wd1 (wd2 s)) d.data⟩
 else if wd1 s = itemW then ifOk d ⟨d.parts, Fd.chg (Fd.addI (wd2 (wd2 s))) (wd1 (wd2 s)) d.data⟩
 else if wd1 s = holdsW /\ wd2 s = wd1 (wd2 s) then ifOk d ⟨d.parts, Fd.chg Fd.flip (wd1 (wd2 s)) d.data⟩
 else (d, whatW) := by
 obtain ⟨h1, h2, h3⟩ := ku hr
 rw [beq_eq_false_iff_ne] at h1 h2 h3 hr
 unfold say
 rw [if_neg (show ¬ s = fillW from h1), if_neg (show ¬ s = plainW from h2), if_neg (show ¬ s = checkW from h3), if_neg hr]
 all_goals rfl
theorem say_tno (hr : (wd2 s == []) = false) (h : (wd1 s == [116, 101, 109, 112, 108, 97, 116, 101]) = true) (hR : Pt.readT false (wd2 s) = none) : say d s = (d, noW) := by
 rw [say_more hr, if_pos (show wd1 s = tplW from beq_iff_eq.1 h), hR]
theorem say_tpl (hr : (wd2 s == []) = false) (h : (wd1 s == [116, 101, 109, 112, 108, 97, 116, 101]) = true) {L : List Pt} (hR : Pt.readT false (wd2 s) = some L) : say d s = (⟨L, d.data⟩, okW) := by
 rw [say_more hr, if_pos (show wd1 s = tplW from beq_iff_eq.1 h), hR]
theorem say_text (hr : (wd2 s == []) = false) (h1 : (wd1 s == [116, 101, 109, 112, 108, 97, 116, 101]) = false) (h : (wd1 s == [116, 101, 120, 116]) = true) : say d s = ifOk d ⟨d.parts, Fd.chg (Fd.setT (wd2 (wd2 s))) (wd1 (wd2 s)) d.data⟩ := by
 rw [say_more hr, if_neg (show ¬ wd1 s = tplW from beq_eq_false_iff_ne.1 h1), if_pos (show wd1 s = textW from beq_iff_eq.1 h)]
theorem say_item (hr : (wd2 s == []) = false) (h1 : (wd1 s == [116, 101, 109, 112, 108, 97, 116, 101]) = false) (h2 : (wd1 s == [116, 101, 120, 116]) = false) (h : (wd1 s == [105, 116, 101, 109]) = true) : say d s = ifOk d ⟨d.parts, Fd.chg (Fd.addI (wd2 (wd2 s))) (wd1 (wd2 s)) d.data⟩ := by
 rw [say_more hr, if_neg (show ¬ wd1 s = tplW from beq_eq_false_iff_ne.1 h1), if_neg (show ¬ wd1 s = textW from beq_eq_false_iff_ne.1 h2), if_pos (show wd1 s = itemW from beq_iff_eq.1 h)]
theorem say_holds (hr : (wd2 s == []) = false) (h1 : (wd1 s == [116, 101, 109, 112, 108, 97, 116, 101]) = false) (h2 : (wd1 s == [116, 101, 120, 116]) = false) (h3 : (wd1 s == [105, 116, 101, 109]) = false) (h : (wd1 s == [104, 111, 108, 100, 115]) = true) (hn : (wd2 s == wd1 (wd2 s)) = true) : say d s = ifOk d ⟨d.parts, Fd.chg Fd.flip (wd1 (wd2 s)) d.data⟩ := by
 rw [say_more hr, if_neg (show ¬ wd1 s = tplW from beq_eq_false_iff_ne.1 h1), if_neg (show ¬ wd1 s = textW from beq_eq_false_iff_ne.1 h2), if_neg (show ¬ wd1 s = itemW from beq_eq_false_iff_ne.1 h3), if_pos ⟨show wd1 s = holdsW from beq_iff_eq.1 h, beq_iff_eq.1 hn⟩]
theorem say_what (hr : (wd2 s == []) = false) (h1 : (wd1 s == [116, 101, 109, 112, 108, 97, 116, 101]) = false) (h2 : (wd1 s == [116, 101, 120, 116]) = false) (h3 : (wd1 s == [105, 116, 101, 109]) = false) (h : (wd1 s == [104, 111, 108, 100, 115]) = false \/ (wd2 s == wd1 (wd2 s)) = false) : say d s = (d, whatW) := by
 rw [say_more hr, if_neg (show ¬ wd1 s = tplW from beq_eq_false_iff_ne.1 h1), if_neg (show ¬ wd1 s = textW from beq_eq_false_iff_ne.1 h2), if_neg (show ¬ wd1 s = itemW from beq_eq_false_iff_ne.1 h3), if_neg]
 rintro ⟨e1, e2⟩
 rcases h with h | h
 ·exact beq_eq_false_iff_ne.1 h e1
 exact beq_eq_false_iff_ne.1 h e2
theorem ifOk_yes {y : Dk} (h : valid y = true) : ifOk d y = (y, okW) := by unfold ifOk; rw [if_pos h]
theorem ifOk_no {y : Dk} (h : valid y = false) : ifOk d y = (d, noW) := by unfold ifOk; rw [if_neg (by rw [h]; simp)]
end
end Dk
theorem jz {α : Type} : ∀ {l : List α} {i : Nat} {x : α} (g : α -> α), l[i]? = some x -> l.modify i g = l.set i (g x)
 | [], i, x, g, h => by simp at h
 | y :: t, 0, x, g, h => by simp at h; subst h; rfl
 | y :: t, i + 1, x, g, h => by
  simp only [List.modify_succ_cons, List.set_cons_succ]
  rw [jz g (by simpa using h)]
theorem DOw.inR {w : World} {B cp cd : Nat} {Ap Ad : Option Addr} {rs : List Raw} {fs : List FRaw} {d : Dk} (h : DOw w B Ap cp rs Ad cd fs d) {B0 : Nat} (hB : B0 <= B) : InD w (Rg B0 w) d (dkV Ap rs.length cp Ad fs.length cd) := by
 obtain ⟨⟨L, hp⟩, hf⟩ := h
 have he : ElsF w (Rg B0 w) fs d.data := ⟨hf.len, fun i r x h1 h2 => by
  obtain ⟨g1, g2, g3, g4, g5⟩ := hf.els i r x h1 h2
  obtain ⟨A', c', e, hc, _⟩ := jf g5
  injection e with e1 e2 e3
  refine ⟨r.A, r.c, by rw [FRaw.v, g1, g2, g3, g4], XS g5 (fun b h5 h6 => ⟨Nat.le_trans hB h5, h6⟩), by omega⟩⟩
 exact ⟨Ap, cp, Ad, cd, by rw [hp.len, hf.len], hp.rd.keep (fun _ _ => rfl) (fun b hb => ⟨Nat.le_trans hB hb.1, hb.2⟩), by rw [<- hp.len]; exact hp.cap, he.rdF hf.own (fun b hb => ⟨Nat.le_trans hB (hf.own.lt b hb).1, (hf.own.lt b hb).2⟩), by rw [<- hf.len]; exact hf.cap⟩
theorem InD.toAll {w : World} {B : Nat} {d : Dk} {v : Value} (h : InD w (Rg B w) d v) : InD w (All w) d v := InD.keep (fun _ _ => rfl) (fun _ hb => hb.2) d v h
theorem inD_mix {w W : World} {B0 B B2 n ct c6 : Nat} {At A6 : Option Addr} {L : List Pt} {xs : List Fd} {fs6 : List FRaw} (hp : RdP w (fun j => B <= j /\ j < w.heap.size) At L) (hl : n = L.length) (hcap : n <= ct) (hf : FLo w B2 A6 c6 fs6 xs) (hB : B0 <= B) (hB2 : B0 <= B2)
  (hk : ∀ j, B <= j -> j < w.heap.size -> W.heap[j]? = w.heap[j]?) (hk2 : ∀ j, B2 <= j -> j < w.heap.size -> W.heap[j]? = w.heap[j]?) (hs : w.heap.size <= W.heap.size) : InD W (Rg B0 W) ⟨L, xs⟩ (dkV At n ct A6 fs6.length c6) := by
 have h2 : DOw W B2 none 0 [] A6 c6 fs6 ⟨[], xs⟩ := ⟨⟨[], PLo.nil _ _⟩, hf.at hk2⟩
 obtain ⟨A1, c1, A2, c2, e, -, -, g3, g4⟩ := h2.inR hB2
 injection e with e
 simp only [Array.mk.injEq, List.cons.injEq, Value.slice.injEq, and_true] at e
 obtain ⟨-, rfl, -, rfl⟩ := e
 subst hl
 exact ⟨At, ct, A6, c6, by rw [<- hf.len], hp.keep (fun p hp => World.cell?_of_block (hk _ hp.1 hp.2)) (fun b hb => ⟨Nat.le_trans hB hb.1, Nat.lt_of_lt_of_le hb.2 hs⟩), hcap, g3, g4⟩
def LnS (w : World) (r : Dk × Tx) (e : Ending) (w' : World) : Prop := ∃ v, e = .returned (.tuple #[v, sv r.2]) /\ InD w' (Rg w.heap.size w') r.1 v /\ Below w.heap.size w w'
def LnI (w : World) (r : Dk × Tx) (e : Ending) (w' : World) : Prop := ∃ Ap cp rs Ad cd fs, e = .returned (.tuple #[dkV Ap (List.length rs) cp Ad (List.length fs) cd, sv r.2]) /\ DOw w' w.heap.size Ap cp rs Ad cd fs r.1 /\ Below w.heap.size w w'
theorem LnI.toS {w w' : World} {r : Dk × Tx} {e : Ending} (h : LnI w r e w') : LnS w r e w' := by
 obtain ⟨Ap, cp, rs, Ad, cd, fs, rfl, h1, h2⟩ := h
 exact ⟨_, rfl, h1.inR (Nat.le_refl _), h2⟩
theorem Qz {ops : Array Oper} {o : Oper} {a : Act} {K : Act -> World -> Prop} {Q : Exit -> Act -> World -> Prop} {E : Prop} {w : World} (hgd : o.guard = none) (s x : Operand)
  (ho : o.op = .call { callee := .builtin .append, args := #[s, x], argTypes := #[37, 37] }) (base : Nat) (A : Option Addr) (c n : Nat) (xs : List Tx) (p : Tx)
  (hs : a.eval s = .slice A n c) (hn : n = xs.length) (hown : OwnS w base A c xs) (g : Nat) (hx : a.eval x = .slice (some ⟨g, 0, none⟩) 1 1) (hg : w.heap[g]? = some (.cells #[sv p] 9 (0, 0))) (hlen : xs.length <= 4294967296) (hbase : base <= w.heap.size)
  (h : ∀ g' c' w', OwnS w' base (some ⟨g', 0, none⟩) c' (xs ++ [p]) -> w.grownBy w' (Value.ownBlock (.slice A xs.length c)) -> (Value.ownBlock (.slice A xs.length c) = some g' \/ g' = w.heap.size) -> K (a.put o.dst (.slice (some ⟨g', 0, none⟩) (xs.length + 1) c')) w') :
  if Region.wanted o (yielded ops a.tmps) = true then Oper.wp Tryz.prog o a w K Q else E := by
 subst hn
 obtain ⟨i0, hi, hz0, hz1, hz2⟩ := info_parts Tryz.info_string
 refine step_append_lies w hgd s x _ ho base _ i0 _ 1 16 underlying37 hi hz0 hz1 hz2 rfl (by decide) _ xs.length (xs.map sv) hs hown ⟨g, 0, none⟩ 1 1 [sv p] hx rfl (World.news_of_block (cs := #[sv p]) hg) ?_ (by omega) (by unfold maxLen; omega) (by omega) hbase _ rfl ?_
 ·intro u hu
  simp at hu
  subst hu
  rfl
 intro g' cap w' ho' hg' hb' _
 refine h g' cap w' ?_ hg' hb'
 unfold OwnS
 rw [List.length_append, List.map_append]
 exact ho'
theorem FLo.cells_of {w : World} {B g c : Nat} {rs : List FRaw} {xs : List Fd} (h : FLo w B (some ⟨g, 0, none⟩) c rs xs) {j : Nat} {r : FRaw} (hr : rs[j]? = some r) :
  w.cell? ⟨g, j * 4, none⟩ = some (sv r.n) /\ w.cell? ⟨g, j * 4 + 1, none⟩ = some (sv r.t) /\ w.cell? ⟨g, j * 4 + 2, none⟩ = some (.bool r.h) /\ w.cell? ⟨g, j * 4 + 3, none⟩ = some (.slice r.A r.l r.c) ∧
  w.frozen? ⟨g, j * 4, none⟩ = false /\ w.frozen? ⟨g, j * 4 + 1, none⟩ = false /\ w.frozen? ⟨g, j * 4 + 2, none⟩ = false /\ w.frozen? ⟨g, j * 4 + 3, none⟩ = false := by
 have hjr := (List.getElem?_eq_some_iff.1 hr).1
 have key : ∀ i, i < 4 -> w.cell? ⟨g, j * 4 + i, none⟩ = r.cs[i]? := fun i hi => by
  rw [World.ownsRow.cellAt h.own (j * 4 + i) (by omega)]
  exact xx _ _ _ i hr hi
 exact ⟨key 0 (by omega), key 1 (by omega), key 2 (by omega), key 3 (by omega), World.ownsRow.frozenAt h.own _, World.ownsRow.frozenAt h.own _, World.ownsRow.frozenAt h.own _, World.ownsRow.frozenAt h.own _⟩
def OffT (T : TypeId) (w w' : World) : Prop := ∀ (j : Nat) (cs : Array Value), w.heap[j]? = some (Obj.cells cs T) -> w'.heap[j]? = w.heap[j]?
theorem OffT.refl (T : TypeId) (w : World) : OffT T w w := fun _ _ _ => rfl
theorem OffT.trans {T : TypeId} {a b c : World} (h : OffT T a b) (k : OffT T b c) : OffT T a c := fun j cs hc => (k j cs ((h j cs hc).trans hc)).trans (h j cs hc)
theorem OffT.of_below {T : TypeId} {w w' : World} (h : Below w.heap.size w w') : OffT T w w' := fun j _ hc => h.block j (lt_of_block hc)
theorem OffT.set {T : TypeId} {w : World} {p : Addr} {v : Value} {T2 : TypeId} (h : ∃ cs, w.heap[p.block]? = some (Obj.cells cs T2)) (hne : T2 ≠ T) : OffT T w (w.setCell p v) := fun j cs hc => Below.heap_setCell _ _ _ _ (fun e => by
 obtain ⟨cs2, h2⟩ := h
 rw [e, h2] at hc
 injection hc with hc
 injection hc with _ hc
 exact hne hc)
theorem OffT.grown {T : TypeId} {w w' : World} {row : Option Nat} {T2 : TypeId} (h : w.grownBy w' row) (hr : ∀ g, row = some g -> ∃ cs, w.heap[g]? = some (Obj.cells cs T2)) (hne : T2 ≠ T) : OffT T w w' := fun j cs hc => h.block j (lt_of_block hc) (fun e => by
 obtain ⟨cs2, h2⟩ := hr j e.symm
 rw [h2] at hc
 injection hc with hc
 injection hc with _ hc
 exact hne hc)
open Go.Deep
def DOE (w : World) (B E : Nat) (Ap : Option Addr) (cp : Nat) (rs : List Raw) (Ad : Option Addr) (cd : Nat) (fs : List FRaw) (d : Dk) : Prop :=
 ∃ L, PLo w B Ap cp rs d.parts L /\ FLo w B Ad cd fs d.data /\ (∀ b ∈ bk Ap rs.length cp ++ L, b < E) /\ (∀ b ∈ bk Ad fs.length cd ++ fblk fs, b < E)
theorem DOw.toE {w : World} {B cp cd : Nat} {Ap Ad : Option Addr} {rs : List Raw} {fs : List FRaw} {d : Dk} (h : DOw w B Ap cp rs Ad cd fs d) : DOE w B w.heap.size Ap cp rs Ad cd fs d := by
 obtain ⟨⟨L, hp⟩, hf⟩ := h
 exact ⟨L, hp, hf, fun b hb => (hp.lts b hb).2, fun b hb => (hf.lts b hb).2⟩
theorem DOE.ow {w : World} {B E cp cd : Nat} {Ap Ad : Option Addr} {rs : List Raw} {fs : List FRaw} {d : Dk} (h : DOE w B E Ap cp rs Ad cd fs d) : DOw w B Ap cp rs Ad cd fs d := by
 obtain ⟨L, hp, hf, _, _⟩ := h
 exact ⟨⟨L, hp⟩, hf⟩
theorem DOE.at {w w' : World} {B E cp cd : Nat} {Ap Ad : Option Addr} {rs : List Raw} {fs : List FRaw} {d : Dk} (h : DOE w B E Ap cp rs Ad cd fs d) (hk : ∀ j, B <= j -> j < E -> j < w.heap.size -> w'.heap[j]? = w.heap[j]?) : DOE w' B E Ap cp rs Ad cd fs d := by
 obtain ⟨L, hp, hf, h1, h2⟩ := h
 have k1 : ∀ j ∈ bk Ap rs.length cp ++ L, w'.heap[j]? = w.heap[j]? := fun j hj => hk j (hp.lts j hj).1 (h1 j hj) (hp.lts j hj).2
 exact ⟨L, ⟨zt hp.own (fun g hg => k1 g (List.mem_append_left _ (qO.2 hg))), hp.els.keep (fun j hj => k1 j (List.mem_append_right _ hj)), hp.nodup, hp.rng⟩, hf.keepb (fun j hj => hk j (hf.lts j hj).1 (h2 j hj) (hf.lts j hj).2), h1, h2⟩
theorem DOE.keep {w w' : World} {B E cp cd : Nat} {Ap Ad : Option Addr} {rs : List Raw} {fs : List FRaw} {d : Dk} (h : DOE w B E Ap cp rs Ad cd fs d) (hb : Below w.heap.size w w') : DOE w' B E Ap cp rs Ad cd fs d := h.at (fun j _ _ hj => hb.block j hj)
end Go.Proofs.YtmboieajfdkllaaGreat
