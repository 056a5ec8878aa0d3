import Derived.Test.YtmboieajfdkllaaGreatU03
import Derived.Test.YtmboieajfdkllaaGreatU02
import Derived.Test.YtmboieajfdkllaaGreatU01
import Derived.Deep.CutBlock
set_option maxHeartbeats 4000000
set_option maxRecDepth 100000
open Go.Proofs.Tryz
namespace Go.Proofs.YtmboieajfdkllaaGreat
open Go.RowKit
namespace Fd
def item : Tx := [105, 116, 101, 109]
def none_ : Fd := ⟨[], [], false, []⟩
def find : List Fd -> Tx -> Option Fd
 | [], _ => none
 | f :: r, n => if f.name = n then some f else find r n
def get (fs : List Fd) (n : Tx) : Fd := (find fs n).getD none_
def rest : List Fd -> List Fd
 | [] => []
 | f :: r => if f.name = item then rest r else f :: rest r
def withI (fs : List Fd) (t : Tx) : List Fd := ⟨item, t, false, []⟩ :: rest fs
def good (f : Fd) : Bool := qT f.text && (decide (f.items.length <= 5) && f.items.all qT)
def Goods (fs : List Fd) : Prop := ∀ f ∈ fs, good f = true
theorem find_mem {n : Tx} : ∀ {fs : List Fd} {f : Fd}, find fs n = some f -> f ∈ fs /\ f.name = n
 | g :: r, f, h => by
  rw [find] at h
  split at h
  ·rename_i e; injection h with h; subst h; exact ⟨by simp, e⟩
  have := find_mem h; exact ⟨List.mem_cons_of_mem _ this.1, this.2⟩
theorem good_none : good none_ = true := by decide
theorem good_get {fs : List Fd} (h : Goods fs) (n : Tx) : good (get fs n) = true := by
 unfold get
 cases hf : find fs n with
 | none => exact good_none
 | some f => exact h f (find_mem hf).1
theorem rest_mem : ∀ {fs : List Fd} {f : Fd}, f ∈ rest fs -> f ∈ fs
 | g :: r, f, h => by
  rw [rest] at h
  split at h
  ·exact List.mem_cons_of_mem _ (rest_mem h)
  rcases List.mem_cons.1 h with e | h
  ·subst e; simp
  exact List.mem_cons_of_mem _ (rest_mem h)
theorem rest_len : ∀ fs : List Fd, (rest fs).length <= fs.length
 | [] => by simp [rest]
 | f :: r => by
  have := rest_len r
  rw [rest]
  split <;> simp only [List.length_cons] <;> omega
theorem good_text {f : Fd} (h : good f = true) : qT f.text = true := by unfold good at h; rw [Bool.and_eq_true] at h; exact h.1
theorem good_items {f : Fd} (h : good f = true) : f.items.length <= 5 /\ ∀ t ∈ f.items, qT t = true := by
 unfold good at h
 simp only [Bool.and_eq_true, decide_eq_true_eq, List.all_eq_true] at h
 exact h.2
theorem goods_with {fs : List Fd} (h : Goods fs) {t : Tx} (ht : qT t = true) : Goods (withI fs t) := by
 intro f hf
 rcases List.mem_cons.1 hf with e | hf
 ·subst e; unfold good; rw [ht]; simp
 exact h f (rest_mem hf)
theorem with_len (fs : List Fd) (t : Tx) : (withI fs t).length <= fs.length + 1 := by
 have := rest_len fs
 simp only [withI, List.length_cons]; omega
theorem find_step {fs : List Fd} {n : Tx} {k : Nat} {r : Option Fd} (h : find (fs.drop k) n = r) (hk : k < fs.length) : (if fs[k].name = n then some fs[k] else find (fs.drop (k + 1)) n) = r := by
 rw [qX fs k hk, find] at h; exact h
theorem find_end {fs : List Fd} {n : Tx} {k : Nat} {r : Option Fd} (h : find (fs.drop k) n = r) (hk : ¬ k < fs.length) : none = r := by
 rw [zc fs k (by omega), find] at h; exact h
theorem rest_append (a b : List Fd) : rest (a ++ b) = rest a ++ rest b := by
 induction a with
 | nil => rfl
 | cons f r ih =>
  rw [List.cons_append, rest, rest, ih]
  split
  ·rfl
  rfl
theorem rest_take (fs : List Fd) (k : Nat) (h : k < fs.length) : rest (fs.take (k + 1)) = rest (fs.take k) ++ (if fs[k].name = item then [] else [fs[k]]) := by
 rw [zu fs k h, rest_append]
 simp only [rest]
theorem valid_good {fs : List Fd} (h : valid fs = true) : Goods fs /\ fs.length <= 8 := by
 unfold valid at h
 simp only [Bool.and_eq_true, decide_eq_true_eq] at h
 refine ⟨fun f hf => ?_, h.1⟩
 obtain ⟨j, hj, e⟩ := List.mem_iff_getElem.1 hf
 have h2 := List.all_eq_true.1 h.2 j (List.mem_range.2 hj)
 rw [okAt_of hj e] at h2
 simp only [Bool.and_eq_true] at h2
 have h3 := h2.1
 unfold ok at h3
 rw [Bool.and_eq_true] at h3
 exact h3.2
end Fd
theorem jE {t : Tx} (h : qT t = true) : t.length <= 40 := by unfold qT at h; simp only [Bool.and_eq_true, decide_eq_true_eq] at h; exact h.1
theorem ZQ {t : Tx} (h : qT t = true) : t.all zw = true := by
 unfold qT zx at h; simp only [Bool.and_eq_true] at h; exact h.2.2
def cat (f : Tx -> Tx) : List Tx -> Tx
 | [] => []
 | x :: t => f x ++ cat f t
theorem ZR (f : Tx -> Tx) (a b : List Tx) : cat f (a ++ b) = cat f a ++ cat f b := by
 induction a with
 | nil => rfl
 | cons x t ih => rw [List.cons_append, cat, cat, ih, List.append_assoc]
theorem kb (f : Tx -> Tx) (xs : List Tx) (k : Nat) (h : k < xs.length) : cat f (xs.take (k + 1)) = cat f (xs.take k) ++ f xs[k] := by
 rw [zu xs k h, ZR]; simp [cat]
theorem vn {f : Tx -> Tx} {m : Nat} : ∀ {xs : List Tx}, (∀ x ∈ xs, (f x).length <= m) -> (cat f xs).length <= m * xs.length
 | [], _ => by simp [cat]
 | x :: t, h => by
  have h1 := h x (by simp)
  have h2 := vn (fun y hy => h y (List.mem_cons_of_mem _ hy) : ∀ y ∈ t, (f y).length <= m)
  rw [cat, List.length_append, List.length_cons, Nat.mul_succ]; omega
theorem vo {f g : Tx -> Tx} : ∀ {xs : List Tx}, (∀ x ∈ xs, f x = g x) -> cat f xs = cat g xs
 | [], _ => rfl
 | x :: t, h => by rw [cat, cat, h x (by simp), vo fun y hy => h y (List.mem_cons_of_mem _ hy)]
theorem kc (f : Tx -> Tx) (xs : List Tx) (k : Nat) : (cat f (xs.take k)).length <= (cat f xs).length := by
 conv => rhs; rw [<- List.take_append_drop k xs, ZR, List.length_append]
 omega
namespace Pt
abbrev EscF := St -> Tx -> Tx
def plainE : EscF := fun _ t => t
def safeE : EscF := fun s t => zP (St.place s) t
mutual
def fl1 (E : EscF) : Pt -> List Fd -> St -> Tx × St
 | mk k t n xs ys, fs, s =>
  if k = 1 then (t, St.after s t)
  else if k = 2 then (E s (Fd.get fs n).text, St.behind s)
  else if k = 3 then (if (Fd.get fs n).holds = true then fl E xs fs s else fl E ys fs s)
  else if k = 4 then (cat (fun it => (fl E xs (Fd.withI fs it) s).1) (Fd.get fs n).items, s)
  else ([], s)
def fl (E : EscF) : List Pt -> List Fd -> St -> Tx × St
 | [], _, s => ([], s)
 | x :: r, fs, s => ((fl1 E x fs s).1 ++ (fl E r fs (fl1 E x fs s).2).1, (fl E r fs (fl1 E x fs s).2).2)
end
mutual
def sl1 (E : EscF) : Pt -> List Fd -> St -> Tx
 | mk k t n xs ys, fs, s =>
  if k = 1 then t
  else if k = 2 then E s (Fd.get fs n).text
  else if k = 4 then cat (fun it => sl E xs (Fd.withI fs it) s) (Fd.get fs n).items
  else if (Fd.get fs n).holds = true then sl E xs fs s else sl E ys fs s
def sl (E : EscF) : List Pt -> List Fd -> St -> Tx
 | [], _, _ => []
 | x :: r, fs, s => sl1 E x fs s ++ sl E r fs (ck [x] s)
end
def Short (E : EscF) : Prop := ∀ s t, qT t = true -> (E s t).length <= 800
theorem short_plain : Short plainE := fun _ t h => by have := jE h; unfold plainE; omega
theorem short_safe : Short safeE := fun s t h => by
 have := jE h
 have := vN (St.place s) t
 unfold safeE; omega
theorem five (d : Nat) : 1 <= 5 ^ d := Nat.one_le_pow _ _ (by omega)
theorem txt_le {t : Tx} (h : zA t = true) : t.length <= 600 := by
 unfold zA zx at h
 simp only [Bool.and_eq_true, decide_eq_true_eq] at h
 exact h.1.1
theorem sl_len_list {E : EscF} : ∀ {xs : List Pt} {d : Nat} {p : Bool}, (∀ x ∈ xs, ∀ (d : Nat) (fs : List Fd) (s : St), ok x d = true -> Fd.Goods fs -> (sl1 E x fs s).length <= 800 * many x * 5 ^ d) -> oks xs d p = true -> ∀ (fs : List Fd) (s : St), Fd.Goods fs -> (sl E xs fs s).length <= 800 * manys xs * 5 ^ d
 | [], _, _, _, _, _, _, _ => by simp [sl]
 | x :: r, d, p, hx, ho, fs, s, hg => by
  rw [oks] at ho
  simp only [Bool.and_eq_true] at ho
  have h1 := hx x (by simp) d fs s ho.1 hg
  have h2 := sl_len_list (fun y hy => hx y (List.mem_cons_of_mem _ hy)) ho.2.2 fs (ck [x] s) hg
  rw [sl, List.length_append, manys, Nat.mul_add, Nat.add_mul]
  omega
theorem sl1_len {E : EscF} (hE : Short E) (x : Pt) : ∀ (d : Nat) (fs : List Fd) (s : St), ok x d = true -> Fd.Goods fs -> (sl1 E x fs s).length <= 800 * many x * 5 ^ d := by
 induction x using ind with
 | h k t n xs ys ih1 ih2 =>
  intro d fs s ho hg
  rw [ok] at ho
  rw [sl1, many]
  have h5 := five d
  have hb : 800 * 1 * 1 <= 800 * (1 + manys xs + manys ys) * 5 ^ d := Nat.mul_le_mul (by omega) h5
  by_cases k1 : k = 1
  ·rw [if_pos k1] at ho ⊢
   rw [Bool.and_eq_true] at ho
   have := txt_le ho.1
   omega
  rw [if_neg k1] at ho ⊢
  by_cases k2 : k = 2
  ·rw [if_pos k2]
   have := hE s _ (Fd.good_text (Fd.good_get hg n))
   omega
  rw [if_neg k2] at ho ⊢
  by_cases k34 : k = 3 \/ k = 4
  case neg => rw [if_neg k34] at ho; cases ho
  rw [if_pos k34] at ho
  simp only [Bool.and_eq_true] at ho
  obtain ⟨-, -, -, hd, hox, hoy⟩ := ho
  have hd : d ≠ 0 := by simpa using hd
  obtain ⟨d, rfl⟩ : ∃ e, d = e + 1 := ⟨d - 1, by omega⟩
  rw [Nat.add_sub_cancel] at hox hoy
  have e1 : 800 * manys xs * 5 ^ d * 5 <= 800 * (1 + manys xs + manys ys) * 5 ^ (d + 1) := by
   rw [Nat.pow_succ, <- Nat.mul_assoc]
   exact Nat.mul_le_mul_right _ (Nat.mul_le_mul_right _ (by omega))
  have e2 : 800 * manys ys * 5 ^ d * 5 <= 800 * (1 + manys xs + manys ys) * 5 ^ (d + 1) := by
   rw [Nat.pow_succ, <- Nat.mul_assoc]
   exact Nat.mul_le_mul_right _ (Nat.mul_le_mul_right _ (by omega))
  by_cases k4 : k = 4
  ·rw [if_pos k4]
   obtain ⟨i1, i2⟩ := Fd.good_items (Fd.good_get hg n)
   refine Nat.le_trans (vn (m := 800 * manys xs * 5 ^ d) fun it hit => ?_) (Nat.le_trans (Nat.mul_le_mul_left _ i1) e1)
   exact sl_len_list ih1 hox _ _ (Fd.goods_with hg (i2 it hit))
  rw [if_neg k4]
  split
  ·have := sl_len_list ih1 hox fs s hg
   omega
  have := sl_len_list ih2 hoy fs s hg
  omega
theorem sl_len {E : EscF} (hE : Short E) {xs : List Pt} {d : Nat} {p : Bool} (h : oks xs d p = true) (fs : List Fd) (s : St) (hg : Fd.Goods fs) : (sl E xs fs s).length <= 800 * manys xs * 5 ^ d := sl_len_list (fun x _ => sl1_len hE x) h fs s hg
theorem fl_len_list {E : EscF} : ∀ {xs : List Pt} {d : Nat} {p : Bool}, (∀ x ∈ xs, ∀ (d : Nat) (fs : List Fd) (s : St), ok x d = true -> Fd.Goods fs -> (fl1 E x fs s).1.length <= 800 * many x * 5 ^ d) -> oks xs d p = true -> ∀ (fs : List Fd) (s : St), Fd.Goods fs -> (fl E xs fs s).1.length <= 800 * manys xs * 5 ^ d
 | [], _, _, _, _, _, _, _ => by simp [fl]
 | x :: r, d, p, hx, ho, fs, s, hg => by
  rw [oks] at ho
  simp only [Bool.and_eq_true] at ho
  have h1 := hx x (by simp) d fs s ho.1 hg
  have h2 := fl_len_list (fun y hy => hx y (List.mem_cons_of_mem _ hy)) ho.2.2 fs (fl1 E x fs s).2 hg
  rw [fl, List.length_append, manys, Nat.mul_add, Nat.add_mul]
  omega
theorem fl1_len {E : EscF} (hE : Short E) (x : Pt) : ∀ (d : Nat) (fs : List Fd) (s : St), ok x d = true -> Fd.Goods fs -> (fl1 E x fs s).1.length <= 800 * many x * 5 ^ d := by
 induction x using ind with
 | h k t n xs ys ih1 ih2 =>
  intro d fs s ho hg
  rw [ok] at ho
  rw [fl1, many]
  have h5 := five d
  have hb : 800 * 1 * 1 <= 800 * (1 + manys xs + manys ys) * 5 ^ d := Nat.mul_le_mul (by omega) h5
  by_cases k1 : k = 1
  ·rw [if_pos k1] at ho ⊢
   rw [Bool.and_eq_true] at ho
   have := txt_le ho.1
   dsimp only; omega
  rw [if_neg k1] at ho ⊢
  by_cases k2 : k = 2
  ·rw [if_pos k2]
   have := hE s _ (Fd.good_text (Fd.good_get hg n))
   dsimp only; omega
  rw [if_neg k2] at ho ⊢
  by_cases k34 : k = 3 \/ k = 4
  case neg => rw [if_neg k34] at ho; cases ho
  rw [if_pos k34] at ho
  simp only [Bool.and_eq_true] at ho
  obtain ⟨-, -, -, hd, hox, hoy⟩ := ho
  have hd : d ≠ 0 := by simpa using hd
  obtain ⟨d, rfl⟩ : ∃ e, d = e + 1 := ⟨d - 1, by omega⟩
  rw [Nat.add_sub_cancel] at hox hoy
  have e1 : 800 * manys xs * 5 ^ d * 5 <= 800 * (1 + manys xs + manys ys) * 5 ^ (d + 1) := by
   rw [Nat.pow_succ, <- Nat.mul_assoc]
   exact Nat.mul_le_mul_right _ (Nat.mul_le_mul_right _ (by omega))
  have e2 : 800 * manys ys * 5 ^ d * 5 <= 800 * (1 + manys xs + manys ys) * 5 ^ (d + 1) := by
   rw [Nat.pow_succ, <- Nat.mul_assoc]
   exact Nat.mul_le_mul_right _ (Nat.mul_le_mul_right _ (by omega))
  by_cases k3 : k = 3
  ·rw [if_pos k3]
   split
   ·have := fl_len_list ih1 hox fs s hg
    omega
   have := fl_len_list ih2 hoy fs s hg
   omega
  rw [if_neg k3]
  by_cases k4 : k = 4
  ·rw [if_pos k4]
   obtain ⟨i1, i2⟩ := Fd.good_items (Fd.good_get hg n)
   refine Nat.le_trans (vn (m := 800 * manys xs * 5 ^ d) fun it hit => ?_) (Nat.le_trans (Nat.mul_le_mul_left _ i1) e1)
   exact fl_len_list ih1 hox _ _ (Fd.goods_with hg (i2 it hit))
  rw [if_neg k4]; simp
theorem fl_len {E : EscF} (hE : Short E) {xs : List Pt} {d : Nat} {p : Bool} (h : oks xs d p = true) (fs : List Fd) (s : St) (hg : Fd.Goods fs) : (fl E xs fs s).1.length <= 800 * manys xs * 5 ^ d := fl_len_list (fun x _ => fl1_len hE x) h fs s hg
mutual
theorem fit_fl1 (E : EscF) : ∀ (x : Pt) (fs : List Fd) (s : St), St.Fit s -> St.Fit (fl1 E x fs s).2
 | mk k t n xs ys, fs, s, h => by
  unfold fl1
  split
  ·exact St.fit_after h t
  split
  ·exact St.fit_behind h
  split
  ·split
   ·exact fit_fl E xs fs s h
   exact fit_fl E ys fs s h
  split
  ·exact h
  exact h
theorem fit_fl (E : EscF) : ∀ (xs : List Pt) (fs : List Fd) (s : St), St.Fit s -> St.Fit (fl E xs fs s).2
 | [], _, s, h => by unfold fl; exact h
 | x :: r, fs, s, h => by
  unfold fl
  exact fit_fl E r fs _ (fit_fl1 E x fs s h)
end
theorem fl_sl_list {E : EscF} : ∀ {xs : List Pt} {d : Nat} {p : Bool}, (∀ x ∈ xs, ∀ (d : Nat) (fs : List Fd) (s : St), ok x d = true -> (ck1 x s).mode ≠ 15 -> fl1 E x fs s = (sl1 E x fs s, ck1 x s)) -> oks xs d p = true -> ∀ (fs : List Fd) (s : St), (ck xs s).mode ≠ 15 -> fl E xs fs s = (sl E xs fs s, ck xs s)
 | [], _, _, _, _, _, _, _ => by simp [sl, fl, ck]
 | x :: r, d, p, hx, ho, fs, s, hm => by
  rw [oks] at ho
  simp only [Bool.and_eq_true] at ho
  rw [ck] at hm
  have h1 : ¬ (ck1 x s).mode = 15 := by
   intro e; rw [if_pos e] at hm; exact hm rfl
  rw [if_neg h1] at hm
  have e1 := hx x (by simp) d fs s ho.1 h1
  have ec : ck [x] s = ck1 x s := by rw [ck, if_neg h1, ck]
  have e2 := fl_sl_list (fun y hy => hx y (List.mem_cons_of_mem _ hy)) ho.2.2 fs (ck1 x s) hm
  rw [fl, e1, sl, ec, ck, if_neg h1]
  dsimp only
  rw [e2]
theorem fl1_sl1 {E : EscF} (x : Pt) : ∀ (d : Nat) (fs : List Fd) (s : St), ok x d = true -> (ck1 x s).mode ≠ 15 -> fl1 E x fs s = (sl1 E x fs s, ck1 x s) := by
 induction x using ind with
 | h k t n xs ys ih1 ih2 =>
  intro d fs s ho hm
  rw [ok] at ho
  rw [ck1] at hm
  rw [fl1, sl1, ck1]
  by_cases k1 : k = 1
  ·rw [if_pos k1, if_pos k1, if_pos k1]
  rw [if_neg k1] at ho hm
  rw [if_neg k1, if_neg k1, if_neg k1]
  by_cases k2 : k = 2
  ·rw [if_pos k2, if_pos k2, if_pos k2]
  rw [if_neg k2] at ho hm
  rw [if_neg k2, if_neg k2, if_neg k2]
  by_cases k34 : k = 3 \/ k = 4
  case neg => rw [if_neg k34] at ho; cases ho
  rw [if_pos k34] at ho
  simp only [Bool.and_eq_true] at ho
  obtain ⟨-, -, -, hd, hox, hoy⟩ := ho
  by_cases k4 : k = 4
  ·subst k4
   rw [if_pos rfl] at hm
   rw [if_neg (show ¬ (4 : Int) = 3 by decide), if_pos rfl, if_pos rfl, if_pos rfl]
   have hq : ck xs s = s := by
    by_cases h : ck xs s = s
    ·exact h
    rw [if_neg h] at hm; exact absurd rfl hm
   rw [if_pos hq] at hm ⊢
   congr 1
   refine vo fun it _ => ?_
   rw [fl_sl_list ih1 hox _ s (by rw [hq]; exact hm)]
  have k3 : k = 3 := by rcases k34 with h | h; exact h; exact absurd h k4
  subst k3
  rw [if_neg k4] at hm
  rw [if_pos rfl, if_neg k4, if_neg k4]
  have hq : ck xs s = ck ys s := by
   by_cases h : ck xs s = ck ys s
   ·exact h
   rw [if_neg h] at hm; exact absurd rfl hm
  rw [if_pos hq] at hm ⊢
  split
  ·exact fl_sl_list ih1 hox fs s hm
  rw [fl_sl_list ih2 hoy fs s (by rw [<- hq]; exact hm), hq]
theorem fl_sl {E : EscF} {xs : List Pt} {d : Nat} {p : Bool} (h : oks xs d p = true) (fs : List Fd) (s : St) (hm : (ck xs s).mode ≠ 15) : fl E xs fs s = (sl E xs fs s, ck xs s) := fl_sl_list (fun x _ => fl1_sl1 x) h fs s hm
theorem pl_list {E : EscF} (hE : ∀ s s' t, E s t = E s' t) : ∀ {xs : List Pt} {d : Nat} {p : Bool}, (∀ x ∈ xs, ∀ (d : Nat) (fs : List Fd) (s s' : St), ok x d = true -> (fl1 E x fs s).1 = sl1 E x fs s') -> oks xs d p = true -> ∀ (fs : List Fd) (s s' : St), (fl E xs fs s).1 = sl E xs fs s'
 | [], _, _, _, _, _, _, _ => by simp [sl, fl]
 | x :: r, d, p, hx, ho, fs, s, s' => by
  rw [oks] at ho
  simp only [Bool.and_eq_true] at ho
  rw [fl, sl, hx x (by simp) d fs s s' ho.1, pl_list hE (fun y hy => hx y (List.mem_cons_of_mem _ hy)) ho.2.2 fs _ (ck [x] s')]
theorem pl1 {E : EscF} (hE : ∀ s s' t, E s t = E s' t) (x : Pt) : ∀ (d : Nat) (fs : List Fd) (s s' : St), ok x d = true -> (fl1 E x fs s).1 = sl1 E x fs s' := by
 induction x using ind with
 | h k t n xs ys ih1 ih2 =>
  intro d fs s s' ho
  rw [ok] at ho
  rw [fl1, sl1]
  by_cases k1 : k = 1
  ·rw [if_pos k1, if_pos k1]
  rw [if_neg k1] at ho
  rw [if_neg k1, if_neg k1]
  by_cases k2 : k = 2
  ·rw [if_pos k2, if_pos k2]; exact hE _ _ _
  rw [if_neg k2] at ho
  rw [if_neg k2, if_neg k2]
  by_cases k34 : k = 3 \/ k = 4
  case neg => rw [if_neg k34] at ho; cases ho
  rw [if_pos k34] at ho
  simp only [Bool.and_eq_true] at ho
  obtain ⟨-, -, -, hd, hox, hoy⟩ := ho
  by_cases k4 : k = 4
  ·subst k4
   rw [if_neg (show ¬ (4 : Int) = 3 by decide), if_pos rfl, if_pos rfl]
   exact vo fun it _ => pl_list hE ih1 hox _ s s'
  have k3 : k = 3 := by rcases k34 with h | h; exact h; exact absurd h k4
  subst k3
  rw [if_pos rfl, if_neg k4]
  split
  ·exact pl_list hE ih1 hox fs s s'
  exact pl_list hE ih2 hoy fs s s'
theorem fl_pl {xs : List Pt} {d : Nat} {p : Bool} (h : oks xs d p = true) (fs : List Fd) (s s' : St) : (fl plainE xs fs s).1 = sl plainE xs fs s' := pl_list (fun _ _ _ => rfl) (fun x _ => pl1 (fun _ _ _ => rfl) x) h fs s s'
def fillP (xs : List Pt) (fs : List Fd) : Tx := sl plainE xs fs St.zero
def fillS (xs : List Pt) (fs : List Fd) : Tx := sl safeE xs fs St.zero
theorem fillP_eq {xs : List Pt} (h : valid xs = true) (fs : List Fd) : (fl plainE xs fs St.zero).1 = fillP xs fs := by
 unfold valid at h
 rw [Bool.and_eq_true] at h
 exact fl_pl h.2 fs _ _
theorem fillS_eq {xs : List Pt} (h : safe xs = true) (fs : List Fd) : (fl safeE xs fs St.zero).1 = fillS xs fs := by
 unfold safe valid at h
 simp only [Bool.and_eq_true, decide_eq_true_eq] at h
 rw [fl_sl h.1.2 fs St.zero (by rw [h.2]; decide)]
 rfl
theorem sl_step {E : EscF} {xs : List Pt} {k : Nat} (h : k < xs.length) (fs : List Fd) (s : St) : sl E (xs.drop k) fs s = sl1 E xs[k] fs s ++ sl E (xs.drop (k + 1)) fs (ck [xs[k]] s) := by
 rw [qX xs k h, sl]
theorem sl_end {E : EscF} {xs : List Pt} {k : Nat} (h : ¬ k < xs.length) (fs : List Fd) (s : St) : sl E (xs.drop k) fs s = [] := by
 rw [zc xs k (by omega), sl]
theorem fl_step {E : EscF} {xs : List Pt} {k : Nat} (h : k < xs.length) (fs : List Fd) (s : St) : fl E (xs.drop k) fs s = ((fl1 E xs[k] fs s).1 ++ (fl E (xs.drop (k + 1)) fs (fl1 E xs[k] fs s).2).1, (fl E (xs.drop (k + 1)) fs (fl1 E xs[k] fs s).2).2) := by
 rw [qX xs k h, fl]
theorem fl_end {E : EscF} {xs : List Pt} {k : Nat} (h : ¬ k < xs.length) (fs : List Fd) (s : St) : fl E (xs.drop k) fs s = ([], s) := by
 rw [zc xs k (by omega), fl]
end Pt
open Go.Deep
theorem yO {f : Func} {k b : Nat} {tmps : Array Value} {n t : Tx} {h : Bool} {A : Option Addr} {l c : Nat} {w : World} (hf : f.results = #[.cell k 62]) (ht : tmps[k]?.getD undef = .pointer (some ⟨b, 0, none⟩)) (hb : w.heap[b]? = some (.cells (qC n t h A l c) 62 (0, 0))) :
  (results f tmps).run Tryz.prog w = .ok (fdV n t h A l c) w := by
 obtain ⟨⟨y0, y1, y2, y3⟩, -⟩ := qh hb
 simp [results, go_sem, *]
theorem xQ {w : World} {b : Nat} {c0 c1 c2 c3 v0 v1 v2 v3 : Value} {T : TypeId} (h : w.heap[b]? = some (.cells #[c0, c1, c2, c3] T (0, 0))) :
  ((((w.setCell ⟨b, 0, none⟩ v0).setCell ⟨b, 1, none⟩ v1).setCell ⟨b, 2, none⟩ v2).setCell ⟨b, 3, none⟩ v3).heap[b]? = some (.cells #[v0, v1, v2, v3] T (0, 0)) :=
 qP (qP (qP (qP h)))
theorem xR {B : Nat} {w0 w : World} (h : Below B w0 w) {b : Nat} (hb : B <= b) (v0 v1 v2 v3 : Value) :
  Below B w0 ((((w.setCell ⟨b, 0, none⟩ v0).setCell ⟨b, 1, none⟩ v1).setCell ⟨b, 2, none⟩ v2).setCell ⟨b, 3, none⟩ v3) :=
 (((h.setCell (p := ⟨b, 0, none⟩) hb v0).setCell (p := ⟨b, 1, none⟩) hb v1).setCell (p := ⟨b, 2, none⟩) hb v2).setCell (p := ⟨b, 3, none⟩) hb v3
def GotF (w : World) (f : Fd) (e : Ending) : Prop := ∃ nm A c, e = .returned (fdV nm f.text f.holds A f.items.length c) /\ RdIn w (All w) A (qS f.items) /\ f.items.length <= c
theorem yP (fs : List Fd) (n : Tx) (A : Option Addr) (c : Nat) (w : World) (hx : RdF w (All w) A fs) (hl : fs.length <= 1048576) :
  Calls Tryz.prog 129 #[.slice A fs.length c, sv n] w fun e w' => GotF w (Fd.get fs n) e /\ Below w.heap.size w w' := by
 have HX := qb hx
 obtain ⟨r, hr⟩ : ∃ r, r = Fd.find fs n := ⟨_, rfl⟩
 have HG : Hid (Fd.get fs n = r.getD Fd.none_) := by show _ = _; rw [hr]; rfl
 have HR := qb hr.symm
 clear hr hx
 go_enter func129, ntmps129
 go_wp2
 go_loopw [5] (fun i wr => ∃ (j : Nat), j <= fs.length /\ i = .int .i64 j /\ wr.heap[w.heap.size]? = some (.cells jP 62 (0, 0)) /\ Fd.find (fs.drop j) n = r /\ Below w.heap.size w wr) (fun i _ => fs.length - (intOf i).toNat)
 case atStart => exact ⟨0, Nat.zero_le _, rfl, heap_alloc_new w _, by rw [List.drop_zero]; exact HR.out, (Below.refl _ _).alloc (Nat.le_refl _) _⟩
 obtain ⟨j, hj, rfl, h0, hd, hb⟩ := hrel
 have HB := qb hb
 have H0 := qb h0
 have HD := qb hd
 have hz : w.heap.size < wr.heap.size := lt_of_block h0
 obtain ⟨⟨y0, y1, y2, y3⟩, p0, p1, p2, p3⟩ := qh h0
 clear h0 hd hb
 by_cases hlt : j < fs.length
 ·obtain ⟨b1, o1, rfl, hb1, nn, tt, hh, is, Ai, ci, hxj, k1, k2, d0, d1, d2, d3⟩ := HX.out.at2 hlt
  have c0 := (HB.out.cell (p := ⟨b1, o1 + j * 4, none⟩) hb1).trans d0
  have c1 := (HB.out.cell (p := ⟨b1, o1 + j * 4 + 1, none⟩) hb1).trans d1
  have c2 := (HB.out.cell (p := ⟨b1, o1 + j * 4 + 2, none⟩) hb1).trans d2
  have c3 := (HB.out.cell (p := ⟨b1, o1 + j * 4 + 3, none⟩) hb1).trans d3
  clear d0 d1 d2 d3
  have hst := Fd.find_step HD.out hlt
  rw [hxj] at hst
  have HS := qb hst
  clear hst hxj
  by_cases hq : nn = n
  ·have hq' : (nn == n) = true := by simpa using hq
   have HE : Hid (Fd.get fs n = ⟨nn, tt, hh, is⟩) := by show _ = _; rw [HG.out, <- HS.out, if_pos hq]; rfl
   have HK := qb k1
   have HK2 := qb k2
   clear k1 k2 hq
   go_wp2
   refine bodyPost_ret (yO (n := nn) (t := tt) (h := hh) (A := Ai) (l := is.length) (c := ci) results129 rfl (xQ H0.out)) rfl ⟨⟨nn, Ai, ci, by rw [HE.out], by rw [HE.out]; exact HK.out, by rw [HE.out]; exact HK2.out⟩, xR HB.out (Nat.le_refl _) _ _ _ _⟩
  have hq' : (nn == n) = false := by simpa using hq
  have HN : Hid (Fd.find (fs.drop (j + 1)) n = r) := by show _ = _; rw [<- HS.out, if_neg hq]
  clear hq k1 k2
  go_wp2
  go_roundw
  case rel => exact ⟨j + 1, by omega, by go_num, H0.out, HN.out, HB.out⟩
  case measure => simp [intOf]; omega
 have HE : Hid (Fd.get fs n = Fd.none_) := by show _ = _; rw [HG.out, <- Fd.find_end HD.out hlt]; rfl
 go_wp2
 exact bodyPost_ret (yO (n := n) (t := []) (h := false) (A := none) (l := 0) (c := 0) results129 rfl (xQ H0.out)) rfl ⟨⟨n, none, 0, by rw [HE.out]; rfl, by rw [HE.out]; exact fun h => absurd rfl h, by rw [HE.out]; exact Nat.le_refl _⟩, xR HB.out (Nat.le_refl _) _ _ _ _⟩
def NewW (w : World) (S : Nat -> Prop) (xs : List Fd) (e : Ending) (w' : World) : Prop := ∃ A c rs, e = .returned (.slice A (List.length rs) c) /\ OwnF w' w.heap.size A c rs /\ ElsF w' S rs xs /\ Below w.heap.size w w'
theorem yQ (w : World) (r : FRaw) : OwnF (w.alloc (.cells #[sv r.n, sv r.t, .bool r.h, .slice r.A r.l r.c] 62)) w.heap.size (some ⟨w.heap.size, 0, none⟩) 1 [r] :=
 ⟨rfl, .inr ⟨w.heap.size, 1, #[sv r.n, sv r.t, .bool r.h, .slice r.A r.l r.c], rfl, Nat.le_refl _, heap_alloc_new w _, Nat.le_refl _, by unfold maxLen; omega, rfl, rfl⟩⟩
theorem RdF.el {w : World} {S : Nat -> Prop} {A : Option Addr} {fs : List Fd} (h : RdF w S A fs) {k : Nat} (hk : k < fs.length) : ∃ b o, A = some ⟨b, o, none⟩ /\ S b /\ ∃ n t hh is Ai ci, fs[k] = ⟨n, t, hh, is⟩ /\ InF w S ⟨n, t, hh, is⟩ (FRaw.v ⟨n, t, hh, Ai, is.length, ci⟩) ∧
  w.cell? ⟨b, o + k * 4, none⟩ = some (sv n) /\ w.cell? ⟨b, o + k * 4 + 1, none⟩ = some (sv t) /\ w.cell? ⟨b, o + k * 4 + 2, none⟩ = some (.bool hh) /\ w.cell? ⟨b, o + k * 4 + 3, none⟩ = some (.slice Ai is.length ci) := by
 obtain ⟨b, o, e, hb, n, t, hh, is, Ai, ci, hxj, k1, k2, d0, d1, d2, d3⟩ := h.at2 hk
 exact ⟨b, o, e, hb, n, t, hh, is, Ai, ci, hxj, ⟨Ai, ci, rfl, k1, k2⟩, d0, d1, d2, d3⟩
theorem kP {w w' : World} {base c : Nat} {A : Option Addr} {rs : List FRaw} (h : OwnF w base A c rs) (hb : Below w.heap.size w w') : OwnF w' base A c rs := by
 refine h.kept (jg hb none) ?_
 cases hv : Value.ownBlock (.slice A rs.length c) with
 | none => exact .inl rfl
 | some k => exact .inr fun e => by cases e
theorem yR (fs : List Fd) (t : Tx) (A : Option Addr) (c : Nat) (S : Nat -> Prop) (w : World) (hS : ∀ b, S b -> b < w.heap.size) (hx : RdF w S A fs) (hl : fs.length <= 1048576) :
  Calls Tryz.prog 132 #[.slice A fs.length c, sv t] w (NewW w S (Fd.withI fs t)) := by
 have HX := qb hx
 have HSS := qb hS
 clear hx hS
 go_enter func132, ntmps132
 go_wp2
 go_loopw [5, 6] (fun o i wr => ∃ (j : Nat) (A2 : Option Addr) (c2 : Nat) (rs : List FRaw), j <= fs.length /\ i = .int .i64 j /\ o = .slice A2 rs.length c2 /\ OwnF wr w.heap.size A2 c2 rs /\ ElsF w S rs (⟨Fd.item, t, false, []⟩ :: Fd.rest (fs.take j)) /\ Below w.heap.size w wr) (fun _ i _ => fs.length - (intOf i).toNat)
 case atStart =>
  refine ⟨0, _, 1, [⟨Fd.item, t, false, none, 0, 0⟩], Nat.zero_le _, rfl, rfl, yQ w ⟨Fd.item, t, false, none, 0, 0⟩, ElsF.cons (vK _ _ _) (by rw [List.take_zero]; exact ElsF.nil), (Below.refl _ _).alloc (Nat.le_refl _) _⟩
 obtain ⟨j, A2, c2, rs, hj, rfl, rfl, hown, hels, hb⟩ := hrel
 have HB := qb hb
 have HOW := qb hown
 have HEL := qb hels
 have hrl : rs.length <= 2000000 := by
  have h1 := hels.1
  have h2 := Fd.rest_len (fs.take j)
  rw [h1, List.length_cons]
  have h3 : (fs.take j).length <= j := by rw [List.length_take]; omega
  omega
 clear hown hels hb
 by_cases hlt : j < fs.length
 ·obtain ⟨b1, o1, rfl, hbS, nn, tt, hh, is, Ai, ci, hxj, k1, d0, d1, d2, d3⟩ := HX.out.el hlt
  have hb1 := HSS.out _ hbS
  have c0 := (HB.out.cell (p := ⟨b1, o1 + j * 4, none⟩) hb1).trans d0
  have c1 := (HB.out.cell (p := ⟨b1, o1 + j * 4 + 1, none⟩) hb1).trans d1
  have c2' := (HB.out.cell (p := ⟨b1, o1 + j * 4 + 2, none⟩) hb1).trans d2
  have c3 := (HB.out.cell (p := ⟨b1, o1 + j * 4 + 3, none⟩) hb1).trans d3
  clear d0 d1 d2 d3
  have hrt := Fd.rest_take fs j hlt
  rw [hxj] at hrt
  have HRT := qb hrt
  have HK := qb k1
  clear hrt hxj k1
  have hb2 : b1 < wr.heap.size := Nat.lt_of_lt_of_le hb1 HB.out.size
  by_cases hq : nn = Fd.item
  ·subst hq
   have HN : Hid (Fd.rest (fs.take (j + 1)) = Fd.rest (fs.take j)) := by show _ = _; rw [HRT.out, if_pos rfl, List.append_nil]
   unfold Fd.item at c0
   go_wp2
   go_roundw
   case rel => exact ⟨j + 1, _, _, rs, by omega, by go_num, rfl, HOW.out, by rw [HN.out]; exact HEL.out, HB.out⟩
   case measure => simp [intOf]; omega
  have HN : Hid (Fd.rest (fs.take (j + 1)) = Fd.rest (fs.take j) ++ [⟨nn, tt, hh, is⟩]) := by show _ = _; rw [HRT.out, if_neg hq]
  have hq' : (nn == [105, 116, 101, 109]) = false := by simpa [Fd.item] using hq
  clear hq HRT
  have hBA := (Below.refl wr.heap.size wr).alloc (Nat.le_refl _) (.cells #[sv nn, sv tt, .bool hh, .slice Ai is.length ci] 62)
  have HBA := qb hBA
  have HRW := qb (jJ (us := [⟨nn, tt, hh, Ai, is.length, ci⟩]) (heap_alloc_new wr (.cells #[sv nn, sv tt, .bool hh, .slice Ai is.length ci] 62)) rfl)
  have HOW2 := qb (kP HOW.out hBA)
  clear hBA
  go_wp2_with (at_builtin; refine jI rfl _ _ rfl w.heap.size A2 c2 rs [⟨nn, tt, hh, Ai, is.length, ci⟩] (by rfl) HOW2.out wr.heap.size 0 1 (by rfl) HRW.out (by simp) (by omega) (by have := HB.out.size; simp; omega) ?_; intro A3 c3' w3 ho3 hg3 hbk3; have HO3 := qb ho3; have HG3 := qb (HB.out.trans ((HBA.out.mono HB.out.size).trans (zo hg3 (by have := HB.out.size; simp; omega) (fun g hg => (HOW2.out.lt g hg).1)))); clear ho3 hg3 hbk3)
  go_roundw
  case rel => exact ⟨j + 1, A3, c3', rs ++ [⟨nn, tt, hh, Ai, is.length, ci⟩], by omega, by go_num, by simp, HO3.out, by rw [HN.out]; exact HEL.out.append (ElsF.cons HK.out ElsF.nil), HG3.out⟩
  case measure => simp [intOf]; omega
 have HT : Hid (fs.take j = fs) := by show _ = _; exact List.take_of_length_le (by omega)
 go_wp2
 go_ret
 refine ⟨_, _, rs, rfl, HOW.out, ?_, HB.out⟩
 rw [HT.out] at HEL
 exact HEL.out.keep (fun p hp => HB.out.cell (HSS.out _ hp)) (fun _ h => h)
end Go.Proofs.YtmboieajfdkllaaGreat
