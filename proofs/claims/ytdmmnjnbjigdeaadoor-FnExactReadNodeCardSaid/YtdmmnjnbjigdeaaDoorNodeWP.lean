/- Nodes as texts: what is written and what is read, in plain Lean. No program is walked here. -/
import Derived.Test.YtdmmnjnbjigdeaaDoorNodeV
import Derived.Lib.Join
import Derived.Lib.ItoaNum
import Derived.Lib.ItoaLen
import Derived.Lib.Atoi
namespace Go.Proofs.YtdmmnjnbjigdeaaDoor
open Go.RowKit

def escq : Tx → Tx
  | [] => []
  | b :: t => if b == 34 || b == 92 then 92 :: b :: escq t else b :: escq t
def quote (t : Tx) : Tx := 34 :: (escq t ++ [34])
def wNull : Tx := [110, 117, 108, 108]
def wTrue : Tx := [116, 114, 117, 101]
def wFalse : Tx := [102, 97, 108, 115, 101]
namespace Nd
mutual
/-- the text of a node -/
def wr : Nd → Tx
  | mk k n t ns xs => if k = 1 then wNull else if k = 2 then (if n = 1 then wTrue else wFalse) else if k = 3 then Lib.itoa n else if k = 4 then quote t else
    if k = 6 then 123 :: (Lib.join (wrs true ns xs) [44] ++ [125]) else 91 :: (Lib.join (wrs false ns xs) [44] ++ [93])
def wrs : Bool → List Tx → List Nd → List Tx
  | _, _, [] => []
  | b, ns, x :: s => ((if b then quote (ns.headD []) ++ [58] else []) ++ wr x) :: wrs b ns.tail s
end
theorem wrs_len (b : Bool) : ∀ (ns : List Tx) (xs : List Nd), (wrs b ns xs).length = xs.length
  | ns, [] => by simp [wrs]
  | ns, x :: s => by simp [wrs, wrs_len b ns.tail s]
end Nd

/-! ### reading texts in quotes -/
def rdT : Tx → Tx → Option (Tx × Tx)
  | _, [] => none
  | acc, [b] => if b == 34 then some (acc, []) else none
  | acc, b :: c :: u => if b == 34 then some (acc, c :: u) else if b == 92 then rdT (acc ++ [c]) u else rdT (acc ++ [b]) (c :: u)
theorem rdT_end (acc t : Tx) : rdT acc (34 :: t) = some (acc, t) := by cases t <;> simp [rdT]
theorem rdT_bs (acc : Tx) (c : UInt8) (u : Tx) : rdT acc (92 :: c :: u) = rdT (acc ++ [c]) u := by simp [rdT]
theorem rdT_bs0 (acc : Tx) : rdT acc [92] = none := by simp [rdT]
theorem rdT_other (acc : Tx) (b : UInt8) (t : Tx) (h1 : (b == 34) = false) (h2 : (b == 92) = false) : rdT acc (b :: t) = rdT (acc ++ [b]) t := by
  cases t <;> simp [rdT, h1, h2]
def rdQ : Tx → Option (Tx × Tx)
  | [] => none
  | b :: t => if b == 34 then rdT [] t else none
theorem rdT_esc : ∀ (t acc rest : Tx), rdT acc (escq t ++ 34 :: rest) = some (acc ++ t, rest)
  | [], acc, rest => by rw [escq, List.nil_append, rdT_end, List.append_nil]
  | b :: t, acc, rest => by
    by_cases h : (b == 34 || b == 92) = true
    · have e : escq (b :: t) = 92 :: b :: escq t := by rw [escq, if_pos h]
      rw [e, List.cons_append, List.cons_append, rdT_bs, rdT_esc t]
      simp
    · have e : escq (b :: t) = b :: escq t := by rw [escq, if_neg h]
      rw [Bool.not_eq_true, Bool.or_eq_false_iff] at h
      rw [e, List.cons_append, rdT_other _ _ _ h.1 h.2, rdT_esc t]
      simp
theorem rdQ_quote (t rest : Tx) : rdQ (quote t ++ rest) = some (t, rest) := by
  show (if (34 : UInt8) == 34 then rdT [] ((escq t ++ [34]) ++ rest) else none) = _
  rw [if_pos (by decide), List.append_assoc]
  simpa using rdT_esc t [] rest

/-! ### numbers -/
def isD (b : UInt8) : Bool := decide (48 ≤ b.toNat) && decide (b.toNat ≤ 57)
def noDig (rest : Tx) : Prop := ∀ b t, rest = b :: t → isD b = false
/-- the digits ahead, so many at most -/
def dgs : Nat → Tx → Nat
  | 0, _ => 0
  | _, [] => 0
  | f + 1, b :: t => if isD b then dgs f t + 1 else 0
theorem dgs_le : ∀ (f : Nat) (l : Tx), dgs f l ≤ f ∧ dgs f l ≤ l.length
  | 0, l => by simp [dgs]
  | f + 1, [] => by simp [dgs]
  | f + 1, b :: t => by
    have := dgs_le f t
    unfold dgs
    split
    · simp; omega
    · simp
theorem dgs_all : ∀ (l : Tx) (f : Nat) (rest : Tx), (∀ b ∈ l, isD b = true) → l.length < f → noDig rest → dgs f (l ++ rest) = l.length
  | [], f + 1, rest, _, _, hr => by
    cases rest with
    | nil => simp [dgs]
    | cons b t => simp [dgs, hr b t rfl]
  | b :: l, f + 1, rest, h, hl, hr => by
    simp only [List.cons_append, dgs, List.length_cons]
    rw [if_pos (h b (by simp)), dgs_all l f rest (fun c hc => h c (List.mem_cons_of_mem _ hc)) (by simpa using hl) hr]
theorem dgs_all_le : ∀ (l : Tx) (f : Nat) (rest : Tx), (∀ b ∈ l, isD b = true) → l.length ≤ f → noDig rest → dgs f (l ++ rest) = l.length
  | [], 0, rest, _, _, hr => by simp [dgs]
  | [], f + 1, rest, _, _, hr => by
    cases rest with
    | nil => simp [dgs]
    | cons b t => simp [dgs, hr b t rfl]
  | b :: l, f + 1, rest, h, hl, hr => by
    simp only [List.cons_append, dgs, List.length_cons]
    rw [if_pos (h b (by simp)), dgs_all_le l f rest (fun c hc => h c (List.mem_cons_of_mem _ hc)) (by simpa using hl) hr]
theorem dig_of (d : Nat) (h : d < 10) : (UInt8.ofNat (48 + d)).toNat = 48 + d := by
  rw [UInt8.toNat_ofNat']; omega
theorem dec_dig : ∀ (u : Nat), ∀ b ∈ Lib.decDigits u, isD b = true := by
  intro u
  induction u using Nat.strongRecOn with
  | ind u ih =>
    intro b hb
    rw [Lib.decDigits] at hb
    have hd : ∀ d, d < 10 → isD (UInt8.ofNat (48 + d)) = true := fun d hd => by
      unfold isD
      rw [dig_of d hd]
      simp
      omega
    split at hb
    · next h => rw [List.mem_singleton] at hb; subst hb; exact hd u h
    · rw [List.mem_append] at hb
      rcases hb with hb | hb
      · exact ih (u / 10) (by omega) b hb
      · rw [List.mem_singleton] at hb; subst hb; exact hd _ (by omega)
/-- what digits say -/
def valD (acc : Int) : Tx → Int
  | [] => acc
  | b :: t => valD (10 * acc + ((b.toNat : Int) - 48)) t
theorem valD_append : ∀ (a b : Tx) (acc : Int), valD acc (a ++ b) = valD (valD acc a) b
  | [], _, _ => rfl
  | x :: a, b, acc => by simp only [List.cons_append, valD]; exact valD_append a b _
theorem valD_dec : ∀ (u : Nat), valD 0 (Lib.decDigits u) = (u : Int) := by
  intro u
  induction u using Nat.strongRecOn with
  | ind u ih =>
    rw [Lib.decDigits]
    split
    · next h => simp only [valD, dig_of u h]; omega
    · next h =>
      rw [valD_append, ih (u / 10) (by omega)]
      simp only [valD, dig_of (u % 10) (by omega)]
      omega
theorem decFrom_dec : ∀ (l : Tx) (acc : Nat), (∀ b ∈ l, isD b = true) → ∃ m : Nat, Lib.decFrom acc l = some m ∧ (m : Int) = valD acc l
  | [], acc, _ => ⟨acc, rfl, rfl⟩
  | b :: l, acc, h => by
    have hb := h b (by simp)
    simp only [isD, Bool.and_eq_true, decide_eq_true_eq] at hb
    have hv : Lib.digitVal b = some (b.toNat - 48) := by unfold Lib.digitVal; rw [if_pos hb]
    obtain ⟨m, h1, h2⟩ := decFrom_dec l (acc * 10 + (b.toNat - 48)) fun c hc => h c (List.mem_cons_of_mem _ hc)
    refine ⟨m, by simp only [Lib.decFrom, hv]; exact h1, ?_⟩
    rw [h2]
    simp only [valD]
    congr 1
    omega
theorem dec_ne (u : Nat) : Lib.decDigits u ≠ [] := by
  rw [Lib.decDigits]
  split <;> simp
theorem atoi_dec (u : Nat) : Lib.decNat (Lib.decDigits u) = some u := by
  obtain ⟨m, h1, h2⟩ := decFrom_dec (Lib.decDigits u) 0 (dec_dig u)
  rw [show ((0 : Nat) : Int) = 0 from rfl, valD_dec] at h2
  have hm : m = u := by omega
  subst hm
  unfold Lib.decNat
  rw [if_neg (by simpa using dec_ne m)]
  exact h1
theorem atoi_itoa (n : Int) : Lib.atoi (Lib.itoa n) = some n := by
  unfold Lib.itoa
  split
  · simp only [Lib.atoi]
    rw [if_pos (by decide), atoi_dec]
    simp
    omega
  · have h1 := atoi_dec n.toNat
    have h2 := dec_dig n.toNat
    generalize hd : Lib.decDigits n.toNat = l at *
    cases l with
    | nil => exact absurd hd (dec_ne _)
    | cons b t =>
      have hb := h2 b (by simp)
      have hb1 : (b == 45) = false := by
        rw [beq_eq_false_iff_ne]; intro e; subst e; revert hb; decide
      have hb2 : (b == 43) = false := by
        rw [beq_eq_false_iff_ne]; intro e; subst e; revert hb; decide
      simp only [Lib.atoi]
      rw [hb1, hb2]
      simp [h1]
      omega
theorem dec_len (u : Nat) (h : u ≤ 999999) : (Lib.decDigits u).length ≤ 6 := by
  have step : ∀ (f u : Nat), u < 10 ^ (f + 1) → (Lib.decDigits u).length ≤ f + 1 := by
    intro f
    induction f with
    | zero => intro u hu; rw [Lib.decDigits, dif_pos (by omega)]; simp
    | succ f ih =>
      intro u hu
      rw [Lib.decDigits]
      split
      · simp
      · have := ih (u / 10) (by rw [Nat.pow_succ] at hu; omega)
        simp
        omega
  exact step 5 u (by omega)
/-- the bytes of a number ahead: a sign, digits: eight at most -/
def numEnd : Tx → Nat
  | [] => 0
  | b :: t => if isD b || b == 45 then dgs 7 t + 1 else 0
/-- the reference's way: a sign, six digits at most -/
def numS (s : Tx) : Option (Int × Tx) :=
  match s with
  | [] => none
  | b :: t => if b == 45 then (if dgs 6 t = 0 then none else some (-(valD 0 (t.take (dgs 6 t))), t.drop (dgs 6 t))) else if dgs 6 (b :: t) = 0 then none else some (valD 0 ((b :: t).take (dgs 6 (b :: t))), (b :: t).drop (dgs 6 (b :: t)))
theorem itoa_shape (n : Int) (h0 : -999999 ≤ n) (h1 : n ≤ 999999) : (∃ u : Nat, u ≤ 999999 ∧ n = -(u : Int) ∧ Lib.itoa n = 45 :: Lib.decDigits u) ∨ (∃ u : Nat, u ≤ 999999 ∧ n = u ∧ Lib.itoa n = Lib.decDigits u) := by
  unfold Lib.itoa
  split
  · exact .inl ⟨n.natAbs, by omega, by omega, rfl⟩
  · exact .inr ⟨n.toNat, by omega, by omega, rfl⟩
theorem numEnd_itoa (n : Int) (h0 : -999999 ≤ n) (h1 : n ≤ 999999) (rest : Tx) (hr : noDig rest) : numEnd (Lib.itoa n ++ rest) = (Lib.itoa n).length := by
  rcases itoa_shape n h0 h1 with ⟨u, hu, _, e⟩ | ⟨u, hu, _, e⟩
  · rw [e]
    show (if isD 45 || (45 : UInt8) == 45 then dgs 7 (Lib.decDigits u ++ rest) + 1 else 0) = _
    rw [if_pos (by decide), dgs_all _ _ _ (dec_dig u) (by have := dec_len u hu; omega) hr]
    simp
  · rw [e]
    have hd := dec_dig u
    have hl := dec_len u hu
    have hne := dec_ne u
    generalize Lib.decDigits u = l at *
    cases l with
    | nil => exact absurd rfl hne
    | cons b t =>
      show (if isD b || b == 45 then dgs 7 (t ++ rest) + 1 else 0) = _
      rw [if_pos (by rw [hd b (by simp)]; rfl), dgs_all _ _ _ (fun c hc => hd c (List.mem_cons_of_mem _ hc)) (by simp at hl; omega) hr]
      simp
theorem numS_itoa (n : Int) (h0 : -999999 ≤ n) (h1 : n ≤ 999999) (rest : Tx) (hr : noDig rest) : numS (Lib.itoa n ++ rest) = some (n, rest) := by
  rcases itoa_shape n h0 h1 with ⟨u, hu, hn, e⟩ | ⟨u, hu, hn, e⟩
  · rw [e]
    have hdg := dgs_all_le _ 6 rest (dec_dig u) (dec_len u hu) hr
    have hpos : (Lib.decDigits u).length ≠ 0 := fun e => dec_ne u (List.eq_nil_of_length_eq_zero e)
    have h2 : numS (45 :: Lib.decDigits u ++ rest) = if (45 : UInt8) == 45 then (if dgs 6 (Lib.decDigits u ++ rest) = 0 then none else some (-(valD 0 ((Lib.decDigits u ++ rest).take (dgs 6 (Lib.decDigits u ++ rest)))), (Lib.decDigits u ++ rest).drop (dgs 6 (Lib.decDigits u ++ rest)))) else if dgs 6 (45 :: Lib.decDigits u ++ rest) = 0 then none else some (valD 0 ((45 :: Lib.decDigits u ++ rest).take (dgs 6 (45 :: Lib.decDigits u ++ rest))), (45 :: Lib.decDigits u ++ rest).drop (dgs 6 (45 :: Lib.decDigits u ++ rest))) := rfl
    have h3 : (Lib.decDigits u ++ rest).take (Lib.decDigits u).length = Lib.decDigits u := by simp
    have h4 : (Lib.decDigits u ++ rest).drop (Lib.decDigits u).length = rest := by simp
    rw [h2, if_pos (by decide), hdg, if_neg hpos, h3, h4, valD_dec, hn]
  · rw [e]
    have hdg := dgs_all_le _ 6 rest (dec_dig u) (dec_len u hu) hr
    have hpos : (Lib.decDigits u).length ≠ 0 := fun e => dec_ne u (List.eq_nil_of_length_eq_zero e)
    have hv := valD_dec u
    have hd := dec_dig u
    generalize Lib.decDigits u = l at *
    cases l with
    | nil => exact absurd rfl hpos
    | cons b t =>
      have hb := hd b (by simp)
      have hb1 : (b == 45) = false := by
        rw [beq_eq_false_iff_ne]; intro e; subst e; revert hb; decide
      have h2 : numS (b :: t ++ rest) = if b == 45 then (if dgs 6 (t ++ rest) = 0 then none else some (-(valD 0 ((t ++ rest).take (dgs 6 (t ++ rest)))), (t ++ rest).drop (dgs 6 (t ++ rest)))) else if dgs 6 (b :: t ++ rest) = 0 then none else some (valD 0 ((b :: t ++ rest).take (dgs 6 (b :: t ++ rest))), (b :: t ++ rest).drop (dgs 6 (b :: t ++ rest))) := rfl
      have h3 : (b :: t ++ rest).take (b :: t).length = b :: t := by simp
      have h4 : (b :: t ++ rest).drop (b :: t).length = rest := by simp
      rw [h2, if_neg (by rw [hb1]; decide), hdg, if_neg hpos, h3, h4, hv, hn]

/-! ### reading nodes -/
def endB (rec : Bool) : UInt8 := if rec then 125 else 93
def kindB (rec : Bool) : Int := if rec then 6 else 5
/-- the rest behind a byte -/
def after (b : UInt8) : Tx → Option Tx
  | [] => none
  | c :: t => if c == b then some t else none
/-- a name and a colon, where there are names -/
def rdName (rec : Bool) (ns : List Tx) (s : Tx) : Option (List Tx × Tx) :=
  if rec then (match rdQ s with | none => none | some (nm, r) => (after 58 r).map fun u => (ns ++ [nm], u)) else some (ns, s)
/-- the program's way: nodes and commas -/
def insI (p : Tx → Option (Nd × Tx)) (rec : Bool) : Nat → List Tx → List Nd → Tx → Option (Nd × Tx)
  | 0, _, _, _ => none
  | f + 1, ns, xs, s => match rdName rec ns s with
    | none => none
    | some (ns', s') => match p s' with
      | none => none
      | some (x, r) => match after 44 r with
        | some u => insI p rec f ns' (xs ++ [x]) u
        | none => (after (endB rec) r).map fun u => (.mk (kindB rec) 0 [] ns' (xs ++ [x]), u)
def inI (p : Tx → Option (Nd × Tx)) (rec : Bool) (s : Tx) : Option (Nd × Tx) := match after (endB rec) s with
  | some u => some (.mk (kindB rec) 0 [] [] [], u)
  | none => insI p rec 6 [] [] s
/-- the program's way of reading a node -/
def rdI : Nat → Tx → Option (Nd × Tx)
  | 0, _ => none
  | d + 1, s =>
    if Lib.hasPrefix s wNull then some (.mk 1 0 [] [] [], s.drop 4)
    else if Lib.hasPrefix s wTrue then some (.mk 2 1 [] [] [], s.drop 4)
    else if Lib.hasPrefix s wFalse then some (.mk 2 0 [] [] [], s.drop 5)
    else match s with
      | [] => none
      | b :: t => if b == 34 then (rdT [] t).map fun q => (.mk 4 0 q.1 [] [], q.2)
        else if b == 91 then inI (rdI d) false t
        else if b == 123 then inI (rdI d) true t
        else (Lib.atoi ((b :: t).take (numEnd (b :: t)))).map fun n => (.mk 3 n [] [] [], (b :: t).drop (numEnd (b :: t)))
theorem rdI_cons (d : Nat) (b : UInt8) (t : Tx) : rdI (d + 1) (b :: t) = if Lib.hasPrefix (b :: t) wNull then some (.mk 1 0 [] [] [], (b :: t).drop 4)
    else if Lib.hasPrefix (b :: t) wTrue then some (.mk 2 1 [] [] [], (b :: t).drop 4)
    else if Lib.hasPrefix (b :: t) wFalse then some (.mk 2 0 [] [] [], (b :: t).drop 5)
    else if b == 34 then (rdT [] t).map fun q => (.mk 4 0 q.1 [] [], q.2)
        else if b == 91 then inI (rdI d) false t
        else if b == 123 then inI (rdI d) true t
        else (Lib.atoi ((b :: t).take (numEnd (b :: t)))).map fun n => (.mk 3 n [] [] [], (b :: t).drop (numEnd (b :: t))) := rfl
/-- the reference's way -/
def insS (p : Tx → Option (Nd × Tx)) (rec : Bool) : Nat → List Tx → List Nd → Tx → Option (Nd × Tx)
  | 0, _, _, _ => none
  | f + 1, ns, xs, s => match after (endB rec) s with
    | some u => some (.mk (kindB rec) 0 [] ns xs, u)
    | none => match (if xs.length = 0 then (if s = [] then none else some s) else after 44 s) with
      | none => none
      | some s1 => match rdName rec ns s1 with
        | none => none
        | some (ns', s') => match p s' with
          | none => none
          | some (x, r) => if 5 < xs.length then none else insS p rec f ns' (xs ++ [x]) r
def rdS : Nat → Tx → Option (Nd × Tx)
  | 0, _ => none
  | d + 1, s =>
    if Lib.hasPrefix s wNull then some (.mk 1 0 [] [] [], s.drop 4)
    else if Lib.hasPrefix s wFalse then some (.mk 2 0 [] [] [], s.drop 5)
    else if Lib.hasPrefix s wTrue then some (.mk 2 1 [] [] [], s.drop 4)
    else match s with
      | [] => none
      | b :: t => if b == 34 then (rdT [] t).map fun q => (.mk 4 0 q.1 [] [], q.2)
        else if b == 91 then insS (rdS d) false 7 [] [] t
        else if b == 123 then insS (rdS d) true 7 [] [] t
        else (numS (b :: t)).map fun q => (.mk 3 q.1 [] [] [], q.2)

theorem rdS_cons (d : Nat) (b : UInt8) (t : Tx) : rdS (d + 1) (b :: t) = if Lib.hasPrefix (b :: t) wNull then some (.mk 1 0 [] [] [], (b :: t).drop 4)
    else if Lib.hasPrefix (b :: t) wFalse then some (.mk 2 0 [] [] [], (b :: t).drop 5)
    else if Lib.hasPrefix (b :: t) wTrue then some (.mk 2 1 [] [] [], (b :: t).drop 4)
    else if b == 34 then (rdT [] t).map fun q => (.mk 4 0 q.1 [] [], q.2)
        else if b == 91 then insS (rdS d) false 7 [] [] t
        else if b == 123 then insS (rdS d) true 7 [] [] t
        else (numS (b :: t)).map fun q => (.mk 3 q.1 [] [] [], q.2) := rfl

/-! ### a written node is read -/
theorem after_hit (b : UInt8) (t : Tx) : after b (b :: t) = some t := by simp [after]
theorem after_miss {b c : UInt8} (t : Tx) (h : c ≠ b) : after b (c :: t) = none := by simp [after, h]
/-- how the text of a node may begin -/
def startB (b : UInt8) : Bool := isD b || (b == 45 || (b == 34 || (b == 91 || (b == 123 || (b == 110 || (b == 116 || b == 102))))))
theorem wr_start (x : Nd) (d : Nat) (h : Nd.ok x d = true) : ∃ b t, Nd.wr x = b :: t ∧ startB b = true := by
  cases x with
  | mk k n t ns xs =>
    simp only [Nd.ok, headOkN, Bool.and_eq_true, decide_eq_true_eq] at h
    have hk := h.2.1.1
    simp only [Nd.wr]
    split
    · exact ⟨_, _, rfl, by decide⟩
    split
    · split
      · exact ⟨_, _, rfl, by decide⟩
      · exact ⟨_, _, rfl, by decide⟩
    split
    · unfold Lib.itoa
      split
      · exact ⟨_, _, rfl, by decide⟩
      · have hd := dec_dig n.toNat
        have hne := dec_ne n.toNat
        generalize Lib.decDigits n.toNat = l at *
        cases l with
        | nil => exact absurd rfl hne
        | cons b t => exact ⟨b, t, rfl, by unfold startB; rw [hd b (by simp)]; rfl⟩
    split
    · exact ⟨_, _, rfl, by decide⟩
    split
    · exact ⟨_, _, rfl, by decide⟩
    · exact ⟨_, _, rfl, by decide⟩
theorem pre_no {b c : UInt8} {t u : Tx} (h : b ≠ c) : Lib.hasPrefix (b :: t) (c :: u) = false := by
  unfold Lib.hasPrefix
  simp [List.isPrefixOf]
  intro e
  exact absurd e.symm h
theorem pre_yes (p rest : Tx) : Lib.hasPrefix (p ++ rest) p = true := by
  unfold Lib.hasPrefix
  simp
theorem noDig_cons {b : UInt8} {t : Tx} (h : isD b = false) : noDig (b :: t) := by
  intro c u e
  injection e with e1 _
  rw [← e1]; exact h
theorem noDig_nil : noDig [] := by intro b t e; cases e
/-- the text behind a list's opening sign -/
def sepT (b : Bool) (ns : List Tx) : List Nd → Tx
  | [] => []
  | x :: s => 44 :: Lib.join (Nd.wrs b ns (x :: s)) [44]
theorem join_step (b : Bool) (ns : List Tx) (x : Nd) (s : List Nd) (tl : Tx) : Lib.join (Nd.wrs b ns (x :: s)) [44] ++ tl = (if b then quote (ns.headD []) ++ [58] else []) ++ (Nd.wr x ++ (sepT b ns.tail s ++ tl)) := by
  cases s with
  | nil => simp [Nd.wrs, Lib.join_one, sepT]
  | cons y s =>
    have e := Lib.join_cons ((if b then quote (ns.headD []) ++ [58] else []) ++ Nd.wr x) (Nd.wrs b ns.tail (y :: s)) [44]
    rw [Nd.wrs, e]
    have e2 : Lib.joinTail [44] (Nd.wrs b ns.tail (y :: s)) = 44 :: Lib.join (Nd.wrs b ns.tail (y :: s)) [44] := by
      rw [Nd.wrs, Lib.join_cons]
      simp [Lib.joinTail]
    rw [e2]
    simp [List.append_assoc, sepT]
theorem rdName_ok (rec : Bool) (ns0 ns : List Tx) (rest : Tx) : rdName rec ns0 ((if rec then quote (ns.headD []) ++ [58] else []) ++ rest) = some (if rec then ns0 ++ [ns.headD []] else ns0, rest) := by
  cases rec with
  | false => simp [rdName]
  | true =>
    simp only [rdName, if_true, List.append_assoc]
    rw [rdQ_quote]
    simp [after]
end Go.Proofs.YtdmmnjnbjigdeaaDoor
