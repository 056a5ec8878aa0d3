/- A written node is read again, by the program's way and by the reference's: in plain Lean. No program is walked here. -/
import Derived.Test.YtdmmnjnbjigdeaaDoorNodeWP
namespace Go.Proofs.YtdmmnjnbjigdeaaDoor
open Go.RowKit

structure OkParts (k n : Int) (t : Tx) (ns : List Tx) (xs : List Nd) (d : Nat) : Prop where
  lo : 1 ≤ k
  hi : k ≤ 6
  num : numOk k n = true
  txt : txtOk k t = true
  five : xs.length ≤ 5
  leaf : k < 5 → xs = []
  names : ns.length = if k = 6 then xs.length else 0
  nok : namesOk ns = true
  ins : Nd.oks xs d = true
theorem ok_parts {k n : Int} {t : Tx} {ns : List Tx} {xs : List Nd} {d : Nat} (h : Nd.ok (.mk k n t ns xs) d = true) : ∃ d', d = d' + 1 ∧ OkParts k n t ns xs d' := by
  simp only [Nd.ok, headOkN, lenOk, Bool.and_eq_true, Bool.or_eq_true, Bool.not_eq_true', decide_eq_true_eq, decide_eq_false_iff_not] at h
  obtain ⟨hd, ⟨h1, h2⟩, h3⟩ := h
  cases d with
  | zero => exact absurd rfl hd
  | succ d =>
    obtain ⟨h4, h5, ⟨⟨h6, h7⟩, h8⟩, h9⟩ := h2
    exact ⟨d, rfl, h1.1, h1.2, h4, h5, h6, fun hk => List.eq_nil_of_length_eq_zero (by rcases h7 with h7 | h7; exact absurd hk h7; exact h7), h8, h9, h3⟩
theorem oks_get : ∀ {xs : List Nd} {d : Nat} {x : Nd}, Nd.oks xs d = true → x ∈ xs → Nd.ok x d = true
  | y :: s, d, x, h, hx => by
    simp only [Nd.oks, Bool.and_eq_true] at h
    rcases List.mem_cons.1 hx with e | hx
    · subst e; exact h.1
    · exact oks_get h.2 hx
theorem endB_ne (rec : Bool) : endB rec ≠ 44 := by cases rec <;> decide
theorem endB_dig (rec : Bool) : isD (endB rec) = false := by cases rec <;> decide
theorem start_end {b : UInt8} (h : startB b = true) (rec : Bool) : b ≠ endB rec := by
  intro e
  subst e
  revert h
  cases rec <;> decide
theorem start_comma {b : UInt8} (h : startB b = true) : b ≠ 44 := by
  intro e
  subst e
  revert h
  decide
/-- the program's loop -/
theorem insI_ok {p : Tx → Option (Nd × Tx)} (rec : Bool) (rest : Tx) : ∀ (xs : List Nd) (ns : List Tx) (f : Nat) (ns0 : List Tx) (xs0 : List Nd), xs ≠ [] → xs.length ≤ f → (rec = true → ns.length = xs.length) →
    (∀ x ∈ xs, ∀ r, noDig r → p (Nd.wr x ++ r) = some (x, r)) →
    insI p rec f ns0 xs0 (Lib.join (Nd.wrs rec ns xs) [44] ++ endB rec :: rest) = some (.mk (kindB rec) 0 [] (ns0 ++ (if rec then ns else [])) (xs0 ++ xs), rest)
  | x :: s, ns, 0, ns0, xs0, _, hf, _, _ => absurd hf (by simp)
  | x :: s, ns, f + 1, ns0, xs0, _, hf, hn, hp => by
    rw [join_step, insI, rdName_ok]
    simp only
    have hx := hp x (by simp)
    cases s with
    | nil =>
      rw [sepT, List.nil_append]
      rw [hx _ (noDig_cons (endB_dig rec))]
      simp only
      rw [after_miss _ (endB_ne rec)]
      simp only
      rw [after_hit]
      cases rec with
      | false => simp
      | true =>
        have hl := hn rfl
        match ns, hl with
        | [nm], _ => simp
    | cons y s =>
      rw [sepT, List.cons_append]
      rw [hx _ (noDig_cons (by decide))]
      simp only
      rw [after_hit]
      simp only
      have ih := insI_ok rec rest (y :: s) ns.tail f (if rec then ns0 ++ [ns.headD []] else ns0) (xs0 ++ [x]) (by simp) (by simpa using hf) (fun h => by have := hn h; simp only [List.length_tail, List.length_cons] at *; omega) (fun z hz => hp z (List.mem_cons_of_mem _ hz))
      rw [ih]
      cases rec with
      | false => simp
      | true =>
        have hl := hn rfl
        match ns, hl with
        | nm :: ns', _ => simp
/-- what lies ahead of the reference's loop -/
def ahead (rec : Bool) (ns : List Tx) (xs0 : List Nd) : List Nd → Tx
  | [] => []
  | x :: s => (if xs0.length = 0 then [] else [44]) ++ Lib.join (Nd.wrs rec ns (x :: s)) [44]
theorem insS_ok {p : Tx → Option (Nd × Tx)} (rec : Bool) (rest : Tx) : ∀ (xs : List Nd) (ns : List Tx) (f : Nat) (ns0 : List Tx) (xs0 : List Nd), xs.length < f → xs0.length + xs.length ≤ 5 → (rec = true → ns.length = xs.length) →
    (∀ x ∈ xs, ∃ b t, Nd.wr x = b :: t ∧ startB b = true) → (∀ x ∈ xs, ∀ r, noDig r → p (Nd.wr x ++ r) = some (x, r)) →
    insS p rec f ns0 xs0 (ahead rec ns xs0 xs ++ endB rec :: rest) = some (.mk (kindB rec) 0 [] (ns0 ++ (if rec then ns else [])) (xs0 ++ xs), rest)
  | xs, ns, 0, ns0, xs0, hf, _, _, _, _ => absurd hf (by simp)
  | [], ns, f + 1, ns0, xs0, _, _, hn, _, _ => by
    rw [ahead, List.nil_append, insS, after_hit]
    cases rec with
    | false => simp
    | true =>
      have hl := hn rfl
      have e : ns = [] := List.eq_nil_of_length_eq_zero (by simpa using hl)
      subst e
      simp
  | x :: s, ns, f + 1, ns0, xs0, hf, h5, hn, hst, hp => by
    have hx := hp x (by simp)
    obtain ⟨b0, t0, hb0, hs0⟩ := hst x (by simp)
    have hhead : ∃ b1 t1, Lib.join (Nd.wrs rec ns (x :: s)) [44] ++ endB rec :: rest = b1 :: t1 ∧ startB b1 = true := by
      rw [join_step]
      cases rec with
      | false => exact ⟨b0, _, by rw [if_neg (by decide), List.nil_append, hb0]; rfl, hs0⟩
      | true => exact ⟨34, _, rfl, by decide⟩
    obtain ⟨b1, t1, hb1, hs1⟩ := hhead
    have hA : after (endB rec) (ahead rec ns xs0 (x :: s) ++ endB rec :: rest) = none := by
      rw [ahead]
      by_cases h0 : xs0.length = 0
      · rw [if_pos h0, List.nil_append, hb1, after_miss _ (start_end hs1 rec)]
      · rw [if_neg h0]
        simp only [List.cons_append, List.nil_append]
        rw [after_miss _ (Ne.symm (endB_ne rec))]
    have hB : (if xs0.length = 0 then (if ahead rec ns xs0 (x :: s) ++ endB rec :: rest = [] then none else some (ahead rec ns xs0 (x :: s) ++ endB rec :: rest)) else after 44 (ahead rec ns xs0 (x :: s) ++ endB rec :: rest)) = some (Lib.join (Nd.wrs rec ns (x :: s)) [44] ++ endB rec :: rest) := by
      rw [ahead]
      by_cases h0 : xs0.length = 0
      · rw [if_pos h0, if_pos h0, if_neg (by simp)]
        simp
      · rw [if_neg h0, if_neg h0]
        simp only [List.cons_append, List.nil_append]
        rw [after_hit]
    rw [insS, hA]
    simp only
    rw [hB]
    simp only
    rw [join_step, rdName_ok]
    simp only
    have hl5 : ¬ 5 < xs0.length := by simp only [List.length_cons] at h5; omega
    have ih := insS_ok rec rest s ns.tail f (if rec then ns0 ++ [ns.headD []] else ns0) (xs0 ++ [x]) (by simpa using hf) (by simp only [List.length_append, List.length_cons, List.length_nil] at *; omega) (fun h => by have := hn h; simp only [List.length_tail, List.length_cons] at *; omega) (fun z hz => hst z (List.mem_cons_of_mem _ hz)) (fun z hz => hp z (List.mem_cons_of_mem _ hz))
    have hahead : sepT rec ns.tail s = ahead rec ns.tail (xs0 ++ [x]) s := by
      cases s with
      | nil => rfl
      | cons y s => simp [ahead, sepT]
    rw [hahead, hx _ (by
      cases s with
      | nil => exact noDig_cons (endB_dig rec)
      | cons y s => simp only [ahead]; rw [if_neg (by simp)]; exact noDig_cons (by decide))]
    simp only
    rw [if_neg hl5, ih]
    cases rec with
    | false => simp
    | true =>
      have hl := hn rfl
      match ns, hl with
      | nm :: ns', _ => simp

theorem wr_none {n : Int} {t : Tx} {ns : List Tx} {xs : List Nd} (d : Nat) : ∀ k, OkParts k n t ns xs d → k ≠ 4 → t = [] := by
  intro k h hk
  have h1 := h.txt
  unfold txtOk at h1
  rw [if_neg hk] at h1
  simpa using h1
theorem num_none {k n : Int} {t : Tx} {ns : List Tx} {xs : List Nd} {d : Nat} (h : OkParts k n t ns xs d) (h2 : k ≠ 2) (h3 : k ≠ 3) : n = 0 := by
  have h1 := h.num
  unfold numOk at h1
  rw [if_neg h2, if_neg h3] at h1
  simpa using h1
theorem names_none {k n : Int} {t : Tx} {ns : List Tx} {xs : List Nd} {d : Nat} (h : OkParts k n t ns xs d) (h2 : k ≠ 6) : ns = [] := by
  have h1 := h.names
  rw [if_neg h2] at h1
  exact List.eq_nil_of_length_eq_zero h1
theorem num_head (n : Int) : ∃ b t, Lib.itoa n = b :: t ∧ (isD b || b == 45) = true := by
  unfold Lib.itoa
  split
  · exact ⟨_, _, rfl, by decide⟩
  · have hd := dec_dig n.toNat
    have hne := dec_ne n.toNat
    generalize Lib.decDigits n.toNat = l at *
    cases l with
    | nil => exact absurd rfl hne
    | cons b t => exact ⟨b, t, rfl, by rw [hd b (by simp)]; rfl⟩
theorem numB_ne {b c : UInt8} (h : (isD b || b == 45) = true) (hc : (isD c || c == 45) = false) : b ≠ c := by
  intro e; subst e; rw [h] at hc; cases hc
theorem rdI_wr (x : Nd) : ∀ (d : Nat) (rest : Tx), Nd.ok x d = true → noDig rest → rdI d (Nd.wr x ++ rest) = some (x, rest) := by
  induction x using Nd.ind with
  | h k n t ns xs ih =>
  intro d rest hok hr
  obtain ⟨d, rfl, H⟩ := ok_parts hok
  have hxs : ∀ x ∈ xs, ∀ r, noDig r → rdI d (Nd.wr x ++ r) = some (x, r) := fun x hx r hr => ih x hx d r (oks_get H.ins hx) hr
  rw [Nd.wr]
  by_cases k1 : k = 1
  · subst k1
    rw [if_pos rfl, wr_none d 1 H (by decide), num_none H (by decide) (by decide), names_none H (by decide), H.leaf (by decide)]
    show rdI (d + 1) (110 :: ([117, 108, 108] ++ rest)) = _
    rw [rdI_cons, if_pos (show Lib.hasPrefix (110 :: ([117, 108, 108] ++ rest)) wNull = true from pre_yes wNull rest)]
    rfl
  rw [if_neg k1]
  by_cases k2 : k = 2
  · subst k2
    rw [if_pos rfl]
    have hn := H.num
    unfold numOk at hn
    rw [if_pos rfl] at hn
    rw [wr_none d 2 H (by decide), names_none H (by decide), H.leaf (by decide)]
    rcases of_decide_eq_true hn with h0 | h0
    · subst h0
      rw [if_neg (by decide)]
      show rdI (d + 1) (102 :: ([97, 108, 115, 101] ++ rest)) = _
      rw [rdI_cons, if_neg (by rw [wNull, pre_no (by decide)]; decide), if_neg (by rw [wTrue, pre_no (by decide)]; decide), if_pos (show Lib.hasPrefix (102 :: ([97, 108, 115, 101] ++ rest)) wFalse = true from pre_yes wFalse rest)]
      rfl
    · subst h0
      rw [if_pos rfl]
      show rdI (d + 1) (116 :: ([114, 117, 101] ++ rest)) = _
      rw [rdI_cons, if_neg (by rw [wNull, pre_no (by decide)]; decide), if_pos (show Lib.hasPrefix (116 :: ([114, 117, 101] ++ rest)) wTrue = true from pre_yes wTrue rest)]
      rfl
  rw [if_neg k2]
  by_cases k3 : k = 3
  · subst k3
    rw [if_pos rfl, wr_none d 3 H (by decide), names_none H (by decide), H.leaf (by decide)]
    have hn := H.num
    unfold numOk at hn
    rw [if_neg (by decide), if_pos rfl] at hn
    obtain ⟨hn0, hn1⟩ := of_decide_eq_true hn
    have hnum := numEnd_itoa n hn0 hn1 rest hr
    have hat := atoi_itoa n
    obtain ⟨b, u, hb, hbd⟩ := num_head n
    rw [hb] at hnum hat ⊢
    rw [List.cons_append] at hnum ⊢
    rw [rdI_cons, if_neg (by rw [wNull, pre_no (numB_ne hbd (by decide))]; decide), if_neg (by rw [wTrue, pre_no (numB_ne hbd (by decide))]; decide), if_neg (by rw [wFalse, pre_no (numB_ne hbd (by decide))]; decide)]
    rw [if_neg (by simpa using numB_ne hbd (by decide)), if_neg (by simpa using numB_ne hbd (by decide)), if_neg (by simpa using numB_ne hbd (by decide)), hnum, show (b :: (u ++ rest)).take (b :: u).length = b :: u by simp, show (b :: (u ++ rest)).drop (b :: u).length = rest by simp, hat]
    rfl
  rw [if_neg k3]
  by_cases k4 : k = 4
  · subst k4
    rw [if_pos rfl, num_none H (by decide) (by decide), names_none H (by decide), H.leaf (by decide), quote, List.cons_append, rdI_cons]
    rw [if_neg (by rw [wNull, pre_no (by decide)]; decide), if_neg (by rw [wTrue, pre_no (by decide)]; decide), if_neg (by rw [wFalse, pre_no (by decide)]; decide), if_pos (by decide), List.append_assoc]
    simp only [List.cons_append, List.nil_append]
    rw [rdT_esc]
    rfl
  rw [if_neg k4, wr_none d k H k4, num_none H k2 k3]
  by_cases k6 : k = 6
  · subst k6
    rw [if_pos rfl, List.cons_append, rdI_cons]
    rw [if_neg (by rw [wNull, pre_no (by decide)]; decide), if_neg (by rw [wTrue, pre_no (by decide)]; decide), if_neg (by rw [wFalse, pre_no (by decide)]; decide), if_neg (by decide), if_neg (by decide), if_pos (by decide), List.append_assoc]
    have hnl := H.names
    rw [if_pos rfl] at hnl
    cases xs with
    | nil =>
      rw [List.eq_nil_of_length_eq_zero hnl]
      simp [Nd.wrs, Lib.join_nil, inI, endB, kindB, after]
    | cons x s =>
      have h := insI_ok (p := rdI d) true rest (x :: s) ns 6 [] [] (by simp) (by have := H.five; omega) (fun _ => hnl) hxs
      have hm : after (endB true) (Lib.join (Nd.wrs true ns (x :: s)) [44] ++ endB true :: rest) = none := by
        rw [join_step]
        exact after_miss _ (by decide)
      rw [inI, show [125] ++ rest = endB true :: rest from rfl, hm]
      simp only
      rw [h]
      simp [kindB]
  · have k5 : k = 5 := by have := H.lo; have := H.hi; omega
    subst k5
    rw [if_neg k6, names_none H (by decide), List.cons_append, rdI_cons]
    rw [if_neg (by rw [wNull, pre_no (by decide)]; decide), if_neg (by rw [wTrue, pre_no (by decide)]; decide), if_neg (by rw [wFalse, pre_no (by decide)]; decide), if_neg (by decide), if_pos (by decide), List.append_assoc]
    cases xs with
    | nil => simp [Nd.wrs, Lib.join_nil, inI, endB, kindB, after]
    | cons x s =>
      have h := insI_ok (p := rdI d) false rest (x :: s) [] 6 [] [] (by simp) (by have := H.five; omega) (fun e => by cases e) hxs
      obtain ⟨b0, t0, hb0, hs0⟩ := wr_start x d (oks_get H.ins (by simp))
      have hm : after (endB false) (Lib.join (Nd.wrs false [] (x :: s)) [44] ++ endB false :: rest) = none := by
        rw [join_step, if_neg (by decide), List.nil_append, hb0]
        exact after_miss _ (start_end hs0 false)
      rw [inI, show [93] ++ rest = endB false :: rest from rfl, hm]
      simp only
      rw [h]
      simp [kindB]
theorem rdS_wr (x : Nd) : ∀ (d : Nat) (rest : Tx), Nd.ok x d = true → noDig rest → rdS d (Nd.wr x ++ rest) = some (x, rest) := by
  induction x using Nd.ind with
  | h k n t ns xs ih =>
  intro d rest hok hr
  obtain ⟨d, rfl, H⟩ := ok_parts hok
  have hxs : ∀ x ∈ xs, ∀ r, noDig r → rdS d (Nd.wr x ++ r) = some (x, r) := fun x hx r hr => ih x hx d r (oks_get H.ins hx) hr
  have hst : ∀ x ∈ xs, ∃ b t, Nd.wr x = b :: t ∧ startB b = true := fun x hx => wr_start x d (oks_get H.ins hx)
  rw [Nd.wr]
  by_cases k1 : k = 1
  · subst k1
    rw [if_pos rfl, wr_none d 1 H (by decide), num_none H (by decide) (by decide), names_none H (by decide), H.leaf (by decide)]
    show rdS (d + 1) (110 :: ([117, 108, 108] ++ rest)) = _
    rw [rdS_cons, if_pos (show Lib.hasPrefix (110 :: ([117, 108, 108] ++ rest)) wNull = true from pre_yes wNull rest)]
    rfl
  rw [if_neg k1]
  by_cases k2 : k = 2
  · subst k2
    rw [if_pos rfl]
    have hn := H.num
    unfold numOk at hn
    rw [if_pos rfl] at hn
    rw [wr_none d 2 H (by decide), names_none H (by decide), H.leaf (by decide)]
    rcases of_decide_eq_true hn with h0 | h0
    · subst h0
      rw [if_neg (by decide)]
      show rdS (d + 1) (102 :: ([97, 108, 115, 101] ++ rest)) = _
      rw [rdS_cons, if_neg (by rw [wNull, pre_no (by decide)]; decide), if_pos (show Lib.hasPrefix (102 :: ([97, 108, 115, 101] ++ rest)) wFalse = true from pre_yes wFalse rest)]
      rfl
    · subst h0
      rw [if_pos rfl]
      show rdS (d + 1) (116 :: ([114, 117, 101] ++ rest)) = _
      rw [rdS_cons, if_neg (by rw [wNull, pre_no (by decide)]; decide), if_neg (by rw [wFalse, pre_no (by decide)]; decide), if_pos (show Lib.hasPrefix (116 :: ([114, 117, 101] ++ rest)) wTrue = true from pre_yes wTrue rest)]
      rfl
  rw [if_neg k2]
  by_cases k3 : k = 3
  · subst k3
    rw [if_pos rfl, wr_none d 3 H (by decide), names_none H (by decide), H.leaf (by decide)]
    have hn := H.num
    unfold numOk at hn
    rw [if_neg (by decide), if_pos rfl] at hn
    obtain ⟨hn0, hn1⟩ := of_decide_eq_true hn
    have hnum := numS_itoa n hn0 hn1 rest hr
    obtain ⟨b, u, hb, hbd⟩ := num_head n
    rw [hb] at hnum ⊢
    rw [List.cons_append] at hnum ⊢
    rw [rdS_cons, if_neg (by rw [wNull, pre_no (numB_ne hbd (by decide))]; decide), if_neg (by rw [wFalse, pre_no (numB_ne hbd (by decide))]; decide), if_neg (by rw [wTrue, pre_no (numB_ne hbd (by decide))]; decide)]
    rw [if_neg (by simpa using numB_ne hbd (by decide)), if_neg (by simpa using numB_ne hbd (by decide)), if_neg (by simpa using numB_ne hbd (by decide)), hnum]
    rfl
  rw [if_neg k3]
  by_cases k4 : k = 4
  · subst k4
    rw [if_pos rfl, num_none H (by decide) (by decide), names_none H (by decide), H.leaf (by decide), quote, List.cons_append, rdS_cons]
    rw [if_neg (by rw [wNull, pre_no (by decide)]; decide), if_neg (by rw [wFalse, pre_no (by decide)]; decide), if_neg (by rw [wTrue, pre_no (by decide)]; decide), if_pos (by decide), List.append_assoc]
    simp only [List.cons_append, List.nil_append]
    rw [rdT_esc]
    rfl
  rw [if_neg k4, wr_none d k H k4, num_none H k2 k3]
  by_cases k6 : k = 6
  · subst k6
    rw [if_pos rfl, List.cons_append, rdS_cons]
    rw [if_neg (by rw [wNull, pre_no (by decide)]; decide), if_neg (by rw [wFalse, pre_no (by decide)]; decide), if_neg (by rw [wTrue, pre_no (by decide)]; decide), if_neg (by decide), if_neg (by decide), if_pos (by decide), List.append_assoc]
    have hnl := H.names
    rw [if_pos rfl] at hnl
    have h := insS_ok (p := rdS d) true rest xs ns 7 [] [] (by have := H.five; omega) (by have := H.five; simpa using this) (fun _ => hnl) hst hxs
    have e : ahead true ns [] xs = Lib.join (Nd.wrs true ns xs) [44] := by
      cases xs with
      | nil => simp [ahead, Nd.wrs, Lib.join_nil]
      | cons x s => simp [ahead]
    rw [e] at h
    rw [show [125] ++ rest = endB true :: rest from rfl, h]
    simp [kindB]
  · have k5 : k = 5 := by have := H.lo; have := H.hi; omega
    subst k5
    rw [if_neg k6, names_none H (by decide), List.cons_append, rdS_cons]
    rw [if_neg (by rw [wNull, pre_no (by decide)]; decide), if_neg (by rw [wFalse, pre_no (by decide)]; decide), if_neg (by rw [wTrue, pre_no (by decide)]; decide), if_neg (by decide), if_pos (by decide), List.append_assoc]
    have h := insS_ok (p := rdS d) false rest xs [] 7 [] [] (by have := H.five; omega) (by have := H.five; simpa using this) (fun e => by cases e) hst hxs
    have e : ahead false [] [] xs = Lib.join (Nd.wrs false [] xs) [44] := by
      cases xs with
      | nil => simp [ahead, Nd.wrs, Lib.join_nil]
      | cons x s => simp [ahead]
    rw [e] at h
    rw [show [93] ++ rest = endB false :: rest from rfl, h]
    simp [kindB]

/-! ### what ReadNode and NodeWritten compute -/
def nodeWritten (x : Nd) : Tx := if Nd.valid x then Nd.wr x else []
def readBy (p : Tx → Option (Nd × Tx)) (s : Tx) : Option Nd := match p s with
  | none => none
  | some (x, r) => if r == [] && (Nd.valid x && Nd.wr x == s) then some x else none
/-- the valid node whose text it is -/
def readNode (s : Tx) : Option Nd := readBy (rdI 4) s
theorem valid_ok {x : Nd} (h : Nd.valid x = true) : Nd.ok x 4 = true := by
  have h3 : (Nd.ok x 4 && decide (Nd.count x ≤ 30)) = true := h
  rw [Bool.and_eq_true] at h3
  exact h3.1
theorem readBy_some {p : Tx → Option (Nd × Tx)} {s : Tx} {x : Nd} (h : readBy p s = some x) : Nd.valid x = true ∧ Nd.wr x = s := by
  unfold readBy at h
  split at h
  · cases h
  · split at h
    · next hc =>
      injection h with h
      subst h
      simp only [Bool.and_eq_true, beq_iff_eq] at hc
      exact ⟨hc.2.1, hc.2.2⟩
    · cases h
theorem readI_wr {x : Nd} (h : Nd.valid x = true) : readBy (rdI 4) (Nd.wr x) = some x := by
  have := rdI_wr x 4 [] (valid_ok h) noDig_nil
  rw [List.append_nil] at this
  unfold readBy
  rw [this]
  simp [h]
theorem readS_wr {x : Nd} (h : Nd.valid x = true) : readBy (rdS 4) (Nd.wr x) = some x := by
  have := rdS_wr x 4 [] (valid_ok h) noDig_nil
  rw [List.append_nil] at this
  unfold readBy
  rw [this]
  simp [h]
theorem readS_eq (s : Tx) : readBy (rdS 4) s = readNode s := by
  cases h1 : readBy (rdS 4) s with
  | some x =>
    obtain ⟨h2, h3⟩ := readBy_some h1
    rw [← h3]
    exact (readI_wr h2).symm
  | none =>
    cases h4 : readNode s with
    | none => rfl
    | some x =>
      obtain ⟨h2, h3⟩ := readBy_some h4
      rw [← h3, readS_wr h2] at h1
      cases h1
theorem wr_inj {x y : Nd} (hx : Nd.valid x = true) (hy : Nd.valid y = true) (h : Nd.wr x = Nd.wr y) : x = y := by
  have h1 := readI_wr hx
  rw [h, readI_wr hy] at h1
  injection h1 with h1
  exact h1.symm
/-- the last byte of a node's text is no space -/
theorem wr_last (x : Nd) (d : Nat) (h : Nd.ok x d = true) : ∃ l b, Nd.wr x = l ++ [b] ∧ b ≠ 32 := by
  cases x with
  | mk k n t ns xs =>
  rw [Nd.wr]
  split
  · exact ⟨[110, 117, 108], 108, rfl, by decide⟩
  split
  · split
    · exact ⟨[116, 114, 117], 101, rfl, by decide⟩
    · exact ⟨[102, 97, 108, 115], 101, rfl, by decide⟩
  split
  · have hl : ∀ u, ∃ l b, Lib.decDigits u = l ++ [b] ∧ b ≠ 32 := fun u => by
      have hne := dec_ne u
      refine ⟨(Lib.decDigits u).dropLast, (Lib.decDigits u).getLast hne, (List.dropLast_concat_getLast hne).symm, fun e => ?_⟩
      have := dec_dig u _ (List.getLast_mem hne)
      rw [e] at this
      revert this
      decide
    unfold Lib.itoa
    split
    · obtain ⟨l, b, e, hb⟩ := hl n.natAbs
      exact ⟨45 :: l, b, by rw [e]; rfl, hb⟩
    · exact hl _
  split
  · exact ⟨34 :: escq t, 34, rfl, by decide⟩
  split
  · exact ⟨123 :: Lib.join (Nd.wrs true ns xs) [44], 125, rfl, by decide⟩
  · exact ⟨91 :: Lib.join (Nd.wrs false ns xs) [44], 93, rfl, by decide⟩
theorem read_space {s : Tx} : readNode (s ++ [32]) = none := by
  cases h : readNode (s ++ [32]) with
  | none => rfl
  | some y =>
    obtain ⟨h2, h3⟩ := readBy_some h
    obtain ⟨l, b, e, hb⟩ := wr_last y 4 (valid_ok h2)
    rw [e] at h3
    have := List.append_inj_right' h3 rfl
    injection this with this _
    exact absurd this hb
end Go.Proofs.YtdmmnjnbjigdeaaDoor
