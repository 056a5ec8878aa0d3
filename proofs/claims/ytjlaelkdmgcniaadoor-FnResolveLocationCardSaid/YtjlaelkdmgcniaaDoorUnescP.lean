/- UnescapePart: what it computes, in plain Lean. -/
import Derived.Test.YtjlaelkdmgcniaaDoorEscP
import Derived.Test.YtjlaelkdmgcniaaDoorCut
namespace Go.Proofs.YtjlaelkdmgcniaaDoor
open Go.RowKit

def hexV (b : UInt8) : Nat := at_ b hexs
def isHex (b : UInt8) : Bool := decide (hexV b < 16)
def val3 (a b : UInt8) : UInt8 := UInt8.ofNat (hexV a * 16 + hexV b)
def two (t : Tx) : Bool := decide (2 ≤ t.length)
/-- the program's way: bytes behind a percent sign by their digits; the whole is looked at afterwards -/
def rawA : Tx → Tx → Option Tx
  | acc, [] => some acc
  | acc, [b] => if b == 37 then none else some (acc ++ [b])
  | acc, [b, d] => if b == 37 then none else if d == 37 then none else some (acc ++ [b] ++ [d])
  | acc, b :: d :: e :: u => if b == 37 then (if isHex d && isHex e then rawA (acc ++ [val3 d e]) u else none) else rawA (acc ++ [b]) (d :: e :: u)
theorem rawA_no {b : UInt8} (acc t : Tx) (h : (b == 37) = false) : rawA acc (b :: t) = rawA (acc ++ [b]) t := by
  match t with
  | [] => simp [rawA, h]
  | [d] => simp [rawA, h]
  | d :: e :: u => simp [rawA, h]
theorem rawA_short (acc t : Tx) (h : t.length < 2) : rawA acc (37 :: t) = none := by
  match t, h with
  | [], _ => simp [rawA]
  | [d], _ => simp [rawA]
theorem rawA_hex (acc u : Tx) (d e : UInt8) (h : (isHex d && isHex e) = true) : rawA acc (37 :: d :: e :: u) = rawA (acc ++ [val3 d e]) u := by
  rw [rawA, h]; rfl
theorem rawA_bad (acc u : Tx) (d e : UInt8) (h : (isHex d && isHex e) = false) : rawA acc (37 :: d :: e :: u) = none := by
  rw [rawA, h]; rfl
/-- the reference's way: each byte is looked at -/
def specA : Tx → Tx → Option Tx
  | acc, [] => some acc
  | acc, [b] => if plainByte b then some (acc ++ [b]) else none
  | acc, [b, d] => if plainByte b then (if plainByte d then some (acc ++ [b] ++ [d]) else none) else none
  | acc, b :: d :: e :: u => if b == 37 then (if isHex d && isHex e && !plainByte (val3 d e) then specA (acc ++ [val3 d e]) u else none) else if plainByte b then specA (acc ++ [b]) (d :: e :: u) else none
theorem plain37 : plainByte 37 = false := by decide
theorem plain_no {b : UInt8} (h : plainByte b = true) : (b == 37) = false := by
  rw [beq_eq_false_iff_ne]
  intro e
  subst e
  rw [plain37] at h
  cases h
theorem specA_plain {b : UInt8} (acc t : Tx) (h : plainByte b = true) : specA acc (b :: t) = specA (acc ++ [b]) t := by
  have h2 := plain_no h
  match t with
  | [] => simp [specA, h]
  | [d] => simp [specA, h]
  | d :: e :: u => simp [specA, h, h2]
theorem specA_other {b : UInt8} (acc t : Tx) (h : plainByte b = false) (h2 : (b == 37) = false) : specA acc (b :: t) = none := by
  match t with
  | [] => simp [specA, h]
  | [d] => simp [specA, h]
  | d :: e :: u => simp [specA, h, h2]
theorem specA_short (acc t : Tx) (h : t.length < 2) : specA acc (37 :: t) = none := by
  match t, h with
  | [], _ => simp [specA, plain37]
  | [d], _ => simp [specA, plain37]
theorem specA_hex (acc u : Tx) (d e : UInt8) (h : (isHex d && isHex e) = true) (hp : plainByte (val3 d e) = false) : specA acc (37 :: d :: e :: u) = specA (acc ++ [val3 d e]) u := by
  rw [specA, h, hp]; rfl
theorem specA_hexp (acc u : Tx) (d e : UInt8) (hp : plainByte (val3 d e) = true) : specA acc (37 :: d :: e :: u) = none := by
  rw [specA, hp]; simp
theorem specA_bad (acc u : Tx) (d e : UInt8) (h : (isHex d && isHex e) = false) : specA acc (37 :: d :: e :: u) = none := by
  rw [specA, h]; rfl

theorem hexV_hexD : ∀ n, n < 16 → hexV (hexD n) = n := by decide
theorem hexD_hexV : ∀ b : UInt8, hexV b < 16 → hexD (hexV b) = b := by
  intro b h
  have hh : hexV b < hexs.length := h
  have h3 : (hexs[hexV b]'hh == b) = true := List.findIdx_getElem (w := hh)
  rw [hexs_get] at h3
  simpa using h3
theorem val3_hex (c : UInt8) : val3 (hexD (c.toNat / 16)) (hexD (c.toNat % 16)) = c := by
  unfold val3
  rw [hexV_hexD _ (byte_div c), hexV_hexD _ (byte_mod c), show c.toNat / 16 * 16 + c.toNat % 16 = c.toNat by omega, UInt8.ofNat_toNat]
theorem isHex_hexD (n : Nat) (h : n < 16) : isHex (hexD n) = true := by
  unfold isHex
  rw [hexV_hexD n h]
  simpa using h
theorem val3_lt {d e : UInt8} (h : (isHex d && isHex e) = true) : hexV d * 16 + hexV e < 256 ∧ (val3 d e).toNat = hexV d * 16 + hexV e := by
  simp only [isHex, Bool.and_eq_true, decide_eq_true_eq] at h
  refine ⟨by omega, ?_⟩
  unfold val3
  rw [UInt8.toNat_ofNat']
  omega
theorem hex3_val {d e : UInt8} (h : (isHex d && isHex e) = true) : hex3 (val3 d e) = [37, d, e] := by
  obtain ⟨_, h2⟩ := val3_lt h
  simp only [isHex, Bool.and_eq_true, decide_eq_true_eq] at h
  unfold hex3
  rw [h2, show (hexV d * 16 + hexV e) / 16 = hexV d by omega, show (hexV d * 16 + hexV e) % 16 = hexV e by omega, hexD_hexV d h.1, hexD_hexV e h.2]
theorem hex3_iff (c d e : UInt8) : hex3 c = [37, d, e] ↔ (isHex d && isHex e) = true ∧ c = val3 d e := by
  constructor
  · intro h
    simp only [hex3, List.cons.injEq, and_true, true_and] at h
    rw [← h.1, ← h.2, isHex_hexD _ (byte_div c), isHex_hexD _ (byte_mod c), val3_hex]
    exact ⟨rfl, rfl⟩
  · rintro ⟨h, rfl⟩
    exact hex3_val h
theorem escPart_cons (c : UInt8) (t : Tx) : escPart (c :: t) = escByte c ++ escPart t := by simp [escPart]
theorem rawA_esc : ∀ (t acc r : Tx), rawA acc (escPart t ++ r) = rawA (acc ++ t) r
  | [], acc, r => by simp [escPart]
  | c :: t, acc, r => by
    have ih := rawA_esc t (acc ++ [c]) r
    rw [escPart_cons, List.append_assoc]
    unfold escByte
    by_cases hp : plainByte c = true
    · rw [if_pos hp, List.cons_append, List.nil_append, rawA_no _ _ (plain_no hp), ih]
      simp
    · rw [if_neg hp]
      unfold hex3
      rw [List.cons_append, List.cons_append, List.cons_append, List.nil_append, rawA_hex _ _ _ _ (by rw [isHex_hexD _ (byte_div c), isHex_hexD _ (byte_mod c)]; rfl), val3_hex, ih]
      simp
theorem specA_esc : ∀ (t acc r : Tx), specA acc (escPart t ++ r) = specA (acc ++ t) r
  | [], acc, r => by simp [escPart]
  | c :: t, acc, r => by
    have ih := specA_esc t (acc ++ [c]) r
    rw [escPart_cons, List.append_assoc]
    unfold escByte
    by_cases hp : plainByte c = true
    · rw [if_pos hp, List.cons_append, List.nil_append, specA_plain _ _ hp, ih]
      simp
    · rw [if_neg hp]
      unfold hex3
      rw [List.cons_append, List.cons_append, List.cons_append, List.nil_append, specA_hex _ _ _ _ (by rw [isHex_hexD _ (byte_div c), isHex_hexD _ (byte_mod c)]; rfl) (by rw [val3_hex]; simpa using hp), val3_hex, ih]
      simp
theorem specA_some : ∀ (n : Nat) (s acc r : Tx), s.length ≤ n → specA acc s = some r → ∃ t, r = acc ++ t ∧ escPart t = s
  | _, [], acc, r, _, h => ⟨[], by simpa [specA] using h.symm, rfl⟩
  | 0, b :: t, _, _, hn, _ => by simp at hn
  | n + 1, b :: t, acc, r, hn, h => by
    by_cases hp : plainByte b = true
    · rw [specA_plain _ _ hp] at h
      obtain ⟨x, hx, he⟩ := specA_some n t _ _ (by simpa using hn) h
      refine ⟨b :: x, by rw [hx]; simp, ?_⟩
      rw [escPart_cons, he]
      simp [escByte, hp]
    · have hp' : plainByte b = false := by simpa using hp
      by_cases hb : (b == 37) = true
      · have e : b = 37 := by simpa using hb
        subst e
        match t, hn, h with
        | [], _, h => rw [specA_short _ _ (by simp)] at h; cases h
        | [_], _, h => rw [specA_short _ _ (by simp)] at h; cases h
        | d :: e :: u, hn, h =>
          cases hh : isHex d && isHex e
          · rw [specA_bad _ _ _ _ hh] at h; cases h
          · by_cases hv : plainByte (val3 d e) = true
            · rw [specA_hexp _ _ _ _ hv] at h; cases h
            · have hv' : plainByte (val3 d e) = false := by simpa using hv
              rw [specA_hex _ _ _ _ hh hv'] at h
              obtain ⟨x, hx, he⟩ := specA_some n u _ _ (by simp at hn; omega) h
              refine ⟨val3 d e :: x, by rw [hx]; simp, ?_⟩
              rw [escPart_cons, he]
              simp [escByte, hv', hex3_val hh]
      · rw [specA_other _ _ hp' (by simpa using hb)] at h; cases h

/-- the text of which a text is the escaped one -/
def unesc (s : Tx) : Option Tx := specA [] s
theorem unesc_iff (s t : Tx) : unesc s = some t ↔ escPart t = s := by
  constructor
  · intro h
    obtain ⟨x, hx, he⟩ := specA_some s.length s [] t (Nat.le_refl _) h
    rw [hx]; exact he
  · intro h
    have := specA_esc t [] []
    rw [List.append_nil, h] at this
    exact this
theorem unesc_esc (t : Tx) : unesc (escPart t) = some t := (unesc_iff _ _).2 rfl
theorem unesc_raw (s : Tx) : unesc s = (rawA [] s).bind fun t => if escPart t == s then some t else none := by
  have key : ∀ t, escPart t = s → rawA [] s = some t := fun t h => by
    have := rawA_esc t [] []
    rw [List.append_nil, h] at this
    exact this
  cases h : unesc s with
  | some t =>
    have he := (unesc_iff s t).1 h
    rw [key t he]
    simp [he]
  | none =>
    cases hr : rawA [] s with
    | none => rfl
    | some t =>
      by_cases he : escPart t = s
      · rw [(unesc_iff s t).2 he] at h; cases h
      · simp [he]
theorem escByte_pos (c : UInt8) : 1 ≤ (escByte c).length := by unfold escByte hex3; split <;> simp
theorem escPart_ge : ∀ t : Tx, t.length ≤ (escPart t).length
  | [] => by simp
  | c :: t => by
    have h1 := escByte_pos c
    have h2 := escPart_ge t
    rw [escPart_cons, List.length_append, List.length_cons]
    omega
theorem unesc_len {s t : Tx} (h : unesc s = some t) : t.length ≤ s.length := by
  rw [← (unesc_iff s t).1 h]; exact escPart_ge t
end Go.Proofs.YtjlaelkdmgcniaaDoor
