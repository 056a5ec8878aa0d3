/- EscapePart: what it computes. No program is in sight here. -/
import Derived.Test.YtjlaelkdmgcniaaDoorPlain
namespace Go.Proofs.YtjlaelkdmgcniaaDoor

def hexs : Tx := [48, 49, 50, 51, 52, 53, 54, 55, 56, 57, 65, 66, 67, 68, 69, 70]
def hexD (n : Nat) : UInt8 := hexs.getD n 0
def isLet (c : UInt8) : Bool := isLow c || isUp c
/-- the bytes that stand for themselves -/
def plainByte (c : UInt8) : Bool := isLet c || isDig c || decide ((c.toNat : Int) = 45) || decide ((c.toNat : Int) = 95) || decide ((c.toNat : Int) = 46) || decide ((c.toNat : Int) = 126)
def hex3 (c : UInt8) : Tx := [37, hexD (c.toNat / 16), hexD (c.toNat % 16)]
def escByte (c : UInt8) : Tx := if plainByte c then [c] else hex3 c
def escPart (l : Tx) : Tx := l.flatMap escByte

theorem escPart_succ (l : Tx) (k : Nat) (h : k < l.length) : escPart (l.take (k + 1)) = escPart (l.take k) ++ escByte l[k] := by
  unfold escPart
  rw [List.take_add_one, List.getElem?_eq_getElem h, List.flatMap_append]
  simp
theorem escByte_len (c : UInt8) : (escByte c).length ≤ 3 := by unfold escByte hex3; split <;> simp
theorem escPart_len : ∀ l : Tx, (escPart l).length ≤ 3 * l.length
  | [] => by simp [escPart]
  | c :: t => by
    have h1 := escByte_len c
    have h2 := escPart_len t
    unfold escPart at *
    rw [List.flatMap_cons, List.length_append, List.length_cons]
    omega
theorem escPart_take (l : Tx) (k : Nat) : (escPart (l.take k)).length ≤ 3 * l.length := by
  have h := escPart_len (l.take k)
  have h2 : (l.take k).length ≤ l.length := by rw [List.length_take]; omega
  omega
theorem hexs_one : ∀ k, k < 16 → (hexs.take (k + 1)).drop k = [hexD k] := by decide
theorem hexs_get (k : Nat) (h : k < hexs.length) : hexs[k] = hexD k := by simp [hexD, h]
theorem hexs_length : hexs.length = 16 := rfl
theorem byte_div (c : UInt8) : c.toNat / 16 < 16 := by have := c.toNat_lt; omega
theorem byte_mod (c : UInt8) : c.toNat % 16 < 16 := by omega
end Go.Proofs.YtjlaelkdmgcniaaDoor
