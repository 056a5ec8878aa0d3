/- Styles: the plain function that StyleSafe computes. -/
import Derived.Test.YtaofgcdpmeeimaaDoorPairs
namespace Go.Proofs.YtaofgcdpmeeimaaDoor
open Go.RowKit

def hdi (l : Tx) : Int := ((l.headD 0).toNat : Int)
def hexc (c : UInt8) : Bool := isDig c || (decide (97 ≤ (c.toNat : Int)) && decide ((c.toNat : Int) ≤ 102))
def colorNames : List Tx := [[98, 108, 97, 99, 107], [119, 104, 105, 116, 101], [114, 101, 100], [103, 114, 101, 101, 110], [98, 108, 117, 101]]
def numOk (n : Tx) : Bool := decide (1 ≤ n.length) && decide (n.length ≤ 4) && (n.length == 1 || hdi n != 48) && n.all isDig
def hashOk (v : Tx) : Bool := (v.length == 4 || v.length == 7) && hdi v == 35 && (v.drop 1).all hexc
def colorOk (v : Tx) : Bool := colorNames.contains v || hashOk v
def pxOk (v : Tx) : Bool := endsWith v [112, 120] && numOk (v.take (v.length - 2))
def alignOk (v : Tx) : Bool := v == [108, 101, 102, 116] || v == [114, 105, 103, 104, 116] || v == [99, 101, 110, 116, 101, 114]
def styleOk (n v : Tx) : Bool :=
  if n = [99, 111, 108, 111, 114] ∨ n = [98, 97, 99, 107, 103, 114, 111, 117, 110, 100] then colorOk v
  else if n = [119, 105, 100, 116, 104] ∨ n = [104, 101, 105, 103, 104, 116] ∨ n = [109, 97, 114, 103, 105, 110] ∨ n = [112, 97, 100, 100, 105, 110, 103] then pxOk v
  else if n = [97, 108, 105, 103, 110] then alignOk v else false

theorem hdi_get {v : Tx} (h : 0 < v.length) : hdi v = (v[0].toNat : Int) := by
  cases v with
  | nil => simp at h
  | cons c t => rfl

theorem colorOk_not {v : Tx} (b1 : (v == [98, 108, 97, 99, 107]) = false) (b2 : (v == [119, 104, 105, 116, 101]) = false) (b3 : (v == [114, 101, 100]) = false) (b4 : (v == [103, 114, 101, 101, 110]) = false) (b5 : (v == [98, 108, 117, 101]) = false) : colorOk v = hashOk v := by
  simp only [colorOk, colorNames, List.contains_cons, b1, b2, b3, b4, b5, List.contains_nil, Bool.false_or]

theorem pxOk_no {v : Tx} (h : endsWith v [112, 120] = false) : pxOk v = false := by simp [pxOk, h]
theorem pxOk_yes {v m : Tx} (h : endsWith v [112, 120] = true) (hm : m = v.take (v.length - 2)) : pxOk v = numOk m := by simp [pxOk, h, hm]

end Go.Proofs.YtaofgcdpmeeimaaDoor
