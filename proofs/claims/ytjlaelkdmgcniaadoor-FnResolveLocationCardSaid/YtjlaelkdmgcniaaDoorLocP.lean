/- Locations: the plain functions. No program is walked here. -/
import Derived.Test.YtjlaelkdmgcniaaDoorReadAskedP
import Derived.Test.YtjlaelkdmgcniaaDoorStrS
namespace Go.Proofs.YtjlaelkdmgcniaaDoor
open Go.RowKit

def hostByte (c : UInt8) : Bool := isLow c || isDig c || decide ((c.toNat : Int) = 46) || decide ((c.toNat : Int) = 45)
def hostOk (s : Tx) : Bool := decide (1 ≤ s.length) && decide (s.length ≤ 40) && s.all hostByte
def stepOk (s : Tx) : Bool := decide (1 ≤ s.length) && decide (s.length ≤ 40) && !(s == [46]) && !(s == [46, 46]) && s.all plainByte
def http : Tx := [104, 116, 116, 112]
def https : Tx := [104, 116, 116, 112, 115]
structure Lc where
  sch : Tx
  host : Tx
  path : List Tx
  qu : Tx
abbrev lcV (l : Lc) (A : Option Addr) (c : Nat) : Value := .agg #[sv l.sch, sv l.host, .slice A l.path.length c, sv l.qu]
abbrev lcCells (l : Lc) (A : Option Addr) (c : Nat) : Array Value := #[sv l.sch, sv l.host, .slice A l.path.length c, sv l.qu]
def schOk (s : Tx) : Bool := s == http || s == https
def locOk (l : Lc) : Bool := schOk l.sch && hostOk l.host && decide (l.path.length ≤ 6) && l.path.all stepOk && (readAsked l.qu).2
def locBody (l : Lc) : Tx := l.sch ++ [58, 47, 47] ++ l.host ++ [47] ++ Lib.join l.path [47] ++ (if l.qu = [] then [] else 63 :: l.qu)
def locText (l : Lc) : Tx := if locOk l then locBody l else []
/-- lengths that the model can bear -/
def FitL (l : Lc) : Prop := l.sch.length ≤ 1048576 ∧ l.host.length ≤ 1048576 ∧ l.qu.length ≤ 1048576 ∧ l.path.length ≤ 1048576 ∧ ∀ x ∈ l.path, x.length ≤ 1048576
end Go.Proofs.YtjlaelkdmgcniaaDoor
