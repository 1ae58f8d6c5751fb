import Derived.Test.YtcbiplmgaiipgaaEvE
import Derived.Test.YtcbiplmgaiipgaaSplit
import Derived.Test.YtcbiplmgaiipgaaAll
set_option linter.unusedVariables false
set_option linter.unusedSimpArgs false
set_option linter.unusedSectionVars false
-- would an entry answer a request's conditions?
namespace Go.Proofs.Ytcbiplmgaiipgaa
open Go hiding Fn
open Ev tab
attribute [local irreducible] EvD EvL EvC evGds evLs C.run sK bK gK pK fK lpB stepD

def preB (s p : List Nat) : Bool := decide (s.take p.length = p)
def cutS (s p : List Nat) : List Nat := if preB s p = true then s.drop p.length else s
def strongS (s : List Nat) : List Nat := cutS s [87, 47]
def hasF (l : List Fld) (n : List Nat) : Bool := decide (0 < (valsF l n).length)
def onlyF (l : List Fld) (n : List Nat) : Option (List Nat) := if (valsF l n).length = 1 then some (allF l n) else none
/-- requests, responses, entries -/
structure Rq where
  m : List Nat
  s : List Nat
  a : List Nat
  p : List Nat
  fs : List Fld
  n : Int
structure Rs where
  k : Int
  fs : List Fld
  n : Int
structure En where
  q : Rq
  s : Rs
  body : List Nat
  asked : Int
  came : Int
def rowRq (q : Rq) : List V := [.st q.m, .st q.s, .st q.a, .st q.p, .vs 2 (fds q.fs), .it .i64 q.n]
def rowRs (s : Rs) : List V := [.it .i64 s.k, .vs 2 (fds s.fs), .it .i64 s.n]
def rowEn (e : En) : List V := [.st e.q.m, .st e.q.s, .st e.q.a, .st e.q.p, .vs 2 (fds e.q.fs), .it .i64 e.q.n, .it .i64 e.s.k, .vs 2 (fds e.s.fs), .it .i64 e.s.n, .st e.body, .it .i64 e.asked, .it .i64 e.came]
def sInm : List Nat := [105, 102, 45, 110, 111, 110, 101, 45, 109, 97, 116, 99, 104]
def sLast : List Nat := [108, 97, 115, 116, 45, 109, 111, 100, 105, 102, 105, 101, 100]
def sSince : List Nat := [105, 102, 45, 109, 111, 100, 105, 102, 105, 101, 100, 45, 115, 105, 110, 99, 101]
def sEtag : List Nat := [101, 116, 97, 103]
def hitB (tag : Option (List Nat)) (x : List Nat) : Bool := decide (x = [42]) || (tag.isSome && decide (strongS x = strongS (tag.getD [])))
def sameS (a b : List Fld) : Bool :=
  if hasF b sInm then ((splS (allF b sInm)).getD []).any (hitB (onlyF a sEtag))
  else (onlyF a sLast).isSome && ((onlyF b sSince).isSome && decide ((onlyF a sLast).getD [] = (onlyF b sSince).getD []))
end Go.Proofs.Ytcbiplmgaiipgaa
