import Derived.Test.YtndodhmfdjcjgaaGreatDoorEvE
import Derived.Test.YtndodhmfdjcjgaaGreatDoorTb
import Derived.Test.YtndodhmfdjcjgaaGreatDoorTc
import Derived.Test.YtndodhmfdjcjgaaGreatDoorShE
set_option linter.unusedSectionVars false
set_option linter.unusedVariables false
set_option linter.unusedSimpArgs false
-- the document's shape of any frame (EvHp EvOwn)
namespace Go.Proofs.YtndodhmfdjcjgaaGreatDoor
open Go hiding Fn
open Ev tab
theorem ys_ns : Clo2 (.sl [.one, .one]) .ns (.vs 2 []) := clo_ns [.one, .one]
attribute [local irreducible] EvP EvD EvL EvC EvO evGds evLs C.run sK bK gK pK fK lpB stepD numE setB ackE
/-- the shape's error tells of right SETTINGS that acknowledge nothing -/
def RsX (ty fl s : Int) (p : List Int) (a : Int) : Prop := ty = 4 -> ackE fl = false -> rightB ty fl s p.length = true -> (a = 0 ↔ s = 0 /\ p.length % 6 = 0 /\ setB p = true)
theorem RsX.no {ty fl s : Int} {p : List Int} {a : Int} (h : ty ≠ 4) : RsX ty fl s p a := fun e => absurd e h
def ErQ (ty a b c : Int) : Prop := ty = 4 -> a = 0 -> b = 0 /\ c = 0
def ShQ (ty fl s : Int) (p : List Int) : Prop := EvQ F (d8.body.run ⟨argT [.ag (fr ty fl s p)], fun _ => none, h0⟩ (fK d8)) (fun r => ∃ P a b c, PQ d8.rs [.ag P, .ag [.it .i64 a, .it .i64 b, .it .i64 c]] r /\ PtF P /\ ErQ ty a b c /\ RsX ty fl s p a)
end Go.Proofs.YtndodhmfdjcjgaaGreatDoor
