import Derived.Test.YtndodhmfdjcjgaaGreatDoorEvE
import Derived.Test.YtndodhmfdjcjgaaGreatDoorRdC
set_option linter.unusedSectionVars false
set_option linter.unusedVariables false
set_option linter.unusedSimpArgs false
-- (EvHp)
namespace Go.Proofs.YtndodhmfdjcjgaaGreatDoor
open Go hiding Fn
open Ev tab
attribute [local irreducible] EvP EvD EvL EvC evGds evLs C.run sK bK gK pK fK lpB stepD
/-- a frame: type, flags, stream, payload -/
abbrev Frm := Int × Int × Int × List Int
/-- rows of frames in memory -/
inductive FrR (hp : Hp) (z : Nat) : List (List V) -> List Frm -> Prop
 | nil : FrR hp z [] []
 | cons {ty fl s : Int} {p : List Int} {pv : V} {rows : List (List V)} {fs : List Frm} (h : By hp pv p) (hz : ∀ id, idOf pv = some id -> z <= id) (r : FrR hp z rows fs) : FrR hp z ([.it .i64 ty, .it .i64 fl, .it .i64 s, pv] :: rows) ((ty, fl, s, p) :: fs)
theorem FrR.length {hp : Hp} {z : Nat} {rows : List (List V)} {fs : List Frm} (h : FrR hp z rows fs) : rows.length = fs.length := by
 induction h with
 | nil => rfl
 | cons h hz r ih => simp [ih]
theorem FrR.mono {hp hp' : Hp} {Q z : Nat} {rows : List (List V)} {fs : List Frm} (h : FrR hp z rows fs) (e : Ex hp hp' Q) (hQ : ∀ b, hget hp Q = some b -> b.sz ≠ 1) : FrR hp' z rows fs := by
 induction h with
 | nil => exact .nil
 | cons h hz r ih => exact .cons (h.mono e hQ) hz ih
theorem FrR.mono1 {hp hp' : Hp} {z : Nat} {rows : List (List V)} {fs : List Frm} (h : FrR hp z rows fs) (e : Ex1 hp hp') : FrR hp' z rows fs := by
 induction h with
 | nil => exact .nil
 | cons h hz r ih => exact .cons (h.mono1 e) hz ih
theorem FrR.append {hp : Hp} {z : Nat} {a b : List (List V)} {x y : List Frm} (h : FrR hp z a x) (h' : FrR hp z b y) : FrR hp z (a ++ b) (x ++ y) := by
 induction h with
 | nil => exact h'
 | cons h hz r ih => exact .cons h hz ih
theorem FrR.le {hp : Hp} {z z' : Nat} {rows : List (List V)} {fs : List Frm} (h : FrR hp z rows fs) (q : z' <= z) : FrR hp z' rows fs := by
 induction h with
 | nil => exact .nil
 | cons h hz r ih => exact .cons h (fun id e => Nat.le_trans q (hz id e)) ih
/-- a slice of frames of one's own, made behind a number -/
def FrV (hp : Hp) (z : Nat) (v : V) (fs : List Frm) : Prop :=
 (v = .ns /\ fs = []) \/ ∃ id rows, v = .hs id 0 fs.length /\ z <= id /\ id < hp.next /\ hp.lim <= id /\ hget hp id = some ⟨4, false, rows⟩ /\ FrR hp z rows fs
theorem FrV.lp {hp : Hp} {z : Nat} {v : V} {fs : List Frm} (h : FrV hp z v fs) : isLp v = false := by rcases h with ⟨rfl, _⟩ | ⟨_, _, rfl, _⟩ <;> rfl
/-- what a reader without preface tells -/
def feedM (most : Int) : Nat -> List Int -> List Frm × List Int × Bool
 | 0, b => ([], b, false)
 | n + 1, b =>
  if b.length < 9 then ([], b, false) else if most < nOf b then ([], [], true) else if (b.length : Int) < 9 + nOf b then ([], b, false) else
   let x := feedM most n (b.drop (9 + (nOf b).toNat))
   ((b[3]?.getD 0, b[4]?.getD 0, sOf b, (b.drop 9).take (nOf b).toNat) :: x.1, x.2)
def L42 : C := d14.body.lps.getD 0 .skip
def badC (e : Bool) : Int := if e then 6 else 0
def badS (e : Bool) : Int := if e then 2 else 0
end Go.Proofs.YtndodhmfdjcjgaaGreatDoor
