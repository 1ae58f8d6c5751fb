import Derived.Test.YtmlmljnjgoekiaaGreatDoorTab
import Derived.KernelRfl
set_option linter.unusedVariables false
set_option linter.unusedSimpArgs false
set_option linter.unusedSectionVars false
/- the functions of the seat, read off the program -/
namespace Go.Proofs.YtmlmljnjgoekiaaGreatDoor.tab
open Go hiding Fn
open Ev

def d178 : DFn := ⟨[], [(.c (.sl [.one, .one]))], .pure, [.tmp 0],
(s [mK 0 .ns]
(s [mK 1 .ns]
(.seq (s [o 7 (.call false .pure 19 [(.k (.st [58, 97, 117, 116, 104, 111, 114, 105, 116, 121, 124, 58, 109, 101, 116, 104, 111, 100, 61, 71, 69, 84, 124, 58, 109, 101, 116, 104, 111, 100, 61, 80, 79, 83, 84, 124, 58, 112, 97, 116, 104, 61, 47, 124, 58, 112, 97, 116, 104, 61, 47, 105, 110, 100, 101, 120, 46, 104, 116, 109, 108, 124, 58, 115, 99, 104, 101, 109, 101, 61, 104, 116, 116, 112, 124, 58, 115, 99, 104, 101, 109, 101, 61, 104, 116, 116, 112, 115, 124, 58, 115, 116, 97, 116, 117, 115, 61, 50, 48, 48, 124, 58, 115, 116, 97, 116, 117, 115, 61, 50, 48, 52, 124, 58, 115, 116, 97, 116, 117, 115, 61, 50, 48, 54, 124, 58, 115, 116, 97, 116, 117, 115, 61, 51, 48, 52, 124, 58, 115, 116, 97, 116, 117, 115, 61, 52, 48, 48, 124, 58, 115, 116, 97, 116, 117, 115, 61, 52, 48, 52, 124, 58, 115, 116, 97, 116, 117, 115, 61, 53, 48, 48, 124, 97, 99, 99, 101, 112, 116, 45, 99, 104, 97, 114, 115, 101, 116, 124, 97, 99, 99, 101, 112, 116, 45, 101, 110, 99, 111, 100, 105, 110, 103, 61, 103, 122, 105, 112, 44, 32, 100, 101, 102, 108, 97, 116, 101, 124, 97, 99, 99, 101, 112, 116, 45, 108, 97, 110, 103, 117, 97, 103, 101, 124, 97, 99, 99, 101, 112, 116, 45, 114, 97, 110, 103, 101, 115, 124, 97, 99, 99, 101, 112, 116, 124, 97, 99, 99, 101, 115, 115, 45, 99, 111, 110, 116, 114, 111, 108, 45, 97, 108, 108, 111, 119, 45, 111, 114, 105, 103, 105, 110, 124, 97, 103, 101, 124, 97, 108, 108, 111, 119, 124, 97, 117, 116, 104, 111, 114, 105, 122, 97, 116, 105, 111, 110, 124, 99, 97, 99, 104, 101, 45, 99, 111, 110, 116, 114, 111, 108, 124, 99, 111, 110, 116, 101, 110, 116, 45, 100, 105, 115, 112, 111, 115, 105, 116, 105, 111, 110, 124, 99, 111, 110, 116, 101, 110, 116, 45, 101, 110, 99, 111, 100, 105, 110, 103, 124, 99, 111, 110, 116, 101, 110, 116, 45, 108, 97, 110, 103, 117, 97, 103, 101, 124, 99, 111, 110, 116, 101, 110, 116, 45, 108, 101, 110, 103, 116, 104, 124, 99, 111, 110, 116, 101, 110, 116, 45, 108, 111, 99, 97, 116, 105, 111, 110, 124, 99, 111, 110, 116, 101, 110, 116, 45, 114, 97, 110, 103, 101, 124, 99, 111, 110, 116, 101, 110, 116, 45, 116, 121, 112, 101, 124, 99, 111, 111, 107, 105, 101, 124, 100, 97, 116, 101, 124, 101, 116, 97, 103, 124, 101, 120, 112, 101, 99, 116, 124, 101, 120, 112, 105, 114, 101, 115, 124, 102, 114, 111, 109, 124, 104, 111, 115, 116, 124, 105, 102, 45, 109, 97, 116, 99, 104, 124, 105, 102, 45, 109, 111, 100, 105, 102, 105, 101, 100, 45, 115, 105, 110, 99, 101, 124, 105, 102, 45, 110, 111, 110, 101, 45, 109, 97, 116, 99, 104, 124, 105, 102, 45, 114, 97, 110, 103, 101, 124, 105, 102, 45, 117, 110, 109, 111, 100, 105, 102, 105, 101, 100, 45, 115, 105, 110, 99, 101, 124, 108, 97, 115, 116, 45, 109, 111, 100, 105, 102, 105, 101, 100, 124, 108, 105, 110, 107, 124, 108, 111, 99, 97, 116, 105, 111, 110, 124, 109, 97, 120, 45, 102, 111, 114, 119, 97, 114, 100, 115, 124, 112, 114, 111, 120, 121, 45, 97, 117, 116, 104, 101, 110, 116, 105, 99, 97, 116, 101, 124, 112, 114, 111, 120, 121, 45, 97, 117, 116, 104, 111, 114, 105, 122, 97, 116, 105, 111, 110, 124, 114, 97, 110, 103, 101, 124, 114, 101, 102, 101, 114, 101, 114, 124, 114, 101, 102, 114, 101, 115, 104, 124, 114, 101, 116, 114, 121, 45, 97, 102, 116, 101, 114, 124, 115, 101, 114, 118, 101, 114, 124, 115, 101, 116, 45, 99, 111, 111, 107, 105, 101, 124, 115, 116, 114, 105, 99, 116, 45, 116, 114, 97, 110, 115, 112, 111, 114, 116, 45, 115, 101, 99, 117, 114, 105, 116, 121, 124, 116, 114, 97, 110, 115, 102, 101, 114, 45, 101, 110, 99, 111, 100, 105, 110, 103, 124, 117, 115, 101, 114, 45, 97, 103, 101, 110, 116, 124, 118, 97, 114, 121, 124, 118, 105, 97, 124, 119, 119, 119, 45, 97, 117, 116, 104, 101, 110, 116, 105, 99, 97, 116, 101])), (.k (.st [124]))]), lN 8 false 7, mK 9 (.it .i64 0)]
(.blk 0 (.loop [1, 7, 8, 9] []
(s [o 10 (b .lss (t 9) (t 8))]
(.seq (.cond (t 10)
.skip
(.exit 0))
(.seq (.blk 1 (s [o 11 (.ias 1 (t 7) (t 9)), lD 12 1 11, mV 3 12]
(s [mV 14 3, o 15 (.call false .pure 46 [t 14, (.k (.st [61]))]), mV 13 15, eX 16 13 0, eX 17 13 1, eX 18 13 2, mV 4 16, mV 5 17, mV 6 18]
(r [mV 19 1, mV 20 4, mV 21 5, o 22 (.bld [(.st []), (.st [])] [(0, 1, (t 20)), (1, 1, (t 21))]), o 23 (.bsv [.one, .one] 2 [[(.st []), (.st [])]] [(0, (t 22))]), o 24 (.app 2 32 (t 19) (t 23)), mV 1 24]))))
(r [o 25 (b .add (t 9) (k 1)), mV 9 25])))))))
(s [mV 26 1, mV 0 26]
.ret))))⟩
def c178 : Ev.Fn := d178.den
def p178 : Pol := { P0 .pure with heap := [24], own := [24], ord := [(2, [2, 0, 1])], mask := [(3, [1, 7, 8, 9], [])] }
theorem r178 : FnOK Tryz.prog mds 178 c178 := .read (pol := p178) (d := d178) Tryz.func178 (by kernel_rfl) (by kernel_rfl) rfl rfl (by kernel_rfl)

def d185 : DFn := ⟨[(.c (.sl [.one]))], [(.c (.sl [.one]))], .rw, [.tmp 2],
(s [mK 2 .ns]
(.seq (s [mV 3 0, o 4 (.hnd (.eqs .eql) [t 3, (.k .ns)])]
(.cond (t 4)
(s [mK 2 .ns]
.ret)
.skip))
(s [o 5 (.bsl 1 [] []), mV 6 0, o 7 (.app 1 8 (t 5) (t 6)), mV 2 7]
.ret)))⟩
def c185 : Ev.Fn := d185.den
def p185 : Pol := { P0 .rw with heap := [5], own := [5], ord := [(3, [1, 0, 2, 3])], hnd := [4] }
theorem r185 : FnOK Tryz.prog mds 185 c185 := .read (pol := p185) (d := d185) Tryz.func185 (by kernel_rfl) (by kernel_rfl) rfl rfl (by kernel_rfl)

def c9 : Ev.Fn := run.runFn
theorem r9 : FnOK Tryz.prog mds 9 c9 := ⟨by kernel_rfl, .inr fun call L h => run.run_run call L h⟩

def c16 : Ev.Fn := itoaFn
theorem r16 : FnOK Tryz.prog mds 16 c16 := ⟨by kernel_rfl, .inr fun call L h => itoa_run call L⟩

def c18 : Ev.Fn := joinFn
theorem r18 : FnOK Tryz.prog mds 18 c18 := ⟨by kernel_rfl, .inr fun call L h => join_run call L⟩

def c20 : Ev.Fn := cGrd
theorem r20 : FnOK Tryz.prog mds 20 c20 := ⟨by kernel_rfl, .inr fun call L h => grd_run call L h⟩

def c44 : Ev.Fn := txt.txtFn
theorem r44 : FnOK Tryz.prog mds 44 c44 := ⟨by kernel_rfl, .inr fun call L h => txt.txt_run call L h⟩

def tab : List (Option Ev.Fn) := [none, none, none, some c3, none, none, some c6, some c7, some c8, some c9, none, none, none, none, some c14, some c15, some c16, some c17, some c18, some c19, some c20, some c21, some c22, some c23, some c24, some c25, none, some c27, some c28, none, none, none, none, none, none, none, some c36, none, some c38, none, some c40, some c41, some c42, some c43, some c44, none, some c46, some c47, some c48, some c49, some c50, none, none, none, none, none, none, none, none, none, some c60, none, none, none, none, none, none, some c67, some c68, some c69, some c70, none, some c72, some c73, some c74, some c75, some c76, none, none, none, none, none, none, none, none, none, some c86, none, none, none, none, none, none, none, none, none, some c96, some c97, none, none, some c100, some c101, some c102, some c103, some c104, some c105, some c106, some c107, some c108, some c109, some c110, some c111, none, none, none, none, none, none, none, none, none, none, none, none, none, none, none, none, none, none, none, none, some c132, none, none, none, none, none, none, none, none, some c141, some c142, some c143, some c144, some c145, none, none, some c148, none, none, some c151, none, none, none, none, none, none, none, none, none, none, none, none, none, none, none, none, none, none, none, none, none, none, none, none, none, some c177, some c178, none, none, none, none, none, none, some c185]
def F (n : Nat) : Option Ev.Fn := (tab[n]?).join

inductive Good : Nat → List (Option Ev.Fn) → Prop
  | nil (k : Nat) : Good k []
  | none {k : Nat} {l : List (Option Ev.Fn)} (h : Good (k + 1) l) : Good k (none :: l)
  | some {k : Nat} {c : Ev.Fn} {l : List (Option Ev.Fn)} (h : FnOK Tryz.prog mds k c) (t : Good (k + 1) l) : Good k (some c :: l)

theorem Good.get {k : Nat} {l : List (Option Ev.Fn)} (h : Good k l) : ∀ (n : Nat) (c : Ev.Fn), (l[n]?).join = Option.some c → FnOK Tryz.prog mds (k + n) c := by
  induction h with
  | nil k => intro n c h; simp at h
  | none h ih =>
    intro n c hc
    cases n with
    | zero => simp at hc
    | succ n => have := ih n c (by simpa using hc); rw [Nat.add_assoc, Nat.add_comm 1 n] at this; exact this
  | some h t ih =>
    intro n c hc
    cases n with
    | zero => simp at hc; subst hc; exact h
    | succ n => have := ih n c (by simpa using hc); rw [Nat.add_assoc, Nat.add_comm 1 n] at this; exact this

theorem good : Good 0 tab := by
  unfold tab
  refine .none ?_
  refine .none ?_
  refine .none ?_
  refine .some r3 ?_
  refine .none ?_
  refine .none ?_
  refine .some r6 ?_
  refine .some r7 ?_
  refine .some r8 ?_
  refine .some r9 ?_
  refine .none ?_
  refine .none ?_
  refine .none ?_
  refine .none ?_
  refine .some r14 ?_
  refine .some r15 ?_
  refine .some r16 ?_
  refine .some r17 ?_
  refine .some r18 ?_
  refine .some r19 ?_
  refine .some r20 ?_
  refine .some r21 ?_
  refine .some r22 ?_
  refine .some r23 ?_
  refine .some r24 ?_
  refine .some r25 ?_
  refine .none ?_
  refine .some r27 ?_
  refine .some r28 ?_
  refine .none ?_
  refine .none ?_
  refine .none ?_
  refine .none ?_
  refine .none ?_
  refine .none ?_
  refine .none ?_
  refine .some r36 ?_
  refine .none ?_
  refine .some r38 ?_
  refine .none ?_
  refine .some r40 ?_
  refine .some r41 ?_
  refine .some r42 ?_
  refine .some r43 ?_
  refine .some r44 ?_
  refine .none ?_
  refine .some r46 ?_
  refine .some r47 ?_
  refine .some r48 ?_
  refine .some r49 ?_
  refine .some r50 ?_
  refine .none ?_
  refine .none ?_
  refine .none ?_
  refine .none ?_
  refine .none ?_
  refine .none ?_
  refine .none ?_
  refine .none ?_
  refine .none ?_
  refine .some r60 ?_
  refine .none ?_
  refine .none ?_
  refine .none ?_
  refine .none ?_
  refine .none ?_
  refine .none ?_
  refine .some r67 ?_
  refine .some r68 ?_
  refine .some r69 ?_
  refine .some r70 ?_
  refine .none ?_
  refine .some r72 ?_
  refine .some r73 ?_
  refine .some r74 ?_
  refine .some r75 ?_
  refine .some r76 ?_
  refine .none ?_
  refine .none ?_
  refine .none ?_
  refine .none ?_
  refine .none ?_
  refine .none ?_
  refine .none ?_
  refine .none ?_
  refine .none ?_
  refine .some r86 ?_
  refine .none ?_
  refine .none ?_
  refine .none ?_
  refine .none ?_
  refine .none ?_
  refine .none ?_
  refine .none ?_
  refine .none ?_
  refine .none ?_
  refine .some r96 ?_
  refine .some r97 ?_
  refine .none ?_
  refine .none ?_
  refine .some r100 ?_
  refine .some r101 ?_
  refine .some r102 ?_
  refine .some r103 ?_
  refine .some r104 ?_
  refine .some r105 ?_
  refine .some r106 ?_
  refine .some r107 ?_
  refine .some r108 ?_
  refine .some r109 ?_
  refine .some r110 ?_
  refine .some r111 ?_
  refine .none ?_
  refine .none ?_
  refine .none ?_
  refine .none ?_
  refine .none ?_
  refine .none ?_
  refine .none ?_
  refine .none ?_
  refine .none ?_
  refine .none ?_
  refine .none ?_
  refine .none ?_
  refine .none ?_
  refine .none ?_
  refine .none ?_
  refine .none ?_
  refine .none ?_
  refine .none ?_
  refine .none ?_
  refine .none ?_
  refine .some r132 ?_
  refine .none ?_
  refine .none ?_
  refine .none ?_
  refine .none ?_
  refine .none ?_
  refine .none ?_
  refine .none ?_
  refine .none ?_
  refine .some r141 ?_
  refine .some r142 ?_
  refine .some r143 ?_
  refine .some r144 ?_
  refine .some r145 ?_
  refine .none ?_
  refine .none ?_
  refine .some r148 ?_
  refine .none ?_
  refine .none ?_
  refine .some r151 ?_
  refine .none ?_
  refine .none ?_
  refine .none ?_
  refine .none ?_
  refine .none ?_
  refine .none ?_
  refine .none ?_
  refine .none ?_
  refine .none ?_
  refine .none ?_
  refine .none ?_
  refine .none ?_
  refine .none ?_
  refine .none ?_
  refine .none ?_
  refine .none ?_
  refine .none ?_
  refine .none ?_
  refine .none ?_
  refine .none ?_
  refine .none ?_
  refine .none ?_
  refine .none ?_
  refine .none ?_
  refine .none ?_
  refine .some r177 ?_
  refine .some r178 ?_
  refine .none ?_
  refine .none ?_
  refine .none ?_
  refine .none ?_
  refine .none ?_
  refine .none ?_
  refine .some r185 ?_
  exact .nil _

theorem table : Table Tryz.prog F mds where
  mixed := by kernel_rfl
  fns := fun f fn h => by
    have := good.get f fn h
    rw [Nat.zero_add] at this
    exact this

end Go.Proofs.YtmlmljnjgoekiaaGreatDoor.tab
