import Derived.Test.YtddohjlkjakdlaaTab
import Derived.KernelRfl
set_option linter.unusedVariables false
set_option linter.unusedSimpArgs false
set_option linter.unusedSectionVars false
/- the functions of the seat, read off the program -/
namespace Go.Proofs.Ytddohjlkjakdlaa.tab
open Go hiding Fn
open Ev

def d80 : DFn := ⟨[(.c .one), (.c .one)], [(.c .one)], .pure, [.tmp 4],
(s [mK 4 (.it .i64 0)]
(s [mV 5 0, mV 6 1, o 7 (.ixb (t 5) (t 6)), mV 4 7]
.ret))⟩
def c80 : Ev.Fn := d80.den
def p80 : Pol := P0 .pure
theorem r80 : FnOK Try.prog mds 80 c80 := .read (pol := p80) (d := d80) Try.func80 (by kernel_rfl) (by kernel_rfl) rfl rfl (by kernel_rfl)

def c51 : Ev.Fn := fn51
theorem r51 : FnOK Try.prog mds 51 c51 := ⟨by kernel_rfl, .inr fun call L h => del_run call L⟩

def c52 : Ev.Fn := fn52
theorem r52 : FnOK Try.prog mds 52 c52 := ⟨by kernel_rfl, .inr fun call L h => ins_run call L⟩

def c67 : Ev.Fn := joinFn
theorem r67 : FnOK Try.prog mds 67 c67 := ⟨by kernel_rfl, .inr fun call L h => join_run call L⟩

def tab : List (Option Ev.Fn) := [none, none, none, some c3, none, none, none, some c7, none, some c9, some c10, some c11, some c12, some c13, some c14, some c15, some c16, some c17, none, some c19, some c20, some c21, some c22, some c23, some c24, some c25, some c26, some c27, some c28, some c29, some c30, some c31, some c32, some c33, some c34, some c35, some c36, some c37, some c38, some c39, some c40, some c41, some c42, some c43, some c44, some c45, some c46, some c47, some c48, some c49, some c50, some c51, some c52, some c53, some c54, some c55, some c56, some c57, some c58, some c59, some c60, none, none, some c63, some c64, some c65, some c66, some c67, some c68, none, some c70, some c71, some c72, none, none, none, none, some c77, none, none, some c80]
def F (n : Nat) : Option Ev.Fn := (tab[n]?).join

inductive Good : Nat → List (Option Ev.Fn) → Prop
  | nil (k : Nat) : Good k []
  | none {k : Nat} {l : List (Option Ev.Fn)} (h : Good (k + 1) l) : Good k (none :: l)
  | some {k : Nat} {c : Ev.Fn} {l : List (Option Ev.Fn)} (h : FnOK Try.prog mds k c) (t : Good (k + 1) l) : Good k (some c :: l)

theorem Good.get {k : Nat} {l : List (Option Ev.Fn)} (h : Good k l) : ∀ (n : Nat) (c : Ev.Fn), (l[n]?).join = Option.some c → FnOK Try.prog mds (k + n) c := by
  induction h with
  | nil k => intro n c h; simp at h
  | none h ih =>
    intro n c hc
    cases n with
    | zero => simp at hc
    | succ n => have := ih n c (by simpa using hc); rw [Nat.add_assoc, Nat.add_comm 1 n] at this; exact this
  | some h t ih =>
    intro n c hc
    cases n with
    | zero => simp at hc; subst hc; exact h
    | succ n => have := ih n c (by simpa using hc); rw [Nat.add_assoc, Nat.add_comm 1 n] at this; exact this

theorem good : Good 0 tab := by
  unfold tab
  refine .none ?_
  refine .none ?_
  refine .none ?_
  refine .some r3 ?_
  refine .none ?_
  refine .none ?_
  refine .none ?_
  refine .some r7 ?_
  refine .none ?_
  refine .some r9 ?_
  refine .some r10 ?_
  refine .some r11 ?_
  refine .some r12 ?_
  refine .some r13 ?_
  refine .some r14 ?_
  refine .some r15 ?_
  refine .some r16 ?_
  refine .some r17 ?_
  refine .none ?_
  refine .some r19 ?_
  refine .some r20 ?_
  refine .some r21 ?_
  refine .some r22 ?_
  refine .some r23 ?_
  refine .some r24 ?_
  refine .some r25 ?_
  refine .some r26 ?_
  refine .some r27 ?_
  refine .some r28 ?_
  refine .some r29 ?_
  refine .some r30 ?_
  refine .some r31 ?_
  refine .some r32 ?_
  refine .some r33 ?_
  refine .some r34 ?_
  refine .some r35 ?_
  refine .some r36 ?_
  refine .some r37 ?_
  refine .some r38 ?_
  refine .some r39 ?_
  refine .some r40 ?_
  refine .some r41 ?_
  refine .some r42 ?_
  refine .some r43 ?_
  refine .some r44 ?_
  refine .some r45 ?_
  refine .some r46 ?_
  refine .some r47 ?_
  refine .some r48 ?_
  refine .some r49 ?_
  refine .some r50 ?_
  refine .some r51 ?_
  refine .some r52 ?_
  refine .some r53 ?_
  refine .some r54 ?_
  refine .some r55 ?_
  refine .some r56 ?_
  refine .some r57 ?_
  refine .some r58 ?_
  refine .some r59 ?_
  refine .some r60 ?_
  refine .none ?_
  refine .none ?_
  refine .some r63 ?_
  refine .some r64 ?_
  refine .some r65 ?_
  refine .some r66 ?_
  refine .some r67 ?_
  refine .some r68 ?_
  refine .none ?_
  refine .some r70 ?_
  refine .some r71 ?_
  refine .some r72 ?_
  refine .none ?_
  refine .none ?_
  refine .none ?_
  refine .none ?_
  refine .some r77 ?_
  refine .none ?_
  refine .none ?_
  refine .some r80 ?_
  exact .nil _

theorem table : Table Try.prog F mds where
  mixed := by kernel_rfl
  fns := fun f fn h => by
    have := good.get f fn h
    rw [Nat.zero_add] at this
    exact this

end Go.Proofs.Ytddohjlkjakdlaa.tab
