import Derived.Test.YtpncefcicfhibaaGreatDoorEvE
import Derived.Test.YtpncefcicfhibaaGreatDoorPin2
set_option linter.unusedVariables false
set_option linter.unusedSimpArgs false
set_option linter.unusedSectionVars false
set_option linter.unusedVariables false
set_option linter.unusedSimpArgs false
-- a PING, heard (EvHp EvOwn)
namespace Go.Proofs.YtpncefcicfhibaaGreatDoor
open Go hiding Fn
open Ev tab
attribute [local irreducible] EvP EvD EvL EvC evGds evLs C.run sK bK gK pK fK lpB stepD
/-- bytes closed: their block is written no more; all else stays -/
theorem close_by2 {hp : Hp} {v : V} {l : List Int} (h : By hp v l) : ∃ hp', Ez hp hp' ∧ (∀ j, idOf v ≠ some j → hget hp' j = hget hp j) ∧ ∀ n, l.length + 5 ≤ n → closeC n (.sl [.one]) v hp = some (.vs 1 (bs l), hp') := by
  rcases h with ⟨rfl, rfl⟩ | rfl | ⟨id, i, fr, rows, rfl, q1, q2, q3, q4, q5⟩
  · refine ⟨hp, .refl _, fun j _ => rfl, fun n hn => ?_⟩
    cases n with
    | zero => omega
    | succ n => rfl
  · refine ⟨hp, .refl _, fun j _ => rfl, fun n hn => ?_⟩
    cases n with
    | zero => omega
    | succ n => exact clo_vs [.one] _ n hp
  · refine ⟨_, .freeze q3 (by decide), fun j hj => hget_other (fun e => hj (by rw [e]; rfl)), fun n hn => ?_⟩
    have e : ((bs rows).drop i).take l.length = bs l := by rw [bs_drop, bs_take, q5]
    have := closeC_hs (ts := [.one]) (len := l.length) q3 q2 rfl (by rw [bs_length]; exact q4) (by rw [e]; exact bs_clo l) (n := n) (by simp; omega)
    rw [e] at this
    exact this
theorem close_fr {hp hp1 : Hp} {a b c : Int} {pv : V} {p : List Int} (h : ∀ n, p.length + 5 ≤ n → closeC n (.sl [.one]) pv hp = some (.vs 1 (bs p), hp1)) : ∀ n, p.length + 10 ≤ n →
    closeCs n [.one, .one, .one, .sl [.one]] [.it .i64 a, .it .i64 b, .it .i64 c, pv] hp = some (fr a b c p, hp1) := by
  intro n hn
  obtain ⟨m, rfl⟩ : ∃ m, n = m + 1 + 1 + 1 + 1 + 1 := ⟨n - 5, by omega⟩
  have i1 : ∀ (k : Nat) (x : Int) (hp : Hp), closeC (k + 1) .one (.it .i64 x) hp = some (.it .i64 x, hp) := fun _ _ _ => rfl
  simp only [closeCs, i1, h (m + 1) (by omega)]
  rfl
/-- what stays beside the connection and its queue -/
structure Kq (qv : V) (hp hp' : Hp) : Prop where
  next : hp.next ≤ hp'.next
  lim : hp'.lim = hp.lim
  nil : Nil hp → Nil hp'
  get : ∀ j x, 1 ≤ j → idOf qv ≠ some j → hget hp j = some x → hget hp' j = some x
theorem ow_set {hp : Hp} {v : V} {sz j : Nat} {rows : List (List V)} {b : Option Bk} (h : Ow hp v sz rows) (hj : ∀ id, idOf v = some id → id ≠ j) : Ow (hset hp j b) v sz rows :=
  h.get (Nat.le_refl _) rfl fun id e => hget_other (hj id e)
end Go.Proofs.YtpncefcicfhibaaGreatDoor
