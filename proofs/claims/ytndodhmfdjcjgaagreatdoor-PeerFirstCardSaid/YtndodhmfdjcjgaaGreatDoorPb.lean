import Derived.Test.YtndodhmfdjcjgaaGreatDoorEvE
import Derived.Test.YtndodhmfdjcjgaaGreatDoorPa
import Derived.Test.YtndodhmfdjcjgaaGreatDoorShE
set_option linter.unusedSectionVars false
set_option linter.unusedVariables false
set_option linter.unusedSimpArgs false
-- what is said first (EvHp EvOwn)
namespace Go.Proofs.YtndodhmfdjcjgaaGreatDoor
open Go hiding Fn
open Ev tab
/-- a judge that has heard nothing -/
abbrev jrow0 (sv : Bool) (u : V) : List V := [.bo sv, .bo false, .ns, .ns, .it .i64 65535, .it .i64 65535, .it .i64 16384, .it .i64 0, .bo false, .bo false, .it .i64 0, .ns, u]
/-- bytes closed: their block is written no more; all else stays -/
theorem close_by2 {hp : Hp} {v : V} {l : List Int} (h : By hp v l) : ∃ hp', Ez hp hp' /\ (∀ j, idOf v ≠ some j -> hget hp' j = hget hp j) /\ ∀ n, l.length + 5 <= n -> closeC n (.sl [.one]) v hp = some (.vs 1 (bs l), hp') := by
 rcases h with ⟨rfl, rfl⟩ | rfl | ⟨id, i, fr, rows, rfl, q1, q2, q3, q4, q5⟩
 ·refine ⟨hp, .refl _, fun j _ => rfl, fun n hn => ?_⟩
  cases n with
  | zero => omega
  | succ n => rfl
 ·refine ⟨hp, .refl _, fun j _ => rfl, fun n hn => ?_⟩
  cases n with
  | zero => omega
  | succ n => exact clo_vs [.one] _ n hp
 ·refine ⟨_, .freeze q3 (by decide), fun j hj => hget_other (fun e => hj (by rw [e]; rfl)), fun n hn => ?_⟩
  have e : ((bs rows).drop i).take l.length = bs l := by rw [bs_drop, Ev.bs_take, q5]
  have := closeC_hs (ts := [.one]) (len := l.length) q3 q2 rfl (by rw [bs_length]; exact q4) (by rw [e]; exact bs_clo l) (n := n) (by simp; omega)
  rw [e] at this
  exact this
theorem close_fr {hp hp1 : Hp} {a b c : Int} {pv : V} {p : List Int} (h : ∀ n, p.length + 5 <= n -> closeC n (.sl [.one]) pv hp = some (.vs 1 (bs p), hp1)) : ∀ n, p.length + 10 <= n ->
  closeCs n [.one, .one, .one, .sl [.one]] [.it .i64 a, .it .i64 b, .it .i64 c, pv] hp = some (fr a b c p, hp1) := by
 intro n hn
 obtain ⟨m, rfl⟩ : ∃ m, n = m + 1 + 1 + 1 + 1 + 1 := ⟨n - 5, by omega⟩
 have i1 : ∀ (k : Nat) (x : Int) (hp : Hp), closeC (k + 1) .one (.it .i64 x) hp = some (.it .i64 x, hp) := fun _ _ _ => rfl
 simp only [closeCs, i1, h (m + 1) (by omega)]
 rfl
theorem ackE_eq (fl : Int) : (!ieq (wr .i64 (Int.ofNat ((toU (2 ^ kbits .i64) fl).land (toU (2 ^ kbits .i64) (Int.ofNat 1))))) (Int.ofNat 0)) = ackE fl := rfl
attribute [local irreducible] EvP EvD EvL EvC EvO evGds evLs C.run sK bK gK pK fK lpB stepD ackE numE setB
set_option maxHeartbeats 16000000 in
theorem frame_first {hp : Hp} {sv : Bool} {u pv : V} {p : List Int} {ty fl s : Int} (hJ : hget hp 0 = some ⟨13, false, [jrow0 sv u]⟩) (hpv : By hp pv p) (hlim : hp.lim = 0) (hl : p.length <= 16384) (hu : u.keep = true) :
  ∃ w hp', EvC F false 34 [.pt 0 0 0, .ag [.it .i64 ty, .it .i64 fl, .it .i64 s, pv]] hp (.ret w hp') /\ w = .bo (decide (ty = 4) && !ackE fl) := by
 have pl := hpv.len
 have pc := hpv.cells
 have pk := hpv.keep
 have pp := hpv.lp
 have zl : ilt (Int.ofNat 16384) (Int.ofNat p.length) = false := by rw [ilt_eq]; exact decide_eq_false (by simp only [Int.ofNat_eq_natCast]; omega)
 refine EvC.ofQ d34 rfl rfl rfl ?_
 by_cases h9 : 9 < ty
 ·have z9 : ilt (Int.ofNat 9) ty = true := by rw [ilt_eq]; exact decide_eq_true h9
  have e4 : decide (ty = 4) = false := decide_eq_false (by omega)
  rw [e4]
  repeat (first | refine EvQ.run ?_ | refine EvQ.fin X.rs ?_ | refine EvQ.fin1 (fun _ => rfl) rfl ?_)
  exact ⟨_, _, rfl, rfl⟩
 ·have z9 : ilt (Int.ofNat 9) ty = false := by rw [ilt_eq]; exact decide_eq_false h9
  by_cases h4 : ty = 4
  ·subst h4
   rw [show decide ((4 : Int) = 4) = true from rfl, Bool.true_and]
   repeat (first | refine EvQ.run ?_ | refine EvQ.fin X.rs ?_ | refine EvQ.fin1 (fun _ => rfl) rfl ?_)
   rw [ackE_eq]
   generalize ackE fl = ack
   cases ack with
   | true =>
    repeat (first | refine EvQ.run ?_ | refine EvQ.fin X.rs ?_ | refine EvQ.fin1 (fun _ => rfl) rfl ?_)
    exact ⟨_, _, rfl, rfl⟩
   | false =>
    repeat (first | refine EvQ.run ?_ | refine EvQ.fin X.rs ?_ | refine EvQ.fin1 (fun _ => rfl) rfl ?_)
    exact ⟨_, _, rfl, rfl⟩
  ·have z4 : ieq ty (Int.ofNat 4) = false := by rw [ieqD]; exact decide_eq_false h4
   rw [decide_eq_false h4]
   repeat (first | refine EvQ.run ?_ | refine EvQ.fin X.rs ?_ | refine EvQ.fin1 (fun _ => rfl) rfl ?_)
   exact ⟨_, _, rfl, rfl⟩
end Go.Proofs.YtndodhmfdjcjgaaGreatDoor
