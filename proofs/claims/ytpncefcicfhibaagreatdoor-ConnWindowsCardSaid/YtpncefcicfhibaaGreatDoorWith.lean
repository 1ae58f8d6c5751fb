import Derived.Test.YtpncefcicfhibaaGreatDoorEvE
import Derived.Test.YtpncefcicfhibaaGreatDoorTabx2
set_option linter.unusedVariables false
set_option linter.unusedSimpArgs false
set_option linter.unusedSectionVars false
set_option linter.unusedVariables false
set_option linter.unusedSimpArgs false
-- a number brought into bounds
namespace Go.Proofs.YtpncefcicfhibaaGreatDoor
open Go hiding Fn
open Ev tab
attribute [local irreducible] EvD EvL EvC evGds evLs C.run sK bK gK pK fK lpB stepD

set_option maxHeartbeats 8000000 in
theorem within_p (n lo hi : Int) (h0' : 0 ≤ lo) (h1 : lo ≤ hi) (h2 : hi ≤ 1000000000) : ∃ k, lo ≤ k ∧ k ≤ hi ∧ EvP F 25 c25 [.it .i64 n, .it .i64 lo, .it .i64 hi] [.it .i64 k] := by
  have e1 : wr .i64 (hi - lo) = hi - lo := wr64 (by omega) (by omega)
  have e2 : wr .i64 (hi - lo + 1) = hi - lo + 1 := wr64 (by omega) (by omega)
  have b1 := Int.tmod_lt_of_pos n (b := hi - lo + 1) (by omega)
  have b2 : -(hi - lo + 1) < n.tmod (hi - lo + 1) := by
    rcases Int.le_total 0 n with q | q
    · have := Int.tmod_nonneg (hi - lo + 1) q; omega
    · have := Int.tmod_lt_of_pos (-n) (b := hi - lo + 1) (by omega)
      rw [Int.neg_tmod] at this; omega
  by_cases hn : n.tmod (hi - lo + 1) < 0
  · refine ⟨lo + (n.tmod (hi - lo + 1) + hi - lo + 1), by omega, by omega, ?_⟩
    refine EvP.of d25 rfl rfl rfl (v := .it .i64 _) (h := Ev.h0) (h' := Ev.h0) ?_ (.s (clo_it _ _) (.nil _))
    refine X.fn ?_
    refine X.run ?_
    refine X.fin (fun _ => rfl) (congrArg (V.it .i64) ?_) rfl
    simp only [Int.ofNat_eq_natCast, Int.cast_ofNat_Int, e1, e2]
    simp (disch := omega) only [wr64]
    try omega
  · refine ⟨lo + n.tmod (hi - lo + 1), by omega, by omega, ?_⟩
    refine EvP.of d25 rfl rfl rfl (v := .it .i64 _) (h := Ev.h0) (h' := Ev.h0) ?_ (.s (clo_it _ _) (.nil _))
    refine X.fn ?_
    refine X.run ?_
    refine X.fin (fun _ => rfl) (congrArg (V.it .i64) ?_) rfl
    simp only [Int.ofNat_eq_natCast, Int.cast_ofNat_Int, e1, e2]
    simp (disch := omega) only [wr64]

end Go.Proofs.YtpncefcicfhibaaGreatDoor
