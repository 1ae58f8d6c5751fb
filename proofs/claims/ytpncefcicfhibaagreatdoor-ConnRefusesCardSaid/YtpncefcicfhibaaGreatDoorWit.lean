import Derived.Test.YtpncefcicfhibaaGreatDoorTabx2
import Derived.Test.YtpncefcicfhibaaGreatDoorEvD
set_option linter.unusedVariables false
-- a number brought into bounds
namespace Go.Proofs.YtpncefcicfhibaaGreatDoor
open Go hiding Fn
open Ev tab
theorem within_body (n lo hi : Int) : bodyD c25 [.it .i64 n, .it .i64 lo, .it .i64 hi] h0 =
    .chk (!(ieq (wr .i64 (wr .i64 (hi - lo) + 1)) 0)) (.br (ilt (n.tmod (wr .i64 (wr .i64 (hi - lo) + 1))) 0)
      (.done (.ret ⟨fun _ => .it .i64 (wr .i64 (lo + wr .i64 (wr .i64 (wr .i64 (n.tmod (wr .i64 (wr .i64 (hi - lo) + 1)) + hi) - lo) + 1))), fun _ => none, h0⟩))
      (.done (.ret ⟨fun _ => .it .i64 (wr .i64 (lo + n.tmod (wr .i64 (wr .i64 (hi - lo) + 1)))), fun _ => none, h0⟩))) := by kernel_rfl
theorem within_u (n lo hi : Int) (h0' : 0 ≤ lo) (h1 : lo ≤ hi) (h2 : hi ≤ 1000000000) : ∃ k, lo ≤ k ∧ k ≤ hi ∧ EvU F 25 [.it .i64 n, .it .i64 lo, .it .i64 hi] (.it .i64 k) := by
  have e1 : wr .i64 (hi - lo) = hi - lo := wr64 (by omega) (by omega)
  have e2 : wr .i64 (hi - lo + 1) = hi - lo + 1 := wr64 (by omega) (by omega)
  have b1 := Int.tmod_lt_of_pos n (b := hi - lo + 1) (by omega)
  have b2 : -(hi - lo + 1) < n.tmod (hi - lo + 1) := by
    rcases Int.le_total 0 n with q | q
    · have := Int.tmod_nonneg (hi - lo + 1) q; omega
    · have := Int.tmod_lt_of_pos (-n) (b := hi - lo + 1) (by omega)
      rw [Int.neg_tmod] at this; omega
  have hb := within_body n lo hi
  rw [e1, e2] at hb
  have hz : ieq (hi - lo + 1) 0 = false := by
    cases q : ieq (hi - lo + 1) 0 with
    | false => rfl
    | true => rw [ieq_eq] at q; simp at q; omega
  have all : ∀ k, (∀ call L, crOf (run call L (bodyD c25 [.it .i64 n, .it .i64 lo, .it .i64 hi] h0)) = .ret (.it .i64 k) h0) → EvU F 25 [.it .i64 n, .it .i64 lo, .it .i64 hi] (.it .i64 k) := by
    intro k hk
    refine ⟨1, fun L m own hp _ hm => ?_⟩
    obtain ⟨m, rfl⟩ : ∃ m', m = m' + 1 := ⟨m - 1, by omega⟩
    have hF : F 25 = some c25 := rfl
    have hm' : c25.md = .pure := rfl
    have hc : closeAll c25.ps [.it .i64 n, .it .i64 lo, .it .i64 hi] hp = some ([.it .i64 n, .it .i64 lo, .it .i64 hi], hp) := rfl
    have hl : Nat.beq [V.it .i64 n, V.it .i64 lo, V.it .i64 hi].length c25.ps.length = true := rfl
    simp only [callF, hF, hm', runP, hc, runF, hl, cond_true, hk]
    cases own <;> rfl
  cases hq : ilt (n.tmod (hi - lo + 1)) 0 with
  | true =>
    have hn : n.tmod (hi - lo + 1) < 0 := by rw [ilt_eq] at hq; simpa using hq
    refine ⟨lo + (n.tmod (hi - lo + 1) + hi - lo + 1), by omega, by omega, all _ fun call L => ?_⟩
    rw [hb, hz, hq]
    simp only [Bool.not_false, run, cond_true, crOf]
    congr 2
    rw [wr64 (n := n.tmod (hi - lo + 1) + hi) (by omega) (by omega), wr64 (n := n.tmod (hi - lo + 1) + hi - lo) (by omega) (by omega), wr64 (n := n.tmod (hi - lo + 1) + hi - lo + 1) (by omega) (by omega), wr64 (by omega) (by omega)]
  | false =>
    have hn : ¬ n.tmod (hi - lo + 1) < 0 := by rw [ilt_eq] at hq; simpa using hq
    refine ⟨lo + n.tmod (hi - lo + 1), by omega, by omega, all _ fun call L => ?_⟩
    rw [hb, hz, hq]
    simp only [Bool.not_false, run, cond_true, cond_false, crOf]
    congr 2
    rw [wr64 (by omega) (by omega)]
end Go.Proofs.YtpncefcicfhibaaGreatDoor
