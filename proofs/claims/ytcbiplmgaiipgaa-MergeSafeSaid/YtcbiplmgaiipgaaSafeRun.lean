import Derived.Test.YtcbiplmgaiipgaaTabSafe
import Derived.Test.YtcbiplmgaiipgaaEvDat
set_option linter.unusedVariables false
set_option linter.unusedSimpArgs false
namespace Go.Proofs.Ytcbiplmgaiipgaa
open Go hiding Fn
open Ev tabSafe
attribute [local irreducible] EvD EvL EvC evGds evLs C.run sK bK gK pK fK lpB stepD

theorem mruns_go : ∀ N M, run (callF F (N + 2000) (M + 60)) (N + 2000) (bodyD c13 [] h0) = Rt (.bo true) (hpOf (run (callF F 2000 60) 2000 (bodyD c13 [] h0))) := by
  intro N M; kernel_rfl
theorem mruns_ok : EvP F 13 c13 [] [.bo true] := .closed 2000 60 rfl rfl rfl rfl mruns_go

theorem within_ok (n lo hi : Int) (h0' : 0 ≤ lo) (h1 : lo ≤ hi) (h2 : hi ≤ 1000000000) : ∃ k, lo ≤ k ∧ k ≤ hi ∧ EvP F 26 c26 [.it .i64 n, .it .i64 lo, .it .i64 hi] [.it .i64 k] := by
  have e1 : wr .i64 (hi - lo) = hi - lo := wr64 (by omega) (by omega)
  have e2 : wr .i64 (hi - lo + 1) = hi - lo + 1 := wr64 (by omega) (by omega)
  have b1 := Int.tmod_lt_of_pos n (b := hi - lo + 1) (by omega)
  have b2 : -(hi - lo + 1) < n.tmod (hi - lo + 1) := by
    rcases Int.le_total 0 n with q | q
    · have := Int.tmod_nonneg (hi - lo + 1) q; omega
    · have := Int.tmod_lt_of_pos (-n) (b := hi - lo + 1) (by omega)
      rw [Int.neg_tmod] at this; omega
  by_cases hn : n.tmod (hi - lo + 1) < 0
  · refine ⟨lo + (n.tmod (hi - lo + 1) + hi - lo + 1), by omega, by omega, ?_⟩
    refine EvP.of d26 rfl rfl rfl (v := .it .i64 _) (h := Ev.h0) (h' := Ev.h0) ?_ (.s (clo_it _ _) (.nil _))
    refine X.fn ?_
    repeat (first
      | refine X.lpb ?_
      | refine X.seq ?_
      | refine X.skip ?_
      | refine X.ret ?_
      | refine X.exit ?_
      | refine X.blk ?_
      | refine X.sn ?_
      | refine X.se ?_
      | refine X.sr ?_
      | refine X.bn ?_
      | refine X.br ?_
      | refine X.bh ?_
      | refine X.bm rfl ?_
      | refine X.pn ?_
      | refine X.gn ?_
      | refine X.g0 ?_
      | refine X.ln ?_
      | refine X.finn ?_
      | refine X.reg0 (by conv => lhs; reduce) ?_
      | refine X.reg1 (by conv => lhs; reduce) ?_
      | refine X.gt rfl ?_
      | refine X.iav (by conv => lhs; whnf) (by conv => lhs; whnf) (by first | rfl | omega | (simp (disch := omega) only [sd, sb]; omega) | (simp (disch := omega) [sd] <;> fail) | (simp (disch := omega) [sd]; omega) | (simp [sd, *] <;> fail) | fail) (by first | exact bs_getD (by first | rfl | omega | (simp (disch := omega) only [sd, sb]; omega) | (simp (disch := omega) [sd] <;> fail) | (simp (disch := omega) [sd]; omega) | (simp [sd, *] <;> fail) | fail) | rfl) ?_
      | refine X.o0 (fun _ _ => rfl) ?_
      | refine X.o1 (fun _ _ => rfl) (by first | rfl | omega | (simp (disch := omega) only [sd, sb]; omega) | (simp (disch := omega) [sd] <;> fail) | (simp (disch := omega) [sd]; omega) | (simp [sd, *] <;> fail) | fail) ?_
      | refine X.o2 (fun _ _ => rfl) (by first | rfl | omega | (simp (disch := omega) only [sd, sb]; omega) | (simp (disch := omega) [sd] <;> fail) | (simp (disch := omega) [sd]; omega) | (simp [sd, *] <;> fail) | fail) (by first | rfl | omega | (simp (disch := omega) only [sd, sb]; omega) | (simp (disch := omega) [sd] <;> fail) | (simp (disch := omega) [sd]; omega) | (simp [sd, *] <;> fail) | fail) ?_
      | refine X.o3 (fun _ _ => rfl) (by first | rfl | omega | (simp (disch := omega) only [sd, sb]; omega) | (simp (disch := omega) [sd] <;> fail) | (simp (disch := omega) [sd]; omega) | (simp [sd, *] <;> fail) | fail) (by first | rfl | omega | (simp (disch := omega) only [sd, sb]; omega) | (simp (disch := omega) [sd] <;> fail) | (simp (disch := omega) [sd]; omega) | (simp [sd, *] <;> fail) | fail) (by first | rfl | omega | (simp (disch := omega) only [sd, sb]; omega) | (simp (disch := omega) [sd] <;> fail) | (simp (disch := omega) [sd]; omega) | (simp [sd, *] <;> fail) | fail) ?_
      | refine X.pickT rfl (fun _ => rfl) ?_
      | refine X.pickF rfl (fun _ => rfl) ?_
      | refine X.condT rfl ?_
      | refine X.condF rfl ?_
      | refine X.g1T rfl ?_
      | refine X.g1F rfl ?_
      | refine X.alc rfl ?_
      | refine X.box (by conv => lhs; whnf) rfl rfl ?_
      | refine X.stl (by conv => lhs; whnf) rfl rfl rfl rfl rfl rfl rfl ?_
      | refine X.apf (by conv => lhs; whnf) (by conv => lhs; whnf) (by first | exact Els.vs _ | exact Els.st _ | exact Els.ns) (by first | rfl | (simp only [hgs, if_true]; rfl)) rfl rfl (by first | rfl | omega | (simp (disch := omega) only [sd, sb]; omega) | (simp (disch := omega) [sd] <;> fail) | (simp (disch := omega) [sd]; omega) | (simp [sd, *] <;> fail) | fail) (by first | rfl | omega | (simp (disch := omega) only [sd, sb]; omega) | (simp (disch := omega) [sd] <;> fail) | (simp (disch := omega) [sd]; omega) | (simp [sd, *] <;> fail) | fail) (by conv => lhs; whnf) ?_
      | refine X.mks (by conv => lhs; whnf) (by conv => lhs; whnf) (by first | rfl | omega | (simp (disch := omega) only [sd, sb]; omega) | (simp (disch := omega) [sd] <;> fail) | (simp (disch := omega) [sd]; omega) | (simp [sd, *] <;> fail) | fail) (by first | rfl | omega | (simp (disch := omega) only [sd, sb]; omega) | (simp (disch := omega) [sd] <;> fail) | (simp (disch := omega) [sd]; omega) | (simp [sd, *] <;> fail) | fail) (by first | rfl | omega | (simp (disch := omega) only [sd, sb]; omega) | (simp (disch := omega) [sd] <;> fail) | (simp (disch := omega) [sd]; omega) | (simp [sd, *] <;> fail) | fail) (by decide) (by conv => lhs; whnf) (by conv => lhs; whnf) ?_
      | refine X.len (by conv => lhs; whnf) (by first | rfl | assumption) ?_
      | refine X.condTs rfl (by first | rfl | omega | (simp (disch := omega) only [sd, sb]; omega) | (simp (disch := omega) [sd] <;> fail) | (simp (disch := omega) [sd]; omega) | (simp [sd, *] <;> fail) | fail) ?_
      | refine X.condFs rfl (by first | rfl | omega | (simp (disch := omega) only [sd, sb]; omega) | (simp (disch := omega) [sd] <;> fail) | (simp (disch := omega) [sd]; omega) | (simp [sd, *] <;> fail) | fail) ?_
      | refine X.g1Ts rfl (by first | rfl | omega | (simp (disch := omega) only [sd, sb]; omega) | (simp (disch := omega) [sd] <;> fail) | (simp (disch := omega) [sd]; omega) | (simp [sd, *] <;> fail) | fail) ?_
      | refine X.g1Fs rfl (by first | rfl | omega | (simp (disch := omega) only [sd, sb]; omega) | (simp (disch := omega) [sd] <;> fail) | (simp (disch := omega) [sd]; omega) | (simp [sd, *] <;> fail) | fail) ?_
      | refine X.pickTs rfl (by first | rfl | omega | (simp (disch := omega) only [sd, sb]; omega) | (simp (disch := omega) [sd] <;> fail) | (simp (disch := omega) [sd]; omega) | (simp [sd, *] <;> fail) | fail) (fun _ => rfl) ?_
      | refine X.pickFs rfl (by first | rfl | omega | (simp (disch := omega) only [sd, sb]; omega) | (simp (disch := omega) [sd] <;> fail) | (simp (disch := omega) [sd]; omega) | (simp [sd, *] <;> fail) | fail) (fun _ => rfl) ?_
      | refine X.mov (by conv => lhs; whnf) (by first | rfl | assumption) ?_
      )
    refine X.fin (fun _ => rfl) (congrArg (V.it .i64) ?_) rfl
    simp only [Int.ofNat_eq_natCast, Int.cast_ofNat_Int, e1, e2]
    simp (disch := omega) only [wr64]
    try omega
  · refine ⟨lo + n.tmod (hi - lo + 1), by omega, by omega, ?_⟩
    refine EvP.of d26 rfl rfl rfl (v := .it .i64 _) (h := Ev.h0) (h' := Ev.h0) ?_ (.s (clo_it _ _) (.nil _))
    refine X.fn ?_
    repeat (first
      | refine X.lpb ?_
      | refine X.seq ?_
      | refine X.skip ?_
      | refine X.ret ?_
      | refine X.exit ?_
      | refine X.blk ?_
      | refine X.sn ?_
      | refine X.se ?_
      | refine X.sr ?_
      | refine X.bn ?_
      | refine X.br ?_
      | refine X.bh ?_
      | refine X.bm rfl ?_
      | refine X.pn ?_
      | refine X.gn ?_
      | refine X.g0 ?_
      | refine X.ln ?_
      | refine X.finn ?_
      | refine X.reg0 (by conv => lhs; reduce) ?_
      | refine X.reg1 (by conv => lhs; reduce) ?_
      | refine X.gt rfl ?_
      | refine X.iav (by conv => lhs; whnf) (by conv => lhs; whnf) (by first | rfl | omega | (simp (disch := omega) only [sd, sb]; omega) | (simp (disch := omega) [sd] <;> fail) | (simp (disch := omega) [sd]; omega) | (simp [sd, *] <;> fail) | fail) (by first | exact bs_getD (by first | rfl | omega | (simp (disch := omega) only [sd, sb]; omega) | (simp (disch := omega) [sd] <;> fail) | (simp (disch := omega) [sd]; omega) | (simp [sd, *] <;> fail) | fail) | rfl) ?_
      | refine X.o0 (fun _ _ => rfl) ?_
      | refine X.o1 (fun _ _ => rfl) (by first | rfl | omega | (simp (disch := omega) only [sd, sb]; omega) | (simp (disch := omega) [sd] <;> fail) | (simp (disch := omega) [sd]; omega) | (simp [sd, *] <;> fail) | fail) ?_
      | refine X.o2 (fun _ _ => rfl) (by first | rfl | omega | (simp (disch := omega) only [sd, sb]; omega) | (simp (disch := omega) [sd] <;> fail) | (simp (disch := omega) [sd]; omega) | (simp [sd, *] <;> fail) | fail) (by first | rfl | omega | (simp (disch := omega) only [sd, sb]; omega) | (simp (disch := omega) [sd] <;> fail) | (simp (disch := omega) [sd]; omega) | (simp [sd, *] <;> fail) | fail) ?_
      | refine X.o3 (fun _ _ => rfl) (by first | rfl | omega | (simp (disch := omega) only [sd, sb]; omega) | (simp (disch := omega) [sd] <;> fail) | (simp (disch := omega) [sd]; omega) | (simp [sd, *] <;> fail) | fail) (by first | rfl | omega | (simp (disch := omega) only [sd, sb]; omega) | (simp (disch := omega) [sd] <;> fail) | (simp (disch := omega) [sd]; omega) | (simp [sd, *] <;> fail) | fail) (by first | rfl | omega | (simp (disch := omega) only [sd, sb]; omega) | (simp (disch := omega) [sd] <;> fail) | (simp (disch := omega) [sd]; omega) | (simp [sd, *] <;> fail) | fail) ?_
      | refine X.pickT rfl (fun _ => rfl) ?_
      | refine X.pickF rfl (fun _ => rfl) ?_
      | refine X.condT rfl ?_
      | refine X.condF rfl ?_
      | refine X.g1T rfl ?_
      | refine X.g1F rfl ?_
      | refine X.alc rfl ?_
      | refine X.box (by conv => lhs; whnf) rfl rfl ?_
      | refine X.stl (by conv => lhs; whnf) rfl rfl rfl rfl rfl rfl rfl ?_
      | refine X.apf (by conv => lhs; whnf) (by conv => lhs; whnf) (by first | exact Els.vs _ | exact Els.st _ | exact Els.ns) (by first | rfl | (simp only [hgs, if_true]; rfl)) rfl rfl (by first | rfl | omega | (simp (disch := omega) only [sd, sb]; omega) | (simp (disch := omega) [sd] <;> fail) | (simp (disch := omega) [sd]; omega) | (simp [sd, *] <;> fail) | fail) (by first | rfl | omega | (simp (disch := omega) only [sd, sb]; omega) | (simp (disch := omega) [sd] <;> fail) | (simp (disch := omega) [sd]; omega) | (simp [sd, *] <;> fail) | fail) (by conv => lhs; whnf) ?_
      | refine X.mks (by conv => lhs; whnf) (by conv => lhs; whnf) (by first | rfl | omega | (simp (disch := omega) only [sd, sb]; omega) | (simp (disch := omega) [sd] <;> fail) | (simp (disch := omega) [sd]; omega) | (simp [sd, *] <;> fail) | fail) (by first | rfl | omega | (simp (disch := omega) only [sd, sb]; omega) | (simp (disch := omega) [sd] <;> fail) | (simp (disch := omega) [sd]; omega) | (simp [sd, *] <;> fail) | fail) (by first | rfl | omega | (simp (disch := omega) only [sd, sb]; omega) | (simp (disch := omega) [sd] <;> fail) | (simp (disch := omega) [sd]; omega) | (simp [sd, *] <;> fail) | fail) (by decide) (by conv => lhs; whnf) (by conv => lhs; whnf) ?_
      | refine X.len (by conv => lhs; whnf) (by first | rfl | assumption) ?_
      | refine X.condTs rfl (by first | rfl | omega | (simp (disch := omega) only [sd, sb]; omega) | (simp (disch := omega) [sd] <;> fail) | (simp (disch := omega) [sd]; omega) | (simp [sd, *] <;> fail) | fail) ?_
      | refine X.condFs rfl (by first | rfl | omega | (simp (disch := omega) only [sd, sb]; omega) | (simp (disch := omega) [sd] <;> fail) | (simp (disch := omega) [sd]; omega) | (simp [sd, *] <;> fail) | fail) ?_
      | refine X.g1Ts rfl (by first | rfl | omega | (simp (disch := omega) only [sd, sb]; omega) | (simp (disch := omega) [sd] <;> fail) | (simp (disch := omega) [sd]; omega) | (simp [sd, *] <;> fail) | fail) ?_
      | refine X.g1Fs rfl (by first | rfl | omega | (simp (disch := omega) only [sd, sb]; omega) | (simp (disch := omega) [sd] <;> fail) | (simp (disch := omega) [sd]; omega) | (simp [sd, *] <;> fail) | fail) ?_
      | refine X.pickTs rfl (by first | rfl | omega | (simp (disch := omega) only [sd, sb]; omega) | (simp (disch := omega) [sd] <;> fail) | (simp (disch := omega) [sd]; omega) | (simp [sd, *] <;> fail) | fail) (fun _ => rfl) ?_
      | refine X.pickFs rfl (by first | rfl | omega | (simp (disch := omega) only [sd, sb]; omega) | (simp (disch := omega) [sd] <;> fail) | (simp (disch := omega) [sd]; omega) | (simp [sd, *] <;> fail) | fail) (fun _ => rfl) ?_
      | refine X.mov (by conv => lhs; whnf) (by first | rfl | assumption) ?_
      )
    refine X.fin (fun _ => rfl) (congrArg (V.it .i64) ?_) rfl
    simp only [Int.ofNat_eq_natCast, Int.cast_ofNat_Int, e1, e2]
    simp (disch := omega) only [wr64]

def safeM (m : List Nat) : Bool := decide (m = [71, 69, 84]) || decide (m = [72, 69, 65, 68]) || decide (m = [79, 80, 84, 73, 79, 78, 83]) || decide (m = [84, 82, 65, 67, 69])

theorem clears_ok (m : List Nat) (k : Int) : EvP F 49 c49 [.ag [.st m, .st [], .st [], .st [], .vs 2 [], .it .i64 0], .ag [.it .i64 k, .vs 2 [], .it .i64 0]] [.bo (!safeM m && decide (200 ≤ k ∧ k < 400))] := by
  refine EvP.of d49 rfl rfl rfl (v := .bo _) (h := h0) (h' := h0) ?_ (.s (clo_bo _) (.nil _))
  by_cases h1 : m = [71, 69, 84]
  · subst h1
    refine X.fn ?_
    repeat (first
      | refine X.lpb ?_
      | refine X.seq ?_
      | refine X.skip ?_
      | refine X.ret ?_
      | refine X.exit ?_
      | refine X.blk ?_
      | refine X.sn ?_
      | refine X.se ?_
      | refine X.sr ?_
      | refine X.bn ?_
      | refine X.br ?_
      | refine X.bh ?_
      | refine X.bm rfl ?_
      | refine X.pn ?_
      | refine X.gn ?_
      | refine X.g0 ?_
      | refine X.ln ?_
      | refine X.finn ?_
      | refine X.reg0 (by conv => lhs; reduce) ?_
      | refine X.reg1 (by conv => lhs; reduce) ?_
      | refine X.gt rfl ?_
      | refine X.iav (by conv => lhs; whnf) (by conv => lhs; whnf) (by first | rfl | omega | (simp (disch := omega) only [sd, sb]; omega) | (simp (disch := omega) [sd] <;> fail) | (simp (disch := omega) [sd]; omega) | (simp [sd, *] <;> fail) | fail) (by first | exact bs_getD (by first | rfl | omega | (simp (disch := omega) only [sd, sb]; omega) | (simp (disch := omega) [sd] <;> fail) | (simp (disch := omega) [sd]; omega) | (simp [sd, *] <;> fail) | fail) | rfl) ?_
      | refine X.o0 (fun _ _ => rfl) ?_
      | refine X.o1 (fun _ _ => rfl) (by first | rfl | omega | (simp (disch := omega) only [sd, sb]; omega) | (simp (disch := omega) [sd] <;> fail) | (simp (disch := omega) [sd]; omega) | (simp [sd, *] <;> fail) | fail) ?_
      | refine X.o2 (fun _ _ => rfl) (by first | rfl | omega | (simp (disch := omega) only [sd, sb]; omega) | (simp (disch := omega) [sd] <;> fail) | (simp (disch := omega) [sd]; omega) | (simp [sd, *] <;> fail) | fail) (by first | rfl | omega | (simp (disch := omega) only [sd, sb]; omega) | (simp (disch := omega) [sd] <;> fail) | (simp (disch := omega) [sd]; omega) | (simp [sd, *] <;> fail) | fail) ?_
      | refine X.o3 (fun _ _ => rfl) (by first | rfl | omega | (simp (disch := omega) only [sd, sb]; omega) | (simp (disch := omega) [sd] <;> fail) | (simp (disch := omega) [sd]; omega) | (simp [sd, *] <;> fail) | fail) (by first | rfl | omega | (simp (disch := omega) only [sd, sb]; omega) | (simp (disch := omega) [sd] <;> fail) | (simp (disch := omega) [sd]; omega) | (simp [sd, *] <;> fail) | fail) (by first | rfl | omega | (simp (disch := omega) only [sd, sb]; omega) | (simp (disch := omega) [sd] <;> fail) | (simp (disch := omega) [sd]; omega) | (simp [sd, *] <;> fail) | fail) ?_
      | refine X.pickT rfl (fun _ => rfl) ?_
      | refine X.pickF rfl (fun _ => rfl) ?_
      | refine X.condT rfl ?_
      | refine X.condF rfl ?_
      | refine X.g1T rfl ?_
      | refine X.g1F rfl ?_
      | refine X.alc rfl ?_
      | refine X.box (by conv => lhs; whnf) rfl rfl ?_
      | refine X.stl (by conv => lhs; whnf) rfl rfl rfl rfl rfl rfl rfl ?_
      | refine X.apf (by conv => lhs; whnf) (by conv => lhs; whnf) (by first | exact Els.vs _ | exact Els.st _ | exact Els.ns) (by first | rfl | (simp only [hgs, if_true]; rfl)) rfl rfl (by first | rfl | omega | (simp (disch := omega) only [sd, sb]; omega) | (simp (disch := omega) [sd] <;> fail) | (simp (disch := omega) [sd]; omega) | (simp [sd, *] <;> fail) | fail) (by first | rfl | omega | (simp (disch := omega) only [sd, sb]; omega) | (simp (disch := omega) [sd] <;> fail) | (simp (disch := omega) [sd]; omega) | (simp [sd, *] <;> fail) | fail) (by conv => lhs; whnf) ?_
      | refine X.mks (by conv => lhs; whnf) (by conv => lhs; whnf) (by first | rfl | omega | (simp (disch := omega) only [sd, sb]; omega) | (simp (disch := omega) [sd] <;> fail) | (simp (disch := omega) [sd]; omega) | (simp [sd, *] <;> fail) | fail) (by first | rfl | omega | (simp (disch := omega) only [sd, sb]; omega) | (simp (disch := omega) [sd] <;> fail) | (simp (disch := omega) [sd]; omega) | (simp [sd, *] <;> fail) | fail) (by first | rfl | omega | (simp (disch := omega) only [sd, sb]; omega) | (simp (disch := omega) [sd] <;> fail) | (simp (disch := omega) [sd]; omega) | (simp [sd, *] <;> fail) | fail) (by decide) (by conv => lhs; whnf) (by conv => lhs; whnf) ?_
      | refine X.len (by conv => lhs; whnf) (by first | rfl | assumption) ?_
      | refine X.condTs rfl (by first | rfl | omega | (simp (disch := omega) only [sd, sb]; omega) | (simp (disch := omega) [sd] <;> fail) | (simp (disch := omega) [sd]; omega) | (simp [sd, *] <;> fail) | fail) ?_
      | refine X.condFs rfl (by first | rfl | omega | (simp (disch := omega) only [sd, sb]; omega) | (simp (disch := omega) [sd] <;> fail) | (simp (disch := omega) [sd]; omega) | (simp [sd, *] <;> fail) | fail) ?_
      | refine X.g1Ts rfl (by first | rfl | omega | (simp (disch := omega) only [sd, sb]; omega) | (simp (disch := omega) [sd] <;> fail) | (simp (disch := omega) [sd]; omega) | (simp [sd, *] <;> fail) | fail) ?_
      | refine X.g1Fs rfl (by first | rfl | omega | (simp (disch := omega) only [sd, sb]; omega) | (simp (disch := omega) [sd] <;> fail) | (simp (disch := omega) [sd]; omega) | (simp [sd, *] <;> fail) | fail) ?_
      | refine X.pickTs rfl (by first | rfl | omega | (simp (disch := omega) only [sd, sb]; omega) | (simp (disch := omega) [sd] <;> fail) | (simp (disch := omega) [sd]; omega) | (simp [sd, *] <;> fail) | fail) (fun _ => rfl) ?_
      | refine X.pickFs rfl (by first | rfl | omega | (simp (disch := omega) only [sd, sb]; omega) | (simp (disch := omega) [sd] <;> fail) | (simp (disch := omega) [sd]; omega) | (simp [sd, *] <;> fail) | fail) (fun _ => rfl) ?_
      | refine X.mov (by conv => lhs; whnf) (by first | rfl | assumption) ?_
      )
    exact X.fin (fun _ => rfl) rfl rfl
  by_cases h2 : m = [72, 69, 65, 68]
  · subst h2
    refine X.fn ?_
    repeat (first
      | refine X.lpb ?_
      | refine X.seq ?_
      | refine X.skip ?_
      | refine X.ret ?_
      | refine X.exit ?_
      | refine X.blk ?_
      | refine X.sn ?_
      | refine X.se ?_
      | refine X.sr ?_
      | refine X.bn ?_
      | refine X.br ?_
      | refine X.bh ?_
      | refine X.bm rfl ?_
      | refine X.pn ?_
      | refine X.gn ?_
      | refine X.g0 ?_
      | refine X.ln ?_
      | refine X.finn ?_
      | refine X.reg0 (by conv => lhs; reduce) ?_
      | refine X.reg1 (by conv => lhs; reduce) ?_
      | refine X.gt rfl ?_
      | refine X.iav (by conv => lhs; whnf) (by conv => lhs; whnf) (by first | rfl | omega | (simp (disch := omega) only [sd, sb]; omega) | (simp (disch := omega) [sd] <;> fail) | (simp (disch := omega) [sd]; omega) | (simp [sd, *] <;> fail) | fail) (by first | exact bs_getD (by first | rfl | omega | (simp (disch := omega) only [sd, sb]; omega) | (simp (disch := omega) [sd] <;> fail) | (simp (disch := omega) [sd]; omega) | (simp [sd, *] <;> fail) | fail) | rfl) ?_
      | refine X.o0 (fun _ _ => rfl) ?_
      | refine X.o1 (fun _ _ => rfl) (by first | rfl | omega | (simp (disch := omega) only [sd, sb]; omega) | (simp (disch := omega) [sd] <;> fail) | (simp (disch := omega) [sd]; omega) | (simp [sd, *] <;> fail) | fail) ?_
      | refine X.o2 (fun _ _ => rfl) (by first | rfl | omega | (simp (disch := omega) only [sd, sb]; omega) | (simp (disch := omega) [sd] <;> fail) | (simp (disch := omega) [sd]; omega) | (simp [sd, *] <;> fail) | fail) (by first | rfl | omega | (simp (disch := omega) only [sd, sb]; omega) | (simp (disch := omega) [sd] <;> fail) | (simp (disch := omega) [sd]; omega) | (simp [sd, *] <;> fail) | fail) ?_
      | refine X.o3 (fun _ _ => rfl) (by first | rfl | omega | (simp (disch := omega) only [sd, sb]; omega) | (simp (disch := omega) [sd] <;> fail) | (simp (disch := omega) [sd]; omega) | (simp [sd, *] <;> fail) | fail) (by first | rfl | omega | (simp (disch := omega) only [sd, sb]; omega) | (simp (disch := omega) [sd] <;> fail) | (simp (disch := omega) [sd]; omega) | (simp [sd, *] <;> fail) | fail) (by first | rfl | omega | (simp (disch := omega) only [sd, sb]; omega) | (simp (disch := omega) [sd] <;> fail) | (simp (disch := omega) [sd]; omega) | (simp [sd, *] <;> fail) | fail) ?_
      | refine X.pickT rfl (fun _ => rfl) ?_
      | refine X.pickF rfl (fun _ => rfl) ?_
      | refine X.condT rfl ?_
      | refine X.condF rfl ?_
      | refine X.g1T rfl ?_
      | refine X.g1F rfl ?_
      | refine X.alc rfl ?_
      | refine X.box (by conv => lhs; whnf) rfl rfl ?_
      | refine X.stl (by conv => lhs; whnf) rfl rfl rfl rfl rfl rfl rfl ?_
      | refine X.apf (by conv => lhs; whnf) (by conv => lhs; whnf) (by first | exact Els.vs _ | exact Els.st _ | exact Els.ns) (by first | rfl | (simp only [hgs, if_true]; rfl)) rfl rfl (by first | rfl | omega | (simp (disch := omega) only [sd, sb]; omega) | (simp (disch := omega) [sd] <;> fail) | (simp (disch := omega) [sd]; omega) | (simp [sd, *] <;> fail) | fail) (by first | rfl | omega | (simp (disch := omega) only [sd, sb]; omega) | (simp (disch := omega) [sd] <;> fail) | (simp (disch := omega) [sd]; omega) | (simp [sd, *] <;> fail) | fail) (by conv => lhs; whnf) ?_
      | refine X.mks (by conv => lhs; whnf) (by conv => lhs; whnf) (by first | rfl | omega | (simp (disch := omega) only [sd, sb]; omega) | (simp (disch := omega) [sd] <;> fail) | (simp (disch := omega) [sd]; omega) | (simp [sd, *] <;> fail) | fail) (by first | rfl | omega | (simp (disch := omega) only [sd, sb]; omega) | (simp (disch := omega) [sd] <;> fail) | (simp (disch := omega) [sd]; omega) | (simp [sd, *] <;> fail) | fail) (by first | rfl | omega | (simp (disch := omega) only [sd, sb]; omega) | (simp (disch := omega) [sd] <;> fail) | (simp (disch := omega) [sd]; omega) | (simp [sd, *] <;> fail) | fail) (by decide) (by conv => lhs; whnf) (by conv => lhs; whnf) ?_
      | refine X.len (by conv => lhs; whnf) (by first | rfl | assumption) ?_
      | refine X.condTs rfl (by first | rfl | omega | (simp (disch := omega) only [sd, sb]; omega) | (simp (disch := omega) [sd] <;> fail) | (simp (disch := omega) [sd]; omega) | (simp [sd, *] <;> fail) | fail) ?_
      | refine X.condFs rfl (by first | rfl | omega | (simp (disch := omega) only [sd, sb]; omega) | (simp (disch := omega) [sd] <;> fail) | (simp (disch := omega) [sd]; omega) | (simp [sd, *] <;> fail) | fail) ?_
      | refine X.g1Ts rfl (by first | rfl | omega | (simp (disch := omega) only [sd, sb]; omega) | (simp (disch := omega) [sd] <;> fail) | (simp (disch := omega) [sd]; omega) | (simp [sd, *] <;> fail) | fail) ?_
      | refine X.g1Fs rfl (by first | rfl | omega | (simp (disch := omega) only [sd, sb]; omega) | (simp (disch := omega) [sd] <;> fail) | (simp (disch := omega) [sd]; omega) | (simp [sd, *] <;> fail) | fail) ?_
      | refine X.pickTs rfl (by first | rfl | omega | (simp (disch := omega) only [sd, sb]; omega) | (simp (disch := omega) [sd] <;> fail) | (simp (disch := omega) [sd]; omega) | (simp [sd, *] <;> fail) | fail) (fun _ => rfl) ?_
      | refine X.pickFs rfl (by first | rfl | omega | (simp (disch := omega) only [sd, sb]; omega) | (simp (disch := omega) [sd] <;> fail) | (simp (disch := omega) [sd]; omega) | (simp [sd, *] <;> fail) | fail) (fun _ => rfl) ?_
      | refine X.mov (by conv => lhs; whnf) (by first | rfl | assumption) ?_
      )
    exact X.fin (fun _ => rfl) rfl rfl
  by_cases h3 : m = [79, 80, 84, 73, 79, 78, 83]
  · subst h3
    refine X.fn ?_
    repeat (first
      | refine X.lpb ?_
      | refine X.seq ?_
      | refine X.skip ?_
      | refine X.ret ?_
      | refine X.exit ?_
      | refine X.blk ?_
      | refine X.sn ?_
      | refine X.se ?_
      | refine X.sr ?_
      | refine X.bn ?_
      | refine X.br ?_
      | refine X.bh ?_
      | refine X.bm rfl ?_
      | refine X.pn ?_
      | refine X.gn ?_
      | refine X.g0 ?_
      | refine X.ln ?_
      | refine X.finn ?_
      | refine X.reg0 (by conv => lhs; reduce) ?_
      | refine X.reg1 (by conv => lhs; reduce) ?_
      | refine X.gt rfl ?_
      | refine X.iav (by conv => lhs; whnf) (by conv => lhs; whnf) (by first | rfl | omega | (simp (disch := omega) only [sd, sb]; omega) | (simp (disch := omega) [sd] <;> fail) | (simp (disch := omega) [sd]; omega) | (simp [sd, *] <;> fail) | fail) (by first | exact bs_getD (by first | rfl | omega | (simp (disch := omega) only [sd, sb]; omega) | (simp (disch := omega) [sd] <;> fail) | (simp (disch := omega) [sd]; omega) | (simp [sd, *] <;> fail) | fail) | rfl) ?_
      | refine X.o0 (fun _ _ => rfl) ?_
      | refine X.o1 (fun _ _ => rfl) (by first | rfl | omega | (simp (disch := omega) only [sd, sb]; omega) | (simp (disch := omega) [sd] <;> fail) | (simp (disch := omega) [sd]; omega) | (simp [sd, *] <;> fail) | fail) ?_
      | refine X.o2 (fun _ _ => rfl) (by first | rfl | omega | (simp (disch := omega) only [sd, sb]; omega) | (simp (disch := omega) [sd] <;> fail) | (simp (disch := omega) [sd]; omega) | (simp [sd, *] <;> fail) | fail) (by first | rfl | omega | (simp (disch := omega) only [sd, sb]; omega) | (simp (disch := omega) [sd] <;> fail) | (simp (disch := omega) [sd]; omega) | (simp [sd, *] <;> fail) | fail) ?_
      | refine X.o3 (fun _ _ => rfl) (by first | rfl | omega | (simp (disch := omega) only [sd, sb]; omega) | (simp (disch := omega) [sd] <;> fail) | (simp (disch := omega) [sd]; omega) | (simp [sd, *] <;> fail) | fail) (by first | rfl | omega | (simp (disch := omega) only [sd, sb]; omega) | (simp (disch := omega) [sd] <;> fail) | (simp (disch := omega) [sd]; omega) | (simp [sd, *] <;> fail) | fail) (by first | rfl | omega | (simp (disch := omega) only [sd, sb]; omega) | (simp (disch := omega) [sd] <;> fail) | (simp (disch := omega) [sd]; omega) | (simp [sd, *] <;> fail) | fail) ?_
      | refine X.pickT rfl (fun _ => rfl) ?_
      | refine X.pickF rfl (fun _ => rfl) ?_
      | refine X.condT rfl ?_
      | refine X.condF rfl ?_
      | refine X.g1T rfl ?_
      | refine X.g1F rfl ?_
      | refine X.alc rfl ?_
      | refine X.box (by conv => lhs; whnf) rfl rfl ?_
      | refine X.stl (by conv => lhs; whnf) rfl rfl rfl rfl rfl rfl rfl ?_
      | refine X.apf (by conv => lhs; whnf) (by conv => lhs; whnf) (by first | exact Els.vs _ | exact Els.st _ | exact Els.ns) (by first | rfl | (simp only [hgs, if_true]; rfl)) rfl rfl (by first | rfl | omega | (simp (disch := omega) only [sd, sb]; omega) | (simp (disch := omega) [sd] <;> fail) | (simp (disch := omega) [sd]; omega) | (simp [sd, *] <;> fail) | fail) (by first | rfl | omega | (simp (disch := omega) only [sd, sb]; omega) | (simp (disch := omega) [sd] <;> fail) | (simp (disch := omega) [sd]; omega) | (simp [sd, *] <;> fail) | fail) (by conv => lhs; whnf) ?_
      | refine X.mks (by conv => lhs; whnf) (by conv => lhs; whnf) (by first | rfl | omega | (simp (disch := omega) only [sd, sb]; omega) | (simp (disch := omega) [sd] <;> fail) | (simp (disch := omega) [sd]; omega) | (simp [sd, *] <;> fail) | fail) (by first | rfl | omega | (simp (disch := omega) only [sd, sb]; omega) | (simp (disch := omega) [sd] <;> fail) | (simp (disch := omega) [sd]; omega) | (simp [sd, *] <;> fail) | fail) (by first | rfl | omega | (simp (disch := omega) only [sd, sb]; omega) | (simp (disch := omega) [sd] <;> fail) | (simp (disch := omega) [sd]; omega) | (simp [sd, *] <;> fail) | fail) (by decide) (by conv => lhs; whnf) (by conv => lhs; whnf) ?_
      | refine X.len (by conv => lhs; whnf) (by first | rfl | assumption) ?_
      | refine X.condTs rfl (by first | rfl | omega | (simp (disch := omega) only [sd, sb]; omega) | (simp (disch := omega) [sd] <;> fail) | (simp (disch := omega) [sd]; omega) | (simp [sd, *] <;> fail) | fail) ?_
      | refine X.condFs rfl (by first | rfl | omega | (simp (disch := omega) only [sd, sb]; omega) | (simp (disch := omega) [sd] <;> fail) | (simp (disch := omega) [sd]; omega) | (simp [sd, *] <;> fail) | fail) ?_
      | refine X.g1Ts rfl (by first | rfl | omega | (simp (disch := omega) only [sd, sb]; omega) | (simp (disch := omega) [sd] <;> fail) | (simp (disch := omega) [sd]; omega) | (simp [sd, *] <;> fail) | fail) ?_
      | refine X.g1Fs rfl (by first | rfl | omega | (simp (disch := omega) only [sd, sb]; omega) | (simp (disch := omega) [sd] <;> fail) | (simp (disch := omega) [sd]; omega) | (simp [sd, *] <;> fail) | fail) ?_
      | refine X.pickTs rfl (by first | rfl | omega | (simp (disch := omega) only [sd, sb]; omega) | (simp (disch := omega) [sd] <;> fail) | (simp (disch := omega) [sd]; omega) | (simp [sd, *] <;> fail) | fail) (fun _ => rfl) ?_
      | refine X.pickFs rfl (by first | rfl | omega | (simp (disch := omega) only [sd, sb]; omega) | (simp (disch := omega) [sd] <;> fail) | (simp (disch := omega) [sd]; omega) | (simp [sd, *] <;> fail) | fail) (fun _ => rfl) ?_
      | refine X.mov (by conv => lhs; whnf) (by first | rfl | assumption) ?_
      )
    exact X.fin (fun _ => rfl) rfl rfl
  by_cases h4 : m = [84, 82, 65, 67, 69]
  · subst h4
    refine X.fn ?_
    repeat (first
      | refine X.lpb ?_
      | refine X.seq ?_
      | refine X.skip ?_
      | refine X.ret ?_
      | refine X.exit ?_
      | refine X.blk ?_
      | refine X.sn ?_
      | refine X.se ?_
      | refine X.sr ?_
      | refine X.bn ?_
      | refine X.br ?_
      | refine X.bh ?_
      | refine X.bm rfl ?_
      | refine X.pn ?_
      | refine X.gn ?_
      | refine X.g0 ?_
      | refine X.ln ?_
      | refine X.finn ?_
      | refine X.reg0 (by conv => lhs; reduce) ?_
      | refine X.reg1 (by conv => lhs; reduce) ?_
      | refine X.gt rfl ?_
      | refine X.iav (by conv => lhs; whnf) (by conv => lhs; whnf) (by first | rfl | omega | (simp (disch := omega) only [sd, sb]; omega) | (simp (disch := omega) [sd] <;> fail) | (simp (disch := omega) [sd]; omega) | (simp [sd, *] <;> fail) | fail) (by first | exact bs_getD (by first | rfl | omega | (simp (disch := omega) only [sd, sb]; omega) | (simp (disch := omega) [sd] <;> fail) | (simp (disch := omega) [sd]; omega) | (simp [sd, *] <;> fail) | fail) | rfl) ?_
      | refine X.o0 (fun _ _ => rfl) ?_
      | refine X.o1 (fun _ _ => rfl) (by first | rfl | omega | (simp (disch := omega) only [sd, sb]; omega) | (simp (disch := omega) [sd] <;> fail) | (simp (disch := omega) [sd]; omega) | (simp [sd, *] <;> fail) | fail) ?_
      | refine X.o2 (fun _ _ => rfl) (by first | rfl | omega | (simp (disch := omega) only [sd, sb]; omega) | (simp (disch := omega) [sd] <;> fail) | (simp (disch := omega) [sd]; omega) | (simp [sd, *] <;> fail) | fail) (by first | rfl | omega | (simp (disch := omega) only [sd, sb]; omega) | (simp (disch := omega) [sd] <;> fail) | (simp (disch := omega) [sd]; omega) | (simp [sd, *] <;> fail) | fail) ?_
      | refine X.o3 (fun _ _ => rfl) (by first | rfl | omega | (simp (disch := omega) only [sd, sb]; omega) | (simp (disch := omega) [sd] <;> fail) | (simp (disch := omega) [sd]; omega) | (simp [sd, *] <;> fail) | fail) (by first | rfl | omega | (simp (disch := omega) only [sd, sb]; omega) | (simp (disch := omega) [sd] <;> fail) | (simp (disch := omega) [sd]; omega) | (simp [sd, *] <;> fail) | fail) (by first | rfl | omega | (simp (disch := omega) only [sd, sb]; omega) | (simp (disch := omega) [sd] <;> fail) | (simp (disch := omega) [sd]; omega) | (simp [sd, *] <;> fail) | fail) ?_
      | refine X.pickT rfl (fun _ => rfl) ?_
      | refine X.pickF rfl (fun _ => rfl) ?_
      | refine X.condT rfl ?_
      | refine X.condF rfl ?_
      | refine X.g1T rfl ?_
      | refine X.g1F rfl ?_
      | refine X.alc rfl ?_
      | refine X.box (by conv => lhs; whnf) rfl rfl ?_
      | refine X.stl (by conv => lhs; whnf) rfl rfl rfl rfl rfl rfl rfl ?_
      | refine X.apf (by conv => lhs; whnf) (by conv => lhs; whnf) (by first | exact Els.vs _ | exact Els.st _ | exact Els.ns) (by first | rfl | (simp only [hgs, if_true]; rfl)) rfl rfl (by first | rfl | omega | (simp (disch := omega) only [sd, sb]; omega) | (simp (disch := omega) [sd] <;> fail) | (simp (disch := omega) [sd]; omega) | (simp [sd, *] <;> fail) | fail) (by first | rfl | omega | (simp (disch := omega) only [sd, sb]; omega) | (simp (disch := omega) [sd] <;> fail) | (simp (disch := omega) [sd]; omega) | (simp [sd, *] <;> fail) | fail) (by conv => lhs; whnf) ?_
      | refine X.mks (by conv => lhs; whnf) (by conv => lhs; whnf) (by first | rfl | omega | (simp (disch := omega) only [sd, sb]; omega) | (simp (disch := omega) [sd] <;> fail) | (simp (disch := omega) [sd]; omega) | (simp [sd, *] <;> fail) | fail) (by first | rfl | omega | (simp (disch := omega) only [sd, sb]; omega) | (simp (disch := omega) [sd] <;> fail) | (simp (disch := omega) [sd]; omega) | (simp [sd, *] <;> fail) | fail) (by first | rfl | omega | (simp (disch := omega) only [sd, sb]; omega) | (simp (disch := omega) [sd] <;> fail) | (simp (disch := omega) [sd]; omega) | (simp [sd, *] <;> fail) | fail) (by decide) (by conv => lhs; whnf) (by conv => lhs; whnf) ?_
      | refine X.len (by conv => lhs; whnf) (by first | rfl | assumption) ?_
      | refine X.condTs rfl (by first | rfl | omega | (simp (disch := omega) only [sd, sb]; omega) | (simp (disch := omega) [sd] <;> fail) | (simp (disch := omega) [sd]; omega) | (simp [sd, *] <;> fail) | fail) ?_
      | refine X.condFs rfl (by first | rfl | omega | (simp (disch := omega) only [sd, sb]; omega) | (simp (disch := omega) [sd] <;> fail) | (simp (disch := omega) [sd]; omega) | (simp [sd, *] <;> fail) | fail) ?_
      | refine X.g1Ts rfl (by first | rfl | omega | (simp (disch := omega) only [sd, sb]; omega) | (simp (disch := omega) [sd] <;> fail) | (simp (disch := omega) [sd]; omega) | (simp [sd, *] <;> fail) | fail) ?_
      | refine X.g1Fs rfl (by first | rfl | omega | (simp (disch := omega) only [sd, sb]; omega) | (simp (disch := omega) [sd] <;> fail) | (simp (disch := omega) [sd]; omega) | (simp [sd, *] <;> fail) | fail) ?_
      | refine X.pickTs rfl (by first | rfl | omega | (simp (disch := omega) only [sd, sb]; omega) | (simp (disch := omega) [sd] <;> fail) | (simp (disch := omega) [sd]; omega) | (simp [sd, *] <;> fail) | fail) (fun _ => rfl) ?_
      | refine X.pickFs rfl (by first | rfl | omega | (simp (disch := omega) only [sd, sb]; omega) | (simp (disch := omega) [sd] <;> fail) | (simp (disch := omega) [sd]; omega) | (simp [sd, *] <;> fail) | fail) (fun _ => rfl) ?_
      | refine X.mov (by conv => lhs; whnf) (by first | rfl | assumption) ?_
      )
    exact X.fin (fun _ => rfl) rfl rfl
  have e : safeM m = false := by simp [safeM, h1, h2, h3, h4]
  rw [e]
  refine X.fn ?_
  repeat' (first
    | refine X.lpb ?_
    | refine X.seq ?_
    | refine X.skip ?_
    | refine X.ret ?_
    | refine X.exit ?_
    | refine X.blk ?_
    | refine X.sn ?_
    | refine X.se ?_
    | refine X.sr ?_
    | refine X.bn ?_
    | refine X.br ?_
    | refine X.bh ?_
    | refine X.bm rfl ?_
    | refine X.pn ?_
    | refine X.gn ?_
    | refine X.g0 ?_
    | refine X.ln ?_
    | refine X.finn ?_
    | refine X.reg0 (by conv => lhs; reduce) ?_
    | refine X.reg1 (by conv => lhs; reduce) ?_
    | refine X.gt rfl ?_
    | refine X.iav (by conv => lhs; whnf) (by conv => lhs; whnf) (by first | rfl | omega | (simp (disch := omega) only [sd, sb]; omega) | (simp (disch := omega) [sd] <;> fail) | (simp (disch := omega) [sd]; omega) | (simp [sd, *] <;> fail) | fail) (by first | exact bs_getD (by first | rfl | omega | (simp (disch := omega) only [sd, sb]; omega) | (simp (disch := omega) [sd] <;> fail) | (simp (disch := omega) [sd]; omega) | (simp [sd, *] <;> fail) | fail) | rfl) ?_
    | refine X.o0 (fun _ _ => rfl) ?_
    | refine X.o1 (fun _ _ => rfl) (by first | rfl | omega | (simp (disch := omega) only [sd, sb]; omega) | (simp (disch := omega) [sd] <;> fail) | (simp (disch := omega) [sd]; omega) | (simp [sd, *] <;> fail) | fail) ?_
    | refine X.o2 (fun _ _ => rfl) (by first | rfl | omega | (simp (disch := omega) only [sd, sb]; omega) | (simp (disch := omega) [sd] <;> fail) | (simp (disch := omega) [sd]; omega) | (simp [sd, *] <;> fail) | fail) (by first | rfl | omega | (simp (disch := omega) only [sd, sb]; omega) | (simp (disch := omega) [sd] <;> fail) | (simp (disch := omega) [sd]; omega) | (simp [sd, *] <;> fail) | fail) ?_
    | refine X.o3 (fun _ _ => rfl) (by first | rfl | omega | (simp (disch := omega) only [sd, sb]; omega) | (simp (disch := omega) [sd] <;> fail) | (simp (disch := omega) [sd]; omega) | (simp [sd, *] <;> fail) | fail) (by first | rfl | omega | (simp (disch := omega) only [sd, sb]; omega) | (simp (disch := omega) [sd] <;> fail) | (simp (disch := omega) [sd]; omega) | (simp [sd, *] <;> fail) | fail) (by first | rfl | omega | (simp (disch := omega) only [sd, sb]; omega) | (simp (disch := omega) [sd] <;> fail) | (simp (disch := omega) [sd]; omega) | (simp [sd, *] <;> fail) | fail) ?_
    | refine X.pickT rfl (fun _ => rfl) ?_
    | refine X.pickF rfl (fun _ => rfl) ?_
    | refine X.condT rfl ?_
    | refine X.condF rfl ?_
    | refine X.g1T rfl ?_
    | refine X.g1F rfl ?_
    | refine X.alc rfl ?_
    | refine X.box (by conv => lhs; whnf) rfl rfl ?_
    | refine X.stl (by conv => lhs; whnf) rfl rfl rfl rfl rfl rfl rfl ?_
    | refine X.apf (by conv => lhs; whnf) (by conv => lhs; whnf) (by first | exact Els.vs _ | exact Els.st _ | exact Els.ns) (by first | rfl | (simp only [hgs, if_true]; rfl)) rfl rfl (by first | rfl | omega | (simp (disch := omega) only [sd, sb]; omega) | (simp (disch := omega) [sd] <;> fail) | (simp (disch := omega) [sd]; omega) | (simp [sd, *] <;> fail) | fail) (by first | rfl | omega | (simp (disch := omega) only [sd, sb]; omega) | (simp (disch := omega) [sd] <;> fail) | (simp (disch := omega) [sd]; omega) | (simp [sd, *] <;> fail) | fail) (by conv => lhs; whnf) ?_
    | refine X.mks (by conv => lhs; whnf) (by conv => lhs; whnf) (by first | rfl | omega | (simp (disch := omega) only [sd, sb]; omega) | (simp (disch := omega) [sd] <;> fail) | (simp (disch := omega) [sd]; omega) | (simp [sd, *] <;> fail) | fail) (by first | rfl | omega | (simp (disch := omega) only [sd, sb]; omega) | (simp (disch := omega) [sd] <;> fail) | (simp (disch := omega) [sd]; omega) | (simp [sd, *] <;> fail) | fail) (by first | rfl | omega | (simp (disch := omega) only [sd, sb]; omega) | (simp (disch := omega) [sd] <;> fail) | (simp (disch := omega) [sd]; omega) | (simp [sd, *] <;> fail) | fail) (by decide) (by conv => lhs; whnf) (by conv => lhs; whnf) ?_
    | refine X.len (by conv => lhs; whnf) (by first | rfl | assumption) ?_
    | refine X.condTs rfl (by first | rfl | omega | (simp (disch := omega) only [sd, sb]; omega) | (simp (disch := omega) [sd] <;> fail) | (simp (disch := omega) [sd]; omega) | (simp [sd, *] <;> fail) | fail) ?_
    | refine X.condFs rfl (by first | rfl | omega | (simp (disch := omega) only [sd, sb]; omega) | (simp (disch := omega) [sd] <;> fail) | (simp (disch := omega) [sd]; omega) | (simp [sd, *] <;> fail) | fail) ?_
    | refine X.g1Ts rfl (by first | rfl | omega | (simp (disch := omega) only [sd, sb]; omega) | (simp (disch := omega) [sd] <;> fail) | (simp (disch := omega) [sd]; omega) | (simp [sd, *] <;> fail) | fail) ?_
    | refine X.g1Fs rfl (by first | rfl | omega | (simp (disch := omega) only [sd, sb]; omega) | (simp (disch := omega) [sd] <;> fail) | (simp (disch := omega) [sd]; omega) | (simp [sd, *] <;> fail) | fail) ?_
    | refine X.pickTs rfl (by first | rfl | omega | (simp (disch := omega) only [sd, sb]; omega) | (simp (disch := omega) [sd] <;> fail) | (simp (disch := omega) [sd]; omega) | (simp [sd, *] <;> fail) | fail) (fun _ => rfl) ?_
    | refine X.pickFs rfl (by first | rfl | omega | (simp (disch := omega) only [sd, sb]; omega) | (simp (disch := omega) [sd] <;> fail) | (simp (disch := omega) [sd]; omega) | (simp [sd, *] <;> fail) | fail) (fun _ => rfl) ?_
    | refine X.mov (by conv => lhs; whnf) (by first | rfl | assumption) ?_
    | refine X.cond rfl (fun h => ?_) (fun h => ?_)
    | refine X.g1 rfl (fun h => ?_) (fun h => ?_)
    | refine X.pick rfl (fun h => ⟨_, fun _ => rfl, ?_⟩) (fun h => ⟨_, fun _ => rfl, ?_⟩)
    )
  all_goals
    refine X.fin (fun _ => rfl) (congrArg V.bo ?_) rfl
    rw [Bool.eq_iff_iff]
    simp [ilt_eq] at *
    try omega
end Go.Proofs.Ytcbiplmgaiipgaa
