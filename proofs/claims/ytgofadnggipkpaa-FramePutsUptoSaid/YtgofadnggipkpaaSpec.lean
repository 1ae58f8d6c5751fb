import Derived.Test.YtgofadnggipkpaaTab
import Derived.Test.YtgofadnggipkpaaEvStep
set_option linter.unusedVariables false
set_option linter.unusedSimpArgs false
namespace Go.Proofs.Ytgofadnggipkpaa
open Go hiding Fn
open Ev tab
attribute [local irreducible] EvD EvL EvC evGds evLs C.run sK bK gK pK fK lpB stepD

def rightB (ty fl s : Int) (n : Nat) : Bool := decide (0 ≤ ty ∧ ty ≤ 255 ∧ 0 ≤ fl ∧ fl ≤ 255 ∧ 0 ≤ s ∧ s ≤ 2147483647 ∧ n ≤ 16777215)
def fr (ty fl s : Int) (p : List Int) : List V := [.it .i64 ty, .it .i64 fl, .it .i64 s, .vs 1 (bs p)]

theorem fr_clo (ty fl s : Int) (p : List Int) : CloL [.one, .one, .one, .sl [.one]] (fr ty fl s p) :=
  .cons (clo_it _ _) (.cons (clo_it _ _) (.cons (clo_it _ _) (.cons (clo_vs [.one] _) .nil)))

theorem right_ok (ty fl s : Int) (p : List Int) : EvP F 19 c19 [.ag (fr ty fl s p)] [.bo (rightB ty fl s p.length)] := by
  refine EvP.of d19 rfl rfl rfl (v := .bo _) (h := h0) (h' := h0) ?_ (.s (clo_bo _) (.nil _))
  refine X.fn ?_
  repeat' (first
    | refine X.lpb ?_
    | refine X.seq ?_
    | refine X.skip ?_
    | refine X.ret ?_
    | refine X.exit ?_
    | refine X.blk ?_
    | refine X.sn ?_
    | refine X.se ?_
    | refine X.sr ?_
    | refine X.bn ?_
    | refine X.br ?_
    | refine X.bh ?_
    | refine X.bm rfl ?_
    | refine X.pn ?_
    | refine X.gn ?_
    | refine X.g0 ?_
    | refine X.ln ?_
    | refine X.finn ?_
    | refine X.reg0 (by conv => lhs; reduce) ?_
    | refine X.reg1 (by conv => lhs; reduce) ?_
    | refine X.gt rfl ?_
    | refine X.iav (by conv => lhs; whnf) (by conv => lhs; whnf) (by first | rfl | omega | exact Nat.le_of_ble_eq_true rfl | (simp (disch := omega) only [sd, sb]; omega) | (simp (disch := omega) [sd] <;> fail) | (simp (disch := omega) [sd]; omega) | (simp [sd, *] <;> fail) | fail) (by first | exact bs_getD (by first | rfl | omega | exact Nat.le_of_ble_eq_true rfl | (simp (disch := omega) only [sd, sb]; omega) | (simp (disch := omega) [sd] <;> fail) | (simp (disch := omega) [sd]; omega) | (simp [sd, *] <;> fail) | fail) | rfl) ?_
    | refine X.o0 (fun _ _ => rfl) ?_
    | refine X.o1 (fun _ _ => rfl) (by first | rfl | omega | exact Nat.le_of_ble_eq_true rfl | (simp (disch := omega) only [sd, sb]; omega) | (simp (disch := omega) [sd] <;> fail) | (simp (disch := omega) [sd]; omega) | (simp [sd, *] <;> fail) | fail) ?_
    | refine X.o2 (fun _ _ => rfl) (by first | rfl | omega | exact Nat.le_of_ble_eq_true rfl | (simp (disch := omega) only [sd, sb]; omega) | (simp (disch := omega) [sd] <;> fail) | (simp (disch := omega) [sd]; omega) | (simp [sd, *] <;> fail) | fail) (by first | rfl | omega | exact Nat.le_of_ble_eq_true rfl | (simp (disch := omega) only [sd, sb]; omega) | (simp (disch := omega) [sd] <;> fail) | (simp (disch := omega) [sd]; omega) | (simp [sd, *] <;> fail) | fail) ?_
    | refine X.o3 (fun _ _ => rfl) (by first | rfl | omega | exact Nat.le_of_ble_eq_true rfl | (simp (disch := omega) only [sd, sb]; omega) | (simp (disch := omega) [sd] <;> fail) | (simp (disch := omega) [sd]; omega) | (simp [sd, *] <;> fail) | fail) (by first | rfl | omega | exact Nat.le_of_ble_eq_true rfl | (simp (disch := omega) only [sd, sb]; omega) | (simp (disch := omega) [sd] <;> fail) | (simp (disch := omega) [sd]; omega) | (simp [sd, *] <;> fail) | fail) (by first | rfl | omega | exact Nat.le_of_ble_eq_true rfl | (simp (disch := omega) only [sd, sb]; omega) | (simp (disch := omega) [sd] <;> fail) | (simp (disch := omega) [sd]; omega) | (simp [sd, *] <;> fail) | fail) ?_
    | refine X.pickT rfl (fun _ => rfl) ?_
    | refine X.pickF rfl (fun _ => rfl) ?_
    | refine X.condT rfl ?_
    | refine X.condF rfl ?_
    | refine X.g1T rfl ?_
    | refine X.g1F rfl ?_
    | refine X.alc rfl ?_
    | refine X.box (by conv => lhs; whnf) rfl rfl ?_
    | refine X.stl (by conv => lhs; whnf) rfl rfl rfl rfl rfl rfl rfl ?_
    | refine X.apf (by conv => lhs; whnf) (by conv => lhs; whnf) (by first | exact Els.vs _ | exact Els.st _ | exact Els.ns) (by first | rfl | (simp only [hgs, if_true]; rfl)) rfl rfl (by first | rfl | omega | exact Nat.le_of_ble_eq_true rfl | (simp (disch := omega) only [sd, sb]; omega) | (simp (disch := omega) [sd] <;> fail) | (simp (disch := omega) [sd]; omega) | (simp [sd, *] <;> fail) | fail) (by first | rfl | omega | exact Nat.le_of_ble_eq_true rfl | (simp (disch := omega) only [sd, sb]; omega) | (simp (disch := omega) [sd] <;> fail) | (simp (disch := omega) [sd]; omega) | (simp [sd, *] <;> fail) | fail) (by conv => lhs; whnf) ?_
    | refine X.bsl rfl (by conv => lhs; whnf) ?_
    | refine X.alh (by conv => lhs; whnf) ?_
    | refine X.bxh (by conv => lhs; whnf) rfl (by conv => lhs; whnf) ?_
    | refine X.mks (by conv => lhs; whnf) (by conv => lhs; whnf) (by first | rfl | omega | exact Nat.le_of_ble_eq_true rfl | (simp (disch := omega) only [sd, sb]; omega) | (simp (disch := omega) [sd] <;> fail) | (simp (disch := omega) [sd]; omega) | (simp [sd, *] <;> fail) | fail) (by first | rfl | omega | exact Nat.le_of_ble_eq_true rfl | (simp (disch := omega) only [sd, sb]; omega) | (simp (disch := omega) [sd] <;> fail) | (simp (disch := omega) [sd]; omega) | (simp [sd, *] <;> fail) | fail) (by first | rfl | omega | exact Nat.le_of_ble_eq_true rfl | (simp (disch := omega) only [sd, sb]; omega) | (simp (disch := omega) [sd] <;> fail) | (simp (disch := omega) [sd]; omega) | (simp [sd, *] <;> fail) | fail) (by decide) (by conv => lhs; whnf) (by first | exact wr_add_nat (by first | rfl | omega | exact Nat.le_of_ble_eq_true rfl | (simp (disch := omega) only [sd, sb]; omega) | (simp (disch := omega) [sd] <;> fail) | (simp (disch := omega) [sd]; omega) | (simp [sd, *] <;> fail) | fail) | (conv => lhs; whnf)) ?_
    | refine X.cpy (by conv => lhs; whnf) (by conv => lhs; whnf) (elems_vs _) (by first | assumption | first | rfl | (simp only [hgs, if_true]; rfl)) rfl rfl (by first | rfl | omega | exact Nat.le_of_ble_eq_true rfl | (simp (disch := omega) only [sd, sb]; omega) | (simp (disch := omega) [sd] <;> fail) | (simp (disch := omega) [sd]; omega) | (simp [sd, *] <;> fail) | fail) (by first | rfl | omega | exact Nat.le_of_ble_eq_true rfl | (simp (disch := omega) only [sd, sb]; omega) | (simp (disch := omega) [sd] <;> fail) | (simp (disch := omega) [sd]; omega) | (simp [sd, *] <;> fail) | fail) ?_
    | refine X.iah (by conv => lhs; whnf) (by conv => lhs; whnf) (by first | assumption | first | rfl | (simp only [hgs, if_true]; rfl)) rfl (by first | rfl | omega | exact Nat.le_of_ble_eq_true rfl | (simp (disch := omega) only [sd, sb]; omega) | (simp (disch := omega) [sd] <;> fail) | (simp (disch := omega) [sd]; omega) | (simp [sd, *] <;> fail) | fail) ?_
    | refine X.stp (by conv => lhs; whnf) (by conv => lhs; whnf) (by first | assumption | first | rfl | (simp only [hgs, if_true]; rfl)) rfl (by first | omega | exact Nat.le_of_ble_eq_true rfl) rfl rfl rfl (by first | rfl | omega | exact Nat.le_of_ble_eq_true rfl | (simp (disch := omega) only [sd, sb]; omega) | (simp (disch := omega) [sd] <;> fail) | (simp (disch := omega) [sd]; omega) | (simp [sd, *] <;> fail) | fail) (by first | exact bs_getD (by first | rfl | omega | exact Nat.le_of_ble_eq_true rfl | (simp (disch := omega) only [sd, sb]; omega) | (simp (disch := omega) [sd] <;> fail) | (simp (disch := omega) [sd]; omega) | (simp [sd, *] <;> fail) | fail) | rfl) (by first | rfl | omega | exact Nat.le_of_ble_eq_true rfl | (simp (disch := omega) only [sd, sb]; omega) | (simp (disch := omega) [sd] <;> fail) | (simp (disch := omega) [sd]; omega) | (simp [sd, *] <;> fail) | fail) ?_
    | refine X.ldp (by conv => lhs; whnf) (by first | assumption | first | rfl | (simp only [hgs, if_true]; rfl)) (by first | rfl | omega | exact Nat.le_of_ble_eq_true rfl | (simp (disch := omega) only [sd, sb]; omega) | (simp (disch := omega) [sd] <;> fail) | (simp (disch := omega) [sd]; omega) | (simp [sd, *] <;> fail) | fail) (by first | exact bs_getD (by first | rfl | omega | exact Nat.le_of_ble_eq_true rfl | (simp (disch := omega) only [sd, sb]; omega) | (simp (disch := omega) [sd] <;> fail) | (simp (disch := omega) [sd]; omega) | (simp [sd, *] <;> fail) | fail) | rfl) (by first | rfl | omega | exact Nat.le_of_ble_eq_true rfl | (simp (disch := omega) only [sd, sb]; omega) | (simp (disch := omega) [sd] <;> fail) | (simp (disch := omega) [sd]; omega) | (simp [sd, *] <;> fail) | fail) rfl ?_
    | refine X.len (by conv => lhs; whnf) (by first | rfl | assumption) ?_
    | refine X.condTs rfl (by first | rfl | omega | exact Nat.le_of_ble_eq_true rfl | (simp (disch := omega) only [sd, sb]; omega) | (simp (disch := omega) [sd] <;> fail) | (simp (disch := omega) [sd]; omega) | (simp [sd, *] <;> fail) | fail) ?_
    | refine X.condFs rfl (by first | rfl | omega | exact Nat.le_of_ble_eq_true rfl | (simp (disch := omega) only [sd, sb]; omega) | (simp (disch := omega) [sd] <;> fail) | (simp (disch := omega) [sd]; omega) | (simp [sd, *] <;> fail) | fail) ?_
    | refine X.g1Ts rfl (by first | rfl | omega | exact Nat.le_of_ble_eq_true rfl | (simp (disch := omega) only [sd, sb]; omega) | (simp (disch := omega) [sd] <;> fail) | (simp (disch := omega) [sd]; omega) | (simp [sd, *] <;> fail) | fail) ?_
    | refine X.g1Fs rfl (by first | rfl | omega | exact Nat.le_of_ble_eq_true rfl | (simp (disch := omega) only [sd, sb]; omega) | (simp (disch := omega) [sd] <;> fail) | (simp (disch := omega) [sd]; omega) | (simp [sd, *] <;> fail) | fail) ?_
    | refine X.pickTs rfl (by first | rfl | omega | exact Nat.le_of_ble_eq_true rfl | (simp (disch := omega) only [sd, sb]; omega) | (simp (disch := omega) [sd] <;> fail) | (simp (disch := omega) [sd]; omega) | (simp [sd, *] <;> fail) | fail) (fun _ => rfl) ?_
    | refine X.pickFs rfl (by first | rfl | omega | exact Nat.le_of_ble_eq_true rfl | (simp (disch := omega) only [sd, sb]; omega) | (simp (disch := omega) [sd] <;> fail) | (simp (disch := omega) [sd]; omega) | (simp [sd, *] <;> fail) | fail) (fun _ => rfl) ?_
    | refine X.mov (by conv => lhs; whnf) (by first | rfl | assumption) ?_
    | refine X.cond rfl (fun h => ?_) (fun h => ?_)
    | refine X.g1 rfl (fun h => ?_) (fun h => ?_)
    | refine X.pick rfl (fun h => ⟨_, fun _ => rfl, ?_⟩) (fun h => ⟨_, fun _ => rfl, ?_⟩)
    )
  all_goals
    refine X.fin (fun _ => rfl) (congrArg V.bo ?_) rfl
    rw [Bool.eq_iff_iff]
    simp [rightB, ilt_eq, bs_length] at *
    try omega

/-- a frame's payload cut -/
def cut (p : List Int) : List Int := p.take 300

theorem light_ok (ty fl s : Int) (p : List Int) : EvP F 17 c17 [.ag (fr ty fl s p)] [.ag (fr ty fl s (cut p))] := by
  refine EvP.of d17 rfl rfl rfl (v := .ag _) (h := h0) (h' := h0) ?_ (.gs (fr_clo _ _ _ _) (.nil _))
  refine X.fn ?_
  repeat (first
    | refine X.lpb ?_
    | refine X.seq ?_
    | refine X.skip ?_
    | refine X.ret ?_
    | refine X.exit ?_
    | refine X.blk ?_
    | refine X.sn ?_
    | refine X.se ?_
    | refine X.sr ?_
    | refine X.bn ?_
    | refine X.br ?_
    | refine X.bh ?_
    | refine X.bm rfl ?_
    | refine X.pn ?_
    | refine X.gn ?_
    | refine X.g0 ?_
    | refine X.ln ?_
    | refine X.finn ?_
    | refine X.reg0 (by conv => lhs; reduce) ?_
    | refine X.reg1 (by conv => lhs; reduce) ?_
    | refine X.gt rfl ?_
    | refine X.iav (by conv => lhs; whnf) (by conv => lhs; whnf) (by first | rfl | omega | exact Nat.le_of_ble_eq_true rfl | (simp (disch := omega) only [sd, sb]; omega) | (simp (disch := omega) [sd] <;> fail) | (simp (disch := omega) [sd]; omega) | (simp [sd, *] <;> fail) | fail) (by first | exact bs_getD (by first | rfl | omega | exact Nat.le_of_ble_eq_true rfl | (simp (disch := omega) only [sd, sb]; omega) | (simp (disch := omega) [sd] <;> fail) | (simp (disch := omega) [sd]; omega) | (simp [sd, *] <;> fail) | fail) | rfl) ?_
    | refine X.o0 (fun _ _ => rfl) ?_
    | refine X.o1 (fun _ _ => rfl) (by first | rfl | omega | exact Nat.le_of_ble_eq_true rfl | (simp (disch := omega) only [sd, sb]; omega) | (simp (disch := omega) [sd] <;> fail) | (simp (disch := omega) [sd]; omega) | (simp [sd, *] <;> fail) | fail) ?_
    | refine X.o2 (fun _ _ => rfl) (by first | rfl | omega | exact Nat.le_of_ble_eq_true rfl | (simp (disch := omega) only [sd, sb]; omega) | (simp (disch := omega) [sd] <;> fail) | (simp (disch := omega) [sd]; omega) | (simp [sd, *] <;> fail) | fail) (by first | rfl | omega | exact Nat.le_of_ble_eq_true rfl | (simp (disch := omega) only [sd, sb]; omega) | (simp (disch := omega) [sd] <;> fail) | (simp (disch := omega) [sd]; omega) | (simp [sd, *] <;> fail) | fail) ?_
    | refine X.o3 (fun _ _ => rfl) (by first | rfl | omega | exact Nat.le_of_ble_eq_true rfl | (simp (disch := omega) only [sd, sb]; omega) | (simp (disch := omega) [sd] <;> fail) | (simp (disch := omega) [sd]; omega) | (simp [sd, *] <;> fail) | fail) (by first | rfl | omega | exact Nat.le_of_ble_eq_true rfl | (simp (disch := omega) only [sd, sb]; omega) | (simp (disch := omega) [sd] <;> fail) | (simp (disch := omega) [sd]; omega) | (simp [sd, *] <;> fail) | fail) (by first | rfl | omega | exact Nat.le_of_ble_eq_true rfl | (simp (disch := omega) only [sd, sb]; omega) | (simp (disch := omega) [sd] <;> fail) | (simp (disch := omega) [sd]; omega) | (simp [sd, *] <;> fail) | fail) ?_
    | refine X.pickT rfl (fun _ => rfl) ?_
    | refine X.pickF rfl (fun _ => rfl) ?_
    | refine X.condT rfl ?_
    | refine X.condF rfl ?_
    | refine X.g1T rfl ?_
    | refine X.g1F rfl ?_
    | refine X.alc rfl ?_
    | refine X.box (by conv => lhs; whnf) rfl rfl ?_
    | refine X.stl (by conv => lhs; whnf) rfl rfl rfl rfl rfl rfl rfl ?_
    | refine X.apf (by conv => lhs; whnf) (by conv => lhs; whnf) (by first | exact Els.vs _ | exact Els.st _ | exact Els.ns) (by first | rfl | (simp only [hgs, if_true]; rfl)) rfl rfl (by first | rfl | omega | exact Nat.le_of_ble_eq_true rfl | (simp (disch := omega) only [sd, sb]; omega) | (simp (disch := omega) [sd] <;> fail) | (simp (disch := omega) [sd]; omega) | (simp [sd, *] <;> fail) | fail) (by first | rfl | omega | exact Nat.le_of_ble_eq_true rfl | (simp (disch := omega) only [sd, sb]; omega) | (simp (disch := omega) [sd] <;> fail) | (simp (disch := omega) [sd]; omega) | (simp [sd, *] <;> fail) | fail) (by conv => lhs; whnf) ?_
    | refine X.bsl rfl (by conv => lhs; whnf) ?_
    | refine X.alh (by conv => lhs; whnf) ?_
    | refine X.bxh (by conv => lhs; whnf) rfl (by conv => lhs; whnf) ?_
    | refine X.mks (by conv => lhs; whnf) (by conv => lhs; whnf) (by first | rfl | omega | exact Nat.le_of_ble_eq_true rfl | (simp (disch := omega) only [sd, sb]; omega) | (simp (disch := omega) [sd] <;> fail) | (simp (disch := omega) [sd]; omega) | (simp [sd, *] <;> fail) | fail) (by first | rfl | omega | exact Nat.le_of_ble_eq_true rfl | (simp (disch := omega) only [sd, sb]; omega) | (simp (disch := omega) [sd] <;> fail) | (simp (disch := omega) [sd]; omega) | (simp [sd, *] <;> fail) | fail) (by first | rfl | omega | exact Nat.le_of_ble_eq_true rfl | (simp (disch := omega) only [sd, sb]; omega) | (simp (disch := omega) [sd] <;> fail) | (simp (disch := omega) [sd]; omega) | (simp [sd, *] <;> fail) | fail) (by decide) (by conv => lhs; whnf) (by first | exact wr_add_nat (by first | rfl | omega | exact Nat.le_of_ble_eq_true rfl | (simp (disch := omega) only [sd, sb]; omega) | (simp (disch := omega) [sd] <;> fail) | (simp (disch := omega) [sd]; omega) | (simp [sd, *] <;> fail) | fail) | (conv => lhs; whnf)) ?_
    | refine X.cpy (by conv => lhs; whnf) (by conv => lhs; whnf) (elems_vs _) (by first | assumption | first | rfl | (simp only [hgs, if_true]; rfl)) rfl rfl (by first | rfl | omega | exact Nat.le_of_ble_eq_true rfl | (simp (disch := omega) only [sd, sb]; omega) | (simp (disch := omega) [sd] <;> fail) | (simp (disch := omega) [sd]; omega) | (simp [sd, *] <;> fail) | fail) (by first | rfl | omega | exact Nat.le_of_ble_eq_true rfl | (simp (disch := omega) only [sd, sb]; omega) | (simp (disch := omega) [sd] <;> fail) | (simp (disch := omega) [sd]; omega) | (simp [sd, *] <;> fail) | fail) ?_
    | refine X.iah (by conv => lhs; whnf) (by conv => lhs; whnf) (by first | assumption | first | rfl | (simp only [hgs, if_true]; rfl)) rfl (by first | rfl | omega | exact Nat.le_of_ble_eq_true rfl | (simp (disch := omega) only [sd, sb]; omega) | (simp (disch := omega) [sd] <;> fail) | (simp (disch := omega) [sd]; omega) | (simp [sd, *] <;> fail) | fail) ?_
    | refine X.stp (by conv => lhs; whnf) (by conv => lhs; whnf) (by first | assumption | first | rfl | (simp only [hgs, if_true]; rfl)) rfl (by first | omega | exact Nat.le_of_ble_eq_true rfl) rfl rfl rfl (by first | rfl | omega | exact Nat.le_of_ble_eq_true rfl | (simp (disch := omega) only [sd, sb]; omega) | (simp (disch := omega) [sd] <;> fail) | (simp (disch := omega) [sd]; omega) | (simp [sd, *] <;> fail) | fail) (by first | exact bs_getD (by first | rfl | omega | exact Nat.le_of_ble_eq_true rfl | (simp (disch := omega) only [sd, sb]; omega) | (simp (disch := omega) [sd] <;> fail) | (simp (disch := omega) [sd]; omega) | (simp [sd, *] <;> fail) | fail) | rfl) (by first | rfl | omega | exact Nat.le_of_ble_eq_true rfl | (simp (disch := omega) only [sd, sb]; omega) | (simp (disch := omega) [sd] <;> fail) | (simp (disch := omega) [sd]; omega) | (simp [sd, *] <;> fail) | fail) ?_
    | refine X.ldp (by conv => lhs; whnf) (by first | assumption | first | rfl | (simp only [hgs, if_true]; rfl)) (by first | rfl | omega | exact Nat.le_of_ble_eq_true rfl | (simp (disch := omega) only [sd, sb]; omega) | (simp (disch := omega) [sd] <;> fail) | (simp (disch := omega) [sd]; omega) | (simp [sd, *] <;> fail) | fail) (by first | exact bs_getD (by first | rfl | omega | exact Nat.le_of_ble_eq_true rfl | (simp (disch := omega) only [sd, sb]; omega) | (simp (disch := omega) [sd] <;> fail) | (simp (disch := omega) [sd]; omega) | (simp [sd, *] <;> fail) | fail) | rfl) (by first | rfl | omega | exact Nat.le_of_ble_eq_true rfl | (simp (disch := omega) only [sd, sb]; omega) | (simp (disch := omega) [sd] <;> fail) | (simp (disch := omega) [sd]; omega) | (simp [sd, *] <;> fail) | fail) rfl ?_
    | refine X.len (by conv => lhs; whnf) (by first | rfl | assumption) ?_
    | refine X.condTs rfl (by first | rfl | omega | exact Nat.le_of_ble_eq_true rfl | (simp (disch := omega) only [sd, sb]; omega) | (simp (disch := omega) [sd] <;> fail) | (simp (disch := omega) [sd]; omega) | (simp [sd, *] <;> fail) | fail) ?_
    | refine X.condFs rfl (by first | rfl | omega | exact Nat.le_of_ble_eq_true rfl | (simp (disch := omega) only [sd, sb]; omega) | (simp (disch := omega) [sd] <;> fail) | (simp (disch := omega) [sd]; omega) | (simp [sd, *] <;> fail) | fail) ?_
    | refine X.g1Ts rfl (by first | rfl | omega | exact Nat.le_of_ble_eq_true rfl | (simp (disch := omega) only [sd, sb]; omega) | (simp (disch := omega) [sd] <;> fail) | (simp (disch := omega) [sd]; omega) | (simp [sd, *] <;> fail) | fail) ?_
    | refine X.g1Fs rfl (by first | rfl | omega | exact Nat.le_of_ble_eq_true rfl | (simp (disch := omega) only [sd, sb]; omega) | (simp (disch := omega) [sd] <;> fail) | (simp (disch := omega) [sd]; omega) | (simp [sd, *] <;> fail) | fail) ?_
    | refine X.pickTs rfl (by first | rfl | omega | exact Nat.le_of_ble_eq_true rfl | (simp (disch := omega) only [sd, sb]; omega) | (simp (disch := omega) [sd] <;> fail) | (simp (disch := omega) [sd]; omega) | (simp [sd, *] <;> fail) | fail) (fun _ => rfl) ?_
    | refine X.pickFs rfl (by first | rfl | omega | exact Nat.le_of_ble_eq_true rfl | (simp (disch := omega) only [sd, sb]; omega) | (simp (disch := omega) [sd] <;> fail) | (simp (disch := omega) [sd]; omega) | (simp [sd, *] <;> fail) | fail) (fun _ => rfl) ?_
    | refine X.mov (by conv => lhs; whnf) (by first | rfl | assumption) ?_
    )
  refine X.cond rfl (fun h => ?_) (fun h => ?_)
  · simp [sd] at h
    repeat (first
      | refine X.lpb ?_
      | refine X.seq ?_
      | refine X.skip ?_
      | refine X.ret ?_
      | refine X.exit ?_
      | refine X.blk ?_
      | refine X.sn ?_
      | refine X.se ?_
      | refine X.sr ?_
      | refine X.bn ?_
      | refine X.br ?_
      | refine X.bh ?_
      | refine X.bm rfl ?_
      | refine X.pn ?_
      | refine X.gn ?_
      | refine X.g0 ?_
      | refine X.ln ?_
      | refine X.finn ?_
      | refine X.reg0 (by conv => lhs; reduce) ?_
      | refine X.reg1 (by conv => lhs; reduce) ?_
      | refine X.gt rfl ?_
      | refine X.iav (by conv => lhs; whnf) (by conv => lhs; whnf) (by first | rfl | omega | exact Nat.le_of_ble_eq_true rfl | (simp (disch := omega) only [sd, sb]; omega) | (simp (disch := omega) [sd] <;> fail) | (simp (disch := omega) [sd]; omega) | (simp [sd, *] <;> fail) | fail) (by first | exact bs_getD (by first | rfl | omega | exact Nat.le_of_ble_eq_true rfl | (simp (disch := omega) only [sd, sb]; omega) | (simp (disch := omega) [sd] <;> fail) | (simp (disch := omega) [sd]; omega) | (simp [sd, *] <;> fail) | fail) | rfl) ?_
      | refine X.o0 (fun _ _ => rfl) ?_
      | refine X.o1 (fun _ _ => rfl) (by first | rfl | omega | exact Nat.le_of_ble_eq_true rfl | (simp (disch := omega) only [sd, sb]; omega) | (simp (disch := omega) [sd] <;> fail) | (simp (disch := omega) [sd]; omega) | (simp [sd, *] <;> fail) | fail) ?_
      | refine X.o2 (fun _ _ => rfl) (by first | rfl | omega | exact Nat.le_of_ble_eq_true rfl | (simp (disch := omega) only [sd, sb]; omega) | (simp (disch := omega) [sd] <;> fail) | (simp (disch := omega) [sd]; omega) | (simp [sd, *] <;> fail) | fail) (by first | rfl | omega | exact Nat.le_of_ble_eq_true rfl | (simp (disch := omega) only [sd, sb]; omega) | (simp (disch := omega) [sd] <;> fail) | (simp (disch := omega) [sd]; omega) | (simp [sd, *] <;> fail) | fail) ?_
      | refine X.o3 (fun _ _ => rfl) (by first | rfl | omega | exact Nat.le_of_ble_eq_true rfl | (simp (disch := omega) only [sd, sb]; omega) | (simp (disch := omega) [sd] <;> fail) | (simp (disch := omega) [sd]; omega) | (simp [sd, *] <;> fail) | fail) (by first | rfl | omega | exact Nat.le_of_ble_eq_true rfl | (simp (disch := omega) only [sd, sb]; omega) | (simp (disch := omega) [sd] <;> fail) | (simp (disch := omega) [sd]; omega) | (simp [sd, *] <;> fail) | fail) (by first | rfl | omega | exact Nat.le_of_ble_eq_true rfl | (simp (disch := omega) only [sd, sb]; omega) | (simp (disch := omega) [sd] <;> fail) | (simp (disch := omega) [sd]; omega) | (simp [sd, *] <;> fail) | fail) ?_
      | refine X.pickT rfl (fun _ => rfl) ?_
      | refine X.pickF rfl (fun _ => rfl) ?_
      | refine X.condT rfl ?_
      | refine X.condF rfl ?_
      | refine X.g1T rfl ?_
      | refine X.g1F rfl ?_
      | refine X.alc rfl ?_
      | refine X.box (by conv => lhs; whnf) rfl rfl ?_
      | refine X.stl (by conv => lhs; whnf) rfl rfl rfl rfl rfl rfl rfl ?_
      | refine X.apf (by conv => lhs; whnf) (by conv => lhs; whnf) (by first | exact Els.vs _ | exact Els.st _ | exact Els.ns) (by first | rfl | (simp only [hgs, if_true]; rfl)) rfl rfl (by first | rfl | omega | exact Nat.le_of_ble_eq_true rfl | (simp (disch := omega) only [sd, sb]; omega) | (simp (disch := omega) [sd] <;> fail) | (simp (disch := omega) [sd]; omega) | (simp [sd, *] <;> fail) | fail) (by first | rfl | omega | exact Nat.le_of_ble_eq_true rfl | (simp (disch := omega) only [sd, sb]; omega) | (simp (disch := omega) [sd] <;> fail) | (simp (disch := omega) [sd]; omega) | (simp [sd, *] <;> fail) | fail) (by conv => lhs; whnf) ?_
      | refine X.bsl rfl (by conv => lhs; whnf) ?_
      | refine X.alh (by conv => lhs; whnf) ?_
      | refine X.bxh (by conv => lhs; whnf) rfl (by conv => lhs; whnf) ?_
      | refine X.mks (by conv => lhs; whnf) (by conv => lhs; whnf) (by first | rfl | omega | exact Nat.le_of_ble_eq_true rfl | (simp (disch := omega) only [sd, sb]; omega) | (simp (disch := omega) [sd] <;> fail) | (simp (disch := omega) [sd]; omega) | (simp [sd, *] <;> fail) | fail) (by first | rfl | omega | exact Nat.le_of_ble_eq_true rfl | (simp (disch := omega) only [sd, sb]; omega) | (simp (disch := omega) [sd] <;> fail) | (simp (disch := omega) [sd]; omega) | (simp [sd, *] <;> fail) | fail) (by first | rfl | omega | exact Nat.le_of_ble_eq_true rfl | (simp (disch := omega) only [sd, sb]; omega) | (simp (disch := omega) [sd] <;> fail) | (simp (disch := omega) [sd]; omega) | (simp [sd, *] <;> fail) | fail) (by decide) (by conv => lhs; whnf) (by first | exact wr_add_nat (by first | rfl | omega | exact Nat.le_of_ble_eq_true rfl | (simp (disch := omega) only [sd, sb]; omega) | (simp (disch := omega) [sd] <;> fail) | (simp (disch := omega) [sd]; omega) | (simp [sd, *] <;> fail) | fail) | (conv => lhs; whnf)) ?_
      | refine X.cpy (by conv => lhs; whnf) (by conv => lhs; whnf) (elems_vs _) (by first | assumption | first | rfl | (simp only [hgs, if_true]; rfl)) rfl rfl (by first | rfl | omega | exact Nat.le_of_ble_eq_true rfl | (simp (disch := omega) only [sd, sb]; omega) | (simp (disch := omega) [sd] <;> fail) | (simp (disch := omega) [sd]; omega) | (simp [sd, *] <;> fail) | fail) (by first | rfl | omega | exact Nat.le_of_ble_eq_true rfl | (simp (disch := omega) only [sd, sb]; omega) | (simp (disch := omega) [sd] <;> fail) | (simp (disch := omega) [sd]; omega) | (simp [sd, *] <;> fail) | fail) ?_
      | refine X.iah (by conv => lhs; whnf) (by conv => lhs; whnf) (by first | assumption | first | rfl | (simp only [hgs, if_true]; rfl)) rfl (by first | rfl | omega | exact Nat.le_of_ble_eq_true rfl | (simp (disch := omega) only [sd, sb]; omega) | (simp (disch := omega) [sd] <;> fail) | (simp (disch := omega) [sd]; omega) | (simp [sd, *] <;> fail) | fail) ?_
      | refine X.stp (by conv => lhs; whnf) (by conv => lhs; whnf) (by first | assumption | first | rfl | (simp only [hgs, if_true]; rfl)) rfl (by first | omega | exact Nat.le_of_ble_eq_true rfl) rfl rfl rfl (by first | rfl | omega | exact Nat.le_of_ble_eq_true rfl | (simp (disch := omega) only [sd, sb]; omega) | (simp (disch := omega) [sd] <;> fail) | (simp (disch := omega) [sd]; omega) | (simp [sd, *] <;> fail) | fail) (by first | exact bs_getD (by first | rfl | omega | exact Nat.le_of_ble_eq_true rfl | (simp (disch := omega) only [sd, sb]; omega) | (simp (disch := omega) [sd] <;> fail) | (simp (disch := omega) [sd]; omega) | (simp [sd, *] <;> fail) | fail) | rfl) (by first | rfl | omega | exact Nat.le_of_ble_eq_true rfl | (simp (disch := omega) only [sd, sb]; omega) | (simp (disch := omega) [sd] <;> fail) | (simp (disch := omega) [sd]; omega) | (simp [sd, *] <;> fail) | fail) ?_
      | refine X.ldp (by conv => lhs; whnf) (by first | assumption | first | rfl | (simp only [hgs, if_true]; rfl)) (by first | rfl | omega | exact Nat.le_of_ble_eq_true rfl | (simp (disch := omega) only [sd, sb]; omega) | (simp (disch := omega) [sd] <;> fail) | (simp (disch := omega) [sd]; omega) | (simp [sd, *] <;> fail) | fail) (by first | exact bs_getD (by first | rfl | omega | exact Nat.le_of_ble_eq_true rfl | (simp (disch := omega) only [sd, sb]; omega) | (simp (disch := omega) [sd] <;> fail) | (simp (disch := omega) [sd]; omega) | (simp [sd, *] <;> fail) | fail) | rfl) (by first | rfl | omega | exact Nat.le_of_ble_eq_true rfl | (simp (disch := omega) only [sd, sb]; omega) | (simp (disch := omega) [sd] <;> fail) | (simp (disch := omega) [sd]; omega) | (simp [sd, *] <;> fail) | fail) rfl ?_
      | refine X.len (by conv => lhs; whnf) (by first | rfl | assumption) ?_
      | refine X.condTs rfl (by first | rfl | omega | exact Nat.le_of_ble_eq_true rfl | (simp (disch := omega) only [sd, sb]; omega) | (simp (disch := omega) [sd] <;> fail) | (simp (disch := omega) [sd]; omega) | (simp [sd, *] <;> fail) | fail) ?_
      | refine X.condFs rfl (by first | rfl | omega | exact Nat.le_of_ble_eq_true rfl | (simp (disch := omega) only [sd, sb]; omega) | (simp (disch := omega) [sd] <;> fail) | (simp (disch := omega) [sd]; omega) | (simp [sd, *] <;> fail) | fail) ?_
      | refine X.g1Ts rfl (by first | rfl | omega | exact Nat.le_of_ble_eq_true rfl | (simp (disch := omega) only [sd, sb]; omega) | (simp (disch := omega) [sd] <;> fail) | (simp (disch := omega) [sd]; omega) | (simp [sd, *] <;> fail) | fail) ?_
      | refine X.g1Fs rfl (by first | rfl | omega | exact Nat.le_of_ble_eq_true rfl | (simp (disch := omega) only [sd, sb]; omega) | (simp (disch := omega) [sd] <;> fail) | (simp (disch := omega) [sd]; omega) | (simp [sd, *] <;> fail) | fail) ?_
      | refine X.pickTs rfl (by first | rfl | omega | exact Nat.le_of_ble_eq_true rfl | (simp (disch := omega) only [sd, sb]; omega) | (simp (disch := omega) [sd] <;> fail) | (simp (disch := omega) [sd]; omega) | (simp [sd, *] <;> fail) | fail) (fun _ => rfl) ?_
      | refine X.pickFs rfl (by first | rfl | omega | exact Nat.le_of_ble_eq_true rfl | (simp (disch := omega) only [sd, sb]; omega) | (simp (disch := omega) [sd] <;> fail) | (simp (disch := omega) [sd]; omega) | (simp [sd, *] <;> fail) | fail) (fun _ => rfl) ?_
      | refine X.mov (by conv => lhs; whnf) (by first | rfl | assumption) ?_
      )
    refine X.fin1 (fun _ => rfl) rfl (Eq.trans (b := V.ag [.it .i64 ty, .it .i64 fl, .it .i64 s, .vs 1 (((bs p).drop 0).take 300)]) rfl ?_) rfl
    simp [fr, cut, bs_take]
  · simp [sd] at h
    repeat (first
      | refine X.lpb ?_
      | refine X.seq ?_
      | refine X.skip ?_
      | refine X.ret ?_
      | refine X.exit ?_
      | refine X.blk ?_
      | refine X.sn ?_
      | refine X.se ?_
      | refine X.sr ?_
      | refine X.bn ?_
      | refine X.br ?_
      | refine X.bh ?_
      | refine X.bm rfl ?_
      | refine X.pn ?_
      | refine X.gn ?_
      | refine X.g0 ?_
      | refine X.ln ?_
      | refine X.finn ?_
      | refine X.reg0 (by conv => lhs; reduce) ?_
      | refine X.reg1 (by conv => lhs; reduce) ?_
      | refine X.gt rfl ?_
      | refine X.iav (by conv => lhs; whnf) (by conv => lhs; whnf) (by first | rfl | omega | exact Nat.le_of_ble_eq_true rfl | (simp (disch := omega) only [sd, sb]; omega) | (simp (disch := omega) [sd] <;> fail) | (simp (disch := omega) [sd]; omega) | (simp [sd, *] <;> fail) | fail) (by first | exact bs_getD (by first | rfl | omega | exact Nat.le_of_ble_eq_true rfl | (simp (disch := omega) only [sd, sb]; omega) | (simp (disch := omega) [sd] <;> fail) | (simp (disch := omega) [sd]; omega) | (simp [sd, *] <;> fail) | fail) | rfl) ?_
      | refine X.o0 (fun _ _ => rfl) ?_
      | refine X.o1 (fun _ _ => rfl) (by first | rfl | omega | exact Nat.le_of_ble_eq_true rfl | (simp (disch := omega) only [sd, sb]; omega) | (simp (disch := omega) [sd] <;> fail) | (simp (disch := omega) [sd]; omega) | (simp [sd, *] <;> fail) | fail) ?_
      | refine X.o2 (fun _ _ => rfl) (by first | rfl | omega | exact Nat.le_of_ble_eq_true rfl | (simp (disch := omega) only [sd, sb]; omega) | (simp (disch := omega) [sd] <;> fail) | (simp (disch := omega) [sd]; omega) | (simp [sd, *] <;> fail) | fail) (by first | rfl | omega | exact Nat.le_of_ble_eq_true rfl | (simp (disch := omega) only [sd, sb]; omega) | (simp (disch := omega) [sd] <;> fail) | (simp (disch := omega) [sd]; omega) | (simp [sd, *] <;> fail) | fail) ?_
      | refine X.o3 (fun _ _ => rfl) (by first | rfl | omega | exact Nat.le_of_ble_eq_true rfl | (simp (disch := omega) only [sd, sb]; omega) | (simp (disch := omega) [sd] <;> fail) | (simp (disch := omega) [sd]; omega) | (simp [sd, *] <;> fail) | fail) (by first | rfl | omega | exact Nat.le_of_ble_eq_true rfl | (simp (disch := omega) only [sd, sb]; omega) | (simp (disch := omega) [sd] <;> fail) | (simp (disch := omega) [sd]; omega) | (simp [sd, *] <;> fail) | fail) (by first | rfl | omega | exact Nat.le_of_ble_eq_true rfl | (simp (disch := omega) only [sd, sb]; omega) | (simp (disch := omega) [sd] <;> fail) | (simp (disch := omega) [sd]; omega) | (simp [sd, *] <;> fail) | fail) ?_
      | refine X.pickT rfl (fun _ => rfl) ?_
      | refine X.pickF rfl (fun _ => rfl) ?_
      | refine X.condT rfl ?_
      | refine X.condF rfl ?_
      | refine X.g1T rfl ?_
      | refine X.g1F rfl ?_
      | refine X.alc rfl ?_
      | refine X.box (by conv => lhs; whnf) rfl rfl ?_
      | refine X.stl (by conv => lhs; whnf) rfl rfl rfl rfl rfl rfl rfl ?_
      | refine X.apf (by conv => lhs; whnf) (by conv => lhs; whnf) (by first | exact Els.vs _ | exact Els.st _ | exact Els.ns) (by first | rfl | (simp only [hgs, if_true]; rfl)) rfl rfl (by first | rfl | omega | exact Nat.le_of_ble_eq_true rfl | (simp (disch := omega) only [sd, sb]; omega) | (simp (disch := omega) [sd] <;> fail) | (simp (disch := omega) [sd]; omega) | (simp [sd, *] <;> fail) | fail) (by first | rfl | omega | exact Nat.le_of_ble_eq_true rfl | (simp (disch := omega) only [sd, sb]; omega) | (simp (disch := omega) [sd] <;> fail) | (simp (disch := omega) [sd]; omega) | (simp [sd, *] <;> fail) | fail) (by conv => lhs; whnf) ?_
      | refine X.bsl rfl (by conv => lhs; whnf) ?_
      | refine X.alh (by conv => lhs; whnf) ?_
      | refine X.bxh (by conv => lhs; whnf) rfl (by conv => lhs; whnf) ?_
      | refine X.mks (by conv => lhs; whnf) (by conv => lhs; whnf) (by first | rfl | omega | exact Nat.le_of_ble_eq_true rfl | (simp (disch := omega) only [sd, sb]; omega) | (simp (disch := omega) [sd] <;> fail) | (simp (disch := omega) [sd]; omega) | (simp [sd, *] <;> fail) | fail) (by first | rfl | omega | exact Nat.le_of_ble_eq_true rfl | (simp (disch := omega) only [sd, sb]; omega) | (simp (disch := omega) [sd] <;> fail) | (simp (disch := omega) [sd]; omega) | (simp [sd, *] <;> fail) | fail) (by first | rfl | omega | exact Nat.le_of_ble_eq_true rfl | (simp (disch := omega) only [sd, sb]; omega) | (simp (disch := omega) [sd] <;> fail) | (simp (disch := omega) [sd]; omega) | (simp [sd, *] <;> fail) | fail) (by decide) (by conv => lhs; whnf) (by first | exact wr_add_nat (by first | rfl | omega | exact Nat.le_of_ble_eq_true rfl | (simp (disch := omega) only [sd, sb]; omega) | (simp (disch := omega) [sd] <;> fail) | (simp (disch := omega) [sd]; omega) | (simp [sd, *] <;> fail) | fail) | (conv => lhs; whnf)) ?_
      | refine X.cpy (by conv => lhs; whnf) (by conv => lhs; whnf) (elems_vs _) (by first | assumption | first | rfl | (simp only [hgs, if_true]; rfl)) rfl rfl (by first | rfl | omega | exact Nat.le_of_ble_eq_true rfl | (simp (disch := omega) only [sd, sb]; omega) | (simp (disch := omega) [sd] <;> fail) | (simp (disch := omega) [sd]; omega) | (simp [sd, *] <;> fail) | fail) (by first | rfl | omega | exact Nat.le_of_ble_eq_true rfl | (simp (disch := omega) only [sd, sb]; omega) | (simp (disch := omega) [sd] <;> fail) | (simp (disch := omega) [sd]; omega) | (simp [sd, *] <;> fail) | fail) ?_
      | refine X.iah (by conv => lhs; whnf) (by conv => lhs; whnf) (by first | assumption | first | rfl | (simp only [hgs, if_true]; rfl)) rfl (by first | rfl | omega | exact Nat.le_of_ble_eq_true rfl | (simp (disch := omega) only [sd, sb]; omega) | (simp (disch := omega) [sd] <;> fail) | (simp (disch := omega) [sd]; omega) | (simp [sd, *] <;> fail) | fail) ?_
      | refine X.stp (by conv => lhs; whnf) (by conv => lhs; whnf) (by first | assumption | first | rfl | (simp only [hgs, if_true]; rfl)) rfl (by first | omega | exact Nat.le_of_ble_eq_true rfl) rfl rfl rfl (by first | rfl | omega | exact Nat.le_of_ble_eq_true rfl | (simp (disch := omega) only [sd, sb]; omega) | (simp (disch := omega) [sd] <;> fail) | (simp (disch := omega) [sd]; omega) | (simp [sd, *] <;> fail) | fail) (by first | exact bs_getD (by first | rfl | omega | exact Nat.le_of_ble_eq_true rfl | (simp (disch := omega) only [sd, sb]; omega) | (simp (disch := omega) [sd] <;> fail) | (simp (disch := omega) [sd]; omega) | (simp [sd, *] <;> fail) | fail) | rfl) (by first | rfl | omega | exact Nat.le_of_ble_eq_true rfl | (simp (disch := omega) only [sd, sb]; omega) | (simp (disch := omega) [sd] <;> fail) | (simp (disch := omega) [sd]; omega) | (simp [sd, *] <;> fail) | fail) ?_
      | refine X.ldp (by conv => lhs; whnf) (by first | assumption | first | rfl | (simp only [hgs, if_true]; rfl)) (by first | rfl | omega | exact Nat.le_of_ble_eq_true rfl | (simp (disch := omega) only [sd, sb]; omega) | (simp (disch := omega) [sd] <;> fail) | (simp (disch := omega) [sd]; omega) | (simp [sd, *] <;> fail) | fail) (by first | exact bs_getD (by first | rfl | omega | exact Nat.le_of_ble_eq_true rfl | (simp (disch := omega) only [sd, sb]; omega) | (simp (disch := omega) [sd] <;> fail) | (simp (disch := omega) [sd]; omega) | (simp [sd, *] <;> fail) | fail) | rfl) (by first | rfl | omega | exact Nat.le_of_ble_eq_true rfl | (simp (disch := omega) only [sd, sb]; omega) | (simp (disch := omega) [sd] <;> fail) | (simp (disch := omega) [sd]; omega) | (simp [sd, *] <;> fail) | fail) rfl ?_
      | refine X.len (by conv => lhs; whnf) (by first | rfl | assumption) ?_
      | refine X.condTs rfl (by first | rfl | omega | exact Nat.le_of_ble_eq_true rfl | (simp (disch := omega) only [sd, sb]; omega) | (simp (disch := omega) [sd] <;> fail) | (simp (disch := omega) [sd]; omega) | (simp [sd, *] <;> fail) | fail) ?_
      | refine X.condFs rfl (by first | rfl | omega | exact Nat.le_of_ble_eq_true rfl | (simp (disch := omega) only [sd, sb]; omega) | (simp (disch := omega) [sd] <;> fail) | (simp (disch := omega) [sd]; omega) | (simp [sd, *] <;> fail) | fail) ?_
      | refine X.g1Ts rfl (by first | rfl | omega | exact Nat.le_of_ble_eq_true rfl | (simp (disch := omega) only [sd, sb]; omega) | (simp (disch := omega) [sd] <;> fail) | (simp (disch := omega) [sd]; omega) | (simp [sd, *] <;> fail) | fail) ?_
      | refine X.g1Fs rfl (by first | rfl | omega | exact Nat.le_of_ble_eq_true rfl | (simp (disch := omega) only [sd, sb]; omega) | (simp (disch := omega) [sd] <;> fail) | (simp (disch := omega) [sd]; omega) | (simp [sd, *] <;> fail) | fail) ?_
      | refine X.pickTs rfl (by first | rfl | omega | exact Nat.le_of_ble_eq_true rfl | (simp (disch := omega) only [sd, sb]; omega) | (simp (disch := omega) [sd] <;> fail) | (simp (disch := omega) [sd]; omega) | (simp [sd, *] <;> fail) | fail) (fun _ => rfl) ?_
      | refine X.pickFs rfl (by first | rfl | omega | exact Nat.le_of_ble_eq_true rfl | (simp (disch := omega) only [sd, sb]; omega) | (simp (disch := omega) [sd] <;> fail) | (simp (disch := omega) [sd]; omega) | (simp [sd, *] <;> fail) | fail) (fun _ => rfl) ?_
      | refine X.mov (by conv => lhs; whnf) (by first | rfl | assumption) ?_
      )
    refine X.fin1 (fun _ => rfl) rfl (Eq.trans (b := V.ag [.it .i64 ty, .it .i64 fl, .it .i64 s, .vs 1 (bs p)]) rfl ?_) rfl
    have e : p.take 300 = p := List.take_of_length_le (by omega)
    simp [fr, cut, e]
end Go.Proofs.Ytgofadnggipkpaa
