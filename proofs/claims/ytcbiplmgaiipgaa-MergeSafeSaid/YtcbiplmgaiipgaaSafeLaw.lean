import Derived.Test.YtcbiplmgaiipgaaSafeRun
set_option linter.unusedVariables false
set_option linter.unusedSimpArgs false
namespace Go.Proofs.Ytcbiplmgaiipgaa
open Go hiding Fn
open Ev tabSafe
attribute [local irreducible] EvD EvL EvC evGds evLs C.run sK bK gK pK fK lpB stepD

theorem req_clo (m : List Nat) : CloL2 [.one, .one, .one, .one, .sl [.one, .one], .one] [.st m, .st [], .st [], .st [], .ns, .it .i64 0] [.st m, .st [], .st [], .st [], .vs 2 [], .it .i64 0] :=
  .cons (clo_st _) (.cons (clo_st _) (.cons (clo_st _) (.cons (clo_st _) (.cons (clo_ns [.one, .one]) (.cons (clo_it _ _) .nil)))))
theorem res_clo (k : Int) : CloL2 [.one, .sl [.one, .one], .one] [.it .i64 k, .ns, .it .i64 0] [.it .i64 k, .vs 2 [], .it .i64 0] :=
  .cons (clo_it _ _) (.cons (clo_ns [.one, .one]) (.cons (clo_it _ _) .nil))

theorem safe_0 (n k : Int) (hw : EvP F 26 c26 [.it .i64 n, .it .i64 100, .it .i64 599] [.it .i64 k]) : EvD F (stepD d17 [.st [71, 69, 84], .it .i64 n] h0) (Rt (.bo true) h0) := by
  refine X.fn ?_
  repeat (first
    | refine X.lpb ?_
    | refine X.seq ?_
    | refine X.skip ?_
    | refine X.ret ?_
    | refine X.exit ?_
    | refine X.blk ?_
    | refine X.sn ?_
    | refine X.se ?_
    | refine X.sr ?_
    | refine X.bn ?_
    | refine X.br ?_
    | refine X.bh ?_
    | refine X.bm rfl ?_
    | refine X.pn ?_
    | refine X.gn ?_
    | refine X.g0 ?_
    | refine X.ln ?_
    | refine X.finn ?_
    | refine X.reg0 (by conv => lhs; reduce) ?_
    | refine X.reg1 (by conv => lhs; reduce) ?_
    | refine X.gt rfl ?_
    | refine X.iav (by conv => lhs; whnf) (by conv => lhs; whnf) (by first | rfl | omega | (simp (disch := omega) only [sd, sb]; omega) | (simp (disch := omega) [sd] <;> fail) | (simp (disch := omega) [sd]; omega) | (simp [sd, *] <;> fail) | fail) (by first | exact bs_getD (by first | rfl | omega | (simp (disch := omega) only [sd, sb]; omega) | (simp (disch := omega) [sd] <;> fail) | (simp (disch := omega) [sd]; omega) | (simp [sd, *] <;> fail) | fail) | rfl) ?_
    | refine X.o0 (fun _ _ => rfl) ?_
    | refine X.o1 (fun _ _ => rfl) (by first | rfl | omega | (simp (disch := omega) only [sd, sb]; omega) | (simp (disch := omega) [sd] <;> fail) | (simp (disch := omega) [sd]; omega) | (simp [sd, *] <;> fail) | fail) ?_
    | refine X.o2 (fun _ _ => rfl) (by first | rfl | omega | (simp (disch := omega) only [sd, sb]; omega) | (simp (disch := omega) [sd] <;> fail) | (simp (disch := omega) [sd]; omega) | (simp [sd, *] <;> fail) | fail) (by first | rfl | omega | (simp (disch := omega) only [sd, sb]; omega) | (simp (disch := omega) [sd] <;> fail) | (simp (disch := omega) [sd]; omega) | (simp [sd, *] <;> fail) | fail) ?_
    | refine X.o3 (fun _ _ => rfl) (by first | rfl | omega | (simp (disch := omega) only [sd, sb]; omega) | (simp (disch := omega) [sd] <;> fail) | (simp (disch := omega) [sd]; omega) | (simp [sd, *] <;> fail) | fail) (by first | rfl | omega | (simp (disch := omega) only [sd, sb]; omega) | (simp (disch := omega) [sd] <;> fail) | (simp (disch := omega) [sd]; omega) | (simp [sd, *] <;> fail) | fail) (by first | rfl | omega | (simp (disch := omega) only [sd, sb]; omega) | (simp (disch := omega) [sd] <;> fail) | (simp (disch := omega) [sd]; omega) | (simp [sd, *] <;> fail) | fail) ?_
    | refine X.pickT rfl (fun _ => rfl) ?_
    | refine X.pickF rfl (fun _ => rfl) ?_
    | refine X.condT rfl ?_
    | refine X.condF rfl ?_
    | refine X.g1T rfl ?_
    | refine X.g1F rfl ?_
    | refine X.alc rfl ?_
    | refine X.box (by conv => lhs; whnf) rfl rfl ?_
    | refine X.stl (by conv => lhs; whnf) rfl rfl rfl rfl rfl rfl rfl ?_
    | refine X.apf (by conv => lhs; whnf) (by conv => lhs; whnf) (by first | exact Els.vs _ | exact Els.st _ | exact Els.ns) (by first | rfl | (simp only [hgs, if_true]; rfl)) rfl rfl (by first | rfl | omega | (simp (disch := omega) only [sd, sb]; omega) | (simp (disch := omega) [sd] <;> fail) | (simp (disch := omega) [sd]; omega) | (simp [sd, *] <;> fail) | fail) (by first | rfl | omega | (simp (disch := omega) only [sd, sb]; omega) | (simp (disch := omega) [sd] <;> fail) | (simp (disch := omega) [sd]; omega) | (simp [sd, *] <;> fail) | fail) (by conv => lhs; whnf) ?_
    | refine X.mks (by conv => lhs; whnf) (by conv => lhs; whnf) (by first | rfl | omega | (simp (disch := omega) only [sd, sb]; omega) | (simp (disch := omega) [sd] <;> fail) | (simp (disch := omega) [sd]; omega) | (simp [sd, *] <;> fail) | fail) (by first | rfl | omega | (simp (disch := omega) only [sd, sb]; omega) | (simp (disch := omega) [sd] <;> fail) | (simp (disch := omega) [sd]; omega) | (simp [sd, *] <;> fail) | fail) (by first | rfl | omega | (simp (disch := omega) only [sd, sb]; omega) | (simp (disch := omega) [sd] <;> fail) | (simp (disch := omega) [sd]; omega) | (simp [sd, *] <;> fail) | fail) (by decide) (by conv => lhs; whnf) (by conv => lhs; whnf) ?_
    | refine X.len (by conv => lhs; whnf) (by first | rfl | assumption) ?_
    | refine X.condTs rfl (by first | rfl | omega | (simp (disch := omega) only [sd, sb]; omega) | (simp (disch := omega) [sd] <;> fail) | (simp (disch := omega) [sd]; omega) | (simp [sd, *] <;> fail) | fail) ?_
    | refine X.condFs rfl (by first | rfl | omega | (simp (disch := omega) only [sd, sb]; omega) | (simp (disch := omega) [sd] <;> fail) | (simp (disch := omega) [sd]; omega) | (simp [sd, *] <;> fail) | fail) ?_
    | refine X.g1Ts rfl (by first | rfl | omega | (simp (disch := omega) only [sd, sb]; omega) | (simp (disch := omega) [sd] <;> fail) | (simp (disch := omega) [sd]; omega) | (simp [sd, *] <;> fail) | fail) ?_
    | refine X.g1Fs rfl (by first | rfl | omega | (simp (disch := omega) only [sd, sb]; omega) | (simp (disch := omega) [sd] <;> fail) | (simp (disch := omega) [sd]; omega) | (simp [sd, *] <;> fail) | fail) ?_
    | refine X.pickTs rfl (by first | rfl | omega | (simp (disch := omega) only [sd, sb]; omega) | (simp (disch := omega) [sd] <;> fail) | (simp (disch := omega) [sd]; omega) | (simp [sd, *] <;> fail) | fail) (fun _ => rfl) ?_
    | refine X.pickFs rfl (by first | rfl | omega | (simp (disch := omega) only [sd, sb]; omega) | (simp (disch := omega) [sd] <;> fail) | (simp (disch := omega) [sd]; omega) | (simp [sd, *] <;> fail) | fail) (fun _ => rfl) ?_
    | refine X.mov (by conv => lhs; whnf) (by first | rfl | assumption) ?_
    )
  refine X.pcall hw (.s (clo_it _ _) (.s (clo_it _ _) (.s (clo_it _ _) (.nil _)))) rfl rfl rfl ?_
  repeat (first
    | refine X.lpb ?_
    | refine X.seq ?_
    | refine X.skip ?_
    | refine X.ret ?_
    | refine X.exit ?_
    | refine X.blk ?_
    | refine X.sn ?_
    | refine X.se ?_
    | refine X.sr ?_
    | refine X.bn ?_
    | refine X.br ?_
    | refine X.bh ?_
    | refine X.bm rfl ?_
    | refine X.pn ?_
    | refine X.gn ?_
    | refine X.g0 ?_
    | refine X.ln ?_
    | refine X.finn ?_
    | refine X.reg0 (by conv => lhs; reduce) ?_
    | refine X.reg1 (by conv => lhs; reduce) ?_
    | refine X.gt rfl ?_
    | refine X.iav (by conv => lhs; whnf) (by conv => lhs; whnf) (by first | rfl | omega | (simp (disch := omega) only [sd, sb]; omega) | (simp (disch := omega) [sd] <;> fail) | (simp (disch := omega) [sd]; omega) | (simp [sd, *] <;> fail) | fail) (by first | exact bs_getD (by first | rfl | omega | (simp (disch := omega) only [sd, sb]; omega) | (simp (disch := omega) [sd] <;> fail) | (simp (disch := omega) [sd]; omega) | (simp [sd, *] <;> fail) | fail) | rfl) ?_
    | refine X.o0 (fun _ _ => rfl) ?_
    | refine X.o1 (fun _ _ => rfl) (by first | rfl | omega | (simp (disch := omega) only [sd, sb]; omega) | (simp (disch := omega) [sd] <;> fail) | (simp (disch := omega) [sd]; omega) | (simp [sd, *] <;> fail) | fail) ?_
    | refine X.o2 (fun _ _ => rfl) (by first | rfl | omega | (simp (disch := omega) only [sd, sb]; omega) | (simp (disch := omega) [sd] <;> fail) | (simp (disch := omega) [sd]; omega) | (simp [sd, *] <;> fail) | fail) (by first | rfl | omega | (simp (disch := omega) only [sd, sb]; omega) | (simp (disch := omega) [sd] <;> fail) | (simp (disch := omega) [sd]; omega) | (simp [sd, *] <;> fail) | fail) ?_
    | refine X.o3 (fun _ _ => rfl) (by first | rfl | omega | (simp (disch := omega) only [sd, sb]; omega) | (simp (disch := omega) [sd] <;> fail) | (simp (disch := omega) [sd]; omega) | (simp [sd, *] <;> fail) | fail) (by first | rfl | omega | (simp (disch := omega) only [sd, sb]; omega) | (simp (disch := omega) [sd] <;> fail) | (simp (disch := omega) [sd]; omega) | (simp [sd, *] <;> fail) | fail) (by first | rfl | omega | (simp (disch := omega) only [sd, sb]; omega) | (simp (disch := omega) [sd] <;> fail) | (simp (disch := omega) [sd]; omega) | (simp [sd, *] <;> fail) | fail) ?_
    | refine X.pickT rfl (fun _ => rfl) ?_
    | refine X.pickF rfl (fun _ => rfl) ?_
    | refine X.condT rfl ?_
    | refine X.condF rfl ?_
    | refine X.g1T rfl ?_
    | refine X.g1F rfl ?_
    | refine X.alc rfl ?_
    | refine X.box (by conv => lhs; whnf) rfl rfl ?_
    | refine X.stl (by conv => lhs; whnf) rfl rfl rfl rfl rfl rfl rfl ?_
    | refine X.apf (by conv => lhs; whnf) (by conv => lhs; whnf) (by first | exact Els.vs _ | exact Els.st _ | exact Els.ns) (by first | rfl | (simp only [hgs, if_true]; rfl)) rfl rfl (by first | rfl | omega | (simp (disch := omega) only [sd, sb]; omega) | (simp (disch := omega) [sd] <;> fail) | (simp (disch := omega) [sd]; omega) | (simp [sd, *] <;> fail) | fail) (by first | rfl | omega | (simp (disch := omega) only [sd, sb]; omega) | (simp (disch := omega) [sd] <;> fail) | (simp (disch := omega) [sd]; omega) | (simp [sd, *] <;> fail) | fail) (by conv => lhs; whnf) ?_
    | refine X.mks (by conv => lhs; whnf) (by conv => lhs; whnf) (by first | rfl | omega | (simp (disch := omega) only [sd, sb]; omega) | (simp (disch := omega) [sd] <;> fail) | (simp (disch := omega) [sd]; omega) | (simp [sd, *] <;> fail) | fail) (by first | rfl | omega | (simp (disch := omega) only [sd, sb]; omega) | (simp (disch := omega) [sd] <;> fail) | (simp (disch := omega) [sd]; omega) | (simp [sd, *] <;> fail) | fail) (by first | rfl | omega | (simp (disch := omega) only [sd, sb]; omega) | (simp (disch := omega) [sd] <;> fail) | (simp (disch := omega) [sd]; omega) | (simp [sd, *] <;> fail) | fail) (by decide) (by conv => lhs; whnf) (by conv => lhs; whnf) ?_
    | refine X.len (by conv => lhs; whnf) (by first | rfl | assumption) ?_
    | refine X.condTs rfl (by first | rfl | omega | (simp (disch := omega) only [sd, sb]; omega) | (simp (disch := omega) [sd] <;> fail) | (simp (disch := omega) [sd]; omega) | (simp [sd, *] <;> fail) | fail) ?_
    | refine X.condFs rfl (by first | rfl | omega | (simp (disch := omega) only [sd, sb]; omega) | (simp (disch := omega) [sd] <;> fail) | (simp (disch := omega) [sd]; omega) | (simp [sd, *] <;> fail) | fail) ?_
    | refine X.g1Ts rfl (by first | rfl | omega | (simp (disch := omega) only [sd, sb]; omega) | (simp (disch := omega) [sd] <;> fail) | (simp (disch := omega) [sd]; omega) | (simp [sd, *] <;> fail) | fail) ?_
    | refine X.g1Fs rfl (by first | rfl | omega | (simp (disch := omega) only [sd, sb]; omega) | (simp (disch := omega) [sd] <;> fail) | (simp (disch := omega) [sd]; omega) | (simp [sd, *] <;> fail) | fail) ?_
    | refine X.pickTs rfl (by first | rfl | omega | (simp (disch := omega) only [sd, sb]; omega) | (simp (disch := omega) [sd] <;> fail) | (simp (disch := omega) [sd]; omega) | (simp [sd, *] <;> fail) | fail) (fun _ => rfl) ?_
    | refine X.pickFs rfl (by first | rfl | omega | (simp (disch := omega) only [sd, sb]; omega) | (simp (disch := omega) [sd] <;> fail) | (simp (disch := omega) [sd]; omega) | (simp [sd, *] <;> fail) | fail) (fun _ => rfl) ?_
    | refine X.mov (by conv => lhs; whnf) (by first | rfl | assumption) ?_
    )
  refine X.pcall (clears_ok _ k) (.gs2 (req_clo _) (.gs2 (res_clo _) (.nil _))) rfl rfl rfl ?_
  repeat (first
    | refine X.lpb ?_
    | refine X.seq ?_
    | refine X.skip ?_
    | refine X.ret ?_
    | refine X.exit ?_
    | refine X.blk ?_
    | refine X.sn ?_
    | refine X.se ?_
    | refine X.sr ?_
    | refine X.bn ?_
    | refine X.br ?_
    | refine X.bh ?_
    | refine X.bm rfl ?_
    | refine X.pn ?_
    | refine X.gn ?_
    | refine X.g0 ?_
    | refine X.ln ?_
    | refine X.finn ?_
    | refine X.reg0 (by conv => lhs; reduce) ?_
    | refine X.reg1 (by conv => lhs; reduce) ?_
    | refine X.gt rfl ?_
    | refine X.iav (by conv => lhs; whnf) (by conv => lhs; whnf) (by first | rfl | omega | (simp (disch := omega) only [sd, sb]; omega) | (simp (disch := omega) [sd] <;> fail) | (simp (disch := omega) [sd]; omega) | (simp [sd, *] <;> fail) | fail) (by first | exact bs_getD (by first | rfl | omega | (simp (disch := omega) only [sd, sb]; omega) | (simp (disch := omega) [sd] <;> fail) | (simp (disch := omega) [sd]; omega) | (simp [sd, *] <;> fail) | fail) | rfl) ?_
    | refine X.o0 (fun _ _ => rfl) ?_
    | refine X.o1 (fun _ _ => rfl) (by first | rfl | omega | (simp (disch := omega) only [sd, sb]; omega) | (simp (disch := omega) [sd] <;> fail) | (simp (disch := omega) [sd]; omega) | (simp [sd, *] <;> fail) | fail) ?_
    | refine X.o2 (fun _ _ => rfl) (by first | rfl | omega | (simp (disch := omega) only [sd, sb]; omega) | (simp (disch := omega) [sd] <;> fail) | (simp (disch := omega) [sd]; omega) | (simp [sd, *] <;> fail) | fail) (by first | rfl | omega | (simp (disch := omega) only [sd, sb]; omega) | (simp (disch := omega) [sd] <;> fail) | (simp (disch := omega) [sd]; omega) | (simp [sd, *] <;> fail) | fail) ?_
    | refine X.o3 (fun _ _ => rfl) (by first | rfl | omega | (simp (disch := omega) only [sd, sb]; omega) | (simp (disch := omega) [sd] <;> fail) | (simp (disch := omega) [sd]; omega) | (simp [sd, *] <;> fail) | fail) (by first | rfl | omega | (simp (disch := omega) only [sd, sb]; omega) | (simp (disch := omega) [sd] <;> fail) | (simp (disch := omega) [sd]; omega) | (simp [sd, *] <;> fail) | fail) (by first | rfl | omega | (simp (disch := omega) only [sd, sb]; omega) | (simp (disch := omega) [sd] <;> fail) | (simp (disch := omega) [sd]; omega) | (simp [sd, *] <;> fail) | fail) ?_
    | refine X.pickT rfl (fun _ => rfl) ?_
    | refine X.pickF rfl (fun _ => rfl) ?_
    | refine X.condT rfl ?_
    | refine X.condF rfl ?_
    | refine X.g1T rfl ?_
    | refine X.g1F rfl ?_
    | refine X.alc rfl ?_
    | refine X.box (by conv => lhs; whnf) rfl rfl ?_
    | refine X.stl (by conv => lhs; whnf) rfl rfl rfl rfl rfl rfl rfl ?_
    | refine X.apf (by conv => lhs; whnf) (by conv => lhs; whnf) (by first | exact Els.vs _ | exact Els.st _ | exact Els.ns) (by first | rfl | (simp only [hgs, if_true]; rfl)) rfl rfl (by first | rfl | omega | (simp (disch := omega) only [sd, sb]; omega) | (simp (disch := omega) [sd] <;> fail) | (simp (disch := omega) [sd]; omega) | (simp [sd, *] <;> fail) | fail) (by first | rfl | omega | (simp (disch := omega) only [sd, sb]; omega) | (simp (disch := omega) [sd] <;> fail) | (simp (disch := omega) [sd]; omega) | (simp [sd, *] <;> fail) | fail) (by conv => lhs; whnf) ?_
    | refine X.mks (by conv => lhs; whnf) (by conv => lhs; whnf) (by first | rfl | omega | (simp (disch := omega) only [sd, sb]; omega) | (simp (disch := omega) [sd] <;> fail) | (simp (disch := omega) [sd]; omega) | (simp [sd, *] <;> fail) | fail) (by first | rfl | omega | (simp (disch := omega) only [sd, sb]; omega) | (simp (disch := omega) [sd] <;> fail) | (simp (disch := omega) [sd]; omega) | (simp [sd, *] <;> fail) | fail) (by first | rfl | omega | (simp (disch := omega) only [sd, sb]; omega) | (simp (disch := omega) [sd] <;> fail) | (simp (disch := omega) [sd]; omega) | (simp [sd, *] <;> fail) | fail) (by decide) (by conv => lhs; whnf) (by conv => lhs; whnf) ?_
    | refine X.len (by conv => lhs; whnf) (by first | rfl | assumption) ?_
    | refine X.condTs rfl (by first | rfl | omega | (simp (disch := omega) only [sd, sb]; omega) | (simp (disch := omega) [sd] <;> fail) | (simp (disch := omega) [sd]; omega) | (simp [sd, *] <;> fail) | fail) ?_
    | refine X.condFs rfl (by first | rfl | omega | (simp (disch := omega) only [sd, sb]; omega) | (simp (disch := omega) [sd] <;> fail) | (simp (disch := omega) [sd]; omega) | (simp [sd, *] <;> fail) | fail) ?_
    | refine X.g1Ts rfl (by first | rfl | omega | (simp (disch := omega) only [sd, sb]; omega) | (simp (disch := omega) [sd] <;> fail) | (simp (disch := omega) [sd]; omega) | (simp [sd, *] <;> fail) | fail) ?_
    | refine X.g1Fs rfl (by first | rfl | omega | (simp (disch := omega) only [sd, sb]; omega) | (simp (disch := omega) [sd] <;> fail) | (simp (disch := omega) [sd]; omega) | (simp [sd, *] <;> fail) | fail) ?_
    | refine X.pickTs rfl (by first | rfl | omega | (simp (disch := omega) only [sd, sb]; omega) | (simp (disch := omega) [sd] <;> fail) | (simp (disch := omega) [sd]; omega) | (simp [sd, *] <;> fail) | fail) (fun _ => rfl) ?_
    | refine X.pickFs rfl (by first | rfl | omega | (simp (disch := omega) only [sd, sb]; omega) | (simp (disch := omega) [sd] <;> fail) | (simp (disch := omega) [sd]; omega) | (simp [sd, *] <;> fail) | fail) (fun _ => rfl) ?_
    | refine X.mov (by conv => lhs; whnf) (by first | rfl | assumption) ?_
    )
  refine X.pcall mruns_ok (.nil _) rfl rfl rfl ?_
  repeat (first
    | refine X.lpb ?_
    | refine X.seq ?_
    | refine X.skip ?_
    | refine X.ret ?_
    | refine X.exit ?_
    | refine X.blk ?_
    | refine X.sn ?_
    | refine X.se ?_
    | refine X.sr ?_
    | refine X.bn ?_
    | refine X.br ?_
    | refine X.bh ?_
    | refine X.bm rfl ?_
    | refine X.pn ?_
    | refine X.gn ?_
    | refine X.g0 ?_
    | refine X.ln ?_
    | refine X.finn ?_
    | refine X.reg0 (by conv => lhs; reduce) ?_
    | refine X.reg1 (by conv => lhs; reduce) ?_
    | refine X.gt rfl ?_
    | refine X.iav (by conv => lhs; whnf) (by conv => lhs; whnf) (by first | rfl | omega | (simp (disch := omega) only [sd, sb]; omega) | (simp (disch := omega) [sd] <;> fail) | (simp (disch := omega) [sd]; omega) | (simp [sd, *] <;> fail) | fail) (by first | exact bs_getD (by first | rfl | omega | (simp (disch := omega) only [sd, sb]; omega) | (simp (disch := omega) [sd] <;> fail) | (simp (disch := omega) [sd]; omega) | (simp [sd, *] <;> fail) | fail) | rfl) ?_
    | refine X.o0 (fun _ _ => rfl) ?_
    | refine X.o1 (fun _ _ => rfl) (by first | rfl | omega | (simp (disch := omega) only [sd, sb]; omega) | (simp (disch := omega) [sd] <;> fail) | (simp (disch := omega) [sd]; omega) | (simp [sd, *] <;> fail) | fail) ?_
    | refine X.o2 (fun _ _ => rfl) (by first | rfl | omega | (simp (disch := omega) only [sd, sb]; omega) | (simp (disch := omega) [sd] <;> fail) | (simp (disch := omega) [sd]; omega) | (simp [sd, *] <;> fail) | fail) (by first | rfl | omega | (simp (disch := omega) only [sd, sb]; omega) | (simp (disch := omega) [sd] <;> fail) | (simp (disch := omega) [sd]; omega) | (simp [sd, *] <;> fail) | fail) ?_
    | refine X.o3 (fun _ _ => rfl) (by first | rfl | omega | (simp (disch := omega) only [sd, sb]; omega) | (simp (disch := omega) [sd] <;> fail) | (simp (disch := omega) [sd]; omega) | (simp [sd, *] <;> fail) | fail) (by first | rfl | omega | (simp (disch := omega) only [sd, sb]; omega) | (simp (disch := omega) [sd] <;> fail) | (simp (disch := omega) [sd]; omega) | (simp [sd, *] <;> fail) | fail) (by first | rfl | omega | (simp (disch := omega) only [sd, sb]; omega) | (simp (disch := omega) [sd] <;> fail) | (simp (disch := omega) [sd]; omega) | (simp [sd, *] <;> fail) | fail) ?_
    | refine X.pickT rfl (fun _ => rfl) ?_
    | refine X.pickF rfl (fun _ => rfl) ?_
    | refine X.condT rfl ?_
    | refine X.condF rfl ?_
    | refine X.g1T rfl ?_
    | refine X.g1F rfl ?_
    | refine X.alc rfl ?_
    | refine X.box (by conv => lhs; whnf) rfl rfl ?_
    | refine X.stl (by conv => lhs; whnf) rfl rfl rfl rfl rfl rfl rfl ?_
    | refine X.apf (by conv => lhs; whnf) (by conv => lhs; whnf) (by first | exact Els.vs _ | exact Els.st _ | exact Els.ns) (by first | rfl | (simp only [hgs, if_true]; rfl)) rfl rfl (by first | rfl | omega | (simp (disch := omega) only [sd, sb]; omega) | (simp (disch := omega) [sd] <;> fail) | (simp (disch := omega) [sd]; omega) | (simp [sd, *] <;> fail) | fail) (by first | rfl | omega | (simp (disch := omega) only [sd, sb]; omega) | (simp (disch := omega) [sd] <;> fail) | (simp (disch := omega) [sd]; omega) | (simp [sd, *] <;> fail) | fail) (by conv => lhs; whnf) ?_
    | refine X.mks (by conv => lhs; whnf) (by conv => lhs; whnf) (by first | rfl | omega | (simp (disch := omega) only [sd, sb]; omega) | (simp (disch := omega) [sd] <;> fail) | (simp (disch := omega) [sd]; omega) | (simp [sd, *] <;> fail) | fail) (by first | rfl | omega | (simp (disch := omega) only [sd, sb]; omega) | (simp (disch := omega) [sd] <;> fail) | (simp (disch := omega) [sd]; omega) | (simp [sd, *] <;> fail) | fail) (by first | rfl | omega | (simp (disch := omega) only [sd, sb]; omega) | (simp (disch := omega) [sd] <;> fail) | (simp (disch := omega) [sd]; omega) | (simp [sd, *] <;> fail) | fail) (by decide) (by conv => lhs; whnf) (by conv => lhs; whnf) ?_
    | refine X.len (by conv => lhs; whnf) (by first | rfl | assumption) ?_
    | refine X.condTs rfl (by first | rfl | omega | (simp (disch := omega) only [sd, sb]; omega) | (simp (disch := omega) [sd] <;> fail) | (simp (disch := omega) [sd]; omega) | (simp [sd, *] <;> fail) | fail) ?_
    | refine X.condFs rfl (by first | rfl | omega | (simp (disch := omega) only [sd, sb]; omega) | (simp (disch := omega) [sd] <;> fail) | (simp (disch := omega) [sd]; omega) | (simp [sd, *] <;> fail) | fail) ?_
    | refine X.g1Ts rfl (by first | rfl | omega | (simp (disch := omega) only [sd, sb]; omega) | (simp (disch := omega) [sd] <;> fail) | (simp (disch := omega) [sd]; omega) | (simp [sd, *] <;> fail) | fail) ?_
    | refine X.g1Fs rfl (by first | rfl | omega | (simp (disch := omega) only [sd, sb]; omega) | (simp (disch := omega) [sd] <;> fail) | (simp (disch := omega) [sd]; omega) | (simp [sd, *] <;> fail) | fail) ?_
    | refine X.pickTs rfl (by first | rfl | omega | (simp (disch := omega) only [sd, sb]; omega) | (simp (disch := omega) [sd] <;> fail) | (simp (disch := omega) [sd]; omega) | (simp [sd, *] <;> fail) | fail) (fun _ => rfl) ?_
    | refine X.pickFs rfl (by first | rfl | omega | (simp (disch := omega) only [sd, sb]; omega) | (simp (disch := omega) [sd] <;> fail) | (simp (disch := omega) [sd]; omega) | (simp [sd, *] <;> fail) | fail) (fun _ => rfl) ?_
    | refine X.mov (by conv => lhs; whnf) (by first | rfl | assumption) ?_
    )
  exact X.fin (fun _ => rfl) rfl rfl

theorem safe_1 (n k : Int) (hw : EvP F 26 c26 [.it .i64 n, .it .i64 100, .it .i64 599] [.it .i64 k]) : EvD F (stepD d17 [.st [72, 69, 65, 68], .it .i64 n] h0) (Rt (.bo true) h0) := by
  refine X.fn ?_
  repeat (first
    | refine X.lpb ?_
    | refine X.seq ?_
    | refine X.skip ?_
    | refine X.ret ?_
    | refine X.exit ?_
    | refine X.blk ?_
    | refine X.sn ?_
    | refine X.se ?_
    | refine X.sr ?_
    | refine X.bn ?_
    | refine X.br ?_
    | refine X.bh ?_
    | refine X.bm rfl ?_
    | refine X.pn ?_
    | refine X.gn ?_
    | refine X.g0 ?_
    | refine X.ln ?_
    | refine X.finn ?_
    | refine X.reg0 (by conv => lhs; reduce) ?_
    | refine X.reg1 (by conv => lhs; reduce) ?_
    | refine X.gt rfl ?_
    | refine X.iav (by conv => lhs; whnf) (by conv => lhs; whnf) (by first | rfl | omega | (simp (disch := omega) only [sd, sb]; omega) | (simp (disch := omega) [sd] <;> fail) | (simp (disch := omega) [sd]; omega) | (simp [sd, *] <;> fail) | fail) (by first | exact bs_getD (by first | rfl | omega | (simp (disch := omega) only [sd, sb]; omega) | (simp (disch := omega) [sd] <;> fail) | (simp (disch := omega) [sd]; omega) | (simp [sd, *] <;> fail) | fail) | rfl) ?_
    | refine X.o0 (fun _ _ => rfl) ?_
    | refine X.o1 (fun _ _ => rfl) (by first | rfl | omega | (simp (disch := omega) only [sd, sb]; omega) | (simp (disch := omega) [sd] <;> fail) | (simp (disch := omega) [sd]; omega) | (simp [sd, *] <;> fail) | fail) ?_
    | refine X.o2 (fun _ _ => rfl) (by first | rfl | omega | (simp (disch := omega) only [sd, sb]; omega) | (simp (disch := omega) [sd] <;> fail) | (simp (disch := omega) [sd]; omega) | (simp [sd, *] <;> fail) | fail) (by first | rfl | omega | (simp (disch := omega) only [sd, sb]; omega) | (simp (disch := omega) [sd] <;> fail) | (simp (disch := omega) [sd]; omega) | (simp [sd, *] <;> fail) | fail) ?_
    | refine X.o3 (fun _ _ => rfl) (by first | rfl | omega | (simp (disch := omega) only [sd, sb]; omega) | (simp (disch := omega) [sd] <;> fail) | (simp (disch := omega) [sd]; omega) | (simp [sd, *] <;> fail) | fail) (by first | rfl | omega | (simp (disch := omega) only [sd, sb]; omega) | (simp (disch := omega) [sd] <;> fail) | (simp (disch := omega) [sd]; omega) | (simp [sd, *] <;> fail) | fail) (by first | rfl | omega | (simp (disch := omega) only [sd, sb]; omega) | (simp (disch := omega) [sd] <;> fail) | (simp (disch := omega) [sd]; omega) | (simp [sd, *] <;> fail) | fail) ?_
    | refine X.pickT rfl (fun _ => rfl) ?_
    | refine X.pickF rfl (fun _ => rfl) ?_
    | refine X.condT rfl ?_
    | refine X.condF rfl ?_
    | refine X.g1T rfl ?_
    | refine X.g1F rfl ?_
    | refine X.alc rfl ?_
    | refine X.box (by conv => lhs; whnf) rfl rfl ?_
    | refine X.stl (by conv => lhs; whnf) rfl rfl rfl rfl rfl rfl rfl ?_
    | refine X.apf (by conv => lhs; whnf) (by conv => lhs; whnf) (by first | exact Els.vs _ | exact Els.st _ | exact Els.ns) (by first | rfl | (simp only [hgs, if_true]; rfl)) rfl rfl (by first | rfl | omega | (simp (disch := omega) only [sd, sb]; omega) | (simp (disch := omega) [sd] <;> fail) | (simp (disch := omega) [sd]; omega) | (simp [sd, *] <;> fail) | fail) (by first | rfl | omega | (simp (disch := omega) only [sd, sb]; omega) | (simp (disch := omega) [sd] <;> fail) | (simp (disch := omega) [sd]; omega) | (simp [sd, *] <;> fail) | fail) (by conv => lhs; whnf) ?_
    | refine X.mks (by conv => lhs; whnf) (by conv => lhs; whnf) (by first | rfl | omega | (simp (disch := omega) only [sd, sb]; omega) | (simp (disch := omega) [sd] <;> fail) | (simp (disch := omega) [sd]; omega) | (simp [sd, *] <;> fail) | fail) (by first | rfl | omega | (simp (disch := omega) only [sd, sb]; omega) | (simp (disch := omega) [sd] <;> fail) | (simp (disch := omega) [sd]; omega) | (simp [sd, *] <;> fail) | fail) (by first | rfl | omega | (simp (disch := omega) only [sd, sb]; omega) | (simp (disch := omega) [sd] <;> fail) | (simp (disch := omega) [sd]; omega) | (simp [sd, *] <;> fail) | fail) (by decide) (by conv => lhs; whnf) (by conv => lhs; whnf) ?_
    | refine X.len (by conv => lhs; whnf) (by first | rfl | assumption) ?_
    | refine X.condTs rfl (by first | rfl | omega | (simp (disch := omega) only [sd, sb]; omega) | (simp (disch := omega) [sd] <;> fail) | (simp (disch := omega) [sd]; omega) | (simp [sd, *] <;> fail) | fail) ?_
    | refine X.condFs rfl (by first | rfl | omega | (simp (disch := omega) only [sd, sb]; omega) | (simp (disch := omega) [sd] <;> fail) | (simp (disch := omega) [sd]; omega) | (simp [sd, *] <;> fail) | fail) ?_
    | refine X.g1Ts rfl (by first | rfl | omega | (simp (disch := omega) only [sd, sb]; omega) | (simp (disch := omega) [sd] <;> fail) | (simp (disch := omega) [sd]; omega) | (simp [sd, *] <;> fail) | fail) ?_
    | refine X.g1Fs rfl (by first | rfl | omega | (simp (disch := omega) only [sd, sb]; omega) | (simp (disch := omega) [sd] <;> fail) | (simp (disch := omega) [sd]; omega) | (simp [sd, *] <;> fail) | fail) ?_
    | refine X.pickTs rfl (by first | rfl | omega | (simp (disch := omega) only [sd, sb]; omega) | (simp (disch := omega) [sd] <;> fail) | (simp (disch := omega) [sd]; omega) | (simp [sd, *] <;> fail) | fail) (fun _ => rfl) ?_
    | refine X.pickFs rfl (by first | rfl | omega | (simp (disch := omega) only [sd, sb]; omega) | (simp (disch := omega) [sd] <;> fail) | (simp (disch := omega) [sd]; omega) | (simp [sd, *] <;> fail) | fail) (fun _ => rfl) ?_
    | refine X.mov (by conv => lhs; whnf) (by first | rfl | assumption) ?_
    )
  refine X.pcall hw (.s (clo_it _ _) (.s (clo_it _ _) (.s (clo_it _ _) (.nil _)))) rfl rfl rfl ?_
  repeat (first
    | refine X.lpb ?_
    | refine X.seq ?_
    | refine X.skip ?_
    | refine X.ret ?_
    | refine X.exit ?_
    | refine X.blk ?_
    | refine X.sn ?_
    | refine X.se ?_
    | refine X.sr ?_
    | refine X.bn ?_
    | refine X.br ?_
    | refine X.bh ?_
    | refine X.bm rfl ?_
    | refine X.pn ?_
    | refine X.gn ?_
    | refine X.g0 ?_
    | refine X.ln ?_
    | refine X.finn ?_
    | refine X.reg0 (by conv => lhs; reduce) ?_
    | refine X.reg1 (by conv => lhs; reduce) ?_
    | refine X.gt rfl ?_
    | refine X.iav (by conv => lhs; whnf) (by conv => lhs; whnf) (by first | rfl | omega | (simp (disch := omega) only [sd, sb]; omega) | (simp (disch := omega) [sd] <;> fail) | (simp (disch := omega) [sd]; omega) | (simp [sd, *] <;> fail) | fail) (by first | exact bs_getD (by first | rfl | omega | (simp (disch := omega) only [sd, sb]; omega) | (simp (disch := omega) [sd] <;> fail) | (simp (disch := omega) [sd]; omega) | (simp [sd, *] <;> fail) | fail) | rfl) ?_
    | refine X.o0 (fun _ _ => rfl) ?_
    | refine X.o1 (fun _ _ => rfl) (by first | rfl | omega | (simp (disch := omega) only [sd, sb]; omega) | (simp (disch := omega) [sd] <;> fail) | (simp (disch := omega) [sd]; omega) | (simp [sd, *] <;> fail) | fail) ?_
    | refine X.o2 (fun _ _ => rfl) (by first | rfl | omega | (simp (disch := omega) only [sd, sb]; omega) | (simp (disch := omega) [sd] <;> fail) | (simp (disch := omega) [sd]; omega) | (simp [sd, *] <;> fail) | fail) (by first | rfl | omega | (simp (disch := omega) only [sd, sb]; omega) | (simp (disch := omega) [sd] <;> fail) | (simp (disch := omega) [sd]; omega) | (simp [sd, *] <;> fail) | fail) ?_
    | refine X.o3 (fun _ _ => rfl) (by first | rfl | omega | (simp (disch := omega) only [sd, sb]; omega) | (simp (disch := omega) [sd] <;> fail) | (simp (disch := omega) [sd]; omega) | (simp [sd, *] <;> fail) | fail) (by first | rfl | omega | (simp (disch := omega) only [sd, sb]; omega) | (simp (disch := omega) [sd] <;> fail) | (simp (disch := omega) [sd]; omega) | (simp [sd, *] <;> fail) | fail) (by first | rfl | omega | (simp (disch := omega) only [sd, sb]; omega) | (simp (disch := omega) [sd] <;> fail) | (simp (disch := omega) [sd]; omega) | (simp [sd, *] <;> fail) | fail) ?_
    | refine X.pickT rfl (fun _ => rfl) ?_
    | refine X.pickF rfl (fun _ => rfl) ?_
    | refine X.condT rfl ?_
    | refine X.condF rfl ?_
    | refine X.g1T rfl ?_
    | refine X.g1F rfl ?_
    | refine X.alc rfl ?_
    | refine X.box (by conv => lhs; whnf) rfl rfl ?_
    | refine X.stl (by conv => lhs; whnf) rfl rfl rfl rfl rfl rfl rfl ?_
    | refine X.apf (by conv => lhs; whnf) (by conv => lhs; whnf) (by first | exact Els.vs _ | exact Els.st _ | exact Els.ns) (by first | rfl | (simp only [hgs, if_true]; rfl)) rfl rfl (by first | rfl | omega | (simp (disch := omega) only [sd, sb]; omega) | (simp (disch := omega) [sd] <;> fail) | (simp (disch := omega) [sd]; omega) | (simp [sd, *] <;> fail) | fail) (by first | rfl | omega | (simp (disch := omega) only [sd, sb]; omega) | (simp (disch := omega) [sd] <;> fail) | (simp (disch := omega) [sd]; omega) | (simp [sd, *] <;> fail) | fail) (by conv => lhs; whnf) ?_
    | refine X.mks (by conv => lhs; whnf) (by conv => lhs; whnf) (by first | rfl | omega | (simp (disch := omega) only [sd, sb]; omega) | (simp (disch := omega) [sd] <;> fail) | (simp (disch := omega) [sd]; omega) | (simp [sd, *] <;> fail) | fail) (by first | rfl | omega | (simp (disch := omega) only [sd, sb]; omega) | (simp (disch := omega) [sd] <;> fail) | (simp (disch := omega) [sd]; omega) | (simp [sd, *] <;> fail) | fail) (by first | rfl | omega | (simp (disch := omega) only [sd, sb]; omega) | (simp (disch := omega) [sd] <;> fail) | (simp (disch := omega) [sd]; omega) | (simp [sd, *] <;> fail) | fail) (by decide) (by conv => lhs; whnf) (by conv => lhs; whnf) ?_
    | refine X.len (by conv => lhs; whnf) (by first | rfl | assumption) ?_
    | refine X.condTs rfl (by first | rfl | omega | (simp (disch := omega) only [sd, sb]; omega) | (simp (disch := omega) [sd] <;> fail) | (simp (disch := omega) [sd]; omega) | (simp [sd, *] <;> fail) | fail) ?_
    | refine X.condFs rfl (by first | rfl | omega | (simp (disch := omega) only [sd, sb]; omega) | (simp (disch := omega) [sd] <;> fail) | (simp (disch := omega) [sd]; omega) | (simp [sd, *] <;> fail) | fail) ?_
    | refine X.g1Ts rfl (by first | rfl | omega | (simp (disch := omega) only [sd, sb]; omega) | (simp (disch := omega) [sd] <;> fail) | (simp (disch := omega) [sd]; omega) | (simp [sd, *] <;> fail) | fail) ?_
    | refine X.g1Fs rfl (by first | rfl | omega | (simp (disch := omega) only [sd, sb]; omega) | (simp (disch := omega) [sd] <;> fail) | (simp (disch := omega) [sd]; omega) | (simp [sd, *] <;> fail) | fail) ?_
    | refine X.pickTs rfl (by first | rfl | omega | (simp (disch := omega) only [sd, sb]; omega) | (simp (disch := omega) [sd] <;> fail) | (simp (disch := omega) [sd]; omega) | (simp [sd, *] <;> fail) | fail) (fun _ => rfl) ?_
    | refine X.pickFs rfl (by first | rfl | omega | (simp (disch := omega) only [sd, sb]; omega) | (simp (disch := omega) [sd] <;> fail) | (simp (disch := omega) [sd]; omega) | (simp [sd, *] <;> fail) | fail) (fun _ => rfl) ?_
    | refine X.mov (by conv => lhs; whnf) (by first | rfl | assumption) ?_
    )
  refine X.pcall (clears_ok _ k) (.gs2 (req_clo _) (.gs2 (res_clo _) (.nil _))) rfl rfl rfl ?_
  repeat (first
    | refine X.lpb ?_
    | refine X.seq ?_
    | refine X.skip ?_
    | refine X.ret ?_
    | refine X.exit ?_
    | refine X.blk ?_
    | refine X.sn ?_
    | refine X.se ?_
    | refine X.sr ?_
    | refine X.bn ?_
    | refine X.br ?_
    | refine X.bh ?_
    | refine X.bm rfl ?_
    | refine X.pn ?_
    | refine X.gn ?_
    | refine X.g0 ?_
    | refine X.ln ?_
    | refine X.finn ?_
    | refine X.reg0 (by conv => lhs; reduce) ?_
    | refine X.reg1 (by conv => lhs; reduce) ?_
    | refine X.gt rfl ?_
    | refine X.iav (by conv => lhs; whnf) (by conv => lhs; whnf) (by first | rfl | omega | (simp (disch := omega) only [sd, sb]; omega) | (simp (disch := omega) [sd] <;> fail) | (simp (disch := omega) [sd]; omega) | (simp [sd, *] <;> fail) | fail) (by first | exact bs_getD (by first | rfl | omega | (simp (disch := omega) only [sd, sb]; omega) | (simp (disch := omega) [sd] <;> fail) | (simp (disch := omega) [sd]; omega) | (simp [sd, *] <;> fail) | fail) | rfl) ?_
    | refine X.o0 (fun _ _ => rfl) ?_
    | refine X.o1 (fun _ _ => rfl) (by first | rfl | omega | (simp (disch := omega) only [sd, sb]; omega) | (simp (disch := omega) [sd] <;> fail) | (simp (disch := omega) [sd]; omega) | (simp [sd, *] <;> fail) | fail) ?_
    | refine X.o2 (fun _ _ => rfl) (by first | rfl | omega | (simp (disch := omega) only [sd, sb]; omega) | (simp (disch := omega) [sd] <;> fail) | (simp (disch := omega) [sd]; omega) | (simp [sd, *] <;> fail) | fail) (by first | rfl | omega | (simp (disch := omega) only [sd, sb]; omega) | (simp (disch := omega) [sd] <;> fail) | (simp (disch := omega) [sd]; omega) | (simp [sd, *] <;> fail) | fail) ?_
    | refine X.o3 (fun _ _ => rfl) (by first | rfl | omega | (simp (disch := omega) only [sd, sb]; omega) | (simp (disch := omega) [sd] <;> fail) | (simp (disch := omega) [sd]; omega) | (simp [sd, *] <;> fail) | fail) (by first | rfl | omega | (simp (disch := omega) only [sd, sb]; omega) | (simp (disch := omega) [sd] <;> fail) | (simp (disch := omega) [sd]; omega) | (simp [sd, *] <;> fail) | fail) (by first | rfl | omega | (simp (disch := omega) only [sd, sb]; omega) | (simp (disch := omega) [sd] <;> fail) | (simp (disch := omega) [sd]; omega) | (simp [sd, *] <;> fail) | fail) ?_
    | refine X.pickT rfl (fun _ => rfl) ?_
    | refine X.pickF rfl (fun _ => rfl) ?_
    | refine X.condT rfl ?_
    | refine X.condF rfl ?_
    | refine X.g1T rfl ?_
    | refine X.g1F rfl ?_
    | refine X.alc rfl ?_
    | refine X.box (by conv => lhs; whnf) rfl rfl ?_
    | refine X.stl (by conv => lhs; whnf) rfl rfl rfl rfl rfl rfl rfl ?_
    | refine X.apf (by conv => lhs; whnf) (by conv => lhs; whnf) (by first | exact Els.vs _ | exact Els.st _ | exact Els.ns) (by first | rfl | (simp only [hgs, if_true]; rfl)) rfl rfl (by first | rfl | omega | (simp (disch := omega) only [sd, sb]; omega) | (simp (disch := omega) [sd] <;> fail) | (simp (disch := omega) [sd]; omega) | (simp [sd, *] <;> fail) | fail) (by first | rfl | omega | (simp (disch := omega) only [sd, sb]; omega) | (simp (disch := omega) [sd] <;> fail) | (simp (disch := omega) [sd]; omega) | (simp [sd, *] <;> fail) | fail) (by conv => lhs; whnf) ?_
    | refine X.mks (by conv => lhs; whnf) (by conv => lhs; whnf) (by first | rfl | omega | (simp (disch := omega) only [sd, sb]; omega) | (simp (disch := omega) [sd] <;> fail) | (simp (disch := omega) [sd]; omega) | (simp [sd, *] <;> fail) | fail) (by first | rfl | omega | (simp (disch := omega) only [sd, sb]; omega) | (simp (disch := omega) [sd] <;> fail) | (simp (disch := omega) [sd]; omega) | (simp [sd, *] <;> fail) | fail) (by first | rfl | omega | (simp (disch := omega) only [sd, sb]; omega) | (simp (disch := omega) [sd] <;> fail) | (simp (disch := omega) [sd]; omega) | (simp [sd, *] <;> fail) | fail) (by decide) (by conv => lhs; whnf) (by conv => lhs; whnf) ?_
    | refine X.len (by conv => lhs; whnf) (by first | rfl | assumption) ?_
    | refine X.condTs rfl (by first | rfl | omega | (simp (disch := omega) only [sd, sb]; omega) | (simp (disch := omega) [sd] <;> fail) | (simp (disch := omega) [sd]; omega) | (simp [sd, *] <;> fail) | fail) ?_
    | refine X.condFs rfl (by first | rfl | omega | (simp (disch := omega) only [sd, sb]; omega) | (simp (disch := omega) [sd] <;> fail) | (simp (disch := omega) [sd]; omega) | (simp [sd, *] <;> fail) | fail) ?_
    | refine X.g1Ts rfl (by first | rfl | omega | (simp (disch := omega) only [sd, sb]; omega) | (simp (disch := omega) [sd] <;> fail) | (simp (disch := omega) [sd]; omega) | (simp [sd, *] <;> fail) | fail) ?_
    | refine X.g1Fs rfl (by first | rfl | omega | (simp (disch := omega) only [sd, sb]; omega) | (simp (disch := omega) [sd] <;> fail) | (simp (disch := omega) [sd]; omega) | (simp [sd, *] <;> fail) | fail) ?_
    | refine X.pickTs rfl (by first | rfl | omega | (simp (disch := omega) only [sd, sb]; omega) | (simp (disch := omega) [sd] <;> fail) | (simp (disch := omega) [sd]; omega) | (simp [sd, *] <;> fail) | fail) (fun _ => rfl) ?_
    | refine X.pickFs rfl (by first | rfl | omega | (simp (disch := omega) only [sd, sb]; omega) | (simp (disch := omega) [sd] <;> fail) | (simp (disch := omega) [sd]; omega) | (simp [sd, *] <;> fail) | fail) (fun _ => rfl) ?_
    | refine X.mov (by conv => lhs; whnf) (by first | rfl | assumption) ?_
    )
  refine X.pcall mruns_ok (.nil _) rfl rfl rfl ?_
  repeat (first
    | refine X.lpb ?_
    | refine X.seq ?_
    | refine X.skip ?_
    | refine X.ret ?_
    | refine X.exit ?_
    | refine X.blk ?_
    | refine X.sn ?_
    | refine X.se ?_
    | refine X.sr ?_
    | refine X.bn ?_
    | refine X.br ?_
    | refine X.bh ?_
    | refine X.bm rfl ?_
    | refine X.pn ?_
    | refine X.gn ?_
    | refine X.g0 ?_
    | refine X.ln ?_
    | refine X.finn ?_
    | refine X.reg0 (by conv => lhs; reduce) ?_
    | refine X.reg1 (by conv => lhs; reduce) ?_
    | refine X.gt rfl ?_
    | refine X.iav (by conv => lhs; whnf) (by conv => lhs; whnf) (by first | rfl | omega | (simp (disch := omega) only [sd, sb]; omega) | (simp (disch := omega) [sd] <;> fail) | (simp (disch := omega) [sd]; omega) | (simp [sd, *] <;> fail) | fail) (by first | exact bs_getD (by first | rfl | omega | (simp (disch := omega) only [sd, sb]; omega) | (simp (disch := omega) [sd] <;> fail) | (simp (disch := omega) [sd]; omega) | (simp [sd, *] <;> fail) | fail) | rfl) ?_
    | refine X.o0 (fun _ _ => rfl) ?_
    | refine X.o1 (fun _ _ => rfl) (by first | rfl | omega | (simp (disch := omega) only [sd, sb]; omega) | (simp (disch := omega) [sd] <;> fail) | (simp (disch := omega) [sd]; omega) | (simp [sd, *] <;> fail) | fail) ?_
    | refine X.o2 (fun _ _ => rfl) (by first | rfl | omega | (simp (disch := omega) only [sd, sb]; omega) | (simp (disch := omega) [sd] <;> fail) | (simp (disch := omega) [sd]; omega) | (simp [sd, *] <;> fail) | fail) (by first | rfl | omega | (simp (disch := omega) only [sd, sb]; omega) | (simp (disch := omega) [sd] <;> fail) | (simp (disch := omega) [sd]; omega) | (simp [sd, *] <;> fail) | fail) ?_
    | refine X.o3 (fun _ _ => rfl) (by first | rfl | omega | (simp (disch := omega) only [sd, sb]; omega) | (simp (disch := omega) [sd] <;> fail) | (simp (disch := omega) [sd]; omega) | (simp [sd, *] <;> fail) | fail) (by first | rfl | omega | (simp (disch := omega) only [sd, sb]; omega) | (simp (disch := omega) [sd] <;> fail) | (simp (disch := omega) [sd]; omega) | (simp [sd, *] <;> fail) | fail) (by first | rfl | omega | (simp (disch := omega) only [sd, sb]; omega) | (simp (disch := omega) [sd] <;> fail) | (simp (disch := omega) [sd]; omega) | (simp [sd, *] <;> fail) | fail) ?_
    | refine X.pickT rfl (fun _ => rfl) ?_
    | refine X.pickF rfl (fun _ => rfl) ?_
    | refine X.condT rfl ?_
    | refine X.condF rfl ?_
    | refine X.g1T rfl ?_
    | refine X.g1F rfl ?_
    | refine X.alc rfl ?_
    | refine X.box (by conv => lhs; whnf) rfl rfl ?_
    | refine X.stl (by conv => lhs; whnf) rfl rfl rfl rfl rfl rfl rfl ?_
    | refine X.apf (by conv => lhs; whnf) (by conv => lhs; whnf) (by first | exact Els.vs _ | exact Els.st _ | exact Els.ns) (by first | rfl | (simp only [hgs, if_true]; rfl)) rfl rfl (by first | rfl | omega | (simp (disch := omega) only [sd, sb]; omega) | (simp (disch := omega) [sd] <;> fail) | (simp (disch := omega) [sd]; omega) | (simp [sd, *] <;> fail) | fail) (by first | rfl | omega | (simp (disch := omega) only [sd, sb]; omega) | (simp (disch := omega) [sd] <;> fail) | (simp (disch := omega) [sd]; omega) | (simp [sd, *] <;> fail) | fail) (by conv => lhs; whnf) ?_
    | refine X.mks (by conv => lhs; whnf) (by conv => lhs; whnf) (by first | rfl | omega | (simp (disch := omega) only [sd, sb]; omega) | (simp (disch := omega) [sd] <;> fail) | (simp (disch := omega) [sd]; omega) | (simp [sd, *] <;> fail) | fail) (by first | rfl | omega | (simp (disch := omega) only [sd, sb]; omega) | (simp (disch := omega) [sd] <;> fail) | (simp (disch := omega) [sd]; omega) | (simp [sd, *] <;> fail) | fail) (by first | rfl | omega | (simp (disch := omega) only [sd, sb]; omega) | (simp (disch := omega) [sd] <;> fail) | (simp (disch := omega) [sd]; omega) | (simp [sd, *] <;> fail) | fail) (by decide) (by conv => lhs; whnf) (by conv => lhs; whnf) ?_
    | refine X.len (by conv => lhs; whnf) (by first | rfl | assumption) ?_
    | refine X.condTs rfl (by first | rfl | omega | (simp (disch := omega) only [sd, sb]; omega) | (simp (disch := omega) [sd] <;> fail) | (simp (disch := omega) [sd]; omega) | (simp [sd, *] <;> fail) | fail) ?_
    | refine X.condFs rfl (by first | rfl | omega | (simp (disch := omega) only [sd, sb]; omega) | (simp (disch := omega) [sd] <;> fail) | (simp (disch := omega) [sd]; omega) | (simp [sd, *] <;> fail) | fail) ?_
    | refine X.g1Ts rfl (by first | rfl | omega | (simp (disch := omega) only [sd, sb]; omega) | (simp (disch := omega) [sd] <;> fail) | (simp (disch := omega) [sd]; omega) | (simp [sd, *] <;> fail) | fail) ?_
    | refine X.g1Fs rfl (by first | rfl | omega | (simp (disch := omega) only [sd, sb]; omega) | (simp (disch := omega) [sd] <;> fail) | (simp (disch := omega) [sd]; omega) | (simp [sd, *] <;> fail) | fail) ?_
    | refine X.pickTs rfl (by first | rfl | omega | (simp (disch := omega) only [sd, sb]; omega) | (simp (disch := omega) [sd] <;> fail) | (simp (disch := omega) [sd]; omega) | (simp [sd, *] <;> fail) | fail) (fun _ => rfl) ?_
    | refine X.pickFs rfl (by first | rfl | omega | (simp (disch := omega) only [sd, sb]; omega) | (simp (disch := omega) [sd] <;> fail) | (simp (disch := omega) [sd]; omega) | (simp [sd, *] <;> fail) | fail) (fun _ => rfl) ?_
    | refine X.mov (by conv => lhs; whnf) (by first | rfl | assumption) ?_
    )
  exact X.fin (fun _ => rfl) rfl rfl

theorem safe_2 (n k : Int) (hw : EvP F 26 c26 [.it .i64 n, .it .i64 100, .it .i64 599] [.it .i64 k]) : EvD F (stepD d17 [.st [79, 80, 84, 73, 79, 78, 83], .it .i64 n] h0) (Rt (.bo true) h0) := by
  refine X.fn ?_
  repeat (first
    | refine X.lpb ?_
    | refine X.seq ?_
    | refine X.skip ?_
    | refine X.ret ?_
    | refine X.exit ?_
    | refine X.blk ?_
    | refine X.sn ?_
    | refine X.se ?_
    | refine X.sr ?_
    | refine X.bn ?_
    | refine X.br ?_
    | refine X.bh ?_
    | refine X.bm rfl ?_
    | refine X.pn ?_
    | refine X.gn ?_
    | refine X.g0 ?_
    | refine X.ln ?_
    | refine X.finn ?_
    | refine X.reg0 (by conv => lhs; reduce) ?_
    | refine X.reg1 (by conv => lhs; reduce) ?_
    | refine X.gt rfl ?_
    | refine X.iav (by conv => lhs; whnf) (by conv => lhs; whnf) (by first | rfl | omega | (simp (disch := omega) only [sd, sb]; omega) | (simp (disch := omega) [sd] <;> fail) | (simp (disch := omega) [sd]; omega) | (simp [sd, *] <;> fail) | fail) (by first | exact bs_getD (by first | rfl | omega | (simp (disch := omega) only [sd, sb]; omega) | (simp (disch := omega) [sd] <;> fail) | (simp (disch := omega) [sd]; omega) | (simp [sd, *] <;> fail) | fail) | rfl) ?_
    | refine X.o0 (fun _ _ => rfl) ?_
    | refine X.o1 (fun _ _ => rfl) (by first | rfl | omega | (simp (disch := omega) only [sd, sb]; omega) | (simp (disch := omega) [sd] <;> fail) | (simp (disch := omega) [sd]; omega) | (simp [sd, *] <;> fail) | fail) ?_
    | refine X.o2 (fun _ _ => rfl) (by first | rfl | omega | (simp (disch := omega) only [sd, sb]; omega) | (simp (disch := omega) [sd] <;> fail) | (simp (disch := omega) [sd]; omega) | (simp [sd, *] <;> fail) | fail) (by first | rfl | omega | (simp (disch := omega) only [sd, sb]; omega) | (simp (disch := omega) [sd] <;> fail) | (simp (disch := omega) [sd]; omega) | (simp [sd, *] <;> fail) | fail) ?_
    | refine X.o3 (fun _ _ => rfl) (by first | rfl | omega | (simp (disch := omega) only [sd, sb]; omega) | (simp (disch := omega) [sd] <;> fail) | (simp (disch := omega) [sd]; omega) | (simp [sd, *] <;> fail) | fail) (by first | rfl | omega | (simp (disch := omega) only [sd, sb]; omega) | (simp (disch := omega) [sd] <;> fail) | (simp (disch := omega) [sd]; omega) | (simp [sd, *] <;> fail) | fail) (by first | rfl | omega | (simp (disch := omega) only [sd, sb]; omega) | (simp (disch := omega) [sd] <;> fail) | (simp (disch := omega) [sd]; omega) | (simp [sd, *] <;> fail) | fail) ?_
    | refine X.pickT rfl (fun _ => rfl) ?_
    | refine X.pickF rfl (fun _ => rfl) ?_
    | refine X.condT rfl ?_
    | refine X.condF rfl ?_
    | refine X.g1T rfl ?_
    | refine X.g1F rfl ?_
    | refine X.alc rfl ?_
    | refine X.box (by conv => lhs; whnf) rfl rfl ?_
    | refine X.stl (by conv => lhs; whnf) rfl rfl rfl rfl rfl rfl rfl ?_
    | refine X.apf (by conv => lhs; whnf) (by conv => lhs; whnf) (by first | exact Els.vs _ | exact Els.st _ | exact Els.ns) (by first | rfl | (simp only [hgs, if_true]; rfl)) rfl rfl (by first | rfl | omega | (simp (disch := omega) only [sd, sb]; omega) | (simp (disch := omega) [sd] <;> fail) | (simp (disch := omega) [sd]; omega) | (simp [sd, *] <;> fail) | fail) (by first | rfl | omega | (simp (disch := omega) only [sd, sb]; omega) | (simp (disch := omega) [sd] <;> fail) | (simp (disch := omega) [sd]; omega) | (simp [sd, *] <;> fail) | fail) (by conv => lhs; whnf) ?_
    | refine X.mks (by conv => lhs; whnf) (by conv => lhs; whnf) (by first | rfl | omega | (simp (disch := omega) only [sd, sb]; omega) | (simp (disch := omega) [sd] <;> fail) | (simp (disch := omega) [sd]; omega) | (simp [sd, *] <;> fail) | fail) (by first | rfl | omega | (simp (disch := omega) only [sd, sb]; omega) | (simp (disch := omega) [sd] <;> fail) | (simp (disch := omega) [sd]; omega) | (simp [sd, *] <;> fail) | fail) (by first | rfl | omega | (simp (disch := omega) only [sd, sb]; omega) | (simp (disch := omega) [sd] <;> fail) | (simp (disch := omega) [sd]; omega) | (simp [sd, *] <;> fail) | fail) (by decide) (by conv => lhs; whnf) (by conv => lhs; whnf) ?_
    | refine X.len (by conv => lhs; whnf) (by first | rfl | assumption) ?_
    | refine X.condTs rfl (by first | rfl | omega | (simp (disch := omega) only [sd, sb]; omega) | (simp (disch := omega) [sd] <;> fail) | (simp (disch := omega) [sd]; omega) | (simp [sd, *] <;> fail) | fail) ?_
    | refine X.condFs rfl (by first | rfl | omega | (simp (disch := omega) only [sd, sb]; omega) | (simp (disch := omega) [sd] <;> fail) | (simp (disch := omega) [sd]; omega) | (simp [sd, *] <;> fail) | fail) ?_
    | refine X.g1Ts rfl (by first | rfl | omega | (simp (disch := omega) only [sd, sb]; omega) | (simp (disch := omega) [sd] <;> fail) | (simp (disch := omega) [sd]; omega) | (simp [sd, *] <;> fail) | fail) ?_
    | refine X.g1Fs rfl (by first | rfl | omega | (simp (disch := omega) only [sd, sb]; omega) | (simp (disch := omega) [sd] <;> fail) | (simp (disch := omega) [sd]; omega) | (simp [sd, *] <;> fail) | fail) ?_
    | refine X.pickTs rfl (by first | rfl | omega | (simp (disch := omega) only [sd, sb]; omega) | (simp (disch := omega) [sd] <;> fail) | (simp (disch := omega) [sd]; omega) | (simp [sd, *] <;> fail) | fail) (fun _ => rfl) ?_
    | refine X.pickFs rfl (by first | rfl | omega | (simp (disch := omega) only [sd, sb]; omega) | (simp (disch := omega) [sd] <;> fail) | (simp (disch := omega) [sd]; omega) | (simp [sd, *] <;> fail) | fail) (fun _ => rfl) ?_
    | refine X.mov (by conv => lhs; whnf) (by first | rfl | assumption) ?_
    )
  refine X.pcall hw (.s (clo_it _ _) (.s (clo_it _ _) (.s (clo_it _ _) (.nil _)))) rfl rfl rfl ?_
  repeat (first
    | refine X.lpb ?_
    | refine X.seq ?_
    | refine X.skip ?_
    | refine X.ret ?_
    | refine X.exit ?_
    | refine X.blk ?_
    | refine X.sn ?_
    | refine X.se ?_
    | refine X.sr ?_
    | refine X.bn ?_
    | refine X.br ?_
    | refine X.bh ?_
    | refine X.bm rfl ?_
    | refine X.pn ?_
    | refine X.gn ?_
    | refine X.g0 ?_
    | refine X.ln ?_
    | refine X.finn ?_
    | refine X.reg0 (by conv => lhs; reduce) ?_
    | refine X.reg1 (by conv => lhs; reduce) ?_
    | refine X.gt rfl ?_
    | refine X.iav (by conv => lhs; whnf) (by conv => lhs; whnf) (by first | rfl | omega | (simp (disch := omega) only [sd, sb]; omega) | (simp (disch := omega) [sd] <;> fail) | (simp (disch := omega) [sd]; omega) | (simp [sd, *] <;> fail) | fail) (by first | exact bs_getD (by first | rfl | omega | (simp (disch := omega) only [sd, sb]; omega) | (simp (disch := omega) [sd] <;> fail) | (simp (disch := omega) [sd]; omega) | (simp [sd, *] <;> fail) | fail) | rfl) ?_
    | refine X.o0 (fun _ _ => rfl) ?_
    | refine X.o1 (fun _ _ => rfl) (by first | rfl | omega | (simp (disch := omega) only [sd, sb]; omega) | (simp (disch := omega) [sd] <;> fail) | (simp (disch := omega) [sd]; omega) | (simp [sd, *] <;> fail) | fail) ?_
    | refine X.o2 (fun _ _ => rfl) (by first | rfl | omega | (simp (disch := omega) only [sd, sb]; omega) | (simp (disch := omega) [sd] <;> fail) | (simp (disch := omega) [sd]; omega) | (simp [sd, *] <;> fail) | fail) (by first | rfl | omega | (simp (disch := omega) only [sd, sb]; omega) | (simp (disch := omega) [sd] <;> fail) | (simp (disch := omega) [sd]; omega) | (simp [sd, *] <;> fail) | fail) ?_
    | refine X.o3 (fun _ _ => rfl) (by first | rfl | omega | (simp (disch := omega) only [sd, sb]; omega) | (simp (disch := omega) [sd] <;> fail) | (simp (disch := omega) [sd]; omega) | (simp [sd, *] <;> fail) | fail) (by first | rfl | omega | (simp (disch := omega) only [sd, sb]; omega) | (simp (disch := omega) [sd] <;> fail) | (simp (disch := omega) [sd]; omega) | (simp [sd, *] <;> fail) | fail) (by first | rfl | omega | (simp (disch := omega) only [sd, sb]; omega) | (simp (disch := omega) [sd] <;> fail) | (simp (disch := omega) [sd]; omega) | (simp [sd, *] <;> fail) | fail) ?_
    | refine X.pickT rfl (fun _ => rfl) ?_
    | refine X.pickF rfl (fun _ => rfl) ?_
    | refine X.condT rfl ?_
    | refine X.condF rfl ?_
    | refine X.g1T rfl ?_
    | refine X.g1F rfl ?_
    | refine X.alc rfl ?_
    | refine X.box (by conv => lhs; whnf) rfl rfl ?_
    | refine X.stl (by conv => lhs; whnf) rfl rfl rfl rfl rfl rfl rfl ?_
    | refine X.apf (by conv => lhs; whnf) (by conv => lhs; whnf) (by first | exact Els.vs _ | exact Els.st _ | exact Els.ns) (by first | rfl | (simp only [hgs, if_true]; rfl)) rfl rfl (by first | rfl | omega | (simp (disch := omega) only [sd, sb]; omega) | (simp (disch := omega) [sd] <;> fail) | (simp (disch := omega) [sd]; omega) | (simp [sd, *] <;> fail) | fail) (by first | rfl | omega | (simp (disch := omega) only [sd, sb]; omega) | (simp (disch := omega) [sd] <;> fail) | (simp (disch := omega) [sd]; omega) | (simp [sd, *] <;> fail) | fail) (by conv => lhs; whnf) ?_
    | refine X.mks (by conv => lhs; whnf) (by conv => lhs; whnf) (by first | rfl | omega | (simp (disch := omega) only [sd, sb]; omega) | (simp (disch := omega) [sd] <;> fail) | (simp (disch := omega) [sd]; omega) | (simp [sd, *] <;> fail) | fail) (by first | rfl | omega | (simp (disch := omega) only [sd, sb]; omega) | (simp (disch := omega) [sd] <;> fail) | (simp (disch := omega) [sd]; omega) | (simp [sd, *] <;> fail) | fail) (by first | rfl | omega | (simp (disch := omega) only [sd, sb]; omega) | (simp (disch := omega) [sd] <;> fail) | (simp (disch := omega) [sd]; omega) | (simp [sd, *] <;> fail) | fail) (by decide) (by conv => lhs; whnf) (by conv => lhs; whnf) ?_
    | refine X.len (by conv => lhs; whnf) (by first | rfl | assumption) ?_
    | refine X.condTs rfl (by first | rfl | omega | (simp (disch := omega) only [sd, sb]; omega) | (simp (disch := omega) [sd] <;> fail) | (simp (disch := omega) [sd]; omega) | (simp [sd, *] <;> fail) | fail) ?_
    | refine X.condFs rfl (by first | rfl | omega | (simp (disch := omega) only [sd, sb]; omega) | (simp (disch := omega) [sd] <;> fail) | (simp (disch := omega) [sd]; omega) | (simp [sd, *] <;> fail) | fail) ?_
    | refine X.g1Ts rfl (by first | rfl | omega | (simp (disch := omega) only [sd, sb]; omega) | (simp (disch := omega) [sd] <;> fail) | (simp (disch := omega) [sd]; omega) | (simp [sd, *] <;> fail) | fail) ?_
    | refine X.g1Fs rfl (by first | rfl | omega | (simp (disch := omega) only [sd, sb]; omega) | (simp (disch := omega) [sd] <;> fail) | (simp (disch := omega) [sd]; omega) | (simp [sd, *] <;> fail) | fail) ?_
    | refine X.pickTs rfl (by first | rfl | omega | (simp (disch := omega) only [sd, sb]; omega) | (simp (disch := omega) [sd] <;> fail) | (simp (disch := omega) [sd]; omega) | (simp [sd, *] <;> fail) | fail) (fun _ => rfl) ?_
    | refine X.pickFs rfl (by first | rfl | omega | (simp (disch := omega) only [sd, sb]; omega) | (simp (disch := omega) [sd] <;> fail) | (simp (disch := omega) [sd]; omega) | (simp [sd, *] <;> fail) | fail) (fun _ => rfl) ?_
    | refine X.mov (by conv => lhs; whnf) (by first | rfl | assumption) ?_
    )
  refine X.pcall (clears_ok _ k) (.gs2 (req_clo _) (.gs2 (res_clo _) (.nil _))) rfl rfl rfl ?_
  repeat (first
    | refine X.lpb ?_
    | refine X.seq ?_
    | refine X.skip ?_
    | refine X.ret ?_
    | refine X.exit ?_
    | refine X.blk ?_
    | refine X.sn ?_
    | refine X.se ?_
    | refine X.sr ?_
    | refine X.bn ?_
    | refine X.br ?_
    | refine X.bh ?_
    | refine X.bm rfl ?_
    | refine X.pn ?_
    | refine X.gn ?_
    | refine X.g0 ?_
    | refine X.ln ?_
    | refine X.finn ?_
    | refine X.reg0 (by conv => lhs; reduce) ?_
    | refine X.reg1 (by conv => lhs; reduce) ?_
    | refine X.gt rfl ?_
    | refine X.iav (by conv => lhs; whnf) (by conv => lhs; whnf) (by first | rfl | omega | (simp (disch := omega) only [sd, sb]; omega) | (simp (disch := omega) [sd] <;> fail) | (simp (disch := omega) [sd]; omega) | (simp [sd, *] <;> fail) | fail) (by first | exact bs_getD (by first | rfl | omega | (simp (disch := omega) only [sd, sb]; omega) | (simp (disch := omega) [sd] <;> fail) | (simp (disch := omega) [sd]; omega) | (simp [sd, *] <;> fail) | fail) | rfl) ?_
    | refine X.o0 (fun _ _ => rfl) ?_
    | refine X.o1 (fun _ _ => rfl) (by first | rfl | omega | (simp (disch := omega) only [sd, sb]; omega) | (simp (disch := omega) [sd] <;> fail) | (simp (disch := omega) [sd]; omega) | (simp [sd, *] <;> fail) | fail) ?_
    | refine X.o2 (fun _ _ => rfl) (by first | rfl | omega | (simp (disch := omega) only [sd, sb]; omega) | (simp (disch := omega) [sd] <;> fail) | (simp (disch := omega) [sd]; omega) | (simp [sd, *] <;> fail) | fail) (by first | rfl | omega | (simp (disch := omega) only [sd, sb]; omega) | (simp (disch := omega) [sd] <;> fail) | (simp (disch := omega) [sd]; omega) | (simp [sd, *] <;> fail) | fail) ?_
    | refine X.o3 (fun _ _ => rfl) (by first | rfl | omega | (simp (disch := omega) only [sd, sb]; omega) | (simp (disch := omega) [sd] <;> fail) | (simp (disch := omega) [sd]; omega) | (simp [sd, *] <;> fail) | fail) (by first | rfl | omega | (simp (disch := omega) only [sd, sb]; omega) | (simp (disch := omega) [sd] <;> fail) | (simp (disch := omega) [sd]; omega) | (simp [sd, *] <;> fail) | fail) (by first | rfl | omega | (simp (disch := omega) only [sd, sb]; omega) | (simp (disch := omega) [sd] <;> fail) | (simp (disch := omega) [sd]; omega) | (simp [sd, *] <;> fail) | fail) ?_
    | refine X.pickT rfl (fun _ => rfl) ?_
    | refine X.pickF rfl (fun _ => rfl) ?_
    | refine X.condT rfl ?_
    | refine X.condF rfl ?_
    | refine X.g1T rfl ?_
    | refine X.g1F rfl ?_
    | refine X.alc rfl ?_
    | refine X.box (by conv => lhs; whnf) rfl rfl ?_
    | refine X.stl (by conv => lhs; whnf) rfl rfl rfl rfl rfl rfl rfl ?_
    | refine X.apf (by conv => lhs; whnf) (by conv => lhs; whnf) (by first | exact Els.vs _ | exact Els.st _ | exact Els.ns) (by first | rfl | (simp only [hgs, if_true]; rfl)) rfl rfl (by first | rfl | omega | (simp (disch := omega) only [sd, sb]; omega) | (simp (disch := omega) [sd] <;> fail) | (simp (disch := omega) [sd]; omega) | (simp [sd, *] <;> fail) | fail) (by first | rfl | omega | (simp (disch := omega) only [sd, sb]; omega) | (simp (disch := omega) [sd] <;> fail) | (simp (disch := omega) [sd]; omega) | (simp [sd, *] <;> fail) | fail) (by conv => lhs; whnf) ?_
    | refine X.mks (by conv => lhs; whnf) (by conv => lhs; whnf) (by first | rfl | omega | (simp (disch := omega) only [sd, sb]; omega) | (simp (disch := omega) [sd] <;> fail) | (simp (disch := omega) [sd]; omega) | (simp [sd, *] <;> fail) | fail) (by first | rfl | omega | (simp (disch := omega) only [sd, sb]; omega) | (simp (disch := omega) [sd] <;> fail) | (simp (disch := omega) [sd]; omega) | (simp [sd, *] <;> fail) | fail) (by first | rfl | omega | (simp (disch := omega) only [sd, sb]; omega) | (simp (disch := omega) [sd] <;> fail) | (simp (disch := omega) [sd]; omega) | (simp [sd, *] <;> fail) | fail) (by decide) (by conv => lhs; whnf) (by conv => lhs; whnf) ?_
    | refine X.len (by conv => lhs; whnf) (by first | rfl | assumption) ?_
    | refine X.condTs rfl (by first | rfl | omega | (simp (disch := omega) only [sd, sb]; omega) | (simp (disch := omega) [sd] <;> fail) | (simp (disch := omega) [sd]; omega) | (simp [sd, *] <;> fail) | fail) ?_
    | refine X.condFs rfl (by first | rfl | omega | (simp (disch := omega) only [sd, sb]; omega) | (simp (disch := omega) [sd] <;> fail) | (simp (disch := omega) [sd]; omega) | (simp [sd, *] <;> fail) | fail) ?_
    | refine X.g1Ts rfl (by first | rfl | omega | (simp (disch := omega) only [sd, sb]; omega) | (simp (disch := omega) [sd] <;> fail) | (simp (disch := omega) [sd]; omega) | (simp [sd, *] <;> fail) | fail) ?_
    | refine X.g1Fs rfl (by first | rfl | omega | (simp (disch := omega) only [sd, sb]; omega) | (simp (disch := omega) [sd] <;> fail) | (simp (disch := omega) [sd]; omega) | (simp [sd, *] <;> fail) | fail) ?_
    | refine X.pickTs rfl (by first | rfl | omega | (simp (disch := omega) only [sd, sb]; omega) | (simp (disch := omega) [sd] <;> fail) | (simp (disch := omega) [sd]; omega) | (simp [sd, *] <;> fail) | fail) (fun _ => rfl) ?_
    | refine X.pickFs rfl (by first | rfl | omega | (simp (disch := omega) only [sd, sb]; omega) | (simp (disch := omega) [sd] <;> fail) | (simp (disch := omega) [sd]; omega) | (simp [sd, *] <;> fail) | fail) (fun _ => rfl) ?_
    | refine X.mov (by conv => lhs; whnf) (by first | rfl | assumption) ?_
    )
  refine X.pcall mruns_ok (.nil _) rfl rfl rfl ?_
  repeat (first
    | refine X.lpb ?_
    | refine X.seq ?_
    | refine X.skip ?_
    | refine X.ret ?_
    | refine X.exit ?_
    | refine X.blk ?_
    | refine X.sn ?_
    | refine X.se ?_
    | refine X.sr ?_
    | refine X.bn ?_
    | refine X.br ?_
    | refine X.bh ?_
    | refine X.bm rfl ?_
    | refine X.pn ?_
    | refine X.gn ?_
    | refine X.g0 ?_
    | refine X.ln ?_
    | refine X.finn ?_
    | refine X.reg0 (by conv => lhs; reduce) ?_
    | refine X.reg1 (by conv => lhs; reduce) ?_
    | refine X.gt rfl ?_
    | refine X.iav (by conv => lhs; whnf) (by conv => lhs; whnf) (by first | rfl | omega | (simp (disch := omega) only [sd, sb]; omega) | (simp (disch := omega) [sd] <;> fail) | (simp (disch := omega) [sd]; omega) | (simp [sd, *] <;> fail) | fail) (by first | exact bs_getD (by first | rfl | omega | (simp (disch := omega) only [sd, sb]; omega) | (simp (disch := omega) [sd] <;> fail) | (simp (disch := omega) [sd]; omega) | (simp [sd, *] <;> fail) | fail) | rfl) ?_
    | refine X.o0 (fun _ _ => rfl) ?_
    | refine X.o1 (fun _ _ => rfl) (by first | rfl | omega | (simp (disch := omega) only [sd, sb]; omega) | (simp (disch := omega) [sd] <;> fail) | (simp (disch := omega) [sd]; omega) | (simp [sd, *] <;> fail) | fail) ?_
    | refine X.o2 (fun _ _ => rfl) (by first | rfl | omega | (simp (disch := omega) only [sd, sb]; omega) | (simp (disch := omega) [sd] <;> fail) | (simp (disch := omega) [sd]; omega) | (simp [sd, *] <;> fail) | fail) (by first | rfl | omega | (simp (disch := omega) only [sd, sb]; omega) | (simp (disch := omega) [sd] <;> fail) | (simp (disch := omega) [sd]; omega) | (simp [sd, *] <;> fail) | fail) ?_
    | refine X.o3 (fun _ _ => rfl) (by first | rfl | omega | (simp (disch := omega) only [sd, sb]; omega) | (simp (disch := omega) [sd] <;> fail) | (simp (disch := omega) [sd]; omega) | (simp [sd, *] <;> fail) | fail) (by first | rfl | omega | (simp (disch := omega) only [sd, sb]; omega) | (simp (disch := omega) [sd] <;> fail) | (simp (disch := omega) [sd]; omega) | (simp [sd, *] <;> fail) | fail) (by first | rfl | omega | (simp (disch := omega) only [sd, sb]; omega) | (simp (disch := omega) [sd] <;> fail) | (simp (disch := omega) [sd]; omega) | (simp [sd, *] <;> fail) | fail) ?_
    | refine X.pickT rfl (fun _ => rfl) ?_
    | refine X.pickF rfl (fun _ => rfl) ?_
    | refine X.condT rfl ?_
    | refine X.condF rfl ?_
    | refine X.g1T rfl ?_
    | refine X.g1F rfl ?_
    | refine X.alc rfl ?_
    | refine X.box (by conv => lhs; whnf) rfl rfl ?_
    | refine X.stl (by conv => lhs; whnf) rfl rfl rfl rfl rfl rfl rfl ?_
    | refine X.apf (by conv => lhs; whnf) (by conv => lhs; whnf) (by first | exact Els.vs _ | exact Els.st _ | exact Els.ns) (by first | rfl | (simp only [hgs, if_true]; rfl)) rfl rfl (by first | rfl | omega | (simp (disch := omega) only [sd, sb]; omega) | (simp (disch := omega) [sd] <;> fail) | (simp (disch := omega) [sd]; omega) | (simp [sd, *] <;> fail) | fail) (by first | rfl | omega | (simp (disch := omega) only [sd, sb]; omega) | (simp (disch := omega) [sd] <;> fail) | (simp (disch := omega) [sd]; omega) | (simp [sd, *] <;> fail) | fail) (by conv => lhs; whnf) ?_
    | refine X.mks (by conv => lhs; whnf) (by conv => lhs; whnf) (by first | rfl | omega | (simp (disch := omega) only [sd, sb]; omega) | (simp (disch := omega) [sd] <;> fail) | (simp (disch := omega) [sd]; omega) | (simp [sd, *] <;> fail) | fail) (by first | rfl | omega | (simp (disch := omega) only [sd, sb]; omega) | (simp (disch := omega) [sd] <;> fail) | (simp (disch := omega) [sd]; omega) | (simp [sd, *] <;> fail) | fail) (by first | rfl | omega | (simp (disch := omega) only [sd, sb]; omega) | (simp (disch := omega) [sd] <;> fail) | (simp (disch := omega) [sd]; omega) | (simp [sd, *] <;> fail) | fail) (by decide) (by conv => lhs; whnf) (by conv => lhs; whnf) ?_
    | refine X.len (by conv => lhs; whnf) (by first | rfl | assumption) ?_
    | refine X.condTs rfl (by first | rfl | omega | (simp (disch := omega) only [sd, sb]; omega) | (simp (disch := omega) [sd] <;> fail) | (simp (disch := omega) [sd]; omega) | (simp [sd, *] <;> fail) | fail) ?_
    | refine X.condFs rfl (by first | rfl | omega | (simp (disch := omega) only [sd, sb]; omega) | (simp (disch := omega) [sd] <;> fail) | (simp (disch := omega) [sd]; omega) | (simp [sd, *] <;> fail) | fail) ?_
    | refine X.g1Ts rfl (by first | rfl | omega | (simp (disch := omega) only [sd, sb]; omega) | (simp (disch := omega) [sd] <;> fail) | (simp (disch := omega) [sd]; omega) | (simp [sd, *] <;> fail) | fail) ?_
    | refine X.g1Fs rfl (by first | rfl | omega | (simp (disch := omega) only [sd, sb]; omega) | (simp (disch := omega) [sd] <;> fail) | (simp (disch := omega) [sd]; omega) | (simp [sd, *] <;> fail) | fail) ?_
    | refine X.pickTs rfl (by first | rfl | omega | (simp (disch := omega) only [sd, sb]; omega) | (simp (disch := omega) [sd] <;> fail) | (simp (disch := omega) [sd]; omega) | (simp [sd, *] <;> fail) | fail) (fun _ => rfl) ?_
    | refine X.pickFs rfl (by first | rfl | omega | (simp (disch := omega) only [sd, sb]; omega) | (simp (disch := omega) [sd] <;> fail) | (simp (disch := omega) [sd]; omega) | (simp [sd, *] <;> fail) | fail) (fun _ => rfl) ?_
    | refine X.mov (by conv => lhs; whnf) (by first | rfl | assumption) ?_
    )
  exact X.fin (fun _ => rfl) rfl rfl

theorem safe_3 (n k : Int) (hw : EvP F 26 c26 [.it .i64 n, .it .i64 100, .it .i64 599] [.it .i64 k]) : EvD F (stepD d17 [.st [84, 82, 65, 67, 69], .it .i64 n] h0) (Rt (.bo true) h0) := by
  refine X.fn ?_
  repeat (first
    | refine X.lpb ?_
    | refine X.seq ?_
    | refine X.skip ?_
    | refine X.ret ?_
    | refine X.exit ?_
    | refine X.blk ?_
    | refine X.sn ?_
    | refine X.se ?_
    | refine X.sr ?_
    | refine X.bn ?_
    | refine X.br ?_
    | refine X.bh ?_
    | refine X.bm rfl ?_
    | refine X.pn ?_
    | refine X.gn ?_
    | refine X.g0 ?_
    | refine X.ln ?_
    | refine X.finn ?_
    | refine X.reg0 (by conv => lhs; reduce) ?_
    | refine X.reg1 (by conv => lhs; reduce) ?_
    | refine X.gt rfl ?_
    | refine X.iav (by conv => lhs; whnf) (by conv => lhs; whnf) (by first | rfl | omega | (simp (disch := omega) only [sd, sb]; omega) | (simp (disch := omega) [sd] <;> fail) | (simp (disch := omega) [sd]; omega) | (simp [sd, *] <;> fail) | fail) (by first | exact bs_getD (by first | rfl | omega | (simp (disch := omega) only [sd, sb]; omega) | (simp (disch := omega) [sd] <;> fail) | (simp (disch := omega) [sd]; omega) | (simp [sd, *] <;> fail) | fail) | rfl) ?_
    | refine X.o0 (fun _ _ => rfl) ?_
    | refine X.o1 (fun _ _ => rfl) (by first | rfl | omega | (simp (disch := omega) only [sd, sb]; omega) | (simp (disch := omega) [sd] <;> fail) | (simp (disch := omega) [sd]; omega) | (simp [sd, *] <;> fail) | fail) ?_
    | refine X.o2 (fun _ _ => rfl) (by first | rfl | omega | (simp (disch := omega) only [sd, sb]; omega) | (simp (disch := omega) [sd] <;> fail) | (simp (disch := omega) [sd]; omega) | (simp [sd, *] <;> fail) | fail) (by first | rfl | omega | (simp (disch := omega) only [sd, sb]; omega) | (simp (disch := omega) [sd] <;> fail) | (simp (disch := omega) [sd]; omega) | (simp [sd, *] <;> fail) | fail) ?_
    | refine X.o3 (fun _ _ => rfl) (by first | rfl | omega | (simp (disch := omega) only [sd, sb]; omega) | (simp (disch := omega) [sd] <;> fail) | (simp (disch := omega) [sd]; omega) | (simp [sd, *] <;> fail) | fail) (by first | rfl | omega | (simp (disch := omega) only [sd, sb]; omega) | (simp (disch := omega) [sd] <;> fail) | (simp (disch := omega) [sd]; omega) | (simp [sd, *] <;> fail) | fail) (by first | rfl | omega | (simp (disch := omega) only [sd, sb]; omega) | (simp (disch := omega) [sd] <;> fail) | (simp (disch := omega) [sd]; omega) | (simp [sd, *] <;> fail) | fail) ?_
    | refine X.pickT rfl (fun _ => rfl) ?_
    | refine X.pickF rfl (fun _ => rfl) ?_
    | refine X.condT rfl ?_
    | refine X.condF rfl ?_
    | refine X.g1T rfl ?_
    | refine X.g1F rfl ?_
    | refine X.alc rfl ?_
    | refine X.box (by conv => lhs; whnf) rfl rfl ?_
    | refine X.stl (by conv => lhs; whnf) rfl rfl rfl rfl rfl rfl rfl ?_
    | refine X.apf (by conv => lhs; whnf) (by conv => lhs; whnf) (by first | exact Els.vs _ | exact Els.st _ | exact Els.ns) (by first | rfl | (simp only [hgs, if_true]; rfl)) rfl rfl (by first | rfl | omega | (simp (disch := omega) only [sd, sb]; omega) | (simp (disch := omega) [sd] <;> fail) | (simp (disch := omega) [sd]; omega) | (simp [sd, *] <;> fail) | fail) (by first | rfl | omega | (simp (disch := omega) only [sd, sb]; omega) | (simp (disch := omega) [sd] <;> fail) | (simp (disch := omega) [sd]; omega) | (simp [sd, *] <;> fail) | fail) (by conv => lhs; whnf) ?_
    | refine X.mks (by conv => lhs; whnf) (by conv => lhs; whnf) (by first | rfl | omega | (simp (disch := omega) only [sd, sb]; omega) | (simp (disch := omega) [sd] <;> fail) | (simp (disch := omega) [sd]; omega) | (simp [sd, *] <;> fail) | fail) (by first | rfl | omega | (simp (disch := omega) only [sd, sb]; omega) | (simp (disch := omega) [sd] <;> fail) | (simp (disch := omega) [sd]; omega) | (simp [sd, *] <;> fail) | fail) (by first | rfl | omega | (simp (disch := omega) only [sd, sb]; omega) | (simp (disch := omega) [sd] <;> fail) | (simp (disch := omega) [sd]; omega) | (simp [sd, *] <;> fail) | fail) (by decide) (by conv => lhs; whnf) (by conv => lhs; whnf) ?_
    | refine X.len (by conv => lhs; whnf) (by first | rfl | assumption) ?_
    | refine X.condTs rfl (by first | rfl | omega | (simp (disch := omega) only [sd, sb]; omega) | (simp (disch := omega) [sd] <;> fail) | (simp (disch := omega) [sd]; omega) | (simp [sd, *] <;> fail) | fail) ?_
    | refine X.condFs rfl (by first | rfl | omega | (simp (disch := omega) only [sd, sb]; omega) | (simp (disch := omega) [sd] <;> fail) | (simp (disch := omega) [sd]; omega) | (simp [sd, *] <;> fail) | fail) ?_
    | refine X.g1Ts rfl (by first | rfl | omega | (simp (disch := omega) only [sd, sb]; omega) | (simp (disch := omega) [sd] <;> fail) | (simp (disch := omega) [sd]; omega) | (simp [sd, *] <;> fail) | fail) ?_
    | refine X.g1Fs rfl (by first | rfl | omega | (simp (disch := omega) only [sd, sb]; omega) | (simp (disch := omega) [sd] <;> fail) | (simp (disch := omega) [sd]; omega) | (simp [sd, *] <;> fail) | fail) ?_
    | refine X.pickTs rfl (by first | rfl | omega | (simp (disch := omega) only [sd, sb]; omega) | (simp (disch := omega) [sd] <;> fail) | (simp (disch := omega) [sd]; omega) | (simp [sd, *] <;> fail) | fail) (fun _ => rfl) ?_
    | refine X.pickFs rfl (by first | rfl | omega | (simp (disch := omega) only [sd, sb]; omega) | (simp (disch := omega) [sd] <;> fail) | (simp (disch := omega) [sd]; omega) | (simp [sd, *] <;> fail) | fail) (fun _ => rfl) ?_
    | refine X.mov (by conv => lhs; whnf) (by first | rfl | assumption) ?_
    )
  refine X.pcall hw (.s (clo_it _ _) (.s (clo_it _ _) (.s (clo_it _ _) (.nil _)))) rfl rfl rfl ?_
  repeat (first
    | refine X.lpb ?_
    | refine X.seq ?_
    | refine X.skip ?_
    | refine X.ret ?_
    | refine X.exit ?_
    | refine X.blk ?_
    | refine X.sn ?_
    | refine X.se ?_
    | refine X.sr ?_
    | refine X.bn ?_
    | refine X.br ?_
    | refine X.bh ?_
    | refine X.bm rfl ?_
    | refine X.pn ?_
    | refine X.gn ?_
    | refine X.g0 ?_
    | refine X.ln ?_
    | refine X.finn ?_
    | refine X.reg0 (by conv => lhs; reduce) ?_
    | refine X.reg1 (by conv => lhs; reduce) ?_
    | refine X.gt rfl ?_
    | refine X.iav (by conv => lhs; whnf) (by conv => lhs; whnf) (by first | rfl | omega | (simp (disch := omega) only [sd, sb]; omega) | (simp (disch := omega) [sd] <;> fail) | (simp (disch := omega) [sd]; omega) | (simp [sd, *] <;> fail) | fail) (by first | exact bs_getD (by first | rfl | omega | (simp (disch := omega) only [sd, sb]; omega) | (simp (disch := omega) [sd] <;> fail) | (simp (disch := omega) [sd]; omega) | (simp [sd, *] <;> fail) | fail) | rfl) ?_
    | refine X.o0 (fun _ _ => rfl) ?_
    | refine X.o1 (fun _ _ => rfl) (by first | rfl | omega | (simp (disch := omega) only [sd, sb]; omega) | (simp (disch := omega) [sd] <;> fail) | (simp (disch := omega) [sd]; omega) | (simp [sd, *] <;> fail) | fail) ?_
    | refine X.o2 (fun _ _ => rfl) (by first | rfl | omega | (simp (disch := omega) only [sd, sb]; omega) | (simp (disch := omega) [sd] <;> fail) | (simp (disch := omega) [sd]; omega) | (simp [sd, *] <;> fail) | fail) (by first | rfl | omega | (simp (disch := omega) only [sd, sb]; omega) | (simp (disch := omega) [sd] <;> fail) | (simp (disch := omega) [sd]; omega) | (simp [sd, *] <;> fail) | fail) ?_
    | refine X.o3 (fun _ _ => rfl) (by first | rfl | omega | (simp (disch := omega) only [sd, sb]; omega) | (simp (disch := omega) [sd] <;> fail) | (simp (disch := omega) [sd]; omega) | (simp [sd, *] <;> fail) | fail) (by first | rfl | omega | (simp (disch := omega) only [sd, sb]; omega) | (simp (disch := omega) [sd] <;> fail) | (simp (disch := omega) [sd]; omega) | (simp [sd, *] <;> fail) | fail) (by first | rfl | omega | (simp (disch := omega) only [sd, sb]; omega) | (simp (disch := omega) [sd] <;> fail) | (simp (disch := omega) [sd]; omega) | (simp [sd, *] <;> fail) | fail) ?_
    | refine X.pickT rfl (fun _ => rfl) ?_
    | refine X.pickF rfl (fun _ => rfl) ?_
    | refine X.condT rfl ?_
    | refine X.condF rfl ?_
    | refine X.g1T rfl ?_
    | refine X.g1F rfl ?_
    | refine X.alc rfl ?_
    | refine X.box (by conv => lhs; whnf) rfl rfl ?_
    | refine X.stl (by conv => lhs; whnf) rfl rfl rfl rfl rfl rfl rfl ?_
    | refine X.apf (by conv => lhs; whnf) (by conv => lhs; whnf) (by first | exact Els.vs _ | exact Els.st _ | exact Els.ns) (by first | rfl | (simp only [hgs, if_true]; rfl)) rfl rfl (by first | rfl | omega | (simp (disch := omega) only [sd, sb]; omega) | (simp (disch := omega) [sd] <;> fail) | (simp (disch := omega) [sd]; omega) | (simp [sd, *] <;> fail) | fail) (by first | rfl | omega | (simp (disch := omega) only [sd, sb]; omega) | (simp (disch := omega) [sd] <;> fail) | (simp (disch := omega) [sd]; omega) | (simp [sd, *] <;> fail) | fail) (by conv => lhs; whnf) ?_
    | refine X.mks (by conv => lhs; whnf) (by conv => lhs; whnf) (by first | rfl | omega | (simp (disch := omega) only [sd, sb]; omega) | (simp (disch := omega) [sd] <;> fail) | (simp (disch := omega) [sd]; omega) | (simp [sd, *] <;> fail) | fail) (by first | rfl | omega | (simp (disch := omega) only [sd, sb]; omega) | (simp (disch := omega) [sd] <;> fail) | (simp (disch := omega) [sd]; omega) | (simp [sd, *] <;> fail) | fail) (by first | rfl | omega | (simp (disch := omega) only [sd, sb]; omega) | (simp (disch := omega) [sd] <;> fail) | (simp (disch := omega) [sd]; omega) | (simp [sd, *] <;> fail) | fail) (by decide) (by conv => lhs; whnf) (by conv => lhs; whnf) ?_
    | refine X.len (by conv => lhs; whnf) (by first | rfl | assumption) ?_
    | refine X.condTs rfl (by first | rfl | omega | (simp (disch := omega) only [sd, sb]; omega) | (simp (disch := omega) [sd] <;> fail) | (simp (disch := omega) [sd]; omega) | (simp [sd, *] <;> fail) | fail) ?_
    | refine X.condFs rfl (by first | rfl | omega | (simp (disch := omega) only [sd, sb]; omega) | (simp (disch := omega) [sd] <;> fail) | (simp (disch := omega) [sd]; omega) | (simp [sd, *] <;> fail) | fail) ?_
    | refine X.g1Ts rfl (by first | rfl | omega | (simp (disch := omega) only [sd, sb]; omega) | (simp (disch := omega) [sd] <;> fail) | (simp (disch := omega) [sd]; omega) | (simp [sd, *] <;> fail) | fail) ?_
    | refine X.g1Fs rfl (by first | rfl | omega | (simp (disch := omega) only [sd, sb]; omega) | (simp (disch := omega) [sd] <;> fail) | (simp (disch := omega) [sd]; omega) | (simp [sd, *] <;> fail) | fail) ?_
    | refine X.pickTs rfl (by first | rfl | omega | (simp (disch := omega) only [sd, sb]; omega) | (simp (disch := omega) [sd] <;> fail) | (simp (disch := omega) [sd]; omega) | (simp [sd, *] <;> fail) | fail) (fun _ => rfl) ?_
    | refine X.pickFs rfl (by first | rfl | omega | (simp (disch := omega) only [sd, sb]; omega) | (simp (disch := omega) [sd] <;> fail) | (simp (disch := omega) [sd]; omega) | (simp [sd, *] <;> fail) | fail) (fun _ => rfl) ?_
    | refine X.mov (by conv => lhs; whnf) (by first | rfl | assumption) ?_
    )
  refine X.pcall (clears_ok _ k) (.gs2 (req_clo _) (.gs2 (res_clo _) (.nil _))) rfl rfl rfl ?_
  repeat (first
    | refine X.lpb ?_
    | refine X.seq ?_
    | refine X.skip ?_
    | refine X.ret ?_
    | refine X.exit ?_
    | refine X.blk ?_
    | refine X.sn ?_
    | refine X.se ?_
    | refine X.sr ?_
    | refine X.bn ?_
    | refine X.br ?_
    | refine X.bh ?_
    | refine X.bm rfl ?_
    | refine X.pn ?_
    | refine X.gn ?_
    | refine X.g0 ?_
    | refine X.ln ?_
    | refine X.finn ?_
    | refine X.reg0 (by conv => lhs; reduce) ?_
    | refine X.reg1 (by conv => lhs; reduce) ?_
    | refine X.gt rfl ?_
    | refine X.iav (by conv => lhs; whnf) (by conv => lhs; whnf) (by first | rfl | omega | (simp (disch := omega) only [sd, sb]; omega) | (simp (disch := omega) [sd] <;> fail) | (simp (disch := omega) [sd]; omega) | (simp [sd, *] <;> fail) | fail) (by first | exact bs_getD (by first | rfl | omega | (simp (disch := omega) only [sd, sb]; omega) | (simp (disch := omega) [sd] <;> fail) | (simp (disch := omega) [sd]; omega) | (simp [sd, *] <;> fail) | fail) | rfl) ?_
    | refine X.o0 (fun _ _ => rfl) ?_
    | refine X.o1 (fun _ _ => rfl) (by first | rfl | omega | (simp (disch := omega) only [sd, sb]; omega) | (simp (disch := omega) [sd] <;> fail) | (simp (disch := omega) [sd]; omega) | (simp [sd, *] <;> fail) | fail) ?_
    | refine X.o2 (fun _ _ => rfl) (by first | rfl | omega | (simp (disch := omega) only [sd, sb]; omega) | (simp (disch := omega) [sd] <;> fail) | (simp (disch := omega) [sd]; omega) | (simp [sd, *] <;> fail) | fail) (by first | rfl | omega | (simp (disch := omega) only [sd, sb]; omega) | (simp (disch := omega) [sd] <;> fail) | (simp (disch := omega) [sd]; omega) | (simp [sd, *] <;> fail) | fail) ?_
    | refine X.o3 (fun _ _ => rfl) (by first | rfl | omega | (simp (disch := omega) only [sd, sb]; omega) | (simp (disch := omega) [sd] <;> fail) | (simp (disch := omega) [sd]; omega) | (simp [sd, *] <;> fail) | fail) (by first | rfl | omega | (simp (disch := omega) only [sd, sb]; omega) | (simp (disch := omega) [sd] <;> fail) | (simp (disch := omega) [sd]; omega) | (simp [sd, *] <;> fail) | fail) (by first | rfl | omega | (simp (disch := omega) only [sd, sb]; omega) | (simp (disch := omega) [sd] <;> fail) | (simp (disch := omega) [sd]; omega) | (simp [sd, *] <;> fail) | fail) ?_
    | refine X.pickT rfl (fun _ => rfl) ?_
    | refine X.pickF rfl (fun _ => rfl) ?_
    | refine X.condT rfl ?_
    | refine X.condF rfl ?_
    | refine X.g1T rfl ?_
    | refine X.g1F rfl ?_
    | refine X.alc rfl ?_
    | refine X.box (by conv => lhs; whnf) rfl rfl ?_
    | refine X.stl (by conv => lhs; whnf) rfl rfl rfl rfl rfl rfl rfl ?_
    | refine X.apf (by conv => lhs; whnf) (by conv => lhs; whnf) (by first | exact Els.vs _ | exact Els.st _ | exact Els.ns) (by first | rfl | (simp only [hgs, if_true]; rfl)) rfl rfl (by first | rfl | omega | (simp (disch := omega) only [sd, sb]; omega) | (simp (disch := omega) [sd] <;> fail) | (simp (disch := omega) [sd]; omega) | (simp [sd, *] <;> fail) | fail) (by first | rfl | omega | (simp (disch := omega) only [sd, sb]; omega) | (simp (disch := omega) [sd] <;> fail) | (simp (disch := omega) [sd]; omega) | (simp [sd, *] <;> fail) | fail) (by conv => lhs; whnf) ?_
    | refine X.mks (by conv => lhs; whnf) (by conv => lhs; whnf) (by first | rfl | omega | (simp (disch := omega) only [sd, sb]; omega) | (simp (disch := omega) [sd] <;> fail) | (simp (disch := omega) [sd]; omega) | (simp [sd, *] <;> fail) | fail) (by first | rfl | omega | (simp (disch := omega) only [sd, sb]; omega) | (simp (disch := omega) [sd] <;> fail) | (simp (disch := omega) [sd]; omega) | (simp [sd, *] <;> fail) | fail) (by first | rfl | omega | (simp (disch := omega) only [sd, sb]; omega) | (simp (disch := omega) [sd] <;> fail) | (simp (disch := omega) [sd]; omega) | (simp [sd, *] <;> fail) | fail) (by decide) (by conv => lhs; whnf) (by conv => lhs; whnf) ?_
    | refine X.len (by conv => lhs; whnf) (by first | rfl | assumption) ?_
    | refine X.condTs rfl (by first | rfl | omega | (simp (disch := omega) only [sd, sb]; omega) | (simp (disch := omega) [sd] <;> fail) | (simp (disch := omega) [sd]; omega) | (simp [sd, *] <;> fail) | fail) ?_
    | refine X.condFs rfl (by first | rfl | omega | (simp (disch := omega) only [sd, sb]; omega) | (simp (disch := omega) [sd] <;> fail) | (simp (disch := omega) [sd]; omega) | (simp [sd, *] <;> fail) | fail) ?_
    | refine X.g1Ts rfl (by first | rfl | omega | (simp (disch := omega) only [sd, sb]; omega) | (simp (disch := omega) [sd] <;> fail) | (simp (disch := omega) [sd]; omega) | (simp [sd, *] <;> fail) | fail) ?_
    | refine X.g1Fs rfl (by first | rfl | omega | (simp (disch := omega) only [sd, sb]; omega) | (simp (disch := omega) [sd] <;> fail) | (simp (disch := omega) [sd]; omega) | (simp [sd, *] <;> fail) | fail) ?_
    | refine X.pickTs rfl (by first | rfl | omega | (simp (disch := omega) only [sd, sb]; omega) | (simp (disch := omega) [sd] <;> fail) | (simp (disch := omega) [sd]; omega) | (simp [sd, *] <;> fail) | fail) (fun _ => rfl) ?_
    | refine X.pickFs rfl (by first | rfl | omega | (simp (disch := omega) only [sd, sb]; omega) | (simp (disch := omega) [sd] <;> fail) | (simp (disch := omega) [sd]; omega) | (simp [sd, *] <;> fail) | fail) (fun _ => rfl) ?_
    | refine X.mov (by conv => lhs; whnf) (by first | rfl | assumption) ?_
    )
  refine X.pcall mruns_ok (.nil _) rfl rfl rfl ?_
  repeat (first
    | refine X.lpb ?_
    | refine X.seq ?_
    | refine X.skip ?_
    | refine X.ret ?_
    | refine X.exit ?_
    | refine X.blk ?_
    | refine X.sn ?_
    | refine X.se ?_
    | refine X.sr ?_
    | refine X.bn ?_
    | refine X.br ?_
    | refine X.bh ?_
    | refine X.bm rfl ?_
    | refine X.pn ?_
    | refine X.gn ?_
    | refine X.g0 ?_
    | refine X.ln ?_
    | refine X.finn ?_
    | refine X.reg0 (by conv => lhs; reduce) ?_
    | refine X.reg1 (by conv => lhs; reduce) ?_
    | refine X.gt rfl ?_
    | refine X.iav (by conv => lhs; whnf) (by conv => lhs; whnf) (by first | rfl | omega | (simp (disch := omega) only [sd, sb]; omega) | (simp (disch := omega) [sd] <;> fail) | (simp (disch := omega) [sd]; omega) | (simp [sd, *] <;> fail) | fail) (by first | exact bs_getD (by first | rfl | omega | (simp (disch := omega) only [sd, sb]; omega) | (simp (disch := omega) [sd] <;> fail) | (simp (disch := omega) [sd]; omega) | (simp [sd, *] <;> fail) | fail) | rfl) ?_
    | refine X.o0 (fun _ _ => rfl) ?_
    | refine X.o1 (fun _ _ => rfl) (by first | rfl | omega | (simp (disch := omega) only [sd, sb]; omega) | (simp (disch := omega) [sd] <;> fail) | (simp (disch := omega) [sd]; omega) | (simp [sd, *] <;> fail) | fail) ?_
    | refine X.o2 (fun _ _ => rfl) (by first | rfl | omega | (simp (disch := omega) only [sd, sb]; omega) | (simp (disch := omega) [sd] <;> fail) | (simp (disch := omega) [sd]; omega) | (simp [sd, *] <;> fail) | fail) (by first | rfl | omega | (simp (disch := omega) only [sd, sb]; omega) | (simp (disch := omega) [sd] <;> fail) | (simp (disch := omega) [sd]; omega) | (simp [sd, *] <;> fail) | fail) ?_
    | refine X.o3 (fun _ _ => rfl) (by first | rfl | omega | (simp (disch := omega) only [sd, sb]; omega) | (simp (disch := omega) [sd] <;> fail) | (simp (disch := omega) [sd]; omega) | (simp [sd, *] <;> fail) | fail) (by first | rfl | omega | (simp (disch := omega) only [sd, sb]; omega) | (simp (disch := omega) [sd] <;> fail) | (simp (disch := omega) [sd]; omega) | (simp [sd, *] <;> fail) | fail) (by first | rfl | omega | (simp (disch := omega) only [sd, sb]; omega) | (simp (disch := omega) [sd] <;> fail) | (simp (disch := omega) [sd]; omega) | (simp [sd, *] <;> fail) | fail) ?_
    | refine X.pickT rfl (fun _ => rfl) ?_
    | refine X.pickF rfl (fun _ => rfl) ?_
    | refine X.condT rfl ?_
    | refine X.condF rfl ?_
    | refine X.g1T rfl ?_
    | refine X.g1F rfl ?_
    | refine X.alc rfl ?_
    | refine X.box (by conv => lhs; whnf) rfl rfl ?_
    | refine X.stl (by conv => lhs; whnf) rfl rfl rfl rfl rfl rfl rfl ?_
    | refine X.apf (by conv => lhs; whnf) (by conv => lhs; whnf) (by first | exact Els.vs _ | exact Els.st _ | exact Els.ns) (by first | rfl | (simp only [hgs, if_true]; rfl)) rfl rfl (by first | rfl | omega | (simp (disch := omega) only [sd, sb]; omega) | (simp (disch := omega) [sd] <;> fail) | (simp (disch := omega) [sd]; omega) | (simp [sd, *] <;> fail) | fail) (by first | rfl | omega | (simp (disch := omega) only [sd, sb]; omega) | (simp (disch := omega) [sd] <;> fail) | (simp (disch := omega) [sd]; omega) | (simp [sd, *] <;> fail) | fail) (by conv => lhs; whnf) ?_
    | refine X.mks (by conv => lhs; whnf) (by conv => lhs; whnf) (by first | rfl | omega | (simp (disch := omega) only [sd, sb]; omega) | (simp (disch := omega) [sd] <;> fail) | (simp (disch := omega) [sd]; omega) | (simp [sd, *] <;> fail) | fail) (by first | rfl | omega | (simp (disch := omega) only [sd, sb]; omega) | (simp (disch := omega) [sd] <;> fail) | (simp (disch := omega) [sd]; omega) | (simp [sd, *] <;> fail) | fail) (by first | rfl | omega | (simp (disch := omega) only [sd, sb]; omega) | (simp (disch := omega) [sd] <;> fail) | (simp (disch := omega) [sd]; omega) | (simp [sd, *] <;> fail) | fail) (by decide) (by conv => lhs; whnf) (by conv => lhs; whnf) ?_
    | refine X.len (by conv => lhs; whnf) (by first | rfl | assumption) ?_
    | refine X.condTs rfl (by first | rfl | omega | (simp (disch := omega) only [sd, sb]; omega) | (simp (disch := omega) [sd] <;> fail) | (simp (disch := omega) [sd]; omega) | (simp [sd, *] <;> fail) | fail) ?_
    | refine X.condFs rfl (by first | rfl | omega | (simp (disch := omega) only [sd, sb]; omega) | (simp (disch := omega) [sd] <;> fail) | (simp (disch := omega) [sd]; omega) | (simp [sd, *] <;> fail) | fail) ?_
    | refine X.g1Ts rfl (by first | rfl | omega | (simp (disch := omega) only [sd, sb]; omega) | (simp (disch := omega) [sd] <;> fail) | (simp (disch := omega) [sd]; omega) | (simp [sd, *] <;> fail) | fail) ?_
    | refine X.g1Fs rfl (by first | rfl | omega | (simp (disch := omega) only [sd, sb]; omega) | (simp (disch := omega) [sd] <;> fail) | (simp (disch := omega) [sd]; omega) | (simp [sd, *] <;> fail) | fail) ?_
    | refine X.pickTs rfl (by first | rfl | omega | (simp (disch := omega) only [sd, sb]; omega) | (simp (disch := omega) [sd] <;> fail) | (simp (disch := omega) [sd]; omega) | (simp [sd, *] <;> fail) | fail) (fun _ => rfl) ?_
    | refine X.pickFs rfl (by first | rfl | omega | (simp (disch := omega) only [sd, sb]; omega) | (simp (disch := omega) [sd] <;> fail) | (simp (disch := omega) [sd]; omega) | (simp [sd, *] <;> fail) | fail) (fun _ => rfl) ?_
    | refine X.mov (by conv => lhs; whnf) (by first | rfl | assumption) ?_
    )
  exact X.fin (fun _ => rfl) rfl rfl

theorem safe_r0 (m : List Nat) (n k : Int) (hw : EvP F 26 c26 [.it .i64 n, .it .i64 100, .it .i64 599] [.it .i64 k]) (h1 : m ≠ [71, 69, 84]) (h2 : m ≠ [72, 69, 65, 68]) (h3 : m ≠ [79, 80, 84, 73, 79, 78, 83]) (h4 : m ≠ [84, 82, 65, 67, 69]) (q : k < 200) : EvD F (stepD d17 [.st m, .it .i64 n] h0) (Rt (.bo true) h0) := by
  have e : safeM m = false := by simp [safeM, h1, h2, h3, h4]
  have eb : (!safeM m && decide (200 ≤ k ∧ k < 400)) = false := by rw [e]; simp; omega
  refine X.fn ?_
  repeat (first
    | refine X.lpb ?_
    | refine X.seq ?_
    | refine X.skip ?_
    | refine X.ret ?_
    | refine X.exit ?_
    | refine X.blk ?_
    | refine X.sn ?_
    | refine X.se ?_
    | refine X.sr ?_
    | refine X.bn ?_
    | refine X.br ?_
    | refine X.bh ?_
    | refine X.bm rfl ?_
    | refine X.pn ?_
    | refine X.gn ?_
    | refine X.g0 ?_
    | refine X.ln ?_
    | refine X.finn ?_
    | refine X.reg0 (by conv => lhs; reduce) ?_
    | refine X.reg1 (by conv => lhs; reduce) ?_
    | refine X.gt rfl ?_
    | refine X.iav (by conv => lhs; whnf) (by conv => lhs; whnf) (by first | rfl | omega | (simp (disch := omega) only [sd, sb]; omega) | (simp (disch := omega) [sd] <;> fail) | (simp (disch := omega) [sd]; omega) | (simp [sd, *] <;> fail) | fail) (by first | exact bs_getD (by first | rfl | omega | (simp (disch := omega) only [sd, sb]; omega) | (simp (disch := omega) [sd] <;> fail) | (simp (disch := omega) [sd]; omega) | (simp [sd, *] <;> fail) | fail) | rfl) ?_
    | refine X.o0 (fun _ _ => rfl) ?_
    | refine X.o1 (fun _ _ => rfl) (by first | rfl | omega | (simp (disch := omega) only [sd, sb]; omega) | (simp (disch := omega) [sd] <;> fail) | (simp (disch := omega) [sd]; omega) | (simp [sd, *] <;> fail) | fail) ?_
    | refine X.o2 (fun _ _ => rfl) (by first | rfl | omega | (simp (disch := omega) only [sd, sb]; omega) | (simp (disch := omega) [sd] <;> fail) | (simp (disch := omega) [sd]; omega) | (simp [sd, *] <;> fail) | fail) (by first | rfl | omega | (simp (disch := omega) only [sd, sb]; omega) | (simp (disch := omega) [sd] <;> fail) | (simp (disch := omega) [sd]; omega) | (simp [sd, *] <;> fail) | fail) ?_
    | refine X.o3 (fun _ _ => rfl) (by first | rfl | omega | (simp (disch := omega) only [sd, sb]; omega) | (simp (disch := omega) [sd] <;> fail) | (simp (disch := omega) [sd]; omega) | (simp [sd, *] <;> fail) | fail) (by first | rfl | omega | (simp (disch := omega) only [sd, sb]; omega) | (simp (disch := omega) [sd] <;> fail) | (simp (disch := omega) [sd]; omega) | (simp [sd, *] <;> fail) | fail) (by first | rfl | omega | (simp (disch := omega) only [sd, sb]; omega) | (simp (disch := omega) [sd] <;> fail) | (simp (disch := omega) [sd]; omega) | (simp [sd, *] <;> fail) | fail) ?_
    | refine X.pickT rfl (fun _ => rfl) ?_
    | refine X.pickF rfl (fun _ => rfl) ?_
    | refine X.condT rfl ?_
    | refine X.condF rfl ?_
    | refine X.g1T rfl ?_
    | refine X.g1F rfl ?_
    | refine X.alc rfl ?_
    | refine X.box (by conv => lhs; whnf) rfl rfl ?_
    | refine X.stl (by conv => lhs; whnf) rfl rfl rfl rfl rfl rfl rfl ?_
    | refine X.apf (by conv => lhs; whnf) (by conv => lhs; whnf) (by first | exact Els.vs _ | exact Els.st _ | exact Els.ns) (by first | rfl | (simp only [hgs, if_true]; rfl)) rfl rfl (by first | rfl | omega | (simp (disch := omega) only [sd, sb]; omega) | (simp (disch := omega) [sd] <;> fail) | (simp (disch := omega) [sd]; omega) | (simp [sd, *] <;> fail) | fail) (by first | rfl | omega | (simp (disch := omega) only [sd, sb]; omega) | (simp (disch := omega) [sd] <;> fail) | (simp (disch := omega) [sd]; omega) | (simp [sd, *] <;> fail) | fail) (by conv => lhs; whnf) ?_
    | refine X.mks (by conv => lhs; whnf) (by conv => lhs; whnf) (by first | rfl | omega | (simp (disch := omega) only [sd, sb]; omega) | (simp (disch := omega) [sd] <;> fail) | (simp (disch := omega) [sd]; omega) | (simp [sd, *] <;> fail) | fail) (by first | rfl | omega | (simp (disch := omega) only [sd, sb]; omega) | (simp (disch := omega) [sd] <;> fail) | (simp (disch := omega) [sd]; omega) | (simp [sd, *] <;> fail) | fail) (by first | rfl | omega | (simp (disch := omega) only [sd, sb]; omega) | (simp (disch := omega) [sd] <;> fail) | (simp (disch := omega) [sd]; omega) | (simp [sd, *] <;> fail) | fail) (by decide) (by conv => lhs; whnf) (by conv => lhs; whnf) ?_
    | refine X.len (by conv => lhs; whnf) (by first | rfl | assumption) ?_
    | refine X.condTs rfl (by first | rfl | omega | (simp (disch := omega) only [sd, sb]; omega) | (simp (disch := omega) [sd] <;> fail) | (simp (disch := omega) [sd]; omega) | (simp [sd, *] <;> fail) | fail) ?_
    | refine X.condFs rfl (by first | rfl | omega | (simp (disch := omega) only [sd, sb]; omega) | (simp (disch := omega) [sd] <;> fail) | (simp (disch := omega) [sd]; omega) | (simp [sd, *] <;> fail) | fail) ?_
    | refine X.g1Ts rfl (by first | rfl | omega | (simp (disch := omega) only [sd, sb]; omega) | (simp (disch := omega) [sd] <;> fail) | (simp (disch := omega) [sd]; omega) | (simp [sd, *] <;> fail) | fail) ?_
    | refine X.g1Fs rfl (by first | rfl | omega | (simp (disch := omega) only [sd, sb]; omega) | (simp (disch := omega) [sd] <;> fail) | (simp (disch := omega) [sd]; omega) | (simp [sd, *] <;> fail) | fail) ?_
    | refine X.pickTs rfl (by first | rfl | omega | (simp (disch := omega) only [sd, sb]; omega) | (simp (disch := omega) [sd] <;> fail) | (simp (disch := omega) [sd]; omega) | (simp [sd, *] <;> fail) | fail) (fun _ => rfl) ?_
    | refine X.pickFs rfl (by first | rfl | omega | (simp (disch := omega) only [sd, sb]; omega) | (simp (disch := omega) [sd] <;> fail) | (simp (disch := omega) [sd]; omega) | (simp [sd, *] <;> fail) | fail) (fun _ => rfl) ?_
    | refine X.mov (by conv => lhs; whnf) (by first | rfl | assumption) ?_
    )
  refine X.pcall hw (.s (clo_it _ _) (.s (clo_it _ _) (.s (clo_it _ _) (.nil _)))) rfl rfl rfl ?_
  repeat (first
    | refine X.lpb ?_
    | refine X.seq ?_
    | refine X.skip ?_
    | refine X.ret ?_
    | refine X.exit ?_
    | refine X.blk ?_
    | refine X.sn ?_
    | refine X.se ?_
    | refine X.sr ?_
    | refine X.bn ?_
    | refine X.br ?_
    | refine X.bh ?_
    | refine X.bm rfl ?_
    | refine X.pn ?_
    | refine X.gn ?_
    | refine X.g0 ?_
    | refine X.ln ?_
    | refine X.finn ?_
    | refine X.reg0 (by conv => lhs; reduce) ?_
    | refine X.reg1 (by conv => lhs; reduce) ?_
    | refine X.gt rfl ?_
    | refine X.iav (by conv => lhs; whnf) (by conv => lhs; whnf) (by first | rfl | omega | (simp (disch := omega) only [sd, sb]; omega) | (simp (disch := omega) [sd] <;> fail) | (simp (disch := omega) [sd]; omega) | (simp [sd, *] <;> fail) | fail) (by first | exact bs_getD (by first | rfl | omega | (simp (disch := omega) only [sd, sb]; omega) | (simp (disch := omega) [sd] <;> fail) | (simp (disch := omega) [sd]; omega) | (simp [sd, *] <;> fail) | fail) | rfl) ?_
    | refine X.o0 (fun _ _ => rfl) ?_
    | refine X.o1 (fun _ _ => rfl) (by first | rfl | omega | (simp (disch := omega) only [sd, sb]; omega) | (simp (disch := omega) [sd] <;> fail) | (simp (disch := omega) [sd]; omega) | (simp [sd, *] <;> fail) | fail) ?_
    | refine X.o2 (fun _ _ => rfl) (by first | rfl | omega | (simp (disch := omega) only [sd, sb]; omega) | (simp (disch := omega) [sd] <;> fail) | (simp (disch := omega) [sd]; omega) | (simp [sd, *] <;> fail) | fail) (by first | rfl | omega | (simp (disch := omega) only [sd, sb]; omega) | (simp (disch := omega) [sd] <;> fail) | (simp (disch := omega) [sd]; omega) | (simp [sd, *] <;> fail) | fail) ?_
    | refine X.o3 (fun _ _ => rfl) (by first | rfl | omega | (simp (disch := omega) only [sd, sb]; omega) | (simp (disch := omega) [sd] <;> fail) | (simp (disch := omega) [sd]; omega) | (simp [sd, *] <;> fail) | fail) (by first | rfl | omega | (simp (disch := omega) only [sd, sb]; omega) | (simp (disch := omega) [sd] <;> fail) | (simp (disch := omega) [sd]; omega) | (simp [sd, *] <;> fail) | fail) (by first | rfl | omega | (simp (disch := omega) only [sd, sb]; omega) | (simp (disch := omega) [sd] <;> fail) | (simp (disch := omega) [sd]; omega) | (simp [sd, *] <;> fail) | fail) ?_
    | refine X.pickT rfl (fun _ => rfl) ?_
    | refine X.pickF rfl (fun _ => rfl) ?_
    | refine X.condT rfl ?_
    | refine X.condF rfl ?_
    | refine X.g1T rfl ?_
    | refine X.g1F rfl ?_
    | refine X.alc rfl ?_
    | refine X.box (by conv => lhs; whnf) rfl rfl ?_
    | refine X.stl (by conv => lhs; whnf) rfl rfl rfl rfl rfl rfl rfl ?_
    | refine X.apf (by conv => lhs; whnf) (by conv => lhs; whnf) (by first | exact Els.vs _ | exact Els.st _ | exact Els.ns) (by first | rfl | (simp only [hgs, if_true]; rfl)) rfl rfl (by first | rfl | omega | (simp (disch := omega) only [sd, sb]; omega) | (simp (disch := omega) [sd] <;> fail) | (simp (disch := omega) [sd]; omega) | (simp [sd, *] <;> fail) | fail) (by first | rfl | omega | (simp (disch := omega) only [sd, sb]; omega) | (simp (disch := omega) [sd] <;> fail) | (simp (disch := omega) [sd]; omega) | (simp [sd, *] <;> fail) | fail) (by conv => lhs; whnf) ?_
    | refine X.mks (by conv => lhs; whnf) (by conv => lhs; whnf) (by first | rfl | omega | (simp (disch := omega) only [sd, sb]; omega) | (simp (disch := omega) [sd] <;> fail) | (simp (disch := omega) [sd]; omega) | (simp [sd, *] <;> fail) | fail) (by first | rfl | omega | (simp (disch := omega) only [sd, sb]; omega) | (simp (disch := omega) [sd] <;> fail) | (simp (disch := omega) [sd]; omega) | (simp [sd, *] <;> fail) | fail) (by first | rfl | omega | (simp (disch := omega) only [sd, sb]; omega) | (simp (disch := omega) [sd] <;> fail) | (simp (disch := omega) [sd]; omega) | (simp [sd, *] <;> fail) | fail) (by decide) (by conv => lhs; whnf) (by conv => lhs; whnf) ?_
    | refine X.len (by conv => lhs; whnf) (by first | rfl | assumption) ?_
    | refine X.condTs rfl (by first | rfl | omega | (simp (disch := omega) only [sd, sb]; omega) | (simp (disch := omega) [sd] <;> fail) | (simp (disch := omega) [sd]; omega) | (simp [sd, *] <;> fail) | fail) ?_
    | refine X.condFs rfl (by first | rfl | omega | (simp (disch := omega) only [sd, sb]; omega) | (simp (disch := omega) [sd] <;> fail) | (simp (disch := omega) [sd]; omega) | (simp [sd, *] <;> fail) | fail) ?_
    | refine X.g1Ts rfl (by first | rfl | omega | (simp (disch := omega) only [sd, sb]; omega) | (simp (disch := omega) [sd] <;> fail) | (simp (disch := omega) [sd]; omega) | (simp [sd, *] <;> fail) | fail) ?_
    | refine X.g1Fs rfl (by first | rfl | omega | (simp (disch := omega) only [sd, sb]; omega) | (simp (disch := omega) [sd] <;> fail) | (simp (disch := omega) [sd]; omega) | (simp [sd, *] <;> fail) | fail) ?_
    | refine X.pickTs rfl (by first | rfl | omega | (simp (disch := omega) only [sd, sb]; omega) | (simp (disch := omega) [sd] <;> fail) | (simp (disch := omega) [sd]; omega) | (simp [sd, *] <;> fail) | fail) (fun _ => rfl) ?_
    | refine X.pickFs rfl (by first | rfl | omega | (simp (disch := omega) only [sd, sb]; omega) | (simp (disch := omega) [sd] <;> fail) | (simp (disch := omega) [sd]; omega) | (simp [sd, *] <;> fail) | fail) (fun _ => rfl) ?_
    | refine X.mov (by conv => lhs; whnf) (by first | rfl | assumption) ?_
    )
  refine X.pcall (clears_ok _ k) (.gs2 (req_clo _) (.gs2 (res_clo _) (.nil _))) rfl rfl rfl ?_
  rw [eb]
  repeat (first
    | refine X.lpb ?_
    | refine X.seq ?_
    | refine X.skip ?_
    | refine X.ret ?_
    | refine X.exit ?_
    | refine X.blk ?_
    | refine X.sn ?_
    | refine X.se ?_
    | refine X.sr ?_
    | refine X.bn ?_
    | refine X.br ?_
    | refine X.bh ?_
    | refine X.bm rfl ?_
    | refine X.pn ?_
    | refine X.gn ?_
    | refine X.g0 ?_
    | refine X.ln ?_
    | refine X.finn ?_
    | refine X.reg0 (by conv => lhs; reduce) ?_
    | refine X.reg1 (by conv => lhs; reduce) ?_
    | refine X.gt rfl ?_
    | refine X.iav (by conv => lhs; whnf) (by conv => lhs; whnf) (by first | rfl | omega | (simp (disch := omega) only [sd, sb]; omega) | (simp (disch := omega) [sd] <;> fail) | (simp (disch := omega) [sd]; omega) | (simp [sd, *] <;> fail) | fail) (by first | exact bs_getD (by first | rfl | omega | (simp (disch := omega) only [sd, sb]; omega) | (simp (disch := omega) [sd] <;> fail) | (simp (disch := omega) [sd]; omega) | (simp [sd, *] <;> fail) | fail) | rfl) ?_
    | refine X.o0 (fun _ _ => rfl) ?_
    | refine X.o1 (fun _ _ => rfl) (by first | rfl | omega | (simp (disch := omega) only [sd, sb]; omega) | (simp (disch := omega) [sd] <;> fail) | (simp (disch := omega) [sd]; omega) | (simp [sd, *] <;> fail) | fail) ?_
    | refine X.o2 (fun _ _ => rfl) (by first | rfl | omega | (simp (disch := omega) only [sd, sb]; omega) | (simp (disch := omega) [sd] <;> fail) | (simp (disch := omega) [sd]; omega) | (simp [sd, *] <;> fail) | fail) (by first | rfl | omega | (simp (disch := omega) only [sd, sb]; omega) | (simp (disch := omega) [sd] <;> fail) | (simp (disch := omega) [sd]; omega) | (simp [sd, *] <;> fail) | fail) ?_
    | refine X.o3 (fun _ _ => rfl) (by first | rfl | omega | (simp (disch := omega) only [sd, sb]; omega) | (simp (disch := omega) [sd] <;> fail) | (simp (disch := omega) [sd]; omega) | (simp [sd, *] <;> fail) | fail) (by first | rfl | omega | (simp (disch := omega) only [sd, sb]; omega) | (simp (disch := omega) [sd] <;> fail) | (simp (disch := omega) [sd]; omega) | (simp [sd, *] <;> fail) | fail) (by first | rfl | omega | (simp (disch := omega) only [sd, sb]; omega) | (simp (disch := omega) [sd] <;> fail) | (simp (disch := omega) [sd]; omega) | (simp [sd, *] <;> fail) | fail) ?_
    | refine X.pickT rfl (fun _ => rfl) ?_
    | refine X.pickF rfl (fun _ => rfl) ?_
    | refine X.condT rfl ?_
    | refine X.condF rfl ?_
    | refine X.g1T rfl ?_
    | refine X.g1F rfl ?_
    | refine X.alc rfl ?_
    | refine X.box (by conv => lhs; whnf) rfl rfl ?_
    | refine X.stl (by conv => lhs; whnf) rfl rfl rfl rfl rfl rfl rfl ?_
    | refine X.apf (by conv => lhs; whnf) (by conv => lhs; whnf) (by first | exact Els.vs _ | exact Els.st _ | exact Els.ns) (by first | rfl | (simp only [hgs, if_true]; rfl)) rfl rfl (by first | rfl | omega | (simp (disch := omega) only [sd, sb]; omega) | (simp (disch := omega) [sd] <;> fail) | (simp (disch := omega) [sd]; omega) | (simp [sd, *] <;> fail) | fail) (by first | rfl | omega | (simp (disch := omega) only [sd, sb]; omega) | (simp (disch := omega) [sd] <;> fail) | (simp (disch := omega) [sd]; omega) | (simp [sd, *] <;> fail) | fail) (by conv => lhs; whnf) ?_
    | refine X.mks (by conv => lhs; whnf) (by conv => lhs; whnf) (by first | rfl | omega | (simp (disch := omega) only [sd, sb]; omega) | (simp (disch := omega) [sd] <;> fail) | (simp (disch := omega) [sd]; omega) | (simp [sd, *] <;> fail) | fail) (by first | rfl | omega | (simp (disch := omega) only [sd, sb]; omega) | (simp (disch := omega) [sd] <;> fail) | (simp (disch := omega) [sd]; omega) | (simp [sd, *] <;> fail) | fail) (by first | rfl | omega | (simp (disch := omega) only [sd, sb]; omega) | (simp (disch := omega) [sd] <;> fail) | (simp (disch := omega) [sd]; omega) | (simp [sd, *] <;> fail) | fail) (by decide) (by conv => lhs; whnf) (by conv => lhs; whnf) ?_
    | refine X.len (by conv => lhs; whnf) (by first | rfl | assumption) ?_
    | refine X.condTs rfl (by first | rfl | omega | (simp (disch := omega) only [sd, sb]; omega) | (simp (disch := omega) [sd] <;> fail) | (simp (disch := omega) [sd]; omega) | (simp [sd, *] <;> fail) | fail) ?_
    | refine X.condFs rfl (by first | rfl | omega | (simp (disch := omega) only [sd, sb]; omega) | (simp (disch := omega) [sd] <;> fail) | (simp (disch := omega) [sd]; omega) | (simp [sd, *] <;> fail) | fail) ?_
    | refine X.g1Ts rfl (by first | rfl | omega | (simp (disch := omega) only [sd, sb]; omega) | (simp (disch := omega) [sd] <;> fail) | (simp (disch := omega) [sd]; omega) | (simp [sd, *] <;> fail) | fail) ?_
    | refine X.g1Fs rfl (by first | rfl | omega | (simp (disch := omega) only [sd, sb]; omega) | (simp (disch := omega) [sd] <;> fail) | (simp (disch := omega) [sd]; omega) | (simp [sd, *] <;> fail) | fail) ?_
    | refine X.pickTs rfl (by first | rfl | omega | (simp (disch := omega) only [sd, sb]; omega) | (simp (disch := omega) [sd] <;> fail) | (simp (disch := omega) [sd]; omega) | (simp [sd, *] <;> fail) | fail) (fun _ => rfl) ?_
    | refine X.pickFs rfl (by first | rfl | omega | (simp (disch := omega) only [sd, sb]; omega) | (simp (disch := omega) [sd] <;> fail) | (simp (disch := omega) [sd]; omega) | (simp [sd, *] <;> fail) | fail) (fun _ => rfl) ?_
    | refine X.mov (by conv => lhs; whnf) (by first | rfl | assumption) ?_
    )
  refine X.pcall mruns_ok (.nil _) rfl rfl rfl ?_
  repeat (first
    | refine X.lpb ?_
    | refine X.seq ?_
    | refine X.skip ?_
    | refine X.ret ?_
    | refine X.exit ?_
    | refine X.blk ?_
    | refine X.sn ?_
    | refine X.se ?_
    | refine X.sr ?_
    | refine X.bn ?_
    | refine X.br ?_
    | refine X.bh ?_
    | refine X.bm rfl ?_
    | refine X.pn ?_
    | refine X.gn ?_
    | refine X.g0 ?_
    | refine X.ln ?_
    | refine X.finn ?_
    | refine X.reg0 (by conv => lhs; reduce) ?_
    | refine X.reg1 (by conv => lhs; reduce) ?_
    | refine X.gt rfl ?_
    | refine X.iav (by conv => lhs; whnf) (by conv => lhs; whnf) (by first | rfl | omega | (simp (disch := omega) only [sd, sb]; omega) | (simp (disch := omega) [sd] <;> fail) | (simp (disch := omega) [sd]; omega) | (simp [sd, *] <;> fail) | fail) (by first | exact bs_getD (by first | rfl | omega | (simp (disch := omega) only [sd, sb]; omega) | (simp (disch := omega) [sd] <;> fail) | (simp (disch := omega) [sd]; omega) | (simp [sd, *] <;> fail) | fail) | rfl) ?_
    | refine X.o0 (fun _ _ => rfl) ?_
    | refine X.o1 (fun _ _ => rfl) (by first | rfl | omega | (simp (disch := omega) only [sd, sb]; omega) | (simp (disch := omega) [sd] <;> fail) | (simp (disch := omega) [sd]; omega) | (simp [sd, *] <;> fail) | fail) ?_
    | refine X.o2 (fun _ _ => rfl) (by first | rfl | omega | (simp (disch := omega) only [sd, sb]; omega) | (simp (disch := omega) [sd] <;> fail) | (simp (disch := omega) [sd]; omega) | (simp [sd, *] <;> fail) | fail) (by first | rfl | omega | (simp (disch := omega) only [sd, sb]; omega) | (simp (disch := omega) [sd] <;> fail) | (simp (disch := omega) [sd]; omega) | (simp [sd, *] <;> fail) | fail) ?_
    | refine X.o3 (fun _ _ => rfl) (by first | rfl | omega | (simp (disch := omega) only [sd, sb]; omega) | (simp (disch := omega) [sd] <;> fail) | (simp (disch := omega) [sd]; omega) | (simp [sd, *] <;> fail) | fail) (by first | rfl | omega | (simp (disch := omega) only [sd, sb]; omega) | (simp (disch := omega) [sd] <;> fail) | (simp (disch := omega) [sd]; omega) | (simp [sd, *] <;> fail) | fail) (by first | rfl | omega | (simp (disch := omega) only [sd, sb]; omega) | (simp (disch := omega) [sd] <;> fail) | (simp (disch := omega) [sd]; omega) | (simp [sd, *] <;> fail) | fail) ?_
    | refine X.pickT rfl (fun _ => rfl) ?_
    | refine X.pickF rfl (fun _ => rfl) ?_
    | refine X.condT rfl ?_
    | refine X.condF rfl ?_
    | refine X.g1T rfl ?_
    | refine X.g1F rfl ?_
    | refine X.alc rfl ?_
    | refine X.box (by conv => lhs; whnf) rfl rfl ?_
    | refine X.stl (by conv => lhs; whnf) rfl rfl rfl rfl rfl rfl rfl ?_
    | refine X.apf (by conv => lhs; whnf) (by conv => lhs; whnf) (by first | exact Els.vs _ | exact Els.st _ | exact Els.ns) (by first | rfl | (simp only [hgs, if_true]; rfl)) rfl rfl (by first | rfl | omega | (simp (disch := omega) only [sd, sb]; omega) | (simp (disch := omega) [sd] <;> fail) | (simp (disch := omega) [sd]; omega) | (simp [sd, *] <;> fail) | fail) (by first | rfl | omega | (simp (disch := omega) only [sd, sb]; omega) | (simp (disch := omega) [sd] <;> fail) | (simp (disch := omega) [sd]; omega) | (simp [sd, *] <;> fail) | fail) (by conv => lhs; whnf) ?_
    | refine X.mks (by conv => lhs; whnf) (by conv => lhs; whnf) (by first | rfl | omega | (simp (disch := omega) only [sd, sb]; omega) | (simp (disch := omega) [sd] <;> fail) | (simp (disch := omega) [sd]; omega) | (simp [sd, *] <;> fail) | fail) (by first | rfl | omega | (simp (disch := omega) only [sd, sb]; omega) | (simp (disch := omega) [sd] <;> fail) | (simp (disch := omega) [sd]; omega) | (simp [sd, *] <;> fail) | fail) (by first | rfl | omega | (simp (disch := omega) only [sd, sb]; omega) | (simp (disch := omega) [sd] <;> fail) | (simp (disch := omega) [sd]; omega) | (simp [sd, *] <;> fail) | fail) (by decide) (by conv => lhs; whnf) (by conv => lhs; whnf) ?_
    | refine X.len (by conv => lhs; whnf) (by first | rfl | assumption) ?_
    | refine X.condTs rfl (by first | rfl | omega | (simp (disch := omega) only [sd, sb]; omega) | (simp (disch := omega) [sd] <;> fail) | (simp (disch := omega) [sd]; omega) | (simp [sd, *] <;> fail) | fail) ?_
    | refine X.condFs rfl (by first | rfl | omega | (simp (disch := omega) only [sd, sb]; omega) | (simp (disch := omega) [sd] <;> fail) | (simp (disch := omega) [sd]; omega) | (simp [sd, *] <;> fail) | fail) ?_
    | refine X.g1Ts rfl (by first | rfl | omega | (simp (disch := omega) only [sd, sb]; omega) | (simp (disch := omega) [sd] <;> fail) | (simp (disch := omega) [sd]; omega) | (simp [sd, *] <;> fail) | fail) ?_
    | refine X.g1Fs rfl (by first | rfl | omega | (simp (disch := omega) only [sd, sb]; omega) | (simp (disch := omega) [sd] <;> fail) | (simp (disch := omega) [sd]; omega) | (simp [sd, *] <;> fail) | fail) ?_
    | refine X.pickTs rfl (by first | rfl | omega | (simp (disch := omega) only [sd, sb]; omega) | (simp (disch := omega) [sd] <;> fail) | (simp (disch := omega) [sd]; omega) | (simp [sd, *] <;> fail) | fail) (fun _ => rfl) ?_
    | refine X.pickFs rfl (by first | rfl | omega | (simp (disch := omega) only [sd, sb]; omega) | (simp (disch := omega) [sd] <;> fail) | (simp (disch := omega) [sd]; omega) | (simp [sd, *] <;> fail) | fail) (fun _ => rfl) ?_
    | refine X.mov (by conv => lhs; whnf) (by first | rfl | assumption) ?_
    )
  exact X.fin (fun _ => rfl) rfl rfl

theorem safe_r1 (m : List Nat) (n k : Int) (hw : EvP F 26 c26 [.it .i64 n, .it .i64 100, .it .i64 599] [.it .i64 k]) (h1 : m ≠ [71, 69, 84]) (h2 : m ≠ [72, 69, 65, 68]) (h3 : m ≠ [79, 80, 84, 73, 79, 78, 83]) (h4 : m ≠ [84, 82, 65, 67, 69]) (q : 200 ≤ k ∧ k < 400) : EvD F (stepD d17 [.st m, .it .i64 n] h0) (Rt (.bo true) h0) := by
  have e : safeM m = false := by simp [safeM, h1, h2, h3, h4]
  have eb : (!safeM m && decide (200 ≤ k ∧ k < 400)) = true := by rw [e]; simp; omega
  refine X.fn ?_
  repeat (first
    | refine X.lpb ?_
    | refine X.seq ?_
    | refine X.skip ?_
    | refine X.ret ?_
    | refine X.exit ?_
    | refine X.blk ?_
    | refine X.sn ?_
    | refine X.se ?_
    | refine X.sr ?_
    | refine X.bn ?_
    | refine X.br ?_
    | refine X.bh ?_
    | refine X.bm rfl ?_
    | refine X.pn ?_
    | refine X.gn ?_
    | refine X.g0 ?_
    | refine X.ln ?_
    | refine X.finn ?_
    | refine X.reg0 (by conv => lhs; reduce) ?_
    | refine X.reg1 (by conv => lhs; reduce) ?_
    | refine X.gt rfl ?_
    | refine X.iav (by conv => lhs; whnf) (by conv => lhs; whnf) (by first | rfl | omega | (simp (disch := omega) only [sd, sb]; omega) | (simp (disch := omega) [sd] <;> fail) | (simp (disch := omega) [sd]; omega) | (simp [sd, *] <;> fail) | fail) (by first | exact bs_getD (by first | rfl | omega | (simp (disch := omega) only [sd, sb]; omega) | (simp (disch := omega) [sd] <;> fail) | (simp (disch := omega) [sd]; omega) | (simp [sd, *] <;> fail) | fail) | rfl) ?_
    | refine X.o0 (fun _ _ => rfl) ?_
    | refine X.o1 (fun _ _ => rfl) (by first | rfl | omega | (simp (disch := omega) only [sd, sb]; omega) | (simp (disch := omega) [sd] <;> fail) | (simp (disch := omega) [sd]; omega) | (simp [sd, *] <;> fail) | fail) ?_
    | refine X.o2 (fun _ _ => rfl) (by first | rfl | omega | (simp (disch := omega) only [sd, sb]; omega) | (simp (disch := omega) [sd] <;> fail) | (simp (disch := omega) [sd]; omega) | (simp [sd, *] <;> fail) | fail) (by first | rfl | omega | (simp (disch := omega) only [sd, sb]; omega) | (simp (disch := omega) [sd] <;> fail) | (simp (disch := omega) [sd]; omega) | (simp [sd, *] <;> fail) | fail) ?_
    | refine X.o3 (fun _ _ => rfl) (by first | rfl | omega | (simp (disch := omega) only [sd, sb]; omega) | (simp (disch := omega) [sd] <;> fail) | (simp (disch := omega) [sd]; omega) | (simp [sd, *] <;> fail) | fail) (by first | rfl | omega | (simp (disch := omega) only [sd, sb]; omega) | (simp (disch := omega) [sd] <;> fail) | (simp (disch := omega) [sd]; omega) | (simp [sd, *] <;> fail) | fail) (by first | rfl | omega | (simp (disch := omega) only [sd, sb]; omega) | (simp (disch := omega) [sd] <;> fail) | (simp (disch := omega) [sd]; omega) | (simp [sd, *] <;> fail) | fail) ?_
    | refine X.pickT rfl (fun _ => rfl) ?_
    | refine X.pickF rfl (fun _ => rfl) ?_
    | refine X.condT rfl ?_
    | refine X.condF rfl ?_
    | refine X.g1T rfl ?_
    | refine X.g1F rfl ?_
    | refine X.alc rfl ?_
    | refine X.box (by conv => lhs; whnf) rfl rfl ?_
    | refine X.stl (by conv => lhs; whnf) rfl rfl rfl rfl rfl rfl rfl ?_
    | refine X.apf (by conv => lhs; whnf) (by conv => lhs; whnf) (by first | exact Els.vs _ | exact Els.st _ | exact Els.ns) (by first | rfl | (simp only [hgs, if_true]; rfl)) rfl rfl (by first | rfl | omega | (simp (disch := omega) only [sd, sb]; omega) | (simp (disch := omega) [sd] <;> fail) | (simp (disch := omega) [sd]; omega) | (simp [sd, *] <;> fail) | fail) (by first | rfl | omega | (simp (disch := omega) only [sd, sb]; omega) | (simp (disch := omega) [sd] <;> fail) | (simp (disch := omega) [sd]; omega) | (simp [sd, *] <;> fail) | fail) (by conv => lhs; whnf) ?_
    | refine X.mks (by conv => lhs; whnf) (by conv => lhs; whnf) (by first | rfl | omega | (simp (disch := omega) only [sd, sb]; omega) | (simp (disch := omega) [sd] <;> fail) | (simp (disch := omega) [sd]; omega) | (simp [sd, *] <;> fail) | fail) (by first | rfl | omega | (simp (disch := omega) only [sd, sb]; omega) | (simp (disch := omega) [sd] <;> fail) | (simp (disch := omega) [sd]; omega) | (simp [sd, *] <;> fail) | fail) (by first | rfl | omega | (simp (disch := omega) only [sd, sb]; omega) | (simp (disch := omega) [sd] <;> fail) | (simp (disch := omega) [sd]; omega) | (simp [sd, *] <;> fail) | fail) (by decide) (by conv => lhs; whnf) (by conv => lhs; whnf) ?_
    | refine X.len (by conv => lhs; whnf) (by first | rfl | assumption) ?_
    | refine X.condTs rfl (by first | rfl | omega | (simp (disch := omega) only [sd, sb]; omega) | (simp (disch := omega) [sd] <;> fail) | (simp (disch := omega) [sd]; omega) | (simp [sd, *] <;> fail) | fail) ?_
    | refine X.condFs rfl (by first | rfl | omega | (simp (disch := omega) only [sd, sb]; omega) | (simp (disch := omega) [sd] <;> fail) | (simp (disch := omega) [sd]; omega) | (simp [sd, *] <;> fail) | fail) ?_
    | refine X.g1Ts rfl (by first | rfl | omega | (simp (disch := omega) only [sd, sb]; omega) | (simp (disch := omega) [sd] <;> fail) | (simp (disch := omega) [sd]; omega) | (simp [sd, *] <;> fail) | fail) ?_
    | refine X.g1Fs rfl (by first | rfl | omega | (simp (disch := omega) only [sd, sb]; omega) | (simp (disch := omega) [sd] <;> fail) | (simp (disch := omega) [sd]; omega) | (simp [sd, *] <;> fail) | fail) ?_
    | refine X.pickTs rfl (by first | rfl | omega | (simp (disch := omega) only [sd, sb]; omega) | (simp (disch := omega) [sd] <;> fail) | (simp (disch := omega) [sd]; omega) | (simp [sd, *] <;> fail) | fail) (fun _ => rfl) ?_
    | refine X.pickFs rfl (by first | rfl | omega | (simp (disch := omega) only [sd, sb]; omega) | (simp (disch := omega) [sd] <;> fail) | (simp (disch := omega) [sd]; omega) | (simp [sd, *] <;> fail) | fail) (fun _ => rfl) ?_
    | refine X.mov (by conv => lhs; whnf) (by first | rfl | assumption) ?_
    )
  refine X.pcall hw (.s (clo_it _ _) (.s (clo_it _ _) (.s (clo_it _ _) (.nil _)))) rfl rfl rfl ?_
  repeat (first
    | refine X.lpb ?_
    | refine X.seq ?_
    | refine X.skip ?_
    | refine X.ret ?_
    | refine X.exit ?_
    | refine X.blk ?_
    | refine X.sn ?_
    | refine X.se ?_
    | refine X.sr ?_
    | refine X.bn ?_
    | refine X.br ?_
    | refine X.bh ?_
    | refine X.bm rfl ?_
    | refine X.pn ?_
    | refine X.gn ?_
    | refine X.g0 ?_
    | refine X.ln ?_
    | refine X.finn ?_
    | refine X.reg0 (by conv => lhs; reduce) ?_
    | refine X.reg1 (by conv => lhs; reduce) ?_
    | refine X.gt rfl ?_
    | refine X.iav (by conv => lhs; whnf) (by conv => lhs; whnf) (by first | rfl | omega | (simp (disch := omega) only [sd, sb]; omega) | (simp (disch := omega) [sd] <;> fail) | (simp (disch := omega) [sd]; omega) | (simp [sd, *] <;> fail) | fail) (by first | exact bs_getD (by first | rfl | omega | (simp (disch := omega) only [sd, sb]; omega) | (simp (disch := omega) [sd] <;> fail) | (simp (disch := omega) [sd]; omega) | (simp [sd, *] <;> fail) | fail) | rfl) ?_
    | refine X.o0 (fun _ _ => rfl) ?_
    | refine X.o1 (fun _ _ => rfl) (by first | rfl | omega | (simp (disch := omega) only [sd, sb]; omega) | (simp (disch := omega) [sd] <;> fail) | (simp (disch := omega) [sd]; omega) | (simp [sd, *] <;> fail) | fail) ?_
    | refine X.o2 (fun _ _ => rfl) (by first | rfl | omega | (simp (disch := omega) only [sd, sb]; omega) | (simp (disch := omega) [sd] <;> fail) | (simp (disch := omega) [sd]; omega) | (simp [sd, *] <;> fail) | fail) (by first | rfl | omega | (simp (disch := omega) only [sd, sb]; omega) | (simp (disch := omega) [sd] <;> fail) | (simp (disch := omega) [sd]; omega) | (simp [sd, *] <;> fail) | fail) ?_
    | refine X.o3 (fun _ _ => rfl) (by first | rfl | omega | (simp (disch := omega) only [sd, sb]; omega) | (simp (disch := omega) [sd] <;> fail) | (simp (disch := omega) [sd]; omega) | (simp [sd, *] <;> fail) | fail) (by first | rfl | omega | (simp (disch := omega) only [sd, sb]; omega) | (simp (disch := omega) [sd] <;> fail) | (simp (disch := omega) [sd]; omega) | (simp [sd, *] <;> fail) | fail) (by first | rfl | omega | (simp (disch := omega) only [sd, sb]; omega) | (simp (disch := omega) [sd] <;> fail) | (simp (disch := omega) [sd]; omega) | (simp [sd, *] <;> fail) | fail) ?_
    | refine X.pickT rfl (fun _ => rfl) ?_
    | refine X.pickF rfl (fun _ => rfl) ?_
    | refine X.condT rfl ?_
    | refine X.condF rfl ?_
    | refine X.g1T rfl ?_
    | refine X.g1F rfl ?_
    | refine X.alc rfl ?_
    | refine X.box (by conv => lhs; whnf) rfl rfl ?_
    | refine X.stl (by conv => lhs; whnf) rfl rfl rfl rfl rfl rfl rfl ?_
    | refine X.apf (by conv => lhs; whnf) (by conv => lhs; whnf) (by first | exact Els.vs _ | exact Els.st _ | exact Els.ns) (by first | rfl | (simp only [hgs, if_true]; rfl)) rfl rfl (by first | rfl | omega | (simp (disch := omega) only [sd, sb]; omega) | (simp (disch := omega) [sd] <;> fail) | (simp (disch := omega) [sd]; omega) | (simp [sd, *] <;> fail) | fail) (by first | rfl | omega | (simp (disch := omega) only [sd, sb]; omega) | (simp (disch := omega) [sd] <;> fail) | (simp (disch := omega) [sd]; omega) | (simp [sd, *] <;> fail) | fail) (by conv => lhs; whnf) ?_
    | refine X.mks (by conv => lhs; whnf) (by conv => lhs; whnf) (by first | rfl | omega | (simp (disch := omega) only [sd, sb]; omega) | (simp (disch := omega) [sd] <;> fail) | (simp (disch := omega) [sd]; omega) | (simp [sd, *] <;> fail) | fail) (by first | rfl | omega | (simp (disch := omega) only [sd, sb]; omega) | (simp (disch := omega) [sd] <;> fail) | (simp (disch := omega) [sd]; omega) | (simp [sd, *] <;> fail) | fail) (by first | rfl | omega | (simp (disch := omega) only [sd, sb]; omega) | (simp (disch := omega) [sd] <;> fail) | (simp (disch := omega) [sd]; omega) | (simp [sd, *] <;> fail) | fail) (by decide) (by conv => lhs; whnf) (by conv => lhs; whnf) ?_
    | refine X.len (by conv => lhs; whnf) (by first | rfl | assumption) ?_
    | refine X.condTs rfl (by first | rfl | omega | (simp (disch := omega) only [sd, sb]; omega) | (simp (disch := omega) [sd] <;> fail) | (simp (disch := omega) [sd]; omega) | (simp [sd, *] <;> fail) | fail) ?_
    | refine X.condFs rfl (by first | rfl | omega | (simp (disch := omega) only [sd, sb]; omega) | (simp (disch := omega) [sd] <;> fail) | (simp (disch := omega) [sd]; omega) | (simp [sd, *] <;> fail) | fail) ?_
    | refine X.g1Ts rfl (by first | rfl | omega | (simp (disch := omega) only [sd, sb]; omega) | (simp (disch := omega) [sd] <;> fail) | (simp (disch := omega) [sd]; omega) | (simp [sd, *] <;> fail) | fail) ?_
    | refine X.g1Fs rfl (by first | rfl | omega | (simp (disch := omega) only [sd, sb]; omega) | (simp (disch := omega) [sd] <;> fail) | (simp (disch := omega) [sd]; omega) | (simp [sd, *] <;> fail) | fail) ?_
    | refine X.pickTs rfl (by first | rfl | omega | (simp (disch := omega) only [sd, sb]; omega) | (simp (disch := omega) [sd] <;> fail) | (simp (disch := omega) [sd]; omega) | (simp [sd, *] <;> fail) | fail) (fun _ => rfl) ?_
    | refine X.pickFs rfl (by first | rfl | omega | (simp (disch := omega) only [sd, sb]; omega) | (simp (disch := omega) [sd] <;> fail) | (simp (disch := omega) [sd]; omega) | (simp [sd, *] <;> fail) | fail) (fun _ => rfl) ?_
    | refine X.mov (by conv => lhs; whnf) (by first | rfl | assumption) ?_
    )
  refine X.pcall (clears_ok _ k) (.gs2 (req_clo _) (.gs2 (res_clo _) (.nil _))) rfl rfl rfl ?_
  rw [eb]
  repeat (first
    | refine X.lpb ?_
    | refine X.seq ?_
    | refine X.skip ?_
    | refine X.ret ?_
    | refine X.exit ?_
    | refine X.blk ?_
    | refine X.sn ?_
    | refine X.se ?_
    | refine X.sr ?_
    | refine X.bn ?_
    | refine X.br ?_
    | refine X.bh ?_
    | refine X.bm rfl ?_
    | refine X.pn ?_
    | refine X.gn ?_
    | refine X.g0 ?_
    | refine X.ln ?_
    | refine X.finn ?_
    | refine X.reg0 (by conv => lhs; reduce) ?_
    | refine X.reg1 (by conv => lhs; reduce) ?_
    | refine X.gt rfl ?_
    | refine X.iav (by conv => lhs; whnf) (by conv => lhs; whnf) (by first | rfl | omega | (simp (disch := omega) only [sd, sb]; omega) | (simp (disch := omega) [sd] <;> fail) | (simp (disch := omega) [sd]; omega) | (simp [sd, *] <;> fail) | fail) (by first | exact bs_getD (by first | rfl | omega | (simp (disch := omega) only [sd, sb]; omega) | (simp (disch := omega) [sd] <;> fail) | (simp (disch := omega) [sd]; omega) | (simp [sd, *] <;> fail) | fail) | rfl) ?_
    | refine X.o0 (fun _ _ => rfl) ?_
    | refine X.o1 (fun _ _ => rfl) (by first | rfl | omega | (simp (disch := omega) only [sd, sb]; omega) | (simp (disch := omega) [sd] <;> fail) | (simp (disch := omega) [sd]; omega) | (simp [sd, *] <;> fail) | fail) ?_
    | refine X.o2 (fun _ _ => rfl) (by first | rfl | omega | (simp (disch := omega) only [sd, sb]; omega) | (simp (disch := omega) [sd] <;> fail) | (simp (disch := omega) [sd]; omega) | (simp [sd, *] <;> fail) | fail) (by first | rfl | omega | (simp (disch := omega) only [sd, sb]; omega) | (simp (disch := omega) [sd] <;> fail) | (simp (disch := omega) [sd]; omega) | (simp [sd, *] <;> fail) | fail) ?_
    | refine X.o3 (fun _ _ => rfl) (by first | rfl | omega | (simp (disch := omega) only [sd, sb]; omega) | (simp (disch := omega) [sd] <;> fail) | (simp (disch := omega) [sd]; omega) | (simp [sd, *] <;> fail) | fail) (by first | rfl | omega | (simp (disch := omega) only [sd, sb]; omega) | (simp (disch := omega) [sd] <;> fail) | (simp (disch := omega) [sd]; omega) | (simp [sd, *] <;> fail) | fail) (by first | rfl | omega | (simp (disch := omega) only [sd, sb]; omega) | (simp (disch := omega) [sd] <;> fail) | (simp (disch := omega) [sd]; omega) | (simp [sd, *] <;> fail) | fail) ?_
    | refine X.pickT rfl (fun _ => rfl) ?_
    | refine X.pickF rfl (fun _ => rfl) ?_
    | refine X.condT rfl ?_
    | refine X.condF rfl ?_
    | refine X.g1T rfl ?_
    | refine X.g1F rfl ?_
    | refine X.alc rfl ?_
    | refine X.box (by conv => lhs; whnf) rfl rfl ?_
    | refine X.stl (by conv => lhs; whnf) rfl rfl rfl rfl rfl rfl rfl ?_
    | refine X.apf (by conv => lhs; whnf) (by conv => lhs; whnf) (by first | exact Els.vs _ | exact Els.st _ | exact Els.ns) (by first | rfl | (simp only [hgs, if_true]; rfl)) rfl rfl (by first | rfl | omega | (simp (disch := omega) only [sd, sb]; omega) | (simp (disch := omega) [sd] <;> fail) | (simp (disch := omega) [sd]; omega) | (simp [sd, *] <;> fail) | fail) (by first | rfl | omega | (simp (disch := omega) only [sd, sb]; omega) | (simp (disch := omega) [sd] <;> fail) | (simp (disch := omega) [sd]; omega) | (simp [sd, *] <;> fail) | fail) (by conv => lhs; whnf) ?_
    | refine X.mks (by conv => lhs; whnf) (by conv => lhs; whnf) (by first | rfl | omega | (simp (disch := omega) only [sd, sb]; omega) | (simp (disch := omega) [sd] <;> fail) | (simp (disch := omega) [sd]; omega) | (simp [sd, *] <;> fail) | fail) (by first | rfl | omega | (simp (disch := omega) only [sd, sb]; omega) | (simp (disch := omega) [sd] <;> fail) | (simp (disch := omega) [sd]; omega) | (simp [sd, *] <;> fail) | fail) (by first | rfl | omega | (simp (disch := omega) only [sd, sb]; omega) | (simp (disch := omega) [sd] <;> fail) | (simp (disch := omega) [sd]; omega) | (simp [sd, *] <;> fail) | fail) (by decide) (by conv => lhs; whnf) (by conv => lhs; whnf) ?_
    | refine X.len (by conv => lhs; whnf) (by first | rfl | assumption) ?_
    | refine X.condTs rfl (by first | rfl | omega | (simp (disch := omega) only [sd, sb]; omega) | (simp (disch := omega) [sd] <;> fail) | (simp (disch := omega) [sd]; omega) | (simp [sd, *] <;> fail) | fail) ?_
    | refine X.condFs rfl (by first | rfl | omega | (simp (disch := omega) only [sd, sb]; omega) | (simp (disch := omega) [sd] <;> fail) | (simp (disch := omega) [sd]; omega) | (simp [sd, *] <;> fail) | fail) ?_
    | refine X.g1Ts rfl (by first | rfl | omega | (simp (disch := omega) only [sd, sb]; omega) | (simp (disch := omega) [sd] <;> fail) | (simp (disch := omega) [sd]; omega) | (simp [sd, *] <;> fail) | fail) ?_
    | refine X.g1Fs rfl (by first | rfl | omega | (simp (disch := omega) only [sd, sb]; omega) | (simp (disch := omega) [sd] <;> fail) | (simp (disch := omega) [sd]; omega) | (simp [sd, *] <;> fail) | fail) ?_
    | refine X.pickTs rfl (by first | rfl | omega | (simp (disch := omega) only [sd, sb]; omega) | (simp (disch := omega) [sd] <;> fail) | (simp (disch := omega) [sd]; omega) | (simp [sd, *] <;> fail) | fail) (fun _ => rfl) ?_
    | refine X.pickFs rfl (by first | rfl | omega | (simp (disch := omega) only [sd, sb]; omega) | (simp (disch := omega) [sd] <;> fail) | (simp (disch := omega) [sd]; omega) | (simp [sd, *] <;> fail) | fail) (fun _ => rfl) ?_
    | refine X.mov (by conv => lhs; whnf) (by first | rfl | assumption) ?_
    )
  refine X.pcall mruns_ok (.nil _) rfl rfl rfl ?_
  repeat (first
    | refine X.lpb ?_
    | refine X.seq ?_
    | refine X.skip ?_
    | refine X.ret ?_
    | refine X.exit ?_
    | refine X.blk ?_
    | refine X.sn ?_
    | refine X.se ?_
    | refine X.sr ?_
    | refine X.bn ?_
    | refine X.br ?_
    | refine X.bh ?_
    | refine X.bm rfl ?_
    | refine X.pn ?_
    | refine X.gn ?_
    | refine X.g0 ?_
    | refine X.ln ?_
    | refine X.finn ?_
    | refine X.reg0 (by conv => lhs; reduce) ?_
    | refine X.reg1 (by conv => lhs; reduce) ?_
    | refine X.gt rfl ?_
    | refine X.iav (by conv => lhs; whnf) (by conv => lhs; whnf) (by first | rfl | omega | (simp (disch := omega) only [sd, sb]; omega) | (simp (disch := omega) [sd] <;> fail) | (simp (disch := omega) [sd]; omega) | (simp [sd, *] <;> fail) | fail) (by first | exact bs_getD (by first | rfl | omega | (simp (disch := omega) only [sd, sb]; omega) | (simp (disch := omega) [sd] <;> fail) | (simp (disch := omega) [sd]; omega) | (simp [sd, *] <;> fail) | fail) | rfl) ?_
    | refine X.o0 (fun _ _ => rfl) ?_
    | refine X.o1 (fun _ _ => rfl) (by first | rfl | omega | (simp (disch := omega) only [sd, sb]; omega) | (simp (disch := omega) [sd] <;> fail) | (simp (disch := omega) [sd]; omega) | (simp [sd, *] <;> fail) | fail) ?_
    | refine X.o2 (fun _ _ => rfl) (by first | rfl | omega | (simp (disch := omega) only [sd, sb]; omega) | (simp (disch := omega) [sd] <;> fail) | (simp (disch := omega) [sd]; omega) | (simp [sd, *] <;> fail) | fail) (by first | rfl | omega | (simp (disch := omega) only [sd, sb]; omega) | (simp (disch := omega) [sd] <;> fail) | (simp (disch := omega) [sd]; omega) | (simp [sd, *] <;> fail) | fail) ?_
    | refine X.o3 (fun _ _ => rfl) (by first | rfl | omega | (simp (disch := omega) only [sd, sb]; omega) | (simp (disch := omega) [sd] <;> fail) | (simp (disch := omega) [sd]; omega) | (simp [sd, *] <;> fail) | fail) (by first | rfl | omega | (simp (disch := omega) only [sd, sb]; omega) | (simp (disch := omega) [sd] <;> fail) | (simp (disch := omega) [sd]; omega) | (simp [sd, *] <;> fail) | fail) (by first | rfl | omega | (simp (disch := omega) only [sd, sb]; omega) | (simp (disch := omega) [sd] <;> fail) | (simp (disch := omega) [sd]; omega) | (simp [sd, *] <;> fail) | fail) ?_
    | refine X.pickT rfl (fun _ => rfl) ?_
    | refine X.pickF rfl (fun _ => rfl) ?_
    | refine X.condT rfl ?_
    | refine X.condF rfl ?_
    | refine X.g1T rfl ?_
    | refine X.g1F rfl ?_
    | refine X.alc rfl ?_
    | refine X.box (by conv => lhs; whnf) rfl rfl ?_
    | refine X.stl (by conv => lhs; whnf) rfl rfl rfl rfl rfl rfl rfl ?_
    | refine X.apf (by conv => lhs; whnf) (by conv => lhs; whnf) (by first | exact Els.vs _ | exact Els.st _ | exact Els.ns) (by first | rfl | (simp only [hgs, if_true]; rfl)) rfl rfl (by first | rfl | omega | (simp (disch := omega) only [sd, sb]; omega) | (simp (disch := omega) [sd] <;> fail) | (simp (disch := omega) [sd]; omega) | (simp [sd, *] <;> fail) | fail) (by first | rfl | omega | (simp (disch := omega) only [sd, sb]; omega) | (simp (disch := omega) [sd] <;> fail) | (simp (disch := omega) [sd]; omega) | (simp [sd, *] <;> fail) | fail) (by conv => lhs; whnf) ?_
    | refine X.mks (by conv => lhs; whnf) (by conv => lhs; whnf) (by first | rfl | omega | (simp (disch := omega) only [sd, sb]; omega) | (simp (disch := omega) [sd] <;> fail) | (simp (disch := omega) [sd]; omega) | (simp [sd, *] <;> fail) | fail) (by first | rfl | omega | (simp (disch := omega) only [sd, sb]; omega) | (simp (disch := omega) [sd] <;> fail) | (simp (disch := omega) [sd]; omega) | (simp [sd, *] <;> fail) | fail) (by first | rfl | omega | (simp (disch := omega) only [sd, sb]; omega) | (simp (disch := omega) [sd] <;> fail) | (simp (disch := omega) [sd]; omega) | (simp [sd, *] <;> fail) | fail) (by decide) (by conv => lhs; whnf) (by conv => lhs; whnf) ?_
    | refine X.len (by conv => lhs; whnf) (by first | rfl | assumption) ?_
    | refine X.condTs rfl (by first | rfl | omega | (simp (disch := omega) only [sd, sb]; omega) | (simp (disch := omega) [sd] <;> fail) | (simp (disch := omega) [sd]; omega) | (simp [sd, *] <;> fail) | fail) ?_
    | refine X.condFs rfl (by first | rfl | omega | (simp (disch := omega) only [sd, sb]; omega) | (simp (disch := omega) [sd] <;> fail) | (simp (disch := omega) [sd]; omega) | (simp [sd, *] <;> fail) | fail) ?_
    | refine X.g1Ts rfl (by first | rfl | omega | (simp (disch := omega) only [sd, sb]; omega) | (simp (disch := omega) [sd] <;> fail) | (simp (disch := omega) [sd]; omega) | (simp [sd, *] <;> fail) | fail) ?_
    | refine X.g1Fs rfl (by first | rfl | omega | (simp (disch := omega) only [sd, sb]; omega) | (simp (disch := omega) [sd] <;> fail) | (simp (disch := omega) [sd]; omega) | (simp [sd, *] <;> fail) | fail) ?_
    | refine X.pickTs rfl (by first | rfl | omega | (simp (disch := omega) only [sd, sb]; omega) | (simp (disch := omega) [sd] <;> fail) | (simp (disch := omega) [sd]; omega) | (simp [sd, *] <;> fail) | fail) (fun _ => rfl) ?_
    | refine X.pickFs rfl (by first | rfl | omega | (simp (disch := omega) only [sd, sb]; omega) | (simp (disch := omega) [sd] <;> fail) | (simp (disch := omega) [sd]; omega) | (simp [sd, *] <;> fail) | fail) (fun _ => rfl) ?_
    | refine X.mov (by conv => lhs; whnf) (by first | rfl | assumption) ?_
    )
  exact X.fin (fun _ => rfl) rfl rfl

theorem safe_r2 (m : List Nat) (n k : Int) (hw : EvP F 26 c26 [.it .i64 n, .it .i64 100, .it .i64 599] [.it .i64 k]) (h1 : m ≠ [71, 69, 84]) (h2 : m ≠ [72, 69, 65, 68]) (h3 : m ≠ [79, 80, 84, 73, 79, 78, 83]) (h4 : m ≠ [84, 82, 65, 67, 69]) (q : 400 ≤ k) : EvD F (stepD d17 [.st m, .it .i64 n] h0) (Rt (.bo true) h0) := by
  have e : safeM m = false := by simp [safeM, h1, h2, h3, h4]
  have eb : (!safeM m && decide (200 ≤ k ∧ k < 400)) = false := by rw [e]; simp; omega
  refine X.fn ?_
  repeat (first
    | refine X.lpb ?_
    | refine X.seq ?_
    | refine X.skip ?_
    | refine X.ret ?_
    | refine X.exit ?_
    | refine X.blk ?_
    | refine X.sn ?_
    | refine X.se ?_
    | refine X.sr ?_
    | refine X.bn ?_
    | refine X.br ?_
    | refine X.bh ?_
    | refine X.bm rfl ?_
    | refine X.pn ?_
    | refine X.gn ?_
    | refine X.g0 ?_
    | refine X.ln ?_
    | refine X.finn ?_
    | refine X.reg0 (by conv => lhs; reduce) ?_
    | refine X.reg1 (by conv => lhs; reduce) ?_
    | refine X.gt rfl ?_
    | refine X.iav (by conv => lhs; whnf) (by conv => lhs; whnf) (by first | rfl | omega | (simp (disch := omega) only [sd, sb]; omega) | (simp (disch := omega) [sd] <;> fail) | (simp (disch := omega) [sd]; omega) | (simp [sd, *] <;> fail) | fail) (by first | exact bs_getD (by first | rfl | omega | (simp (disch := omega) only [sd, sb]; omega) | (simp (disch := omega) [sd] <;> fail) | (simp (disch := omega) [sd]; omega) | (simp [sd, *] <;> fail) | fail) | rfl) ?_
    | refine X.o0 (fun _ _ => rfl) ?_
    | refine X.o1 (fun _ _ => rfl) (by first | rfl | omega | (simp (disch := omega) only [sd, sb]; omega) | (simp (disch := omega) [sd] <;> fail) | (simp (disch := omega) [sd]; omega) | (simp [sd, *] <;> fail) | fail) ?_
    | refine X.o2 (fun _ _ => rfl) (by first | rfl | omega | (simp (disch := omega) only [sd, sb]; omega) | (simp (disch := omega) [sd] <;> fail) | (simp (disch := omega) [sd]; omega) | (simp [sd, *] <;> fail) | fail) (by first | rfl | omega | (simp (disch := omega) only [sd, sb]; omega) | (simp (disch := omega) [sd] <;> fail) | (simp (disch := omega) [sd]; omega) | (simp [sd, *] <;> fail) | fail) ?_
    | refine X.o3 (fun _ _ => rfl) (by first | rfl | omega | (simp (disch := omega) only [sd, sb]; omega) | (simp (disch := omega) [sd] <;> fail) | (simp (disch := omega) [sd]; omega) | (simp [sd, *] <;> fail) | fail) (by first | rfl | omega | (simp (disch := omega) only [sd, sb]; omega) | (simp (disch := omega) [sd] <;> fail) | (simp (disch := omega) [sd]; omega) | (simp [sd, *] <;> fail) | fail) (by first | rfl | omega | (simp (disch := omega) only [sd, sb]; omega) | (simp (disch := omega) [sd] <;> fail) | (simp (disch := omega) [sd]; omega) | (simp [sd, *] <;> fail) | fail) ?_
    | refine X.pickT rfl (fun _ => rfl) ?_
    | refine X.pickF rfl (fun _ => rfl) ?_
    | refine X.condT rfl ?_
    | refine X.condF rfl ?_
    | refine X.g1T rfl ?_
    | refine X.g1F rfl ?_
    | refine X.alc rfl ?_
    | refine X.box (by conv => lhs; whnf) rfl rfl ?_
    | refine X.stl (by conv => lhs; whnf) rfl rfl rfl rfl rfl rfl rfl ?_
    | refine X.apf (by conv => lhs; whnf) (by conv => lhs; whnf) (by first | exact Els.vs _ | exact Els.st _ | exact Els.ns) (by first | rfl | (simp only [hgs, if_true]; rfl)) rfl rfl (by first | rfl | omega | (simp (disch := omega) only [sd, sb]; omega) | (simp (disch := omega) [sd] <;> fail) | (simp (disch := omega) [sd]; omega) | (simp [sd, *] <;> fail) | fail) (by first | rfl | omega | (simp (disch := omega) only [sd, sb]; omega) | (simp (disch := omega) [sd] <;> fail) | (simp (disch := omega) [sd]; omega) | (simp [sd, *] <;> fail) | fail) (by conv => lhs; whnf) ?_
    | refine X.mks (by conv => lhs; whnf) (by conv => lhs; whnf) (by first | rfl | omega | (simp (disch := omega) only [sd, sb]; omega) | (simp (disch := omega) [sd] <;> fail) | (simp (disch := omega) [sd]; omega) | (simp [sd, *] <;> fail) | fail) (by first | rfl | omega | (simp (disch := omega) only [sd, sb]; omega) | (simp (disch := omega) [sd] <;> fail) | (simp (disch := omega) [sd]; omega) | (simp [sd, *] <;> fail) | fail) (by first | rfl | omega | (simp (disch := omega) only [sd, sb]; omega) | (simp (disch := omega) [sd] <;> fail) | (simp (disch := omega) [sd]; omega) | (simp [sd, *] <;> fail) | fail) (by decide) (by conv => lhs; whnf) (by conv => lhs; whnf) ?_
    | refine X.len (by conv => lhs; whnf) (by first | rfl | assumption) ?_
    | refine X.condTs rfl (by first | rfl | omega | (simp (disch := omega) only [sd, sb]; omega) | (simp (disch := omega) [sd] <;> fail) | (simp (disch := omega) [sd]; omega) | (simp [sd, *] <;> fail) | fail) ?_
    | refine X.condFs rfl (by first | rfl | omega | (simp (disch := omega) only [sd, sb]; omega) | (simp (disch := omega) [sd] <;> fail) | (simp (disch := omega) [sd]; omega) | (simp [sd, *] <;> fail) | fail) ?_
    | refine X.g1Ts rfl (by first | rfl | omega | (simp (disch := omega) only [sd, sb]; omega) | (simp (disch := omega) [sd] <;> fail) | (simp (disch := omega) [sd]; omega) | (simp [sd, *] <;> fail) | fail) ?_
    | refine X.g1Fs rfl (by first | rfl | omega | (simp (disch := omega) only [sd, sb]; omega) | (simp (disch := omega) [sd] <;> fail) | (simp (disch := omega) [sd]; omega) | (simp [sd, *] <;> fail) | fail) ?_
    | refine X.pickTs rfl (by first | rfl | omega | (simp (disch := omega) only [sd, sb]; omega) | (simp (disch := omega) [sd] <;> fail) | (simp (disch := omega) [sd]; omega) | (simp [sd, *] <;> fail) | fail) (fun _ => rfl) ?_
    | refine X.pickFs rfl (by first | rfl | omega | (simp (disch := omega) only [sd, sb]; omega) | (simp (disch := omega) [sd] <;> fail) | (simp (disch := omega) [sd]; omega) | (simp [sd, *] <;> fail) | fail) (fun _ => rfl) ?_
    | refine X.mov (by conv => lhs; whnf) (by first | rfl | assumption) ?_
    )
  refine X.pcall hw (.s (clo_it _ _) (.s (clo_it _ _) (.s (clo_it _ _) (.nil _)))) rfl rfl rfl ?_
  repeat (first
    | refine X.lpb ?_
    | refine X.seq ?_
    | refine X.skip ?_
    | refine X.ret ?_
    | refine X.exit ?_
    | refine X.blk ?_
    | refine X.sn ?_
    | refine X.se ?_
    | refine X.sr ?_
    | refine X.bn ?_
    | refine X.br ?_
    | refine X.bh ?_
    | refine X.bm rfl ?_
    | refine X.pn ?_
    | refine X.gn ?_
    | refine X.g0 ?_
    | refine X.ln ?_
    | refine X.finn ?_
    | refine X.reg0 (by conv => lhs; reduce) ?_
    | refine X.reg1 (by conv => lhs; reduce) ?_
    | refine X.gt rfl ?_
    | refine X.iav (by conv => lhs; whnf) (by conv => lhs; whnf) (by first | rfl | omega | (simp (disch := omega) only [sd, sb]; omega) | (simp (disch := omega) [sd] <;> fail) | (simp (disch := omega) [sd]; omega) | (simp [sd, *] <;> fail) | fail) (by first | exact bs_getD (by first | rfl | omega | (simp (disch := omega) only [sd, sb]; omega) | (simp (disch := omega) [sd] <;> fail) | (simp (disch := omega) [sd]; omega) | (simp [sd, *] <;> fail) | fail) | rfl) ?_
    | refine X.o0 (fun _ _ => rfl) ?_
    | refine X.o1 (fun _ _ => rfl) (by first | rfl | omega | (simp (disch := omega) only [sd, sb]; omega) | (simp (disch := omega) [sd] <;> fail) | (simp (disch := omega) [sd]; omega) | (simp [sd, *] <;> fail) | fail) ?_
    | refine X.o2 (fun _ _ => rfl) (by first | rfl | omega | (simp (disch := omega) only [sd, sb]; omega) | (simp (disch := omega) [sd] <;> fail) | (simp (disch := omega) [sd]; omega) | (simp [sd, *] <;> fail) | fail) (by first | rfl | omega | (simp (disch := omega) only [sd, sb]; omega) | (simp (disch := omega) [sd] <;> fail) | (simp (disch := omega) [sd]; omega) | (simp [sd, *] <;> fail) | fail) ?_
    | refine X.o3 (fun _ _ => rfl) (by first | rfl | omega | (simp (disch := omega) only [sd, sb]; omega) | (simp (disch := omega) [sd] <;> fail) | (simp (disch := omega) [sd]; omega) | (simp [sd, *] <;> fail) | fail) (by first | rfl | omega | (simp (disch := omega) only [sd, sb]; omega) | (simp (disch := omega) [sd] <;> fail) | (simp (disch := omega) [sd]; omega) | (simp [sd, *] <;> fail) | fail) (by first | rfl | omega | (simp (disch := omega) only [sd, sb]; omega) | (simp (disch := omega) [sd] <;> fail) | (simp (disch := omega) [sd]; omega) | (simp [sd, *] <;> fail) | fail) ?_
    | refine X.pickT rfl (fun _ => rfl) ?_
    | refine X.pickF rfl (fun _ => rfl) ?_
    | refine X.condT rfl ?_
    | refine X.condF rfl ?_
    | refine X.g1T rfl ?_
    | refine X.g1F rfl ?_
    | refine X.alc rfl ?_
    | refine X.box (by conv => lhs; whnf) rfl rfl ?_
    | refine X.stl (by conv => lhs; whnf) rfl rfl rfl rfl rfl rfl rfl ?_
    | refine X.apf (by conv => lhs; whnf) (by conv => lhs; whnf) (by first | exact Els.vs _ | exact Els.st _ | exact Els.ns) (by first | rfl | (simp only [hgs, if_true]; rfl)) rfl rfl (by first | rfl | omega | (simp (disch := omega) only [sd, sb]; omega) | (simp (disch := omega) [sd] <;> fail) | (simp (disch := omega) [sd]; omega) | (simp [sd, *] <;> fail) | fail) (by first | rfl | omega | (simp (disch := omega) only [sd, sb]; omega) | (simp (disch := omega) [sd] <;> fail) | (simp (disch := omega) [sd]; omega) | (simp [sd, *] <;> fail) | fail) (by conv => lhs; whnf) ?_
    | refine X.mks (by conv => lhs; whnf) (by conv => lhs; whnf) (by first | rfl | omega | (simp (disch := omega) only [sd, sb]; omega) | (simp (disch := omega) [sd] <;> fail) | (simp (disch := omega) [sd]; omega) | (simp [sd, *] <;> fail) | fail) (by first | rfl | omega | (simp (disch := omega) only [sd, sb]; omega) | (simp (disch := omega) [sd] <;> fail) | (simp (disch := omega) [sd]; omega) | (simp [sd, *] <;> fail) | fail) (by first | rfl | omega | (simp (disch := omega) only [sd, sb]; omega) | (simp (disch := omega) [sd] <;> fail) | (simp (disch := omega) [sd]; omega) | (simp [sd, *] <;> fail) | fail) (by decide) (by conv => lhs; whnf) (by conv => lhs; whnf) ?_
    | refine X.len (by conv => lhs; whnf) (by first | rfl | assumption) ?_
    | refine X.condTs rfl (by first | rfl | omega | (simp (disch := omega) only [sd, sb]; omega) | (simp (disch := omega) [sd] <;> fail) | (simp (disch := omega) [sd]; omega) | (simp [sd, *] <;> fail) | fail) ?_
    | refine X.condFs rfl (by first | rfl | omega | (simp (disch := omega) only [sd, sb]; omega) | (simp (disch := omega) [sd] <;> fail) | (simp (disch := omega) [sd]; omega) | (simp [sd, *] <;> fail) | fail) ?_
    | refine X.g1Ts rfl (by first | rfl | omega | (simp (disch := omega) only [sd, sb]; omega) | (simp (disch := omega) [sd] <;> fail) | (simp (disch := omega) [sd]; omega) | (simp [sd, *] <;> fail) | fail) ?_
    | refine X.g1Fs rfl (by first | rfl | omega | (simp (disch := omega) only [sd, sb]; omega) | (simp (disch := omega) [sd] <;> fail) | (simp (disch := omega) [sd]; omega) | (simp [sd, *] <;> fail) | fail) ?_
    | refine X.pickTs rfl (by first | rfl | omega | (simp (disch := omega) only [sd, sb]; omega) | (simp (disch := omega) [sd] <;> fail) | (simp (disch := omega) [sd]; omega) | (simp [sd, *] <;> fail) | fail) (fun _ => rfl) ?_
    | refine X.pickFs rfl (by first | rfl | omega | (simp (disch := omega) only [sd, sb]; omega) | (simp (disch := omega) [sd] <;> fail) | (simp (disch := omega) [sd]; omega) | (simp [sd, *] <;> fail) | fail) (fun _ => rfl) ?_
    | refine X.mov (by conv => lhs; whnf) (by first | rfl | assumption) ?_
    )
  refine X.pcall (clears_ok _ k) (.gs2 (req_clo _) (.gs2 (res_clo _) (.nil _))) rfl rfl rfl ?_
  rw [eb]
  repeat (first
    | refine X.lpb ?_
    | refine X.seq ?_
    | refine X.skip ?_
    | refine X.ret ?_
    | refine X.exit ?_
    | refine X.blk ?_
    | refine X.sn ?_
    | refine X.se ?_
    | refine X.sr ?_
    | refine X.bn ?_
    | refine X.br ?_
    | refine X.bh ?_
    | refine X.bm rfl ?_
    | refine X.pn ?_
    | refine X.gn ?_
    | refine X.g0 ?_
    | refine X.ln ?_
    | refine X.finn ?_
    | refine X.reg0 (by conv => lhs; reduce) ?_
    | refine X.reg1 (by conv => lhs; reduce) ?_
    | refine X.gt rfl ?_
    | refine X.iav (by conv => lhs; whnf) (by conv => lhs; whnf) (by first | rfl | omega | (simp (disch := omega) only [sd, sb]; omega) | (simp (disch := omega) [sd] <;> fail) | (simp (disch := omega) [sd]; omega) | (simp [sd, *] <;> fail) | fail) (by first | exact bs_getD (by first | rfl | omega | (simp (disch := omega) only [sd, sb]; omega) | (simp (disch := omega) [sd] <;> fail) | (simp (disch := omega) [sd]; omega) | (simp [sd, *] <;> fail) | fail) | rfl) ?_
    | refine X.o0 (fun _ _ => rfl) ?_
    | refine X.o1 (fun _ _ => rfl) (by first | rfl | omega | (simp (disch := omega) only [sd, sb]; omega) | (simp (disch := omega) [sd] <;> fail) | (simp (disch := omega) [sd]; omega) | (simp [sd, *] <;> fail) | fail) ?_
    | refine X.o2 (fun _ _ => rfl) (by first | rfl | omega | (simp (disch := omega) only [sd, sb]; omega) | (simp (disch := omega) [sd] <;> fail) | (simp (disch := omega) [sd]; omega) | (simp [sd, *] <;> fail) | fail) (by first | rfl | omega | (simp (disch := omega) only [sd, sb]; omega) | (simp (disch := omega) [sd] <;> fail) | (simp (disch := omega) [sd]; omega) | (simp [sd, *] <;> fail) | fail) ?_
    | refine X.o3 (fun _ _ => rfl) (by first | rfl | omega | (simp (disch := omega) only [sd, sb]; omega) | (simp (disch := omega) [sd] <;> fail) | (simp (disch := omega) [sd]; omega) | (simp [sd, *] <;> fail) | fail) (by first | rfl | omega | (simp (disch := omega) only [sd, sb]; omega) | (simp (disch := omega) [sd] <;> fail) | (simp (disch := omega) [sd]; omega) | (simp [sd, *] <;> fail) | fail) (by first | rfl | omega | (simp (disch := omega) only [sd, sb]; omega) | (simp (disch := omega) [sd] <;> fail) | (simp (disch := omega) [sd]; omega) | (simp [sd, *] <;> fail) | fail) ?_
    | refine X.pickT rfl (fun _ => rfl) ?_
    | refine X.pickF rfl (fun _ => rfl) ?_
    | refine X.condT rfl ?_
    | refine X.condF rfl ?_
    | refine X.g1T rfl ?_
    | refine X.g1F rfl ?_
    | refine X.alc rfl ?_
    | refine X.box (by conv => lhs; whnf) rfl rfl ?_
    | refine X.stl (by conv => lhs; whnf) rfl rfl rfl rfl rfl rfl rfl ?_
    | refine X.apf (by conv => lhs; whnf) (by conv => lhs; whnf) (by first | exact Els.vs _ | exact Els.st _ | exact Els.ns) (by first | rfl | (simp only [hgs, if_true]; rfl)) rfl rfl (by first | rfl | omega | (simp (disch := omega) only [sd, sb]; omega) | (simp (disch := omega) [sd] <;> fail) | (simp (disch := omega) [sd]; omega) | (simp [sd, *] <;> fail) | fail) (by first | rfl | omega | (simp (disch := omega) only [sd, sb]; omega) | (simp (disch := omega) [sd] <;> fail) | (simp (disch := omega) [sd]; omega) | (simp [sd, *] <;> fail) | fail) (by conv => lhs; whnf) ?_
    | refine X.mks (by conv => lhs; whnf) (by conv => lhs; whnf) (by first | rfl | omega | (simp (disch := omega) only [sd, sb]; omega) | (simp (disch := omega) [sd] <;> fail) | (simp (disch := omega) [sd]; omega) | (simp [sd, *] <;> fail) | fail) (by first | rfl | omega | (simp (disch := omega) only [sd, sb]; omega) | (simp (disch := omega) [sd] <;> fail) | (simp (disch := omega) [sd]; omega) | (simp [sd, *] <;> fail) | fail) (by first | rfl | omega | (simp (disch := omega) only [sd, sb]; omega) | (simp (disch := omega) [sd] <;> fail) | (simp (disch := omega) [sd]; omega) | (simp [sd, *] <;> fail) | fail) (by decide) (by conv => lhs; whnf) (by conv => lhs; whnf) ?_
    | refine X.len (by conv => lhs; whnf) (by first | rfl | assumption) ?_
    | refine X.condTs rfl (by first | rfl | omega | (simp (disch := omega) only [sd, sb]; omega) | (simp (disch := omega) [sd] <;> fail) | (simp (disch := omega) [sd]; omega) | (simp [sd, *] <;> fail) | fail) ?_
    | refine X.condFs rfl (by first | rfl | omega | (simp (disch := omega) only [sd, sb]; omega) | (simp (disch := omega) [sd] <;> fail) | (simp (disch := omega) [sd]; omega) | (simp [sd, *] <;> fail) | fail) ?_
    | refine X.g1Ts rfl (by first | rfl | omega | (simp (disch := omega) only [sd, sb]; omega) | (simp (disch := omega) [sd] <;> fail) | (simp (disch := omega) [sd]; omega) | (simp [sd, *] <;> fail) | fail) ?_
    | refine X.g1Fs rfl (by first | rfl | omega | (simp (disch := omega) only [sd, sb]; omega) | (simp (disch := omega) [sd] <;> fail) | (simp (disch := omega) [sd]; omega) | (simp [sd, *] <;> fail) | fail) ?_
    | refine X.pickTs rfl (by first | rfl | omega | (simp (disch := omega) only [sd, sb]; omega) | (simp (disch := omega) [sd] <;> fail) | (simp (disch := omega) [sd]; omega) | (simp [sd, *] <;> fail) | fail) (fun _ => rfl) ?_
    | refine X.pickFs rfl (by first | rfl | omega | (simp (disch := omega) only [sd, sb]; omega) | (simp (disch := omega) [sd] <;> fail) | (simp (disch := omega) [sd]; omega) | (simp [sd, *] <;> fail) | fail) (fun _ => rfl) ?_
    | refine X.mov (by conv => lhs; whnf) (by first | rfl | assumption) ?_
    )
  refine X.pcall mruns_ok (.nil _) rfl rfl rfl ?_
  repeat (first
    | refine X.lpb ?_
    | refine X.seq ?_
    | refine X.skip ?_
    | refine X.ret ?_
    | refine X.exit ?_
    | refine X.blk ?_
    | refine X.sn ?_
    | refine X.se ?_
    | refine X.sr ?_
    | refine X.bn ?_
    | refine X.br ?_
    | refine X.bh ?_
    | refine X.bm rfl ?_
    | refine X.pn ?_
    | refine X.gn ?_
    | refine X.g0 ?_
    | refine X.ln ?_
    | refine X.finn ?_
    | refine X.reg0 (by conv => lhs; reduce) ?_
    | refine X.reg1 (by conv => lhs; reduce) ?_
    | refine X.gt rfl ?_
    | refine X.iav (by conv => lhs; whnf) (by conv => lhs; whnf) (by first | rfl | omega | (simp (disch := omega) only [sd, sb]; omega) | (simp (disch := omega) [sd] <;> fail) | (simp (disch := omega) [sd]; omega) | (simp [sd, *] <;> fail) | fail) (by first | exact bs_getD (by first | rfl | omega | (simp (disch := omega) only [sd, sb]; omega) | (simp (disch := omega) [sd] <;> fail) | (simp (disch := omega) [sd]; omega) | (simp [sd, *] <;> fail) | fail) | rfl) ?_
    | refine X.o0 (fun _ _ => rfl) ?_
    | refine X.o1 (fun _ _ => rfl) (by first | rfl | omega | (simp (disch := omega) only [sd, sb]; omega) | (simp (disch := omega) [sd] <;> fail) | (simp (disch := omega) [sd]; omega) | (simp [sd, *] <;> fail) | fail) ?_
    | refine X.o2 (fun _ _ => rfl) (by first | rfl | omega | (simp (disch := omega) only [sd, sb]; omega) | (simp (disch := omega) [sd] <;> fail) | (simp (disch := omega) [sd]; omega) | (simp [sd, *] <;> fail) | fail) (by first | rfl | omega | (simp (disch := omega) only [sd, sb]; omega) | (simp (disch := omega) [sd] <;> fail) | (simp (disch := omega) [sd]; omega) | (simp [sd, *] <;> fail) | fail) ?_
    | refine X.o3 (fun _ _ => rfl) (by first | rfl | omega | (simp (disch := omega) only [sd, sb]; omega) | (simp (disch := omega) [sd] <;> fail) | (simp (disch := omega) [sd]; omega) | (simp [sd, *] <;> fail) | fail) (by first | rfl | omega | (simp (disch := omega) only [sd, sb]; omega) | (simp (disch := omega) [sd] <;> fail) | (simp (disch := omega) [sd]; omega) | (simp [sd, *] <;> fail) | fail) (by first | rfl | omega | (simp (disch := omega) only [sd, sb]; omega) | (simp (disch := omega) [sd] <;> fail) | (simp (disch := omega) [sd]; omega) | (simp [sd, *] <;> fail) | fail) ?_
    | refine X.pickT rfl (fun _ => rfl) ?_
    | refine X.pickF rfl (fun _ => rfl) ?_
    | refine X.condT rfl ?_
    | refine X.condF rfl ?_
    | refine X.g1T rfl ?_
    | refine X.g1F rfl ?_
    | refine X.alc rfl ?_
    | refine X.box (by conv => lhs; whnf) rfl rfl ?_
    | refine X.stl (by conv => lhs; whnf) rfl rfl rfl rfl rfl rfl rfl ?_
    | refine X.apf (by conv => lhs; whnf) (by conv => lhs; whnf) (by first | exact Els.vs _ | exact Els.st _ | exact Els.ns) (by first | rfl | (simp only [hgs, if_true]; rfl)) rfl rfl (by first | rfl | omega | (simp (disch := omega) only [sd, sb]; omega) | (simp (disch := omega) [sd] <;> fail) | (simp (disch := omega) [sd]; omega) | (simp [sd, *] <;> fail) | fail) (by first | rfl | omega | (simp (disch := omega) only [sd, sb]; omega) | (simp (disch := omega) [sd] <;> fail) | (simp (disch := omega) [sd]; omega) | (simp [sd, *] <;> fail) | fail) (by conv => lhs; whnf) ?_
    | refine X.mks (by conv => lhs; whnf) (by conv => lhs; whnf) (by first | rfl | omega | (simp (disch := omega) only [sd, sb]; omega) | (simp (disch := omega) [sd] <;> fail) | (simp (disch := omega) [sd]; omega) | (simp [sd, *] <;> fail) | fail) (by first | rfl | omega | (simp (disch := omega) only [sd, sb]; omega) | (simp (disch := omega) [sd] <;> fail) | (simp (disch := omega) [sd]; omega) | (simp [sd, *] <;> fail) | fail) (by first | rfl | omega | (simp (disch := omega) only [sd, sb]; omega) | (simp (disch := omega) [sd] <;> fail) | (simp (disch := omega) [sd]; omega) | (simp [sd, *] <;> fail) | fail) (by decide) (by conv => lhs; whnf) (by conv => lhs; whnf) ?_
    | refine X.len (by conv => lhs; whnf) (by first | rfl | assumption) ?_
    | refine X.condTs rfl (by first | rfl | omega | (simp (disch := omega) only [sd, sb]; omega) | (simp (disch := omega) [sd] <;> fail) | (simp (disch := omega) [sd]; omega) | (simp [sd, *] <;> fail) | fail) ?_
    | refine X.condFs rfl (by first | rfl | omega | (simp (disch := omega) only [sd, sb]; omega) | (simp (disch := omega) [sd] <;> fail) | (simp (disch := omega) [sd]; omega) | (simp [sd, *] <;> fail) | fail) ?_
    | refine X.g1Ts rfl (by first | rfl | omega | (simp (disch := omega) only [sd, sb]; omega) | (simp (disch := omega) [sd] <;> fail) | (simp (disch := omega) [sd]; omega) | (simp [sd, *] <;> fail) | fail) ?_
    | refine X.g1Fs rfl (by first | rfl | omega | (simp (disch := omega) only [sd, sb]; omega) | (simp (disch := omega) [sd] <;> fail) | (simp (disch := omega) [sd]; omega) | (simp [sd, *] <;> fail) | fail) ?_
    | refine X.pickTs rfl (by first | rfl | omega | (simp (disch := omega) only [sd, sb]; omega) | (simp (disch := omega) [sd] <;> fail) | (simp (disch := omega) [sd]; omega) | (simp [sd, *] <;> fail) | fail) (fun _ => rfl) ?_
    | refine X.pickFs rfl (by first | rfl | omega | (simp (disch := omega) only [sd, sb]; omega) | (simp (disch := omega) [sd] <;> fail) | (simp (disch := omega) [sd]; omega) | (simp [sd, *] <;> fail) | fail) (fun _ => rfl) ?_
    | refine X.mov (by conv => lhs; whnf) (by first | rfl | assumption) ?_
    )
  exact X.fin (fun _ => rfl) rfl rfl

theorem safe_run (m : List Nat) (n : Int) : ∃ h, EvD F (stepD d17 [.st m, .it .i64 n] h0) (Rt (.bo true) h) := by
  refine ⟨h0, ?_⟩
  obtain ⟨k, a, b, hw⟩ := within_ok n 100 599 (by omega) (by omega) (by omega)
  have kc : (k < 200) ∨ (200 ≤ k ∧ k < 400) ∨ (400 ≤ k) := by omega
  by_cases h1 : m = [71, 69, 84]
  · subst h1; exact safe_0 n k hw
  by_cases h2 : m = [72, 69, 65, 68]
  · subst h2; exact safe_1 n k hw
  by_cases h3 : m = [79, 80, 84, 73, 79, 78, 83]
  · subst h3; exact safe_2 n k hw
  by_cases h4 : m = [84, 82, 65, 67, 69]
  · subst h4; exact safe_3 n k hw
  rcases kc with q | q | q
  · exact safe_r0 m n k hw h1 h2 h3 h4 q
  · exact safe_r1 m n k hw h1 h2 h3 h4 q
  · exact safe_r2 m n k hw h1 h2 h3 h4 q

theorem safe_law (xs : List V) (h : ShP [(false, [.st]), (false, [.it .i64])] xs) : ∃ L k hp', runF (callF F L k) L c17 xs h0 = .ret (.bo true) hp' := by
  obtain ⟨v, r, rfl, h1, h, e1⟩ := h.one'
  obtain ⟨w, r, rfl, h2, h, e2⟩ := h.one'
  cases h.nil'
  obtain ⟨m, rfl, _, _⟩ := text_of h1
  obtain ⟨n, rfl, _⟩ := int_of h2
  exact law_of d17 rfl (safe_run m n)
end Go.Proofs.Ytcbiplmgaiipgaa
