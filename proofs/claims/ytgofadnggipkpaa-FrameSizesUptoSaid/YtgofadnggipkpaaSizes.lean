import Derived.Test.YtgofadnggipkpaaSpec2
import Derived.Test.YtgofadnggipkpaaClosed
import Derived.Test.YtgofadnggipkpaaEvDat
set_option linter.unusedVariables false
set_option linter.unusedSimpArgs false
namespace Go.Proofs.Ytgofadnggipkpaa
open Go hiding Fn
open Ev tab
attribute [local irreducible] EvD EvL EvC evGds evLs C.run sK bK gK pK fK lpB stepD

theorem sizes_run (b : List Int) (ty fl s : Int) (p : List Int) (hb : b.length ≤ 2000000) : ∃ h, EvD F (stepD d8 [.vs 1 (bs b), .ag (fr ty fl s p)] h0) (Rt (.bo true) h) := by
  refine ⟨h0, ?_⟩
  have hcut : (cut p).length ≤ 300 := by simp [cut]; omega
  refine X.fn ?_
  repeat (first
    | refine X.lpb ?_
    | refine X.seq ?_
    | refine X.skip ?_
    | refine X.ret ?_
    | refine X.exit ?_
    | refine X.blk ?_
    | refine X.sn ?_
    | refine X.se ?_
    | refine X.sr ?_
    | refine X.bn ?_
    | refine X.br ?_
    | refine X.bh ?_
    | refine X.bm rfl ?_
    | refine X.pn ?_
    | refine X.gn ?_
    | refine X.g0 ?_
    | refine X.ln ?_
    | refine X.finn ?_
    | refine X.reg0 (by conv => lhs; reduce) ?_
    | refine X.reg1 (by conv => lhs; reduce) ?_
    | refine X.gt rfl ?_
    | refine X.iav (by conv => lhs; whnf) (by conv => lhs; whnf) (by first | rfl | omega | (simp (disch := omega) only [sd, sb]; omega) | (simp (disch := omega) [sd] <;> fail) | (simp (disch := omega) [sd]; omega) | (simp [sd, *] <;> fail) | fail) (by first | exact bs_getD (by first | rfl | omega | (simp (disch := omega) only [sd, sb]; omega) | (simp (disch := omega) [sd] <;> fail) | (simp (disch := omega) [sd]; omega) | (simp [sd, *] <;> fail) | fail) | rfl) ?_
    | refine X.o0 (fun _ _ => rfl) ?_
    | refine X.o1 (fun _ _ => rfl) (by first | rfl | omega | (simp (disch := omega) only [sd, sb]; omega) | (simp (disch := omega) [sd] <;> fail) | (simp (disch := omega) [sd]; omega) | (simp [sd, *] <;> fail) | fail) ?_
    | refine X.o2 (fun _ _ => rfl) (by first | rfl | omega | (simp (disch := omega) only [sd, sb]; omega) | (simp (disch := omega) [sd] <;> fail) | (simp (disch := omega) [sd]; omega) | (simp [sd, *] <;> fail) | fail) (by first | rfl | omega | (simp (disch := omega) only [sd, sb]; omega) | (simp (disch := omega) [sd] <;> fail) | (simp (disch := omega) [sd]; omega) | (simp [sd, *] <;> fail) | fail) ?_
    | refine X.o3 (fun _ _ => rfl) (by first | rfl | omega | (simp (disch := omega) only [sd, sb]; omega) | (simp (disch := omega) [sd] <;> fail) | (simp (disch := omega) [sd]; omega) | (simp [sd, *] <;> fail) | fail) (by first | rfl | omega | (simp (disch := omega) only [sd, sb]; omega) | (simp (disch := omega) [sd] <;> fail) | (simp (disch := omega) [sd]; omega) | (simp [sd, *] <;> fail) | fail) (by first | rfl | omega | (simp (disch := omega) only [sd, sb]; omega) | (simp (disch := omega) [sd] <;> fail) | (simp (disch := omega) [sd]; omega) | (simp [sd, *] <;> fail) | fail) ?_
    | refine X.pickT rfl (fun _ => rfl) ?_
    | refine X.pickF rfl (fun _ => rfl) ?_
    | refine X.condT rfl ?_
    | refine X.condF rfl ?_
    | refine X.g1T rfl ?_
    | refine X.g1F rfl ?_
    | refine X.alc rfl ?_
    | refine X.box (by conv => lhs; whnf) rfl rfl ?_
    | refine X.stl (by conv => lhs; whnf) rfl rfl rfl rfl rfl rfl rfl ?_
    | refine X.apf (by conv => lhs; whnf) (by conv => lhs; whnf) (by first | exact Els.vs _ | exact Els.st _ | exact Els.ns) (by first | rfl | (simp only [hgs, if_true]; rfl)) rfl rfl (by first | rfl | omega | (simp (disch := omega) only [sd, sb]; omega) | (simp (disch := omega) [sd] <;> fail) | (simp (disch := omega) [sd]; omega) | (simp [sd, *] <;> fail) | fail) (by first | rfl | omega | (simp (disch := omega) only [sd, sb]; omega) | (simp (disch := omega) [sd] <;> fail) | (simp (disch := omega) [sd]; omega) | (simp [sd, *] <;> fail) | fail) (by conv => lhs; whnf) ?_
    | refine X.mks (by conv => lhs; whnf) (by conv => lhs; whnf) (by first | rfl | omega | (simp (disch := omega) only [sd, sb]; omega) | (simp (disch := omega) [sd] <;> fail) | (simp (disch := omega) [sd]; omega) | (simp [sd, *] <;> fail) | fail) (by first | rfl | omega | (simp (disch := omega) only [sd, sb]; omega) | (simp (disch := omega) [sd] <;> fail) | (simp (disch := omega) [sd]; omega) | (simp [sd, *] <;> fail) | fail) (by first | rfl | omega | (simp (disch := omega) only [sd, sb]; omega) | (simp (disch := omega) [sd] <;> fail) | (simp (disch := omega) [sd]; omega) | (simp [sd, *] <;> fail) | fail) (by decide) (by conv => lhs; whnf) (by conv => lhs; whnf) ?_
    | refine X.len (by conv => lhs; whnf) (by first | rfl | assumption) ?_
    | refine X.condTs rfl (by first | rfl | omega | (simp (disch := omega) only [sd, sb]; omega) | (simp (disch := omega) [sd] <;> fail) | (simp (disch := omega) [sd]; omega) | (simp [sd, *] <;> fail) | fail) ?_
    | refine X.condFs rfl (by first | rfl | omega | (simp (disch := omega) only [sd, sb]; omega) | (simp (disch := omega) [sd] <;> fail) | (simp (disch := omega) [sd]; omega) | (simp [sd, *] <;> fail) | fail) ?_
    | refine X.g1Ts rfl (by first | rfl | omega | (simp (disch := omega) only [sd, sb]; omega) | (simp (disch := omega) [sd] <;> fail) | (simp (disch := omega) [sd]; omega) | (simp [sd, *] <;> fail) | fail) ?_
    | refine X.g1Fs rfl (by first | rfl | omega | (simp (disch := omega) only [sd, sb]; omega) | (simp (disch := omega) [sd] <;> fail) | (simp (disch := omega) [sd]; omega) | (simp [sd, *] <;> fail) | fail) ?_
    | refine X.pickTs rfl (by first | rfl | omega | (simp (disch := omega) only [sd, sb]; omega) | (simp (disch := omega) [sd] <;> fail) | (simp (disch := omega) [sd]; omega) | (simp [sd, *] <;> fail) | fail) (fun _ => rfl) ?_
    | refine X.pickFs rfl (by first | rfl | omega | (simp (disch := omega) only [sd, sb]; omega) | (simp (disch := omega) [sd] <;> fail) | (simp (disch := omega) [sd]; omega) | (simp [sd, *] <;> fail) | fail) (fun _ => rfl) ?_
    | refine X.mov (by conv => lhs; whnf) (by first | rfl | assumption) ?_
    )
  refine X.pcall (light_ok ty fl s p) (.gs (fr_clo _ _ _ _) (.nil _)) rfl rfl rfl ?_
  generalize cut p = q at *
  repeat (first
    | refine X.lpb ?_
    | refine X.seq ?_
    | refine X.skip ?_
    | refine X.ret ?_
    | refine X.exit ?_
    | refine X.blk ?_
    | refine X.sn ?_
    | refine X.se ?_
    | refine X.sr ?_
    | refine X.bn ?_
    | refine X.br ?_
    | refine X.bh ?_
    | refine X.bm rfl ?_
    | refine X.pn ?_
    | refine X.gn ?_
    | refine X.g0 ?_
    | refine X.ln ?_
    | refine X.finn ?_
    | refine X.reg0 (by conv => lhs; reduce) ?_
    | refine X.reg1 (by conv => lhs; reduce) ?_
    | refine X.gt rfl ?_
    | refine X.iav (by conv => lhs; whnf) (by conv => lhs; whnf) (by first | rfl | omega | (simp (disch := omega) only [sd, sb]; omega) | (simp (disch := omega) [sd] <;> fail) | (simp (disch := omega) [sd]; omega) | (simp [sd, *] <;> fail) | fail) (by first | exact bs_getD (by first | rfl | omega | (simp (disch := omega) only [sd, sb]; omega) | (simp (disch := omega) [sd] <;> fail) | (simp (disch := omega) [sd]; omega) | (simp [sd, *] <;> fail) | fail) | rfl) ?_
    | refine X.o0 (fun _ _ => rfl) ?_
    | refine X.o1 (fun _ _ => rfl) (by first | rfl | omega | (simp (disch := omega) only [sd, sb]; omega) | (simp (disch := omega) [sd] <;> fail) | (simp (disch := omega) [sd]; omega) | (simp [sd, *] <;> fail) | fail) ?_
    | refine X.o2 (fun _ _ => rfl) (by first | rfl | omega | (simp (disch := omega) only [sd, sb]; omega) | (simp (disch := omega) [sd] <;> fail) | (simp (disch := omega) [sd]; omega) | (simp [sd, *] <;> fail) | fail) (by first | rfl | omega | (simp (disch := omega) only [sd, sb]; omega) | (simp (disch := omega) [sd] <;> fail) | (simp (disch := omega) [sd]; omega) | (simp [sd, *] <;> fail) | fail) ?_
    | refine X.o3 (fun _ _ => rfl) (by first | rfl | omega | (simp (disch := omega) only [sd, sb]; omega) | (simp (disch := omega) [sd] <;> fail) | (simp (disch := omega) [sd]; omega) | (simp [sd, *] <;> fail) | fail) (by first | rfl | omega | (simp (disch := omega) only [sd, sb]; omega) | (simp (disch := omega) [sd] <;> fail) | (simp (disch := omega) [sd]; omega) | (simp [sd, *] <;> fail) | fail) (by first | rfl | omega | (simp (disch := omega) only [sd, sb]; omega) | (simp (disch := omega) [sd] <;> fail) | (simp (disch := omega) [sd]; omega) | (simp [sd, *] <;> fail) | fail) ?_
    | refine X.pickT rfl (fun _ => rfl) ?_
    | refine X.pickF rfl (fun _ => rfl) ?_
    | refine X.condT rfl ?_
    | refine X.condF rfl ?_
    | refine X.g1T rfl ?_
    | refine X.g1F rfl ?_
    | refine X.alc rfl ?_
    | refine X.box (by conv => lhs; whnf) rfl rfl ?_
    | refine X.stl (by conv => lhs; whnf) rfl rfl rfl rfl rfl rfl rfl ?_
    | refine X.apf (by conv => lhs; whnf) (by conv => lhs; whnf) (by first | exact Els.vs _ | exact Els.st _ | exact Els.ns) (by first | rfl | (simp only [hgs, if_true]; rfl)) rfl rfl (by first | rfl | omega | (simp (disch := omega) only [sd, sb]; omega) | (simp (disch := omega) [sd] <;> fail) | (simp (disch := omega) [sd]; omega) | (simp [sd, *] <;> fail) | fail) (by first | rfl | omega | (simp (disch := omega) only [sd, sb]; omega) | (simp (disch := omega) [sd] <;> fail) | (simp (disch := omega) [sd]; omega) | (simp [sd, *] <;> fail) | fail) (by conv => lhs; whnf) ?_
    | refine X.mks (by conv => lhs; whnf) (by conv => lhs; whnf) (by first | rfl | omega | (simp (disch := omega) only [sd, sb]; omega) | (simp (disch := omega) [sd] <;> fail) | (simp (disch := omega) [sd]; omega) | (simp [sd, *] <;> fail) | fail) (by first | rfl | omega | (simp (disch := omega) only [sd, sb]; omega) | (simp (disch := omega) [sd] <;> fail) | (simp (disch := omega) [sd]; omega) | (simp [sd, *] <;> fail) | fail) (by first | rfl | omega | (simp (disch := omega) only [sd, sb]; omega) | (simp (disch := omega) [sd] <;> fail) | (simp (disch := omega) [sd]; omega) | (simp [sd, *] <;> fail) | fail) (by decide) (by conv => lhs; whnf) (by conv => lhs; whnf) ?_
    | refine X.len (by conv => lhs; whnf) (by first | rfl | assumption) ?_
    | refine X.condTs rfl (by first | rfl | omega | (simp (disch := omega) only [sd, sb]; omega) | (simp (disch := omega) [sd] <;> fail) | (simp (disch := omega) [sd]; omega) | (simp [sd, *] <;> fail) | fail) ?_
    | refine X.condFs rfl (by first | rfl | omega | (simp (disch := omega) only [sd, sb]; omega) | (simp (disch := omega) [sd] <;> fail) | (simp (disch := omega) [sd]; omega) | (simp [sd, *] <;> fail) | fail) ?_
    | refine X.g1Ts rfl (by first | rfl | omega | (simp (disch := omega) only [sd, sb]; omega) | (simp (disch := omega) [sd] <;> fail) | (simp (disch := omega) [sd]; omega) | (simp [sd, *] <;> fail) | fail) ?_
    | refine X.g1Fs rfl (by first | rfl | omega | (simp (disch := omega) only [sd, sb]; omega) | (simp (disch := omega) [sd] <;> fail) | (simp (disch := omega) [sd]; omega) | (simp [sd, *] <;> fail) | fail) ?_
    | refine X.pickTs rfl (by first | rfl | omega | (simp (disch := omega) only [sd, sb]; omega) | (simp (disch := omega) [sd] <;> fail) | (simp (disch := omega) [sd]; omega) | (simp [sd, *] <;> fail) | fail) (fun _ => rfl) ?_
    | refine X.pickFs rfl (by first | rfl | omega | (simp (disch := omega) only [sd, sb]; omega) | (simp (disch := omega) [sd] <;> fail) | (simp (disch := omega) [sd]; omega) | (simp [sd, *] <;> fail) | fail) (fun _ => rfl) ?_
    | refine X.mov (by conv => lhs; whnf) (by first | rfl | assumption) ?_
    )
  refine X.pcall (put_ok b ty fl s q (by omega)).toP (.s (clo_vs [.one] _) (.gs (fr_clo _ _ _ _) (.nil _))) rfl rfl rfl ?_
  repeat (first
    | refine X.lpb ?_
    | refine X.seq ?_
    | refine X.skip ?_
    | refine X.ret ?_
    | refine X.exit ?_
    | refine X.blk ?_
    | refine X.sn ?_
    | refine X.se ?_
    | refine X.sr ?_
    | refine X.bn ?_
    | refine X.br ?_
    | refine X.bh ?_
    | refine X.bm rfl ?_
    | refine X.pn ?_
    | refine X.gn ?_
    | refine X.g0 ?_
    | refine X.ln ?_
    | refine X.finn ?_
    | refine X.reg0 (by conv => lhs; reduce) ?_
    | refine X.reg1 (by conv => lhs; reduce) ?_
    | refine X.gt rfl ?_
    | refine X.iav (by conv => lhs; whnf) (by conv => lhs; whnf) (by first | rfl | omega | (simp (disch := omega) only [sd, sb]; omega) | (simp (disch := omega) [sd] <;> fail) | (simp (disch := omega) [sd]; omega) | (simp [sd, *] <;> fail) | fail) (by first | exact bs_getD (by first | rfl | omega | (simp (disch := omega) only [sd, sb]; omega) | (simp (disch := omega) [sd] <;> fail) | (simp (disch := omega) [sd]; omega) | (simp [sd, *] <;> fail) | fail) | rfl) ?_
    | refine X.o0 (fun _ _ => rfl) ?_
    | refine X.o1 (fun _ _ => rfl) (by first | rfl | omega | (simp (disch := omega) only [sd, sb]; omega) | (simp (disch := omega) [sd] <;> fail) | (simp (disch := omega) [sd]; omega) | (simp [sd, *] <;> fail) | fail) ?_
    | refine X.o2 (fun _ _ => rfl) (by first | rfl | omega | (simp (disch := omega) only [sd, sb]; omega) | (simp (disch := omega) [sd] <;> fail) | (simp (disch := omega) [sd]; omega) | (simp [sd, *] <;> fail) | fail) (by first | rfl | omega | (simp (disch := omega) only [sd, sb]; omega) | (simp (disch := omega) [sd] <;> fail) | (simp (disch := omega) [sd]; omega) | (simp [sd, *] <;> fail) | fail) ?_
    | refine X.o3 (fun _ _ => rfl) (by first | rfl | omega | (simp (disch := omega) only [sd, sb]; omega) | (simp (disch := omega) [sd] <;> fail) | (simp (disch := omega) [sd]; omega) | (simp [sd, *] <;> fail) | fail) (by first | rfl | omega | (simp (disch := omega) only [sd, sb]; omega) | (simp (disch := omega) [sd] <;> fail) | (simp (disch := omega) [sd]; omega) | (simp [sd, *] <;> fail) | fail) (by first | rfl | omega | (simp (disch := omega) only [sd, sb]; omega) | (simp (disch := omega) [sd] <;> fail) | (simp (disch := omega) [sd]; omega) | (simp [sd, *] <;> fail) | fail) ?_
    | refine X.pickT rfl (fun _ => rfl) ?_
    | refine X.pickF rfl (fun _ => rfl) ?_
    | refine X.condT rfl ?_
    | refine X.condF rfl ?_
    | refine X.g1T rfl ?_
    | refine X.g1F rfl ?_
    | refine X.alc rfl ?_
    | refine X.box (by conv => lhs; whnf) rfl rfl ?_
    | refine X.stl (by conv => lhs; whnf) rfl rfl rfl rfl rfl rfl rfl ?_
    | refine X.apf (by conv => lhs; whnf) (by conv => lhs; whnf) (by first | exact Els.vs _ | exact Els.st _ | exact Els.ns) (by first | rfl | (simp only [hgs, if_true]; rfl)) rfl rfl (by first | rfl | omega | (simp (disch := omega) only [sd, sb]; omega) | (simp (disch := omega) [sd] <;> fail) | (simp (disch := omega) [sd]; omega) | (simp [sd, *] <;> fail) | fail) (by first | rfl | omega | (simp (disch := omega) only [sd, sb]; omega) | (simp (disch := omega) [sd] <;> fail) | (simp (disch := omega) [sd]; omega) | (simp [sd, *] <;> fail) | fail) (by conv => lhs; whnf) ?_
    | refine X.mks (by conv => lhs; whnf) (by conv => lhs; whnf) (by first | rfl | omega | (simp (disch := omega) only [sd, sb]; omega) | (simp (disch := omega) [sd] <;> fail) | (simp (disch := omega) [sd]; omega) | (simp [sd, *] <;> fail) | fail) (by first | rfl | omega | (simp (disch := omega) only [sd, sb]; omega) | (simp (disch := omega) [sd] <;> fail) | (simp (disch := omega) [sd]; omega) | (simp [sd, *] <;> fail) | fail) (by first | rfl | omega | (simp (disch := omega) only [sd, sb]; omega) | (simp (disch := omega) [sd] <;> fail) | (simp (disch := omega) [sd]; omega) | (simp [sd, *] <;> fail) | fail) (by decide) (by conv => lhs; whnf) (by conv => lhs; whnf) ?_
    | refine X.len (by conv => lhs; whnf) (by first | rfl | assumption) ?_
    | refine X.condTs rfl (by first | rfl | omega | (simp (disch := omega) only [sd, sb]; omega) | (simp (disch := omega) [sd] <;> fail) | (simp (disch := omega) [sd]; omega) | (simp [sd, *] <;> fail) | fail) ?_
    | refine X.condFs rfl (by first | rfl | omega | (simp (disch := omega) only [sd, sb]; omega) | (simp (disch := omega) [sd] <;> fail) | (simp (disch := omega) [sd]; omega) | (simp [sd, *] <;> fail) | fail) ?_
    | refine X.g1Ts rfl (by first | rfl | omega | (simp (disch := omega) only [sd, sb]; omega) | (simp (disch := omega) [sd] <;> fail) | (simp (disch := omega) [sd]; omega) | (simp [sd, *] <;> fail) | fail) ?_
    | refine X.g1Fs rfl (by first | rfl | omega | (simp (disch := omega) only [sd, sb]; omega) | (simp (disch := omega) [sd] <;> fail) | (simp (disch := omega) [sd]; omega) | (simp [sd, *] <;> fail) | fail) ?_
    | refine X.pickTs rfl (by first | rfl | omega | (simp (disch := omega) only [sd, sb]; omega) | (simp (disch := omega) [sd] <;> fail) | (simp (disch := omega) [sd]; omega) | (simp [sd, *] <;> fail) | fail) (fun _ => rfl) ?_
    | refine X.pickFs rfl (by first | rfl | omega | (simp (disch := omega) only [sd, sb]; omega) | (simp (disch := omega) [sd] <;> fail) | (simp (disch := omega) [sd]; omega) | (simp [sd, *] <;> fail) | fail) (fun _ => rfl) ?_
    | refine X.mov (by conv => lhs; whnf) (by first | rfl | assumption) ?_
    )
  refine X.pcall (right_ok ty fl s q) (.gs (fr_clo _ _ _ _) (.nil _)) rfl rfl rfl ?_
  have hlen : (putL b ty fl s q).length = if rightB ty fl s q.length then b.length + 9 + q.length else b.length := by
    unfold putL; split <;> simp [h9]; omega
  cases hr : rightB ty fl s q.length with
  | true =>
    rw [hr] at hlen; simp only [if_true] at hlen
    repeat (first
      | refine X.lpb ?_
      | refine X.seq ?_
      | refine X.skip ?_
      | refine X.ret ?_
      | refine X.exit ?_
      | refine X.blk ?_
      | refine X.sn ?_
      | refine X.se ?_
      | refine X.sr ?_
      | refine X.bn ?_
      | refine X.br ?_
      | refine X.bh ?_
      | refine X.bm rfl ?_
      | refine X.pn ?_
      | refine X.gn ?_
      | refine X.g0 ?_
      | refine X.ln ?_
      | refine X.finn ?_
      | refine X.reg0 (by conv => lhs; reduce) ?_
      | refine X.reg1 (by conv => lhs; reduce) ?_
      | refine X.gt rfl ?_
      | refine X.iav (by conv => lhs; whnf) (by conv => lhs; whnf) (by first | rfl | omega | (simp (disch := omega) only [sd, sb]; omega) | (simp (disch := omega) [sd] <;> fail) | (simp (disch := omega) [sd]; omega) | (simp [sd, *] <;> fail) | fail) (by first | exact bs_getD (by first | rfl | omega | (simp (disch := omega) only [sd, sb]; omega) | (simp (disch := omega) [sd] <;> fail) | (simp (disch := omega) [sd]; omega) | (simp [sd, *] <;> fail) | fail) | rfl) ?_
      | refine X.o0 (fun _ _ => rfl) ?_
      | refine X.o1 (fun _ _ => rfl) (by first | rfl | omega | (simp (disch := omega) only [sd, sb]; omega) | (simp (disch := omega) [sd] <;> fail) | (simp (disch := omega) [sd]; omega) | (simp [sd, *] <;> fail) | fail) ?_
      | refine X.o2 (fun _ _ => rfl) (by first | rfl | omega | (simp (disch := omega) only [sd, sb]; omega) | (simp (disch := omega) [sd] <;> fail) | (simp (disch := omega) [sd]; omega) | (simp [sd, *] <;> fail) | fail) (by first | rfl | omega | (simp (disch := omega) only [sd, sb]; omega) | (simp (disch := omega) [sd] <;> fail) | (simp (disch := omega) [sd]; omega) | (simp [sd, *] <;> fail) | fail) ?_
      | refine X.o3 (fun _ _ => rfl) (by first | rfl | omega | (simp (disch := omega) only [sd, sb]; omega) | (simp (disch := omega) [sd] <;> fail) | (simp (disch := omega) [sd]; omega) | (simp [sd, *] <;> fail) | fail) (by first | rfl | omega | (simp (disch := omega) only [sd, sb]; omega) | (simp (disch := omega) [sd] <;> fail) | (simp (disch := omega) [sd]; omega) | (simp [sd, *] <;> fail) | fail) (by first | rfl | omega | (simp (disch := omega) only [sd, sb]; omega) | (simp (disch := omega) [sd] <;> fail) | (simp (disch := omega) [sd]; omega) | (simp [sd, *] <;> fail) | fail) ?_
      | refine X.pickT rfl (fun _ => rfl) ?_
      | refine X.pickF rfl (fun _ => rfl) ?_
      | refine X.condT rfl ?_
      | refine X.condF rfl ?_
      | refine X.g1T rfl ?_
      | refine X.g1F rfl ?_
      | refine X.alc rfl ?_
      | refine X.box (by conv => lhs; whnf) rfl rfl ?_
      | refine X.stl (by conv => lhs; whnf) rfl rfl rfl rfl rfl rfl rfl ?_
      | refine X.apf (by conv => lhs; whnf) (by conv => lhs; whnf) (by first | exact Els.vs _ | exact Els.st _ | exact Els.ns) (by first | rfl | (simp only [hgs, if_true]; rfl)) rfl rfl (by first | rfl | omega | (simp (disch := omega) only [sd, sb]; omega) | (simp (disch := omega) [sd] <;> fail) | (simp (disch := omega) [sd]; omega) | (simp [sd, *] <;> fail) | fail) (by first | rfl | omega | (simp (disch := omega) only [sd, sb]; omega) | (simp (disch := omega) [sd] <;> fail) | (simp (disch := omega) [sd]; omega) | (simp [sd, *] <;> fail) | fail) (by conv => lhs; whnf) ?_
      | refine X.mks (by conv => lhs; whnf) (by conv => lhs; whnf) (by first | rfl | omega | (simp (disch := omega) only [sd, sb]; omega) | (simp (disch := omega) [sd] <;> fail) | (simp (disch := omega) [sd]; omega) | (simp [sd, *] <;> fail) | fail) (by first | rfl | omega | (simp (disch := omega) only [sd, sb]; omega) | (simp (disch := omega) [sd] <;> fail) | (simp (disch := omega) [sd]; omega) | (simp [sd, *] <;> fail) | fail) (by first | rfl | omega | (simp (disch := omega) only [sd, sb]; omega) | (simp (disch := omega) [sd] <;> fail) | (simp (disch := omega) [sd]; omega) | (simp [sd, *] <;> fail) | fail) (by decide) (by conv => lhs; whnf) (by conv => lhs; whnf) ?_
      | refine X.len (by conv => lhs; whnf) (by first | rfl | assumption) ?_
      | refine X.condTs rfl (by first | rfl | omega | (simp (disch := omega) only [sd, sb]; omega) | (simp (disch := omega) [sd] <;> fail) | (simp (disch := omega) [sd]; omega) | (simp [sd, *] <;> fail) | fail) ?_
      | refine X.condFs rfl (by first | rfl | omega | (simp (disch := omega) only [sd, sb]; omega) | (simp (disch := omega) [sd] <;> fail) | (simp (disch := omega) [sd]; omega) | (simp [sd, *] <;> fail) | fail) ?_
      | refine X.g1Ts rfl (by first | rfl | omega | (simp (disch := omega) only [sd, sb]; omega) | (simp (disch := omega) [sd] <;> fail) | (simp (disch := omega) [sd]; omega) | (simp [sd, *] <;> fail) | fail) ?_
      | refine X.g1Fs rfl (by first | rfl | omega | (simp (disch := omega) only [sd, sb]; omega) | (simp (disch := omega) [sd] <;> fail) | (simp (disch := omega) [sd]; omega) | (simp [sd, *] <;> fail) | fail) ?_
      | refine X.pickTs rfl (by first | rfl | omega | (simp (disch := omega) only [sd, sb]; omega) | (simp (disch := omega) [sd] <;> fail) | (simp (disch := omega) [sd]; omega) | (simp [sd, *] <;> fail) | fail) (fun _ => rfl) ?_
      | refine X.pickFs rfl (by first | rfl | omega | (simp (disch := omega) only [sd, sb]; omega) | (simp (disch := omega) [sd] <;> fail) | (simp (disch := omega) [sd]; omega) | (simp [sd, *] <;> fail) | fail) (fun _ => rfl) ?_
      | refine X.mov (by conv => lhs; whnf) (by first | rfl | assumption) ?_
      )
    refine X.pcall runs_ok (.nil _) rfl rfl rfl ?_
    repeat (first
      | refine X.lpb ?_
      | refine X.seq ?_
      | refine X.skip ?_
      | refine X.ret ?_
      | refine X.exit ?_
      | refine X.blk ?_
      | refine X.sn ?_
      | refine X.se ?_
      | refine X.sr ?_
      | refine X.bn ?_
      | refine X.br ?_
      | refine X.bh ?_
      | refine X.bm rfl ?_
      | refine X.pn ?_
      | refine X.gn ?_
      | refine X.g0 ?_
      | refine X.ln ?_
      | refine X.finn ?_
      | refine X.reg0 (by conv => lhs; reduce) ?_
      | refine X.reg1 (by conv => lhs; reduce) ?_
      | refine X.gt rfl ?_
      | refine X.iav (by conv => lhs; whnf) (by conv => lhs; whnf) (by first | rfl | omega | (simp (disch := omega) only [sd, sb]; omega) | (simp (disch := omega) [sd] <;> fail) | (simp (disch := omega) [sd]; omega) | (simp [sd, *] <;> fail) | fail) (by first | exact bs_getD (by first | rfl | omega | (simp (disch := omega) only [sd, sb]; omega) | (simp (disch := omega) [sd] <;> fail) | (simp (disch := omega) [sd]; omega) | (simp [sd, *] <;> fail) | fail) | rfl) ?_
      | refine X.o0 (fun _ _ => rfl) ?_
      | refine X.o1 (fun _ _ => rfl) (by first | rfl | omega | (simp (disch := omega) only [sd, sb]; omega) | (simp (disch := omega) [sd] <;> fail) | (simp (disch := omega) [sd]; omega) | (simp [sd, *] <;> fail) | fail) ?_
      | refine X.o2 (fun _ _ => rfl) (by first | rfl | omega | (simp (disch := omega) only [sd, sb]; omega) | (simp (disch := omega) [sd] <;> fail) | (simp (disch := omega) [sd]; omega) | (simp [sd, *] <;> fail) | fail) (by first | rfl | omega | (simp (disch := omega) only [sd, sb]; omega) | (simp (disch := omega) [sd] <;> fail) | (simp (disch := omega) [sd]; omega) | (simp [sd, *] <;> fail) | fail) ?_
      | refine X.o3 (fun _ _ => rfl) (by first | rfl | omega | (simp (disch := omega) only [sd, sb]; omega) | (simp (disch := omega) [sd] <;> fail) | (simp (disch := omega) [sd]; omega) | (simp [sd, *] <;> fail) | fail) (by first | rfl | omega | (simp (disch := omega) only [sd, sb]; omega) | (simp (disch := omega) [sd] <;> fail) | (simp (disch := omega) [sd]; omega) | (simp [sd, *] <;> fail) | fail) (by first | rfl | omega | (simp (disch := omega) only [sd, sb]; omega) | (simp (disch := omega) [sd] <;> fail) | (simp (disch := omega) [sd]; omega) | (simp [sd, *] <;> fail) | fail) ?_
      | refine X.pickT rfl (fun _ => rfl) ?_
      | refine X.pickF rfl (fun _ => rfl) ?_
      | refine X.condT rfl ?_
      | refine X.condF rfl ?_
      | refine X.g1T rfl ?_
      | refine X.g1F rfl ?_
      | refine X.alc rfl ?_
      | refine X.box (by conv => lhs; whnf) rfl rfl ?_
      | refine X.stl (by conv => lhs; whnf) rfl rfl rfl rfl rfl rfl rfl ?_
      | refine X.apf (by conv => lhs; whnf) (by conv => lhs; whnf) (by first | exact Els.vs _ | exact Els.st _ | exact Els.ns) (by first | rfl | (simp only [hgs, if_true]; rfl)) rfl rfl (by first | rfl | omega | (simp (disch := omega) only [sd, sb]; omega) | (simp (disch := omega) [sd] <;> fail) | (simp (disch := omega) [sd]; omega) | (simp [sd, *] <;> fail) | fail) (by first | rfl | omega | (simp (disch := omega) only [sd, sb]; omega) | (simp (disch := omega) [sd] <;> fail) | (simp (disch := omega) [sd]; omega) | (simp [sd, *] <;> fail) | fail) (by conv => lhs; whnf) ?_
      | refine X.mks (by conv => lhs; whnf) (by conv => lhs; whnf) (by first | rfl | omega | (simp (disch := omega) only [sd, sb]; omega) | (simp (disch := omega) [sd] <;> fail) | (simp (disch := omega) [sd]; omega) | (simp [sd, *] <;> fail) | fail) (by first | rfl | omega | (simp (disch := omega) only [sd, sb]; omega) | (simp (disch := omega) [sd] <;> fail) | (simp (disch := omega) [sd]; omega) | (simp [sd, *] <;> fail) | fail) (by first | rfl | omega | (simp (disch := omega) only [sd, sb]; omega) | (simp (disch := omega) [sd] <;> fail) | (simp (disch := omega) [sd]; omega) | (simp [sd, *] <;> fail) | fail) (by decide) (by conv => lhs; whnf) (by conv => lhs; whnf) ?_
      | refine X.len (by conv => lhs; whnf) (by first | rfl | assumption) ?_
      | refine X.condTs rfl (by first | rfl | omega | (simp (disch := omega) only [sd, sb]; omega) | (simp (disch := omega) [sd] <;> fail) | (simp (disch := omega) [sd]; omega) | (simp [sd, *] <;> fail) | fail) ?_
      | refine X.condFs rfl (by first | rfl | omega | (simp (disch := omega) only [sd, sb]; omega) | (simp (disch := omega) [sd] <;> fail) | (simp (disch := omega) [sd]; omega) | (simp [sd, *] <;> fail) | fail) ?_
      | refine X.g1Ts rfl (by first | rfl | omega | (simp (disch := omega) only [sd, sb]; omega) | (simp (disch := omega) [sd] <;> fail) | (simp (disch := omega) [sd]; omega) | (simp [sd, *] <;> fail) | fail) ?_
      | refine X.g1Fs rfl (by first | rfl | omega | (simp (disch := omega) only [sd, sb]; omega) | (simp (disch := omega) [sd] <;> fail) | (simp (disch := omega) [sd]; omega) | (simp [sd, *] <;> fail) | fail) ?_
      | refine X.pickTs rfl (by first | rfl | omega | (simp (disch := omega) only [sd, sb]; omega) | (simp (disch := omega) [sd] <;> fail) | (simp (disch := omega) [sd]; omega) | (simp [sd, *] <;> fail) | fail) (fun _ => rfl) ?_
      | refine X.pickFs rfl (by first | rfl | omega | (simp (disch := omega) only [sd, sb]; omega) | (simp (disch := omega) [sd] <;> fail) | (simp (disch := omega) [sd]; omega) | (simp [sd, *] <;> fail) | fail) (fun _ => rfl) ?_
      | refine X.mov (by conv => lhs; whnf) (by first | rfl | assumption) ?_
      )
    exact X.fin (fun _ => rfl) rfl rfl
  | false =>
    rw [hr] at hlen; simp only [Bool.false_eq_true, if_false] at hlen
    repeat (first
      | refine X.lpb ?_
      | refine X.seq ?_
      | refine X.skip ?_
      | refine X.ret ?_
      | refine X.exit ?_
      | refine X.blk ?_
      | refine X.sn ?_
      | refine X.se ?_
      | refine X.sr ?_
      | refine X.bn ?_
      | refine X.br ?_
      | refine X.bh ?_
      | refine X.bm rfl ?_
      | refine X.pn ?_
      | refine X.gn ?_
      | refine X.g0 ?_
      | refine X.ln ?_
      | refine X.finn ?_
      | refine X.reg0 (by conv => lhs; reduce) ?_
      | refine X.reg1 (by conv => lhs; reduce) ?_
      | refine X.gt rfl ?_
      | refine X.iav (by conv => lhs; whnf) (by conv => lhs; whnf) (by first | rfl | omega | (simp (disch := omega) only [sd, sb]; omega) | (simp (disch := omega) [sd] <;> fail) | (simp (disch := omega) [sd]; omega) | (simp [sd, *] <;> fail) | fail) (by first | exact bs_getD (by first | rfl | omega | (simp (disch := omega) only [sd, sb]; omega) | (simp (disch := omega) [sd] <;> fail) | (simp (disch := omega) [sd]; omega) | (simp [sd, *] <;> fail) | fail) | rfl) ?_
      | refine X.o0 (fun _ _ => rfl) ?_
      | refine X.o1 (fun _ _ => rfl) (by first | rfl | omega | (simp (disch := omega) only [sd, sb]; omega) | (simp (disch := omega) [sd] <;> fail) | (simp (disch := omega) [sd]; omega) | (simp [sd, *] <;> fail) | fail) ?_
      | refine X.o2 (fun _ _ => rfl) (by first | rfl | omega | (simp (disch := omega) only [sd, sb]; omega) | (simp (disch := omega) [sd] <;> fail) | (simp (disch := omega) [sd]; omega) | (simp [sd, *] <;> fail) | fail) (by first | rfl | omega | (simp (disch := omega) only [sd, sb]; omega) | (simp (disch := omega) [sd] <;> fail) | (simp (disch := omega) [sd]; omega) | (simp [sd, *] <;> fail) | fail) ?_
      | refine X.o3 (fun _ _ => rfl) (by first | rfl | omega | (simp (disch := omega) only [sd, sb]; omega) | (simp (disch := omega) [sd] <;> fail) | (simp (disch := omega) [sd]; omega) | (simp [sd, *] <;> fail) | fail) (by first | rfl | omega | (simp (disch := omega) only [sd, sb]; omega) | (simp (disch := omega) [sd] <;> fail) | (simp (disch := omega) [sd]; omega) | (simp [sd, *] <;> fail) | fail) (by first | rfl | omega | (simp (disch := omega) only [sd, sb]; omega) | (simp (disch := omega) [sd] <;> fail) | (simp (disch := omega) [sd]; omega) | (simp [sd, *] <;> fail) | fail) ?_
      | refine X.pickT rfl (fun _ => rfl) ?_
      | refine X.pickF rfl (fun _ => rfl) ?_
      | refine X.condT rfl ?_
      | refine X.condF rfl ?_
      | refine X.g1T rfl ?_
      | refine X.g1F rfl ?_
      | refine X.alc rfl ?_
      | refine X.box (by conv => lhs; whnf) rfl rfl ?_
      | refine X.stl (by conv => lhs; whnf) rfl rfl rfl rfl rfl rfl rfl ?_
      | refine X.apf (by conv => lhs; whnf) (by conv => lhs; whnf) (by first | exact Els.vs _ | exact Els.st _ | exact Els.ns) (by first | rfl | (simp only [hgs, if_true]; rfl)) rfl rfl (by first | rfl | omega | (simp (disch := omega) only [sd, sb]; omega) | (simp (disch := omega) [sd] <;> fail) | (simp (disch := omega) [sd]; omega) | (simp [sd, *] <;> fail) | fail) (by first | rfl | omega | (simp (disch := omega) only [sd, sb]; omega) | (simp (disch := omega) [sd] <;> fail) | (simp (disch := omega) [sd]; omega) | (simp [sd, *] <;> fail) | fail) (by conv => lhs; whnf) ?_
      | refine X.mks (by conv => lhs; whnf) (by conv => lhs; whnf) (by first | rfl | omega | (simp (disch := omega) only [sd, sb]; omega) | (simp (disch := omega) [sd] <;> fail) | (simp (disch := omega) [sd]; omega) | (simp [sd, *] <;> fail) | fail) (by first | rfl | omega | (simp (disch := omega) only [sd, sb]; omega) | (simp (disch := omega) [sd] <;> fail) | (simp (disch := omega) [sd]; omega) | (simp [sd, *] <;> fail) | fail) (by first | rfl | omega | (simp (disch := omega) only [sd, sb]; omega) | (simp (disch := omega) [sd] <;> fail) | (simp (disch := omega) [sd]; omega) | (simp [sd, *] <;> fail) | fail) (by decide) (by conv => lhs; whnf) (by conv => lhs; whnf) ?_
      | refine X.len (by conv => lhs; whnf) (by first | rfl | assumption) ?_
      | refine X.condTs rfl (by first | rfl | omega | (simp (disch := omega) only [sd, sb]; omega) | (simp (disch := omega) [sd] <;> fail) | (simp (disch := omega) [sd]; omega) | (simp [sd, *] <;> fail) | fail) ?_
      | refine X.condFs rfl (by first | rfl | omega | (simp (disch := omega) only [sd, sb]; omega) | (simp (disch := omega) [sd] <;> fail) | (simp (disch := omega) [sd]; omega) | (simp [sd, *] <;> fail) | fail) ?_
      | refine X.g1Ts rfl (by first | rfl | omega | (simp (disch := omega) only [sd, sb]; omega) | (simp (disch := omega) [sd] <;> fail) | (simp (disch := omega) [sd]; omega) | (simp [sd, *] <;> fail) | fail) ?_
      | refine X.g1Fs rfl (by first | rfl | omega | (simp (disch := omega) only [sd, sb]; omega) | (simp (disch := omega) [sd] <;> fail) | (simp (disch := omega) [sd]; omega) | (simp [sd, *] <;> fail) | fail) ?_
      | refine X.pickTs rfl (by first | rfl | omega | (simp (disch := omega) only [sd, sb]; omega) | (simp (disch := omega) [sd] <;> fail) | (simp (disch := omega) [sd]; omega) | (simp [sd, *] <;> fail) | fail) (fun _ => rfl) ?_
      | refine X.pickFs rfl (by first | rfl | omega | (simp (disch := omega) only [sd, sb]; omega) | (simp (disch := omega) [sd] <;> fail) | (simp (disch := omega) [sd]; omega) | (simp [sd, *] <;> fail) | fail) (fun _ => rfl) ?_
      | refine X.mov (by conv => lhs; whnf) (by first | rfl | assumption) ?_
      )
    refine X.pcall (right_ok ty fl s q) (.gs (fr_clo _ _ _ _) (.nil _)) rfl rfl rfl ?_
    rw [hr]
    repeat (first
      | refine X.lpb ?_
      | refine X.seq ?_
      | refine X.skip ?_
      | refine X.ret ?_
      | refine X.exit ?_
      | refine X.blk ?_
      | refine X.sn ?_
      | refine X.se ?_
      | refine X.sr ?_
      | refine X.bn ?_
      | refine X.br ?_
      | refine X.bh ?_
      | refine X.bm rfl ?_
      | refine X.pn ?_
      | refine X.gn ?_
      | refine X.g0 ?_
      | refine X.ln ?_
      | refine X.finn ?_
      | refine X.reg0 (by conv => lhs; reduce) ?_
      | refine X.reg1 (by conv => lhs; reduce) ?_
      | refine X.gt rfl ?_
      | refine X.iav (by conv => lhs; whnf) (by conv => lhs; whnf) (by first | rfl | omega | (simp (disch := omega) only [sd, sb]; omega) | (simp (disch := omega) [sd] <;> fail) | (simp (disch := omega) [sd]; omega) | (simp [sd, *] <;> fail) | fail) (by first | exact bs_getD (by first | rfl | omega | (simp (disch := omega) only [sd, sb]; omega) | (simp (disch := omega) [sd] <;> fail) | (simp (disch := omega) [sd]; omega) | (simp [sd, *] <;> fail) | fail) | rfl) ?_
      | refine X.o0 (fun _ _ => rfl) ?_
      | refine X.o1 (fun _ _ => rfl) (by first | rfl | omega | (simp (disch := omega) only [sd, sb]; omega) | (simp (disch := omega) [sd] <;> fail) | (simp (disch := omega) [sd]; omega) | (simp [sd, *] <;> fail) | fail) ?_
      | refine X.o2 (fun _ _ => rfl) (by first | rfl | omega | (simp (disch := omega) only [sd, sb]; omega) | (simp (disch := omega) [sd] <;> fail) | (simp (disch := omega) [sd]; omega) | (simp [sd, *] <;> fail) | fail) (by first | rfl | omega | (simp (disch := omega) only [sd, sb]; omega) | (simp (disch := omega) [sd] <;> fail) | (simp (disch := omega) [sd]; omega) | (simp [sd, *] <;> fail) | fail) ?_
      | refine X.o3 (fun _ _ => rfl) (by first | rfl | omega | (simp (disch := omega) only [sd, sb]; omega) | (simp (disch := omega) [sd] <;> fail) | (simp (disch := omega) [sd]; omega) | (simp [sd, *] <;> fail) | fail) (by first | rfl | omega | (simp (disch := omega) only [sd, sb]; omega) | (simp (disch := omega) [sd] <;> fail) | (simp (disch := omega) [sd]; omega) | (simp [sd, *] <;> fail) | fail) (by first | rfl | omega | (simp (disch := omega) only [sd, sb]; omega) | (simp (disch := omega) [sd] <;> fail) | (simp (disch := omega) [sd]; omega) | (simp [sd, *] <;> fail) | fail) ?_
      | refine X.pickT rfl (fun _ => rfl) ?_
      | refine X.pickF rfl (fun _ => rfl) ?_
      | refine X.condT rfl ?_
      | refine X.condF rfl ?_
      | refine X.g1T rfl ?_
      | refine X.g1F rfl ?_
      | refine X.alc rfl ?_
      | refine X.box (by conv => lhs; whnf) rfl rfl ?_
      | refine X.stl (by conv => lhs; whnf) rfl rfl rfl rfl rfl rfl rfl ?_
      | refine X.apf (by conv => lhs; whnf) (by conv => lhs; whnf) (by first | exact Els.vs _ | exact Els.st _ | exact Els.ns) (by first | rfl | (simp only [hgs, if_true]; rfl)) rfl rfl (by first | rfl | omega | (simp (disch := omega) only [sd, sb]; omega) | (simp (disch := omega) [sd] <;> fail) | (simp (disch := omega) [sd]; omega) | (simp [sd, *] <;> fail) | fail) (by first | rfl | omega | (simp (disch := omega) only [sd, sb]; omega) | (simp (disch := omega) [sd] <;> fail) | (simp (disch := omega) [sd]; omega) | (simp [sd, *] <;> fail) | fail) (by conv => lhs; whnf) ?_
      | refine X.mks (by conv => lhs; whnf) (by conv => lhs; whnf) (by first | rfl | omega | (simp (disch := omega) only [sd, sb]; omega) | (simp (disch := omega) [sd] <;> fail) | (simp (disch := omega) [sd]; omega) | (simp [sd, *] <;> fail) | fail) (by first | rfl | omega | (simp (disch := omega) only [sd, sb]; omega) | (simp (disch := omega) [sd] <;> fail) | (simp (disch := omega) [sd]; omega) | (simp [sd, *] <;> fail) | fail) (by first | rfl | omega | (simp (disch := omega) only [sd, sb]; omega) | (simp (disch := omega) [sd] <;> fail) | (simp (disch := omega) [sd]; omega) | (simp [sd, *] <;> fail) | fail) (by decide) (by conv => lhs; whnf) (by conv => lhs; whnf) ?_
      | refine X.len (by conv => lhs; whnf) (by first | rfl | assumption) ?_
      | refine X.condTs rfl (by first | rfl | omega | (simp (disch := omega) only [sd, sb]; omega) | (simp (disch := omega) [sd] <;> fail) | (simp (disch := omega) [sd]; omega) | (simp [sd, *] <;> fail) | fail) ?_
      | refine X.condFs rfl (by first | rfl | omega | (simp (disch := omega) only [sd, sb]; omega) | (simp (disch := omega) [sd] <;> fail) | (simp (disch := omega) [sd]; omega) | (simp [sd, *] <;> fail) | fail) ?_
      | refine X.g1Ts rfl (by first | rfl | omega | (simp (disch := omega) only [sd, sb]; omega) | (simp (disch := omega) [sd] <;> fail) | (simp (disch := omega) [sd]; omega) | (simp [sd, *] <;> fail) | fail) ?_
      | refine X.g1Fs rfl (by first | rfl | omega | (simp (disch := omega) only [sd, sb]; omega) | (simp (disch := omega) [sd] <;> fail) | (simp (disch := omega) [sd]; omega) | (simp [sd, *] <;> fail) | fail) ?_
      | refine X.pickTs rfl (by first | rfl | omega | (simp (disch := omega) only [sd, sb]; omega) | (simp (disch := omega) [sd] <;> fail) | (simp (disch := omega) [sd]; omega) | (simp [sd, *] <;> fail) | fail) (fun _ => rfl) ?_
      | refine X.pickFs rfl (by first | rfl | omega | (simp (disch := omega) only [sd, sb]; omega) | (simp (disch := omega) [sd] <;> fail) | (simp (disch := omega) [sd]; omega) | (simp [sd, *] <;> fail) | fail) (fun _ => rfl) ?_
      | refine X.mov (by conv => lhs; whnf) (by first | rfl | assumption) ?_
      )
    refine X.pcall runs_ok (.nil _) rfl rfl rfl ?_
    repeat (first
      | refine X.lpb ?_
      | refine X.seq ?_
      | refine X.skip ?_
      | refine X.ret ?_
      | refine X.exit ?_
      | refine X.blk ?_
      | refine X.sn ?_
      | refine X.se ?_
      | refine X.sr ?_
      | refine X.bn ?_
      | refine X.br ?_
      | refine X.bh ?_
      | refine X.bm rfl ?_
      | refine X.pn ?_
      | refine X.gn ?_
      | refine X.g0 ?_
      | refine X.ln ?_
      | refine X.finn ?_
      | refine X.reg0 (by conv => lhs; reduce) ?_
      | refine X.reg1 (by conv => lhs; reduce) ?_
      | refine X.gt rfl ?_
      | refine X.iav (by conv => lhs; whnf) (by conv => lhs; whnf) (by first | rfl | omega | (simp (disch := omega) only [sd, sb]; omega) | (simp (disch := omega) [sd] <;> fail) | (simp (disch := omega) [sd]; omega) | (simp [sd, *] <;> fail) | fail) (by first | exact bs_getD (by first | rfl | omega | (simp (disch := omega) only [sd, sb]; omega) | (simp (disch := omega) [sd] <;> fail) | (simp (disch := omega) [sd]; omega) | (simp [sd, *] <;> fail) | fail) | rfl) ?_
      | refine X.o0 (fun _ _ => rfl) ?_
      | refine X.o1 (fun _ _ => rfl) (by first | rfl | omega | (simp (disch := omega) only [sd, sb]; omega) | (simp (disch := omega) [sd] <;> fail) | (simp (disch := omega) [sd]; omega) | (simp [sd, *] <;> fail) | fail) ?_
      | refine X.o2 (fun _ _ => rfl) (by first | rfl | omega | (simp (disch := omega) only [sd, sb]; omega) | (simp (disch := omega) [sd] <;> fail) | (simp (disch := omega) [sd]; omega) | (simp [sd, *] <;> fail) | fail) (by first | rfl | omega | (simp (disch := omega) only [sd, sb]; omega) | (simp (disch := omega) [sd] <;> fail) | (simp (disch := omega) [sd]; omega) | (simp [sd, *] <;> fail) | fail) ?_
      | refine X.o3 (fun _ _ => rfl) (by first | rfl | omega | (simp (disch := omega) only [sd, sb]; omega) | (simp (disch := omega) [sd] <;> fail) | (simp (disch := omega) [sd]; omega) | (simp [sd, *] <;> fail) | fail) (by first | rfl | omega | (simp (disch := omega) only [sd, sb]; omega) | (simp (disch := omega) [sd] <;> fail) | (simp (disch := omega) [sd]; omega) | (simp [sd, *] <;> fail) | fail) (by first | rfl | omega | (simp (disch := omega) only [sd, sb]; omega) | (simp (disch := omega) [sd] <;> fail) | (simp (disch := omega) [sd]; omega) | (simp [sd, *] <;> fail) | fail) ?_
      | refine X.pickT rfl (fun _ => rfl) ?_
      | refine X.pickF rfl (fun _ => rfl) ?_
      | refine X.condT rfl ?_
      | refine X.condF rfl ?_
      | refine X.g1T rfl ?_
      | refine X.g1F rfl ?_
      | refine X.alc rfl ?_
      | refine X.box (by conv => lhs; whnf) rfl rfl ?_
      | refine X.stl (by conv => lhs; whnf) rfl rfl rfl rfl rfl rfl rfl ?_
      | refine X.apf (by conv => lhs; whnf) (by conv => lhs; whnf) (by first | exact Els.vs _ | exact Els.st _ | exact Els.ns) (by first | rfl | (simp only [hgs, if_true]; rfl)) rfl rfl (by first | rfl | omega | (simp (disch := omega) only [sd, sb]; omega) | (simp (disch := omega) [sd] <;> fail) | (simp (disch := omega) [sd]; omega) | (simp [sd, *] <;> fail) | fail) (by first | rfl | omega | (simp (disch := omega) only [sd, sb]; omega) | (simp (disch := omega) [sd] <;> fail) | (simp (disch := omega) [sd]; omega) | (simp [sd, *] <;> fail) | fail) (by conv => lhs; whnf) ?_
      | refine X.mks (by conv => lhs; whnf) (by conv => lhs; whnf) (by first | rfl | omega | (simp (disch := omega) only [sd, sb]; omega) | (simp (disch := omega) [sd] <;> fail) | (simp (disch := omega) [sd]; omega) | (simp [sd, *] <;> fail) | fail) (by first | rfl | omega | (simp (disch := omega) only [sd, sb]; omega) | (simp (disch := omega) [sd] <;> fail) | (simp (disch := omega) [sd]; omega) | (simp [sd, *] <;> fail) | fail) (by first | rfl | omega | (simp (disch := omega) only [sd, sb]; omega) | (simp (disch := omega) [sd] <;> fail) | (simp (disch := omega) [sd]; omega) | (simp [sd, *] <;> fail) | fail) (by decide) (by conv => lhs; whnf) (by conv => lhs; whnf) ?_
      | refine X.len (by conv => lhs; whnf) (by first | rfl | assumption) ?_
      | refine X.condTs rfl (by first | rfl | omega | (simp (disch := omega) only [sd, sb]; omega) | (simp (disch := omega) [sd] <;> fail) | (simp (disch := omega) [sd]; omega) | (simp [sd, *] <;> fail) | fail) ?_
      | refine X.condFs rfl (by first | rfl | omega | (simp (disch := omega) only [sd, sb]; omega) | (simp (disch := omega) [sd] <;> fail) | (simp (disch := omega) [sd]; omega) | (simp [sd, *] <;> fail) | fail) ?_
      | refine X.g1Ts rfl (by first | rfl | omega | (simp (disch := omega) only [sd, sb]; omega) | (simp (disch := omega) [sd] <;> fail) | (simp (disch := omega) [sd]; omega) | (simp [sd, *] <;> fail) | fail) ?_
      | refine X.g1Fs rfl (by first | rfl | omega | (simp (disch := omega) only [sd, sb]; omega) | (simp (disch := omega) [sd] <;> fail) | (simp (disch := omega) [sd]; omega) | (simp [sd, *] <;> fail) | fail) ?_
      | refine X.pickTs rfl (by first | rfl | omega | (simp (disch := omega) only [sd, sb]; omega) | (simp (disch := omega) [sd] <;> fail) | (simp (disch := omega) [sd]; omega) | (simp [sd, *] <;> fail) | fail) (fun _ => rfl) ?_
      | refine X.pickFs rfl (by first | rfl | omega | (simp (disch := omega) only [sd, sb]; omega) | (simp (disch := omega) [sd] <;> fail) | (simp (disch := omega) [sd]; omega) | (simp [sd, *] <;> fail) | fail) (fun _ => rfl) ?_
      | refine X.mov (by conv => lhs; whnf) (by first | rfl | assumption) ?_
      )
    exact X.fin (fun _ => rfl) rfl rfl
theorem sizes_law (xs : List V) (h : ShP [(false, [.sl [.it .u8]]), (true, [.it .i64, .it .i64, .it .i64, .sl [.it .u8]])] xs) (hs : sizP xs ≤ 1048576) : ∃ L k hp', runF (callF F L k) L c8 xs h0 = .ret (.bo true) hp' := by
  obtain ⟨v, r, rfl, h1, h, e1⟩ := h.one'
  obtain ⟨vs, r, rfl, h2, h, e2⟩ := h.grp'
  cases h.nil'
  obtain ⟨es, rfl, h3, e3⟩ := slice_of h1
  obtain ⟨b, rfl, _, e4⟩ := bytes_of h3
  obtain ⟨v1, r, rfl, g1, h2, _⟩ := h2.cons'
  obtain ⟨v2, r, rfl, g2, h2, _⟩ := h2.cons'
  obtain ⟨v3, r, rfl, g3, h2, _⟩ := h2.cons'
  obtain ⟨v4, r, rfl, g4, h2, _⟩ := h2.cons'
  cases h2.nil'
  obtain ⟨ty, rfl, _⟩ := int_of g1
  obtain ⟨fl, rfl, _⟩ := int_of g2
  obtain ⟨s, rfl, _⟩ := int_of g3
  obtain ⟨es, rfl, h5, _⟩ := slice_of g4
  obtain ⟨p, rfl, _, _⟩ := bytes_of h5
  exact law_of d8 rfl (sizes_run b ty fl s p (by omega))
end Go.Proofs.Ytgofadnggipkpaa
