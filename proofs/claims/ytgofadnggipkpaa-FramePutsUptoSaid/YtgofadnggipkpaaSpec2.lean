import Derived.Test.YtgofadnggipkpaaSpec
set_option linter.unusedVariables false
set_option linter.unusedSimpArgs false
namespace Go.Proofs.Ytgofadnggipkpaa
open Go hiding Fn
open Ev tab
attribute [local irreducible] EvD EvL EvC evGds evLs C.run sK bK gK pK fK lpB stepD

/-- a frame's head -/
def h9 (ty fl s : Int) (n : Nat) : List Int := [(n : Int) / 65536 % 256, (n : Int) / 256 % 256, (n : Int) % 256, ty % 256, fl % 256, s / 16777216 % 256, s / 65536 % 256, s / 256 % 256, s % 256]
/-- what Put writes -/
def putL (b : List Int) (ty fl s : Int) (p : List Int) : List Int := if rightB ty fl s p.length then b ++ h9 ty fl s p.length ++ p else b

theorem put_ok (b : List Int) (ty fl s : Int) (p : List Int) (hb : b.length + p.length ≤ 10000000) : EvO F 11 c11 [.vs 1 (bs b), .ag (fr ty fl s p)] 1 (bs (putL b ty fl s p)) := by
  cases hr : rightB ty fl s p.length with
  | false =>
    rw [show putL b ty fl s p = b by simp [putL, hr]]
    by_cases hbn : b = []
    · subst hbn
      refine EvO.ofN d11 (ts := [.one]) rfl rfl rfl rfl (h := h0) ?_
      refine X.fn ?_
      repeat (first
        | refine X.lpb ?_
        | refine X.seq ?_
        | refine X.skip ?_
        | refine X.ret ?_
        | refine X.exit ?_
        | refine X.blk ?_
        | refine X.sn ?_
        | refine X.se ?_
        | refine X.sr ?_
        | refine X.bn ?_
        | refine X.br ?_
        | refine X.bh ?_
        | refine X.bm rfl ?_
        | refine X.pn ?_
        | refine X.gn ?_
        | refine X.g0 ?_
        | refine X.ln ?_
        | refine X.finn ?_
        | refine X.reg0 (by conv => lhs; reduce) ?_
        | refine X.reg1 (by conv => lhs; reduce) ?_
        | refine X.gt rfl ?_
        | refine X.iav (by conv => lhs; whnf) (by conv => lhs; whnf) (by first | rfl | omega | exact Nat.le_of_ble_eq_true rfl | (simp (disch := omega) only [sd, sb]; omega) | (simp (disch := omega) [sd] <;> fail) | (simp (disch := omega) [sd]; omega) | (simp [sd, *] <;> fail) | fail) (by first | exact bs_getD (by first | rfl | omega | exact Nat.le_of_ble_eq_true rfl | (simp (disch := omega) only [sd, sb]; omega) | (simp (disch := omega) [sd] <;> fail) | (simp (disch := omega) [sd]; omega) | (simp [sd, *] <;> fail) | fail) | rfl) ?_
        | refine X.o0 (fun _ _ => rfl) ?_
        | refine X.o1 (fun _ _ => rfl) (by first | rfl | omega | exact Nat.le_of_ble_eq_true rfl | (simp (disch := omega) only [sd, sb]; omega) | (simp (disch := omega) [sd] <;> fail) | (simp (disch := omega) [sd]; omega) | (simp [sd, *] <;> fail) | fail) ?_
        | refine X.o2 (fun _ _ => rfl) (by first | rfl | omega | exact Nat.le_of_ble_eq_true rfl | (simp (disch := omega) only [sd, sb]; omega) | (simp (disch := omega) [sd] <;> fail) | (simp (disch := omega) [sd]; omega) | (simp [sd, *] <;> fail) | fail) (by first | rfl | omega | exact Nat.le_of_ble_eq_true rfl | (simp (disch := omega) only [sd, sb]; omega) | (simp (disch := omega) [sd] <;> fail) | (simp (disch := omega) [sd]; omega) | (simp [sd, *] <;> fail) | fail) ?_
        | refine X.o3 (fun _ _ => rfl) (by first | rfl | omega | exact Nat.le_of_ble_eq_true rfl | (simp (disch := omega) only [sd, sb]; omega) | (simp (disch := omega) [sd] <;> fail) | (simp (disch := omega) [sd]; omega) | (simp [sd, *] <;> fail) | fail) (by first | rfl | omega | exact Nat.le_of_ble_eq_true rfl | (simp (disch := omega) only [sd, sb]; omega) | (simp (disch := omega) [sd] <;> fail) | (simp (disch := omega) [sd]; omega) | (simp [sd, *] <;> fail) | fail) (by first | rfl | omega | exact Nat.le_of_ble_eq_true rfl | (simp (disch := omega) only [sd, sb]; omega) | (simp (disch := omega) [sd] <;> fail) | (simp (disch := omega) [sd]; omega) | (simp [sd, *] <;> fail) | fail) ?_
        | refine X.pickT rfl (fun _ => rfl) ?_
        | refine X.pickF rfl (fun _ => rfl) ?_
        | refine X.condT rfl ?_
        | refine X.condF rfl ?_
        | refine X.g1T rfl ?_
        | refine X.g1F rfl ?_
        | refine X.alc rfl ?_
        | refine X.box (by conv => lhs; whnf) rfl rfl ?_
        | refine X.stl (by conv => lhs; whnf) rfl rfl rfl rfl rfl rfl rfl ?_
        | refine X.apf (by conv => lhs; whnf) (by conv => lhs; whnf) (by first | exact Els.vs _ | exact Els.st _ | exact Els.ns) (by first | rfl | (simp only [hgs, if_true]; rfl)) rfl rfl (by first | rfl | omega | exact Nat.le_of_ble_eq_true rfl | (simp (disch := omega) only [sd, sb]; omega) | (simp (disch := omega) [sd] <;> fail) | (simp (disch := omega) [sd]; omega) | (simp [sd, *] <;> fail) | fail) (by first | rfl | omega | exact Nat.le_of_ble_eq_true rfl | (simp (disch := omega) only [sd, sb]; omega) | (simp (disch := omega) [sd] <;> fail) | (simp (disch := omega) [sd]; omega) | (simp [sd, *] <;> fail) | fail) (by conv => lhs; whnf) ?_
        | refine X.bsl rfl (by conv => lhs; whnf) ?_
        | refine X.alh (by conv => lhs; whnf) ?_
        | refine X.bxh (by conv => lhs; whnf) rfl (by conv => lhs; whnf) ?_
        | refine X.mks (by conv => lhs; whnf) (by conv => lhs; whnf) (by first | rfl | omega | exact Nat.le_of_ble_eq_true rfl | (simp (disch := omega) only [sd, sb]; omega) | (simp (disch := omega) [sd] <;> fail) | (simp (disch := omega) [sd]; omega) | (simp [sd, *] <;> fail) | fail) (by first | rfl | omega | exact Nat.le_of_ble_eq_true rfl | (simp (disch := omega) only [sd, sb]; omega) | (simp (disch := omega) [sd] <;> fail) | (simp (disch := omega) [sd]; omega) | (simp [sd, *] <;> fail) | fail) (by first | rfl | omega | exact Nat.le_of_ble_eq_true rfl | (simp (disch := omega) only [sd, sb]; omega) | (simp (disch := omega) [sd] <;> fail) | (simp (disch := omega) [sd]; omega) | (simp [sd, *] <;> fail) | fail) (by decide) (by conv => lhs; whnf) (by first | exact wr_add_nat (by first | rfl | omega | exact Nat.le_of_ble_eq_true rfl | (simp (disch := omega) only [sd, sb]; omega) | (simp (disch := omega) [sd] <;> fail) | (simp (disch := omega) [sd]; omega) | (simp [sd, *] <;> fail) | fail) | (conv => lhs; whnf)) ?_
        | refine X.cpy (by conv => lhs; whnf) (by conv => lhs; whnf) (elems_vs _) (by first | assumption | first | rfl | (simp only [hgs, if_true]; rfl)) rfl rfl (by first | rfl | omega | exact Nat.le_of_ble_eq_true rfl | (simp (disch := omega) only [sd, sb]; omega) | (simp (disch := omega) [sd] <;> fail) | (simp (disch := omega) [sd]; omega) | (simp [sd, *] <;> fail) | fail) (by first | rfl | omega | exact Nat.le_of_ble_eq_true rfl | (simp (disch := omega) only [sd, sb]; omega) | (simp (disch := omega) [sd] <;> fail) | (simp (disch := omega) [sd]; omega) | (simp [sd, *] <;> fail) | fail) ?_
        | refine X.iah (by conv => lhs; whnf) (by conv => lhs; whnf) (by first | assumption | first | rfl | (simp only [hgs, if_true]; rfl)) rfl (by first | rfl | omega | exact Nat.le_of_ble_eq_true rfl | (simp (disch := omega) only [sd, sb]; omega) | (simp (disch := omega) [sd] <;> fail) | (simp (disch := omega) [sd]; omega) | (simp [sd, *] <;> fail) | fail) ?_
        | refine X.stp (by conv => lhs; whnf) (by conv => lhs; whnf) (by first | assumption | first | rfl | (simp only [hgs, if_true]; rfl)) rfl (by first | omega | exact Nat.le_of_ble_eq_true rfl) rfl rfl rfl (by first | rfl | omega | exact Nat.le_of_ble_eq_true rfl | (simp (disch := omega) only [sd, sb]; omega) | (simp (disch := omega) [sd] <;> fail) | (simp (disch := omega) [sd]; omega) | (simp [sd, *] <;> fail) | fail) (by first | exact bs_getD (by first | rfl | omega | exact Nat.le_of_ble_eq_true rfl | (simp (disch := omega) only [sd, sb]; omega) | (simp (disch := omega) [sd] <;> fail) | (simp (disch := omega) [sd]; omega) | (simp [sd, *] <;> fail) | fail) | rfl) (by first | rfl | omega | exact Nat.le_of_ble_eq_true rfl | (simp (disch := omega) only [sd, sb]; omega) | (simp (disch := omega) [sd] <;> fail) | (simp (disch := omega) [sd]; omega) | (simp [sd, *] <;> fail) | fail) ?_
        | refine X.ldp (by conv => lhs; whnf) (by first | assumption | first | rfl | (simp only [hgs, if_true]; rfl)) (by first | rfl | omega | exact Nat.le_of_ble_eq_true rfl | (simp (disch := omega) only [sd, sb]; omega) | (simp (disch := omega) [sd] <;> fail) | (simp (disch := omega) [sd]; omega) | (simp [sd, *] <;> fail) | fail) (by first | exact bs_getD (by first | rfl | omega | exact Nat.le_of_ble_eq_true rfl | (simp (disch := omega) only [sd, sb]; omega) | (simp (disch := omega) [sd] <;> fail) | (simp (disch := omega) [sd]; omega) | (simp [sd, *] <;> fail) | fail) | rfl) (by first | rfl | omega | exact Nat.le_of_ble_eq_true rfl | (simp (disch := omega) only [sd, sb]; omega) | (simp (disch := omega) [sd] <;> fail) | (simp (disch := omega) [sd]; omega) | (simp [sd, *] <;> fail) | fail) rfl ?_
        | refine X.len (by conv => lhs; whnf) (by first | rfl | assumption) ?_
        | refine X.condTs rfl (by first | rfl | omega | exact Nat.le_of_ble_eq_true rfl | (simp (disch := omega) only [sd, sb]; omega) | (simp (disch := omega) [sd] <;> fail) | (simp (disch := omega) [sd]; omega) | (simp [sd, *] <;> fail) | fail) ?_
        | refine X.condFs rfl (by first | rfl | omega | exact Nat.le_of_ble_eq_true rfl | (simp (disch := omega) only [sd, sb]; omega) | (simp (disch := omega) [sd] <;> fail) | (simp (disch := omega) [sd]; omega) | (simp [sd, *] <;> fail) | fail) ?_
        | refine X.g1Ts rfl (by first | rfl | omega | exact Nat.le_of_ble_eq_true rfl | (simp (disch := omega) only [sd, sb]; omega) | (simp (disch := omega) [sd] <;> fail) | (simp (disch := omega) [sd]; omega) | (simp [sd, *] <;> fail) | fail) ?_
        | refine X.g1Fs rfl (by first | rfl | omega | exact Nat.le_of_ble_eq_true rfl | (simp (disch := omega) only [sd, sb]; omega) | (simp (disch := omega) [sd] <;> fail) | (simp (disch := omega) [sd]; omega) | (simp [sd, *] <;> fail) | fail) ?_
        | refine X.pickTs rfl (by first | rfl | omega | exact Nat.le_of_ble_eq_true rfl | (simp (disch := omega) only [sd, sb]; omega) | (simp (disch := omega) [sd] <;> fail) | (simp (disch := omega) [sd]; omega) | (simp [sd, *] <;> fail) | fail) (fun _ => rfl) ?_
        | refine X.pickFs rfl (by first | rfl | omega | exact Nat.le_of_ble_eq_true rfl | (simp (disch := omega) only [sd, sb]; omega) | (simp (disch := omega) [sd] <;> fail) | (simp (disch := omega) [sd]; omega) | (simp [sd, *] <;> fail) | fail) (fun _ => rfl) ?_
        | refine X.mov (by conv => lhs; whnf) (by first | rfl | assumption) ?_
        )
      refine X.pcall (right_ok ty fl s p) (.gs (fr_clo _ _ _ _) (.nil _)) rfl rfl rfl ?_
      rw [hr]
      repeat (first
        | refine X.lpb ?_
        | refine X.seq ?_
        | refine X.skip ?_
        | refine X.ret ?_
        | refine X.exit ?_
        | refine X.blk ?_
        | refine X.sn ?_
        | refine X.se ?_
        | refine X.sr ?_
        | refine X.bn ?_
        | refine X.br ?_
        | refine X.bh ?_
        | refine X.bm rfl ?_
        | refine X.pn ?_
        | refine X.gn ?_
        | refine X.g0 ?_
        | refine X.ln ?_
        | refine X.finn ?_
        | refine X.reg0 (by conv => lhs; reduce) ?_
        | refine X.reg1 (by conv => lhs; reduce) ?_
        | refine X.gt rfl ?_
        | refine X.iav (by conv => lhs; whnf) (by conv => lhs; whnf) (by first | rfl | omega | exact Nat.le_of_ble_eq_true rfl | (simp (disch := omega) only [sd, sb]; omega) | (simp (disch := omega) [sd] <;> fail) | (simp (disch := omega) [sd]; omega) | (simp [sd, *] <;> fail) | fail) (by first | exact bs_getD (by first | rfl | omega | exact Nat.le_of_ble_eq_true rfl | (simp (disch := omega) only [sd, sb]; omega) | (simp (disch := omega) [sd] <;> fail) | (simp (disch := omega) [sd]; omega) | (simp [sd, *] <;> fail) | fail) | rfl) ?_
        | refine X.o0 (fun _ _ => rfl) ?_
        | refine X.o1 (fun _ _ => rfl) (by first | rfl | omega | exact Nat.le_of_ble_eq_true rfl | (simp (disch := omega) only [sd, sb]; omega) | (simp (disch := omega) [sd] <;> fail) | (simp (disch := omega) [sd]; omega) | (simp [sd, *] <;> fail) | fail) ?_
        | refine X.o2 (fun _ _ => rfl) (by first | rfl | omega | exact Nat.le_of_ble_eq_true rfl | (simp (disch := omega) only [sd, sb]; omega) | (simp (disch := omega) [sd] <;> fail) | (simp (disch := omega) [sd]; omega) | (simp [sd, *] <;> fail) | fail) (by first | rfl | omega | exact Nat.le_of_ble_eq_true rfl | (simp (disch := omega) only [sd, sb]; omega) | (simp (disch := omega) [sd] <;> fail) | (simp (disch := omega) [sd]; omega) | (simp [sd, *] <;> fail) | fail) ?_
        | refine X.o3 (fun _ _ => rfl) (by first | rfl | omega | exact Nat.le_of_ble_eq_true rfl | (simp (disch := omega) only [sd, sb]; omega) | (simp (disch := omega) [sd] <;> fail) | (simp (disch := omega) [sd]; omega) | (simp [sd, *] <;> fail) | fail) (by first | rfl | omega | exact Nat.le_of_ble_eq_true rfl | (simp (disch := omega) only [sd, sb]; omega) | (simp (disch := omega) [sd] <;> fail) | (simp (disch := omega) [sd]; omega) | (simp [sd, *] <;> fail) | fail) (by first | rfl | omega | exact Nat.le_of_ble_eq_true rfl | (simp (disch := omega) only [sd, sb]; omega) | (simp (disch := omega) [sd] <;> fail) | (simp (disch := omega) [sd]; omega) | (simp [sd, *] <;> fail) | fail) ?_
        | refine X.pickT rfl (fun _ => rfl) ?_
        | refine X.pickF rfl (fun _ => rfl) ?_
        | refine X.condT rfl ?_
        | refine X.condF rfl ?_
        | refine X.g1T rfl ?_
        | refine X.g1F rfl ?_
        | refine X.alc rfl ?_
        | refine X.box (by conv => lhs; whnf) rfl rfl ?_
        | refine X.stl (by conv => lhs; whnf) rfl rfl rfl rfl rfl rfl rfl ?_
        | refine X.apf (by conv => lhs; whnf) (by conv => lhs; whnf) (by first | exact Els.vs _ | exact Els.st _ | exact Els.ns) (by first | rfl | (simp only [hgs, if_true]; rfl)) rfl rfl (by first | rfl | omega | exact Nat.le_of_ble_eq_true rfl | (simp (disch := omega) only [sd, sb]; omega) | (simp (disch := omega) [sd] <;> fail) | (simp (disch := omega) [sd]; omega) | (simp [sd, *] <;> fail) | fail) (by first | rfl | omega | exact Nat.le_of_ble_eq_true rfl | (simp (disch := omega) only [sd, sb]; omega) | (simp (disch := omega) [sd] <;> fail) | (simp (disch := omega) [sd]; omega) | (simp [sd, *] <;> fail) | fail) (by conv => lhs; whnf) ?_
        | refine X.bsl rfl (by conv => lhs; whnf) ?_
        | refine X.alh (by conv => lhs; whnf) ?_
        | refine X.bxh (by conv => lhs; whnf) rfl (by conv => lhs; whnf) ?_
        | refine X.mks (by conv => lhs; whnf) (by conv => lhs; whnf) (by first | rfl | omega | exact Nat.le_of_ble_eq_true rfl | (simp (disch := omega) only [sd, sb]; omega) | (simp (disch := omega) [sd] <;> fail) | (simp (disch := omega) [sd]; omega) | (simp [sd, *] <;> fail) | fail) (by first | rfl | omega | exact Nat.le_of_ble_eq_true rfl | (simp (disch := omega) only [sd, sb]; omega) | (simp (disch := omega) [sd] <;> fail) | (simp (disch := omega) [sd]; omega) | (simp [sd, *] <;> fail) | fail) (by first | rfl | omega | exact Nat.le_of_ble_eq_true rfl | (simp (disch := omega) only [sd, sb]; omega) | (simp (disch := omega) [sd] <;> fail) | (simp (disch := omega) [sd]; omega) | (simp [sd, *] <;> fail) | fail) (by decide) (by conv => lhs; whnf) (by first | exact wr_add_nat (by first | rfl | omega | exact Nat.le_of_ble_eq_true rfl | (simp (disch := omega) only [sd, sb]; omega) | (simp (disch := omega) [sd] <;> fail) | (simp (disch := omega) [sd]; omega) | (simp [sd, *] <;> fail) | fail) | (conv => lhs; whnf)) ?_
        | refine X.cpy (by conv => lhs; whnf) (by conv => lhs; whnf) (elems_vs _) (by first | assumption | first | rfl | (simp only [hgs, if_true]; rfl)) rfl rfl (by first | rfl | omega | exact Nat.le_of_ble_eq_true rfl | (simp (disch := omega) only [sd, sb]; omega) | (simp (disch := omega) [sd] <;> fail) | (simp (disch := omega) [sd]; omega) | (simp [sd, *] <;> fail) | fail) (by first | rfl | omega | exact Nat.le_of_ble_eq_true rfl | (simp (disch := omega) only [sd, sb]; omega) | (simp (disch := omega) [sd] <;> fail) | (simp (disch := omega) [sd]; omega) | (simp [sd, *] <;> fail) | fail) ?_
        | refine X.iah (by conv => lhs; whnf) (by conv => lhs; whnf) (by first | assumption | first | rfl | (simp only [hgs, if_true]; rfl)) rfl (by first | rfl | omega | exact Nat.le_of_ble_eq_true rfl | (simp (disch := omega) only [sd, sb]; omega) | (simp (disch := omega) [sd] <;> fail) | (simp (disch := omega) [sd]; omega) | (simp [sd, *] <;> fail) | fail) ?_
        | refine X.stp (by conv => lhs; whnf) (by conv => lhs; whnf) (by first | assumption | first | rfl | (simp only [hgs, if_true]; rfl)) rfl (by first | omega | exact Nat.le_of_ble_eq_true rfl) rfl rfl rfl (by first | rfl | omega | exact Nat.le_of_ble_eq_true rfl | (simp (disch := omega) only [sd, sb]; omega) | (simp (disch := omega) [sd] <;> fail) | (simp (disch := omega) [sd]; omega) | (simp [sd, *] <;> fail) | fail) (by first | exact bs_getD (by first | rfl | omega | exact Nat.le_of_ble_eq_true rfl | (simp (disch := omega) only [sd, sb]; omega) | (simp (disch := omega) [sd] <;> fail) | (simp (disch := omega) [sd]; omega) | (simp [sd, *] <;> fail) | fail) | rfl) (by first | rfl | omega | exact Nat.le_of_ble_eq_true rfl | (simp (disch := omega) only [sd, sb]; omega) | (simp (disch := omega) [sd] <;> fail) | (simp (disch := omega) [sd]; omega) | (simp [sd, *] <;> fail) | fail) ?_
        | refine X.ldp (by conv => lhs; whnf) (by first | assumption | first | rfl | (simp only [hgs, if_true]; rfl)) (by first | rfl | omega | exact Nat.le_of_ble_eq_true rfl | (simp (disch := omega) only [sd, sb]; omega) | (simp (disch := omega) [sd] <;> fail) | (simp (disch := omega) [sd]; omega) | (simp [sd, *] <;> fail) | fail) (by first | exact bs_getD (by first | rfl | omega | exact Nat.le_of_ble_eq_true rfl | (simp (disch := omega) only [sd, sb]; omega) | (simp (disch := omega) [sd] <;> fail) | (simp (disch := omega) [sd]; omega) | (simp [sd, *] <;> fail) | fail) | rfl) (by first | rfl | omega | exact Nat.le_of_ble_eq_true rfl | (simp (disch := omega) only [sd, sb]; omega) | (simp (disch := omega) [sd] <;> fail) | (simp (disch := omega) [sd]; omega) | (simp [sd, *] <;> fail) | fail) rfl ?_
        | refine X.len (by conv => lhs; whnf) (by first | rfl | assumption) ?_
        | refine X.condTs rfl (by first | rfl | omega | exact Nat.le_of_ble_eq_true rfl | (simp (disch := omega) only [sd, sb]; omega) | (simp (disch := omega) [sd] <;> fail) | (simp (disch := omega) [sd]; omega) | (simp [sd, *] <;> fail) | fail) ?_
        | refine X.condFs rfl (by first | rfl | omega | exact Nat.le_of_ble_eq_true rfl | (simp (disch := omega) only [sd, sb]; omega) | (simp (disch := omega) [sd] <;> fail) | (simp (disch := omega) [sd]; omega) | (simp [sd, *] <;> fail) | fail) ?_
        | refine X.g1Ts rfl (by first | rfl | omega | exact Nat.le_of_ble_eq_true rfl | (simp (disch := omega) only [sd, sb]; omega) | (simp (disch := omega) [sd] <;> fail) | (simp (disch := omega) [sd]; omega) | (simp [sd, *] <;> fail) | fail) ?_
        | refine X.g1Fs rfl (by first | rfl | omega | exact Nat.le_of_ble_eq_true rfl | (simp (disch := omega) only [sd, sb]; omega) | (simp (disch := omega) [sd] <;> fail) | (simp (disch := omega) [sd]; omega) | (simp [sd, *] <;> fail) | fail) ?_
        | refine X.pickTs rfl (by first | rfl | omega | exact Nat.le_of_ble_eq_true rfl | (simp (disch := omega) only [sd, sb]; omega) | (simp (disch := omega) [sd] <;> fail) | (simp (disch := omega) [sd]; omega) | (simp [sd, *] <;> fail) | fail) (fun _ => rfl) ?_
        | refine X.pickFs rfl (by first | rfl | omega | exact Nat.le_of_ble_eq_true rfl | (simp (disch := omega) only [sd, sb]; omega) | (simp (disch := omega) [sd] <;> fail) | (simp (disch := omega) [sd]; omega) | (simp [sd, *] <;> fail) | fail) (fun _ => rfl) ?_
        | refine X.mov (by conv => lhs; whnf) (by first | rfl | assumption) ?_
        )
      exact X.fin (fun _ => rfl) rfl rfl
    · have el : ((bs b).drop 0).take (bs b).length = bs b := by rw [List.drop_zero, List.take_length]
      refine EvO.of d11 (ts := [.one]) rfl rfl rfl rfl (id := 0) (i := 0) (len := (bs b).length) (h := hnew h0 ⟨1, false, bs b⟩) (es := bs b) ?_ rfl (Nat.le_refl 0) (by simp) el (bs_clo _) (by simp [depth, bs_length]; omega)
      refine X.fn ?_
      repeat (first
        | refine X.lpb ?_
        | refine X.seq ?_
        | refine X.skip ?_
        | refine X.ret ?_
        | refine X.exit ?_
        | refine X.blk ?_
        | refine X.sn ?_
        | refine X.se ?_
        | refine X.sr ?_
        | refine X.bn ?_
        | refine X.br ?_
        | refine X.bh ?_
        | refine X.bm rfl ?_
        | refine X.pn ?_
        | refine X.gn ?_
        | refine X.g0 ?_
        | refine X.ln ?_
        | refine X.finn ?_
        | refine X.reg0 (by conv => lhs; reduce) ?_
        | refine X.reg1 (by conv => lhs; reduce) ?_
        | refine X.gt rfl ?_
        | refine X.iav (by conv => lhs; whnf) (by conv => lhs; whnf) (by first | rfl | omega | exact Nat.le_of_ble_eq_true rfl | (simp (disch := omega) only [sd, sb]; omega) | (simp (disch := omega) [sd] <;> fail) | (simp (disch := omega) [sd]; omega) | (simp [sd, *] <;> fail) | fail) (by first | exact bs_getD (by first | rfl | omega | exact Nat.le_of_ble_eq_true rfl | (simp (disch := omega) only [sd, sb]; omega) | (simp (disch := omega) [sd] <;> fail) | (simp (disch := omega) [sd]; omega) | (simp [sd, *] <;> fail) | fail) | rfl) ?_
        | refine X.o0 (fun _ _ => rfl) ?_
        | refine X.o1 (fun _ _ => rfl) (by first | rfl | omega | exact Nat.le_of_ble_eq_true rfl | (simp (disch := omega) only [sd, sb]; omega) | (simp (disch := omega) [sd] <;> fail) | (simp (disch := omega) [sd]; omega) | (simp [sd, *] <;> fail) | fail) ?_
        | refine X.o2 (fun _ _ => rfl) (by first | rfl | omega | exact Nat.le_of_ble_eq_true rfl | (simp (disch := omega) only [sd, sb]; omega) | (simp (disch := omega) [sd] <;> fail) | (simp (disch := omega) [sd]; omega) | (simp [sd, *] <;> fail) | fail) (by first | rfl | omega | exact Nat.le_of_ble_eq_true rfl | (simp (disch := omega) only [sd, sb]; omega) | (simp (disch := omega) [sd] <;> fail) | (simp (disch := omega) [sd]; omega) | (simp [sd, *] <;> fail) | fail) ?_
        | refine X.o3 (fun _ _ => rfl) (by first | rfl | omega | exact Nat.le_of_ble_eq_true rfl | (simp (disch := omega) only [sd, sb]; omega) | (simp (disch := omega) [sd] <;> fail) | (simp (disch := omega) [sd]; omega) | (simp [sd, *] <;> fail) | fail) (by first | rfl | omega | exact Nat.le_of_ble_eq_true rfl | (simp (disch := omega) only [sd, sb]; omega) | (simp (disch := omega) [sd] <;> fail) | (simp (disch := omega) [sd]; omega) | (simp [sd, *] <;> fail) | fail) (by first | rfl | omega | exact Nat.le_of_ble_eq_true rfl | (simp (disch := omega) only [sd, sb]; omega) | (simp (disch := omega) [sd] <;> fail) | (simp (disch := omega) [sd]; omega) | (simp [sd, *] <;> fail) | fail) ?_
        | refine X.pickT rfl (fun _ => rfl) ?_
        | refine X.pickF rfl (fun _ => rfl) ?_
        | refine X.condT rfl ?_
        | refine X.condF rfl ?_
        | refine X.g1T rfl ?_
        | refine X.g1F rfl ?_
        | refine X.alc rfl ?_
        | refine X.box (by conv => lhs; whnf) rfl rfl ?_
        | refine X.stl (by conv => lhs; whnf) rfl rfl rfl rfl rfl rfl rfl ?_
        | refine X.apf (by conv => lhs; whnf) (by conv => lhs; whnf) (by first | exact Els.vs _ | exact Els.st _ | exact Els.ns) (by first | rfl | (simp only [hgs, if_true]; rfl)) rfl rfl (by first | rfl | omega | exact Nat.le_of_ble_eq_true rfl | (simp (disch := omega) only [sd, sb]; omega) | (simp (disch := omega) [sd] <;> fail) | (simp (disch := omega) [sd]; omega) | (simp [sd, *] <;> fail) | fail) (by first | rfl | omega | exact Nat.le_of_ble_eq_true rfl | (simp (disch := omega) only [sd, sb]; omega) | (simp (disch := omega) [sd] <;> fail) | (simp (disch := omega) [sd]; omega) | (simp [sd, *] <;> fail) | fail) (by conv => lhs; whnf) ?_
        | refine X.bsl rfl (by conv => lhs; whnf) ?_
        | refine X.alh (by conv => lhs; whnf) ?_
        | refine X.bxh (by conv => lhs; whnf) rfl (by conv => lhs; whnf) ?_
        | refine X.mks (by conv => lhs; whnf) (by conv => lhs; whnf) (by first | rfl | omega | exact Nat.le_of_ble_eq_true rfl | (simp (disch := omega) only [sd, sb]; omega) | (simp (disch := omega) [sd] <;> fail) | (simp (disch := omega) [sd]; omega) | (simp [sd, *] <;> fail) | fail) (by first | rfl | omega | exact Nat.le_of_ble_eq_true rfl | (simp (disch := omega) only [sd, sb]; omega) | (simp (disch := omega) [sd] <;> fail) | (simp (disch := omega) [sd]; omega) | (simp [sd, *] <;> fail) | fail) (by first | rfl | omega | exact Nat.le_of_ble_eq_true rfl | (simp (disch := omega) only [sd, sb]; omega) | (simp (disch := omega) [sd] <;> fail) | (simp (disch := omega) [sd]; omega) | (simp [sd, *] <;> fail) | fail) (by decide) (by conv => lhs; whnf) (by first | exact wr_add_nat (by first | rfl | omega | exact Nat.le_of_ble_eq_true rfl | (simp (disch := omega) only [sd, sb]; omega) | (simp (disch := omega) [sd] <;> fail) | (simp (disch := omega) [sd]; omega) | (simp [sd, *] <;> fail) | fail) | (conv => lhs; whnf)) ?_
        | refine X.cpy (by conv => lhs; whnf) (by conv => lhs; whnf) (elems_vs _) (by first | assumption | first | rfl | (simp only [hgs, if_true]; rfl)) rfl rfl (by first | rfl | omega | exact Nat.le_of_ble_eq_true rfl | (simp (disch := omega) only [sd, sb]; omega) | (simp (disch := omega) [sd] <;> fail) | (simp (disch := omega) [sd]; omega) | (simp [sd, *] <;> fail) | fail) (by first | rfl | omega | exact Nat.le_of_ble_eq_true rfl | (simp (disch := omega) only [sd, sb]; omega) | (simp (disch := omega) [sd] <;> fail) | (simp (disch := omega) [sd]; omega) | (simp [sd, *] <;> fail) | fail) ?_
        | refine X.iah (by conv => lhs; whnf) (by conv => lhs; whnf) (by first | assumption | first | rfl | (simp only [hgs, if_true]; rfl)) rfl (by first | rfl | omega | exact Nat.le_of_ble_eq_true rfl | (simp (disch := omega) only [sd, sb]; omega) | (simp (disch := omega) [sd] <;> fail) | (simp (disch := omega) [sd]; omega) | (simp [sd, *] <;> fail) | fail) ?_
        | refine X.stp (by conv => lhs; whnf) (by conv => lhs; whnf) (by first | assumption | first | rfl | (simp only [hgs, if_true]; rfl)) rfl (by first | omega | exact Nat.le_of_ble_eq_true rfl) rfl rfl rfl (by first | rfl | omega | exact Nat.le_of_ble_eq_true rfl | (simp (disch := omega) only [sd, sb]; omega) | (simp (disch := omega) [sd] <;> fail) | (simp (disch := omega) [sd]; omega) | (simp [sd, *] <;> fail) | fail) (by first | exact bs_getD (by first | rfl | omega | exact Nat.le_of_ble_eq_true rfl | (simp (disch := omega) only [sd, sb]; omega) | (simp (disch := omega) [sd] <;> fail) | (simp (disch := omega) [sd]; omega) | (simp [sd, *] <;> fail) | fail) | rfl) (by first | rfl | omega | exact Nat.le_of_ble_eq_true rfl | (simp (disch := omega) only [sd, sb]; omega) | (simp (disch := omega) [sd] <;> fail) | (simp (disch := omega) [sd]; omega) | (simp [sd, *] <;> fail) | fail) ?_
        | refine X.ldp (by conv => lhs; whnf) (by first | assumption | first | rfl | (simp only [hgs, if_true]; rfl)) (by first | rfl | omega | exact Nat.le_of_ble_eq_true rfl | (simp (disch := omega) only [sd, sb]; omega) | (simp (disch := omega) [sd] <;> fail) | (simp (disch := omega) [sd]; omega) | (simp [sd, *] <;> fail) | fail) (by first | exact bs_getD (by first | rfl | omega | exact Nat.le_of_ble_eq_true rfl | (simp (disch := omega) only [sd, sb]; omega) | (simp (disch := omega) [sd] <;> fail) | (simp (disch := omega) [sd]; omega) | (simp [sd, *] <;> fail) | fail) | rfl) (by first | rfl | omega | exact Nat.le_of_ble_eq_true rfl | (simp (disch := omega) only [sd, sb]; omega) | (simp (disch := omega) [sd] <;> fail) | (simp (disch := omega) [sd]; omega) | (simp [sd, *] <;> fail) | fail) rfl ?_
        | refine X.len (by conv => lhs; whnf) (by first | rfl | assumption) ?_
        | refine X.condTs rfl (by first | rfl | omega | exact Nat.le_of_ble_eq_true rfl | (simp (disch := omega) only [sd, sb]; omega) | (simp (disch := omega) [sd] <;> fail) | (simp (disch := omega) [sd]; omega) | (simp [sd, *] <;> fail) | fail) ?_
        | refine X.condFs rfl (by first | rfl | omega | exact Nat.le_of_ble_eq_true rfl | (simp (disch := omega) only [sd, sb]; omega) | (simp (disch := omega) [sd] <;> fail) | (simp (disch := omega) [sd]; omega) | (simp [sd, *] <;> fail) | fail) ?_
        | refine X.g1Ts rfl (by first | rfl | omega | exact Nat.le_of_ble_eq_true rfl | (simp (disch := omega) only [sd, sb]; omega) | (simp (disch := omega) [sd] <;> fail) | (simp (disch := omega) [sd]; omega) | (simp [sd, *] <;> fail) | fail) ?_
        | refine X.g1Fs rfl (by first | rfl | omega | exact Nat.le_of_ble_eq_true rfl | (simp (disch := omega) only [sd, sb]; omega) | (simp (disch := omega) [sd] <;> fail) | (simp (disch := omega) [sd]; omega) | (simp [sd, *] <;> fail) | fail) ?_
        | refine X.pickTs rfl (by first | rfl | omega | exact Nat.le_of_ble_eq_true rfl | (simp (disch := omega) only [sd, sb]; omega) | (simp (disch := omega) [sd] <;> fail) | (simp (disch := omega) [sd]; omega) | (simp [sd, *] <;> fail) | fail) (fun _ => rfl) ?_
        | refine X.pickFs rfl (by first | rfl | omega | exact Nat.le_of_ble_eq_true rfl | (simp (disch := omega) only [sd, sb]; omega) | (simp (disch := omega) [sd] <;> fail) | (simp (disch := omega) [sd]; omega) | (simp [sd, *] <;> fail) | fail) (fun _ => rfl) ?_
        | refine X.mov (by conv => lhs; whnf) (by first | rfl | assumption) ?_
        )
      refine X.pcall (right_ok ty fl s p) (.gs (fr_clo _ _ _ _) (.nil _)) rfl rfl rfl ?_
      rw [hr]
      repeat (first
        | refine X.lpb ?_
        | refine X.seq ?_
        | refine X.skip ?_
        | refine X.ret ?_
        | refine X.exit ?_
        | refine X.blk ?_
        | refine X.sn ?_
        | refine X.se ?_
        | refine X.sr ?_
        | refine X.bn ?_
        | refine X.br ?_
        | refine X.bh ?_
        | refine X.bm rfl ?_
        | refine X.pn ?_
        | refine X.gn ?_
        | refine X.g0 ?_
        | refine X.ln ?_
        | refine X.finn ?_
        | refine X.reg0 (by conv => lhs; reduce) ?_
        | refine X.reg1 (by conv => lhs; reduce) ?_
        | refine X.gt rfl ?_
        | refine X.iav (by conv => lhs; whnf) (by conv => lhs; whnf) (by first | rfl | omega | exact Nat.le_of_ble_eq_true rfl | (simp (disch := omega) only [sd, sb]; omega) | (simp (disch := omega) [sd] <;> fail) | (simp (disch := omega) [sd]; omega) | (simp [sd, *] <;> fail) | fail) (by first | exact bs_getD (by first | rfl | omega | exact Nat.le_of_ble_eq_true rfl | (simp (disch := omega) only [sd, sb]; omega) | (simp (disch := omega) [sd] <;> fail) | (simp (disch := omega) [sd]; omega) | (simp [sd, *] <;> fail) | fail) | rfl) ?_
        | refine X.o0 (fun _ _ => rfl) ?_
        | refine X.o1 (fun _ _ => rfl) (by first | rfl | omega | exact Nat.le_of_ble_eq_true rfl | (simp (disch := omega) only [sd, sb]; omega) | (simp (disch := omega) [sd] <;> fail) | (simp (disch := omega) [sd]; omega) | (simp [sd, *] <;> fail) | fail) ?_
        | refine X.o2 (fun _ _ => rfl) (by first | rfl | omega | exact Nat.le_of_ble_eq_true rfl | (simp (disch := omega) only [sd, sb]; omega) | (simp (disch := omega) [sd] <;> fail) | (simp (disch := omega) [sd]; omega) | (simp [sd, *] <;> fail) | fail) (by first | rfl | omega | exact Nat.le_of_ble_eq_true rfl | (simp (disch := omega) only [sd, sb]; omega) | (simp (disch := omega) [sd] <;> fail) | (simp (disch := omega) [sd]; omega) | (simp [sd, *] <;> fail) | fail) ?_
        | refine X.o3 (fun _ _ => rfl) (by first | rfl | omega | exact Nat.le_of_ble_eq_true rfl | (simp (disch := omega) only [sd, sb]; omega) | (simp (disch := omega) [sd] <;> fail) | (simp (disch := omega) [sd]; omega) | (simp [sd, *] <;> fail) | fail) (by first | rfl | omega | exact Nat.le_of_ble_eq_true rfl | (simp (disch := omega) only [sd, sb]; omega) | (simp (disch := omega) [sd] <;> fail) | (simp (disch := omega) [sd]; omega) | (simp [sd, *] <;> fail) | fail) (by first | rfl | omega | exact Nat.le_of_ble_eq_true rfl | (simp (disch := omega) only [sd, sb]; omega) | (simp (disch := omega) [sd] <;> fail) | (simp (disch := omega) [sd]; omega) | (simp [sd, *] <;> fail) | fail) ?_
        | refine X.pickT rfl (fun _ => rfl) ?_
        | refine X.pickF rfl (fun _ => rfl) ?_
        | refine X.condT rfl ?_
        | refine X.condF rfl ?_
        | refine X.g1T rfl ?_
        | refine X.g1F rfl ?_
        | refine X.alc rfl ?_
        | refine X.box (by conv => lhs; whnf) rfl rfl ?_
        | refine X.stl (by conv => lhs; whnf) rfl rfl rfl rfl rfl rfl rfl ?_
        | refine X.apf (by conv => lhs; whnf) (by conv => lhs; whnf) (by first | exact Els.vs _ | exact Els.st _ | exact Els.ns) (by first | rfl | (simp only [hgs, if_true]; rfl)) rfl rfl (by first | rfl | omega | exact Nat.le_of_ble_eq_true rfl | (simp (disch := omega) only [sd, sb]; omega) | (simp (disch := omega) [sd] <;> fail) | (simp (disch := omega) [sd]; omega) | (simp [sd, *] <;> fail) | fail) (by first | rfl | omega | exact Nat.le_of_ble_eq_true rfl | (simp (disch := omega) only [sd, sb]; omega) | (simp (disch := omega) [sd] <;> fail) | (simp (disch := omega) [sd]; omega) | (simp [sd, *] <;> fail) | fail) (by conv => lhs; whnf) ?_
        | refine X.bsl rfl (by conv => lhs; whnf) ?_
        | refine X.alh (by conv => lhs; whnf) ?_
        | refine X.bxh (by conv => lhs; whnf) rfl (by conv => lhs; whnf) ?_
        | refine X.mks (by conv => lhs; whnf) (by conv => lhs; whnf) (by first | rfl | omega | exact Nat.le_of_ble_eq_true rfl | (simp (disch := omega) only [sd, sb]; omega) | (simp (disch := omega) [sd] <;> fail) | (simp (disch := omega) [sd]; omega) | (simp [sd, *] <;> fail) | fail) (by first | rfl | omega | exact Nat.le_of_ble_eq_true rfl | (simp (disch := omega) only [sd, sb]; omega) | (simp (disch := omega) [sd] <;> fail) | (simp (disch := omega) [sd]; omega) | (simp [sd, *] <;> fail) | fail) (by first | rfl | omega | exact Nat.le_of_ble_eq_true rfl | (simp (disch := omega) only [sd, sb]; omega) | (simp (disch := omega) [sd] <;> fail) | (simp (disch := omega) [sd]; omega) | (simp [sd, *] <;> fail) | fail) (by decide) (by conv => lhs; whnf) (by first | exact wr_add_nat (by first | rfl | omega | exact Nat.le_of_ble_eq_true rfl | (simp (disch := omega) only [sd, sb]; omega) | (simp (disch := omega) [sd] <;> fail) | (simp (disch := omega) [sd]; omega) | (simp [sd, *] <;> fail) | fail) | (conv => lhs; whnf)) ?_
        | refine X.cpy (by conv => lhs; whnf) (by conv => lhs; whnf) (elems_vs _) (by first | assumption | first | rfl | (simp only [hgs, if_true]; rfl)) rfl rfl (by first | rfl | omega | exact Nat.le_of_ble_eq_true rfl | (simp (disch := omega) only [sd, sb]; omega) | (simp (disch := omega) [sd] <;> fail) | (simp (disch := omega) [sd]; omega) | (simp [sd, *] <;> fail) | fail) (by first | rfl | omega | exact Nat.le_of_ble_eq_true rfl | (simp (disch := omega) only [sd, sb]; omega) | (simp (disch := omega) [sd] <;> fail) | (simp (disch := omega) [sd]; omega) | (simp [sd, *] <;> fail) | fail) ?_
        | refine X.iah (by conv => lhs; whnf) (by conv => lhs; whnf) (by first | assumption | first | rfl | (simp only [hgs, if_true]; rfl)) rfl (by first | rfl | omega | exact Nat.le_of_ble_eq_true rfl | (simp (disch := omega) only [sd, sb]; omega) | (simp (disch := omega) [sd] <;> fail) | (simp (disch := omega) [sd]; omega) | (simp [sd, *] <;> fail) | fail) ?_
        | refine X.stp (by conv => lhs; whnf) (by conv => lhs; whnf) (by first | assumption | first | rfl | (simp only [hgs, if_true]; rfl)) rfl (by first | omega | exact Nat.le_of_ble_eq_true rfl) rfl rfl rfl (by first | rfl | omega | exact Nat.le_of_ble_eq_true rfl | (simp (disch := omega) only [sd, sb]; omega) | (simp (disch := omega) [sd] <;> fail) | (simp (disch := omega) [sd]; omega) | (simp [sd, *] <;> fail) | fail) (by first | exact bs_getD (by first | rfl | omega | exact Nat.le_of_ble_eq_true rfl | (simp (disch := omega) only [sd, sb]; omega) | (simp (disch := omega) [sd] <;> fail) | (simp (disch := omega) [sd]; omega) | (simp [sd, *] <;> fail) | fail) | rfl) (by first | rfl | omega | exact Nat.le_of_ble_eq_true rfl | (simp (disch := omega) only [sd, sb]; omega) | (simp (disch := omega) [sd] <;> fail) | (simp (disch := omega) [sd]; omega) | (simp [sd, *] <;> fail) | fail) ?_
        | refine X.ldp (by conv => lhs; whnf) (by first | assumption | first | rfl | (simp only [hgs, if_true]; rfl)) (by first | rfl | omega | exact Nat.le_of_ble_eq_true rfl | (simp (disch := omega) only [sd, sb]; omega) | (simp (disch := omega) [sd] <;> fail) | (simp (disch := omega) [sd]; omega) | (simp [sd, *] <;> fail) | fail) (by first | exact bs_getD (by first | rfl | omega | exact Nat.le_of_ble_eq_true rfl | (simp (disch := omega) only [sd, sb]; omega) | (simp (disch := omega) [sd] <;> fail) | (simp (disch := omega) [sd]; omega) | (simp [sd, *] <;> fail) | fail) | rfl) (by first | rfl | omega | exact Nat.le_of_ble_eq_true rfl | (simp (disch := omega) only [sd, sb]; omega) | (simp (disch := omega) [sd] <;> fail) | (simp (disch := omega) [sd]; omega) | (simp [sd, *] <;> fail) | fail) rfl ?_
        | refine X.len (by conv => lhs; whnf) (by first | rfl | assumption) ?_
        | refine X.condTs rfl (by first | rfl | omega | exact Nat.le_of_ble_eq_true rfl | (simp (disch := omega) only [sd, sb]; omega) | (simp (disch := omega) [sd] <;> fail) | (simp (disch := omega) [sd]; omega) | (simp [sd, *] <;> fail) | fail) ?_
        | refine X.condFs rfl (by first | rfl | omega | exact Nat.le_of_ble_eq_true rfl | (simp (disch := omega) only [sd, sb]; omega) | (simp (disch := omega) [sd] <;> fail) | (simp (disch := omega) [sd]; omega) | (simp [sd, *] <;> fail) | fail) ?_
        | refine X.g1Ts rfl (by first | rfl | omega | exact Nat.le_of_ble_eq_true rfl | (simp (disch := omega) only [sd, sb]; omega) | (simp (disch := omega) [sd] <;> fail) | (simp (disch := omega) [sd]; omega) | (simp [sd, *] <;> fail) | fail) ?_
        | refine X.g1Fs rfl (by first | rfl | omega | exact Nat.le_of_ble_eq_true rfl | (simp (disch := omega) only [sd, sb]; omega) | (simp (disch := omega) [sd] <;> fail) | (simp (disch := omega) [sd]; omega) | (simp [sd, *] <;> fail) | fail) ?_
        | refine X.pickTs rfl (by first | rfl | omega | exact Nat.le_of_ble_eq_true rfl | (simp (disch := omega) only [sd, sb]; omega) | (simp (disch := omega) [sd] <;> fail) | (simp (disch := omega) [sd]; omega) | (simp [sd, *] <;> fail) | fail) (fun _ => rfl) ?_
        | refine X.pickFs rfl (by first | rfl | omega | exact Nat.le_of_ble_eq_true rfl | (simp (disch := omega) only [sd, sb]; omega) | (simp (disch := omega) [sd] <;> fail) | (simp (disch := omega) [sd]; omega) | (simp [sd, *] <;> fail) | fail) (fun _ => rfl) ?_
        | refine X.mov (by conv => lhs; whnf) (by first | rfl | assumption) ?_
        )
      refine X.apn (by conv => lhs; whnf) (by conv => lhs; whnf) (Els.vs _) (by simp [bs]; exact hbn) (by first | rfl | omega | exact Nat.le_of_ble_eq_true rfl | (simp (disch := omega) only [sd, sb]; omega) | (simp (disch := omega) [sd] <;> fail) | (simp (disch := omega) [sd]; omega) | (simp [sd, *] <;> fail) | fail) (by conv => lhs; whnf) ?_
      repeat (first
        | refine X.lpb ?_
        | refine X.seq ?_
        | refine X.skip ?_
        | refine X.ret ?_
        | refine X.exit ?_
        | refine X.blk ?_
        | refine X.sn ?_
        | refine X.se ?_
        | refine X.sr ?_
        | refine X.bn ?_
        | refine X.br ?_
        | refine X.bh ?_
        | refine X.bm rfl ?_
        | refine X.pn ?_
        | refine X.gn ?_
        | refine X.g0 ?_
        | refine X.ln ?_
        | refine X.finn ?_
        | refine X.reg0 (by conv => lhs; reduce) ?_
        | refine X.reg1 (by conv => lhs; reduce) ?_
        | refine X.gt rfl ?_
        | refine X.iav (by conv => lhs; whnf) (by conv => lhs; whnf) (by first | rfl | omega | exact Nat.le_of_ble_eq_true rfl | (simp (disch := omega) only [sd, sb]; omega) | (simp (disch := omega) [sd] <;> fail) | (simp (disch := omega) [sd]; omega) | (simp [sd, *] <;> fail) | fail) (by first | exact bs_getD (by first | rfl | omega | exact Nat.le_of_ble_eq_true rfl | (simp (disch := omega) only [sd, sb]; omega) | (simp (disch := omega) [sd] <;> fail) | (simp (disch := omega) [sd]; omega) | (simp [sd, *] <;> fail) | fail) | rfl) ?_
        | refine X.o0 (fun _ _ => rfl) ?_
        | refine X.o1 (fun _ _ => rfl) (by first | rfl | omega | exact Nat.le_of_ble_eq_true rfl | (simp (disch := omega) only [sd, sb]; omega) | (simp (disch := omega) [sd] <;> fail) | (simp (disch := omega) [sd]; omega) | (simp [sd, *] <;> fail) | fail) ?_
        | refine X.o2 (fun _ _ => rfl) (by first | rfl | omega | exact Nat.le_of_ble_eq_true rfl | (simp (disch := omega) only [sd, sb]; omega) | (simp (disch := omega) [sd] <;> fail) | (simp (disch := omega) [sd]; omega) | (simp [sd, *] <;> fail) | fail) (by first | rfl | omega | exact Nat.le_of_ble_eq_true rfl | (simp (disch := omega) only [sd, sb]; omega) | (simp (disch := omega) [sd] <;> fail) | (simp (disch := omega) [sd]; omega) | (simp [sd, *] <;> fail) | fail) ?_
        | refine X.o3 (fun _ _ => rfl) (by first | rfl | omega | exact Nat.le_of_ble_eq_true rfl | (simp (disch := omega) only [sd, sb]; omega) | (simp (disch := omega) [sd] <;> fail) | (simp (disch := omega) [sd]; omega) | (simp [sd, *] <;> fail) | fail) (by first | rfl | omega | exact Nat.le_of_ble_eq_true rfl | (simp (disch := omega) only [sd, sb]; omega) | (simp (disch := omega) [sd] <;> fail) | (simp (disch := omega) [sd]; omega) | (simp [sd, *] <;> fail) | fail) (by first | rfl | omega | exact Nat.le_of_ble_eq_true rfl | (simp (disch := omega) only [sd, sb]; omega) | (simp (disch := omega) [sd] <;> fail) | (simp (disch := omega) [sd]; omega) | (simp [sd, *] <;> fail) | fail) ?_
        | refine X.pickT rfl (fun _ => rfl) ?_
        | refine X.pickF rfl (fun _ => rfl) ?_
        | refine X.condT rfl ?_
        | refine X.condF rfl ?_
        | refine X.g1T rfl ?_
        | refine X.g1F rfl ?_
        | refine X.alc rfl ?_
        | refine X.box (by conv => lhs; whnf) rfl rfl ?_
        | refine X.stl (by conv => lhs; whnf) rfl rfl rfl rfl rfl rfl rfl ?_
        | refine X.apf (by conv => lhs; whnf) (by conv => lhs; whnf) (by first | exact Els.vs _ | exact Els.st _ | exact Els.ns) (by first | rfl | (simp only [hgs, if_true]; rfl)) rfl rfl (by first | rfl | omega | exact Nat.le_of_ble_eq_true rfl | (simp (disch := omega) only [sd, sb]; omega) | (simp (disch := omega) [sd] <;> fail) | (simp (disch := omega) [sd]; omega) | (simp [sd, *] <;> fail) | fail) (by first | rfl | omega | exact Nat.le_of_ble_eq_true rfl | (simp (disch := omega) only [sd, sb]; omega) | (simp (disch := omega) [sd] <;> fail) | (simp (disch := omega) [sd]; omega) | (simp [sd, *] <;> fail) | fail) (by conv => lhs; whnf) ?_
        | refine X.bsl rfl (by conv => lhs; whnf) ?_
        | refine X.alh (by conv => lhs; whnf) ?_
        | refine X.bxh (by conv => lhs; whnf) rfl (by conv => lhs; whnf) ?_
        | refine X.mks (by conv => lhs; whnf) (by conv => lhs; whnf) (by first | rfl | omega | exact Nat.le_of_ble_eq_true rfl | (simp (disch := omega) only [sd, sb]; omega) | (simp (disch := omega) [sd] <;> fail) | (simp (disch := omega) [sd]; omega) | (simp [sd, *] <;> fail) | fail) (by first | rfl | omega | exact Nat.le_of_ble_eq_true rfl | (simp (disch := omega) only [sd, sb]; omega) | (simp (disch := omega) [sd] <;> fail) | (simp (disch := omega) [sd]; omega) | (simp [sd, *] <;> fail) | fail) (by first | rfl | omega | exact Nat.le_of_ble_eq_true rfl | (simp (disch := omega) only [sd, sb]; omega) | (simp (disch := omega) [sd] <;> fail) | (simp (disch := omega) [sd]; omega) | (simp [sd, *] <;> fail) | fail) (by decide) (by conv => lhs; whnf) (by first | exact wr_add_nat (by first | rfl | omega | exact Nat.le_of_ble_eq_true rfl | (simp (disch := omega) only [sd, sb]; omega) | (simp (disch := omega) [sd] <;> fail) | (simp (disch := omega) [sd]; omega) | (simp [sd, *] <;> fail) | fail) | (conv => lhs; whnf)) ?_
        | refine X.cpy (by conv => lhs; whnf) (by conv => lhs; whnf) (elems_vs _) (by first | assumption | first | rfl | (simp only [hgs, if_true]; rfl)) rfl rfl (by first | rfl | omega | exact Nat.le_of_ble_eq_true rfl | (simp (disch := omega) only [sd, sb]; omega) | (simp (disch := omega) [sd] <;> fail) | (simp (disch := omega) [sd]; omega) | (simp [sd, *] <;> fail) | fail) (by first | rfl | omega | exact Nat.le_of_ble_eq_true rfl | (simp (disch := omega) only [sd, sb]; omega) | (simp (disch := omega) [sd] <;> fail) | (simp (disch := omega) [sd]; omega) | (simp [sd, *] <;> fail) | fail) ?_
        | refine X.iah (by conv => lhs; whnf) (by conv => lhs; whnf) (by first | assumption | first | rfl | (simp only [hgs, if_true]; rfl)) rfl (by first | rfl | omega | exact Nat.le_of_ble_eq_true rfl | (simp (disch := omega) only [sd, sb]; omega) | (simp (disch := omega) [sd] <;> fail) | (simp (disch := omega) [sd]; omega) | (simp [sd, *] <;> fail) | fail) ?_
        | refine X.stp (by conv => lhs; whnf) (by conv => lhs; whnf) (by first | assumption | first | rfl | (simp only [hgs, if_true]; rfl)) rfl (by first | omega | exact Nat.le_of_ble_eq_true rfl) rfl rfl rfl (by first | rfl | omega | exact Nat.le_of_ble_eq_true rfl | (simp (disch := omega) only [sd, sb]; omega) | (simp (disch := omega) [sd] <;> fail) | (simp (disch := omega) [sd]; omega) | (simp [sd, *] <;> fail) | fail) (by first | exact bs_getD (by first | rfl | omega | exact Nat.le_of_ble_eq_true rfl | (simp (disch := omega) only [sd, sb]; omega) | (simp (disch := omega) [sd] <;> fail) | (simp (disch := omega) [sd]; omega) | (simp [sd, *] <;> fail) | fail) | rfl) (by first | rfl | omega | exact Nat.le_of_ble_eq_true rfl | (simp (disch := omega) only [sd, sb]; omega) | (simp (disch := omega) [sd] <;> fail) | (simp (disch := omega) [sd]; omega) | (simp [sd, *] <;> fail) | fail) ?_
        | refine X.ldp (by conv => lhs; whnf) (by first | assumption | first | rfl | (simp only [hgs, if_true]; rfl)) (by first | rfl | omega | exact Nat.le_of_ble_eq_true rfl | (simp (disch := omega) only [sd, sb]; omega) | (simp (disch := omega) [sd] <;> fail) | (simp (disch := omega) [sd]; omega) | (simp [sd, *] <;> fail) | fail) (by first | exact bs_getD (by first | rfl | omega | exact Nat.le_of_ble_eq_true rfl | (simp (disch := omega) only [sd, sb]; omega) | (simp (disch := omega) [sd] <;> fail) | (simp (disch := omega) [sd]; omega) | (simp [sd, *] <;> fail) | fail) | rfl) (by first | rfl | omega | exact Nat.le_of_ble_eq_true rfl | (simp (disch := omega) only [sd, sb]; omega) | (simp (disch := omega) [sd] <;> fail) | (simp (disch := omega) [sd]; omega) | (simp [sd, *] <;> fail) | fail) rfl ?_
        | refine X.len (by conv => lhs; whnf) (by first | rfl | assumption) ?_
        | refine X.condTs rfl (by first | rfl | omega | exact Nat.le_of_ble_eq_true rfl | (simp (disch := omega) only [sd, sb]; omega) | (simp (disch := omega) [sd] <;> fail) | (simp (disch := omega) [sd]; omega) | (simp [sd, *] <;> fail) | fail) ?_
        | refine X.condFs rfl (by first | rfl | omega | exact Nat.le_of_ble_eq_true rfl | (simp (disch := omega) only [sd, sb]; omega) | (simp (disch := omega) [sd] <;> fail) | (simp (disch := omega) [sd]; omega) | (simp [sd, *] <;> fail) | fail) ?_
        | refine X.g1Ts rfl (by first | rfl | omega | exact Nat.le_of_ble_eq_true rfl | (simp (disch := omega) only [sd, sb]; omega) | (simp (disch := omega) [sd] <;> fail) | (simp (disch := omega) [sd]; omega) | (simp [sd, *] <;> fail) | fail) ?_
        | refine X.g1Fs rfl (by first | rfl | omega | exact Nat.le_of_ble_eq_true rfl | (simp (disch := omega) only [sd, sb]; omega) | (simp (disch := omega) [sd] <;> fail) | (simp (disch := omega) [sd]; omega) | (simp [sd, *] <;> fail) | fail) ?_
        | refine X.pickTs rfl (by first | rfl | omega | exact Nat.le_of_ble_eq_true rfl | (simp (disch := omega) only [sd, sb]; omega) | (simp (disch := omega) [sd] <;> fail) | (simp (disch := omega) [sd]; omega) | (simp [sd, *] <;> fail) | fail) (fun _ => rfl) ?_
        | refine X.pickFs rfl (by first | rfl | omega | exact Nat.le_of_ble_eq_true rfl | (simp (disch := omega) only [sd, sb]; omega) | (simp (disch := omega) [sd] <;> fail) | (simp (disch := omega) [sd]; omega) | (simp [sd, *] <;> fail) | fail) (fun _ => rfl) ?_
        | refine X.mov (by conv => lhs; whnf) (by first | rfl | assumption) ?_
        )
      exact X.fin (fun _ => rfl) rfl rfl
  | true =>
    rw [show putL b ty fl s p = b ++ h9 ty fl s p.length ++ p by simp [putL, hr]]
    let E : List (List V) := ((List.replicate 0 [V.it .u8 0] ++ bs b) ++ bs (h9 ty fl s p.length)) ++ bs p
    have hE : E = bs (b ++ h9 ty fl s p.length ++ p) := by simp [E, bs]
    refine EvO.of d11 (ts := [.one]) rfl rfl rfl rfl (id := 3) (i := 0) (len := 0 + (bs b).length + 9 + (bs p).length) (es := E)
      (h := hnew (hset (hnew (hset (hnew (hset (hnew h0 ⟨1, false, List.replicate 0 [V.it .u8 0]⟩) 0 none) ⟨1, false, List.replicate 0 [V.it .u8 0] ++ bs b⟩) 1 none) ⟨1, false, (List.replicate 0 [V.it .u8 0] ++ bs b) ++ bs (h9 ty fl s p.length)⟩) 2 none) ⟨1, false, E⟩) ?_ (by first | rfl | (simp only [hgs, if_true]; rfl)) (Nat.le_of_ble_eq_true rfl) ?_ ?_ (bs_clo _) (by simp [depth, bs_length]; omega)
    · refine X.fn ?_
      repeat (first
        | refine X.lpb ?_
        | refine X.seq ?_
        | refine X.skip ?_
        | refine X.ret ?_
        | refine X.exit ?_
        | refine X.blk ?_
        | refine X.sn ?_
        | refine X.se ?_
        | refine X.sr ?_
        | refine X.bn ?_
        | refine X.br ?_
        | refine X.bh ?_
        | refine X.bm rfl ?_
        | refine X.pn ?_
        | refine X.gn ?_
        | refine X.g0 ?_
        | refine X.ln ?_
        | refine X.finn ?_
        | refine X.reg0 (by conv => lhs; reduce) ?_
        | refine X.reg1 (by conv => lhs; reduce) ?_
        | refine X.gt rfl ?_
        | refine X.iav (by conv => lhs; whnf) (by conv => lhs; whnf) (by first | rfl | omega | exact Nat.le_of_ble_eq_true rfl | (simp (disch := omega) only [sd, sb]; omega) | (simp (disch := omega) [sd] <;> fail) | (simp (disch := omega) [sd]; omega) | (simp [sd, *] <;> fail) | fail) (by first | exact bs_getD (by first | rfl | omega | exact Nat.le_of_ble_eq_true rfl | (simp (disch := omega) only [sd, sb]; omega) | (simp (disch := omega) [sd] <;> fail) | (simp (disch := omega) [sd]; omega) | (simp [sd, *] <;> fail) | fail) | rfl) ?_
        | refine X.o0 (fun _ _ => rfl) ?_
        | refine X.o1 (fun _ _ => rfl) (by first | rfl | omega | exact Nat.le_of_ble_eq_true rfl | (simp (disch := omega) only [sd, sb]; omega) | (simp (disch := omega) [sd] <;> fail) | (simp (disch := omega) [sd]; omega) | (simp [sd, *] <;> fail) | fail) ?_
        | refine X.o2 (fun _ _ => rfl) (by first | rfl | omega | exact Nat.le_of_ble_eq_true rfl | (simp (disch := omega) only [sd, sb]; omega) | (simp (disch := omega) [sd] <;> fail) | (simp (disch := omega) [sd]; omega) | (simp [sd, *] <;> fail) | fail) (by first | rfl | omega | exact Nat.le_of_ble_eq_true rfl | (simp (disch := omega) only [sd, sb]; omega) | (simp (disch := omega) [sd] <;> fail) | (simp (disch := omega) [sd]; omega) | (simp [sd, *] <;> fail) | fail) ?_
        | refine X.o3 (fun _ _ => rfl) (by first | rfl | omega | exact Nat.le_of_ble_eq_true rfl | (simp (disch := omega) only [sd, sb]; omega) | (simp (disch := omega) [sd] <;> fail) | (simp (disch := omega) [sd]; omega) | (simp [sd, *] <;> fail) | fail) (by first | rfl | omega | exact Nat.le_of_ble_eq_true rfl | (simp (disch := omega) only [sd, sb]; omega) | (simp (disch := omega) [sd] <;> fail) | (simp (disch := omega) [sd]; omega) | (simp [sd, *] <;> fail) | fail) (by first | rfl | omega | exact Nat.le_of_ble_eq_true rfl | (simp (disch := omega) only [sd, sb]; omega) | (simp (disch := omega) [sd] <;> fail) | (simp (disch := omega) [sd]; omega) | (simp [sd, *] <;> fail) | fail) ?_
        | refine X.pickT rfl (fun _ => rfl) ?_
        | refine X.pickF rfl (fun _ => rfl) ?_
        | refine X.condT rfl ?_
        | refine X.condF rfl ?_
        | refine X.g1T rfl ?_
        | refine X.g1F rfl ?_
        | refine X.alc rfl ?_
        | refine X.box (by conv => lhs; whnf) rfl rfl ?_
        | refine X.stl (by conv => lhs; whnf) rfl rfl rfl rfl rfl rfl rfl ?_
        | refine X.apf (by conv => lhs; whnf) (by conv => lhs; whnf) (by first | exact Els.vs _ | exact Els.st _ | exact Els.ns) (by first | rfl | (simp only [hgs, if_true]; rfl)) rfl rfl (by first | rfl | omega | exact Nat.le_of_ble_eq_true rfl | (simp (disch := omega) only [sd, sb]; omega) | (simp (disch := omega) [sd] <;> fail) | (simp (disch := omega) [sd]; omega) | (simp [sd, *] <;> fail) | fail) (by first | rfl | omega | exact Nat.le_of_ble_eq_true rfl | (simp (disch := omega) only [sd, sb]; omega) | (simp (disch := omega) [sd] <;> fail) | (simp (disch := omega) [sd]; omega) | (simp [sd, *] <;> fail) | fail) (by conv => lhs; whnf) ?_
        | refine X.bsl rfl (by conv => lhs; whnf) ?_
        | refine X.alh (by conv => lhs; whnf) ?_
        | refine X.bxh (by conv => lhs; whnf) rfl (by conv => lhs; whnf) ?_
        | refine X.mks (by conv => lhs; whnf) (by conv => lhs; whnf) (by first | rfl | omega | exact Nat.le_of_ble_eq_true rfl | (simp (disch := omega) only [sd, sb]; omega) | (simp (disch := omega) [sd] <;> fail) | (simp (disch := omega) [sd]; omega) | (simp [sd, *] <;> fail) | fail) (by first | rfl | omega | exact Nat.le_of_ble_eq_true rfl | (simp (disch := omega) only [sd, sb]; omega) | (simp (disch := omega) [sd] <;> fail) | (simp (disch := omega) [sd]; omega) | (simp [sd, *] <;> fail) | fail) (by first | rfl | omega | exact Nat.le_of_ble_eq_true rfl | (simp (disch := omega) only [sd, sb]; omega) | (simp (disch := omega) [sd] <;> fail) | (simp (disch := omega) [sd]; omega) | (simp [sd, *] <;> fail) | fail) (by decide) (by conv => lhs; whnf) (by first | exact wr_add_nat (by first | rfl | omega | exact Nat.le_of_ble_eq_true rfl | (simp (disch := omega) only [sd, sb]; omega) | (simp (disch := omega) [sd] <;> fail) | (simp (disch := omega) [sd]; omega) | (simp [sd, *] <;> fail) | fail) | (conv => lhs; whnf)) ?_
        | refine X.cpy (by conv => lhs; whnf) (by conv => lhs; whnf) (elems_vs _) (by first | assumption | first | rfl | (simp only [hgs, if_true]; rfl)) rfl rfl (by first | rfl | omega | exact Nat.le_of_ble_eq_true rfl | (simp (disch := omega) only [sd, sb]; omega) | (simp (disch := omega) [sd] <;> fail) | (simp (disch := omega) [sd]; omega) | (simp [sd, *] <;> fail) | fail) (by first | rfl | omega | exact Nat.le_of_ble_eq_true rfl | (simp (disch := omega) only [sd, sb]; omega) | (simp (disch := omega) [sd] <;> fail) | (simp (disch := omega) [sd]; omega) | (simp [sd, *] <;> fail) | fail) ?_
        | refine X.iah (by conv => lhs; whnf) (by conv => lhs; whnf) (by first | assumption | first | rfl | (simp only [hgs, if_true]; rfl)) rfl (by first | rfl | omega | exact Nat.le_of_ble_eq_true rfl | (simp (disch := omega) only [sd, sb]; omega) | (simp (disch := omega) [sd] <;> fail) | (simp (disch := omega) [sd]; omega) | (simp [sd, *] <;> fail) | fail) ?_
        | refine X.stp (by conv => lhs; whnf) (by conv => lhs; whnf) (by first | assumption | first | rfl | (simp only [hgs, if_true]; rfl)) rfl (by first | omega | exact Nat.le_of_ble_eq_true rfl) rfl rfl rfl (by first | rfl | omega | exact Nat.le_of_ble_eq_true rfl | (simp (disch := omega) only [sd, sb]; omega) | (simp (disch := omega) [sd] <;> fail) | (simp (disch := omega) [sd]; omega) | (simp [sd, *] <;> fail) | fail) (by first | exact bs_getD (by first | rfl | omega | exact Nat.le_of_ble_eq_true rfl | (simp (disch := omega) only [sd, sb]; omega) | (simp (disch := omega) [sd] <;> fail) | (simp (disch := omega) [sd]; omega) | (simp [sd, *] <;> fail) | fail) | rfl) (by first | rfl | omega | exact Nat.le_of_ble_eq_true rfl | (simp (disch := omega) only [sd, sb]; omega) | (simp (disch := omega) [sd] <;> fail) | (simp (disch := omega) [sd]; omega) | (simp [sd, *] <;> fail) | fail) ?_
        | refine X.ldp (by conv => lhs; whnf) (by first | assumption | first | rfl | (simp only [hgs, if_true]; rfl)) (by first | rfl | omega | exact Nat.le_of_ble_eq_true rfl | (simp (disch := omega) only [sd, sb]; omega) | (simp (disch := omega) [sd] <;> fail) | (simp (disch := omega) [sd]; omega) | (simp [sd, *] <;> fail) | fail) (by first | exact bs_getD (by first | rfl | omega | exact Nat.le_of_ble_eq_true rfl | (simp (disch := omega) only [sd, sb]; omega) | (simp (disch := omega) [sd] <;> fail) | (simp (disch := omega) [sd]; omega) | (simp [sd, *] <;> fail) | fail) | rfl) (by first | rfl | omega | exact Nat.le_of_ble_eq_true rfl | (simp (disch := omega) only [sd, sb]; omega) | (simp (disch := omega) [sd] <;> fail) | (simp (disch := omega) [sd]; omega) | (simp [sd, *] <;> fail) | fail) rfl ?_
        | refine X.len (by conv => lhs; whnf) (by first | rfl | assumption) ?_
        | refine X.condTs rfl (by first | rfl | omega | exact Nat.le_of_ble_eq_true rfl | (simp (disch := omega) only [sd, sb]; omega) | (simp (disch := omega) [sd] <;> fail) | (simp (disch := omega) [sd]; omega) | (simp [sd, *] <;> fail) | fail) ?_
        | refine X.condFs rfl (by first | rfl | omega | exact Nat.le_of_ble_eq_true rfl | (simp (disch := omega) only [sd, sb]; omega) | (simp (disch := omega) [sd] <;> fail) | (simp (disch := omega) [sd]; omega) | (simp [sd, *] <;> fail) | fail) ?_
        | refine X.g1Ts rfl (by first | rfl | omega | exact Nat.le_of_ble_eq_true rfl | (simp (disch := omega) only [sd, sb]; omega) | (simp (disch := omega) [sd] <;> fail) | (simp (disch := omega) [sd]; omega) | (simp [sd, *] <;> fail) | fail) ?_
        | refine X.g1Fs rfl (by first | rfl | omega | exact Nat.le_of_ble_eq_true rfl | (simp (disch := omega) only [sd, sb]; omega) | (simp (disch := omega) [sd] <;> fail) | (simp (disch := omega) [sd]; omega) | (simp [sd, *] <;> fail) | fail) ?_
        | refine X.pickTs rfl (by first | rfl | omega | exact Nat.le_of_ble_eq_true rfl | (simp (disch := omega) only [sd, sb]; omega) | (simp (disch := omega) [sd] <;> fail) | (simp (disch := omega) [sd]; omega) | (simp [sd, *] <;> fail) | fail) (fun _ => rfl) ?_
        | refine X.pickFs rfl (by first | rfl | omega | exact Nat.le_of_ble_eq_true rfl | (simp (disch := omega) only [sd, sb]; omega) | (simp (disch := omega) [sd] <;> fail) | (simp (disch := omega) [sd]; omega) | (simp [sd, *] <;> fail) | fail) (fun _ => rfl) ?_
        | refine X.mov (by conv => lhs; whnf) (by first | rfl | assumption) ?_
        )
      refine X.pcall (right_ok ty fl s p) (.gs (fr_clo _ _ _ _) (.nil _)) rfl rfl rfl ?_
      rw [hr]
      repeat (first
        | refine X.lpb ?_
        | refine X.seq ?_
        | refine X.skip ?_
        | refine X.ret ?_
        | refine X.exit ?_
        | refine X.blk ?_
        | refine X.sn ?_
        | refine X.se ?_
        | refine X.sr ?_
        | refine X.bn ?_
        | refine X.br ?_
        | refine X.bh ?_
        | refine X.bm rfl ?_
        | refine X.pn ?_
        | refine X.gn ?_
        | refine X.g0 ?_
        | refine X.ln ?_
        | refine X.finn ?_
        | refine X.reg0 (by conv => lhs; reduce) ?_
        | refine X.reg1 (by conv => lhs; reduce) ?_
        | refine X.gt rfl ?_
        | refine X.iav (by conv => lhs; whnf) (by conv => lhs; whnf) (by first | rfl | omega | exact Nat.le_of_ble_eq_true rfl | (simp (disch := omega) only [sd, sb]; omega) | (simp (disch := omega) [sd] <;> fail) | (simp (disch := omega) [sd]; omega) | (simp [sd, *] <;> fail) | fail) (by first | exact bs_getD (by first | rfl | omega | exact Nat.le_of_ble_eq_true rfl | (simp (disch := omega) only [sd, sb]; omega) | (simp (disch := omega) [sd] <;> fail) | (simp (disch := omega) [sd]; omega) | (simp [sd, *] <;> fail) | fail) | rfl) ?_
        | refine X.o0 (fun _ _ => rfl) ?_
        | refine X.o1 (fun _ _ => rfl) (by first | rfl | omega | exact Nat.le_of_ble_eq_true rfl | (simp (disch := omega) only [sd, sb]; omega) | (simp (disch := omega) [sd] <;> fail) | (simp (disch := omega) [sd]; omega) | (simp [sd, *] <;> fail) | fail) ?_
        | refine X.o2 (fun _ _ => rfl) (by first | rfl | omega | exact Nat.le_of_ble_eq_true rfl | (simp (disch := omega) only [sd, sb]; omega) | (simp (disch := omega) [sd] <;> fail) | (simp (disch := omega) [sd]; omega) | (simp [sd, *] <;> fail) | fail) (by first | rfl | omega | exact Nat.le_of_ble_eq_true rfl | (simp (disch := omega) only [sd, sb]; omega) | (simp (disch := omega) [sd] <;> fail) | (simp (disch := omega) [sd]; omega) | (simp [sd, *] <;> fail) | fail) ?_
        | refine X.o3 (fun _ _ => rfl) (by first | rfl | omega | exact Nat.le_of_ble_eq_true rfl | (simp (disch := omega) only [sd, sb]; omega) | (simp (disch := omega) [sd] <;> fail) | (simp (disch := omega) [sd]; omega) | (simp [sd, *] <;> fail) | fail) (by first | rfl | omega | exact Nat.le_of_ble_eq_true rfl | (simp (disch := omega) only [sd, sb]; omega) | (simp (disch := omega) [sd] <;> fail) | (simp (disch := omega) [sd]; omega) | (simp [sd, *] <;> fail) | fail) (by first | rfl | omega | exact Nat.le_of_ble_eq_true rfl | (simp (disch := omega) only [sd, sb]; omega) | (simp (disch := omega) [sd] <;> fail) | (simp (disch := omega) [sd]; omega) | (simp [sd, *] <;> fail) | fail) ?_
        | refine X.pickT rfl (fun _ => rfl) ?_
        | refine X.pickF rfl (fun _ => rfl) ?_
        | refine X.condT rfl ?_
        | refine X.condF rfl ?_
        | refine X.g1T rfl ?_
        | refine X.g1F rfl ?_
        | refine X.alc rfl ?_
        | refine X.box (by conv => lhs; whnf) rfl rfl ?_
        | refine X.stl (by conv => lhs; whnf) rfl rfl rfl rfl rfl rfl rfl ?_
        | refine X.apf (by conv => lhs; whnf) (by conv => lhs; whnf) (by first | exact Els.vs _ | exact Els.st _ | exact Els.ns) (by first | rfl | (simp only [hgs, if_true]; rfl)) rfl rfl (by first | rfl | omega | exact Nat.le_of_ble_eq_true rfl | (simp (disch := omega) only [sd, sb]; omega) | (simp (disch := omega) [sd] <;> fail) | (simp (disch := omega) [sd]; omega) | (simp [sd, *] <;> fail) | fail) (by first | rfl | omega | exact Nat.le_of_ble_eq_true rfl | (simp (disch := omega) only [sd, sb]; omega) | (simp (disch := omega) [sd] <;> fail) | (simp (disch := omega) [sd]; omega) | (simp [sd, *] <;> fail) | fail) (by conv => lhs; whnf) ?_
        | refine X.bsl rfl (by conv => lhs; whnf) ?_
        | refine X.alh (by conv => lhs; whnf) ?_
        | refine X.bxh (by conv => lhs; whnf) rfl (by conv => lhs; whnf) ?_
        | refine X.mks (by conv => lhs; whnf) (by conv => lhs; whnf) (by first | rfl | omega | exact Nat.le_of_ble_eq_true rfl | (simp (disch := omega) only [sd, sb]; omega) | (simp (disch := omega) [sd] <;> fail) | (simp (disch := omega) [sd]; omega) | (simp [sd, *] <;> fail) | fail) (by first | rfl | omega | exact Nat.le_of_ble_eq_true rfl | (simp (disch := omega) only [sd, sb]; omega) | (simp (disch := omega) [sd] <;> fail) | (simp (disch := omega) [sd]; omega) | (simp [sd, *] <;> fail) | fail) (by first | rfl | omega | exact Nat.le_of_ble_eq_true rfl | (simp (disch := omega) only [sd, sb]; omega) | (simp (disch := omega) [sd] <;> fail) | (simp (disch := omega) [sd]; omega) | (simp [sd, *] <;> fail) | fail) (by decide) (by conv => lhs; whnf) (by first | exact wr_add_nat (by first | rfl | omega | exact Nat.le_of_ble_eq_true rfl | (simp (disch := omega) only [sd, sb]; omega) | (simp (disch := omega) [sd] <;> fail) | (simp (disch := omega) [sd]; omega) | (simp [sd, *] <;> fail) | fail) | (conv => lhs; whnf)) ?_
        | refine X.cpy (by conv => lhs; whnf) (by conv => lhs; whnf) (elems_vs _) (by first | assumption | first | rfl | (simp only [hgs, if_true]; rfl)) rfl rfl (by first | rfl | omega | exact Nat.le_of_ble_eq_true rfl | (simp (disch := omega) only [sd, sb]; omega) | (simp (disch := omega) [sd] <;> fail) | (simp (disch := omega) [sd]; omega) | (simp [sd, *] <;> fail) | fail) (by first | rfl | omega | exact Nat.le_of_ble_eq_true rfl | (simp (disch := omega) only [sd, sb]; omega) | (simp (disch := omega) [sd] <;> fail) | (simp (disch := omega) [sd]; omega) | (simp [sd, *] <;> fail) | fail) ?_
        | refine X.iah (by conv => lhs; whnf) (by conv => lhs; whnf) (by first | assumption | first | rfl | (simp only [hgs, if_true]; rfl)) rfl (by first | rfl | omega | exact Nat.le_of_ble_eq_true rfl | (simp (disch := omega) only [sd, sb]; omega) | (simp (disch := omega) [sd] <;> fail) | (simp (disch := omega) [sd]; omega) | (simp [sd, *] <;> fail) | fail) ?_
        | refine X.stp (by conv => lhs; whnf) (by conv => lhs; whnf) (by first | assumption | first | rfl | (simp only [hgs, if_true]; rfl)) rfl (by first | omega | exact Nat.le_of_ble_eq_true rfl) rfl rfl rfl (by first | rfl | omega | exact Nat.le_of_ble_eq_true rfl | (simp (disch := omega) only [sd, sb]; omega) | (simp (disch := omega) [sd] <;> fail) | (simp (disch := omega) [sd]; omega) | (simp [sd, *] <;> fail) | fail) (by first | exact bs_getD (by first | rfl | omega | exact Nat.le_of_ble_eq_true rfl | (simp (disch := omega) only [sd, sb]; omega) | (simp (disch := omega) [sd] <;> fail) | (simp (disch := omega) [sd]; omega) | (simp [sd, *] <;> fail) | fail) | rfl) (by first | rfl | omega | exact Nat.le_of_ble_eq_true rfl | (simp (disch := omega) only [sd, sb]; omega) | (simp (disch := omega) [sd] <;> fail) | (simp (disch := omega) [sd]; omega) | (simp [sd, *] <;> fail) | fail) ?_
        | refine X.ldp (by conv => lhs; whnf) (by first | assumption | first | rfl | (simp only [hgs, if_true]; rfl)) (by first | rfl | omega | exact Nat.le_of_ble_eq_true rfl | (simp (disch := omega) only [sd, sb]; omega) | (simp (disch := omega) [sd] <;> fail) | (simp (disch := omega) [sd]; omega) | (simp [sd, *] <;> fail) | fail) (by first | exact bs_getD (by first | rfl | omega | exact Nat.le_of_ble_eq_true rfl | (simp (disch := omega) only [sd, sb]; omega) | (simp (disch := omega) [sd] <;> fail) | (simp (disch := omega) [sd]; omega) | (simp [sd, *] <;> fail) | fail) | rfl) (by first | rfl | omega | exact Nat.le_of_ble_eq_true rfl | (simp (disch := omega) only [sd, sb]; omega) | (simp (disch := omega) [sd] <;> fail) | (simp (disch := omega) [sd]; omega) | (simp [sd, *] <;> fail) | fail) rfl ?_
        | refine X.len (by conv => lhs; whnf) (by first | rfl | assumption) ?_
        | refine X.condTs rfl (by first | rfl | omega | exact Nat.le_of_ble_eq_true rfl | (simp (disch := omega) only [sd, sb]; omega) | (simp (disch := omega) [sd] <;> fail) | (simp (disch := omega) [sd]; omega) | (simp [sd, *] <;> fail) | fail) ?_
        | refine X.condFs rfl (by first | rfl | omega | exact Nat.le_of_ble_eq_true rfl | (simp (disch := omega) only [sd, sb]; omega) | (simp (disch := omega) [sd] <;> fail) | (simp (disch := omega) [sd]; omega) | (simp [sd, *] <;> fail) | fail) ?_
        | refine X.g1Ts rfl (by first | rfl | omega | exact Nat.le_of_ble_eq_true rfl | (simp (disch := omega) only [sd, sb]; omega) | (simp (disch := omega) [sd] <;> fail) | (simp (disch := omega) [sd]; omega) | (simp [sd, *] <;> fail) | fail) ?_
        | refine X.g1Fs rfl (by first | rfl | omega | exact Nat.le_of_ble_eq_true rfl | (simp (disch := omega) only [sd, sb]; omega) | (simp (disch := omega) [sd] <;> fail) | (simp (disch := omega) [sd]; omega) | (simp [sd, *] <;> fail) | fail) ?_
        | refine X.pickTs rfl (by first | rfl | omega | exact Nat.le_of_ble_eq_true rfl | (simp (disch := omega) only [sd, sb]; omega) | (simp (disch := omega) [sd] <;> fail) | (simp (disch := omega) [sd]; omega) | (simp [sd, *] <;> fail) | fail) (fun _ => rfl) ?_
        | refine X.pickFs rfl (by first | rfl | omega | exact Nat.le_of_ble_eq_true rfl | (simp (disch := omega) only [sd, sb]; omega) | (simp (disch := omega) [sd] <;> fail) | (simp (disch := omega) [sd]; omega) | (simp [sd, *] <;> fail) | fail) (fun _ => rfl) ?_
        | refine X.mov (by conv => lhs; whnf) (by first | rfl | assumption) ?_
        )
      refine X.fin (fun _ => rfl) rfl ?_
      have e : bs (h9 ty fl s p.length) = [[V.it IntKind.u8 (wr IntKind.u8 ((Int.ofNat (bs p).length).fdiv (Int.ofNat 65536)))], [V.it IntKind.u8 (wr IntKind.u8 ((Int.ofNat (bs p).length).fdiv (Int.ofNat 256)))], [V.it IntKind.u8 (wr IntKind.u8 (Int.ofNat (bs p).length))],
          [V.it IntKind.u8 (wr IntKind.u8 ty)], [V.it IntKind.u8 (wr IntKind.u8 fl)], [V.it IntKind.u8 (wr IntKind.u8 (s.fdiv (Int.ofNat 16777216)))], [V.it IntKind.u8 (wr IntKind.u8 (s.fdiv (Int.ofNat 65536)))],
          [V.it IntKind.u8 (wr IntKind.u8 (s.fdiv (Int.ofNat 256)))], [V.it IntKind.u8 (wr IntKind.u8 s)]] := by
        simp [bs, h9, wr8m, Int.fdiv_eq_ediv_of_nonneg]
      simp only [E, e]
      rfl
    · rw [hE]; simp [bs_length, h9]; omega
    · rw [hE, List.drop_zero]; apply List.take_of_length_le; simp [bs_length, h9]; omega
end Go.Proofs.Ytgofadnggipkpaa
