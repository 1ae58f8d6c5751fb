import Derived.Test.YtgofadnggipkpaaPuts
set_option linter.unusedVariables false
set_option linter.unusedSimpArgs false
namespace Go.Proofs.Ytgofadnggipkpaa
open Go hiding Fn
open Ev tab
attribute [local irreducible] EvD EvL EvC evGds evLs C.run sK bK gK pK fK lpB stepD

theorem puts_run (b : List Int) (ty fl s : Int) (p : List Int) (hb : b.length ≤ 2000000) : ∃ h, EvD F (stepD d4 [.vs 1 (bs b), .ag (fr ty fl s p)] h0) (Rt (.bo true) h) := by
  refine ⟨h0, ?_⟩
  have hcut : (cut p).length ≤ 300 := by simp [cut]; omega
  refine X.fn ?_
  repeat (first
    | refine X.lpb ?_
    | refine X.seq ?_
    | refine X.skip ?_
    | refine X.ret ?_
    | refine X.exit ?_
    | refine X.blk ?_
    | refine X.sn ?_
    | refine X.se ?_
    | refine X.sr ?_
    | refine X.bn ?_
    | refine X.br ?_
    | refine X.bh ?_
    | refine X.bm rfl ?_
    | refine X.pn ?_
    | refine X.gn ?_
    | refine X.g0 ?_
    | refine X.ln ?_
    | refine X.finn ?_
    | refine X.reg0 (by conv => lhs; reduce) ?_
    | refine X.reg1 (by conv => lhs; reduce) ?_
    | refine X.gt rfl ?_
    | refine X.iav (by conv => lhs; whnf) (by conv => lhs; whnf) (by first | rfl | omega | exact Nat.le_of_ble_eq_true rfl | (simp (disch := omega) only [sd, sb]; omega) | (simp (disch := omega) [sd] <;> fail) | (simp (disch := omega) [sd]; omega) | (simp [sd, *] <;> fail) | fail) (by first | exact bs_getD (by first | rfl | omega | exact Nat.le_of_ble_eq_true rfl | (simp (disch := omega) only [sd, sb]; omega) | (simp (disch := omega) [sd] <;> fail) | (simp (disch := omega) [sd]; omega) | (simp [sd, *] <;> fail) | fail) | rfl) ?_
    | refine X.o0 (fun _ _ => rfl) ?_
    | refine X.o1 (fun _ _ => rfl) (by first | rfl | omega | exact Nat.le_of_ble_eq_true rfl | (simp (disch := omega) only [sd, sb]; omega) | (simp (disch := omega) [sd] <;> fail) | (simp (disch := omega) [sd]; omega) | (simp [sd, *] <;> fail) | fail) ?_
    | refine X.o2 (fun _ _ => rfl) (by first | rfl | omega | exact Nat.le_of_ble_eq_true rfl | (simp (disch := omega) only [sd, sb]; omega) | (simp (disch := omega) [sd] <;> fail) | (simp (disch := omega) [sd]; omega) | (simp [sd, *] <;> fail) | fail) (by first | rfl | omega | exact Nat.le_of_ble_eq_true rfl | (simp (disch := omega) only [sd, sb]; omega) | (simp (disch := omega) [sd] <;> fail) | (simp (disch := omega) [sd]; omega) | (simp [sd, *] <;> fail) | fail) ?_
    | refine X.o3 (fun _ _ => rfl) (by first | rfl | omega | exact Nat.le_of_ble_eq_true rfl | (simp (disch := omega) only [sd, sb]; omega) | (simp (disch := omega) [sd] <;> fail) | (simp (disch := omega) [sd]; omega) | (simp [sd, *] <;> fail) | fail) (by first | rfl | omega | exact Nat.le_of_ble_eq_true rfl | (simp (disch := omega) only [sd, sb]; omega) | (simp (disch := omega) [sd] <;> fail) | (simp (disch := omega) [sd]; omega) | (simp [sd, *] <;> fail) | fail) (by first | rfl | omega | exact Nat.le_of_ble_eq_true rfl | (simp (disch := omega) only [sd, sb]; omega) | (simp (disch := omega) [sd] <;> fail) | (simp (disch := omega) [sd]; omega) | (simp [sd, *] <;> fail) | fail) ?_
    | refine X.pickT rfl (fun _ => rfl) ?_
    | refine X.pickF rfl (fun _ => rfl) ?_
    | refine X.condT rfl ?_
    | refine X.condF rfl ?_
    | refine X.g1T rfl ?_
    | refine X.g1F rfl ?_
    | refine X.alc rfl ?_
    | refine X.box (by conv => lhs; whnf) rfl rfl ?_
    | refine X.stl (by conv => lhs; whnf) rfl rfl rfl rfl rfl rfl rfl ?_
    | refine X.apf (by conv => lhs; whnf) (by conv => lhs; whnf) (by first | exact Els.vs _ | exact Els.st _ | exact Els.ns) (by first | rfl | (simp only [hgs, if_true]; rfl)) rfl rfl (by first | rfl | omega | exact Nat.le_of_ble_eq_true rfl | (simp (disch := omega) only [sd, sb]; omega) | (simp (disch := omega) [sd] <;> fail) | (simp (disch := omega) [sd]; omega) | (simp [sd, *] <;> fail) | fail) (by first | rfl | omega | exact Nat.le_of_ble_eq_true rfl | (simp (disch := omega) only [sd, sb]; omega) | (simp (disch := omega) [sd] <;> fail) | (simp (disch := omega) [sd]; omega) | (simp [sd, *] <;> fail) | fail) (by conv => lhs; whnf) ?_
    | refine X.bsl rfl (by conv => lhs; whnf) ?_
    | refine X.alh (by conv => lhs; whnf) ?_
    | refine X.bxh (by conv => lhs; whnf) rfl (by conv => lhs; whnf) ?_
    | refine X.mks (by conv => lhs; whnf) (by conv => lhs; whnf) (by first | rfl | omega | exact Nat.le_of_ble_eq_true rfl | (simp (disch := omega) only [sd, sb]; omega) | (simp (disch := omega) [sd] <;> fail) | (simp (disch := omega) [sd]; omega) | (simp [sd, *] <;> fail) | fail) (by first | rfl | omega | exact Nat.le_of_ble_eq_true rfl | (simp (disch := omega) only [sd, sb]; omega) | (simp (disch := omega) [sd] <;> fail) | (simp (disch := omega) [sd]; omega) | (simp [sd, *] <;> fail) | fail) (by first | rfl | omega | exact Nat.le_of_ble_eq_true rfl | (simp (disch := omega) only [sd, sb]; omega) | (simp (disch := omega) [sd] <;> fail) | (simp (disch := omega) [sd]; omega) | (simp [sd, *] <;> fail) | fail) (by decide) (by conv => lhs; whnf) (by first | exact wr_add_nat (by first | rfl | omega | exact Nat.le_of_ble_eq_true rfl | (simp (disch := omega) only [sd, sb]; omega) | (simp (disch := omega) [sd] <;> fail) | (simp (disch := omega) [sd]; omega) | (simp [sd, *] <;> fail) | fail) | (conv => lhs; whnf)) ?_
    | refine X.cpy (by conv => lhs; whnf) (by conv => lhs; whnf) (elems_vs _) (by first | assumption | first | rfl | (simp only [hgs, if_true]; rfl)) rfl rfl (by first | rfl | omega | exact Nat.le_of_ble_eq_true rfl | (simp (disch := omega) only [sd, sb]; omega) | (simp (disch := omega) [sd] <;> fail) | (simp (disch := omega) [sd]; omega) | (simp [sd, *] <;> fail) | fail) (by first | rfl | omega | exact Nat.le_of_ble_eq_true rfl | (simp (disch := omega) only [sd, sb]; omega) | (simp (disch := omega) [sd] <;> fail) | (simp (disch := omega) [sd]; omega) | (simp [sd, *] <;> fail) | fail) ?_
    | refine X.iah (by conv => lhs; whnf) (by conv => lhs; whnf) (by first | assumption | first | rfl | (simp only [hgs, if_true]; rfl)) rfl (by first | rfl | omega | exact Nat.le_of_ble_eq_true rfl | (simp (disch := omega) only [sd, sb]; omega) | (simp (disch := omega) [sd] <;> fail) | (simp (disch := omega) [sd]; omega) | (simp [sd, *] <;> fail) | fail) ?_
    | refine X.stp (by conv => lhs; whnf) (by conv => lhs; whnf) (by first | assumption | first | rfl | (simp only [hgs, if_true]; rfl)) rfl (by first | omega | exact Nat.le_of_ble_eq_true rfl) rfl rfl rfl (by first | rfl | omega | exact Nat.le_of_ble_eq_true rfl | (simp (disch := omega) only [sd, sb]; omega) | (simp (disch := omega) [sd] <;> fail) | (simp (disch := omega) [sd]; omega) | (simp [sd, *] <;> fail) | fail) (by first | exact bs_getD (by first | rfl | omega | exact Nat.le_of_ble_eq_true rfl | (simp (disch := omega) only [sd, sb]; omega) | (simp (disch := omega) [sd] <;> fail) | (simp (disch := omega) [sd]; omega) | (simp [sd, *] <;> fail) | fail) | rfl) (by first | rfl | omega | exact Nat.le_of_ble_eq_true rfl | (simp (disch := omega) only [sd, sb]; omega) | (simp (disch := omega) [sd] <;> fail) | (simp (disch := omega) [sd]; omega) | (simp [sd, *] <;> fail) | fail) ?_
    | refine X.ldp (by conv => lhs; whnf) (by first | assumption | first | rfl | (simp only [hgs, if_true]; rfl)) (by first | rfl | omega | exact Nat.le_of_ble_eq_true rfl | (simp (disch := omega) only [sd, sb]; omega) | (simp (disch := omega) [sd] <;> fail) | (simp (disch := omega) [sd]; omega) | (simp [sd, *] <;> fail) | fail) (by first | exact bs_getD (by first | rfl | omega | exact Nat.le_of_ble_eq_true rfl | (simp (disch := omega) only [sd, sb]; omega) | (simp (disch := omega) [sd] <;> fail) | (simp (disch := omega) [sd]; omega) | (simp [sd, *] <;> fail) | fail) | rfl) (by first | rfl | omega | exact Nat.le_of_ble_eq_true rfl | (simp (disch := omega) only [sd, sb]; omega) | (simp (disch := omega) [sd] <;> fail) | (simp (disch := omega) [sd]; omega) | (simp [sd, *] <;> fail) | fail) rfl ?_
    | refine X.len (by conv => lhs; whnf) (by first | rfl | assumption) ?_
    | refine X.condTs rfl (by first | rfl | omega | exact Nat.le_of_ble_eq_true rfl | (simp (disch := omega) only [sd, sb]; omega) | (simp (disch := omega) [sd] <;> fail) | (simp (disch := omega) [sd]; omega) | (simp [sd, *] <;> fail) | fail) ?_
    | refine X.condFs rfl (by first | rfl | omega | exact Nat.le_of_ble_eq_true rfl | (simp (disch := omega) only [sd, sb]; omega) | (simp (disch := omega) [sd] <;> fail) | (simp (disch := omega) [sd]; omega) | (simp [sd, *] <;> fail) | fail) ?_
    | refine X.g1Ts rfl (by first | rfl | omega | exact Nat.le_of_ble_eq_true rfl | (simp (disch := omega) only [sd, sb]; omega) | (simp (disch := omega) [sd] <;> fail) | (simp (disch := omega) [sd]; omega) | (simp [sd, *] <;> fail) | fail) ?_
    | refine X.g1Fs rfl (by first | rfl | omega | exact Nat.le_of_ble_eq_true rfl | (simp (disch := omega) only [sd, sb]; omega) | (simp (disch := omega) [sd] <;> fail) | (simp (disch := omega) [sd]; omega) | (simp [sd, *] <;> fail) | fail) ?_
    | refine X.pickTs rfl (by first | rfl | omega | exact Nat.le_of_ble_eq_true rfl | (simp (disch := omega) only [sd, sb]; omega) | (simp (disch := omega) [sd] <;> fail) | (simp (disch := omega) [sd]; omega) | (simp [sd, *] <;> fail) | fail) (fun _ => rfl) ?_
    | refine X.pickFs rfl (by first | rfl | omega | exact Nat.le_of_ble_eq_true rfl | (simp (disch := omega) only [sd, sb]; omega) | (simp (disch := omega) [sd] <;> fail) | (simp (disch := omega) [sd]; omega) | (simp [sd, *] <;> fail) | fail) (fun _ => rfl) ?_
    | refine X.mov (by conv => lhs; whnf) (by first | rfl | assumption) ?_
    )
  refine X.pcall (light_ok ty fl s p) (.gs (fr_clo _ _ _ _) (.nil _)) rfl rfl rfl ?_
  generalize cut p = q at *
  have eb : ((bs (b ++ List.replicate 80 7)).drop 0).take (bs b).length = bs b := by rw [List.drop_zero, bs_take, bs_length, List.take_left]
  have eq : ((bs (q ++ List.replicate 80 8)).drop 0).take (bs q).length = bs q := by rw [List.drop_zero, bs_take, bs_length, List.take_left]
  repeat (first
    | refine X.lpb ?_
    | refine X.seq ?_
    | refine X.skip ?_
    | refine X.ret ?_
    | refine X.exit ?_
    | refine X.blk ?_
    | refine X.sn ?_
    | refine X.se ?_
    | refine X.sr ?_
    | refine X.bn ?_
    | refine X.br ?_
    | refine X.bh ?_
    | refine X.bm rfl ?_
    | refine X.pn ?_
    | refine X.gn ?_
    | refine X.g0 ?_
    | refine X.ln ?_
    | refine X.finn ?_
    | refine X.reg0 (by conv => lhs; reduce) ?_
    | refine X.reg1 (by conv => lhs; reduce) ?_
    | refine X.gt rfl ?_
    | refine X.iav (by conv => lhs; whnf) (by conv => lhs; whnf) (by first | rfl | omega | exact Nat.le_of_ble_eq_true rfl | (simp (disch := omega) only [sd, sb]; omega) | (simp (disch := omega) [sd] <;> fail) | (simp (disch := omega) [sd]; omega) | (simp [sd, *] <;> fail) | fail) (by first | exact bs_getD (by first | rfl | omega | exact Nat.le_of_ble_eq_true rfl | (simp (disch := omega) only [sd, sb]; omega) | (simp (disch := omega) [sd] <;> fail) | (simp (disch := omega) [sd]; omega) | (simp [sd, *] <;> fail) | fail) | rfl) ?_
    | refine X.o0 (fun _ _ => rfl) ?_
    | refine X.o1 (fun _ _ => rfl) (by first | rfl | omega | exact Nat.le_of_ble_eq_true rfl | (simp (disch := omega) only [sd, sb]; omega) | (simp (disch := omega) [sd] <;> fail) | (simp (disch := omega) [sd]; omega) | (simp [sd, *] <;> fail) | fail) ?_
    | refine X.o2 (fun _ _ => rfl) (by first | rfl | omega | exact Nat.le_of_ble_eq_true rfl | (simp (disch := omega) only [sd, sb]; omega) | (simp (disch := omega) [sd] <;> fail) | (simp (disch := omega) [sd]; omega) | (simp [sd, *] <;> fail) | fail) (by first | rfl | omega | exact Nat.le_of_ble_eq_true rfl | (simp (disch := omega) only [sd, sb]; omega) | (simp (disch := omega) [sd] <;> fail) | (simp (disch := omega) [sd]; omega) | (simp [sd, *] <;> fail) | fail) ?_
    | refine X.o3 (fun _ _ => rfl) (by first | rfl | omega | exact Nat.le_of_ble_eq_true rfl | (simp (disch := omega) only [sd, sb]; omega) | (simp (disch := omega) [sd] <;> fail) | (simp (disch := omega) [sd]; omega) | (simp [sd, *] <;> fail) | fail) (by first | rfl | omega | exact Nat.le_of_ble_eq_true rfl | (simp (disch := omega) only [sd, sb]; omega) | (simp (disch := omega) [sd] <;> fail) | (simp (disch := omega) [sd]; omega) | (simp [sd, *] <;> fail) | fail) (by first | rfl | omega | exact Nat.le_of_ble_eq_true rfl | (simp (disch := omega) only [sd, sb]; omega) | (simp (disch := omega) [sd] <;> fail) | (simp (disch := omega) [sd]; omega) | (simp [sd, *] <;> fail) | fail) ?_
    | refine X.pickT rfl (fun _ => rfl) ?_
    | refine X.pickF rfl (fun _ => rfl) ?_
    | refine X.condT rfl ?_
    | refine X.condF rfl ?_
    | refine X.g1T rfl ?_
    | refine X.g1F rfl ?_
    | refine X.alc rfl ?_
    | refine X.box (by conv => lhs; whnf) rfl rfl ?_
    | refine X.stl (by conv => lhs; whnf) rfl rfl rfl rfl rfl rfl rfl ?_
    | refine X.apf (by conv => lhs; whnf) (by conv => lhs; whnf) (by first | exact Els.vs _ | exact Els.st _ | exact Els.ns) (by first | rfl | (simp only [hgs, if_true]; rfl)) rfl rfl (by first | rfl | omega | exact Nat.le_of_ble_eq_true rfl | (simp (disch := omega) only [sd, sb]; omega) | (simp (disch := omega) [sd] <;> fail) | (simp (disch := omega) [sd]; omega) | (simp [sd, *] <;> fail) | fail) (by first | rfl | omega | exact Nat.le_of_ble_eq_true rfl | (simp (disch := omega) only [sd, sb]; omega) | (simp (disch := omega) [sd] <;> fail) | (simp (disch := omega) [sd]; omega) | (simp [sd, *] <;> fail) | fail) (by conv => lhs; whnf) ?_
    | refine X.bsl rfl (by conv => lhs; whnf) ?_
    | refine X.alh (by conv => lhs; whnf) ?_
    | refine X.bxh (by conv => lhs; whnf) rfl (by conv => lhs; whnf) ?_
    | refine X.mks (by conv => lhs; whnf) (by conv => lhs; whnf) (by first | rfl | omega | exact Nat.le_of_ble_eq_true rfl | (simp (disch := omega) only [sd, sb]; omega) | (simp (disch := omega) [sd] <;> fail) | (simp (disch := omega) [sd]; omega) | (simp [sd, *] <;> fail) | fail) (by first | rfl | omega | exact Nat.le_of_ble_eq_true rfl | (simp (disch := omega) only [sd, sb]; omega) | (simp (disch := omega) [sd] <;> fail) | (simp (disch := omega) [sd]; omega) | (simp [sd, *] <;> fail) | fail) (by first | rfl | omega | exact Nat.le_of_ble_eq_true rfl | (simp (disch := omega) only [sd, sb]; omega) | (simp (disch := omega) [sd] <;> fail) | (simp (disch := omega) [sd]; omega) | (simp [sd, *] <;> fail) | fail) (by decide) (by conv => lhs; whnf) (by first | exact wr_add_nat (by first | rfl | omega | exact Nat.le_of_ble_eq_true rfl | (simp (disch := omega) only [sd, sb]; omega) | (simp (disch := omega) [sd] <;> fail) | (simp (disch := omega) [sd]; omega) | (simp [sd, *] <;> fail) | fail) | (conv => lhs; whnf)) ?_
    | refine X.cpy (by conv => lhs; whnf) (by conv => lhs; whnf) (elems_vs _) (by first | assumption | first | rfl | (simp only [hgs, if_true]; rfl)) rfl rfl (by first | rfl | omega | exact Nat.le_of_ble_eq_true rfl | (simp (disch := omega) only [sd, sb]; omega) | (simp (disch := omega) [sd] <;> fail) | (simp (disch := omega) [sd]; omega) | (simp [sd, *] <;> fail) | fail) (by first | rfl | omega | exact Nat.le_of_ble_eq_true rfl | (simp (disch := omega) only [sd, sb]; omega) | (simp (disch := omega) [sd] <;> fail) | (simp (disch := omega) [sd]; omega) | (simp [sd, *] <;> fail) | fail) ?_
    | refine X.iah (by conv => lhs; whnf) (by conv => lhs; whnf) (by first | assumption | first | rfl | (simp only [hgs, if_true]; rfl)) rfl (by first | rfl | omega | exact Nat.le_of_ble_eq_true rfl | (simp (disch := omega) only [sd, sb]; omega) | (simp (disch := omega) [sd] <;> fail) | (simp (disch := omega) [sd]; omega) | (simp [sd, *] <;> fail) | fail) ?_
    | refine X.stp (by conv => lhs; whnf) (by conv => lhs; whnf) (by first | assumption | first | rfl | (simp only [hgs, if_true]; rfl)) rfl (by first | omega | exact Nat.le_of_ble_eq_true rfl) rfl rfl rfl (by first | rfl | omega | exact Nat.le_of_ble_eq_true rfl | (simp (disch := omega) only [sd, sb]; omega) | (simp (disch := omega) [sd] <;> fail) | (simp (disch := omega) [sd]; omega) | (simp [sd, *] <;> fail) | fail) (by first | exact bs_getD (by first | rfl | omega | exact Nat.le_of_ble_eq_true rfl | (simp (disch := omega) only [sd, sb]; omega) | (simp (disch := omega) [sd] <;> fail) | (simp (disch := omega) [sd]; omega) | (simp [sd, *] <;> fail) | fail) | rfl) (by first | rfl | omega | exact Nat.le_of_ble_eq_true rfl | (simp (disch := omega) only [sd, sb]; omega) | (simp (disch := omega) [sd] <;> fail) | (simp (disch := omega) [sd]; omega) | (simp [sd, *] <;> fail) | fail) ?_
    | refine X.ldp (by conv => lhs; whnf) (by first | assumption | first | rfl | (simp only [hgs, if_true]; rfl)) (by first | rfl | omega | exact Nat.le_of_ble_eq_true rfl | (simp (disch := omega) only [sd, sb]; omega) | (simp (disch := omega) [sd] <;> fail) | (simp (disch := omega) [sd]; omega) | (simp [sd, *] <;> fail) | fail) (by first | exact bs_getD (by first | rfl | omega | exact Nat.le_of_ble_eq_true rfl | (simp (disch := omega) only [sd, sb]; omega) | (simp (disch := omega) [sd] <;> fail) | (simp (disch := omega) [sd]; omega) | (simp [sd, *] <;> fail) | fail) | rfl) (by first | rfl | omega | exact Nat.le_of_ble_eq_true rfl | (simp (disch := omega) only [sd, sb]; omega) | (simp (disch := omega) [sd] <;> fail) | (simp (disch := omega) [sd]; omega) | (simp [sd, *] <;> fail) | fail) rfl ?_
    | refine X.len (by conv => lhs; whnf) (by first | rfl | assumption) ?_
    | refine X.condTs rfl (by first | rfl | omega | exact Nat.le_of_ble_eq_true rfl | (simp (disch := omega) only [sd, sb]; omega) | (simp (disch := omega) [sd] <;> fail) | (simp (disch := omega) [sd]; omega) | (simp [sd, *] <;> fail) | fail) ?_
    | refine X.condFs rfl (by first | rfl | omega | exact Nat.le_of_ble_eq_true rfl | (simp (disch := omega) only [sd, sb]; omega) | (simp (disch := omega) [sd] <;> fail) | (simp (disch := omega) [sd]; omega) | (simp [sd, *] <;> fail) | fail) ?_
    | refine X.g1Ts rfl (by first | rfl | omega | exact Nat.le_of_ble_eq_true rfl | (simp (disch := omega) only [sd, sb]; omega) | (simp (disch := omega) [sd] <;> fail) | (simp (disch := omega) [sd]; omega) | (simp [sd, *] <;> fail) | fail) ?_
    | refine X.g1Fs rfl (by first | rfl | omega | exact Nat.le_of_ble_eq_true rfl | (simp (disch := omega) only [sd, sb]; omega) | (simp (disch := omega) [sd] <;> fail) | (simp (disch := omega) [sd]; omega) | (simp [sd, *] <;> fail) | fail) ?_
    | refine X.pickTs rfl (by first | rfl | omega | exact Nat.le_of_ble_eq_true rfl | (simp (disch := omega) only [sd, sb]; omega) | (simp (disch := omega) [sd] <;> fail) | (simp (disch := omega) [sd]; omega) | (simp [sd, *] <;> fail) | fail) (fun _ => rfl) ?_
    | refine X.pickFs rfl (by first | rfl | omega | exact Nat.le_of_ble_eq_true rfl | (simp (disch := omega) only [sd, sb]; omega) | (simp (disch := omega) [sd] <;> fail) | (simp (disch := omega) [sd]; omega) | (simp [sd, *] <;> fail) | fail) (fun _ => rfl) ?_
    | refine X.mov (by conv => lhs; whnf) (by first | rfl | assumption) ?_
    )
  refine X.pcall (roomy_ok b 7 (by omega)).toP (.s (clo_vs [.one] _) (.s (clo_it _ _) (.nil _))) rfl rfl rfl ?_
  repeat (first
    | refine X.lpb ?_
    | refine X.seq ?_
    | refine X.skip ?_
    | refine X.ret ?_
    | refine X.exit ?_
    | refine X.blk ?_
    | refine X.sn ?_
    | refine X.se ?_
    | refine X.sr ?_
    | refine X.bn ?_
    | refine X.br ?_
    | refine X.bh ?_
    | refine X.bm rfl ?_
    | refine X.pn ?_
    | refine X.gn ?_
    | refine X.g0 ?_
    | refine X.ln ?_
    | refine X.finn ?_
    | refine X.reg0 (by conv => lhs; reduce) ?_
    | refine X.reg1 (by conv => lhs; reduce) ?_
    | refine X.gt rfl ?_
    | refine X.iav (by conv => lhs; whnf) (by conv => lhs; whnf) (by first | rfl | omega | exact Nat.le_of_ble_eq_true rfl | (simp (disch := omega) only [sd, sb]; omega) | (simp (disch := omega) [sd] <;> fail) | (simp (disch := omega) [sd]; omega) | (simp [sd, *] <;> fail) | fail) (by first | exact bs_getD (by first | rfl | omega | exact Nat.le_of_ble_eq_true rfl | (simp (disch := omega) only [sd, sb]; omega) | (simp (disch := omega) [sd] <;> fail) | (simp (disch := omega) [sd]; omega) | (simp [sd, *] <;> fail) | fail) | rfl) ?_
    | refine X.o0 (fun _ _ => rfl) ?_
    | refine X.o1 (fun _ _ => rfl) (by first | rfl | omega | exact Nat.le_of_ble_eq_true rfl | (simp (disch := omega) only [sd, sb]; omega) | (simp (disch := omega) [sd] <;> fail) | (simp (disch := omega) [sd]; omega) | (simp [sd, *] <;> fail) | fail) ?_
    | refine X.o2 (fun _ _ => rfl) (by first | rfl | omega | exact Nat.le_of_ble_eq_true rfl | (simp (disch := omega) only [sd, sb]; omega) | (simp (disch := omega) [sd] <;> fail) | (simp (disch := omega) [sd]; omega) | (simp [sd, *] <;> fail) | fail) (by first | rfl | omega | exact Nat.le_of_ble_eq_true rfl | (simp (disch := omega) only [sd, sb]; omega) | (simp (disch := omega) [sd] <;> fail) | (simp (disch := omega) [sd]; omega) | (simp [sd, *] <;> fail) | fail) ?_
    | refine X.o3 (fun _ _ => rfl) (by first | rfl | omega | exact Nat.le_of_ble_eq_true rfl | (simp (disch := omega) only [sd, sb]; omega) | (simp (disch := omega) [sd] <;> fail) | (simp (disch := omega) [sd]; omega) | (simp [sd, *] <;> fail) | fail) (by first | rfl | omega | exact Nat.le_of_ble_eq_true rfl | (simp (disch := omega) only [sd, sb]; omega) | (simp (disch := omega) [sd] <;> fail) | (simp (disch := omega) [sd]; omega) | (simp [sd, *] <;> fail) | fail) (by first | rfl | omega | exact Nat.le_of_ble_eq_true rfl | (simp (disch := omega) only [sd, sb]; omega) | (simp (disch := omega) [sd] <;> fail) | (simp (disch := omega) [sd]; omega) | (simp [sd, *] <;> fail) | fail) ?_
    | refine X.pickT rfl (fun _ => rfl) ?_
    | refine X.pickF rfl (fun _ => rfl) ?_
    | refine X.condT rfl ?_
    | refine X.condF rfl ?_
    | refine X.g1T rfl ?_
    | refine X.g1F rfl ?_
    | refine X.alc rfl ?_
    | refine X.box (by conv => lhs; whnf) rfl rfl ?_
    | refine X.stl (by conv => lhs; whnf) rfl rfl rfl rfl rfl rfl rfl ?_
    | refine X.apf (by conv => lhs; whnf) (by conv => lhs; whnf) (by first | exact Els.vs _ | exact Els.st _ | exact Els.ns) (by first | rfl | (simp only [hgs, if_true]; rfl)) rfl rfl (by first | rfl | omega | exact Nat.le_of_ble_eq_true rfl | (simp (disch := omega) only [sd, sb]; omega) | (simp (disch := omega) [sd] <;> fail) | (simp (disch := omega) [sd]; omega) | (simp [sd, *] <;> fail) | fail) (by first | rfl | omega | exact Nat.le_of_ble_eq_true rfl | (simp (disch := omega) only [sd, sb]; omega) | (simp (disch := omega) [sd] <;> fail) | (simp (disch := omega) [sd]; omega) | (simp [sd, *] <;> fail) | fail) (by conv => lhs; whnf) ?_
    | refine X.bsl rfl (by conv => lhs; whnf) ?_
    | refine X.alh (by conv => lhs; whnf) ?_
    | refine X.bxh (by conv => lhs; whnf) rfl (by conv => lhs; whnf) ?_
    | refine X.mks (by conv => lhs; whnf) (by conv => lhs; whnf) (by first | rfl | omega | exact Nat.le_of_ble_eq_true rfl | (simp (disch := omega) only [sd, sb]; omega) | (simp (disch := omega) [sd] <;> fail) | (simp (disch := omega) [sd]; omega) | (simp [sd, *] <;> fail) | fail) (by first | rfl | omega | exact Nat.le_of_ble_eq_true rfl | (simp (disch := omega) only [sd, sb]; omega) | (simp (disch := omega) [sd] <;> fail) | (simp (disch := omega) [sd]; omega) | (simp [sd, *] <;> fail) | fail) (by first | rfl | omega | exact Nat.le_of_ble_eq_true rfl | (simp (disch := omega) only [sd, sb]; omega) | (simp (disch := omega) [sd] <;> fail) | (simp (disch := omega) [sd]; omega) | (simp [sd, *] <;> fail) | fail) (by decide) (by conv => lhs; whnf) (by first | exact wr_add_nat (by first | rfl | omega | exact Nat.le_of_ble_eq_true rfl | (simp (disch := omega) only [sd, sb]; omega) | (simp (disch := omega) [sd] <;> fail) | (simp (disch := omega) [sd]; omega) | (simp [sd, *] <;> fail) | fail) | (conv => lhs; whnf)) ?_
    | refine X.cpy (by conv => lhs; whnf) (by conv => lhs; whnf) (elems_vs _) (by first | assumption | first | rfl | (simp only [hgs, if_true]; rfl)) rfl rfl (by first | rfl | omega | exact Nat.le_of_ble_eq_true rfl | (simp (disch := omega) only [sd, sb]; omega) | (simp (disch := omega) [sd] <;> fail) | (simp (disch := omega) [sd]; omega) | (simp [sd, *] <;> fail) | fail) (by first | rfl | omega | exact Nat.le_of_ble_eq_true rfl | (simp (disch := omega) only [sd, sb]; omega) | (simp (disch := omega) [sd] <;> fail) | (simp (disch := omega) [sd]; omega) | (simp [sd, *] <;> fail) | fail) ?_
    | refine X.iah (by conv => lhs; whnf) (by conv => lhs; whnf) (by first | assumption | first | rfl | (simp only [hgs, if_true]; rfl)) rfl (by first | rfl | omega | exact Nat.le_of_ble_eq_true rfl | (simp (disch := omega) only [sd, sb]; omega) | (simp (disch := omega) [sd] <;> fail) | (simp (disch := omega) [sd]; omega) | (simp [sd, *] <;> fail) | fail) ?_
    | refine X.stp (by conv => lhs; whnf) (by conv => lhs; whnf) (by first | assumption | first | rfl | (simp only [hgs, if_true]; rfl)) rfl (by first | omega | exact Nat.le_of_ble_eq_true rfl) rfl rfl rfl (by first | rfl | omega | exact Nat.le_of_ble_eq_true rfl | (simp (disch := omega) only [sd, sb]; omega) | (simp (disch := omega) [sd] <;> fail) | (simp (disch := omega) [sd]; omega) | (simp [sd, *] <;> fail) | fail) (by first | exact bs_getD (by first | rfl | omega | exact Nat.le_of_ble_eq_true rfl | (simp (disch := omega) only [sd, sb]; omega) | (simp (disch := omega) [sd] <;> fail) | (simp (disch := omega) [sd]; omega) | (simp [sd, *] <;> fail) | fail) | rfl) (by first | rfl | omega | exact Nat.le_of_ble_eq_true rfl | (simp (disch := omega) only [sd, sb]; omega) | (simp (disch := omega) [sd] <;> fail) | (simp (disch := omega) [sd]; omega) | (simp [sd, *] <;> fail) | fail) ?_
    | refine X.ldp (by conv => lhs; whnf) (by first | assumption | first | rfl | (simp only [hgs, if_true]; rfl)) (by first | rfl | omega | exact Nat.le_of_ble_eq_true rfl | (simp (disch := omega) only [sd, sb]; omega) | (simp (disch := omega) [sd] <;> fail) | (simp (disch := omega) [sd]; omega) | (simp [sd, *] <;> fail) | fail) (by first | exact bs_getD (by first | rfl | omega | exact Nat.le_of_ble_eq_true rfl | (simp (disch := omega) only [sd, sb]; omega) | (simp (disch := omega) [sd] <;> fail) | (simp (disch := omega) [sd]; omega) | (simp [sd, *] <;> fail) | fail) | rfl) (by first | rfl | omega | exact Nat.le_of_ble_eq_true rfl | (simp (disch := omega) only [sd, sb]; omega) | (simp (disch := omega) [sd] <;> fail) | (simp (disch := omega) [sd]; omega) | (simp [sd, *] <;> fail) | fail) rfl ?_
    | refine X.len (by conv => lhs; whnf) (by first | rfl | assumption) ?_
    | refine X.condTs rfl (by first | rfl | omega | exact Nat.le_of_ble_eq_true rfl | (simp (disch := omega) only [sd, sb]; omega) | (simp (disch := omega) [sd] <;> fail) | (simp (disch := omega) [sd]; omega) | (simp [sd, *] <;> fail) | fail) ?_
    | refine X.condFs rfl (by first | rfl | omega | exact Nat.le_of_ble_eq_true rfl | (simp (disch := omega) only [sd, sb]; omega) | (simp (disch := omega) [sd] <;> fail) | (simp (disch := omega) [sd]; omega) | (simp [sd, *] <;> fail) | fail) ?_
    | refine X.g1Ts rfl (by first | rfl | omega | exact Nat.le_of_ble_eq_true rfl | (simp (disch := omega) only [sd, sb]; omega) | (simp (disch := omega) [sd] <;> fail) | (simp (disch := omega) [sd]; omega) | (simp [sd, *] <;> fail) | fail) ?_
    | refine X.g1Fs rfl (by first | rfl | omega | exact Nat.le_of_ble_eq_true rfl | (simp (disch := omega) only [sd, sb]; omega) | (simp (disch := omega) [sd] <;> fail) | (simp (disch := omega) [sd]; omega) | (simp [sd, *] <;> fail) | fail) ?_
    | refine X.pickTs rfl (by first | rfl | omega | exact Nat.le_of_ble_eq_true rfl | (simp (disch := omega) only [sd, sb]; omega) | (simp (disch := omega) [sd] <;> fail) | (simp (disch := omega) [sd]; omega) | (simp [sd, *] <;> fail) | fail) (fun _ => rfl) ?_
    | refine X.pickFs rfl (by first | rfl | omega | exact Nat.le_of_ble_eq_true rfl | (simp (disch := omega) only [sd, sb]; omega) | (simp (disch := omega) [sd] <;> fail) | (simp (disch := omega) [sd]; omega) | (simp [sd, *] <;> fail) | fail) (fun _ => rfl) ?_
    | refine X.mov (by conv => lhs; whnf) (by first | rfl | assumption) ?_
    )
  refine X.pcall (roomy_ok q 8 (by omega)).toP (.s (clo_vs [.one] _) (.s (clo_it _ _) (.nil _))) rfl rfl rfl ?_
  repeat (first
    | refine X.lpb ?_
    | refine X.seq ?_
    | refine X.skip ?_
    | refine X.ret ?_
    | refine X.exit ?_
    | refine X.blk ?_
    | refine X.sn ?_
    | refine X.se ?_
    | refine X.sr ?_
    | refine X.bn ?_
    | refine X.br ?_
    | refine X.bh ?_
    | refine X.bm rfl ?_
    | refine X.pn ?_
    | refine X.gn ?_
    | refine X.g0 ?_
    | refine X.ln ?_
    | refine X.finn ?_
    | refine X.reg0 (by conv => lhs; reduce) ?_
    | refine X.reg1 (by conv => lhs; reduce) ?_
    | refine X.gt rfl ?_
    | refine X.iav (by conv => lhs; whnf) (by conv => lhs; whnf) (by first | rfl | omega | exact Nat.le_of_ble_eq_true rfl | (simp (disch := omega) only [sd, sb]; omega) | (simp (disch := omega) [sd] <;> fail) | (simp (disch := omega) [sd]; omega) | (simp [sd, *] <;> fail) | fail) (by first | exact bs_getD (by first | rfl | omega | exact Nat.le_of_ble_eq_true rfl | (simp (disch := omega) only [sd, sb]; omega) | (simp (disch := omega) [sd] <;> fail) | (simp (disch := omega) [sd]; omega) | (simp [sd, *] <;> fail) | fail) | rfl) ?_
    | refine X.o0 (fun _ _ => rfl) ?_
    | refine X.o1 (fun _ _ => rfl) (by first | rfl | omega | exact Nat.le_of_ble_eq_true rfl | (simp (disch := omega) only [sd, sb]; omega) | (simp (disch := omega) [sd] <;> fail) | (simp (disch := omega) [sd]; omega) | (simp [sd, *] <;> fail) | fail) ?_
    | refine X.o2 (fun _ _ => rfl) (by first | rfl | omega | exact Nat.le_of_ble_eq_true rfl | (simp (disch := omega) only [sd, sb]; omega) | (simp (disch := omega) [sd] <;> fail) | (simp (disch := omega) [sd]; omega) | (simp [sd, *] <;> fail) | fail) (by first | rfl | omega | exact Nat.le_of_ble_eq_true rfl | (simp (disch := omega) only [sd, sb]; omega) | (simp (disch := omega) [sd] <;> fail) | (simp (disch := omega) [sd]; omega) | (simp [sd, *] <;> fail) | fail) ?_
    | refine X.o3 (fun _ _ => rfl) (by first | rfl | omega | exact Nat.le_of_ble_eq_true rfl | (simp (disch := omega) only [sd, sb]; omega) | (simp (disch := omega) [sd] <;> fail) | (simp (disch := omega) [sd]; omega) | (simp [sd, *] <;> fail) | fail) (by first | rfl | omega | exact Nat.le_of_ble_eq_true rfl | (simp (disch := omega) only [sd, sb]; omega) | (simp (disch := omega) [sd] <;> fail) | (simp (disch := omega) [sd]; omega) | (simp [sd, *] <;> fail) | fail) (by first | rfl | omega | exact Nat.le_of_ble_eq_true rfl | (simp (disch := omega) only [sd, sb]; omega) | (simp (disch := omega) [sd] <;> fail) | (simp (disch := omega) [sd]; omega) | (simp [sd, *] <;> fail) | fail) ?_
    | refine X.pickT rfl (fun _ => rfl) ?_
    | refine X.pickF rfl (fun _ => rfl) ?_
    | refine X.condT rfl ?_
    | refine X.condF rfl ?_
    | refine X.g1T rfl ?_
    | refine X.g1F rfl ?_
    | refine X.alc rfl ?_
    | refine X.box (by conv => lhs; whnf) rfl rfl ?_
    | refine X.stl (by conv => lhs; whnf) rfl rfl rfl rfl rfl rfl rfl ?_
    | refine X.apf (by conv => lhs; whnf) (by conv => lhs; whnf) (by first | exact Els.vs _ | exact Els.st _ | exact Els.ns) (by first | rfl | (simp only [hgs, if_true]; rfl)) rfl rfl (by first | rfl | omega | exact Nat.le_of_ble_eq_true rfl | (simp (disch := omega) only [sd, sb]; omega) | (simp (disch := omega) [sd] <;> fail) | (simp (disch := omega) [sd]; omega) | (simp [sd, *] <;> fail) | fail) (by first | rfl | omega | exact Nat.le_of_ble_eq_true rfl | (simp (disch := omega) only [sd, sb]; omega) | (simp (disch := omega) [sd] <;> fail) | (simp (disch := omega) [sd]; omega) | (simp [sd, *] <;> fail) | fail) (by conv => lhs; whnf) ?_
    | refine X.bsl rfl (by conv => lhs; whnf) ?_
    | refine X.alh (by conv => lhs; whnf) ?_
    | refine X.bxh (by conv => lhs; whnf) rfl (by conv => lhs; whnf) ?_
    | refine X.mks (by conv => lhs; whnf) (by conv => lhs; whnf) (by first | rfl | omega | exact Nat.le_of_ble_eq_true rfl | (simp (disch := omega) only [sd, sb]; omega) | (simp (disch := omega) [sd] <;> fail) | (simp (disch := omega) [sd]; omega) | (simp [sd, *] <;> fail) | fail) (by first | rfl | omega | exact Nat.le_of_ble_eq_true rfl | (simp (disch := omega) only [sd, sb]; omega) | (simp (disch := omega) [sd] <;> fail) | (simp (disch := omega) [sd]; omega) | (simp [sd, *] <;> fail) | fail) (by first | rfl | omega | exact Nat.le_of_ble_eq_true rfl | (simp (disch := omega) only [sd, sb]; omega) | (simp (disch := omega) [sd] <;> fail) | (simp (disch := omega) [sd]; omega) | (simp [sd, *] <;> fail) | fail) (by decide) (by conv => lhs; whnf) (by first | exact wr_add_nat (by first | rfl | omega | exact Nat.le_of_ble_eq_true rfl | (simp (disch := omega) only [sd, sb]; omega) | (simp (disch := omega) [sd] <;> fail) | (simp (disch := omega) [sd]; omega) | (simp [sd, *] <;> fail) | fail) | (conv => lhs; whnf)) ?_
    | refine X.cpy (by conv => lhs; whnf) (by conv => lhs; whnf) (elems_vs _) (by first | assumption | first | rfl | (simp only [hgs, if_true]; rfl)) rfl rfl (by first | rfl | omega | exact Nat.le_of_ble_eq_true rfl | (simp (disch := omega) only [sd, sb]; omega) | (simp (disch := omega) [sd] <;> fail) | (simp (disch := omega) [sd]; omega) | (simp [sd, *] <;> fail) | fail) (by first | rfl | omega | exact Nat.le_of_ble_eq_true rfl | (simp (disch := omega) only [sd, sb]; omega) | (simp (disch := omega) [sd] <;> fail) | (simp (disch := omega) [sd]; omega) | (simp [sd, *] <;> fail) | fail) ?_
    | refine X.iah (by conv => lhs; whnf) (by conv => lhs; whnf) (by first | assumption | first | rfl | (simp only [hgs, if_true]; rfl)) rfl (by first | rfl | omega | exact Nat.le_of_ble_eq_true rfl | (simp (disch := omega) only [sd, sb]; omega) | (simp (disch := omega) [sd] <;> fail) | (simp (disch := omega) [sd]; omega) | (simp [sd, *] <;> fail) | fail) ?_
    | refine X.stp (by conv => lhs; whnf) (by conv => lhs; whnf) (by first | assumption | first | rfl | (simp only [hgs, if_true]; rfl)) rfl (by first | omega | exact Nat.le_of_ble_eq_true rfl) rfl rfl rfl (by first | rfl | omega | exact Nat.le_of_ble_eq_true rfl | (simp (disch := omega) only [sd, sb]; omega) | (simp (disch := omega) [sd] <;> fail) | (simp (disch := omega) [sd]; omega) | (simp [sd, *] <;> fail) | fail) (by first | exact bs_getD (by first | rfl | omega | exact Nat.le_of_ble_eq_true rfl | (simp (disch := omega) only [sd, sb]; omega) | (simp (disch := omega) [sd] <;> fail) | (simp (disch := omega) [sd]; omega) | (simp [sd, *] <;> fail) | fail) | rfl) (by first | rfl | omega | exact Nat.le_of_ble_eq_true rfl | (simp (disch := omega) only [sd, sb]; omega) | (simp (disch := omega) [sd] <;> fail) | (simp (disch := omega) [sd]; omega) | (simp [sd, *] <;> fail) | fail) ?_
    | refine X.ldp (by conv => lhs; whnf) (by first | assumption | first | rfl | (simp only [hgs, if_true]; rfl)) (by first | rfl | omega | exact Nat.le_of_ble_eq_true rfl | (simp (disch := omega) only [sd, sb]; omega) | (simp (disch := omega) [sd] <;> fail) | (simp (disch := omega) [sd]; omega) | (simp [sd, *] <;> fail) | fail) (by first | exact bs_getD (by first | rfl | omega | exact Nat.le_of_ble_eq_true rfl | (simp (disch := omega) only [sd, sb]; omega) | (simp (disch := omega) [sd] <;> fail) | (simp (disch := omega) [sd]; omega) | (simp [sd, *] <;> fail) | fail) | rfl) (by first | rfl | omega | exact Nat.le_of_ble_eq_true rfl | (simp (disch := omega) only [sd, sb]; omega) | (simp (disch := omega) [sd] <;> fail) | (simp (disch := omega) [sd]; omega) | (simp [sd, *] <;> fail) | fail) rfl ?_
    | refine X.len (by conv => lhs; whnf) (by first | rfl | assumption) ?_
    | refine X.condTs rfl (by first | rfl | omega | exact Nat.le_of_ble_eq_true rfl | (simp (disch := omega) only [sd, sb]; omega) | (simp (disch := omega) [sd] <;> fail) | (simp (disch := omega) [sd]; omega) | (simp [sd, *] <;> fail) | fail) ?_
    | refine X.condFs rfl (by first | rfl | omega | exact Nat.le_of_ble_eq_true rfl | (simp (disch := omega) only [sd, sb]; omega) | (simp (disch := omega) [sd] <;> fail) | (simp (disch := omega) [sd]; omega) | (simp [sd, *] <;> fail) | fail) ?_
    | refine X.g1Ts rfl (by first | rfl | omega | exact Nat.le_of_ble_eq_true rfl | (simp (disch := omega) only [sd, sb]; omega) | (simp (disch := omega) [sd] <;> fail) | (simp (disch := omega) [sd]; omega) | (simp [sd, *] <;> fail) | fail) ?_
    | refine X.g1Fs rfl (by first | rfl | omega | exact Nat.le_of_ble_eq_true rfl | (simp (disch := omega) only [sd, sb]; omega) | (simp (disch := omega) [sd] <;> fail) | (simp (disch := omega) [sd]; omega) | (simp [sd, *] <;> fail) | fail) ?_
    | refine X.pickTs rfl (by first | rfl | omega | exact Nat.le_of_ble_eq_true rfl | (simp (disch := omega) only [sd, sb]; omega) | (simp (disch := omega) [sd] <;> fail) | (simp (disch := omega) [sd]; omega) | (simp [sd, *] <;> fail) | fail) (fun _ => rfl) ?_
    | refine X.pickFs rfl (by first | rfl | omega | exact Nat.le_of_ble_eq_true rfl | (simp (disch := omega) only [sd, sb]; omega) | (simp (disch := omega) [sd] <;> fail) | (simp (disch := omega) [sd]; omega) | (simp [sd, *] <;> fail) | fail) (fun _ => rfl) ?_
    | refine X.mov (by conv => lhs; whnf) (by first | rfl | assumption) ?_
    )
  refine X.pcall (right_ok ty fl s q) (.gs (fr_clo _ _ _ _) (.nil _)) (by show [V.ag [.it .i64 ty, .it .i64 fl, .it .i64 s, .vs 1 (((bs (q ++ List.replicate 80 8)).drop 0).take (bs q).length)]] = _; rw [eq]; rfl) rfl rfl ?_
  repeat (first
    | refine X.lpb ?_
    | refine X.seq ?_
    | refine X.skip ?_
    | refine X.ret ?_
    | refine X.exit ?_
    | refine X.blk ?_
    | refine X.sn ?_
    | refine X.se ?_
    | refine X.sr ?_
    | refine X.bn ?_
    | refine X.br ?_
    | refine X.bh ?_
    | refine X.bm rfl ?_
    | refine X.pn ?_
    | refine X.gn ?_
    | refine X.g0 ?_
    | refine X.ln ?_
    | refine X.finn ?_
    | refine X.reg0 (by conv => lhs; reduce) ?_
    | refine X.reg1 (by conv => lhs; reduce) ?_
    | refine X.gt rfl ?_
    | refine X.iav (by conv => lhs; whnf) (by conv => lhs; whnf) (by first | rfl | omega | exact Nat.le_of_ble_eq_true rfl | (simp (disch := omega) only [sd, sb]; omega) | (simp (disch := omega) [sd] <;> fail) | (simp (disch := omega) [sd]; omega) | (simp [sd, *] <;> fail) | fail) (by first | exact bs_getD (by first | rfl | omega | exact Nat.le_of_ble_eq_true rfl | (simp (disch := omega) only [sd, sb]; omega) | (simp (disch := omega) [sd] <;> fail) | (simp (disch := omega) [sd]; omega) | (simp [sd, *] <;> fail) | fail) | rfl) ?_
    | refine X.o0 (fun _ _ => rfl) ?_
    | refine X.o1 (fun _ _ => rfl) (by first | rfl | omega | exact Nat.le_of_ble_eq_true rfl | (simp (disch := omega) only [sd, sb]; omega) | (simp (disch := omega) [sd] <;> fail) | (simp (disch := omega) [sd]; omega) | (simp [sd, *] <;> fail) | fail) ?_
    | refine X.o2 (fun _ _ => rfl) (by first | rfl | omega | exact Nat.le_of_ble_eq_true rfl | (simp (disch := omega) only [sd, sb]; omega) | (simp (disch := omega) [sd] <;> fail) | (simp (disch := omega) [sd]; omega) | (simp [sd, *] <;> fail) | fail) (by first | rfl | omega | exact Nat.le_of_ble_eq_true rfl | (simp (disch := omega) only [sd, sb]; omega) | (simp (disch := omega) [sd] <;> fail) | (simp (disch := omega) [sd]; omega) | (simp [sd, *] <;> fail) | fail) ?_
    | refine X.o3 (fun _ _ => rfl) (by first | rfl | omega | exact Nat.le_of_ble_eq_true rfl | (simp (disch := omega) only [sd, sb]; omega) | (simp (disch := omega) [sd] <;> fail) | (simp (disch := omega) [sd]; omega) | (simp [sd, *] <;> fail) | fail) (by first | rfl | omega | exact Nat.le_of_ble_eq_true rfl | (simp (disch := omega) only [sd, sb]; omega) | (simp (disch := omega) [sd] <;> fail) | (simp (disch := omega) [sd]; omega) | (simp [sd, *] <;> fail) | fail) (by first | rfl | omega | exact Nat.le_of_ble_eq_true rfl | (simp (disch := omega) only [sd, sb]; omega) | (simp (disch := omega) [sd] <;> fail) | (simp (disch := omega) [sd]; omega) | (simp [sd, *] <;> fail) | fail) ?_
    | refine X.pickT rfl (fun _ => rfl) ?_
    | refine X.pickF rfl (fun _ => rfl) ?_
    | refine X.condT rfl ?_
    | refine X.condF rfl ?_
    | refine X.g1T rfl ?_
    | refine X.g1F rfl ?_
    | refine X.alc rfl ?_
    | refine X.box (by conv => lhs; whnf) rfl rfl ?_
    | refine X.stl (by conv => lhs; whnf) rfl rfl rfl rfl rfl rfl rfl ?_
    | refine X.apf (by conv => lhs; whnf) (by conv => lhs; whnf) (by first | exact Els.vs _ | exact Els.st _ | exact Els.ns) (by first | rfl | (simp only [hgs, if_true]; rfl)) rfl rfl (by first | rfl | omega | exact Nat.le_of_ble_eq_true rfl | (simp (disch := omega) only [sd, sb]; omega) | (simp (disch := omega) [sd] <;> fail) | (simp (disch := omega) [sd]; omega) | (simp [sd, *] <;> fail) | fail) (by first | rfl | omega | exact Nat.le_of_ble_eq_true rfl | (simp (disch := omega) only [sd, sb]; omega) | (simp (disch := omega) [sd] <;> fail) | (simp (disch := omega) [sd]; omega) | (simp [sd, *] <;> fail) | fail) (by conv => lhs; whnf) ?_
    | refine X.bsl rfl (by conv => lhs; whnf) ?_
    | refine X.alh (by conv => lhs; whnf) ?_
    | refine X.bxh (by conv => lhs; whnf) rfl (by conv => lhs; whnf) ?_
    | refine X.mks (by conv => lhs; whnf) (by conv => lhs; whnf) (by first | rfl | omega | exact Nat.le_of_ble_eq_true rfl | (simp (disch := omega) only [sd, sb]; omega) | (simp (disch := omega) [sd] <;> fail) | (simp (disch := omega) [sd]; omega) | (simp [sd, *] <;> fail) | fail) (by first | rfl | omega | exact Nat.le_of_ble_eq_true rfl | (simp (disch := omega) only [sd, sb]; omega) | (simp (disch := omega) [sd] <;> fail) | (simp (disch := omega) [sd]; omega) | (simp [sd, *] <;> fail) | fail) (by first | rfl | omega | exact Nat.le_of_ble_eq_true rfl | (simp (disch := omega) only [sd, sb]; omega) | (simp (disch := omega) [sd] <;> fail) | (simp (disch := omega) [sd]; omega) | (simp [sd, *] <;> fail) | fail) (by decide) (by conv => lhs; whnf) (by first | exact wr_add_nat (by first | rfl | omega | exact Nat.le_of_ble_eq_true rfl | (simp (disch := omega) only [sd, sb]; omega) | (simp (disch := omega) [sd] <;> fail) | (simp (disch := omega) [sd]; omega) | (simp [sd, *] <;> fail) | fail) | (conv => lhs; whnf)) ?_
    | refine X.cpy (by conv => lhs; whnf) (by conv => lhs; whnf) (elems_vs _) (by first | assumption | first | rfl | (simp only [hgs, if_true]; rfl)) rfl rfl (by first | rfl | omega | exact Nat.le_of_ble_eq_true rfl | (simp (disch := omega) only [sd, sb]; omega) | (simp (disch := omega) [sd] <;> fail) | (simp (disch := omega) [sd]; omega) | (simp [sd, *] <;> fail) | fail) (by first | rfl | omega | exact Nat.le_of_ble_eq_true rfl | (simp (disch := omega) only [sd, sb]; omega) | (simp (disch := omega) [sd] <;> fail) | (simp (disch := omega) [sd]; omega) | (simp [sd, *] <;> fail) | fail) ?_
    | refine X.iah (by conv => lhs; whnf) (by conv => lhs; whnf) (by first | assumption | first | rfl | (simp only [hgs, if_true]; rfl)) rfl (by first | rfl | omega | exact Nat.le_of_ble_eq_true rfl | (simp (disch := omega) only [sd, sb]; omega) | (simp (disch := omega) [sd] <;> fail) | (simp (disch := omega) [sd]; omega) | (simp [sd, *] <;> fail) | fail) ?_
    | refine X.stp (by conv => lhs; whnf) (by conv => lhs; whnf) (by first | assumption | first | rfl | (simp only [hgs, if_true]; rfl)) rfl (by first | omega | exact Nat.le_of_ble_eq_true rfl) rfl rfl rfl (by first | rfl | omega | exact Nat.le_of_ble_eq_true rfl | (simp (disch := omega) only [sd, sb]; omega) | (simp (disch := omega) [sd] <;> fail) | (simp (disch := omega) [sd]; omega) | (simp [sd, *] <;> fail) | fail) (by first | exact bs_getD (by first | rfl | omega | exact Nat.le_of_ble_eq_true rfl | (simp (disch := omega) only [sd, sb]; omega) | (simp (disch := omega) [sd] <;> fail) | (simp (disch := omega) [sd]; omega) | (simp [sd, *] <;> fail) | fail) | rfl) (by first | rfl | omega | exact Nat.le_of_ble_eq_true rfl | (simp (disch := omega) only [sd, sb]; omega) | (simp (disch := omega) [sd] <;> fail) | (simp (disch := omega) [sd]; omega) | (simp [sd, *] <;> fail) | fail) ?_
    | refine X.ldp (by conv => lhs; whnf) (by first | assumption | first | rfl | (simp only [hgs, if_true]; rfl)) (by first | rfl | omega | exact Nat.le_of_ble_eq_true rfl | (simp (disch := omega) only [sd, sb]; omega) | (simp (disch := omega) [sd] <;> fail) | (simp (disch := omega) [sd]; omega) | (simp [sd, *] <;> fail) | fail) (by first | exact bs_getD (by first | rfl | omega | exact Nat.le_of_ble_eq_true rfl | (simp (disch := omega) only [sd, sb]; omega) | (simp (disch := omega) [sd] <;> fail) | (simp (disch := omega) [sd]; omega) | (simp [sd, *] <;> fail) | fail) | rfl) (by first | rfl | omega | exact Nat.le_of_ble_eq_true rfl | (simp (disch := omega) only [sd, sb]; omega) | (simp (disch := omega) [sd] <;> fail) | (simp (disch := omega) [sd]; omega) | (simp [sd, *] <;> fail) | fail) rfl ?_
    | refine X.len (by conv => lhs; whnf) (by first | rfl | assumption) ?_
    | refine X.condTs rfl (by first | rfl | omega | exact Nat.le_of_ble_eq_true rfl | (simp (disch := omega) only [sd, sb]; omega) | (simp (disch := omega) [sd] <;> fail) | (simp (disch := omega) [sd]; omega) | (simp [sd, *] <;> fail) | fail) ?_
    | refine X.condFs rfl (by first | rfl | omega | exact Nat.le_of_ble_eq_true rfl | (simp (disch := omega) only [sd, sb]; omega) | (simp (disch := omega) [sd] <;> fail) | (simp (disch := omega) [sd]; omega) | (simp [sd, *] <;> fail) | fail) ?_
    | refine X.g1Ts rfl (by first | rfl | omega | exact Nat.le_of_ble_eq_true rfl | (simp (disch := omega) only [sd, sb]; omega) | (simp (disch := omega) [sd] <;> fail) | (simp (disch := omega) [sd]; omega) | (simp [sd, *] <;> fail) | fail) ?_
    | refine X.g1Fs rfl (by first | rfl | omega | exact Nat.le_of_ble_eq_true rfl | (simp (disch := omega) only [sd, sb]; omega) | (simp (disch := omega) [sd] <;> fail) | (simp (disch := omega) [sd]; omega) | (simp [sd, *] <;> fail) | fail) ?_
    | refine X.pickTs rfl (by first | rfl | omega | exact Nat.le_of_ble_eq_true rfl | (simp (disch := omega) only [sd, sb]; omega) | (simp (disch := omega) [sd] <;> fail) | (simp (disch := omega) [sd]; omega) | (simp [sd, *] <;> fail) | fail) (fun _ => rfl) ?_
    | refine X.pickFs rfl (by first | rfl | omega | exact Nat.le_of_ble_eq_true rfl | (simp (disch := omega) only [sd, sb]; omega) | (simp (disch := omega) [sd] <;> fail) | (simp (disch := omega) [sd]; omega) | (simp [sd, *] <;> fail) | fail) (fun _ => rfl) ?_
    | refine X.mov (by conv => lhs; whnf) (by first | rfl | assumption) ?_
    )
  refine X.pcall (rright_ok ty fl s q) (.gs (fr_clo _ _ _ _) (.nil _)) rfl rfl rfl ?_
  repeat (first
    | refine X.lpb ?_
    | refine X.seq ?_
    | refine X.skip ?_
    | refine X.ret ?_
    | refine X.exit ?_
    | refine X.blk ?_
    | refine X.sn ?_
    | refine X.se ?_
    | refine X.sr ?_
    | refine X.bn ?_
    | refine X.br ?_
    | refine X.bh ?_
    | refine X.bm rfl ?_
    | refine X.pn ?_
    | refine X.gn ?_
    | refine X.g0 ?_
    | refine X.ln ?_
    | refine X.finn ?_
    | refine X.reg0 (by conv => lhs; reduce) ?_
    | refine X.reg1 (by conv => lhs; reduce) ?_
    | refine X.gt rfl ?_
    | refine X.iav (by conv => lhs; whnf) (by conv => lhs; whnf) (by first | rfl | omega | exact Nat.le_of_ble_eq_true rfl | (simp (disch := omega) only [sd, sb]; omega) | (simp (disch := omega) [sd] <;> fail) | (simp (disch := omega) [sd]; omega) | (simp [sd, *] <;> fail) | fail) (by first | exact bs_getD (by first | rfl | omega | exact Nat.le_of_ble_eq_true rfl | (simp (disch := omega) only [sd, sb]; omega) | (simp (disch := omega) [sd] <;> fail) | (simp (disch := omega) [sd]; omega) | (simp [sd, *] <;> fail) | fail) | rfl) ?_
    | refine X.o0 (fun _ _ => rfl) ?_
    | refine X.o1 (fun _ _ => rfl) (by first | rfl | omega | exact Nat.le_of_ble_eq_true rfl | (simp (disch := omega) only [sd, sb]; omega) | (simp (disch := omega) [sd] <;> fail) | (simp (disch := omega) [sd]; omega) | (simp [sd, *] <;> fail) | fail) ?_
    | refine X.o2 (fun _ _ => rfl) (by first | rfl | omega | exact Nat.le_of_ble_eq_true rfl | (simp (disch := omega) only [sd, sb]; omega) | (simp (disch := omega) [sd] <;> fail) | (simp (disch := omega) [sd]; omega) | (simp [sd, *] <;> fail) | fail) (by first | rfl | omega | exact Nat.le_of_ble_eq_true rfl | (simp (disch := omega) only [sd, sb]; omega) | (simp (disch := omega) [sd] <;> fail) | (simp (disch := omega) [sd]; omega) | (simp [sd, *] <;> fail) | fail) ?_
    | refine X.o3 (fun _ _ => rfl) (by first | rfl | omega | exact Nat.le_of_ble_eq_true rfl | (simp (disch := omega) only [sd, sb]; omega) | (simp (disch := omega) [sd] <;> fail) | (simp (disch := omega) [sd]; omega) | (simp [sd, *] <;> fail) | fail) (by first | rfl | omega | exact Nat.le_of_ble_eq_true rfl | (simp (disch := omega) only [sd, sb]; omega) | (simp (disch := omega) [sd] <;> fail) | (simp (disch := omega) [sd]; omega) | (simp [sd, *] <;> fail) | fail) (by first | rfl | omega | exact Nat.le_of_ble_eq_true rfl | (simp (disch := omega) only [sd, sb]; omega) | (simp (disch := omega) [sd] <;> fail) | (simp (disch := omega) [sd]; omega) | (simp [sd, *] <;> fail) | fail) ?_
    | refine X.pickT rfl (fun _ => rfl) ?_
    | refine X.pickF rfl (fun _ => rfl) ?_
    | refine X.condT rfl ?_
    | refine X.condF rfl ?_
    | refine X.g1T rfl ?_
    | refine X.g1F rfl ?_
    | refine X.alc rfl ?_
    | refine X.box (by conv => lhs; whnf) rfl rfl ?_
    | refine X.stl (by conv => lhs; whnf) rfl rfl rfl rfl rfl rfl rfl ?_
    | refine X.apf (by conv => lhs; whnf) (by conv => lhs; whnf) (by first | exact Els.vs _ | exact Els.st _ | exact Els.ns) (by first | rfl | (simp only [hgs, if_true]; rfl)) rfl rfl (by first | rfl | omega | exact Nat.le_of_ble_eq_true rfl | (simp (disch := omega) only [sd, sb]; omega) | (simp (disch := omega) [sd] <;> fail) | (simp (disch := omega) [sd]; omega) | (simp [sd, *] <;> fail) | fail) (by first | rfl | omega | exact Nat.le_of_ble_eq_true rfl | (simp (disch := omega) only [sd, sb]; omega) | (simp (disch := omega) [sd] <;> fail) | (simp (disch := omega) [sd]; omega) | (simp [sd, *] <;> fail) | fail) (by conv => lhs; whnf) ?_
    | refine X.bsl rfl (by conv => lhs; whnf) ?_
    | refine X.alh (by conv => lhs; whnf) ?_
    | refine X.bxh (by conv => lhs; whnf) rfl (by conv => lhs; whnf) ?_
    | refine X.mks (by conv => lhs; whnf) (by conv => lhs; whnf) (by first | rfl | omega | exact Nat.le_of_ble_eq_true rfl | (simp (disch := omega) only [sd, sb]; omega) | (simp (disch := omega) [sd] <;> fail) | (simp (disch := omega) [sd]; omega) | (simp [sd, *] <;> fail) | fail) (by first | rfl | omega | exact Nat.le_of_ble_eq_true rfl | (simp (disch := omega) only [sd, sb]; omega) | (simp (disch := omega) [sd] <;> fail) | (simp (disch := omega) [sd]; omega) | (simp [sd, *] <;> fail) | fail) (by first | rfl | omega | exact Nat.le_of_ble_eq_true rfl | (simp (disch := omega) only [sd, sb]; omega) | (simp (disch := omega) [sd] <;> fail) | (simp (disch := omega) [sd]; omega) | (simp [sd, *] <;> fail) | fail) (by decide) (by conv => lhs; whnf) (by first | exact wr_add_nat (by first | rfl | omega | exact Nat.le_of_ble_eq_true rfl | (simp (disch := omega) only [sd, sb]; omega) | (simp (disch := omega) [sd] <;> fail) | (simp (disch := omega) [sd]; omega) | (simp [sd, *] <;> fail) | fail) | (conv => lhs; whnf)) ?_
    | refine X.cpy (by conv => lhs; whnf) (by conv => lhs; whnf) (elems_vs _) (by first | assumption | first | rfl | (simp only [hgs, if_true]; rfl)) rfl rfl (by first | rfl | omega | exact Nat.le_of_ble_eq_true rfl | (simp (disch := omega) only [sd, sb]; omega) | (simp (disch := omega) [sd] <;> fail) | (simp (disch := omega) [sd]; omega) | (simp [sd, *] <;> fail) | fail) (by first | rfl | omega | exact Nat.le_of_ble_eq_true rfl | (simp (disch := omega) only [sd, sb]; omega) | (simp (disch := omega) [sd] <;> fail) | (simp (disch := omega) [sd]; omega) | (simp [sd, *] <;> fail) | fail) ?_
    | refine X.iah (by conv => lhs; whnf) (by conv => lhs; whnf) (by first | assumption | first | rfl | (simp only [hgs, if_true]; rfl)) rfl (by first | rfl | omega | exact Nat.le_of_ble_eq_true rfl | (simp (disch := omega) only [sd, sb]; omega) | (simp (disch := omega) [sd] <;> fail) | (simp (disch := omega) [sd]; omega) | (simp [sd, *] <;> fail) | fail) ?_
    | refine X.stp (by conv => lhs; whnf) (by conv => lhs; whnf) (by first | assumption | first | rfl | (simp only [hgs, if_true]; rfl)) rfl (by first | omega | exact Nat.le_of_ble_eq_true rfl) rfl rfl rfl (by first | rfl | omega | exact Nat.le_of_ble_eq_true rfl | (simp (disch := omega) only [sd, sb]; omega) | (simp (disch := omega) [sd] <;> fail) | (simp (disch := omega) [sd]; omega) | (simp [sd, *] <;> fail) | fail) (by first | exact bs_getD (by first | rfl | omega | exact Nat.le_of_ble_eq_true rfl | (simp (disch := omega) only [sd, sb]; omega) | (simp (disch := omega) [sd] <;> fail) | (simp (disch := omega) [sd]; omega) | (simp [sd, *] <;> fail) | fail) | rfl) (by first | rfl | omega | exact Nat.le_of_ble_eq_true rfl | (simp (disch := omega) only [sd, sb]; omega) | (simp (disch := omega) [sd] <;> fail) | (simp (disch := omega) [sd]; omega) | (simp [sd, *] <;> fail) | fail) ?_
    | refine X.ldp (by conv => lhs; whnf) (by first | assumption | first | rfl | (simp only [hgs, if_true]; rfl)) (by first | rfl | omega | exact Nat.le_of_ble_eq_true rfl | (simp (disch := omega) only [sd, sb]; omega) | (simp (disch := omega) [sd] <;> fail) | (simp (disch := omega) [sd]; omega) | (simp [sd, *] <;> fail) | fail) (by first | exact bs_getD (by first | rfl | omega | exact Nat.le_of_ble_eq_true rfl | (simp (disch := omega) only [sd, sb]; omega) | (simp (disch := omega) [sd] <;> fail) | (simp (disch := omega) [sd]; omega) | (simp [sd, *] <;> fail) | fail) | rfl) (by first | rfl | omega | exact Nat.le_of_ble_eq_true rfl | (simp (disch := omega) only [sd, sb]; omega) | (simp (disch := omega) [sd] <;> fail) | (simp (disch := omega) [sd]; omega) | (simp [sd, *] <;> fail) | fail) rfl ?_
    | refine X.len (by conv => lhs; whnf) (by first | rfl | assumption) ?_
    | refine X.condTs rfl (by first | rfl | omega | exact Nat.le_of_ble_eq_true rfl | (simp (disch := omega) only [sd, sb]; omega) | (simp (disch := omega) [sd] <;> fail) | (simp (disch := omega) [sd]; omega) | (simp [sd, *] <;> fail) | fail) ?_
    | refine X.condFs rfl (by first | rfl | omega | exact Nat.le_of_ble_eq_true rfl | (simp (disch := omega) only [sd, sb]; omega) | (simp (disch := omega) [sd] <;> fail) | (simp (disch := omega) [sd]; omega) | (simp [sd, *] <;> fail) | fail) ?_
    | refine X.g1Ts rfl (by first | rfl | omega | exact Nat.le_of_ble_eq_true rfl | (simp (disch := omega) only [sd, sb]; omega) | (simp (disch := omega) [sd] <;> fail) | (simp (disch := omega) [sd]; omega) | (simp [sd, *] <;> fail) | fail) ?_
    | refine X.g1Fs rfl (by first | rfl | omega | exact Nat.le_of_ble_eq_true rfl | (simp (disch := omega) only [sd, sb]; omega) | (simp (disch := omega) [sd] <;> fail) | (simp (disch := omega) [sd]; omega) | (simp [sd, *] <;> fail) | fail) ?_
    | refine X.pickTs rfl (by first | rfl | omega | exact Nat.le_of_ble_eq_true rfl | (simp (disch := omega) only [sd, sb]; omega) | (simp (disch := omega) [sd] <;> fail) | (simp (disch := omega) [sd]; omega) | (simp [sd, *] <;> fail) | fail) (fun _ => rfl) ?_
    | refine X.pickFs rfl (by first | rfl | omega | exact Nat.le_of_ble_eq_true rfl | (simp (disch := omega) only [sd, sb]; omega) | (simp (disch := omega) [sd] <;> fail) | (simp (disch := omega) [sd]; omega) | (simp [sd, *] <;> fail) | fail) (fun _ => rfl) ?_
    | refine X.mov (by conv => lhs; whnf) (by first | rfl | assumption) ?_
    )
  have hpl : (putL b ty fl s q).length ≤ 10000000 := by
    unfold putL; split
    · simp [h9]; omega
    · omega
  refine X.pcall (put_ok b ty fl s q (by omega)).toP (.s (clo_vs [.one] _) (.gs (fr_clo _ _ _ _) (.nil _)))
    (by show [V.vs 1 (((bs (b ++ List.replicate 80 7)).drop 0).take (bs b).length), V.ag [.it .i64 ty, .it .i64 fl, .it .i64 s, .vs 1 (((bs (q ++ List.replicate 80 8)).drop 0).take (bs q).length)]] = _; rw [eq, eb]; rfl) rfl rfl ?_
  repeat (first
    | refine X.lpb ?_
    | refine X.seq ?_
    | refine X.skip ?_
    | refine X.ret ?_
    | refine X.exit ?_
    | refine X.blk ?_
    | refine X.sn ?_
    | refine X.se ?_
    | refine X.sr ?_
    | refine X.bn ?_
    | refine X.br ?_
    | refine X.bh ?_
    | refine X.bm rfl ?_
    | refine X.pn ?_
    | refine X.gn ?_
    | refine X.g0 ?_
    | refine X.ln ?_
    | refine X.finn ?_
    | refine X.reg0 (by conv => lhs; reduce) ?_
    | refine X.reg1 (by conv => lhs; reduce) ?_
    | refine X.gt rfl ?_
    | refine X.iav (by conv => lhs; whnf) (by conv => lhs; whnf) (by first | rfl | omega | exact Nat.le_of_ble_eq_true rfl | (simp (disch := omega) only [sd, sb]; omega) | (simp (disch := omega) [sd] <;> fail) | (simp (disch := omega) [sd]; omega) | (simp [sd, *] <;> fail) | fail) (by first | exact bs_getD (by first | rfl | omega | exact Nat.le_of_ble_eq_true rfl | (simp (disch := omega) only [sd, sb]; omega) | (simp (disch := omega) [sd] <;> fail) | (simp (disch := omega) [sd]; omega) | (simp [sd, *] <;> fail) | fail) | rfl) ?_
    | refine X.o0 (fun _ _ => rfl) ?_
    | refine X.o1 (fun _ _ => rfl) (by first | rfl | omega | exact Nat.le_of_ble_eq_true rfl | (simp (disch := omega) only [sd, sb]; omega) | (simp (disch := omega) [sd] <;> fail) | (simp (disch := omega) [sd]; omega) | (simp [sd, *] <;> fail) | fail) ?_
    | refine X.o2 (fun _ _ => rfl) (by first | rfl | omega | exact Nat.le_of_ble_eq_true rfl | (simp (disch := omega) only [sd, sb]; omega) | (simp (disch := omega) [sd] <;> fail) | (simp (disch := omega) [sd]; omega) | (simp [sd, *] <;> fail) | fail) (by first | rfl | omega | exact Nat.le_of_ble_eq_true rfl | (simp (disch := omega) only [sd, sb]; omega) | (simp (disch := omega) [sd] <;> fail) | (simp (disch := omega) [sd]; omega) | (simp [sd, *] <;> fail) | fail) ?_
    | refine X.o3 (fun _ _ => rfl) (by first | rfl | omega | exact Nat.le_of_ble_eq_true rfl | (simp (disch := omega) only [sd, sb]; omega) | (simp (disch := omega) [sd] <;> fail) | (simp (disch := omega) [sd]; omega) | (simp [sd, *] <;> fail) | fail) (by first | rfl | omega | exact Nat.le_of_ble_eq_true rfl | (simp (disch := omega) only [sd, sb]; omega) | (simp (disch := omega) [sd] <;> fail) | (simp (disch := omega) [sd]; omega) | (simp [sd, *] <;> fail) | fail) (by first | rfl | omega | exact Nat.le_of_ble_eq_true rfl | (simp (disch := omega) only [sd, sb]; omega) | (simp (disch := omega) [sd] <;> fail) | (simp (disch := omega) [sd]; omega) | (simp [sd, *] <;> fail) | fail) ?_
    | refine X.pickT rfl (fun _ => rfl) ?_
    | refine X.pickF rfl (fun _ => rfl) ?_
    | refine X.condT rfl ?_
    | refine X.condF rfl ?_
    | refine X.g1T rfl ?_
    | refine X.g1F rfl ?_
    | refine X.alc rfl ?_
    | refine X.box (by conv => lhs; whnf) rfl rfl ?_
    | refine X.stl (by conv => lhs; whnf) rfl rfl rfl rfl rfl rfl rfl ?_
    | refine X.apf (by conv => lhs; whnf) (by conv => lhs; whnf) (by first | exact Els.vs _ | exact Els.st _ | exact Els.ns) (by first | rfl | (simp only [hgs, if_true]; rfl)) rfl rfl (by first | rfl | omega | exact Nat.le_of_ble_eq_true rfl | (simp (disch := omega) only [sd, sb]; omega) | (simp (disch := omega) [sd] <;> fail) | (simp (disch := omega) [sd]; omega) | (simp [sd, *] <;> fail) | fail) (by first | rfl | omega | exact Nat.le_of_ble_eq_true rfl | (simp (disch := omega) only [sd, sb]; omega) | (simp (disch := omega) [sd] <;> fail) | (simp (disch := omega) [sd]; omega) | (simp [sd, *] <;> fail) | fail) (by conv => lhs; whnf) ?_
    | refine X.bsl rfl (by conv => lhs; whnf) ?_
    | refine X.alh (by conv => lhs; whnf) ?_
    | refine X.bxh (by conv => lhs; whnf) rfl (by conv => lhs; whnf) ?_
    | refine X.mks (by conv => lhs; whnf) (by conv => lhs; whnf) (by first | rfl | omega | exact Nat.le_of_ble_eq_true rfl | (simp (disch := omega) only [sd, sb]; omega) | (simp (disch := omega) [sd] <;> fail) | (simp (disch := omega) [sd]; omega) | (simp [sd, *] <;> fail) | fail) (by first | rfl | omega | exact Nat.le_of_ble_eq_true rfl | (simp (disch := omega) only [sd, sb]; omega) | (simp (disch := omega) [sd] <;> fail) | (simp (disch := omega) [sd]; omega) | (simp [sd, *] <;> fail) | fail) (by first | rfl | omega | exact Nat.le_of_ble_eq_true rfl | (simp (disch := omega) only [sd, sb]; omega) | (simp (disch := omega) [sd] <;> fail) | (simp (disch := omega) [sd]; omega) | (simp [sd, *] <;> fail) | fail) (by decide) (by conv => lhs; whnf) (by first | exact wr_add_nat (by first | rfl | omega | exact Nat.le_of_ble_eq_true rfl | (simp (disch := omega) only [sd, sb]; omega) | (simp (disch := omega) [sd] <;> fail) | (simp (disch := omega) [sd]; omega) | (simp [sd, *] <;> fail) | fail) | (conv => lhs; whnf)) ?_
    | refine X.cpy (by conv => lhs; whnf) (by conv => lhs; whnf) (elems_vs _) (by first | assumption | first | rfl | (simp only [hgs, if_true]; rfl)) rfl rfl (by first | rfl | omega | exact Nat.le_of_ble_eq_true rfl | (simp (disch := omega) only [sd, sb]; omega) | (simp (disch := omega) [sd] <;> fail) | (simp (disch := omega) [sd]; omega) | (simp [sd, *] <;> fail) | fail) (by first | rfl | omega | exact Nat.le_of_ble_eq_true rfl | (simp (disch := omega) only [sd, sb]; omega) | (simp (disch := omega) [sd] <;> fail) | (simp (disch := omega) [sd]; omega) | (simp [sd, *] <;> fail) | fail) ?_
    | refine X.iah (by conv => lhs; whnf) (by conv => lhs; whnf) (by first | assumption | first | rfl | (simp only [hgs, if_true]; rfl)) rfl (by first | rfl | omega | exact Nat.le_of_ble_eq_true rfl | (simp (disch := omega) only [sd, sb]; omega) | (simp (disch := omega) [sd] <;> fail) | (simp (disch := omega) [sd]; omega) | (simp [sd, *] <;> fail) | fail) ?_
    | refine X.stp (by conv => lhs; whnf) (by conv => lhs; whnf) (by first | assumption | first | rfl | (simp only [hgs, if_true]; rfl)) rfl (by first | omega | exact Nat.le_of_ble_eq_true rfl) rfl rfl rfl (by first | rfl | omega | exact Nat.le_of_ble_eq_true rfl | (simp (disch := omega) only [sd, sb]; omega) | (simp (disch := omega) [sd] <;> fail) | (simp (disch := omega) [sd]; omega) | (simp [sd, *] <;> fail) | fail) (by first | exact bs_getD (by first | rfl | omega | exact Nat.le_of_ble_eq_true rfl | (simp (disch := omega) only [sd, sb]; omega) | (simp (disch := omega) [sd] <;> fail) | (simp (disch := omega) [sd]; omega) | (simp [sd, *] <;> fail) | fail) | rfl) (by first | rfl | omega | exact Nat.le_of_ble_eq_true rfl | (simp (disch := omega) only [sd, sb]; omega) | (simp (disch := omega) [sd] <;> fail) | (simp (disch := omega) [sd]; omega) | (simp [sd, *] <;> fail) | fail) ?_
    | refine X.ldp (by conv => lhs; whnf) (by first | assumption | first | rfl | (simp only [hgs, if_true]; rfl)) (by first | rfl | omega | exact Nat.le_of_ble_eq_true rfl | (simp (disch := omega) only [sd, sb]; omega) | (simp (disch := omega) [sd] <;> fail) | (simp (disch := omega) [sd]; omega) | (simp [sd, *] <;> fail) | fail) (by first | exact bs_getD (by first | rfl | omega | exact Nat.le_of_ble_eq_true rfl | (simp (disch := omega) only [sd, sb]; omega) | (simp (disch := omega) [sd] <;> fail) | (simp (disch := omega) [sd]; omega) | (simp [sd, *] <;> fail) | fail) | rfl) (by first | rfl | omega | exact Nat.le_of_ble_eq_true rfl | (simp (disch := omega) only [sd, sb]; omega) | (simp (disch := omega) [sd] <;> fail) | (simp (disch := omega) [sd]; omega) | (simp [sd, *] <;> fail) | fail) rfl ?_
    | refine X.len (by conv => lhs; whnf) (by first | rfl | assumption) ?_
    | refine X.condTs rfl (by first | rfl | omega | exact Nat.le_of_ble_eq_true rfl | (simp (disch := omega) only [sd, sb]; omega) | (simp (disch := omega) [sd] <;> fail) | (simp (disch := omega) [sd]; omega) | (simp [sd, *] <;> fail) | fail) ?_
    | refine X.condFs rfl (by first | rfl | omega | exact Nat.le_of_ble_eq_true rfl | (simp (disch := omega) only [sd, sb]; omega) | (simp (disch := omega) [sd] <;> fail) | (simp (disch := omega) [sd]; omega) | (simp [sd, *] <;> fail) | fail) ?_
    | refine X.g1Ts rfl (by first | rfl | omega | exact Nat.le_of_ble_eq_true rfl | (simp (disch := omega) only [sd, sb]; omega) | (simp (disch := omega) [sd] <;> fail) | (simp (disch := omega) [sd]; omega) | (simp [sd, *] <;> fail) | fail) ?_
    | refine X.g1Fs rfl (by first | rfl | omega | exact Nat.le_of_ble_eq_true rfl | (simp (disch := omega) only [sd, sb]; omega) | (simp (disch := omega) [sd] <;> fail) | (simp (disch := omega) [sd]; omega) | (simp [sd, *] <;> fail) | fail) ?_
    | refine X.pickTs rfl (by first | rfl | omega | exact Nat.le_of_ble_eq_true rfl | (simp (disch := omega) only [sd, sb]; omega) | (simp (disch := omega) [sd] <;> fail) | (simp (disch := omega) [sd]; omega) | (simp [sd, *] <;> fail) | fail) (fun _ => rfl) ?_
    | refine X.pickFs rfl (by first | rfl | omega | exact Nat.le_of_ble_eq_true rfl | (simp (disch := omega) only [sd, sb]; omega) | (simp (disch := omega) [sd] <;> fail) | (simp (disch := omega) [sd]; omega) | (simp [sd, *] <;> fail) | fail) (fun _ => rfl) ?_
    | refine X.mov (by conv => lhs; whnf) (by first | rfl | assumption) ?_
    )
  refine X.pcall (rput_ok b ty fl s q (by omega)).toP (.s (clo_vs [.one] _) (.gs (fr_clo _ _ _ _) (.nil _))) rfl rfl rfl ?_
  repeat (first
    | refine X.lpb ?_
    | refine X.seq ?_
    | refine X.skip ?_
    | refine X.ret ?_
    | refine X.exit ?_
    | refine X.blk ?_
    | refine X.sn ?_
    | refine X.se ?_
    | refine X.sr ?_
    | refine X.bn ?_
    | refine X.br ?_
    | refine X.bh ?_
    | refine X.bm rfl ?_
    | refine X.pn ?_
    | refine X.gn ?_
    | refine X.g0 ?_
    | refine X.ln ?_
    | refine X.finn ?_
    | refine X.reg0 (by conv => lhs; reduce) ?_
    | refine X.reg1 (by conv => lhs; reduce) ?_
    | refine X.gt rfl ?_
    | refine X.iav (by conv => lhs; whnf) (by conv => lhs; whnf) (by first | rfl | omega | exact Nat.le_of_ble_eq_true rfl | (simp (disch := omega) only [sd, sb]; omega) | (simp (disch := omega) [sd] <;> fail) | (simp (disch := omega) [sd]; omega) | (simp [sd, *] <;> fail) | fail) (by first | exact bs_getD (by first | rfl | omega | exact Nat.le_of_ble_eq_true rfl | (simp (disch := omega) only [sd, sb]; omega) | (simp (disch := omega) [sd] <;> fail) | (simp (disch := omega) [sd]; omega) | (simp [sd, *] <;> fail) | fail) | rfl) ?_
    | refine X.o0 (fun _ _ => rfl) ?_
    | refine X.o1 (fun _ _ => rfl) (by first | rfl | omega | exact Nat.le_of_ble_eq_true rfl | (simp (disch := omega) only [sd, sb]; omega) | (simp (disch := omega) [sd] <;> fail) | (simp (disch := omega) [sd]; omega) | (simp [sd, *] <;> fail) | fail) ?_
    | refine X.o2 (fun _ _ => rfl) (by first | rfl | omega | exact Nat.le_of_ble_eq_true rfl | (simp (disch := omega) only [sd, sb]; omega) | (simp (disch := omega) [sd] <;> fail) | (simp (disch := omega) [sd]; omega) | (simp [sd, *] <;> fail) | fail) (by first | rfl | omega | exact Nat.le_of_ble_eq_true rfl | (simp (disch := omega) only [sd, sb]; omega) | (simp (disch := omega) [sd] <;> fail) | (simp (disch := omega) [sd]; omega) | (simp [sd, *] <;> fail) | fail) ?_
    | refine X.o3 (fun _ _ => rfl) (by first | rfl | omega | exact Nat.le_of_ble_eq_true rfl | (simp (disch := omega) only [sd, sb]; omega) | (simp (disch := omega) [sd] <;> fail) | (simp (disch := omega) [sd]; omega) | (simp [sd, *] <;> fail) | fail) (by first | rfl | omega | exact Nat.le_of_ble_eq_true rfl | (simp (disch := omega) only [sd, sb]; omega) | (simp (disch := omega) [sd] <;> fail) | (simp (disch := omega) [sd]; omega) | (simp [sd, *] <;> fail) | fail) (by first | rfl | omega | exact Nat.le_of_ble_eq_true rfl | (simp (disch := omega) only [sd, sb]; omega) | (simp (disch := omega) [sd] <;> fail) | (simp (disch := omega) [sd]; omega) | (simp [sd, *] <;> fail) | fail) ?_
    | refine X.pickT rfl (fun _ => rfl) ?_
    | refine X.pickF rfl (fun _ => rfl) ?_
    | refine X.condT rfl ?_
    | refine X.condF rfl ?_
    | refine X.g1T rfl ?_
    | refine X.g1F rfl ?_
    | refine X.alc rfl ?_
    | refine X.box (by conv => lhs; whnf) rfl rfl ?_
    | refine X.stl (by conv => lhs; whnf) rfl rfl rfl rfl rfl rfl rfl ?_
    | refine X.apf (by conv => lhs; whnf) (by conv => lhs; whnf) (by first | exact Els.vs _ | exact Els.st _ | exact Els.ns) (by first | rfl | (simp only [hgs, if_true]; rfl)) rfl rfl (by first | rfl | omega | exact Nat.le_of_ble_eq_true rfl | (simp (disch := omega) only [sd, sb]; omega) | (simp (disch := omega) [sd] <;> fail) | (simp (disch := omega) [sd]; omega) | (simp [sd, *] <;> fail) | fail) (by first | rfl | omega | exact Nat.le_of_ble_eq_true rfl | (simp (disch := omega) only [sd, sb]; omega) | (simp (disch := omega) [sd] <;> fail) | (simp (disch := omega) [sd]; omega) | (simp [sd, *] <;> fail) | fail) (by conv => lhs; whnf) ?_
    | refine X.bsl rfl (by conv => lhs; whnf) ?_
    | refine X.alh (by conv => lhs; whnf) ?_
    | refine X.bxh (by conv => lhs; whnf) rfl (by conv => lhs; whnf) ?_
    | refine X.mks (by conv => lhs; whnf) (by conv => lhs; whnf) (by first | rfl | omega | exact Nat.le_of_ble_eq_true rfl | (simp (disch := omega) only [sd, sb]; omega) | (simp (disch := omega) [sd] <;> fail) | (simp (disch := omega) [sd]; omega) | (simp [sd, *] <;> fail) | fail) (by first | rfl | omega | exact Nat.le_of_ble_eq_true rfl | (simp (disch := omega) only [sd, sb]; omega) | (simp (disch := omega) [sd] <;> fail) | (simp (disch := omega) [sd]; omega) | (simp [sd, *] <;> fail) | fail) (by first | rfl | omega | exact Nat.le_of_ble_eq_true rfl | (simp (disch := omega) only [sd, sb]; omega) | (simp (disch := omega) [sd] <;> fail) | (simp (disch := omega) [sd]; omega) | (simp [sd, *] <;> fail) | fail) (by decide) (by conv => lhs; whnf) (by first | exact wr_add_nat (by first | rfl | omega | exact Nat.le_of_ble_eq_true rfl | (simp (disch := omega) only [sd, sb]; omega) | (simp (disch := omega) [sd] <;> fail) | (simp (disch := omega) [sd]; omega) | (simp [sd, *] <;> fail) | fail) | (conv => lhs; whnf)) ?_
    | refine X.cpy (by conv => lhs; whnf) (by conv => lhs; whnf) (elems_vs _) (by first | assumption | first | rfl | (simp only [hgs, if_true]; rfl)) rfl rfl (by first | rfl | omega | exact Nat.le_of_ble_eq_true rfl | (simp (disch := omega) only [sd, sb]; omega) | (simp (disch := omega) [sd] <;> fail) | (simp (disch := omega) [sd]; omega) | (simp [sd, *] <;> fail) | fail) (by first | rfl | omega | exact Nat.le_of_ble_eq_true rfl | (simp (disch := omega) only [sd, sb]; omega) | (simp (disch := omega) [sd] <;> fail) | (simp (disch := omega) [sd]; omega) | (simp [sd, *] <;> fail) | fail) ?_
    | refine X.iah (by conv => lhs; whnf) (by conv => lhs; whnf) (by first | assumption | first | rfl | (simp only [hgs, if_true]; rfl)) rfl (by first | rfl | omega | exact Nat.le_of_ble_eq_true rfl | (simp (disch := omega) only [sd, sb]; omega) | (simp (disch := omega) [sd] <;> fail) | (simp (disch := omega) [sd]; omega) | (simp [sd, *] <;> fail) | fail) ?_
    | refine X.stp (by conv => lhs; whnf) (by conv => lhs; whnf) (by first | assumption | first | rfl | (simp only [hgs, if_true]; rfl)) rfl (by first | omega | exact Nat.le_of_ble_eq_true rfl) rfl rfl rfl (by first | rfl | omega | exact Nat.le_of_ble_eq_true rfl | (simp (disch := omega) only [sd, sb]; omega) | (simp (disch := omega) [sd] <;> fail) | (simp (disch := omega) [sd]; omega) | (simp [sd, *] <;> fail) | fail) (by first | exact bs_getD (by first | rfl | omega | exact Nat.le_of_ble_eq_true rfl | (simp (disch := omega) only [sd, sb]; omega) | (simp (disch := omega) [sd] <;> fail) | (simp (disch := omega) [sd]; omega) | (simp [sd, *] <;> fail) | fail) | rfl) (by first | rfl | omega | exact Nat.le_of_ble_eq_true rfl | (simp (disch := omega) only [sd, sb]; omega) | (simp (disch := omega) [sd] <;> fail) | (simp (disch := omega) [sd]; omega) | (simp [sd, *] <;> fail) | fail) ?_
    | refine X.ldp (by conv => lhs; whnf) (by first | assumption | first | rfl | (simp only [hgs, if_true]; rfl)) (by first | rfl | omega | exact Nat.le_of_ble_eq_true rfl | (simp (disch := omega) only [sd, sb]; omega) | (simp (disch := omega) [sd] <;> fail) | (simp (disch := omega) [sd]; omega) | (simp [sd, *] <;> fail) | fail) (by first | exact bs_getD (by first | rfl | omega | exact Nat.le_of_ble_eq_true rfl | (simp (disch := omega) only [sd, sb]; omega) | (simp (disch := omega) [sd] <;> fail) | (simp (disch := omega) [sd]; omega) | (simp [sd, *] <;> fail) | fail) | rfl) (by first | rfl | omega | exact Nat.le_of_ble_eq_true rfl | (simp (disch := omega) only [sd, sb]; omega) | (simp (disch := omega) [sd] <;> fail) | (simp (disch := omega) [sd]; omega) | (simp [sd, *] <;> fail) | fail) rfl ?_
    | refine X.len (by conv => lhs; whnf) (by first | rfl | assumption) ?_
    | refine X.condTs rfl (by first | rfl | omega | exact Nat.le_of_ble_eq_true rfl | (simp (disch := omega) only [sd, sb]; omega) | (simp (disch := omega) [sd] <;> fail) | (simp (disch := omega) [sd]; omega) | (simp [sd, *] <;> fail) | fail) ?_
    | refine X.condFs rfl (by first | rfl | omega | exact Nat.le_of_ble_eq_true rfl | (simp (disch := omega) only [sd, sb]; omega) | (simp (disch := omega) [sd] <;> fail) | (simp (disch := omega) [sd]; omega) | (simp [sd, *] <;> fail) | fail) ?_
    | refine X.g1Ts rfl (by first | rfl | omega | exact Nat.le_of_ble_eq_true rfl | (simp (disch := omega) only [sd, sb]; omega) | (simp (disch := omega) [sd] <;> fail) | (simp (disch := omega) [sd]; omega) | (simp [sd, *] <;> fail) | fail) ?_
    | refine X.g1Fs rfl (by first | rfl | omega | exact Nat.le_of_ble_eq_true rfl | (simp (disch := omega) only [sd, sb]; omega) | (simp (disch := omega) [sd] <;> fail) | (simp (disch := omega) [sd]; omega) | (simp [sd, *] <;> fail) | fail) ?_
    | refine X.pickTs rfl (by first | rfl | omega | exact Nat.le_of_ble_eq_true rfl | (simp (disch := omega) only [sd, sb]; omega) | (simp (disch := omega) [sd] <;> fail) | (simp (disch := omega) [sd]; omega) | (simp [sd, *] <;> fail) | fail) (fun _ => rfl) ?_
    | refine X.pickFs rfl (by first | rfl | omega | exact Nat.le_of_ble_eq_true rfl | (simp (disch := omega) only [sd, sb]; omega) | (simp (disch := omega) [sd] <;> fail) | (simp (disch := omega) [sd]; omega) | (simp [sd, *] <;> fail) | fail) (fun _ => rfl) ?_
    | refine X.mov (by conv => lhs; whnf) (by first | rfl | assumption) ?_
    )
  refine X.pcall (same_ok (putL b ty fl s q) (putL b ty fl s q) hpl) (.s (clo_vs [.one] _) (.s (clo_vs [.one] _) (.nil _))) rfl rfl rfl ?_
  rw [decide_eq_true (Eq.refl (putL b ty fl s q))]
  repeat (first
    | refine X.lpb ?_
    | refine X.seq ?_
    | refine X.skip ?_
    | refine X.ret ?_
    | refine X.exit ?_
    | refine X.blk ?_
    | refine X.sn ?_
    | refine X.se ?_
    | refine X.sr ?_
    | refine X.bn ?_
    | refine X.br ?_
    | refine X.bh ?_
    | refine X.bm rfl ?_
    | refine X.pn ?_
    | refine X.gn ?_
    | refine X.g0 ?_
    | refine X.ln ?_
    | refine X.finn ?_
    | refine X.reg0 (by conv => lhs; reduce) ?_
    | refine X.reg1 (by conv => lhs; reduce) ?_
    | refine X.gt rfl ?_
    | refine X.iav (by conv => lhs; whnf) (by conv => lhs; whnf) (by first | rfl | omega | exact Nat.le_of_ble_eq_true rfl | (simp (disch := omega) only [sd, sb]; omega) | (simp (disch := omega) [sd] <;> fail) | (simp (disch := omega) [sd]; omega) | (simp [sd, *] <;> fail) | fail) (by first | exact bs_getD (by first | rfl | omega | exact Nat.le_of_ble_eq_true rfl | (simp (disch := omega) only [sd, sb]; omega) | (simp (disch := omega) [sd] <;> fail) | (simp (disch := omega) [sd]; omega) | (simp [sd, *] <;> fail) | fail) | rfl) ?_
    | refine X.o0 (fun _ _ => rfl) ?_
    | refine X.o1 (fun _ _ => rfl) (by first | rfl | omega | exact Nat.le_of_ble_eq_true rfl | (simp (disch := omega) only [sd, sb]; omega) | (simp (disch := omega) [sd] <;> fail) | (simp (disch := omega) [sd]; omega) | (simp [sd, *] <;> fail) | fail) ?_
    | refine X.o2 (fun _ _ => rfl) (by first | rfl | omega | exact Nat.le_of_ble_eq_true rfl | (simp (disch := omega) only [sd, sb]; omega) | (simp (disch := omega) [sd] <;> fail) | (simp (disch := omega) [sd]; omega) | (simp [sd, *] <;> fail) | fail) (by first | rfl | omega | exact Nat.le_of_ble_eq_true rfl | (simp (disch := omega) only [sd, sb]; omega) | (simp (disch := omega) [sd] <;> fail) | (simp (disch := omega) [sd]; omega) | (simp [sd, *] <;> fail) | fail) ?_
    | refine X.o3 (fun _ _ => rfl) (by first | rfl | omega | exact Nat.le_of_ble_eq_true rfl | (simp (disch := omega) only [sd, sb]; omega) | (simp (disch := omega) [sd] <;> fail) | (simp (disch := omega) [sd]; omega) | (simp [sd, *] <;> fail) | fail) (by first | rfl | omega | exact Nat.le_of_ble_eq_true rfl | (simp (disch := omega) only [sd, sb]; omega) | (simp (disch := omega) [sd] <;> fail) | (simp (disch := omega) [sd]; omega) | (simp [sd, *] <;> fail) | fail) (by first | rfl | omega | exact Nat.le_of_ble_eq_true rfl | (simp (disch := omega) only [sd, sb]; omega) | (simp (disch := omega) [sd] <;> fail) | (simp (disch := omega) [sd]; omega) | (simp [sd, *] <;> fail) | fail) ?_
    | refine X.pickT rfl (fun _ => rfl) ?_
    | refine X.pickF rfl (fun _ => rfl) ?_
    | refine X.condT rfl ?_
    | refine X.condF rfl ?_
    | refine X.g1T rfl ?_
    | refine X.g1F rfl ?_
    | refine X.alc rfl ?_
    | refine X.box (by conv => lhs; whnf) rfl rfl ?_
    | refine X.stl (by conv => lhs; whnf) rfl rfl rfl rfl rfl rfl rfl ?_
    | refine X.apf (by conv => lhs; whnf) (by conv => lhs; whnf) (by first | exact Els.vs _ | exact Els.st _ | exact Els.ns) (by first | rfl | (simp only [hgs, if_true]; rfl)) rfl rfl (by first | rfl | omega | exact Nat.le_of_ble_eq_true rfl | (simp (disch := omega) only [sd, sb]; omega) | (simp (disch := omega) [sd] <;> fail) | (simp (disch := omega) [sd]; omega) | (simp [sd, *] <;> fail) | fail) (by first | rfl | omega | exact Nat.le_of_ble_eq_true rfl | (simp (disch := omega) only [sd, sb]; omega) | (simp (disch := omega) [sd] <;> fail) | (simp (disch := omega) [sd]; omega) | (simp [sd, *] <;> fail) | fail) (by conv => lhs; whnf) ?_
    | refine X.bsl rfl (by conv => lhs; whnf) ?_
    | refine X.alh (by conv => lhs; whnf) ?_
    | refine X.bxh (by conv => lhs; whnf) rfl (by conv => lhs; whnf) ?_
    | refine X.mks (by conv => lhs; whnf) (by conv => lhs; whnf) (by first | rfl | omega | exact Nat.le_of_ble_eq_true rfl | (simp (disch := omega) only [sd, sb]; omega) | (simp (disch := omega) [sd] <;> fail) | (simp (disch := omega) [sd]; omega) | (simp [sd, *] <;> fail) | fail) (by first | rfl | omega | exact Nat.le_of_ble_eq_true rfl | (simp (disch := omega) only [sd, sb]; omega) | (simp (disch := omega) [sd] <;> fail) | (simp (disch := omega) [sd]; omega) | (simp [sd, *] <;> fail) | fail) (by first | rfl | omega | exact Nat.le_of_ble_eq_true rfl | (simp (disch := omega) only [sd, sb]; omega) | (simp (disch := omega) [sd] <;> fail) | (simp (disch := omega) [sd]; omega) | (simp [sd, *] <;> fail) | fail) (by decide) (by conv => lhs; whnf) (by first | exact wr_add_nat (by first | rfl | omega | exact Nat.le_of_ble_eq_true rfl | (simp (disch := omega) only [sd, sb]; omega) | (simp (disch := omega) [sd] <;> fail) | (simp (disch := omega) [sd]; omega) | (simp [sd, *] <;> fail) | fail) | (conv => lhs; whnf)) ?_
    | refine X.cpy (by conv => lhs; whnf) (by conv => lhs; whnf) (elems_vs _) (by first | assumption | first | rfl | (simp only [hgs, if_true]; rfl)) rfl rfl (by first | rfl | omega | exact Nat.le_of_ble_eq_true rfl | (simp (disch := omega) only [sd, sb]; omega) | (simp (disch := omega) [sd] <;> fail) | (simp (disch := omega) [sd]; omega) | (simp [sd, *] <;> fail) | fail) (by first | rfl | omega | exact Nat.le_of_ble_eq_true rfl | (simp (disch := omega) only [sd, sb]; omega) | (simp (disch := omega) [sd] <;> fail) | (simp (disch := omega) [sd]; omega) | (simp [sd, *] <;> fail) | fail) ?_
    | refine X.iah (by conv => lhs; whnf) (by conv => lhs; whnf) (by first | assumption | first | rfl | (simp only [hgs, if_true]; rfl)) rfl (by first | rfl | omega | exact Nat.le_of_ble_eq_true rfl | (simp (disch := omega) only [sd, sb]; omega) | (simp (disch := omega) [sd] <;> fail) | (simp (disch := omega) [sd]; omega) | (simp [sd, *] <;> fail) | fail) ?_
    | refine X.stp (by conv => lhs; whnf) (by conv => lhs; whnf) (by first | assumption | first | rfl | (simp only [hgs, if_true]; rfl)) rfl (by first | omega | exact Nat.le_of_ble_eq_true rfl) rfl rfl rfl (by first | rfl | omega | exact Nat.le_of_ble_eq_true rfl | (simp (disch := omega) only [sd, sb]; omega) | (simp (disch := omega) [sd] <;> fail) | (simp (disch := omega) [sd]; omega) | (simp [sd, *] <;> fail) | fail) (by first | exact bs_getD (by first | rfl | omega | exact Nat.le_of_ble_eq_true rfl | (simp (disch := omega) only [sd, sb]; omega) | (simp (disch := omega) [sd] <;> fail) | (simp (disch := omega) [sd]; omega) | (simp [sd, *] <;> fail) | fail) | rfl) (by first | rfl | omega | exact Nat.le_of_ble_eq_true rfl | (simp (disch := omega) only [sd, sb]; omega) | (simp (disch := omega) [sd] <;> fail) | (simp (disch := omega) [sd]; omega) | (simp [sd, *] <;> fail) | fail) ?_
    | refine X.ldp (by conv => lhs; whnf) (by first | assumption | first | rfl | (simp only [hgs, if_true]; rfl)) (by first | rfl | omega | exact Nat.le_of_ble_eq_true rfl | (simp (disch := omega) only [sd, sb]; omega) | (simp (disch := omega) [sd] <;> fail) | (simp (disch := omega) [sd]; omega) | (simp [sd, *] <;> fail) | fail) (by first | exact bs_getD (by first | rfl | omega | exact Nat.le_of_ble_eq_true rfl | (simp (disch := omega) only [sd, sb]; omega) | (simp (disch := omega) [sd] <;> fail) | (simp (disch := omega) [sd]; omega) | (simp [sd, *] <;> fail) | fail) | rfl) (by first | rfl | omega | exact Nat.le_of_ble_eq_true rfl | (simp (disch := omega) only [sd, sb]; omega) | (simp (disch := omega) [sd] <;> fail) | (simp (disch := omega) [sd]; omega) | (simp [sd, *] <;> fail) | fail) rfl ?_
    | refine X.len (by conv => lhs; whnf) (by first | rfl | assumption) ?_
    | refine X.condTs rfl (by first | rfl | omega | exact Nat.le_of_ble_eq_true rfl | (simp (disch := omega) only [sd, sb]; omega) | (simp (disch := omega) [sd] <;> fail) | (simp (disch := omega) [sd]; omega) | (simp [sd, *] <;> fail) | fail) ?_
    | refine X.condFs rfl (by first | rfl | omega | exact Nat.le_of_ble_eq_true rfl | (simp (disch := omega) only [sd, sb]; omega) | (simp (disch := omega) [sd] <;> fail) | (simp (disch := omega) [sd]; omega) | (simp [sd, *] <;> fail) | fail) ?_
    | refine X.g1Ts rfl (by first | rfl | omega | exact Nat.le_of_ble_eq_true rfl | (simp (disch := omega) only [sd, sb]; omega) | (simp (disch := omega) [sd] <;> fail) | (simp (disch := omega) [sd]; omega) | (simp [sd, *] <;> fail) | fail) ?_
    | refine X.g1Fs rfl (by first | rfl | omega | exact Nat.le_of_ble_eq_true rfl | (simp (disch := omega) only [sd, sb]; omega) | (simp (disch := omega) [sd] <;> fail) | (simp (disch := omega) [sd]; omega) | (simp [sd, *] <;> fail) | fail) ?_
    | refine X.pickTs rfl (by first | rfl | omega | exact Nat.le_of_ble_eq_true rfl | (simp (disch := omega) only [sd, sb]; omega) | (simp (disch := omega) [sd] <;> fail) | (simp (disch := omega) [sd]; omega) | (simp [sd, *] <;> fail) | fail) (fun _ => rfl) ?_
    | refine X.pickFs rfl (by first | rfl | omega | exact Nat.le_of_ble_eq_true rfl | (simp (disch := omega) only [sd, sb]; omega) | (simp (disch := omega) [sd] <;> fail) | (simp (disch := omega) [sd]; omega) | (simp [sd, *] <;> fail) | fail) (fun _ => rfl) ?_
    | refine X.mov (by conv => lhs; whnf) (by first | rfl | assumption) ?_
    )
  refine X.pcall (intact_ok b 7 (by omega)) (.s (clo_vs [.one] _) (.s (clo_vs [.one] _) (.s (clo_it _ _) (.nil _)))) rfl rfl rfl ?_
  repeat (first
    | refine X.lpb ?_
    | refine X.seq ?_
    | refine X.skip ?_
    | refine X.ret ?_
    | refine X.exit ?_
    | refine X.blk ?_
    | refine X.sn ?_
    | refine X.se ?_
    | refine X.sr ?_
    | refine X.bn ?_
    | refine X.br ?_
    | refine X.bh ?_
    | refine X.bm rfl ?_
    | refine X.pn ?_
    | refine X.gn ?_
    | refine X.g0 ?_
    | refine X.ln ?_
    | refine X.finn ?_
    | refine X.reg0 (by conv => lhs; reduce) ?_
    | refine X.reg1 (by conv => lhs; reduce) ?_
    | refine X.gt rfl ?_
    | refine X.iav (by conv => lhs; whnf) (by conv => lhs; whnf) (by first | rfl | omega | exact Nat.le_of_ble_eq_true rfl | (simp (disch := omega) only [sd, sb]; omega) | (simp (disch := omega) [sd] <;> fail) | (simp (disch := omega) [sd]; omega) | (simp [sd, *] <;> fail) | fail) (by first | exact bs_getD (by first | rfl | omega | exact Nat.le_of_ble_eq_true rfl | (simp (disch := omega) only [sd, sb]; omega) | (simp (disch := omega) [sd] <;> fail) | (simp (disch := omega) [sd]; omega) | (simp [sd, *] <;> fail) | fail) | rfl) ?_
    | refine X.o0 (fun _ _ => rfl) ?_
    | refine X.o1 (fun _ _ => rfl) (by first | rfl | omega | exact Nat.le_of_ble_eq_true rfl | (simp (disch := omega) only [sd, sb]; omega) | (simp (disch := omega) [sd] <;> fail) | (simp (disch := omega) [sd]; omega) | (simp [sd, *] <;> fail) | fail) ?_
    | refine X.o2 (fun _ _ => rfl) (by first | rfl | omega | exact Nat.le_of_ble_eq_true rfl | (simp (disch := omega) only [sd, sb]; omega) | (simp (disch := omega) [sd] <;> fail) | (simp (disch := omega) [sd]; omega) | (simp [sd, *] <;> fail) | fail) (by first | rfl | omega | exact Nat.le_of_ble_eq_true rfl | (simp (disch := omega) only [sd, sb]; omega) | (simp (disch := omega) [sd] <;> fail) | (simp (disch := omega) [sd]; omega) | (simp [sd, *] <;> fail) | fail) ?_
    | refine X.o3 (fun _ _ => rfl) (by first | rfl | omega | exact Nat.le_of_ble_eq_true rfl | (simp (disch := omega) only [sd, sb]; omega) | (simp (disch := omega) [sd] <;> fail) | (simp (disch := omega) [sd]; omega) | (simp [sd, *] <;> fail) | fail) (by first | rfl | omega | exact Nat.le_of_ble_eq_true rfl | (simp (disch := omega) only [sd, sb]; omega) | (simp (disch := omega) [sd] <;> fail) | (simp (disch := omega) [sd]; omega) | (simp [sd, *] <;> fail) | fail) (by first | rfl | omega | exact Nat.le_of_ble_eq_true rfl | (simp (disch := omega) only [sd, sb]; omega) | (simp (disch := omega) [sd] <;> fail) | (simp (disch := omega) [sd]; omega) | (simp [sd, *] <;> fail) | fail) ?_
    | refine X.pickT rfl (fun _ => rfl) ?_
    | refine X.pickF rfl (fun _ => rfl) ?_
    | refine X.condT rfl ?_
    | refine X.condF rfl ?_
    | refine X.g1T rfl ?_
    | refine X.g1F rfl ?_
    | refine X.alc rfl ?_
    | refine X.box (by conv => lhs; whnf) rfl rfl ?_
    | refine X.stl (by conv => lhs; whnf) rfl rfl rfl rfl rfl rfl rfl ?_
    | refine X.apf (by conv => lhs; whnf) (by conv => lhs; whnf) (by first | exact Els.vs _ | exact Els.st _ | exact Els.ns) (by first | rfl | (simp only [hgs, if_true]; rfl)) rfl rfl (by first | rfl | omega | exact Nat.le_of_ble_eq_true rfl | (simp (disch := omega) only [sd, sb]; omega) | (simp (disch := omega) [sd] <;> fail) | (simp (disch := omega) [sd]; omega) | (simp [sd, *] <;> fail) | fail) (by first | rfl | omega | exact Nat.le_of_ble_eq_true rfl | (simp (disch := omega) only [sd, sb]; omega) | (simp (disch := omega) [sd] <;> fail) | (simp (disch := omega) [sd]; omega) | (simp [sd, *] <;> fail) | fail) (by conv => lhs; whnf) ?_
    | refine X.bsl rfl (by conv => lhs; whnf) ?_
    | refine X.alh (by conv => lhs; whnf) ?_
    | refine X.bxh (by conv => lhs; whnf) rfl (by conv => lhs; whnf) ?_
    | refine X.mks (by conv => lhs; whnf) (by conv => lhs; whnf) (by first | rfl | omega | exact Nat.le_of_ble_eq_true rfl | (simp (disch := omega) only [sd, sb]; omega) | (simp (disch := omega) [sd] <;> fail) | (simp (disch := omega) [sd]; omega) | (simp [sd, *] <;> fail) | fail) (by first | rfl | omega | exact Nat.le_of_ble_eq_true rfl | (simp (disch := omega) only [sd, sb]; omega) | (simp (disch := omega) [sd] <;> fail) | (simp (disch := omega) [sd]; omega) | (simp [sd, *] <;> fail) | fail) (by first | rfl | omega | exact Nat.le_of_ble_eq_true rfl | (simp (disch := omega) only [sd, sb]; omega) | (simp (disch := omega) [sd] <;> fail) | (simp (disch := omega) [sd]; omega) | (simp [sd, *] <;> fail) | fail) (by decide) (by conv => lhs; whnf) (by first | exact wr_add_nat (by first | rfl | omega | exact Nat.le_of_ble_eq_true rfl | (simp (disch := omega) only [sd, sb]; omega) | (simp (disch := omega) [sd] <;> fail) | (simp (disch := omega) [sd]; omega) | (simp [sd, *] <;> fail) | fail) | (conv => lhs; whnf)) ?_
    | refine X.cpy (by conv => lhs; whnf) (by conv => lhs; whnf) (elems_vs _) (by first | assumption | first | rfl | (simp only [hgs, if_true]; rfl)) rfl rfl (by first | rfl | omega | exact Nat.le_of_ble_eq_true rfl | (simp (disch := omega) only [sd, sb]; omega) | (simp (disch := omega) [sd] <;> fail) | (simp (disch := omega) [sd]; omega) | (simp [sd, *] <;> fail) | fail) (by first | rfl | omega | exact Nat.le_of_ble_eq_true rfl | (simp (disch := omega) only [sd, sb]; omega) | (simp (disch := omega) [sd] <;> fail) | (simp (disch := omega) [sd]; omega) | (simp [sd, *] <;> fail) | fail) ?_
    | refine X.iah (by conv => lhs; whnf) (by conv => lhs; whnf) (by first | assumption | first | rfl | (simp only [hgs, if_true]; rfl)) rfl (by first | rfl | omega | exact Nat.le_of_ble_eq_true rfl | (simp (disch := omega) only [sd, sb]; omega) | (simp (disch := omega) [sd] <;> fail) | (simp (disch := omega) [sd]; omega) | (simp [sd, *] <;> fail) | fail) ?_
    | refine X.stp (by conv => lhs; whnf) (by conv => lhs; whnf) (by first | assumption | first | rfl | (simp only [hgs, if_true]; rfl)) rfl (by first | omega | exact Nat.le_of_ble_eq_true rfl) rfl rfl rfl (by first | rfl | omega | exact Nat.le_of_ble_eq_true rfl | (simp (disch := omega) only [sd, sb]; omega) | (simp (disch := omega) [sd] <;> fail) | (simp (disch := omega) [sd]; omega) | (simp [sd, *] <;> fail) | fail) (by first | exact bs_getD (by first | rfl | omega | exact Nat.le_of_ble_eq_true rfl | (simp (disch := omega) only [sd, sb]; omega) | (simp (disch := omega) [sd] <;> fail) | (simp (disch := omega) [sd]; omega) | (simp [sd, *] <;> fail) | fail) | rfl) (by first | rfl | omega | exact Nat.le_of_ble_eq_true rfl | (simp (disch := omega) only [sd, sb]; omega) | (simp (disch := omega) [sd] <;> fail) | (simp (disch := omega) [sd]; omega) | (simp [sd, *] <;> fail) | fail) ?_
    | refine X.ldp (by conv => lhs; whnf) (by first | assumption | first | rfl | (simp only [hgs, if_true]; rfl)) (by first | rfl | omega | exact Nat.le_of_ble_eq_true rfl | (simp (disch := omega) only [sd, sb]; omega) | (simp (disch := omega) [sd] <;> fail) | (simp (disch := omega) [sd]; omega) | (simp [sd, *] <;> fail) | fail) (by first | exact bs_getD (by first | rfl | omega | exact Nat.le_of_ble_eq_true rfl | (simp (disch := omega) only [sd, sb]; omega) | (simp (disch := omega) [sd] <;> fail) | (simp (disch := omega) [sd]; omega) | (simp [sd, *] <;> fail) | fail) | rfl) (by first | rfl | omega | exact Nat.le_of_ble_eq_true rfl | (simp (disch := omega) only [sd, sb]; omega) | (simp (disch := omega) [sd] <;> fail) | (simp (disch := omega) [sd]; omega) | (simp [sd, *] <;> fail) | fail) rfl ?_
    | refine X.len (by conv => lhs; whnf) (by first | rfl | assumption) ?_
    | refine X.condTs rfl (by first | rfl | omega | exact Nat.le_of_ble_eq_true rfl | (simp (disch := omega) only [sd, sb]; omega) | (simp (disch := omega) [sd] <;> fail) | (simp (disch := omega) [sd]; omega) | (simp [sd, *] <;> fail) | fail) ?_
    | refine X.condFs rfl (by first | rfl | omega | exact Nat.le_of_ble_eq_true rfl | (simp (disch := omega) only [sd, sb]; omega) | (simp (disch := omega) [sd] <;> fail) | (simp (disch := omega) [sd]; omega) | (simp [sd, *] <;> fail) | fail) ?_
    | refine X.g1Ts rfl (by first | rfl | omega | exact Nat.le_of_ble_eq_true rfl | (simp (disch := omega) only [sd, sb]; omega) | (simp (disch := omega) [sd] <;> fail) | (simp (disch := omega) [sd]; omega) | (simp [sd, *] <;> fail) | fail) ?_
    | refine X.g1Fs rfl (by first | rfl | omega | exact Nat.le_of_ble_eq_true rfl | (simp (disch := omega) only [sd, sb]; omega) | (simp (disch := omega) [sd] <;> fail) | (simp (disch := omega) [sd]; omega) | (simp [sd, *] <;> fail) | fail) ?_
    | refine X.pickTs rfl (by first | rfl | omega | exact Nat.le_of_ble_eq_true rfl | (simp (disch := omega) only [sd, sb]; omega) | (simp (disch := omega) [sd] <;> fail) | (simp (disch := omega) [sd]; omega) | (simp [sd, *] <;> fail) | fail) (fun _ => rfl) ?_
    | refine X.pickFs rfl (by first | rfl | omega | exact Nat.le_of_ble_eq_true rfl | (simp (disch := omega) only [sd, sb]; omega) | (simp (disch := omega) [sd] <;> fail) | (simp (disch := omega) [sd]; omega) | (simp [sd, *] <;> fail) | fail) (fun _ => rfl) ?_
    | refine X.mov (by conv => lhs; whnf) (by first | rfl | assumption) ?_
    )
  refine X.pcall (intact_ok q 8 (by omega)) (.s (clo_vs [.one] _) (.s (clo_vs [.one] _) (.s (clo_it _ _) (.nil _)))) rfl rfl rfl ?_
  repeat (first
    | refine X.lpb ?_
    | refine X.seq ?_
    | refine X.skip ?_
    | refine X.ret ?_
    | refine X.exit ?_
    | refine X.blk ?_
    | refine X.sn ?_
    | refine X.se ?_
    | refine X.sr ?_
    | refine X.bn ?_
    | refine X.br ?_
    | refine X.bh ?_
    | refine X.bm rfl ?_
    | refine X.pn ?_
    | refine X.gn ?_
    | refine X.g0 ?_
    | refine X.ln ?_
    | refine X.finn ?_
    | refine X.reg0 (by conv => lhs; reduce) ?_
    | refine X.reg1 (by conv => lhs; reduce) ?_
    | refine X.gt rfl ?_
    | refine X.iav (by conv => lhs; whnf) (by conv => lhs; whnf) (by first | rfl | omega | exact Nat.le_of_ble_eq_true rfl | (simp (disch := omega) only [sd, sb]; omega) | (simp (disch := omega) [sd] <;> fail) | (simp (disch := omega) [sd]; omega) | (simp [sd, *] <;> fail) | fail) (by first | exact bs_getD (by first | rfl | omega | exact Nat.le_of_ble_eq_true rfl | (simp (disch := omega) only [sd, sb]; omega) | (simp (disch := omega) [sd] <;> fail) | (simp (disch := omega) [sd]; omega) | (simp [sd, *] <;> fail) | fail) | rfl) ?_
    | refine X.o0 (fun _ _ => rfl) ?_
    | refine X.o1 (fun _ _ => rfl) (by first | rfl | omega | exact Nat.le_of_ble_eq_true rfl | (simp (disch := omega) only [sd, sb]; omega) | (simp (disch := omega) [sd] <;> fail) | (simp (disch := omega) [sd]; omega) | (simp [sd, *] <;> fail) | fail) ?_
    | refine X.o2 (fun _ _ => rfl) (by first | rfl | omega | exact Nat.le_of_ble_eq_true rfl | (simp (disch := omega) only [sd, sb]; omega) | (simp (disch := omega) [sd] <;> fail) | (simp (disch := omega) [sd]; omega) | (simp [sd, *] <;> fail) | fail) (by first | rfl | omega | exact Nat.le_of_ble_eq_true rfl | (simp (disch := omega) only [sd, sb]; omega) | (simp (disch := omega) [sd] <;> fail) | (simp (disch := omega) [sd]; omega) | (simp [sd, *] <;> fail) | fail) ?_
    | refine X.o3 (fun _ _ => rfl) (by first | rfl | omega | exact Nat.le_of_ble_eq_true rfl | (simp (disch := omega) only [sd, sb]; omega) | (simp (disch := omega) [sd] <;> fail) | (simp (disch := omega) [sd]; omega) | (simp [sd, *] <;> fail) | fail) (by first | rfl | omega | exact Nat.le_of_ble_eq_true rfl | (simp (disch := omega) only [sd, sb]; omega) | (simp (disch := omega) [sd] <;> fail) | (simp (disch := omega) [sd]; omega) | (simp [sd, *] <;> fail) | fail) (by first | rfl | omega | exact Nat.le_of_ble_eq_true rfl | (simp (disch := omega) only [sd, sb]; omega) | (simp (disch := omega) [sd] <;> fail) | (simp (disch := omega) [sd]; omega) | (simp [sd, *] <;> fail) | fail) ?_
    | refine X.pickT rfl (fun _ => rfl) ?_
    | refine X.pickF rfl (fun _ => rfl) ?_
    | refine X.condT rfl ?_
    | refine X.condF rfl ?_
    | refine X.g1T rfl ?_
    | refine X.g1F rfl ?_
    | refine X.alc rfl ?_
    | refine X.box (by conv => lhs; whnf) rfl rfl ?_
    | refine X.stl (by conv => lhs; whnf) rfl rfl rfl rfl rfl rfl rfl ?_
    | refine X.apf (by conv => lhs; whnf) (by conv => lhs; whnf) (by first | exact Els.vs _ | exact Els.st _ | exact Els.ns) (by first | rfl | (simp only [hgs, if_true]; rfl)) rfl rfl (by first | rfl | omega | exact Nat.le_of_ble_eq_true rfl | (simp (disch := omega) only [sd, sb]; omega) | (simp (disch := omega) [sd] <;> fail) | (simp (disch := omega) [sd]; omega) | (simp [sd, *] <;> fail) | fail) (by first | rfl | omega | exact Nat.le_of_ble_eq_true rfl | (simp (disch := omega) only [sd, sb]; omega) | (simp (disch := omega) [sd] <;> fail) | (simp (disch := omega) [sd]; omega) | (simp [sd, *] <;> fail) | fail) (by conv => lhs; whnf) ?_
    | refine X.bsl rfl (by conv => lhs; whnf) ?_
    | refine X.alh (by conv => lhs; whnf) ?_
    | refine X.bxh (by conv => lhs; whnf) rfl (by conv => lhs; whnf) ?_
    | refine X.mks (by conv => lhs; whnf) (by conv => lhs; whnf) (by first | rfl | omega | exact Nat.le_of_ble_eq_true rfl | (simp (disch := omega) only [sd, sb]; omega) | (simp (disch := omega) [sd] <;> fail) | (simp (disch := omega) [sd]; omega) | (simp [sd, *] <;> fail) | fail) (by first | rfl | omega | exact Nat.le_of_ble_eq_true rfl | (simp (disch := omega) only [sd, sb]; omega) | (simp (disch := omega) [sd] <;> fail) | (simp (disch := omega) [sd]; omega) | (simp [sd, *] <;> fail) | fail) (by first | rfl | omega | exact Nat.le_of_ble_eq_true rfl | (simp (disch := omega) only [sd, sb]; omega) | (simp (disch := omega) [sd] <;> fail) | (simp (disch := omega) [sd]; omega) | (simp [sd, *] <;> fail) | fail) (by decide) (by conv => lhs; whnf) (by first | exact wr_add_nat (by first | rfl | omega | exact Nat.le_of_ble_eq_true rfl | (simp (disch := omega) only [sd, sb]; omega) | (simp (disch := omega) [sd] <;> fail) | (simp (disch := omega) [sd]; omega) | (simp [sd, *] <;> fail) | fail) | (conv => lhs; whnf)) ?_
    | refine X.cpy (by conv => lhs; whnf) (by conv => lhs; whnf) (elems_vs _) (by first | assumption | first | rfl | (simp only [hgs, if_true]; rfl)) rfl rfl (by first | rfl | omega | exact Nat.le_of_ble_eq_true rfl | (simp (disch := omega) only [sd, sb]; omega) | (simp (disch := omega) [sd] <;> fail) | (simp (disch := omega) [sd]; omega) | (simp [sd, *] <;> fail) | fail) (by first | rfl | omega | exact Nat.le_of_ble_eq_true rfl | (simp (disch := omega) only [sd, sb]; omega) | (simp (disch := omega) [sd] <;> fail) | (simp (disch := omega) [sd]; omega) | (simp [sd, *] <;> fail) | fail) ?_
    | refine X.iah (by conv => lhs; whnf) (by conv => lhs; whnf) (by first | assumption | first | rfl | (simp only [hgs, if_true]; rfl)) rfl (by first | rfl | omega | exact Nat.le_of_ble_eq_true rfl | (simp (disch := omega) only [sd, sb]; omega) | (simp (disch := omega) [sd] <;> fail) | (simp (disch := omega) [sd]; omega) | (simp [sd, *] <;> fail) | fail) ?_
    | refine X.stp (by conv => lhs; whnf) (by conv => lhs; whnf) (by first | assumption | first | rfl | (simp only [hgs, if_true]; rfl)) rfl (by first | omega | exact Nat.le_of_ble_eq_true rfl) rfl rfl rfl (by first | rfl | omega | exact Nat.le_of_ble_eq_true rfl | (simp (disch := omega) only [sd, sb]; omega) | (simp (disch := omega) [sd] <;> fail) | (simp (disch := omega) [sd]; omega) | (simp [sd, *] <;> fail) | fail) (by first | exact bs_getD (by first | rfl | omega | exact Nat.le_of_ble_eq_true rfl | (simp (disch := omega) only [sd, sb]; omega) | (simp (disch := omega) [sd] <;> fail) | (simp (disch := omega) [sd]; omega) | (simp [sd, *] <;> fail) | fail) | rfl) (by first | rfl | omega | exact Nat.le_of_ble_eq_true rfl | (simp (disch := omega) only [sd, sb]; omega) | (simp (disch := omega) [sd] <;> fail) | (simp (disch := omega) [sd]; omega) | (simp [sd, *] <;> fail) | fail) ?_
    | refine X.ldp (by conv => lhs; whnf) (by first | assumption | first | rfl | (simp only [hgs, if_true]; rfl)) (by first | rfl | omega | exact Nat.le_of_ble_eq_true rfl | (simp (disch := omega) only [sd, sb]; omega) | (simp (disch := omega) [sd] <;> fail) | (simp (disch := omega) [sd]; omega) | (simp [sd, *] <;> fail) | fail) (by first | exact bs_getD (by first | rfl | omega | exact Nat.le_of_ble_eq_true rfl | (simp (disch := omega) only [sd, sb]; omega) | (simp (disch := omega) [sd] <;> fail) | (simp (disch := omega) [sd]; omega) | (simp [sd, *] <;> fail) | fail) | rfl) (by first | rfl | omega | exact Nat.le_of_ble_eq_true rfl | (simp (disch := omega) only [sd, sb]; omega) | (simp (disch := omega) [sd] <;> fail) | (simp (disch := omega) [sd]; omega) | (simp [sd, *] <;> fail) | fail) rfl ?_
    | refine X.len (by conv => lhs; whnf) (by first | rfl | assumption) ?_
    | refine X.condTs rfl (by first | rfl | omega | exact Nat.le_of_ble_eq_true rfl | (simp (disch := omega) only [sd, sb]; omega) | (simp (disch := omega) [sd] <;> fail) | (simp (disch := omega) [sd]; omega) | (simp [sd, *] <;> fail) | fail) ?_
    | refine X.condFs rfl (by first | rfl | omega | exact Nat.le_of_ble_eq_true rfl | (simp (disch := omega) only [sd, sb]; omega) | (simp (disch := omega) [sd] <;> fail) | (simp (disch := omega) [sd]; omega) | (simp [sd, *] <;> fail) | fail) ?_
    | refine X.g1Ts rfl (by first | rfl | omega | exact Nat.le_of_ble_eq_true rfl | (simp (disch := omega) only [sd, sb]; omega) | (simp (disch := omega) [sd] <;> fail) | (simp (disch := omega) [sd]; omega) | (simp [sd, *] <;> fail) | fail) ?_
    | refine X.g1Fs rfl (by first | rfl | omega | exact Nat.le_of_ble_eq_true rfl | (simp (disch := omega) only [sd, sb]; omega) | (simp (disch := omega) [sd] <;> fail) | (simp (disch := omega) [sd]; omega) | (simp [sd, *] <;> fail) | fail) ?_
    | refine X.pickTs rfl (by first | rfl | omega | exact Nat.le_of_ble_eq_true rfl | (simp (disch := omega) only [sd, sb]; omega) | (simp (disch := omega) [sd] <;> fail) | (simp (disch := omega) [sd]; omega) | (simp [sd, *] <;> fail) | fail) (fun _ => rfl) ?_
    | refine X.pickFs rfl (by first | rfl | omega | exact Nat.le_of_ble_eq_true rfl | (simp (disch := omega) only [sd, sb]; omega) | (simp (disch := omega) [sd] <;> fail) | (simp (disch := omega) [sd]; omega) | (simp [sd, *] <;> fail) | fail) (fun _ => rfl) ?_
    | refine X.mov (by conv => lhs; whnf) (by first | rfl | assumption) ?_
    )
  refine X.pcall runs_ok (.nil _) rfl rfl rfl ?_
  repeat (first
    | refine X.lpb ?_
    | refine X.seq ?_
    | refine X.skip ?_
    | refine X.ret ?_
    | refine X.exit ?_
    | refine X.blk ?_
    | refine X.sn ?_
    | refine X.se ?_
    | refine X.sr ?_
    | refine X.bn ?_
    | refine X.br ?_
    | refine X.bh ?_
    | refine X.bm rfl ?_
    | refine X.pn ?_
    | refine X.gn ?_
    | refine X.g0 ?_
    | refine X.ln ?_
    | refine X.finn ?_
    | refine X.reg0 (by conv => lhs; reduce) ?_
    | refine X.reg1 (by conv => lhs; reduce) ?_
    | refine X.gt rfl ?_
    | refine X.iav (by conv => lhs; whnf) (by conv => lhs; whnf) (by first | rfl | omega | exact Nat.le_of_ble_eq_true rfl | (simp (disch := omega) only [sd, sb]; omega) | (simp (disch := omega) [sd] <;> fail) | (simp (disch := omega) [sd]; omega) | (simp [sd, *] <;> fail) | fail) (by first | exact bs_getD (by first | rfl | omega | exact Nat.le_of_ble_eq_true rfl | (simp (disch := omega) only [sd, sb]; omega) | (simp (disch := omega) [sd] <;> fail) | (simp (disch := omega) [sd]; omega) | (simp [sd, *] <;> fail) | fail) | rfl) ?_
    | refine X.o0 (fun _ _ => rfl) ?_
    | refine X.o1 (fun _ _ => rfl) (by first | rfl | omega | exact Nat.le_of_ble_eq_true rfl | (simp (disch := omega) only [sd, sb]; omega) | (simp (disch := omega) [sd] <;> fail) | (simp (disch := omega) [sd]; omega) | (simp [sd, *] <;> fail) | fail) ?_
    | refine X.o2 (fun _ _ => rfl) (by first | rfl | omega | exact Nat.le_of_ble_eq_true rfl | (simp (disch := omega) only [sd, sb]; omega) | (simp (disch := omega) [sd] <;> fail) | (simp (disch := omega) [sd]; omega) | (simp [sd, *] <;> fail) | fail) (by first | rfl | omega | exact Nat.le_of_ble_eq_true rfl | (simp (disch := omega) only [sd, sb]; omega) | (simp (disch := omega) [sd] <;> fail) | (simp (disch := omega) [sd]; omega) | (simp [sd, *] <;> fail) | fail) ?_
    | refine X.o3 (fun _ _ => rfl) (by first | rfl | omega | exact Nat.le_of_ble_eq_true rfl | (simp (disch := omega) only [sd, sb]; omega) | (simp (disch := omega) [sd] <;> fail) | (simp (disch := omega) [sd]; omega) | (simp [sd, *] <;> fail) | fail) (by first | rfl | omega | exact Nat.le_of_ble_eq_true rfl | (simp (disch := omega) only [sd, sb]; omega) | (simp (disch := omega) [sd] <;> fail) | (simp (disch := omega) [sd]; omega) | (simp [sd, *] <;> fail) | fail) (by first | rfl | omega | exact Nat.le_of_ble_eq_true rfl | (simp (disch := omega) only [sd, sb]; omega) | (simp (disch := omega) [sd] <;> fail) | (simp (disch := omega) [sd]; omega) | (simp [sd, *] <;> fail) | fail) ?_
    | refine X.pickT rfl (fun _ => rfl) ?_
    | refine X.pickF rfl (fun _ => rfl) ?_
    | refine X.condT rfl ?_
    | refine X.condF rfl ?_
    | refine X.g1T rfl ?_
    | refine X.g1F rfl ?_
    | refine X.alc rfl ?_
    | refine X.box (by conv => lhs; whnf) rfl rfl ?_
    | refine X.stl (by conv => lhs; whnf) rfl rfl rfl rfl rfl rfl rfl ?_
    | refine X.apf (by conv => lhs; whnf) (by conv => lhs; whnf) (by first | exact Els.vs _ | exact Els.st _ | exact Els.ns) (by first | rfl | (simp only [hgs, if_true]; rfl)) rfl rfl (by first | rfl | omega | exact Nat.le_of_ble_eq_true rfl | (simp (disch := omega) only [sd, sb]; omega) | (simp (disch := omega) [sd] <;> fail) | (simp (disch := omega) [sd]; omega) | (simp [sd, *] <;> fail) | fail) (by first | rfl | omega | exact Nat.le_of_ble_eq_true rfl | (simp (disch := omega) only [sd, sb]; omega) | (simp (disch := omega) [sd] <;> fail) | (simp (disch := omega) [sd]; omega) | (simp [sd, *] <;> fail) | fail) (by conv => lhs; whnf) ?_
    | refine X.bsl rfl (by conv => lhs; whnf) ?_
    | refine X.alh (by conv => lhs; whnf) ?_
    | refine X.bxh (by conv => lhs; whnf) rfl (by conv => lhs; whnf) ?_
    | refine X.mks (by conv => lhs; whnf) (by conv => lhs; whnf) (by first | rfl | omega | exact Nat.le_of_ble_eq_true rfl | (simp (disch := omega) only [sd, sb]; omega) | (simp (disch := omega) [sd] <;> fail) | (simp (disch := omega) [sd]; omega) | (simp [sd, *] <;> fail) | fail) (by first | rfl | omega | exact Nat.le_of_ble_eq_true rfl | (simp (disch := omega) only [sd, sb]; omega) | (simp (disch := omega) [sd] <;> fail) | (simp (disch := omega) [sd]; omega) | (simp [sd, *] <;> fail) | fail) (by first | rfl | omega | exact Nat.le_of_ble_eq_true rfl | (simp (disch := omega) only [sd, sb]; omega) | (simp (disch := omega) [sd] <;> fail) | (simp (disch := omega) [sd]; omega) | (simp [sd, *] <;> fail) | fail) (by decide) (by conv => lhs; whnf) (by first | exact wr_add_nat (by first | rfl | omega | exact Nat.le_of_ble_eq_true rfl | (simp (disch := omega) only [sd, sb]; omega) | (simp (disch := omega) [sd] <;> fail) | (simp (disch := omega) [sd]; omega) | (simp [sd, *] <;> fail) | fail) | (conv => lhs; whnf)) ?_
    | refine X.cpy (by conv => lhs; whnf) (by conv => lhs; whnf) (elems_vs _) (by first | assumption | first | rfl | (simp only [hgs, if_true]; rfl)) rfl rfl (by first | rfl | omega | exact Nat.le_of_ble_eq_true rfl | (simp (disch := omega) only [sd, sb]; omega) | (simp (disch := omega) [sd] <;> fail) | (simp (disch := omega) [sd]; omega) | (simp [sd, *] <;> fail) | fail) (by first | rfl | omega | exact Nat.le_of_ble_eq_true rfl | (simp (disch := omega) only [sd, sb]; omega) | (simp (disch := omega) [sd] <;> fail) | (simp (disch := omega) [sd]; omega) | (simp [sd, *] <;> fail) | fail) ?_
    | refine X.iah (by conv => lhs; whnf) (by conv => lhs; whnf) (by first | assumption | first | rfl | (simp only [hgs, if_true]; rfl)) rfl (by first | rfl | omega | exact Nat.le_of_ble_eq_true rfl | (simp (disch := omega) only [sd, sb]; omega) | (simp (disch := omega) [sd] <;> fail) | (simp (disch := omega) [sd]; omega) | (simp [sd, *] <;> fail) | fail) ?_
    | refine X.stp (by conv => lhs; whnf) (by conv => lhs; whnf) (by first | assumption | first | rfl | (simp only [hgs, if_true]; rfl)) rfl (by first | omega | exact Nat.le_of_ble_eq_true rfl) rfl rfl rfl (by first | rfl | omega | exact Nat.le_of_ble_eq_true rfl | (simp (disch := omega) only [sd, sb]; omega) | (simp (disch := omega) [sd] <;> fail) | (simp (disch := omega) [sd]; omega) | (simp [sd, *] <;> fail) | fail) (by first | exact bs_getD (by first | rfl | omega | exact Nat.le_of_ble_eq_true rfl | (simp (disch := omega) only [sd, sb]; omega) | (simp (disch := omega) [sd] <;> fail) | (simp (disch := omega) [sd]; omega) | (simp [sd, *] <;> fail) | fail) | rfl) (by first | rfl | omega | exact Nat.le_of_ble_eq_true rfl | (simp (disch := omega) only [sd, sb]; omega) | (simp (disch := omega) [sd] <;> fail) | (simp (disch := omega) [sd]; omega) | (simp [sd, *] <;> fail) | fail) ?_
    | refine X.ldp (by conv => lhs; whnf) (by first | assumption | first | rfl | (simp only [hgs, if_true]; rfl)) (by first | rfl | omega | exact Nat.le_of_ble_eq_true rfl | (simp (disch := omega) only [sd, sb]; omega) | (simp (disch := omega) [sd] <;> fail) | (simp (disch := omega) [sd]; omega) | (simp [sd, *] <;> fail) | fail) (by first | exact bs_getD (by first | rfl | omega | exact Nat.le_of_ble_eq_true rfl | (simp (disch := omega) only [sd, sb]; omega) | (simp (disch := omega) [sd] <;> fail) | (simp (disch := omega) [sd]; omega) | (simp [sd, *] <;> fail) | fail) | rfl) (by first | rfl | omega | exact Nat.le_of_ble_eq_true rfl | (simp (disch := omega) only [sd, sb]; omega) | (simp (disch := omega) [sd] <;> fail) | (simp (disch := omega) [sd]; omega) | (simp [sd, *] <;> fail) | fail) rfl ?_
    | refine X.len (by conv => lhs; whnf) (by first | rfl | assumption) ?_
    | refine X.condTs rfl (by first | rfl | omega | exact Nat.le_of_ble_eq_true rfl | (simp (disch := omega) only [sd, sb]; omega) | (simp (disch := omega) [sd] <;> fail) | (simp (disch := omega) [sd]; omega) | (simp [sd, *] <;> fail) | fail) ?_
    | refine X.condFs rfl (by first | rfl | omega | exact Nat.le_of_ble_eq_true rfl | (simp (disch := omega) only [sd, sb]; omega) | (simp (disch := omega) [sd] <;> fail) | (simp (disch := omega) [sd]; omega) | (simp [sd, *] <;> fail) | fail) ?_
    | refine X.g1Ts rfl (by first | rfl | omega | exact Nat.le_of_ble_eq_true rfl | (simp (disch := omega) only [sd, sb]; omega) | (simp (disch := omega) [sd] <;> fail) | (simp (disch := omega) [sd]; omega) | (simp [sd, *] <;> fail) | fail) ?_
    | refine X.g1Fs rfl (by first | rfl | omega | exact Nat.le_of_ble_eq_true rfl | (simp (disch := omega) only [sd, sb]; omega) | (simp (disch := omega) [sd] <;> fail) | (simp (disch := omega) [sd]; omega) | (simp [sd, *] <;> fail) | fail) ?_
    | refine X.pickTs rfl (by first | rfl | omega | exact Nat.le_of_ble_eq_true rfl | (simp (disch := omega) only [sd, sb]; omega) | (simp (disch := omega) [sd] <;> fail) | (simp (disch := omega) [sd]; omega) | (simp [sd, *] <;> fail) | fail) (fun _ => rfl) ?_
    | refine X.pickFs rfl (by first | rfl | omega | exact Nat.le_of_ble_eq_true rfl | (simp (disch := omega) only [sd, sb]; omega) | (simp (disch := omega) [sd] <;> fail) | (simp (disch := omega) [sd]; omega) | (simp [sd, *] <;> fail) | fail) (fun _ => rfl) ?_
    | refine X.mov (by conv => lhs; whnf) (by first | rfl | assumption) ?_
    )
  exact X.fin (fun _ => rfl) rfl rfl

theorem puts_law (xs : List V) (h : ShP [(false, [.sl [.it .u8]]), (true, [.it .i64, .it .i64, .it .i64, .sl [.it .u8]])] xs) (hs : sizP xs ≤ 1048576) : ∃ L k hp', runF (callF F L k) L c4 xs h0 = .ret (.bo true) hp' := by
  obtain ⟨v, r, rfl, h1, h, e1⟩ := h.one'
  obtain ⟨vs, r, rfl, h2, h, e2⟩ := h.grp'
  cases h.nil'
  obtain ⟨es, rfl, h3, e3⟩ := slice_of h1
  obtain ⟨b, rfl, _, e4⟩ := bytes_of h3
  obtain ⟨v1, r, rfl, g1, h2, _⟩ := h2.cons'
  obtain ⟨v2, r, rfl, g2, h2, _⟩ := h2.cons'
  obtain ⟨v3, r, rfl, g3, h2, _⟩ := h2.cons'
  obtain ⟨v4, r, rfl, g4, h2, _⟩ := h2.cons'
  cases h2.nil'
  obtain ⟨ty, rfl, _⟩ := int_of g1
  obtain ⟨fl, rfl, _⟩ := int_of g2
  obtain ⟨s, rfl, _⟩ := int_of g3
  obtain ⟨es, rfl, h5, _⟩ := slice_of g4
  obtain ⟨p, rfl, _, _⟩ := bytes_of h5
  exact law_of d4 rfl (puts_run b ty fl s p (by omega))
end Go.Proofs.Ytgofadnggipkpaa
