import Derived.Test.YtpncefcicfhibaaGreatDoorEvE
import Derived.Test.YtpncefcicfhibaaGreatDoorRdB
set_option linter.unusedVariables false
set_option linter.unusedSimpArgs false
set_option linter.unusedSectionVars false
set_option linter.unusedVariables false
set_option linter.unusedSimpArgs false
-- the document's own Put (EvHp)
namespace Go.Proofs.YtpncefcicfhibaaGreatDoor
open Go hiding Fn
open Ev tab
attribute [local irreducible] EvP EvD EvL EvC evGds evLs C.run sK bK gK pK fK lpB stepD


theorem rright_ok (ty fl s : Int) (p : List Int) : EvP F 52 c52 [.ag (fr ty fl s p)] [.bo (rightB ty fl s p.length)] := by
  refine EvP.of d52 rfl rfl rfl (v := .bo _) (h := h0) (h' := h0) ?_ (.s (clo_bo _) (.nil _))
  refine X.fn ?_
  repeat' (first | refine X.run1 ?_ | refine X.cond rfl (fun h => ?_) (fun h => ?_) | refine X.g1 rfl (fun h => ?_) (fun h => ?_) | refine X.pick rfl (fun h => ⟨_, fun _ => rfl, ?_⟩) (fun h => ⟨_, fun _ => rfl, ?_⟩))
  all_goals
    refine X.fin (fun _ => rfl) (congrArg V.bo ?_) rfl
    rw [Bool.eq_iff_iff]
    simp [rightB, ilt_eq, bs_length] at *
    try omega

theorem rput_ok (b : List Int) (ty fl s : Int) (p : List Int) (hb : b.length + p.length ≤ 10000000) : EvO F 24 c24 [.vs 1 (bs b), .ag (fr ty fl s p)] 1 (bs (putL b ty fl s p)) := by
  cases hr : rightB ty fl s p.length with
  | false =>
    rw [show putL b ty fl s p = b by simp [putL, hr]]
    refine EvO.of d24 (ts := [.one]) rfl rfl rfl rfl (id := 1) (i := 0) (len := 0 + (bs b).length) (h := hnew (hset (hnew h0 ⟨1, false, []⟩) 0 none) ⟨1, false, [] ++ bs b⟩) (es := [] ++ bs b) ?_ X.h (Nat.le_of_ble_eq_true rfl) (by simp) (by rw [List.drop_zero]; apply List.take_of_length_le; simp) (bs_clo _) (by simp [depth, bs_length]; omega)
    refine X.fn ?_
    refine X.run ?_
    refine X.pcall (rright_ok ty fl s p) (.gs (fr_clo _ _ _ _) (.nil _)) rfl rfl rfl ?_
    rw [hr]
    refine X.run ?_
    exact X.fin (fun _ => rfl) rfl rfl
  | true =>
    rw [show putL b ty fl s p = b ++ h9 ty fl s p.length ++ p by simp [putL, hr]]
    let E : List (List V) := (([] ++ bs b) ++ bs (h9 ty fl s p.length)) ++ bs p
    have hE : E = bs (b ++ h9 ty fl s p.length ++ p) := by simp [E, bs]
    refine EvO.of d24 (ts := [.one]) rfl rfl rfl rfl (id := 3) (i := 0) (len := 0 + (bs b).length + 9 + (bs p).length) (es := E)
      (h := hnew (hset (hnew (hset (hnew (hset (hnew h0 ⟨1, false, []⟩) 0 none) ⟨1, false, [] ++ bs b⟩) 1 none) ⟨1, false, ([] ++ bs b) ++ bs (h9 ty fl s p.length)⟩) 2 none) ⟨1, false, E⟩) ?_ X.h (Nat.le_of_ble_eq_true rfl) ?_ ?_ (bs_clo _) (by simp [depth, bs_length]; omega)
    · refine X.fn ?_
      refine X.run ?_
      refine X.pcall (rright_ok ty fl s p) (.gs (fr_clo _ _ _ _) (.nil _)) rfl rfl rfl ?_
      rw [hr]
      refine X.run ?_
      refine X.fin (fun _ => rfl) rfl ?_
      have e : bs (h9 ty fl s p.length) = [[V.it IntKind.u8 (wr IntKind.u8 ((Int.ofNat (bs p).length).fdiv (Int.ofNat 65536)))], [V.it IntKind.u8 (wr IntKind.u8 ((Int.ofNat (bs p).length).fdiv (Int.ofNat 256)))], [V.it IntKind.u8 (wr IntKind.u8 (Int.ofNat (bs p).length))],
          [V.it IntKind.u8 (wr IntKind.u8 ty)], [V.it IntKind.u8 (wr IntKind.u8 fl)], [V.it IntKind.u8 (wr IntKind.u8 (s.fdiv (Int.ofNat 16777216)))], [V.it IntKind.u8 (wr IntKind.u8 (s.fdiv (Int.ofNat 65536)))],
          [V.it IntKind.u8 (wr IntKind.u8 (s.fdiv (Int.ofNat 256)))], [V.it IntKind.u8 (wr IntKind.u8 s)]] := by
        simp [bs, h9, wr8m, Int.fdiv_eq_ediv_of_nonneg]
      simp only [E, e]
      rfl
    · rw [hE]; simp [bs_length, h9]; omega
    · rw [hE, List.drop_zero]; apply List.take_of_length_le; simp [bs_length, h9]; omega
end Go.Proofs.YtpncefcicfhibaaGreatDoor
