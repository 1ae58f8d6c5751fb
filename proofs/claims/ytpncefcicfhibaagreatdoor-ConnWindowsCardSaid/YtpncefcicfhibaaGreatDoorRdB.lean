import Derived.Test.YtpncefcicfhibaaGreatDoorEvE
import Derived.Test.YtpncefcicfhibaaGreatDoorRdA
set_option linter.unusedVariables false
set_option linter.unusedSimpArgs false
set_option linter.unusedSectionVars false
set_option linter.unusedVariables false
set_option linter.unusedSimpArgs false
-- (EvHp)
namespace Go.Proofs.YtpncefcicfhibaaGreatDoor
open Go hiding Fn
open Ev tab
attribute [local irreducible] EvP EvD EvL EvC evGds evLs C.run sK bK gK pK fK lpB stepD

/-- a frame's head -/
def h9 (ty fl s : Int) (n : Nat) : List Int := [(n : Int) / 65536 % 256, (n : Int) / 256 % 256, (n : Int) % 256, ty % 256, fl % 256, s / 16777216 % 256, s / 65536 % 256, s / 256 % 256, s % 256]
/-- what Put writes -/
def putL (b : List Int) (ty fl s : Int) (p : List Int) : List Int := if rightB ty fl s p.length then b ++ h9 ty fl s p.length ++ p else b

theorem put_ok (b : List Int) (ty fl s : Int) (p : List Int) (hb : b.length + p.length ≤ 10000000) : EvO F 20 c20 [.vs 1 (bs b), .ag (fr ty fl s p)] 1 (bs (putL b ty fl s p)) := by
  cases hr : rightB ty fl s p.length with
  | false =>
    rw [show putL b ty fl s p = b by simp [putL, hr]]
    by_cases hbn : b = []
    · subst hbn
      refine EvO.ofN d20 (ts := [.one]) rfl rfl rfl rfl (h := h0) ?_
      refine X.fn ?_
      refine X.run ?_
      refine X.pcall (right_ok ty fl s p) (.gs (fr_clo _ _ _ _) (.nil _)) rfl rfl rfl ?_
      rw [hr]
      refine X.run ?_
      exact X.fin (fun _ => rfl) rfl rfl
    · have el : ((bs b).drop 0).take (bs b).length = bs b := by rw [List.drop_zero, List.take_length]
      refine EvO.of d20 (ts := [.one]) rfl rfl rfl rfl (id := 0) (i := 0) (len := (bs b).length) (h := hnew h0 ⟨1, false, bs b⟩) (es := bs b) ?_ rfl (Nat.le_refl 0) (by simp) el (bs_clo _) (by simp [depth, bs_length]; omega)
      refine X.fn ?_
      refine X.run ?_
      refine X.pcall (right_ok ty fl s p) (.gs (fr_clo _ _ _ _) (.nil _)) rfl rfl rfl ?_
      rw [hr]
      refine X.run ?_
      refine X.apn X.w X.w (Els.vs _) (by simp [bs]; exact hbn) X.s X.w ?_
      refine X.run ?_
      exact X.fin (fun _ => rfl) rfl rfl
  | true =>
    rw [show putL b ty fl s p = b ++ h9 ty fl s p.length ++ p by simp [putL, hr]]
    let E : List (List V) := ((List.replicate 0 [V.it .u8 0] ++ bs b) ++ bs (h9 ty fl s p.length)) ++ bs p
    have hE : E = bs (b ++ h9 ty fl s p.length ++ p) := by simp [E, bs]
    refine EvO.of d20 (ts := [.one]) rfl rfl rfl rfl (id := 3) (i := 0) (len := 0 + (bs b).length + 9 + (bs p).length) (es := E)
      (h := hnew (hset (hnew (hset (hnew (hset (hnew h0 ⟨1, false, List.replicate 0 [V.it .u8 0]⟩) 0 none) ⟨1, false, List.replicate 0 [V.it .u8 0] ++ bs b⟩) 1 none) ⟨1, false, (List.replicate 0 [V.it .u8 0] ++ bs b) ++ bs (h9 ty fl s p.length)⟩) 2 none) ⟨1, false, E⟩) ?_ X.h (Nat.le_of_ble_eq_true rfl) ?_ ?_ (bs_clo _) (by simp [depth, bs_length]; omega)
    · refine X.fn ?_
      refine X.run ?_
      refine X.pcall (right_ok ty fl s p) (.gs (fr_clo _ _ _ _) (.nil _)) rfl rfl rfl ?_
      rw [hr]
      refine X.run ?_
      refine X.fin (fun _ => rfl) rfl ?_
      have e : bs (h9 ty fl s p.length) = [[V.it IntKind.u8 (wr IntKind.u8 ((Int.ofNat (bs p).length).fdiv (Int.ofNat 65536)))], [V.it IntKind.u8 (wr IntKind.u8 ((Int.ofNat (bs p).length).fdiv (Int.ofNat 256)))], [V.it IntKind.u8 (wr IntKind.u8 (Int.ofNat (bs p).length))],
          [V.it IntKind.u8 (wr IntKind.u8 ty)], [V.it IntKind.u8 (wr IntKind.u8 fl)], [V.it IntKind.u8 (wr IntKind.u8 (s.fdiv (Int.ofNat 16777216)))], [V.it IntKind.u8 (wr IntKind.u8 (s.fdiv (Int.ofNat 65536)))],
          [V.it IntKind.u8 (wr IntKind.u8 (s.fdiv (Int.ofNat 256)))], [V.it IntKind.u8 (wr IntKind.u8 s)]] := by
        simp [bs, h9, wr8m, Int.fdiv_eq_ediv_of_nonneg]
      simp only [E, e]
      rfl
    · rw [hE]; simp [bs_length, h9]; omega
    · rw [hE, List.drop_zero]; apply List.take_of_length_le; simp [bs_length, h9]; omega
end Go.Proofs.YtpncefcicfhibaaGreatDoor
