import Derived.Test.YtgofadnggipkpaaSpec3
import Derived.Test.YtgofadnggipkpaaClosed
import Derived.Test.YtgofadnggipkpaaEvDat
set_option linter.unusedVariables false
set_option linter.unusedSimpArgs false
namespace Go.Proofs.Ytgofadnggipkpaa
open Go hiding Fn
open Ev tab
attribute [local irreducible] EvD EvL EvC evGds evLs C.run sK bK gK pK fK lpB stepD

def L18 : C := d18.body.lps.getD 0 .skip

theorem set_take {L : List Int} {i : Nat} {m : Int} (h : i < L.length) : (L.set i m).take (i + 1) = L.take i ++ [m] := by
  apply List.ext_getElem
  · simp; omega
  · intro n h1 h2
    simp only [List.length_append, List.length_take, List.length_cons, List.length_nil] at h2
    rcases Nat.lt_or_ge n i with q | q
    · rw [List.getElem_append_left (by simp; omega)]
      simp [List.getElem_set, Nat.ne_of_gt q]
    · have : n = i := by omega
      subst this
      rw [List.getElem_append_right (by simp; omega)]
      simp

theorem roomy_loop (N : Nat) (hN : N ≤ 20000000) (m : Int) : ∀ (k i : Nat) (L : List Int) (tm : Tm) (lo : Lo) (hp : Hp), i + k = N → L.length = N → hget hp 0 = some ⟨1, false, bs L⟩ → hp.lim = 0 →
    [1, 5, 6].map (fun s => (s, tm s)) = [(1, .it .u8 m), (5, .hs 0 0 N), (6, .it .i64 (Int.ofNat i))] →
    ∃ tm' lo' hp', EvL F [1, 5, 6] [] (lpB L18) ⟨tm, lo, hp⟩ (.exit 0 ⟨upd tm' 5 (.hs 0 0 N), lo', hp'⟩) ∧ hget hp' 0 = some ⟨1, false, bs (L.take i ++ List.replicate k m)⟩ ∧ hp'.lim = 0 := by
  intro k
  induction k with
  | zero =>
    intro i L tm lo hp hi hL hg hlim hk
    have go : ∃ tm' lo', tm' 5 = .hs 0 0 N ∧ EvL F [1, 5, 6] [] (lpB L18) ⟨tm, lo, hp⟩ (.exit 0 ⟨tm', lo', hp⟩) := by
      iterate 2 apply Exists.intro
      refine ⟨?_, EvL.stop _ hk ?_ (fun s h => by cases h)⟩
      rotate_left
      · repeat (first
          | refine X.lpb ?_
          | refine X.seq ?_
          | refine X.skip ?_
          | refine X.ret ?_
          | refine X.exit ?_
          | refine X.blk ?_
          | refine X.sn ?_
          | refine X.se ?_
          | refine X.sr ?_
          | refine X.bn ?_
          | refine X.br ?_
          | refine X.bh ?_
          | refine X.bm rfl ?_
          | refine X.pn ?_
          | refine X.gn ?_
          | refine X.g0 ?_
          | refine X.ln ?_
          | refine X.finn ?_
          | refine X.reg0 (by conv => lhs; reduce) ?_
          | refine X.reg1 (by conv => lhs; reduce) ?_
          | refine X.gt rfl ?_
          | refine X.iav (by conv => lhs; whnf) (by conv => lhs; whnf) (by first | rfl | omega | exact Nat.le_of_ble_eq_true rfl | (simp (disch := omega) only [sd, sb]; omega) | (simp (disch := omega) [sd] <;> fail) | (simp (disch := omega) [sd]; omega) | (simp [sd, *] <;> fail) | fail) (by first | exact bs_getD (by first | rfl | omega | exact Nat.le_of_ble_eq_true rfl | (simp (disch := omega) only [sd, sb]; omega) | (simp (disch := omega) [sd] <;> fail) | (simp (disch := omega) [sd]; omega) | (simp [sd, *] <;> fail) | fail) | rfl) ?_
          | refine X.o0 (fun _ _ => rfl) ?_
          | refine X.o1 (fun _ _ => rfl) (by first | rfl | omega | exact Nat.le_of_ble_eq_true rfl | (simp (disch := omega) only [sd, sb]; omega) | (simp (disch := omega) [sd] <;> fail) | (simp (disch := omega) [sd]; omega) | (simp [sd, *] <;> fail) | fail) ?_
          | refine X.o2 (fun _ _ => rfl) (by first | rfl | omega | exact Nat.le_of_ble_eq_true rfl | (simp (disch := omega) only [sd, sb]; omega) | (simp (disch := omega) [sd] <;> fail) | (simp (disch := omega) [sd]; omega) | (simp [sd, *] <;> fail) | fail) (by first | rfl | omega | exact Nat.le_of_ble_eq_true rfl | (simp (disch := omega) only [sd, sb]; omega) | (simp (disch := omega) [sd] <;> fail) | (simp (disch := omega) [sd]; omega) | (simp [sd, *] <;> fail) | fail) ?_
          | refine X.o3 (fun _ _ => rfl) (by first | rfl | omega | exact Nat.le_of_ble_eq_true rfl | (simp (disch := omega) only [sd, sb]; omega) | (simp (disch := omega) [sd] <;> fail) | (simp (disch := omega) [sd]; omega) | (simp [sd, *] <;> fail) | fail) (by first | rfl | omega | exact Nat.le_of_ble_eq_true rfl | (simp (disch := omega) only [sd, sb]; omega) | (simp (disch := omega) [sd] <;> fail) | (simp (disch := omega) [sd]; omega) | (simp [sd, *] <;> fail) | fail) (by first | rfl | omega | exact Nat.le_of_ble_eq_true rfl | (simp (disch := omega) only [sd, sb]; omega) | (simp (disch := omega) [sd] <;> fail) | (simp (disch := omega) [sd]; omega) | (simp [sd, *] <;> fail) | fail) ?_
          | refine X.pickT rfl (fun _ => rfl) ?_
          | refine X.pickF rfl (fun _ => rfl) ?_
          | refine X.condT rfl ?_
          | refine X.condF rfl ?_
          | refine X.g1T rfl ?_
          | refine X.g1F rfl ?_
          | refine X.alc rfl ?_
          | refine X.box (by conv => lhs; whnf) rfl rfl ?_
          | refine X.stl (by conv => lhs; whnf) rfl rfl rfl rfl rfl rfl rfl ?_
          | refine X.apf (by conv => lhs; whnf) (by conv => lhs; whnf) (by first | exact Els.vs _ | exact Els.st _ | exact Els.ns) (by first | rfl | (simp only [hgs, if_true]; rfl)) rfl rfl (by first | rfl | omega | exact Nat.le_of_ble_eq_true rfl | (simp (disch := omega) only [sd, sb]; omega) | (simp (disch := omega) [sd] <;> fail) | (simp (disch := omega) [sd]; omega) | (simp [sd, *] <;> fail) | fail) (by first | rfl | omega | exact Nat.le_of_ble_eq_true rfl | (simp (disch := omega) only [sd, sb]; omega) | (simp (disch := omega) [sd] <;> fail) | (simp (disch := omega) [sd]; omega) | (simp [sd, *] <;> fail) | fail) (by conv => lhs; whnf) ?_
          | refine X.bsl rfl (by conv => lhs; whnf) ?_
          | refine X.alh (by conv => lhs; whnf) ?_
          | refine X.bxh (by conv => lhs; whnf) rfl (by conv => lhs; whnf) ?_
          | refine X.mks (by conv => lhs; whnf) (by conv => lhs; whnf) (by first | rfl | omega | exact Nat.le_of_ble_eq_true rfl | (simp (disch := omega) only [sd, sb]; omega) | (simp (disch := omega) [sd] <;> fail) | (simp (disch := omega) [sd]; omega) | (simp [sd, *] <;> fail) | fail) (by first | rfl | omega | exact Nat.le_of_ble_eq_true rfl | (simp (disch := omega) only [sd, sb]; omega) | (simp (disch := omega) [sd] <;> fail) | (simp (disch := omega) [sd]; omega) | (simp [sd, *] <;> fail) | fail) (by first | rfl | omega | exact Nat.le_of_ble_eq_true rfl | (simp (disch := omega) only [sd, sb]; omega) | (simp (disch := omega) [sd] <;> fail) | (simp (disch := omega) [sd]; omega) | (simp [sd, *] <;> fail) | fail) (by decide) (by conv => lhs; whnf) (by first | exact wr_add_nat (by first | rfl | omega | exact Nat.le_of_ble_eq_true rfl | (simp (disch := omega) only [sd, sb]; omega) | (simp (disch := omega) [sd] <;> fail) | (simp (disch := omega) [sd]; omega) | (simp [sd, *] <;> fail) | fail) | (conv => lhs; whnf)) ?_
          | refine X.cpy (by conv => lhs; whnf) (by conv => lhs; whnf) (elems_vs _) (by first | assumption | first | rfl | (simp only [hgs, if_true]; rfl)) rfl rfl (by first | rfl | omega | exact Nat.le_of_ble_eq_true rfl | (simp (disch := omega) only [sd, sb]; omega) | (simp (disch := omega) [sd] <;> fail) | (simp (disch := omega) [sd]; omega) | (simp [sd, *] <;> fail) | fail) (by first | rfl | omega | exact Nat.le_of_ble_eq_true rfl | (simp (disch := omega) only [sd, sb]; omega) | (simp (disch := omega) [sd] <;> fail) | (simp (disch := omega) [sd]; omega) | (simp [sd, *] <;> fail) | fail) ?_
          | refine X.iah (by conv => lhs; whnf) (by conv => lhs; whnf) (by first | assumption | first | rfl | (simp only [hgs, if_true]; rfl)) rfl (by first | rfl | omega | exact Nat.le_of_ble_eq_true rfl | (simp (disch := omega) only [sd, sb]; omega) | (simp (disch := omega) [sd] <;> fail) | (simp (disch := omega) [sd]; omega) | (simp [sd, *] <;> fail) | fail) ?_
          | refine X.stp (by conv => lhs; whnf) (by conv => lhs; whnf) (by first | assumption | first | rfl | (simp only [hgs, if_true]; rfl)) rfl (by first | omega | exact Nat.le_of_ble_eq_true rfl) rfl rfl rfl (by first | rfl | omega | exact Nat.le_of_ble_eq_true rfl | (simp (disch := omega) only [sd, sb]; omega) | (simp (disch := omega) [sd] <;> fail) | (simp (disch := omega) [sd]; omega) | (simp [sd, *] <;> fail) | fail) (by first | exact bs_getD (by first | rfl | omega | exact Nat.le_of_ble_eq_true rfl | (simp (disch := omega) only [sd, sb]; omega) | (simp (disch := omega) [sd] <;> fail) | (simp (disch := omega) [sd]; omega) | (simp [sd, *] <;> fail) | fail) | rfl) (by first | rfl | omega | exact Nat.le_of_ble_eq_true rfl | (simp (disch := omega) only [sd, sb]; omega) | (simp (disch := omega) [sd] <;> fail) | (simp (disch := omega) [sd]; omega) | (simp [sd, *] <;> fail) | fail) ?_
          | refine X.ldp (by conv => lhs; whnf) (by first | assumption | first | rfl | (simp only [hgs, if_true]; rfl)) (by first | rfl | omega | exact Nat.le_of_ble_eq_true rfl | (simp (disch := omega) only [sd, sb]; omega) | (simp (disch := omega) [sd] <;> fail) | (simp (disch := omega) [sd]; omega) | (simp [sd, *] <;> fail) | fail) (by first | exact bs_getD (by first | rfl | omega | exact Nat.le_of_ble_eq_true rfl | (simp (disch := omega) only [sd, sb]; omega) | (simp (disch := omega) [sd] <;> fail) | (simp (disch := omega) [sd]; omega) | (simp [sd, *] <;> fail) | fail) | rfl) (by first | rfl | omega | exact Nat.le_of_ble_eq_true rfl | (simp (disch := omega) only [sd, sb]; omega) | (simp (disch := omega) [sd] <;> fail) | (simp (disch := omega) [sd]; omega) | (simp [sd, *] <;> fail) | fail) rfl ?_
          | refine X.len (by conv => lhs; whnf) (by first | rfl | assumption) ?_
          | refine X.condTs rfl (by first | rfl | omega | exact Nat.le_of_ble_eq_true rfl | (simp (disch := omega) only [sd, sb]; omega) | (simp (disch := omega) [sd] <;> fail) | (simp (disch := omega) [sd]; omega) | (simp [sd, *] <;> fail) | fail) ?_
          | refine X.condFs rfl (by first | rfl | omega | exact Nat.le_of_ble_eq_true rfl | (simp (disch := omega) only [sd, sb]; omega) | (simp (disch := omega) [sd] <;> fail) | (simp (disch := omega) [sd]; omega) | (simp [sd, *] <;> fail) | fail) ?_
          | refine X.g1Ts rfl (by first | rfl | omega | exact Nat.le_of_ble_eq_true rfl | (simp (disch := omega) only [sd, sb]; omega) | (simp (disch := omega) [sd] <;> fail) | (simp (disch := omega) [sd]; omega) | (simp [sd, *] <;> fail) | fail) ?_
          | refine X.g1Fs rfl (by first | rfl | omega | exact Nat.le_of_ble_eq_true rfl | (simp (disch := omega) only [sd, sb]; omega) | (simp (disch := omega) [sd] <;> fail) | (simp (disch := omega) [sd]; omega) | (simp [sd, *] <;> fail) | fail) ?_
          | refine X.pickTs rfl (by first | rfl | omega | exact Nat.le_of_ble_eq_true rfl | (simp (disch := omega) only [sd, sb]; omega) | (simp (disch := omega) [sd] <;> fail) | (simp (disch := omega) [sd]; omega) | (simp [sd, *] <;> fail) | fail) (fun _ => rfl) ?_
          | refine X.pickFs rfl (by first | rfl | omega | exact Nat.le_of_ble_eq_true rfl | (simp (disch := omega) only [sd, sb]; omega) | (simp (disch := omega) [sd] <;> fail) | (simp (disch := omega) [sd]; omega) | (simp [sd, *] <;> fail) | fail) (fun _ => rfl) ?_
          | refine X.mov (by conv => lhs; whnf) (by first | rfl | assumption) ?_
          )
        exact EvD.done _
      · rfl
    obtain ⟨tm', lo', e5, h⟩ := go
    refine ⟨tm', lo', hp, by rw [upd_self e5]; exact h, ?_, hlim⟩
    rw [hg, List.take_of_length_le (by omega)]; simp
  | succ k ih =>
    intro i L tm lo hp hi hL hg hlim hk
    have hiL : i < L.length := by omega
    have step : ∃ tm' lo' hp', tm' 1 = .it .u8 m ∧ tm' 5 = .hs 0 0 N ∧ tm' 6 = .it .i64 (Int.ofNat (i + 1)) ∧ hget hp' 0 = some ⟨1, false, bs (L.set i m)⟩ ∧ hp'.lim = 0 ∧
        ∀ r, EvL F [1, 5, 6] [] (lpB L18) ⟨tm', lo', hp'⟩ r → EvL F [1, 5, 6] [] (lpB L18) ⟨tm, lo, hp⟩ r := by
      iterate 3 apply Exists.intro
      refine ⟨?_, ?_, ?_, ?_, ?_, fun r h => EvL.go _ hk ?_ h⟩
      rotate_left 5
      · repeat (first
          | refine X.lpb ?_
          | refine X.seq ?_
          | refine X.skip ?_
          | refine X.ret ?_
          | refine X.exit ?_
          | refine X.blk ?_
          | refine X.sn ?_
          | refine X.se ?_
          | refine X.sr ?_
          | refine X.bn ?_
          | refine X.br ?_
          | refine X.bh ?_
          | refine X.bm rfl ?_
          | refine X.pn ?_
          | refine X.gn ?_
          | refine X.g0 ?_
          | refine X.ln ?_
          | refine X.finn ?_
          | refine X.reg0 (by conv => lhs; reduce) ?_
          | refine X.reg1 (by conv => lhs; reduce) ?_
          | refine X.gt rfl ?_
          | refine X.iav (by conv => lhs; whnf) (by conv => lhs; whnf) (by first | rfl | omega | exact Nat.le_of_ble_eq_true rfl | (simp (disch := omega) only [sd, sb]; omega) | (simp (disch := omega) [sd] <;> fail) | (simp (disch := omega) [sd]; omega) | (simp [sd, *] <;> fail) | fail) (by first | exact bs_getD (by first | rfl | omega | exact Nat.le_of_ble_eq_true rfl | (simp (disch := omega) only [sd, sb]; omega) | (simp (disch := omega) [sd] <;> fail) | (simp (disch := omega) [sd]; omega) | (simp [sd, *] <;> fail) | fail) | rfl) ?_
          | refine X.o0 (fun _ _ => rfl) ?_
          | refine X.o1 (fun _ _ => rfl) (by first | rfl | omega | exact Nat.le_of_ble_eq_true rfl | (simp (disch := omega) only [sd, sb]; omega) | (simp (disch := omega) [sd] <;> fail) | (simp (disch := omega) [sd]; omega) | (simp [sd, *] <;> fail) | fail) ?_
          | refine X.o2 (fun _ _ => rfl) (by first | rfl | omega | exact Nat.le_of_ble_eq_true rfl | (simp (disch := omega) only [sd, sb]; omega) | (simp (disch := omega) [sd] <;> fail) | (simp (disch := omega) [sd]; omega) | (simp [sd, *] <;> fail) | fail) (by first | rfl | omega | exact Nat.le_of_ble_eq_true rfl | (simp (disch := omega) only [sd, sb]; omega) | (simp (disch := omega) [sd] <;> fail) | (simp (disch := omega) [sd]; omega) | (simp [sd, *] <;> fail) | fail) ?_
          | refine X.o3 (fun _ _ => rfl) (by first | rfl | omega | exact Nat.le_of_ble_eq_true rfl | (simp (disch := omega) only [sd, sb]; omega) | (simp (disch := omega) [sd] <;> fail) | (simp (disch := omega) [sd]; omega) | (simp [sd, *] <;> fail) | fail) (by first | rfl | omega | exact Nat.le_of_ble_eq_true rfl | (simp (disch := omega) only [sd, sb]; omega) | (simp (disch := omega) [sd] <;> fail) | (simp (disch := omega) [sd]; omega) | (simp [sd, *] <;> fail) | fail) (by first | rfl | omega | exact Nat.le_of_ble_eq_true rfl | (simp (disch := omega) only [sd, sb]; omega) | (simp (disch := omega) [sd] <;> fail) | (simp (disch := omega) [sd]; omega) | (simp [sd, *] <;> fail) | fail) ?_
          | refine X.pickT rfl (fun _ => rfl) ?_
          | refine X.pickF rfl (fun _ => rfl) ?_
          | refine X.condT rfl ?_
          | refine X.condF rfl ?_
          | refine X.g1T rfl ?_
          | refine X.g1F rfl ?_
          | refine X.alc rfl ?_
          | refine X.box (by conv => lhs; whnf) rfl rfl ?_
          | refine X.stl (by conv => lhs; whnf) rfl rfl rfl rfl rfl rfl rfl ?_
          | refine X.apf (by conv => lhs; whnf) (by conv => lhs; whnf) (by first | exact Els.vs _ | exact Els.st _ | exact Els.ns) (by first | rfl | (simp only [hgs, if_true]; rfl)) rfl rfl (by first | rfl | omega | exact Nat.le_of_ble_eq_true rfl | (simp (disch := omega) only [sd, sb]; omega) | (simp (disch := omega) [sd] <;> fail) | (simp (disch := omega) [sd]; omega) | (simp [sd, *] <;> fail) | fail) (by first | rfl | omega | exact Nat.le_of_ble_eq_true rfl | (simp (disch := omega) only [sd, sb]; omega) | (simp (disch := omega) [sd] <;> fail) | (simp (disch := omega) [sd]; omega) | (simp [sd, *] <;> fail) | fail) (by conv => lhs; whnf) ?_
          | refine X.bsl rfl (by conv => lhs; whnf) ?_
          | refine X.alh (by conv => lhs; whnf) ?_
          | refine X.bxh (by conv => lhs; whnf) rfl (by conv => lhs; whnf) ?_
          | refine X.mks (by conv => lhs; whnf) (by conv => lhs; whnf) (by first | rfl | omega | exact Nat.le_of_ble_eq_true rfl | (simp (disch := omega) only [sd, sb]; omega) | (simp (disch := omega) [sd] <;> fail) | (simp (disch := omega) [sd]; omega) | (simp [sd, *] <;> fail) | fail) (by first | rfl | omega | exact Nat.le_of_ble_eq_true rfl | (simp (disch := omega) only [sd, sb]; omega) | (simp (disch := omega) [sd] <;> fail) | (simp (disch := omega) [sd]; omega) | (simp [sd, *] <;> fail) | fail) (by first | rfl | omega | exact Nat.le_of_ble_eq_true rfl | (simp (disch := omega) only [sd, sb]; omega) | (simp (disch := omega) [sd] <;> fail) | (simp (disch := omega) [sd]; omega) | (simp [sd, *] <;> fail) | fail) (by decide) (by conv => lhs; whnf) (by first | exact wr_add_nat (by first | rfl | omega | exact Nat.le_of_ble_eq_true rfl | (simp (disch := omega) only [sd, sb]; omega) | (simp (disch := omega) [sd] <;> fail) | (simp (disch := omega) [sd]; omega) | (simp [sd, *] <;> fail) | fail) | (conv => lhs; whnf)) ?_
          | refine X.cpy (by conv => lhs; whnf) (by conv => lhs; whnf) (elems_vs _) (by first | assumption | first | rfl | (simp only [hgs, if_true]; rfl)) rfl rfl (by first | rfl | omega | exact Nat.le_of_ble_eq_true rfl | (simp (disch := omega) only [sd, sb]; omega) | (simp (disch := omega) [sd] <;> fail) | (simp (disch := omega) [sd]; omega) | (simp [sd, *] <;> fail) | fail) (by first | rfl | omega | exact Nat.le_of_ble_eq_true rfl | (simp (disch := omega) only [sd, sb]; omega) | (simp (disch := omega) [sd] <;> fail) | (simp (disch := omega) [sd]; omega) | (simp [sd, *] <;> fail) | fail) ?_
          | refine X.iah (by conv => lhs; whnf) (by conv => lhs; whnf) (by first | assumption | first | rfl | (simp only [hgs, if_true]; rfl)) rfl (by first | rfl | omega | exact Nat.le_of_ble_eq_true rfl | (simp (disch := omega) only [sd, sb]; omega) | (simp (disch := omega) [sd] <;> fail) | (simp (disch := omega) [sd]; omega) | (simp [sd, *] <;> fail) | fail) ?_
          | refine X.stp (by conv => lhs; whnf) (by conv => lhs; whnf) (by first | assumption | first | rfl | (simp only [hgs, if_true]; rfl)) rfl (by first | omega | exact Nat.le_of_ble_eq_true rfl) rfl rfl rfl (by first | rfl | omega | exact Nat.le_of_ble_eq_true rfl | (simp (disch := omega) only [sd, sb]; omega) | (simp (disch := omega) [sd] <;> fail) | (simp (disch := omega) [sd]; omega) | (simp [sd, *] <;> fail) | fail) (by first | exact bs_getD (by first | rfl | omega | exact Nat.le_of_ble_eq_true rfl | (simp (disch := omega) only [sd, sb]; omega) | (simp (disch := omega) [sd] <;> fail) | (simp (disch := omega) [sd]; omega) | (simp [sd, *] <;> fail) | fail) | rfl) (by first | rfl | omega | exact Nat.le_of_ble_eq_true rfl | (simp (disch := omega) only [sd, sb]; omega) | (simp (disch := omega) [sd] <;> fail) | (simp (disch := omega) [sd]; omega) | (simp [sd, *] <;> fail) | fail) ?_
          | refine X.ldp (by conv => lhs; whnf) (by first | assumption | first | rfl | (simp only [hgs, if_true]; rfl)) (by first | rfl | omega | exact Nat.le_of_ble_eq_true rfl | (simp (disch := omega) only [sd, sb]; omega) | (simp (disch := omega) [sd] <;> fail) | (simp (disch := omega) [sd]; omega) | (simp [sd, *] <;> fail) | fail) (by first | exact bs_getD (by first | rfl | omega | exact Nat.le_of_ble_eq_true rfl | (simp (disch := omega) only [sd, sb]; omega) | (simp (disch := omega) [sd] <;> fail) | (simp (disch := omega) [sd]; omega) | (simp [sd, *] <;> fail) | fail) | rfl) (by first | rfl | omega | exact Nat.le_of_ble_eq_true rfl | (simp (disch := omega) only [sd, sb]; omega) | (simp (disch := omega) [sd] <;> fail) | (simp (disch := omega) [sd]; omega) | (simp [sd, *] <;> fail) | fail) rfl ?_
          | refine X.len (by conv => lhs; whnf) (by first | rfl | assumption) ?_
          | refine X.condTs rfl (by first | rfl | omega | exact Nat.le_of_ble_eq_true rfl | (simp (disch := omega) only [sd, sb]; omega) | (simp (disch := omega) [sd] <;> fail) | (simp (disch := omega) [sd]; omega) | (simp [sd, *] <;> fail) | fail) ?_
          | refine X.condFs rfl (by first | rfl | omega | exact Nat.le_of_ble_eq_true rfl | (simp (disch := omega) only [sd, sb]; omega) | (simp (disch := omega) [sd] <;> fail) | (simp (disch := omega) [sd]; omega) | (simp [sd, *] <;> fail) | fail) ?_
          | refine X.g1Ts rfl (by first | rfl | omega | exact Nat.le_of_ble_eq_true rfl | (simp (disch := omega) only [sd, sb]; omega) | (simp (disch := omega) [sd] <;> fail) | (simp (disch := omega) [sd]; omega) | (simp [sd, *] <;> fail) | fail) ?_
          | refine X.g1Fs rfl (by first | rfl | omega | exact Nat.le_of_ble_eq_true rfl | (simp (disch := omega) only [sd, sb]; omega) | (simp (disch := omega) [sd] <;> fail) | (simp (disch := omega) [sd]; omega) | (simp [sd, *] <;> fail) | fail) ?_
          | refine X.pickTs rfl (by first | rfl | omega | exact Nat.le_of_ble_eq_true rfl | (simp (disch := omega) only [sd, sb]; omega) | (simp (disch := omega) [sd] <;> fail) | (simp (disch := omega) [sd]; omega) | (simp [sd, *] <;> fail) | fail) (fun _ => rfl) ?_
          | refine X.pickFs rfl (by first | rfl | omega | exact Nat.le_of_ble_eq_true rfl | (simp (disch := omega) only [sd, sb]; omega) | (simp (disch := omega) [sd] <;> fail) | (simp (disch := omega) [sd]; omega) | (simp [sd, *] <;> fail) | fail) (fun _ => rfl) ?_
          | refine X.mov (by conv => lhs; whnf) (by first | rfl | assumption) ?_
          )
        exact EvD.done _
      · rfl
      · rfl
      · exact wr_inc (by omega)
      · rw [hget_set]
        simp [bs, List.map_set, over]
        rfl
      · exact hlim
    obtain ⟨tm', lo', hp', e1, e5, e6, hg', hlim', go⟩ := step
    obtain ⟨t, l, p, q1, q2, q3⟩ := ih (i + 1) (L.set i m) tm' lo' hp' (by omega) (by simp [hL]) hg' hlim' (by simp [e1, e5, e6])
    refine ⟨t, l, p, go _ q1, ?_, q3⟩
    rw [q2, set_take hiL]
    simp [List.replicate_succ]

theorem roomy_ok (l : List Int) (m : Int) (hl : l.length ≤ 10000000) : EvO F 18 c18 [.vs 1 (bs l), .it .u8 m] 1 (bs (l ++ List.replicate 80 m)) := by
  let L0 : List Int := l ++ List.replicate 80 0
  let hpa : Hp := hset (hnew h0 ⟨1, false, List.replicate ((bs l).length + 80) [.it .u8 0]⟩) 0 (some ⟨1, false, bs l ++ (List.replicate ((bs l).length + 80) [.it .u8 0]).drop (bs l).length⟩)
  have e0 : bs l ++ (List.replicate ((bs l).length + 80) [V.it .u8 0]).drop (bs l).length = bs L0 := by
    simp only [L0, bs, List.map_append, List.length_map, List.drop_replicate, List.map_replicate]
    congr 2; omega
  have hga : hget hpa 0 = some ⟨1, false, bs L0⟩ := by
    simp only [hpa, hget_set, e0]
  obtain ⟨tm, lo, hp, h, hg, hlim⟩ := roomy_loop ((bs l).length + 80) (by rw [bs_length]; omega) m 80 l.length L0 (tmOf [(1, .it .u8 m), (5, .hs 0 0 ((bs l).length + 80)), (6, .it .i64 (Int.ofNat (bs l).length))]) (fun _ => none) hpa
    (by rw [bs_length]) (by simp [L0, bs_length]) hga rfl (by simp only [bs_length]; rfl)
  have ef : L0.take l.length ++ List.replicate 80 m = l ++ List.replicate 80 m := by simp [L0]
  rw [ef] at hg
  refine EvO.of d18 (ts := [.one]) rfl rfl rfl rfl (id := 0) (i := 0) (len := (bs l).length + 80) (h := hp) (es := bs (l ++ List.replicate 80 m)) ?_ hg (by omega) (by simp [bs_length]) (by rw [List.drop_zero]; apply List.take_of_length_le; simp [bs_length]) (bs_clo _) (by simp [depth, bs_length]; omega)
  refine X.fn ?_
  repeat (first
    | refine X.lpb ?_
    | refine X.seq ?_
    | refine X.skip ?_
    | refine X.ret ?_
    | refine X.exit ?_
    | refine X.blk ?_
    | refine X.sn ?_
    | refine X.se ?_
    | refine X.sr ?_
    | refine X.bn ?_
    | refine X.br ?_
    | refine X.bh ?_
    | refine X.bm rfl ?_
    | refine X.pn ?_
    | refine X.gn ?_
    | refine X.g0 ?_
    | refine X.ln ?_
    | refine X.finn ?_
    | refine X.reg0 (by conv => lhs; reduce) ?_
    | refine X.reg1 (by conv => lhs; reduce) ?_
    | refine X.gt rfl ?_
    | refine X.iav (by conv => lhs; whnf) (by conv => lhs; whnf) (by first | rfl | omega | exact Nat.le_of_ble_eq_true rfl | (simp (disch := omega) only [sd, sb]; omega) | (simp (disch := omega) [sd] <;> fail) | (simp (disch := omega) [sd]; omega) | (simp [sd, *] <;> fail) | fail) (by first | exact bs_getD (by first | rfl | omega | exact Nat.le_of_ble_eq_true rfl | (simp (disch := omega) only [sd, sb]; omega) | (simp (disch := omega) [sd] <;> fail) | (simp (disch := omega) [sd]; omega) | (simp [sd, *] <;> fail) | fail) | rfl) ?_
    | refine X.o0 (fun _ _ => rfl) ?_
    | refine X.o1 (fun _ _ => rfl) (by first | rfl | omega | exact Nat.le_of_ble_eq_true rfl | (simp (disch := omega) only [sd, sb]; omega) | (simp (disch := omega) [sd] <;> fail) | (simp (disch := omega) [sd]; omega) | (simp [sd, *] <;> fail) | fail) ?_
    | refine X.o2 (fun _ _ => rfl) (by first | rfl | omega | exact Nat.le_of_ble_eq_true rfl | (simp (disch := omega) only [sd, sb]; omega) | (simp (disch := omega) [sd] <;> fail) | (simp (disch := omega) [sd]; omega) | (simp [sd, *] <;> fail) | fail) (by first | rfl | omega | exact Nat.le_of_ble_eq_true rfl | (simp (disch := omega) only [sd, sb]; omega) | (simp (disch := omega) [sd] <;> fail) | (simp (disch := omega) [sd]; omega) | (simp [sd, *] <;> fail) | fail) ?_
    | refine X.o3 (fun _ _ => rfl) (by first | rfl | omega | exact Nat.le_of_ble_eq_true rfl | (simp (disch := omega) only [sd, sb]; omega) | (simp (disch := omega) [sd] <;> fail) | (simp (disch := omega) [sd]; omega) | (simp [sd, *] <;> fail) | fail) (by first | rfl | omega | exact Nat.le_of_ble_eq_true rfl | (simp (disch := omega) only [sd, sb]; omega) | (simp (disch := omega) [sd] <;> fail) | (simp (disch := omega) [sd]; omega) | (simp [sd, *] <;> fail) | fail) (by first | rfl | omega | exact Nat.le_of_ble_eq_true rfl | (simp (disch := omega) only [sd, sb]; omega) | (simp (disch := omega) [sd] <;> fail) | (simp (disch := omega) [sd]; omega) | (simp [sd, *] <;> fail) | fail) ?_
    | refine X.pickT rfl (fun _ => rfl) ?_
    | refine X.pickF rfl (fun _ => rfl) ?_
    | refine X.condT rfl ?_
    | refine X.condF rfl ?_
    | refine X.g1T rfl ?_
    | refine X.g1F rfl ?_
    | refine X.alc rfl ?_
    | refine X.box (by conv => lhs; whnf) rfl rfl ?_
    | refine X.stl (by conv => lhs; whnf) rfl rfl rfl rfl rfl rfl rfl ?_
    | refine X.apf (by conv => lhs; whnf) (by conv => lhs; whnf) (by first | exact Els.vs _ | exact Els.st _ | exact Els.ns) (by first | rfl | (simp only [hgs, if_true]; rfl)) rfl rfl (by first | rfl | omega | exact Nat.le_of_ble_eq_true rfl | (simp (disch := omega) only [sd, sb]; omega) | (simp (disch := omega) [sd] <;> fail) | (simp (disch := omega) [sd]; omega) | (simp [sd, *] <;> fail) | fail) (by first | rfl | omega | exact Nat.le_of_ble_eq_true rfl | (simp (disch := omega) only [sd, sb]; omega) | (simp (disch := omega) [sd] <;> fail) | (simp (disch := omega) [sd]; omega) | (simp [sd, *] <;> fail) | fail) (by conv => lhs; whnf) ?_
    | refine X.bsl rfl (by conv => lhs; whnf) ?_
    | refine X.alh (by conv => lhs; whnf) ?_
    | refine X.bxh (by conv => lhs; whnf) rfl (by conv => lhs; whnf) ?_
    | refine X.mks (by conv => lhs; whnf) (by conv => lhs; whnf) (by first | rfl | omega | exact Nat.le_of_ble_eq_true rfl | (simp (disch := omega) only [sd, sb]; omega) | (simp (disch := omega) [sd] <;> fail) | (simp (disch := omega) [sd]; omega) | (simp [sd, *] <;> fail) | fail) (by first | rfl | omega | exact Nat.le_of_ble_eq_true rfl | (simp (disch := omega) only [sd, sb]; omega) | (simp (disch := omega) [sd] <;> fail) | (simp (disch := omega) [sd]; omega) | (simp [sd, *] <;> fail) | fail) (by first | rfl | omega | exact Nat.le_of_ble_eq_true rfl | (simp (disch := omega) only [sd, sb]; omega) | (simp (disch := omega) [sd] <;> fail) | (simp (disch := omega) [sd]; omega) | (simp [sd, *] <;> fail) | fail) (by decide) (by conv => lhs; whnf) (by first | exact wr_add_nat (by first | rfl | omega | exact Nat.le_of_ble_eq_true rfl | (simp (disch := omega) only [sd, sb]; omega) | (simp (disch := omega) [sd] <;> fail) | (simp (disch := omega) [sd]; omega) | (simp [sd, *] <;> fail) | fail) | (conv => lhs; whnf)) ?_
    | refine X.cpy (by conv => lhs; whnf) (by conv => lhs; whnf) (elems_vs _) (by first | assumption | first | rfl | (simp only [hgs, if_true]; rfl)) rfl rfl (by first | rfl | omega | exact Nat.le_of_ble_eq_true rfl | (simp (disch := omega) only [sd, sb]; omega) | (simp (disch := omega) [sd] <;> fail) | (simp (disch := omega) [sd]; omega) | (simp [sd, *] <;> fail) | fail) (by first | rfl | omega | exact Nat.le_of_ble_eq_true rfl | (simp (disch := omega) only [sd, sb]; omega) | (simp (disch := omega) [sd] <;> fail) | (simp (disch := omega) [sd]; omega) | (simp [sd, *] <;> fail) | fail) ?_
    | refine X.iah (by conv => lhs; whnf) (by conv => lhs; whnf) (by first | assumption | first | rfl | (simp only [hgs, if_true]; rfl)) rfl (by first | rfl | omega | exact Nat.le_of_ble_eq_true rfl | (simp (disch := omega) only [sd, sb]; omega) | (simp (disch := omega) [sd] <;> fail) | (simp (disch := omega) [sd]; omega) | (simp [sd, *] <;> fail) | fail) ?_
    | refine X.stp (by conv => lhs; whnf) (by conv => lhs; whnf) (by first | assumption | first | rfl | (simp only [hgs, if_true]; rfl)) rfl (by first | omega | exact Nat.le_of_ble_eq_true rfl) rfl rfl rfl (by first | rfl | omega | exact Nat.le_of_ble_eq_true rfl | (simp (disch := omega) only [sd, sb]; omega) | (simp (disch := omega) [sd] <;> fail) | (simp (disch := omega) [sd]; omega) | (simp [sd, *] <;> fail) | fail) (by first | exact bs_getD (by first | rfl | omega | exact Nat.le_of_ble_eq_true rfl | (simp (disch := omega) only [sd, sb]; omega) | (simp (disch := omega) [sd] <;> fail) | (simp (disch := omega) [sd]; omega) | (simp [sd, *] <;> fail) | fail) | rfl) (by first | rfl | omega | exact Nat.le_of_ble_eq_true rfl | (simp (disch := omega) only [sd, sb]; omega) | (simp (disch := omega) [sd] <;> fail) | (simp (disch := omega) [sd]; omega) | (simp [sd, *] <;> fail) | fail) ?_
    | refine X.ldp (by conv => lhs; whnf) (by first | assumption | first | rfl | (simp only [hgs, if_true]; rfl)) (by first | rfl | omega | exact Nat.le_of_ble_eq_true rfl | (simp (disch := omega) only [sd, sb]; omega) | (simp (disch := omega) [sd] <;> fail) | (simp (disch := omega) [sd]; omega) | (simp [sd, *] <;> fail) | fail) (by first | exact bs_getD (by first | rfl | omega | exact Nat.le_of_ble_eq_true rfl | (simp (disch := omega) only [sd, sb]; omega) | (simp (disch := omega) [sd] <;> fail) | (simp (disch := omega) [sd]; omega) | (simp [sd, *] <;> fail) | fail) | rfl) (by first | rfl | omega | exact Nat.le_of_ble_eq_true rfl | (simp (disch := omega) only [sd, sb]; omega) | (simp (disch := omega) [sd] <;> fail) | (simp (disch := omega) [sd]; omega) | (simp [sd, *] <;> fail) | fail) rfl ?_
    | refine X.len (by conv => lhs; whnf) (by first | rfl | assumption) ?_
    | refine X.condTs rfl (by first | rfl | omega | exact Nat.le_of_ble_eq_true rfl | (simp (disch := omega) only [sd, sb]; omega) | (simp (disch := omega) [sd] <;> fail) | (simp (disch := omega) [sd]; omega) | (simp [sd, *] <;> fail) | fail) ?_
    | refine X.condFs rfl (by first | rfl | omega | exact Nat.le_of_ble_eq_true rfl | (simp (disch := omega) only [sd, sb]; omega) | (simp (disch := omega) [sd] <;> fail) | (simp (disch := omega) [sd]; omega) | (simp [sd, *] <;> fail) | fail) ?_
    | refine X.g1Ts rfl (by first | rfl | omega | exact Nat.le_of_ble_eq_true rfl | (simp (disch := omega) only [sd, sb]; omega) | (simp (disch := omega) [sd] <;> fail) | (simp (disch := omega) [sd]; omega) | (simp [sd, *] <;> fail) | fail) ?_
    | refine X.g1Fs rfl (by first | rfl | omega | exact Nat.le_of_ble_eq_true rfl | (simp (disch := omega) only [sd, sb]; omega) | (simp (disch := omega) [sd] <;> fail) | (simp (disch := omega) [sd]; omega) | (simp [sd, *] <;> fail) | fail) ?_
    | refine X.pickTs rfl (by first | rfl | omega | exact Nat.le_of_ble_eq_true rfl | (simp (disch := omega) only [sd, sb]; omega) | (simp (disch := omega) [sd] <;> fail) | (simp (disch := omega) [sd]; omega) | (simp [sd, *] <;> fail) | fail) (fun _ => rfl) ?_
    | refine X.pickFs rfl (by first | rfl | omega | exact Nat.le_of_ble_eq_true rfl | (simp (disch := omega) only [sd, sb]; omega) | (simp (disch := omega) [sd] <;> fail) | (simp (disch := omega) [sd]; omega) | (simp [sd, *] <;> fail) | fail) (fun _ => rfl) ?_
    | refine X.mov (by conv => lhs; whnf) (by first | rfl | assumption) ?_
    )
  refine X.loop (h.congr rfl rfl rfl) ?_
  repeat (first
    | refine X.lpb ?_
    | refine X.seq ?_
    | refine X.skip ?_
    | refine X.ret ?_
    | refine X.exit ?_
    | refine X.blk ?_
    | refine X.sn ?_
    | refine X.se ?_
    | refine X.sr ?_
    | refine X.bn ?_
    | refine X.br ?_
    | refine X.bh ?_
    | refine X.bm rfl ?_
    | refine X.pn ?_
    | refine X.gn ?_
    | refine X.g0 ?_
    | refine X.ln ?_
    | refine X.finn ?_
    | refine X.reg0 (by conv => lhs; reduce) ?_
    | refine X.reg1 (by conv => lhs; reduce) ?_
    | refine X.gt rfl ?_
    | refine X.iav (by conv => lhs; whnf) (by conv => lhs; whnf) (by first | rfl | omega | exact Nat.le_of_ble_eq_true rfl | (simp (disch := omega) only [sd, sb]; omega) | (simp (disch := omega) [sd] <;> fail) | (simp (disch := omega) [sd]; omega) | (simp [sd, *] <;> fail) | fail) (by first | exact bs_getD (by first | rfl | omega | exact Nat.le_of_ble_eq_true rfl | (simp (disch := omega) only [sd, sb]; omega) | (simp (disch := omega) [sd] <;> fail) | (simp (disch := omega) [sd]; omega) | (simp [sd, *] <;> fail) | fail) | rfl) ?_
    | refine X.o0 (fun _ _ => rfl) ?_
    | refine X.o1 (fun _ _ => rfl) (by first | rfl | omega | exact Nat.le_of_ble_eq_true rfl | (simp (disch := omega) only [sd, sb]; omega) | (simp (disch := omega) [sd] <;> fail) | (simp (disch := omega) [sd]; omega) | (simp [sd, *] <;> fail) | fail) ?_
    | refine X.o2 (fun _ _ => rfl) (by first | rfl | omega | exact Nat.le_of_ble_eq_true rfl | (simp (disch := omega) only [sd, sb]; omega) | (simp (disch := omega) [sd] <;> fail) | (simp (disch := omega) [sd]; omega) | (simp [sd, *] <;> fail) | fail) (by first | rfl | omega | exact Nat.le_of_ble_eq_true rfl | (simp (disch := omega) only [sd, sb]; omega) | (simp (disch := omega) [sd] <;> fail) | (simp (disch := omega) [sd]; omega) | (simp [sd, *] <;> fail) | fail) ?_
    | refine X.o3 (fun _ _ => rfl) (by first | rfl | omega | exact Nat.le_of_ble_eq_true rfl | (simp (disch := omega) only [sd, sb]; omega) | (simp (disch := omega) [sd] <;> fail) | (simp (disch := omega) [sd]; omega) | (simp [sd, *] <;> fail) | fail) (by first | rfl | omega | exact Nat.le_of_ble_eq_true rfl | (simp (disch := omega) only [sd, sb]; omega) | (simp (disch := omega) [sd] <;> fail) | (simp (disch := omega) [sd]; omega) | (simp [sd, *] <;> fail) | fail) (by first | rfl | omega | exact Nat.le_of_ble_eq_true rfl | (simp (disch := omega) only [sd, sb]; omega) | (simp (disch := omega) [sd] <;> fail) | (simp (disch := omega) [sd]; omega) | (simp [sd, *] <;> fail) | fail) ?_
    | refine X.pickT rfl (fun _ => rfl) ?_
    | refine X.pickF rfl (fun _ => rfl) ?_
    | refine X.condT rfl ?_
    | refine X.condF rfl ?_
    | refine X.g1T rfl ?_
    | refine X.g1F rfl ?_
    | refine X.alc rfl ?_
    | refine X.box (by conv => lhs; whnf) rfl rfl ?_
    | refine X.stl (by conv => lhs; whnf) rfl rfl rfl rfl rfl rfl rfl ?_
    | refine X.apf (by conv => lhs; whnf) (by conv => lhs; whnf) (by first | exact Els.vs _ | exact Els.st _ | exact Els.ns) (by first | rfl | (simp only [hgs, if_true]; rfl)) rfl rfl (by first | rfl | omega | exact Nat.le_of_ble_eq_true rfl | (simp (disch := omega) only [sd, sb]; omega) | (simp (disch := omega) [sd] <;> fail) | (simp (disch := omega) [sd]; omega) | (simp [sd, *] <;> fail) | fail) (by first | rfl | omega | exact Nat.le_of_ble_eq_true rfl | (simp (disch := omega) only [sd, sb]; omega) | (simp (disch := omega) [sd] <;> fail) | (simp (disch := omega) [sd]; omega) | (simp [sd, *] <;> fail) | fail) (by conv => lhs; whnf) ?_
    | refine X.bsl rfl (by conv => lhs; whnf) ?_
    | refine X.alh (by conv => lhs; whnf) ?_
    | refine X.bxh (by conv => lhs; whnf) rfl (by conv => lhs; whnf) ?_
    | refine X.mks (by conv => lhs; whnf) (by conv => lhs; whnf) (by first | rfl | omega | exact Nat.le_of_ble_eq_true rfl | (simp (disch := omega) only [sd, sb]; omega) | (simp (disch := omega) [sd] <;> fail) | (simp (disch := omega) [sd]; omega) | (simp [sd, *] <;> fail) | fail) (by first | rfl | omega | exact Nat.le_of_ble_eq_true rfl | (simp (disch := omega) only [sd, sb]; omega) | (simp (disch := omega) [sd] <;> fail) | (simp (disch := omega) [sd]; omega) | (simp [sd, *] <;> fail) | fail) (by first | rfl | omega | exact Nat.le_of_ble_eq_true rfl | (simp (disch := omega) only [sd, sb]; omega) | (simp (disch := omega) [sd] <;> fail) | (simp (disch := omega) [sd]; omega) | (simp [sd, *] <;> fail) | fail) (by decide) (by conv => lhs; whnf) (by first | exact wr_add_nat (by first | rfl | omega | exact Nat.le_of_ble_eq_true rfl | (simp (disch := omega) only [sd, sb]; omega) | (simp (disch := omega) [sd] <;> fail) | (simp (disch := omega) [sd]; omega) | (simp [sd, *] <;> fail) | fail) | (conv => lhs; whnf)) ?_
    | refine X.cpy (by conv => lhs; whnf) (by conv => lhs; whnf) (elems_vs _) (by first | assumption | first | rfl | (simp only [hgs, if_true]; rfl)) rfl rfl (by first | rfl | omega | exact Nat.le_of_ble_eq_true rfl | (simp (disch := omega) only [sd, sb]; omega) | (simp (disch := omega) [sd] <;> fail) | (simp (disch := omega) [sd]; omega) | (simp [sd, *] <;> fail) | fail) (by first | rfl | omega | exact Nat.le_of_ble_eq_true rfl | (simp (disch := omega) only [sd, sb]; omega) | (simp (disch := omega) [sd] <;> fail) | (simp (disch := omega) [sd]; omega) | (simp [sd, *] <;> fail) | fail) ?_
    | refine X.iah (by conv => lhs; whnf) (by conv => lhs; whnf) (by first | assumption | first | rfl | (simp only [hgs, if_true]; rfl)) rfl (by first | rfl | omega | exact Nat.le_of_ble_eq_true rfl | (simp (disch := omega) only [sd, sb]; omega) | (simp (disch := omega) [sd] <;> fail) | (simp (disch := omega) [sd]; omega) | (simp [sd, *] <;> fail) | fail) ?_
    | refine X.stp (by conv => lhs; whnf) (by conv => lhs; whnf) (by first | assumption | first | rfl | (simp only [hgs, if_true]; rfl)) rfl (by first | omega | exact Nat.le_of_ble_eq_true rfl) rfl rfl rfl (by first | rfl | omega | exact Nat.le_of_ble_eq_true rfl | (simp (disch := omega) only [sd, sb]; omega) | (simp (disch := omega) [sd] <;> fail) | (simp (disch := omega) [sd]; omega) | (simp [sd, *] <;> fail) | fail) (by first | exact bs_getD (by first | rfl | omega | exact Nat.le_of_ble_eq_true rfl | (simp (disch := omega) only [sd, sb]; omega) | (simp (disch := omega) [sd] <;> fail) | (simp (disch := omega) [sd]; omega) | (simp [sd, *] <;> fail) | fail) | rfl) (by first | rfl | omega | exact Nat.le_of_ble_eq_true rfl | (simp (disch := omega) only [sd, sb]; omega) | (simp (disch := omega) [sd] <;> fail) | (simp (disch := omega) [sd]; omega) | (simp [sd, *] <;> fail) | fail) ?_
    | refine X.ldp (by conv => lhs; whnf) (by first | assumption | first | rfl | (simp only [hgs, if_true]; rfl)) (by first | rfl | omega | exact Nat.le_of_ble_eq_true rfl | (simp (disch := omega) only [sd, sb]; omega) | (simp (disch := omega) [sd] <;> fail) | (simp (disch := omega) [sd]; omega) | (simp [sd, *] <;> fail) | fail) (by first | exact bs_getD (by first | rfl | omega | exact Nat.le_of_ble_eq_true rfl | (simp (disch := omega) only [sd, sb]; omega) | (simp (disch := omega) [sd] <;> fail) | (simp (disch := omega) [sd]; omega) | (simp [sd, *] <;> fail) | fail) | rfl) (by first | rfl | omega | exact Nat.le_of_ble_eq_true rfl | (simp (disch := omega) only [sd, sb]; omega) | (simp (disch := omega) [sd] <;> fail) | (simp (disch := omega) [sd]; omega) | (simp [sd, *] <;> fail) | fail) rfl ?_
    | refine X.len (by conv => lhs; whnf) (by first | rfl | assumption) ?_
    | refine X.condTs rfl (by first | rfl | omega | exact Nat.le_of_ble_eq_true rfl | (simp (disch := omega) only [sd, sb]; omega) | (simp (disch := omega) [sd] <;> fail) | (simp (disch := omega) [sd]; omega) | (simp [sd, *] <;> fail) | fail) ?_
    | refine X.condFs rfl (by first | rfl | omega | exact Nat.le_of_ble_eq_true rfl | (simp (disch := omega) only [sd, sb]; omega) | (simp (disch := omega) [sd] <;> fail) | (simp (disch := omega) [sd]; omega) | (simp [sd, *] <;> fail) | fail) ?_
    | refine X.g1Ts rfl (by first | rfl | omega | exact Nat.le_of_ble_eq_true rfl | (simp (disch := omega) only [sd, sb]; omega) | (simp (disch := omega) [sd] <;> fail) | (simp (disch := omega) [sd]; omega) | (simp [sd, *] <;> fail) | fail) ?_
    | refine X.g1Fs rfl (by first | rfl | omega | exact Nat.le_of_ble_eq_true rfl | (simp (disch := omega) only [sd, sb]; omega) | (simp (disch := omega) [sd] <;> fail) | (simp (disch := omega) [sd]; omega) | (simp [sd, *] <;> fail) | fail) ?_
    | refine X.pickTs rfl (by first | rfl | omega | exact Nat.le_of_ble_eq_true rfl | (simp (disch := omega) only [sd, sb]; omega) | (simp (disch := omega) [sd] <;> fail) | (simp (disch := omega) [sd]; omega) | (simp [sd, *] <;> fail) | fail) (fun _ => rfl) ?_
    | refine X.pickFs rfl (by first | rfl | omega | exact Nat.le_of_ble_eq_true rfl | (simp (disch := omega) only [sd, sb]; omega) | (simp (disch := omega) [sd] <;> fail) | (simp (disch := omega) [sd]; omega) | (simp [sd, *] <;> fail) | fail) (fun _ => rfl) ?_
    | refine X.mov (by conv => lhs; whnf) (by first | rfl | assumption) ?_
    )
  exact X.fin (fun _ => rfl) rfl rfl

def L22 : C := d22.body.lps.getD 0 .skip

theorem intact_loop (l : List Int) (m : Int) (hN : l.length ≤ 20000000) : ∀ (k i : Nat) (tm : Tm) (lo : Lo) (hp : Hp), i + k = l.length → (∀ j : Nat, i ≤ j → j < l.length → l[j]?.getD 0 = m) →
    [0, 2, 7].map (fun s => (s, tm s)) = [(0, .vs 1 (bs l)), (2, .it .u8 m), (7, .it .i64 (Int.ofNat i))] →
    ∃ tm' lo' hp', EvL F [0, 2, 7] [] (lpB L22) ⟨tm, lo, hp⟩ (.exit 0 ⟨tm', lo', hp'⟩) := by
  intro k
  induction k with
  | zero =>
    intro i tm lo hp hi hL hk
    iterate 3 apply Exists.intro
    refine EvL.stop _ hk ?_ (fun s h => by cases h)
    repeat (first
      | refine X.lpb ?_
      | refine X.seq ?_
      | refine X.skip ?_
      | refine X.ret ?_
      | refine X.exit ?_
      | refine X.blk ?_
      | refine X.sn ?_
      | refine X.se ?_
      | refine X.sr ?_
      | refine X.bn ?_
      | refine X.br ?_
      | refine X.bh ?_
      | refine X.bm rfl ?_
      | refine X.pn ?_
      | refine X.gn ?_
      | refine X.g0 ?_
      | refine X.ln ?_
      | refine X.finn ?_
      | refine X.reg0 (by conv => lhs; reduce) ?_
      | refine X.reg1 (by conv => lhs; reduce) ?_
      | refine X.gt rfl ?_
      | refine X.iav (by conv => lhs; whnf) (by conv => lhs; whnf) (by first | rfl | omega | exact Nat.le_of_ble_eq_true rfl | (simp (disch := omega) only [sd, sb]; omega) | (simp (disch := omega) [sd] <;> fail) | (simp (disch := omega) [sd]; omega) | (simp [sd, *] <;> fail) | fail) (by first | exact bs_getD (by first | rfl | omega | exact Nat.le_of_ble_eq_true rfl | (simp (disch := omega) only [sd, sb]; omega) | (simp (disch := omega) [sd] <;> fail) | (simp (disch := omega) [sd]; omega) | (simp [sd, *] <;> fail) | fail) | rfl) ?_
      | refine X.o0 (fun _ _ => rfl) ?_
      | refine X.o1 (fun _ _ => rfl) (by first | rfl | omega | exact Nat.le_of_ble_eq_true rfl | (simp (disch := omega) only [sd, sb]; omega) | (simp (disch := omega) [sd] <;> fail) | (simp (disch := omega) [sd]; omega) | (simp [sd, *] <;> fail) | fail) ?_
      | refine X.o2 (fun _ _ => rfl) (by first | rfl | omega | exact Nat.le_of_ble_eq_true rfl | (simp (disch := omega) only [sd, sb]; omega) | (simp (disch := omega) [sd] <;> fail) | (simp (disch := omega) [sd]; omega) | (simp [sd, *] <;> fail) | fail) (by first | rfl | omega | exact Nat.le_of_ble_eq_true rfl | (simp (disch := omega) only [sd, sb]; omega) | (simp (disch := omega) [sd] <;> fail) | (simp (disch := omega) [sd]; omega) | (simp [sd, *] <;> fail) | fail) ?_
      | refine X.o3 (fun _ _ => rfl) (by first | rfl | omega | exact Nat.le_of_ble_eq_true rfl | (simp (disch := omega) only [sd, sb]; omega) | (simp (disch := omega) [sd] <;> fail) | (simp (disch := omega) [sd]; omega) | (simp [sd, *] <;> fail) | fail) (by first | rfl | omega | exact Nat.le_of_ble_eq_true rfl | (simp (disch := omega) only [sd, sb]; omega) | (simp (disch := omega) [sd] <;> fail) | (simp (disch := omega) [sd]; omega) | (simp [sd, *] <;> fail) | fail) (by first | rfl | omega | exact Nat.le_of_ble_eq_true rfl | (simp (disch := omega) only [sd, sb]; omega) | (simp (disch := omega) [sd] <;> fail) | (simp (disch := omega) [sd]; omega) | (simp [sd, *] <;> fail) | fail) ?_
      | refine X.pickT rfl (fun _ => rfl) ?_
      | refine X.pickF rfl (fun _ => rfl) ?_
      | refine X.condT rfl ?_
      | refine X.condF rfl ?_
      | refine X.g1T rfl ?_
      | refine X.g1F rfl ?_
      | refine X.alc rfl ?_
      | refine X.box (by conv => lhs; whnf) rfl rfl ?_
      | refine X.stl (by conv => lhs; whnf) rfl rfl rfl rfl rfl rfl rfl ?_
      | refine X.apf (by conv => lhs; whnf) (by conv => lhs; whnf) (by first | exact Els.vs _ | exact Els.st _ | exact Els.ns) (by first | rfl | (simp only [hgs, if_true]; rfl)) rfl rfl (by first | rfl | omega | exact Nat.le_of_ble_eq_true rfl | (simp (disch := omega) only [sd, sb]; omega) | (simp (disch := omega) [sd] <;> fail) | (simp (disch := omega) [sd]; omega) | (simp [sd, *] <;> fail) | fail) (by first | rfl | omega | exact Nat.le_of_ble_eq_true rfl | (simp (disch := omega) only [sd, sb]; omega) | (simp (disch := omega) [sd] <;> fail) | (simp (disch := omega) [sd]; omega) | (simp [sd, *] <;> fail) | fail) (by conv => lhs; whnf) ?_
      | refine X.bsl rfl (by conv => lhs; whnf) ?_
      | refine X.alh (by conv => lhs; whnf) ?_
      | refine X.bxh (by conv => lhs; whnf) rfl (by conv => lhs; whnf) ?_
      | refine X.mks (by conv => lhs; whnf) (by conv => lhs; whnf) (by first | rfl | omega | exact Nat.le_of_ble_eq_true rfl | (simp (disch := omega) only [sd, sb]; omega) | (simp (disch := omega) [sd] <;> fail) | (simp (disch := omega) [sd]; omega) | (simp [sd, *] <;> fail) | fail) (by first | rfl | omega | exact Nat.le_of_ble_eq_true rfl | (simp (disch := omega) only [sd, sb]; omega) | (simp (disch := omega) [sd] <;> fail) | (simp (disch := omega) [sd]; omega) | (simp [sd, *] <;> fail) | fail) (by first | rfl | omega | exact Nat.le_of_ble_eq_true rfl | (simp (disch := omega) only [sd, sb]; omega) | (simp (disch := omega) [sd] <;> fail) | (simp (disch := omega) [sd]; omega) | (simp [sd, *] <;> fail) | fail) (by decide) (by conv => lhs; whnf) (by first | exact wr_add_nat (by first | rfl | omega | exact Nat.le_of_ble_eq_true rfl | (simp (disch := omega) only [sd, sb]; omega) | (simp (disch := omega) [sd] <;> fail) | (simp (disch := omega) [sd]; omega) | (simp [sd, *] <;> fail) | fail) | (conv => lhs; whnf)) ?_
      | refine X.cpy (by conv => lhs; whnf) (by conv => lhs; whnf) (elems_vs _) (by first | assumption | first | rfl | (simp only [hgs, if_true]; rfl)) rfl rfl (by first | rfl | omega | exact Nat.le_of_ble_eq_true rfl | (simp (disch := omega) only [sd, sb]; omega) | (simp (disch := omega) [sd] <;> fail) | (simp (disch := omega) [sd]; omega) | (simp [sd, *] <;> fail) | fail) (by first | rfl | omega | exact Nat.le_of_ble_eq_true rfl | (simp (disch := omega) only [sd, sb]; omega) | (simp (disch := omega) [sd] <;> fail) | (simp (disch := omega) [sd]; omega) | (simp [sd, *] <;> fail) | fail) ?_
      | refine X.iah (by conv => lhs; whnf) (by conv => lhs; whnf) (by first | assumption | first | rfl | (simp only [hgs, if_true]; rfl)) rfl (by first | rfl | omega | exact Nat.le_of_ble_eq_true rfl | (simp (disch := omega) only [sd, sb]; omega) | (simp (disch := omega) [sd] <;> fail) | (simp (disch := omega) [sd]; omega) | (simp [sd, *] <;> fail) | fail) ?_
      | refine X.stp (by conv => lhs; whnf) (by conv => lhs; whnf) (by first | assumption | first | rfl | (simp only [hgs, if_true]; rfl)) rfl (by first | omega | exact Nat.le_of_ble_eq_true rfl) rfl rfl rfl (by first | rfl | omega | exact Nat.le_of_ble_eq_true rfl | (simp (disch := omega) only [sd, sb]; omega) | (simp (disch := omega) [sd] <;> fail) | (simp (disch := omega) [sd]; omega) | (simp [sd, *] <;> fail) | fail) (by first | exact bs_getD (by first | rfl | omega | exact Nat.le_of_ble_eq_true rfl | (simp (disch := omega) only [sd, sb]; omega) | (simp (disch := omega) [sd] <;> fail) | (simp (disch := omega) [sd]; omega) | (simp [sd, *] <;> fail) | fail) | rfl) (by first | rfl | omega | exact Nat.le_of_ble_eq_true rfl | (simp (disch := omega) only [sd, sb]; omega) | (simp (disch := omega) [sd] <;> fail) | (simp (disch := omega) [sd]; omega) | (simp [sd, *] <;> fail) | fail) ?_
      | refine X.ldp (by conv => lhs; whnf) (by first | assumption | first | rfl | (simp only [hgs, if_true]; rfl)) (by first | rfl | omega | exact Nat.le_of_ble_eq_true rfl | (simp (disch := omega) only [sd, sb]; omega) | (simp (disch := omega) [sd] <;> fail) | (simp (disch := omega) [sd]; omega) | (simp [sd, *] <;> fail) | fail) (by first | exact bs_getD (by first | rfl | omega | exact Nat.le_of_ble_eq_true rfl | (simp (disch := omega) only [sd, sb]; omega) | (simp (disch := omega) [sd] <;> fail) | (simp (disch := omega) [sd]; omega) | (simp [sd, *] <;> fail) | fail) | rfl) (by first | rfl | omega | exact Nat.le_of_ble_eq_true rfl | (simp (disch := omega) only [sd, sb]; omega) | (simp (disch := omega) [sd] <;> fail) | (simp (disch := omega) [sd]; omega) | (simp [sd, *] <;> fail) | fail) rfl ?_
      | refine X.len (by conv => lhs; whnf) (by first | rfl | assumption) ?_
      | refine X.condTs rfl (by first | rfl | omega | exact Nat.le_of_ble_eq_true rfl | (simp (disch := omega) only [sd, sb]; omega) | (simp (disch := omega) [sd] <;> fail) | (simp (disch := omega) [sd]; omega) | (simp [sd, *] <;> fail) | fail) ?_
      | refine X.condFs rfl (by first | rfl | omega | exact Nat.le_of_ble_eq_true rfl | (simp (disch := omega) only [sd, sb]; omega) | (simp (disch := omega) [sd] <;> fail) | (simp (disch := omega) [sd]; omega) | (simp [sd, *] <;> fail) | fail) ?_
      | refine X.g1Ts rfl (by first | rfl | omega | exact Nat.le_of_ble_eq_true rfl | (simp (disch := omega) only [sd, sb]; omega) | (simp (disch := omega) [sd] <;> fail) | (simp (disch := omega) [sd]; omega) | (simp [sd, *] <;> fail) | fail) ?_
      | refine X.g1Fs rfl (by first | rfl | omega | exact Nat.le_of_ble_eq_true rfl | (simp (disch := omega) only [sd, sb]; omega) | (simp (disch := omega) [sd] <;> fail) | (simp (disch := omega) [sd]; omega) | (simp [sd, *] <;> fail) | fail) ?_
      | refine X.pickTs rfl (by first | rfl | omega | exact Nat.le_of_ble_eq_true rfl | (simp (disch := omega) only [sd, sb]; omega) | (simp (disch := omega) [sd] <;> fail) | (simp (disch := omega) [sd]; omega) | (simp [sd, *] <;> fail) | fail) (fun _ => rfl) ?_
      | refine X.pickFs rfl (by first | rfl | omega | exact Nat.le_of_ble_eq_true rfl | (simp (disch := omega) only [sd, sb]; omega) | (simp (disch := omega) [sd] <;> fail) | (simp (disch := omega) [sd]; omega) | (simp [sd, *] <;> fail) | fail) (fun _ => rfl) ?_
      | refine X.mov (by conv => lhs; whnf) (by first | rfl | assumption) ?_
      )
    exact EvD.done _
  | succ k ih =>
    intro i tm lo hp hi hL hk
    have he := hL i (Nat.le_refl _) (by omega)
    have step : ∃ tm' lo' hp', tm' 0 = .vs 1 (bs l) ∧ tm' 2 = .it .u8 m ∧ tm' 7 = .it .i64 (Int.ofNat (i + 1)) ∧
        ∀ r, EvL F [0, 2, 7] [] (lpB L22) ⟨tm', lo', hp'⟩ r → EvL F [0, 2, 7] [] (lpB L22) ⟨tm, lo, hp⟩ r := by
      iterate 3 apply Exists.intro
      refine ⟨?_, ?_, ?_, fun r h => EvL.go _ hk ?_ h⟩
      rotate_left 3
      · repeat (first
          | refine X.lpb ?_
          | refine X.seq ?_
          | refine X.skip ?_
          | refine X.ret ?_
          | refine X.exit ?_
          | refine X.blk ?_
          | refine X.sn ?_
          | refine X.se ?_
          | refine X.sr ?_
          | refine X.bn ?_
          | refine X.br ?_
          | refine X.bh ?_
          | refine X.bm rfl ?_
          | refine X.pn ?_
          | refine X.gn ?_
          | refine X.g0 ?_
          | refine X.ln ?_
          | refine X.finn ?_
          | refine X.reg0 (by conv => lhs; reduce) ?_
          | refine X.reg1 (by conv => lhs; reduce) ?_
          | refine X.gt rfl ?_
          | refine X.iav (by conv => lhs; whnf) (by conv => lhs; whnf) (by first | rfl | omega | exact Nat.le_of_ble_eq_true rfl | (simp (disch := omega) only [sd, sb]; omega) | (simp (disch := omega) [sd] <;> fail) | (simp (disch := omega) [sd]; omega) | (simp [sd, *] <;> fail) | fail) (by first | exact bs_getD (by first | rfl | omega | exact Nat.le_of_ble_eq_true rfl | (simp (disch := omega) only [sd, sb]; omega) | (simp (disch := omega) [sd] <;> fail) | (simp (disch := omega) [sd]; omega) | (simp [sd, *] <;> fail) | fail) | rfl) ?_
          | refine X.o0 (fun _ _ => rfl) ?_
          | refine X.o1 (fun _ _ => rfl) (by first | rfl | omega | exact Nat.le_of_ble_eq_true rfl | (simp (disch := omega) only [sd, sb]; omega) | (simp (disch := omega) [sd] <;> fail) | (simp (disch := omega) [sd]; omega) | (simp [sd, *] <;> fail) | fail) ?_
          | refine X.o2 (fun _ _ => rfl) (by first | rfl | omega | exact Nat.le_of_ble_eq_true rfl | (simp (disch := omega) only [sd, sb]; omega) | (simp (disch := omega) [sd] <;> fail) | (simp (disch := omega) [sd]; omega) | (simp [sd, *] <;> fail) | fail) (by first | rfl | omega | exact Nat.le_of_ble_eq_true rfl | (simp (disch := omega) only [sd, sb]; omega) | (simp (disch := omega) [sd] <;> fail) | (simp (disch := omega) [sd]; omega) | (simp [sd, *] <;> fail) | fail) ?_
          | refine X.o3 (fun _ _ => rfl) (by first | rfl | omega | exact Nat.le_of_ble_eq_true rfl | (simp (disch := omega) only [sd, sb]; omega) | (simp (disch := omega) [sd] <;> fail) | (simp (disch := omega) [sd]; omega) | (simp [sd, *] <;> fail) | fail) (by first | rfl | omega | exact Nat.le_of_ble_eq_true rfl | (simp (disch := omega) only [sd, sb]; omega) | (simp (disch := omega) [sd] <;> fail) | (simp (disch := omega) [sd]; omega) | (simp [sd, *] <;> fail) | fail) (by first | rfl | omega | exact Nat.le_of_ble_eq_true rfl | (simp (disch := omega) only [sd, sb]; omega) | (simp (disch := omega) [sd] <;> fail) | (simp (disch := omega) [sd]; omega) | (simp [sd, *] <;> fail) | fail) ?_
          | refine X.pickT rfl (fun _ => rfl) ?_
          | refine X.pickF rfl (fun _ => rfl) ?_
          | refine X.condT rfl ?_
          | refine X.condF rfl ?_
          | refine X.g1T rfl ?_
          | refine X.g1F rfl ?_
          | refine X.alc rfl ?_
          | refine X.box (by conv => lhs; whnf) rfl rfl ?_
          | refine X.stl (by conv => lhs; whnf) rfl rfl rfl rfl rfl rfl rfl ?_
          | refine X.apf (by conv => lhs; whnf) (by conv => lhs; whnf) (by first | exact Els.vs _ | exact Els.st _ | exact Els.ns) (by first | rfl | (simp only [hgs, if_true]; rfl)) rfl rfl (by first | rfl | omega | exact Nat.le_of_ble_eq_true rfl | (simp (disch := omega) only [sd, sb]; omega) | (simp (disch := omega) [sd] <;> fail) | (simp (disch := omega) [sd]; omega) | (simp [sd, *] <;> fail) | fail) (by first | rfl | omega | exact Nat.le_of_ble_eq_true rfl | (simp (disch := omega) only [sd, sb]; omega) | (simp (disch := omega) [sd] <;> fail) | (simp (disch := omega) [sd]; omega) | (simp [sd, *] <;> fail) | fail) (by conv => lhs; whnf) ?_
          | refine X.bsl rfl (by conv => lhs; whnf) ?_
          | refine X.alh (by conv => lhs; whnf) ?_
          | refine X.bxh (by conv => lhs; whnf) rfl (by conv => lhs; whnf) ?_
          | refine X.mks (by conv => lhs; whnf) (by conv => lhs; whnf) (by first | rfl | omega | exact Nat.le_of_ble_eq_true rfl | (simp (disch := omega) only [sd, sb]; omega) | (simp (disch := omega) [sd] <;> fail) | (simp (disch := omega) [sd]; omega) | (simp [sd, *] <;> fail) | fail) (by first | rfl | omega | exact Nat.le_of_ble_eq_true rfl | (simp (disch := omega) only [sd, sb]; omega) | (simp (disch := omega) [sd] <;> fail) | (simp (disch := omega) [sd]; omega) | (simp [sd, *] <;> fail) | fail) (by first | rfl | omega | exact Nat.le_of_ble_eq_true rfl | (simp (disch := omega) only [sd, sb]; omega) | (simp (disch := omega) [sd] <;> fail) | (simp (disch := omega) [sd]; omega) | (simp [sd, *] <;> fail) | fail) (by decide) (by conv => lhs; whnf) (by first | exact wr_add_nat (by first | rfl | omega | exact Nat.le_of_ble_eq_true rfl | (simp (disch := omega) only [sd, sb]; omega) | (simp (disch := omega) [sd] <;> fail) | (simp (disch := omega) [sd]; omega) | (simp [sd, *] <;> fail) | fail) | (conv => lhs; whnf)) ?_
          | refine X.cpy (by conv => lhs; whnf) (by conv => lhs; whnf) (elems_vs _) (by first | assumption | first | rfl | (simp only [hgs, if_true]; rfl)) rfl rfl (by first | rfl | omega | exact Nat.le_of_ble_eq_true rfl | (simp (disch := omega) only [sd, sb]; omega) | (simp (disch := omega) [sd] <;> fail) | (simp (disch := omega) [sd]; omega) | (simp [sd, *] <;> fail) | fail) (by first | rfl | omega | exact Nat.le_of_ble_eq_true rfl | (simp (disch := omega) only [sd, sb]; omega) | (simp (disch := omega) [sd] <;> fail) | (simp (disch := omega) [sd]; omega) | (simp [sd, *] <;> fail) | fail) ?_
          | refine X.iah (by conv => lhs; whnf) (by conv => lhs; whnf) (by first | assumption | first | rfl | (simp only [hgs, if_true]; rfl)) rfl (by first | rfl | omega | exact Nat.le_of_ble_eq_true rfl | (simp (disch := omega) only [sd, sb]; omega) | (simp (disch := omega) [sd] <;> fail) | (simp (disch := omega) [sd]; omega) | (simp [sd, *] <;> fail) | fail) ?_
          | refine X.stp (by conv => lhs; whnf) (by conv => lhs; whnf) (by first | assumption | first | rfl | (simp only [hgs, if_true]; rfl)) rfl (by first | omega | exact Nat.le_of_ble_eq_true rfl) rfl rfl rfl (by first | rfl | omega | exact Nat.le_of_ble_eq_true rfl | (simp (disch := omega) only [sd, sb]; omega) | (simp (disch := omega) [sd] <;> fail) | (simp (disch := omega) [sd]; omega) | (simp [sd, *] <;> fail) | fail) (by first | exact bs_getD (by first | rfl | omega | exact Nat.le_of_ble_eq_true rfl | (simp (disch := omega) only [sd, sb]; omega) | (simp (disch := omega) [sd] <;> fail) | (simp (disch := omega) [sd]; omega) | (simp [sd, *] <;> fail) | fail) | rfl) (by first | rfl | omega | exact Nat.le_of_ble_eq_true rfl | (simp (disch := omega) only [sd, sb]; omega) | (simp (disch := omega) [sd] <;> fail) | (simp (disch := omega) [sd]; omega) | (simp [sd, *] <;> fail) | fail) ?_
          | refine X.ldp (by conv => lhs; whnf) (by first | assumption | first | rfl | (simp only [hgs, if_true]; rfl)) (by first | rfl | omega | exact Nat.le_of_ble_eq_true rfl | (simp (disch := omega) only [sd, sb]; omega) | (simp (disch := omega) [sd] <;> fail) | (simp (disch := omega) [sd]; omega) | (simp [sd, *] <;> fail) | fail) (by first | exact bs_getD (by first | rfl | omega | exact Nat.le_of_ble_eq_true rfl | (simp (disch := omega) only [sd, sb]; omega) | (simp (disch := omega) [sd] <;> fail) | (simp (disch := omega) [sd]; omega) | (simp [sd, *] <;> fail) | fail) | rfl) (by first | rfl | omega | exact Nat.le_of_ble_eq_true rfl | (simp (disch := omega) only [sd, sb]; omega) | (simp (disch := omega) [sd] <;> fail) | (simp (disch := omega) [sd]; omega) | (simp [sd, *] <;> fail) | fail) rfl ?_
          | refine X.len (by conv => lhs; whnf) (by first | rfl | assumption) ?_
          | refine X.condTs rfl (by first | rfl | omega | exact Nat.le_of_ble_eq_true rfl | (simp (disch := omega) only [sd, sb]; omega) | (simp (disch := omega) [sd] <;> fail) | (simp (disch := omega) [sd]; omega) | (simp [sd, *] <;> fail) | fail) ?_
          | refine X.condFs rfl (by first | rfl | omega | exact Nat.le_of_ble_eq_true rfl | (simp (disch := omega) only [sd, sb]; omega) | (simp (disch := omega) [sd] <;> fail) | (simp (disch := omega) [sd]; omega) | (simp [sd, *] <;> fail) | fail) ?_
          | refine X.g1Ts rfl (by first | rfl | omega | exact Nat.le_of_ble_eq_true rfl | (simp (disch := omega) only [sd, sb]; omega) | (simp (disch := omega) [sd] <;> fail) | (simp (disch := omega) [sd]; omega) | (simp [sd, *] <;> fail) | fail) ?_
          | refine X.g1Fs rfl (by first | rfl | omega | exact Nat.le_of_ble_eq_true rfl | (simp (disch := omega) only [sd, sb]; omega) | (simp (disch := omega) [sd] <;> fail) | (simp (disch := omega) [sd]; omega) | (simp [sd, *] <;> fail) | fail) ?_
          | refine X.pickTs rfl (by first | rfl | omega | exact Nat.le_of_ble_eq_true rfl | (simp (disch := omega) only [sd, sb]; omega) | (simp (disch := omega) [sd] <;> fail) | (simp (disch := omega) [sd]; omega) | (simp [sd, *] <;> fail) | fail) (fun _ => rfl) ?_
          | refine X.pickFs rfl (by first | rfl | omega | exact Nat.le_of_ble_eq_true rfl | (simp (disch := omega) only [sd, sb]; omega) | (simp (disch := omega) [sd] <;> fail) | (simp (disch := omega) [sd]; omega) | (simp [sd, *] <;> fail) | fail) (fun _ => rfl) ?_
          | refine X.mov (by conv => lhs; whnf) (by first | rfl | assumption) ?_
          )
        exact EvD.done _
      · rfl
      · rfl
      · exact wr_inc (by omega)
    obtain ⟨tm', lo', hp', e1, e5, e6, go⟩ := step
    obtain ⟨t, l', p, q1⟩ := ih (i + 1) tm' lo' hp' (by omega) (fun j h1 h2 => hL j (by omega) h2) (by simp [e1, e5, e6])
    exact ⟨t, l', p, go _ q1⟩

theorem intact_ok (l : List Int) (m : Int) (hl : l.length ≤ 10000000) : EvP F 22 c22 [.vs 1 (bs (l ++ List.replicate 80 m)), .vs 1 (bs l), .it .u8 m] [.bo true] := by
  obtain ⟨tm, lo, hp, h⟩ := intact_loop (l ++ List.replicate 80 m) m (by simp; omega) 80 (bs l).length (tmOf [(0, .vs 1 (bs (l ++ List.replicate 80 m))), (2, .it .u8 m), (7, .it .i64 (Int.ofNat (bs l).length))]) (fun _ => none) h0
    (by simp [bs_length]) (fun j h1 h2 => by
      rw [bs_length] at h1
      rw [List.getElem?_append_right h1, List.getElem?_replicate]
      simp at h2
      rw [if_pos (by omega)]; rfl) (by rfl)
  refine EvP.of d22 rfl rfl rfl (v := .bo _) (h := hp) (h' := hp) ?_ (.s (clo_bo _) (.nil _))
  have es : ((bs (l ++ List.replicate 80 m)).drop 0).take (bs l).length = bs l := by
    rw [List.drop_zero, bs_take, bs_length, List.take_left]
  refine X.fn ?_
  repeat (first
    | refine X.lpb ?_
    | refine X.seq ?_
    | refine X.skip ?_
    | refine X.ret ?_
    | refine X.exit ?_
    | refine X.blk ?_
    | refine X.sn ?_
    | refine X.se ?_
    | refine X.sr ?_
    | refine X.bn ?_
    | refine X.br ?_
    | refine X.bh ?_
    | refine X.bm rfl ?_
    | refine X.pn ?_
    | refine X.gn ?_
    | refine X.g0 ?_
    | refine X.ln ?_
    | refine X.finn ?_
    | refine X.reg0 (by conv => lhs; reduce) ?_
    | refine X.reg1 (by conv => lhs; reduce) ?_
    | refine X.gt rfl ?_
    | refine X.iav (by conv => lhs; whnf) (by conv => lhs; whnf) (by first | rfl | omega | exact Nat.le_of_ble_eq_true rfl | (simp (disch := omega) only [sd, sb]; omega) | (simp (disch := omega) [sd] <;> fail) | (simp (disch := omega) [sd]; omega) | (simp [sd, *] <;> fail) | fail) (by first | exact bs_getD (by first | rfl | omega | exact Nat.le_of_ble_eq_true rfl | (simp (disch := omega) only [sd, sb]; omega) | (simp (disch := omega) [sd] <;> fail) | (simp (disch := omega) [sd]; omega) | (simp [sd, *] <;> fail) | fail) | rfl) ?_
    | refine X.o0 (fun _ _ => rfl) ?_
    | refine X.o1 (fun _ _ => rfl) (by first | rfl | omega | exact Nat.le_of_ble_eq_true rfl | (simp (disch := omega) only [sd, sb]; omega) | (simp (disch := omega) [sd] <;> fail) | (simp (disch := omega) [sd]; omega) | (simp [sd, *] <;> fail) | fail) ?_
    | refine X.o2 (fun _ _ => rfl) (by first | rfl | omega | exact Nat.le_of_ble_eq_true rfl | (simp (disch := omega) only [sd, sb]; omega) | (simp (disch := omega) [sd] <;> fail) | (simp (disch := omega) [sd]; omega) | (simp [sd, *] <;> fail) | fail) (by first | rfl | omega | exact Nat.le_of_ble_eq_true rfl | (simp (disch := omega) only [sd, sb]; omega) | (simp (disch := omega) [sd] <;> fail) | (simp (disch := omega) [sd]; omega) | (simp [sd, *] <;> fail) | fail) ?_
    | refine X.o3 (fun _ _ => rfl) (by first | rfl | omega | exact Nat.le_of_ble_eq_true rfl | (simp (disch := omega) only [sd, sb]; omega) | (simp (disch := omega) [sd] <;> fail) | (simp (disch := omega) [sd]; omega) | (simp [sd, *] <;> fail) | fail) (by first | rfl | omega | exact Nat.le_of_ble_eq_true rfl | (simp (disch := omega) only [sd, sb]; omega) | (simp (disch := omega) [sd] <;> fail) | (simp (disch := omega) [sd]; omega) | (simp [sd, *] <;> fail) | fail) (by first | rfl | omega | exact Nat.le_of_ble_eq_true rfl | (simp (disch := omega) only [sd, sb]; omega) | (simp (disch := omega) [sd] <;> fail) | (simp (disch := omega) [sd]; omega) | (simp [sd, *] <;> fail) | fail) ?_
    | refine X.pickT rfl (fun _ => rfl) ?_
    | refine X.pickF rfl (fun _ => rfl) ?_
    | refine X.condT rfl ?_
    | refine X.condF rfl ?_
    | refine X.g1T rfl ?_
    | refine X.g1F rfl ?_
    | refine X.alc rfl ?_
    | refine X.box (by conv => lhs; whnf) rfl rfl ?_
    | refine X.stl (by conv => lhs; whnf) rfl rfl rfl rfl rfl rfl rfl ?_
    | refine X.apf (by conv => lhs; whnf) (by conv => lhs; whnf) (by first | exact Els.vs _ | exact Els.st _ | exact Els.ns) (by first | rfl | (simp only [hgs, if_true]; rfl)) rfl rfl (by first | rfl | omega | exact Nat.le_of_ble_eq_true rfl | (simp (disch := omega) only [sd, sb]; omega) | (simp (disch := omega) [sd] <;> fail) | (simp (disch := omega) [sd]; omega) | (simp [sd, *] <;> fail) | fail) (by first | rfl | omega | exact Nat.le_of_ble_eq_true rfl | (simp (disch := omega) only [sd, sb]; omega) | (simp (disch := omega) [sd] <;> fail) | (simp (disch := omega) [sd]; omega) | (simp [sd, *] <;> fail) | fail) (by conv => lhs; whnf) ?_
    | refine X.bsl rfl (by conv => lhs; whnf) ?_
    | refine X.alh (by conv => lhs; whnf) ?_
    | refine X.bxh (by conv => lhs; whnf) rfl (by conv => lhs; whnf) ?_
    | refine X.mks (by conv => lhs; whnf) (by conv => lhs; whnf) (by first | rfl | omega | exact Nat.le_of_ble_eq_true rfl | (simp (disch := omega) only [sd, sb]; omega) | (simp (disch := omega) [sd] <;> fail) | (simp (disch := omega) [sd]; omega) | (simp [sd, *] <;> fail) | fail) (by first | rfl | omega | exact Nat.le_of_ble_eq_true rfl | (simp (disch := omega) only [sd, sb]; omega) | (simp (disch := omega) [sd] <;> fail) | (simp (disch := omega) [sd]; omega) | (simp [sd, *] <;> fail) | fail) (by first | rfl | omega | exact Nat.le_of_ble_eq_true rfl | (simp (disch := omega) only [sd, sb]; omega) | (simp (disch := omega) [sd] <;> fail) | (simp (disch := omega) [sd]; omega) | (simp [sd, *] <;> fail) | fail) (by decide) (by conv => lhs; whnf) (by first | exact wr_add_nat (by first | rfl | omega | exact Nat.le_of_ble_eq_true rfl | (simp (disch := omega) only [sd, sb]; omega) | (simp (disch := omega) [sd] <;> fail) | (simp (disch := omega) [sd]; omega) | (simp [sd, *] <;> fail) | fail) | (conv => lhs; whnf)) ?_
    | refine X.cpy (by conv => lhs; whnf) (by conv => lhs; whnf) (elems_vs _) (by first | assumption | first | rfl | (simp only [hgs, if_true]; rfl)) rfl rfl (by first | rfl | omega | exact Nat.le_of_ble_eq_true rfl | (simp (disch := omega) only [sd, sb]; omega) | (simp (disch := omega) [sd] <;> fail) | (simp (disch := omega) [sd]; omega) | (simp [sd, *] <;> fail) | fail) (by first | rfl | omega | exact Nat.le_of_ble_eq_true rfl | (simp (disch := omega) only [sd, sb]; omega) | (simp (disch := omega) [sd] <;> fail) | (simp (disch := omega) [sd]; omega) | (simp [sd, *] <;> fail) | fail) ?_
    | refine X.iah (by conv => lhs; whnf) (by conv => lhs; whnf) (by first | assumption | first | rfl | (simp only [hgs, if_true]; rfl)) rfl (by first | rfl | omega | exact Nat.le_of_ble_eq_true rfl | (simp (disch := omega) only [sd, sb]; omega) | (simp (disch := omega) [sd] <;> fail) | (simp (disch := omega) [sd]; omega) | (simp [sd, *] <;> fail) | fail) ?_
    | refine X.stp (by conv => lhs; whnf) (by conv => lhs; whnf) (by first | assumption | first | rfl | (simp only [hgs, if_true]; rfl)) rfl (by first | omega | exact Nat.le_of_ble_eq_true rfl) rfl rfl rfl (by first | rfl | omega | exact Nat.le_of_ble_eq_true rfl | (simp (disch := omega) only [sd, sb]; omega) | (simp (disch := omega) [sd] <;> fail) | (simp (disch := omega) [sd]; omega) | (simp [sd, *] <;> fail) | fail) (by first | exact bs_getD (by first | rfl | omega | exact Nat.le_of_ble_eq_true rfl | (simp (disch := omega) only [sd, sb]; omega) | (simp (disch := omega) [sd] <;> fail) | (simp (disch := omega) [sd]; omega) | (simp [sd, *] <;> fail) | fail) | rfl) (by first | rfl | omega | exact Nat.le_of_ble_eq_true rfl | (simp (disch := omega) only [sd, sb]; omega) | (simp (disch := omega) [sd] <;> fail) | (simp (disch := omega) [sd]; omega) | (simp [sd, *] <;> fail) | fail) ?_
    | refine X.ldp (by conv => lhs; whnf) (by first | assumption | first | rfl | (simp only [hgs, if_true]; rfl)) (by first | rfl | omega | exact Nat.le_of_ble_eq_true rfl | (simp (disch := omega) only [sd, sb]; omega) | (simp (disch := omega) [sd] <;> fail) | (simp (disch := omega) [sd]; omega) | (simp [sd, *] <;> fail) | fail) (by first | exact bs_getD (by first | rfl | omega | exact Nat.le_of_ble_eq_true rfl | (simp (disch := omega) only [sd, sb]; omega) | (simp (disch := omega) [sd] <;> fail) | (simp (disch := omega) [sd]; omega) | (simp [sd, *] <;> fail) | fail) | rfl) (by first | rfl | omega | exact Nat.le_of_ble_eq_true rfl | (simp (disch := omega) only [sd, sb]; omega) | (simp (disch := omega) [sd] <;> fail) | (simp (disch := omega) [sd]; omega) | (simp [sd, *] <;> fail) | fail) rfl ?_
    | refine X.len (by conv => lhs; whnf) (by first | rfl | assumption) ?_
    | refine X.condTs rfl (by first | rfl | omega | exact Nat.le_of_ble_eq_true rfl | (simp (disch := omega) only [sd, sb]; omega) | (simp (disch := omega) [sd] <;> fail) | (simp (disch := omega) [sd]; omega) | (simp [sd, *] <;> fail) | fail) ?_
    | refine X.condFs rfl (by first | rfl | omega | exact Nat.le_of_ble_eq_true rfl | (simp (disch := omega) only [sd, sb]; omega) | (simp (disch := omega) [sd] <;> fail) | (simp (disch := omega) [sd]; omega) | (simp [sd, *] <;> fail) | fail) ?_
    | refine X.g1Ts rfl (by first | rfl | omega | exact Nat.le_of_ble_eq_true rfl | (simp (disch := omega) only [sd, sb]; omega) | (simp (disch := omega) [sd] <;> fail) | (simp (disch := omega) [sd]; omega) | (simp [sd, *] <;> fail) | fail) ?_
    | refine X.g1Fs rfl (by first | rfl | omega | exact Nat.le_of_ble_eq_true rfl | (simp (disch := omega) only [sd, sb]; omega) | (simp (disch := omega) [sd] <;> fail) | (simp (disch := omega) [sd]; omega) | (simp [sd, *] <;> fail) | fail) ?_
    | refine X.pickTs rfl (by first | rfl | omega | exact Nat.le_of_ble_eq_true rfl | (simp (disch := omega) only [sd, sb]; omega) | (simp (disch := omega) [sd] <;> fail) | (simp (disch := omega) [sd]; omega) | (simp [sd, *] <;> fail) | fail) (fun _ => rfl) ?_
    | refine X.pickFs rfl (by first | rfl | omega | exact Nat.le_of_ble_eq_true rfl | (simp (disch := omega) only [sd, sb]; omega) | (simp (disch := omega) [sd] <;> fail) | (simp (disch := omega) [sd]; omega) | (simp [sd, *] <;> fail) | fail) (fun _ => rfl) ?_
    | refine X.mov (by conv => lhs; whnf) (by first | rfl | assumption) ?_
    )
  refine X.pcall (same_ok l l (by omega)) (.s (clo_vs [.one] _) (.s (clo_vs [.one] _) (.nil _))) (by show [V.vs 1 (((bs (l ++ List.replicate 80 m)).drop 0).take (bs l).length), V.vs 1 (bs l)] = _; rw [es]) rfl rfl ?_
  rw [decide_eq_true (Eq.refl l)]
  repeat (first
    | refine X.lpb ?_
    | refine X.seq ?_
    | refine X.skip ?_
    | refine X.ret ?_
    | refine X.exit ?_
    | refine X.blk ?_
    | refine X.sn ?_
    | refine X.se ?_
    | refine X.sr ?_
    | refine X.bn ?_
    | refine X.br ?_
    | refine X.bh ?_
    | refine X.bm rfl ?_
    | refine X.pn ?_
    | refine X.gn ?_
    | refine X.g0 ?_
    | refine X.ln ?_
    | refine X.finn ?_
    | refine X.reg0 (by conv => lhs; reduce) ?_
    | refine X.reg1 (by conv => lhs; reduce) ?_
    | refine X.gt rfl ?_
    | refine X.iav (by conv => lhs; whnf) (by conv => lhs; whnf) (by first | rfl | omega | exact Nat.le_of_ble_eq_true rfl | (simp (disch := omega) only [sd, sb]; omega) | (simp (disch := omega) [sd] <;> fail) | (simp (disch := omega) [sd]; omega) | (simp [sd, *] <;> fail) | fail) (by first | exact bs_getD (by first | rfl | omega | exact Nat.le_of_ble_eq_true rfl | (simp (disch := omega) only [sd, sb]; omega) | (simp (disch := omega) [sd] <;> fail) | (simp (disch := omega) [sd]; omega) | (simp [sd, *] <;> fail) | fail) | rfl) ?_
    | refine X.o0 (fun _ _ => rfl) ?_
    | refine X.o1 (fun _ _ => rfl) (by first | rfl | omega | exact Nat.le_of_ble_eq_true rfl | (simp (disch := omega) only [sd, sb]; omega) | (simp (disch := omega) [sd] <;> fail) | (simp (disch := omega) [sd]; omega) | (simp [sd, *] <;> fail) | fail) ?_
    | refine X.o2 (fun _ _ => rfl) (by first | rfl | omega | exact Nat.le_of_ble_eq_true rfl | (simp (disch := omega) only [sd, sb]; omega) | (simp (disch := omega) [sd] <;> fail) | (simp (disch := omega) [sd]; omega) | (simp [sd, *] <;> fail) | fail) (by first | rfl | omega | exact Nat.le_of_ble_eq_true rfl | (simp (disch := omega) only [sd, sb]; omega) | (simp (disch := omega) [sd] <;> fail) | (simp (disch := omega) [sd]; omega) | (simp [sd, *] <;> fail) | fail) ?_
    | refine X.o3 (fun _ _ => rfl) (by first | rfl | omega | exact Nat.le_of_ble_eq_true rfl | (simp (disch := omega) only [sd, sb]; omega) | (simp (disch := omega) [sd] <;> fail) | (simp (disch := omega) [sd]; omega) | (simp [sd, *] <;> fail) | fail) (by first | rfl | omega | exact Nat.le_of_ble_eq_true rfl | (simp (disch := omega) only [sd, sb]; omega) | (simp (disch := omega) [sd] <;> fail) | (simp (disch := omega) [sd]; omega) | (simp [sd, *] <;> fail) | fail) (by first | rfl | omega | exact Nat.le_of_ble_eq_true rfl | (simp (disch := omega) only [sd, sb]; omega) | (simp (disch := omega) [sd] <;> fail) | (simp (disch := omega) [sd]; omega) | (simp [sd, *] <;> fail) | fail) ?_
    | refine X.pickT rfl (fun _ => rfl) ?_
    | refine X.pickF rfl (fun _ => rfl) ?_
    | refine X.condT rfl ?_
    | refine X.condF rfl ?_
    | refine X.g1T rfl ?_
    | refine X.g1F rfl ?_
    | refine X.alc rfl ?_
    | refine X.box (by conv => lhs; whnf) rfl rfl ?_
    | refine X.stl (by conv => lhs; whnf) rfl rfl rfl rfl rfl rfl rfl ?_
    | refine X.apf (by conv => lhs; whnf) (by conv => lhs; whnf) (by first | exact Els.vs _ | exact Els.st _ | exact Els.ns) (by first | rfl | (simp only [hgs, if_true]; rfl)) rfl rfl (by first | rfl | omega | exact Nat.le_of_ble_eq_true rfl | (simp (disch := omega) only [sd, sb]; omega) | (simp (disch := omega) [sd] <;> fail) | (simp (disch := omega) [sd]; omega) | (simp [sd, *] <;> fail) | fail) (by first | rfl | omega | exact Nat.le_of_ble_eq_true rfl | (simp (disch := omega) only [sd, sb]; omega) | (simp (disch := omega) [sd] <;> fail) | (simp (disch := omega) [sd]; omega) | (simp [sd, *] <;> fail) | fail) (by conv => lhs; whnf) ?_
    | refine X.bsl rfl (by conv => lhs; whnf) ?_
    | refine X.alh (by conv => lhs; whnf) ?_
    | refine X.bxh (by conv => lhs; whnf) rfl (by conv => lhs; whnf) ?_
    | refine X.mks (by conv => lhs; whnf) (by conv => lhs; whnf) (by first | rfl | omega | exact Nat.le_of_ble_eq_true rfl | (simp (disch := omega) only [sd, sb]; omega) | (simp (disch := omega) [sd] <;> fail) | (simp (disch := omega) [sd]; omega) | (simp [sd, *] <;> fail) | fail) (by first | rfl | omega | exact Nat.le_of_ble_eq_true rfl | (simp (disch := omega) only [sd, sb]; omega) | (simp (disch := omega) [sd] <;> fail) | (simp (disch := omega) [sd]; omega) | (simp [sd, *] <;> fail) | fail) (by first | rfl | omega | exact Nat.le_of_ble_eq_true rfl | (simp (disch := omega) only [sd, sb]; omega) | (simp (disch := omega) [sd] <;> fail) | (simp (disch := omega) [sd]; omega) | (simp [sd, *] <;> fail) | fail) (by decide) (by conv => lhs; whnf) (by first | exact wr_add_nat (by first | rfl | omega | exact Nat.le_of_ble_eq_true rfl | (simp (disch := omega) only [sd, sb]; omega) | (simp (disch := omega) [sd] <;> fail) | (simp (disch := omega) [sd]; omega) | (simp [sd, *] <;> fail) | fail) | (conv => lhs; whnf)) ?_
    | refine X.cpy (by conv => lhs; whnf) (by conv => lhs; whnf) (elems_vs _) (by first | assumption | first | rfl | (simp only [hgs, if_true]; rfl)) rfl rfl (by first | rfl | omega | exact Nat.le_of_ble_eq_true rfl | (simp (disch := omega) only [sd, sb]; omega) | (simp (disch := omega) [sd] <;> fail) | (simp (disch := omega) [sd]; omega) | (simp [sd, *] <;> fail) | fail) (by first | rfl | omega | exact Nat.le_of_ble_eq_true rfl | (simp (disch := omega) only [sd, sb]; omega) | (simp (disch := omega) [sd] <;> fail) | (simp (disch := omega) [sd]; omega) | (simp [sd, *] <;> fail) | fail) ?_
    | refine X.iah (by conv => lhs; whnf) (by conv => lhs; whnf) (by first | assumption | first | rfl | (simp only [hgs, if_true]; rfl)) rfl (by first | rfl | omega | exact Nat.le_of_ble_eq_true rfl | (simp (disch := omega) only [sd, sb]; omega) | (simp (disch := omega) [sd] <;> fail) | (simp (disch := omega) [sd]; omega) | (simp [sd, *] <;> fail) | fail) ?_
    | refine X.stp (by conv => lhs; whnf) (by conv => lhs; whnf) (by first | assumption | first | rfl | (simp only [hgs, if_true]; rfl)) rfl (by first | omega | exact Nat.le_of_ble_eq_true rfl) rfl rfl rfl (by first | rfl | omega | exact Nat.le_of_ble_eq_true rfl | (simp (disch := omega) only [sd, sb]; omega) | (simp (disch := omega) [sd] <;> fail) | (simp (disch := omega) [sd]; omega) | (simp [sd, *] <;> fail) | fail) (by first | exact bs_getD (by first | rfl | omega | exact Nat.le_of_ble_eq_true rfl | (simp (disch := omega) only [sd, sb]; omega) | (simp (disch := omega) [sd] <;> fail) | (simp (disch := omega) [sd]; omega) | (simp [sd, *] <;> fail) | fail) | rfl) (by first | rfl | omega | exact Nat.le_of_ble_eq_true rfl | (simp (disch := omega) only [sd, sb]; omega) | (simp (disch := omega) [sd] <;> fail) | (simp (disch := omega) [sd]; omega) | (simp [sd, *] <;> fail) | fail) ?_
    | refine X.ldp (by conv => lhs; whnf) (by first | assumption | first | rfl | (simp only [hgs, if_true]; rfl)) (by first | rfl | omega | exact Nat.le_of_ble_eq_true rfl | (simp (disch := omega) only [sd, sb]; omega) | (simp (disch := omega) [sd] <;> fail) | (simp (disch := omega) [sd]; omega) | (simp [sd, *] <;> fail) | fail) (by first | exact bs_getD (by first | rfl | omega | exact Nat.le_of_ble_eq_true rfl | (simp (disch := omega) only [sd, sb]; omega) | (simp (disch := omega) [sd] <;> fail) | (simp (disch := omega) [sd]; omega) | (simp [sd, *] <;> fail) | fail) | rfl) (by first | rfl | omega | exact Nat.le_of_ble_eq_true rfl | (simp (disch := omega) only [sd, sb]; omega) | (simp (disch := omega) [sd] <;> fail) | (simp (disch := omega) [sd]; omega) | (simp [sd, *] <;> fail) | fail) rfl ?_
    | refine X.len (by conv => lhs; whnf) (by first | rfl | assumption) ?_
    | refine X.condTs rfl (by first | rfl | omega | exact Nat.le_of_ble_eq_true rfl | (simp (disch := omega) only [sd, sb]; omega) | (simp (disch := omega) [sd] <;> fail) | (simp (disch := omega) [sd]; omega) | (simp [sd, *] <;> fail) | fail) ?_
    | refine X.condFs rfl (by first | rfl | omega | exact Nat.le_of_ble_eq_true rfl | (simp (disch := omega) only [sd, sb]; omega) | (simp (disch := omega) [sd] <;> fail) | (simp (disch := omega) [sd]; omega) | (simp [sd, *] <;> fail) | fail) ?_
    | refine X.g1Ts rfl (by first | rfl | omega | exact Nat.le_of_ble_eq_true rfl | (simp (disch := omega) only [sd, sb]; omega) | (simp (disch := omega) [sd] <;> fail) | (simp (disch := omega) [sd]; omega) | (simp [sd, *] <;> fail) | fail) ?_
    | refine X.g1Fs rfl (by first | rfl | omega | exact Nat.le_of_ble_eq_true rfl | (simp (disch := omega) only [sd, sb]; omega) | (simp (disch := omega) [sd] <;> fail) | (simp (disch := omega) [sd]; omega) | (simp [sd, *] <;> fail) | fail) ?_
    | refine X.pickTs rfl (by first | rfl | omega | exact Nat.le_of_ble_eq_true rfl | (simp (disch := omega) only [sd, sb]; omega) | (simp (disch := omega) [sd] <;> fail) | (simp (disch := omega) [sd]; omega) | (simp [sd, *] <;> fail) | fail) (fun _ => rfl) ?_
    | refine X.pickFs rfl (by first | rfl | omega | exact Nat.le_of_ble_eq_true rfl | (simp (disch := omega) only [sd, sb]; omega) | (simp (disch := omega) [sd] <;> fail) | (simp (disch := omega) [sd]; omega) | (simp [sd, *] <;> fail) | fail) (fun _ => rfl) ?_
    | refine X.mov (by conv => lhs; whnf) (by first | rfl | assumption) ?_
    )
  refine X.loop (h.congr rfl rfl rfl) ?_
  repeat (first
    | refine X.lpb ?_
    | refine X.seq ?_
    | refine X.skip ?_
    | refine X.ret ?_
    | refine X.exit ?_
    | refine X.blk ?_
    | refine X.sn ?_
    | refine X.se ?_
    | refine X.sr ?_
    | refine X.bn ?_
    | refine X.br ?_
    | refine X.bh ?_
    | refine X.bm rfl ?_
    | refine X.pn ?_
    | refine X.gn ?_
    | refine X.g0 ?_
    | refine X.ln ?_
    | refine X.finn ?_
    | refine X.reg0 (by conv => lhs; reduce) ?_
    | refine X.reg1 (by conv => lhs; reduce) ?_
    | refine X.gt rfl ?_
    | refine X.iav (by conv => lhs; whnf) (by conv => lhs; whnf) (by first | rfl | omega | exact Nat.le_of_ble_eq_true rfl | (simp (disch := omega) only [sd, sb]; omega) | (simp (disch := omega) [sd] <;> fail) | (simp (disch := omega) [sd]; omega) | (simp [sd, *] <;> fail) | fail) (by first | exact bs_getD (by first | rfl | omega | exact Nat.le_of_ble_eq_true rfl | (simp (disch := omega) only [sd, sb]; omega) | (simp (disch := omega) [sd] <;> fail) | (simp (disch := omega) [sd]; omega) | (simp [sd, *] <;> fail) | fail) | rfl) ?_
    | refine X.o0 (fun _ _ => rfl) ?_
    | refine X.o1 (fun _ _ => rfl) (by first | rfl | omega | exact Nat.le_of_ble_eq_true rfl | (simp (disch := omega) only [sd, sb]; omega) | (simp (disch := omega) [sd] <;> fail) | (simp (disch := omega) [sd]; omega) | (simp [sd, *] <;> fail) | fail) ?_
    | refine X.o2 (fun _ _ => rfl) (by first | rfl | omega | exact Nat.le_of_ble_eq_true rfl | (simp (disch := omega) only [sd, sb]; omega) | (simp (disch := omega) [sd] <;> fail) | (simp (disch := omega) [sd]; omega) | (simp [sd, *] <;> fail) | fail) (by first | rfl | omega | exact Nat.le_of_ble_eq_true rfl | (simp (disch := omega) only [sd, sb]; omega) | (simp (disch := omega) [sd] <;> fail) | (simp (disch := omega) [sd]; omega) | (simp [sd, *] <;> fail) | fail) ?_
    | refine X.o3 (fun _ _ => rfl) (by first | rfl | omega | exact Nat.le_of_ble_eq_true rfl | (simp (disch := omega) only [sd, sb]; omega) | (simp (disch := omega) [sd] <;> fail) | (simp (disch := omega) [sd]; omega) | (simp [sd, *] <;> fail) | fail) (by first | rfl | omega | exact Nat.le_of_ble_eq_true rfl | (simp (disch := omega) only [sd, sb]; omega) | (simp (disch := omega) [sd] <;> fail) | (simp (disch := omega) [sd]; omega) | (simp [sd, *] <;> fail) | fail) (by first | rfl | omega | exact Nat.le_of_ble_eq_true rfl | (simp (disch := omega) only [sd, sb]; omega) | (simp (disch := omega) [sd] <;> fail) | (simp (disch := omega) [sd]; omega) | (simp [sd, *] <;> fail) | fail) ?_
    | refine X.pickT rfl (fun _ => rfl) ?_
    | refine X.pickF rfl (fun _ => rfl) ?_
    | refine X.condT rfl ?_
    | refine X.condF rfl ?_
    | refine X.g1T rfl ?_
    | refine X.g1F rfl ?_
    | refine X.alc rfl ?_
    | refine X.box (by conv => lhs; whnf) rfl rfl ?_
    | refine X.stl (by conv => lhs; whnf) rfl rfl rfl rfl rfl rfl rfl ?_
    | refine X.apf (by conv => lhs; whnf) (by conv => lhs; whnf) (by first | exact Els.vs _ | exact Els.st _ | exact Els.ns) (by first | rfl | (simp only [hgs, if_true]; rfl)) rfl rfl (by first | rfl | omega | exact Nat.le_of_ble_eq_true rfl | (simp (disch := omega) only [sd, sb]; omega) | (simp (disch := omega) [sd] <;> fail) | (simp (disch := omega) [sd]; omega) | (simp [sd, *] <;> fail) | fail) (by first | rfl | omega | exact Nat.le_of_ble_eq_true rfl | (simp (disch := omega) only [sd, sb]; omega) | (simp (disch := omega) [sd] <;> fail) | (simp (disch := omega) [sd]; omega) | (simp [sd, *] <;> fail) | fail) (by conv => lhs; whnf) ?_
    | refine X.bsl rfl (by conv => lhs; whnf) ?_
    | refine X.alh (by conv => lhs; whnf) ?_
    | refine X.bxh (by conv => lhs; whnf) rfl (by conv => lhs; whnf) ?_
    | refine X.mks (by conv => lhs; whnf) (by conv => lhs; whnf) (by first | rfl | omega | exact Nat.le_of_ble_eq_true rfl | (simp (disch := omega) only [sd, sb]; omega) | (simp (disch := omega) [sd] <;> fail) | (simp (disch := omega) [sd]; omega) | (simp [sd, *] <;> fail) | fail) (by first | rfl | omega | exact Nat.le_of_ble_eq_true rfl | (simp (disch := omega) only [sd, sb]; omega) | (simp (disch := omega) [sd] <;> fail) | (simp (disch := omega) [sd]; omega) | (simp [sd, *] <;> fail) | fail) (by first | rfl | omega | exact Nat.le_of_ble_eq_true rfl | (simp (disch := omega) only [sd, sb]; omega) | (simp (disch := omega) [sd] <;> fail) | (simp (disch := omega) [sd]; omega) | (simp [sd, *] <;> fail) | fail) (by decide) (by conv => lhs; whnf) (by first | exact wr_add_nat (by first | rfl | omega | exact Nat.le_of_ble_eq_true rfl | (simp (disch := omega) only [sd, sb]; omega) | (simp (disch := omega) [sd] <;> fail) | (simp (disch := omega) [sd]; omega) | (simp [sd, *] <;> fail) | fail) | (conv => lhs; whnf)) ?_
    | refine X.cpy (by conv => lhs; whnf) (by conv => lhs; whnf) (elems_vs _) (by first | assumption | first | rfl | (simp only [hgs, if_true]; rfl)) rfl rfl (by first | rfl | omega | exact Nat.le_of_ble_eq_true rfl | (simp (disch := omega) only [sd, sb]; omega) | (simp (disch := omega) [sd] <;> fail) | (simp (disch := omega) [sd]; omega) | (simp [sd, *] <;> fail) | fail) (by first | rfl | omega | exact Nat.le_of_ble_eq_true rfl | (simp (disch := omega) only [sd, sb]; omega) | (simp (disch := omega) [sd] <;> fail) | (simp (disch := omega) [sd]; omega) | (simp [sd, *] <;> fail) | fail) ?_
    | refine X.iah (by conv => lhs; whnf) (by conv => lhs; whnf) (by first | assumption | first | rfl | (simp only [hgs, if_true]; rfl)) rfl (by first | rfl | omega | exact Nat.le_of_ble_eq_true rfl | (simp (disch := omega) only [sd, sb]; omega) | (simp (disch := omega) [sd] <;> fail) | (simp (disch := omega) [sd]; omega) | (simp [sd, *] <;> fail) | fail) ?_
    | refine X.stp (by conv => lhs; whnf) (by conv => lhs; whnf) (by first | assumption | first | rfl | (simp only [hgs, if_true]; rfl)) rfl (by first | omega | exact Nat.le_of_ble_eq_true rfl) rfl rfl rfl (by first | rfl | omega | exact Nat.le_of_ble_eq_true rfl | (simp (disch := omega) only [sd, sb]; omega) | (simp (disch := omega) [sd] <;> fail) | (simp (disch := omega) [sd]; omega) | (simp [sd, *] <;> fail) | fail) (by first | exact bs_getD (by first | rfl | omega | exact Nat.le_of_ble_eq_true rfl | (simp (disch := omega) only [sd, sb]; omega) | (simp (disch := omega) [sd] <;> fail) | (simp (disch := omega) [sd]; omega) | (simp [sd, *] <;> fail) | fail) | rfl) (by first | rfl | omega | exact Nat.le_of_ble_eq_true rfl | (simp (disch := omega) only [sd, sb]; omega) | (simp (disch := omega) [sd] <;> fail) | (simp (disch := omega) [sd]; omega) | (simp [sd, *] <;> fail) | fail) ?_
    | refine X.ldp (by conv => lhs; whnf) (by first | assumption | first | rfl | (simp only [hgs, if_true]; rfl)) (by first | rfl | omega | exact Nat.le_of_ble_eq_true rfl | (simp (disch := omega) only [sd, sb]; omega) | (simp (disch := omega) [sd] <;> fail) | (simp (disch := omega) [sd]; omega) | (simp [sd, *] <;> fail) | fail) (by first | exact bs_getD (by first | rfl | omega | exact Nat.le_of_ble_eq_true rfl | (simp (disch := omega) only [sd, sb]; omega) | (simp (disch := omega) [sd] <;> fail) | (simp (disch := omega) [sd]; omega) | (simp [sd, *] <;> fail) | fail) | rfl) (by first | rfl | omega | exact Nat.le_of_ble_eq_true rfl | (simp (disch := omega) only [sd, sb]; omega) | (simp (disch := omega) [sd] <;> fail) | (simp (disch := omega) [sd]; omega) | (simp [sd, *] <;> fail) | fail) rfl ?_
    | refine X.len (by conv => lhs; whnf) (by first | rfl | assumption) ?_
    | refine X.condTs rfl (by first | rfl | omega | exact Nat.le_of_ble_eq_true rfl | (simp (disch := omega) only [sd, sb]; omega) | (simp (disch := omega) [sd] <;> fail) | (simp (disch := omega) [sd]; omega) | (simp [sd, *] <;> fail) | fail) ?_
    | refine X.condFs rfl (by first | rfl | omega | exact Nat.le_of_ble_eq_true rfl | (simp (disch := omega) only [sd, sb]; omega) | (simp (disch := omega) [sd] <;> fail) | (simp (disch := omega) [sd]; omega) | (simp [sd, *] <;> fail) | fail) ?_
    | refine X.g1Ts rfl (by first | rfl | omega | exact Nat.le_of_ble_eq_true rfl | (simp (disch := omega) only [sd, sb]; omega) | (simp (disch := omega) [sd] <;> fail) | (simp (disch := omega) [sd]; omega) | (simp [sd, *] <;> fail) | fail) ?_
    | refine X.g1Fs rfl (by first | rfl | omega | exact Nat.le_of_ble_eq_true rfl | (simp (disch := omega) only [sd, sb]; omega) | (simp (disch := omega) [sd] <;> fail) | (simp (disch := omega) [sd]; omega) | (simp [sd, *] <;> fail) | fail) ?_
    | refine X.pickTs rfl (by first | rfl | omega | exact Nat.le_of_ble_eq_true rfl | (simp (disch := omega) only [sd, sb]; omega) | (simp (disch := omega) [sd] <;> fail) | (simp (disch := omega) [sd]; omega) | (simp [sd, *] <;> fail) | fail) (fun _ => rfl) ?_
    | refine X.pickFs rfl (by first | rfl | omega | exact Nat.le_of_ble_eq_true rfl | (simp (disch := omega) only [sd, sb]; omega) | (simp (disch := omega) [sd] <;> fail) | (simp (disch := omega) [sd]; omega) | (simp [sd, *] <;> fail) | fail) (fun _ => rfl) ?_
    | refine X.mov (by conv => lhs; whnf) (by first | rfl | assumption) ?_
    )
  exact X.fin (fun _ => rfl) rfl rfl

theorem rright_ok (ty fl s : Int) (p : List Int) : EvP F 20 c20 [.ag (fr ty fl s p)] [.bo (rightB ty fl s p.length)] := by
  refine EvP.of d20 rfl rfl rfl (v := .bo _) (h := h0) (h' := h0) ?_ (.s (clo_bo _) (.nil _))
  refine X.fn ?_
  repeat' (first
    | refine X.lpb ?_
    | refine X.seq ?_
    | refine X.skip ?_
    | refine X.ret ?_
    | refine X.exit ?_
    | refine X.blk ?_
    | refine X.sn ?_
    | refine X.se ?_
    | refine X.sr ?_
    | refine X.bn ?_
    | refine X.br ?_
    | refine X.bh ?_
    | refine X.bm rfl ?_
    | refine X.pn ?_
    | refine X.gn ?_
    | refine X.g0 ?_
    | refine X.ln ?_
    | refine X.finn ?_
    | refine X.reg0 (by conv => lhs; reduce) ?_
    | refine X.reg1 (by conv => lhs; reduce) ?_
    | refine X.gt rfl ?_
    | refine X.iav (by conv => lhs; whnf) (by conv => lhs; whnf) (by first | rfl | omega | exact Nat.le_of_ble_eq_true rfl | (simp (disch := omega) only [sd, sb]; omega) | (simp (disch := omega) [sd] <;> fail) | (simp (disch := omega) [sd]; omega) | (simp [sd, *] <;> fail) | fail) (by first | exact bs_getD (by first | rfl | omega | exact Nat.le_of_ble_eq_true rfl | (simp (disch := omega) only [sd, sb]; omega) | (simp (disch := omega) [sd] <;> fail) | (simp (disch := omega) [sd]; omega) | (simp [sd, *] <;> fail) | fail) | rfl) ?_
    | refine X.o0 (fun _ _ => rfl) ?_
    | refine X.o1 (fun _ _ => rfl) (by first | rfl | omega | exact Nat.le_of_ble_eq_true rfl | (simp (disch := omega) only [sd, sb]; omega) | (simp (disch := omega) [sd] <;> fail) | (simp (disch := omega) [sd]; omega) | (simp [sd, *] <;> fail) | fail) ?_
    | refine X.o2 (fun _ _ => rfl) (by first | rfl | omega | exact Nat.le_of_ble_eq_true rfl | (simp (disch := omega) only [sd, sb]; omega) | (simp (disch := omega) [sd] <;> fail) | (simp (disch := omega) [sd]; omega) | (simp [sd, *] <;> fail) | fail) (by first | rfl | omega | exact Nat.le_of_ble_eq_true rfl | (simp (disch := omega) only [sd, sb]; omega) | (simp (disch := omega) [sd] <;> fail) | (simp (disch := omega) [sd]; omega) | (simp [sd, *] <;> fail) | fail) ?_
    | refine X.o3 (fun _ _ => rfl) (by first | rfl | omega | exact Nat.le_of_ble_eq_true rfl | (simp (disch := omega) only [sd, sb]; omega) | (simp (disch := omega) [sd] <;> fail) | (simp (disch := omega) [sd]; omega) | (simp [sd, *] <;> fail) | fail) (by first | rfl | omega | exact Nat.le_of_ble_eq_true rfl | (simp (disch := omega) only [sd, sb]; omega) | (simp (disch := omega) [sd] <;> fail) | (simp (disch := omega) [sd]; omega) | (simp [sd, *] <;> fail) | fail) (by first | rfl | omega | exact Nat.le_of_ble_eq_true rfl | (simp (disch := omega) only [sd, sb]; omega) | (simp (disch := omega) [sd] <;> fail) | (simp (disch := omega) [sd]; omega) | (simp [sd, *] <;> fail) | fail) ?_
    | refine X.pickT rfl (fun _ => rfl) ?_
    | refine X.pickF rfl (fun _ => rfl) ?_
    | refine X.condT rfl ?_
    | refine X.condF rfl ?_
    | refine X.g1T rfl ?_
    | refine X.g1F rfl ?_
    | refine X.alc rfl ?_
    | refine X.box (by conv => lhs; whnf) rfl rfl ?_
    | refine X.stl (by conv => lhs; whnf) rfl rfl rfl rfl rfl rfl rfl ?_
    | refine X.apf (by conv => lhs; whnf) (by conv => lhs; whnf) (by first | exact Els.vs _ | exact Els.st _ | exact Els.ns) (by first | rfl | (simp only [hgs, if_true]; rfl)) rfl rfl (by first | rfl | omega | exact Nat.le_of_ble_eq_true rfl | (simp (disch := omega) only [sd, sb]; omega) | (simp (disch := omega) [sd] <;> fail) | (simp (disch := omega) [sd]; omega) | (simp [sd, *] <;> fail) | fail) (by first | rfl | omega | exact Nat.le_of_ble_eq_true rfl | (simp (disch := omega) only [sd, sb]; omega) | (simp (disch := omega) [sd] <;> fail) | (simp (disch := omega) [sd]; omega) | (simp [sd, *] <;> fail) | fail) (by conv => lhs; whnf) ?_
    | refine X.bsl rfl (by conv => lhs; whnf) ?_
    | refine X.alh (by conv => lhs; whnf) ?_
    | refine X.bxh (by conv => lhs; whnf) rfl (by conv => lhs; whnf) ?_
    | refine X.mks (by conv => lhs; whnf) (by conv => lhs; whnf) (by first | rfl | omega | exact Nat.le_of_ble_eq_true rfl | (simp (disch := omega) only [sd, sb]; omega) | (simp (disch := omega) [sd] <;> fail) | (simp (disch := omega) [sd]; omega) | (simp [sd, *] <;> fail) | fail) (by first | rfl | omega | exact Nat.le_of_ble_eq_true rfl | (simp (disch := omega) only [sd, sb]; omega) | (simp (disch := omega) [sd] <;> fail) | (simp (disch := omega) [sd]; omega) | (simp [sd, *] <;> fail) | fail) (by first | rfl | omega | exact Nat.le_of_ble_eq_true rfl | (simp (disch := omega) only [sd, sb]; omega) | (simp (disch := omega) [sd] <;> fail) | (simp (disch := omega) [sd]; omega) | (simp [sd, *] <;> fail) | fail) (by decide) (by conv => lhs; whnf) (by first | exact wr_add_nat (by first | rfl | omega | exact Nat.le_of_ble_eq_true rfl | (simp (disch := omega) only [sd, sb]; omega) | (simp (disch := omega) [sd] <;> fail) | (simp (disch := omega) [sd]; omega) | (simp [sd, *] <;> fail) | fail) | (conv => lhs; whnf)) ?_
    | refine X.cpy (by conv => lhs; whnf) (by conv => lhs; whnf) (elems_vs _) (by first | assumption | first | rfl | (simp only [hgs, if_true]; rfl)) rfl rfl (by first | rfl | omega | exact Nat.le_of_ble_eq_true rfl | (simp (disch := omega) only [sd, sb]; omega) | (simp (disch := omega) [sd] <;> fail) | (simp (disch := omega) [sd]; omega) | (simp [sd, *] <;> fail) | fail) (by first | rfl | omega | exact Nat.le_of_ble_eq_true rfl | (simp (disch := omega) only [sd, sb]; omega) | (simp (disch := omega) [sd] <;> fail) | (simp (disch := omega) [sd]; omega) | (simp [sd, *] <;> fail) | fail) ?_
    | refine X.iah (by conv => lhs; whnf) (by conv => lhs; whnf) (by first | assumption | first | rfl | (simp only [hgs, if_true]; rfl)) rfl (by first | rfl | omega | exact Nat.le_of_ble_eq_true rfl | (simp (disch := omega) only [sd, sb]; omega) | (simp (disch := omega) [sd] <;> fail) | (simp (disch := omega) [sd]; omega) | (simp [sd, *] <;> fail) | fail) ?_
    | refine X.stp (by conv => lhs; whnf) (by conv => lhs; whnf) (by first | assumption | first | rfl | (simp only [hgs, if_true]; rfl)) rfl (by first | omega | exact Nat.le_of_ble_eq_true rfl) rfl rfl rfl (by first | rfl | omega | exact Nat.le_of_ble_eq_true rfl | (simp (disch := omega) only [sd, sb]; omega) | (simp (disch := omega) [sd] <;> fail) | (simp (disch := omega) [sd]; omega) | (simp [sd, *] <;> fail) | fail) (by first | exact bs_getD (by first | rfl | omega | exact Nat.le_of_ble_eq_true rfl | (simp (disch := omega) only [sd, sb]; omega) | (simp (disch := omega) [sd] <;> fail) | (simp (disch := omega) [sd]; omega) | (simp [sd, *] <;> fail) | fail) | rfl) (by first | rfl | omega | exact Nat.le_of_ble_eq_true rfl | (simp (disch := omega) only [sd, sb]; omega) | (simp (disch := omega) [sd] <;> fail) | (simp (disch := omega) [sd]; omega) | (simp [sd, *] <;> fail) | fail) ?_
    | refine X.ldp (by conv => lhs; whnf) (by first | assumption | first | rfl | (simp only [hgs, if_true]; rfl)) (by first | rfl | omega | exact Nat.le_of_ble_eq_true rfl | (simp (disch := omega) only [sd, sb]; omega) | (simp (disch := omega) [sd] <;> fail) | (simp (disch := omega) [sd]; omega) | (simp [sd, *] <;> fail) | fail) (by first | exact bs_getD (by first | rfl | omega | exact Nat.le_of_ble_eq_true rfl | (simp (disch := omega) only [sd, sb]; omega) | (simp (disch := omega) [sd] <;> fail) | (simp (disch := omega) [sd]; omega) | (simp [sd, *] <;> fail) | fail) | rfl) (by first | rfl | omega | exact Nat.le_of_ble_eq_true rfl | (simp (disch := omega) only [sd, sb]; omega) | (simp (disch := omega) [sd] <;> fail) | (simp (disch := omega) [sd]; omega) | (simp [sd, *] <;> fail) | fail) rfl ?_
    | refine X.len (by conv => lhs; whnf) (by first | rfl | assumption) ?_
    | refine X.condTs rfl (by first | rfl | omega | exact Nat.le_of_ble_eq_true rfl | (simp (disch := omega) only [sd, sb]; omega) | (simp (disch := omega) [sd] <;> fail) | (simp (disch := omega) [sd]; omega) | (simp [sd, *] <;> fail) | fail) ?_
    | refine X.condFs rfl (by first | rfl | omega | exact Nat.le_of_ble_eq_true rfl | (simp (disch := omega) only [sd, sb]; omega) | (simp (disch := omega) [sd] <;> fail) | (simp (disch := omega) [sd]; omega) | (simp [sd, *] <;> fail) | fail) ?_
    | refine X.g1Ts rfl (by first | rfl | omega | exact Nat.le_of_ble_eq_true rfl | (simp (disch := omega) only [sd, sb]; omega) | (simp (disch := omega) [sd] <;> fail) | (simp (disch := omega) [sd]; omega) | (simp [sd, *] <;> fail) | fail) ?_
    | refine X.g1Fs rfl (by first | rfl | omega | exact Nat.le_of_ble_eq_true rfl | (simp (disch := omega) only [sd, sb]; omega) | (simp (disch := omega) [sd] <;> fail) | (simp (disch := omega) [sd]; omega) | (simp [sd, *] <;> fail) | fail) ?_
    | refine X.pickTs rfl (by first | rfl | omega | exact Nat.le_of_ble_eq_true rfl | (simp (disch := omega) only [sd, sb]; omega) | (simp (disch := omega) [sd] <;> fail) | (simp (disch := omega) [sd]; omega) | (simp [sd, *] <;> fail) | fail) (fun _ => rfl) ?_
    | refine X.pickFs rfl (by first | rfl | omega | exact Nat.le_of_ble_eq_true rfl | (simp (disch := omega) only [sd, sb]; omega) | (simp (disch := omega) [sd] <;> fail) | (simp (disch := omega) [sd]; omega) | (simp [sd, *] <;> fail) | fail) (fun _ => rfl) ?_
    | refine X.mov (by conv => lhs; whnf) (by first | rfl | assumption) ?_
    | refine X.cond rfl (fun h => ?_) (fun h => ?_)
    | refine X.g1 rfl (fun h => ?_) (fun h => ?_)
    | refine X.pick rfl (fun h => ⟨_, fun _ => rfl, ?_⟩) (fun h => ⟨_, fun _ => rfl, ?_⟩)
    )
  all_goals
    refine X.fin (fun _ => rfl) (congrArg V.bo ?_) rfl
    rw [Bool.eq_iff_iff]
    simp [rightB, ilt_eq, bs_length] at *
    try omega

theorem rput_ok (b : List Int) (ty fl s : Int) (p : List Int) (hb : b.length + p.length ≤ 10000000) : EvO F 21 c21 [.vs 1 (bs b), .ag (fr ty fl s p)] 1 (bs (putL b ty fl s p)) := by
  cases hr : rightB ty fl s p.length with
  | false =>
    rw [show putL b ty fl s p = b by simp [putL, hr]]
    refine EvO.of d21 (ts := [.one]) rfl rfl rfl rfl (id := 1) (i := 0) (len := 0 + (bs b).length) (h := hnew (hset (hnew h0 ⟨1, false, []⟩) 0 none) ⟨1, false, [] ++ bs b⟩) (es := [] ++ bs b) ?_ (by first | rfl | (simp only [hgs, if_true]; rfl)) (Nat.le_of_ble_eq_true rfl) (by simp) (by rw [List.drop_zero]; apply List.take_of_length_le; simp) (bs_clo _) (by simp [depth, bs_length]; omega)
    refine X.fn ?_
    repeat (first
      | refine X.lpb ?_
      | refine X.seq ?_
      | refine X.skip ?_
      | refine X.ret ?_
      | refine X.exit ?_
      | refine X.blk ?_
      | refine X.sn ?_
      | refine X.se ?_
      | refine X.sr ?_
      | refine X.bn ?_
      | refine X.br ?_
      | refine X.bh ?_
      | refine X.bm rfl ?_
      | refine X.pn ?_
      | refine X.gn ?_
      | refine X.g0 ?_
      | refine X.ln ?_
      | refine X.finn ?_
      | refine X.reg0 (by conv => lhs; reduce) ?_
      | refine X.reg1 (by conv => lhs; reduce) ?_
      | refine X.gt rfl ?_
      | refine X.iav (by conv => lhs; whnf) (by conv => lhs; whnf) (by first | rfl | omega | exact Nat.le_of_ble_eq_true rfl | (simp (disch := omega) only [sd, sb]; omega) | (simp (disch := omega) [sd] <;> fail) | (simp (disch := omega) [sd]; omega) | (simp [sd, *] <;> fail) | fail) (by first | exact bs_getD (by first | rfl | omega | exact Nat.le_of_ble_eq_true rfl | (simp (disch := omega) only [sd, sb]; omega) | (simp (disch := omega) [sd] <;> fail) | (simp (disch := omega) [sd]; omega) | (simp [sd, *] <;> fail) | fail) | rfl) ?_
      | refine X.o0 (fun _ _ => rfl) ?_
      | refine X.o1 (fun _ _ => rfl) (by first | rfl | omega | exact Nat.le_of_ble_eq_true rfl | (simp (disch := omega) only [sd, sb]; omega) | (simp (disch := omega) [sd] <;> fail) | (simp (disch := omega) [sd]; omega) | (simp [sd, *] <;> fail) | fail) ?_
      | refine X.o2 (fun _ _ => rfl) (by first | rfl | omega | exact Nat.le_of_ble_eq_true rfl | (simp (disch := omega) only [sd, sb]; omega) | (simp (disch := omega) [sd] <;> fail) | (simp (disch := omega) [sd]; omega) | (simp [sd, *] <;> fail) | fail) (by first | rfl | omega | exact Nat.le_of_ble_eq_true rfl | (simp (disch := omega) only [sd, sb]; omega) | (simp (disch := omega) [sd] <;> fail) | (simp (disch := omega) [sd]; omega) | (simp [sd, *] <;> fail) | fail) ?_
      | refine X.o3 (fun _ _ => rfl) (by first | rfl | omega | exact Nat.le_of_ble_eq_true rfl | (simp (disch := omega) only [sd, sb]; omega) | (simp (disch := omega) [sd] <;> fail) | (simp (disch := omega) [sd]; omega) | (simp [sd, *] <;> fail) | fail) (by first | rfl | omega | exact Nat.le_of_ble_eq_true rfl | (simp (disch := omega) only [sd, sb]; omega) | (simp (disch := omega) [sd] <;> fail) | (simp (disch := omega) [sd]; omega) | (simp [sd, *] <;> fail) | fail) (by first | rfl | omega | exact Nat.le_of_ble_eq_true rfl | (simp (disch := omega) only [sd, sb]; omega) | (simp (disch := omega) [sd] <;> fail) | (simp (disch := omega) [sd]; omega) | (simp [sd, *] <;> fail) | fail) ?_
      | refine X.pickT rfl (fun _ => rfl) ?_
      | refine X.pickF rfl (fun _ => rfl) ?_
      | refine X.condT rfl ?_
      | refine X.condF rfl ?_
      | refine X.g1T rfl ?_
      | refine X.g1F rfl ?_
      | refine X.alc rfl ?_
      | refine X.box (by conv => lhs; whnf) rfl rfl ?_
      | refine X.stl (by conv => lhs; whnf) rfl rfl rfl rfl rfl rfl rfl ?_
      | refine X.apf (by conv => lhs; whnf) (by conv => lhs; whnf) (by first | exact Els.vs _ | exact Els.st _ | exact Els.ns) (by first | rfl | (simp only [hgs, if_true]; rfl)) rfl rfl (by first | rfl | omega | exact Nat.le_of_ble_eq_true rfl | (simp (disch := omega) only [sd, sb]; omega) | (simp (disch := omega) [sd] <;> fail) | (simp (disch := omega) [sd]; omega) | (simp [sd, *] <;> fail) | fail) (by first | rfl | omega | exact Nat.le_of_ble_eq_true rfl | (simp (disch := omega) only [sd, sb]; omega) | (simp (disch := omega) [sd] <;> fail) | (simp (disch := omega) [sd]; omega) | (simp [sd, *] <;> fail) | fail) (by conv => lhs; whnf) ?_
      | refine X.bsl rfl (by conv => lhs; whnf) ?_
      | refine X.alh (by conv => lhs; whnf) ?_
      | refine X.bxh (by conv => lhs; whnf) rfl (by conv => lhs; whnf) ?_
      | refine X.mks (by conv => lhs; whnf) (by conv => lhs; whnf) (by first | rfl | omega | exact Nat.le_of_ble_eq_true rfl | (simp (disch := omega) only [sd, sb]; omega) | (simp (disch := omega) [sd] <;> fail) | (simp (disch := omega) [sd]; omega) | (simp [sd, *] <;> fail) | fail) (by first | rfl | omega | exact Nat.le_of_ble_eq_true rfl | (simp (disch := omega) only [sd, sb]; omega) | (simp (disch := omega) [sd] <;> fail) | (simp (disch := omega) [sd]; omega) | (simp [sd, *] <;> fail) | fail) (by first | rfl | omega | exact Nat.le_of_ble_eq_true rfl | (simp (disch := omega) only [sd, sb]; omega) | (simp (disch := omega) [sd] <;> fail) | (simp (disch := omega) [sd]; omega) | (simp [sd, *] <;> fail) | fail) (by decide) (by conv => lhs; whnf) (by first | exact wr_add_nat (by first | rfl | omega | exact Nat.le_of_ble_eq_true rfl | (simp (disch := omega) only [sd, sb]; omega) | (simp (disch := omega) [sd] <;> fail) | (simp (disch := omega) [sd]; omega) | (simp [sd, *] <;> fail) | fail) | (conv => lhs; whnf)) ?_
      | refine X.cpy (by conv => lhs; whnf) (by conv => lhs; whnf) (elems_vs _) (by first | assumption | first | rfl | (simp only [hgs, if_true]; rfl)) rfl rfl (by first | rfl | omega | exact Nat.le_of_ble_eq_true rfl | (simp (disch := omega) only [sd, sb]; omega) | (simp (disch := omega) [sd] <;> fail) | (simp (disch := omega) [sd]; omega) | (simp [sd, *] <;> fail) | fail) (by first | rfl | omega | exact Nat.le_of_ble_eq_true rfl | (simp (disch := omega) only [sd, sb]; omega) | (simp (disch := omega) [sd] <;> fail) | (simp (disch := omega) [sd]; omega) | (simp [sd, *] <;> fail) | fail) ?_
      | refine X.iah (by conv => lhs; whnf) (by conv => lhs; whnf) (by first | assumption | first | rfl | (simp only [hgs, if_true]; rfl)) rfl (by first | rfl | omega | exact Nat.le_of_ble_eq_true rfl | (simp (disch := omega) only [sd, sb]; omega) | (simp (disch := omega) [sd] <;> fail) | (simp (disch := omega) [sd]; omega) | (simp [sd, *] <;> fail) | fail) ?_
      | refine X.stp (by conv => lhs; whnf) (by conv => lhs; whnf) (by first | assumption | first | rfl | (simp only [hgs, if_true]; rfl)) rfl (by first | omega | exact Nat.le_of_ble_eq_true rfl) rfl rfl rfl (by first | rfl | omega | exact Nat.le_of_ble_eq_true rfl | (simp (disch := omega) only [sd, sb]; omega) | (simp (disch := omega) [sd] <;> fail) | (simp (disch := omega) [sd]; omega) | (simp [sd, *] <;> fail) | fail) (by first | exact bs_getD (by first | rfl | omega | exact Nat.le_of_ble_eq_true rfl | (simp (disch := omega) only [sd, sb]; omega) | (simp (disch := omega) [sd] <;> fail) | (simp (disch := omega) [sd]; omega) | (simp [sd, *] <;> fail) | fail) | rfl) (by first | rfl | omega | exact Nat.le_of_ble_eq_true rfl | (simp (disch := omega) only [sd, sb]; omega) | (simp (disch := omega) [sd] <;> fail) | (simp (disch := omega) [sd]; omega) | (simp [sd, *] <;> fail) | fail) ?_
      | refine X.ldp (by conv => lhs; whnf) (by first | assumption | first | rfl | (simp only [hgs, if_true]; rfl)) (by first | rfl | omega | exact Nat.le_of_ble_eq_true rfl | (simp (disch := omega) only [sd, sb]; omega) | (simp (disch := omega) [sd] <;> fail) | (simp (disch := omega) [sd]; omega) | (simp [sd, *] <;> fail) | fail) (by first | exact bs_getD (by first | rfl | omega | exact Nat.le_of_ble_eq_true rfl | (simp (disch := omega) only [sd, sb]; omega) | (simp (disch := omega) [sd] <;> fail) | (simp (disch := omega) [sd]; omega) | (simp [sd, *] <;> fail) | fail) | rfl) (by first | rfl | omega | exact Nat.le_of_ble_eq_true rfl | (simp (disch := omega) only [sd, sb]; omega) | (simp (disch := omega) [sd] <;> fail) | (simp (disch := omega) [sd]; omega) | (simp [sd, *] <;> fail) | fail) rfl ?_
      | refine X.len (by conv => lhs; whnf) (by first | rfl | assumption) ?_
      | refine X.condTs rfl (by first | rfl | omega | exact Nat.le_of_ble_eq_true rfl | (simp (disch := omega) only [sd, sb]; omega) | (simp (disch := omega) [sd] <;> fail) | (simp (disch := omega) [sd]; omega) | (simp [sd, *] <;> fail) | fail) ?_
      | refine X.condFs rfl (by first | rfl | omega | exact Nat.le_of_ble_eq_true rfl | (simp (disch := omega) only [sd, sb]; omega) | (simp (disch := omega) [sd] <;> fail) | (simp (disch := omega) [sd]; omega) | (simp [sd, *] <;> fail) | fail) ?_
      | refine X.g1Ts rfl (by first | rfl | omega | exact Nat.le_of_ble_eq_true rfl | (simp (disch := omega) only [sd, sb]; omega) | (simp (disch := omega) [sd] <;> fail) | (simp (disch := omega) [sd]; omega) | (simp [sd, *] <;> fail) | fail) ?_
      | refine X.g1Fs rfl (by first | rfl | omega | exact Nat.le_of_ble_eq_true rfl | (simp (disch := omega) only [sd, sb]; omega) | (simp (disch := omega) [sd] <;> fail) | (simp (disch := omega) [sd]; omega) | (simp [sd, *] <;> fail) | fail) ?_
      | refine X.pickTs rfl (by first | rfl | omega | exact Nat.le_of_ble_eq_true rfl | (simp (disch := omega) only [sd, sb]; omega) | (simp (disch := omega) [sd] <;> fail) | (simp (disch := omega) [sd]; omega) | (simp [sd, *] <;> fail) | fail) (fun _ => rfl) ?_
      | refine X.pickFs rfl (by first | rfl | omega | exact Nat.le_of_ble_eq_true rfl | (simp (disch := omega) only [sd, sb]; omega) | (simp (disch := omega) [sd] <;> fail) | (simp (disch := omega) [sd]; omega) | (simp [sd, *] <;> fail) | fail) (fun _ => rfl) ?_
      | refine X.mov (by conv => lhs; whnf) (by first | rfl | assumption) ?_
      )
    refine X.pcall (rright_ok ty fl s p) (.gs (fr_clo _ _ _ _) (.nil _)) rfl rfl rfl ?_
    rw [hr]
    repeat (first
      | refine X.lpb ?_
      | refine X.seq ?_
      | refine X.skip ?_
      | refine X.ret ?_
      | refine X.exit ?_
      | refine X.blk ?_
      | refine X.sn ?_
      | refine X.se ?_
      | refine X.sr ?_
      | refine X.bn ?_
      | refine X.br ?_
      | refine X.bh ?_
      | refine X.bm rfl ?_
      | refine X.pn ?_
      | refine X.gn ?_
      | refine X.g0 ?_
      | refine X.ln ?_
      | refine X.finn ?_
      | refine X.reg0 (by conv => lhs; reduce) ?_
      | refine X.reg1 (by conv => lhs; reduce) ?_
      | refine X.gt rfl ?_
      | refine X.iav (by conv => lhs; whnf) (by conv => lhs; whnf) (by first | rfl | omega | exact Nat.le_of_ble_eq_true rfl | (simp (disch := omega) only [sd, sb]; omega) | (simp (disch := omega) [sd] <;> fail) | (simp (disch := omega) [sd]; omega) | (simp [sd, *] <;> fail) | fail) (by first | exact bs_getD (by first | rfl | omega | exact Nat.le_of_ble_eq_true rfl | (simp (disch := omega) only [sd, sb]; omega) | (simp (disch := omega) [sd] <;> fail) | (simp (disch := omega) [sd]; omega) | (simp [sd, *] <;> fail) | fail) | rfl) ?_
      | refine X.o0 (fun _ _ => rfl) ?_
      | refine X.o1 (fun _ _ => rfl) (by first | rfl | omega | exact Nat.le_of_ble_eq_true rfl | (simp (disch := omega) only [sd, sb]; omega) | (simp (disch := omega) [sd] <;> fail) | (simp (disch := omega) [sd]; omega) | (simp [sd, *] <;> fail) | fail) ?_
      | refine X.o2 (fun _ _ => rfl) (by first | rfl | omega | exact Nat.le_of_ble_eq_true rfl | (simp (disch := omega) only [sd, sb]; omega) | (simp (disch := omega) [sd] <;> fail) | (simp (disch := omega) [sd]; omega) | (simp [sd, *] <;> fail) | fail) (by first | rfl | omega | exact Nat.le_of_ble_eq_true rfl | (simp (disch := omega) only [sd, sb]; omega) | (simp (disch := omega) [sd] <;> fail) | (simp (disch := omega) [sd]; omega) | (simp [sd, *] <;> fail) | fail) ?_
      | refine X.o3 (fun _ _ => rfl) (by first | rfl | omega | exact Nat.le_of_ble_eq_true rfl | (simp (disch := omega) only [sd, sb]; omega) | (simp (disch := omega) [sd] <;> fail) | (simp (disch := omega) [sd]; omega) | (simp [sd, *] <;> fail) | fail) (by first | rfl | omega | exact Nat.le_of_ble_eq_true rfl | (simp (disch := omega) only [sd, sb]; omega) | (simp (disch := omega) [sd] <;> fail) | (simp (disch := omega) [sd]; omega) | (simp [sd, *] <;> fail) | fail) (by first | rfl | omega | exact Nat.le_of_ble_eq_true rfl | (simp (disch := omega) only [sd, sb]; omega) | (simp (disch := omega) [sd] <;> fail) | (simp (disch := omega) [sd]; omega) | (simp [sd, *] <;> fail) | fail) ?_
      | refine X.pickT rfl (fun _ => rfl) ?_
      | refine X.pickF rfl (fun _ => rfl) ?_
      | refine X.condT rfl ?_
      | refine X.condF rfl ?_
      | refine X.g1T rfl ?_
      | refine X.g1F rfl ?_
      | refine X.alc rfl ?_
      | refine X.box (by conv => lhs; whnf) rfl rfl ?_
      | refine X.stl (by conv => lhs; whnf) rfl rfl rfl rfl rfl rfl rfl ?_
      | refine X.apf (by conv => lhs; whnf) (by conv => lhs; whnf) (by first | exact Els.vs _ | exact Els.st _ | exact Els.ns) (by first | rfl | (simp only [hgs, if_true]; rfl)) rfl rfl (by first | rfl | omega | exact Nat.le_of_ble_eq_true rfl | (simp (disch := omega) only [sd, sb]; omega) | (simp (disch := omega) [sd] <;> fail) | (simp (disch := omega) [sd]; omega) | (simp [sd, *] <;> fail) | fail) (by first | rfl | omega | exact Nat.le_of_ble_eq_true rfl | (simp (disch := omega) only [sd, sb]; omega) | (simp (disch := omega) [sd] <;> fail) | (simp (disch := omega) [sd]; omega) | (simp [sd, *] <;> fail) | fail) (by conv => lhs; whnf) ?_
      | refine X.bsl rfl (by conv => lhs; whnf) ?_
      | refine X.alh (by conv => lhs; whnf) ?_
      | refine X.bxh (by conv => lhs; whnf) rfl (by conv => lhs; whnf) ?_
      | refine X.mks (by conv => lhs; whnf) (by conv => lhs; whnf) (by first | rfl | omega | exact Nat.le_of_ble_eq_true rfl | (simp (disch := omega) only [sd, sb]; omega) | (simp (disch := omega) [sd] <;> fail) | (simp (disch := omega) [sd]; omega) | (simp [sd, *] <;> fail) | fail) (by first | rfl | omega | exact Nat.le_of_ble_eq_true rfl | (simp (disch := omega) only [sd, sb]; omega) | (simp (disch := omega) [sd] <;> fail) | (simp (disch := omega) [sd]; omega) | (simp [sd, *] <;> fail) | fail) (by first | rfl | omega | exact Nat.le_of_ble_eq_true rfl | (simp (disch := omega) only [sd, sb]; omega) | (simp (disch := omega) [sd] <;> fail) | (simp (disch := omega) [sd]; omega) | (simp [sd, *] <;> fail) | fail) (by decide) (by conv => lhs; whnf) (by first | exact wr_add_nat (by first | rfl | omega | exact Nat.le_of_ble_eq_true rfl | (simp (disch := omega) only [sd, sb]; omega) | (simp (disch := omega) [sd] <;> fail) | (simp (disch := omega) [sd]; omega) | (simp [sd, *] <;> fail) | fail) | (conv => lhs; whnf)) ?_
      | refine X.cpy (by conv => lhs; whnf) (by conv => lhs; whnf) (elems_vs _) (by first | assumption | first | rfl | (simp only [hgs, if_true]; rfl)) rfl rfl (by first | rfl | omega | exact Nat.le_of_ble_eq_true rfl | (simp (disch := omega) only [sd, sb]; omega) | (simp (disch := omega) [sd] <;> fail) | (simp (disch := omega) [sd]; omega) | (simp [sd, *] <;> fail) | fail) (by first | rfl | omega | exact Nat.le_of_ble_eq_true rfl | (simp (disch := omega) only [sd, sb]; omega) | (simp (disch := omega) [sd] <;> fail) | (simp (disch := omega) [sd]; omega) | (simp [sd, *] <;> fail) | fail) ?_
      | refine X.iah (by conv => lhs; whnf) (by conv => lhs; whnf) (by first | assumption | first | rfl | (simp only [hgs, if_true]; rfl)) rfl (by first | rfl | omega | exact Nat.le_of_ble_eq_true rfl | (simp (disch := omega) only [sd, sb]; omega) | (simp (disch := omega) [sd] <;> fail) | (simp (disch := omega) [sd]; omega) | (simp [sd, *] <;> fail) | fail) ?_
      | refine X.stp (by conv => lhs; whnf) (by conv => lhs; whnf) (by first | assumption | first | rfl | (simp only [hgs, if_true]; rfl)) rfl (by first | omega | exact Nat.le_of_ble_eq_true rfl) rfl rfl rfl (by first | rfl | omega | exact Nat.le_of_ble_eq_true rfl | (simp (disch := omega) only [sd, sb]; omega) | (simp (disch := omega) [sd] <;> fail) | (simp (disch := omega) [sd]; omega) | (simp [sd, *] <;> fail) | fail) (by first | exact bs_getD (by first | rfl | omega | exact Nat.le_of_ble_eq_true rfl | (simp (disch := omega) only [sd, sb]; omega) | (simp (disch := omega) [sd] <;> fail) | (simp (disch := omega) [sd]; omega) | (simp [sd, *] <;> fail) | fail) | rfl) (by first | rfl | omega | exact Nat.le_of_ble_eq_true rfl | (simp (disch := omega) only [sd, sb]; omega) | (simp (disch := omega) [sd] <;> fail) | (simp (disch := omega) [sd]; omega) | (simp [sd, *] <;> fail) | fail) ?_
      | refine X.ldp (by conv => lhs; whnf) (by first | assumption | first | rfl | (simp only [hgs, if_true]; rfl)) (by first | rfl | omega | exact Nat.le_of_ble_eq_true rfl | (simp (disch := omega) only [sd, sb]; omega) | (simp (disch := omega) [sd] <;> fail) | (simp (disch := omega) [sd]; omega) | (simp [sd, *] <;> fail) | fail) (by first | exact bs_getD (by first | rfl | omega | exact Nat.le_of_ble_eq_true rfl | (simp (disch := omega) only [sd, sb]; omega) | (simp (disch := omega) [sd] <;> fail) | (simp (disch := omega) [sd]; omega) | (simp [sd, *] <;> fail) | fail) | rfl) (by first | rfl | omega | exact Nat.le_of_ble_eq_true rfl | (simp (disch := omega) only [sd, sb]; omega) | (simp (disch := omega) [sd] <;> fail) | (simp (disch := omega) [sd]; omega) | (simp [sd, *] <;> fail) | fail) rfl ?_
      | refine X.len (by conv => lhs; whnf) (by first | rfl | assumption) ?_
      | refine X.condTs rfl (by first | rfl | omega | exact Nat.le_of_ble_eq_true rfl | (simp (disch := omega) only [sd, sb]; omega) | (simp (disch := omega) [sd] <;> fail) | (simp (disch := omega) [sd]; omega) | (simp [sd, *] <;> fail) | fail) ?_
      | refine X.condFs rfl (by first | rfl | omega | exact Nat.le_of_ble_eq_true rfl | (simp (disch := omega) only [sd, sb]; omega) | (simp (disch := omega) [sd] <;> fail) | (simp (disch := omega) [sd]; omega) | (simp [sd, *] <;> fail) | fail) ?_
      | refine X.g1Ts rfl (by first | rfl | omega | exact Nat.le_of_ble_eq_true rfl | (simp (disch := omega) only [sd, sb]; omega) | (simp (disch := omega) [sd] <;> fail) | (simp (disch := omega) [sd]; omega) | (simp [sd, *] <;> fail) | fail) ?_
      | refine X.g1Fs rfl (by first | rfl | omega | exact Nat.le_of_ble_eq_true rfl | (simp (disch := omega) only [sd, sb]; omega) | (simp (disch := omega) [sd] <;> fail) | (simp (disch := omega) [sd]; omega) | (simp [sd, *] <;> fail) | fail) ?_
      | refine X.pickTs rfl (by first | rfl | omega | exact Nat.le_of_ble_eq_true rfl | (simp (disch := omega) only [sd, sb]; omega) | (simp (disch := omega) [sd] <;> fail) | (simp (disch := omega) [sd]; omega) | (simp [sd, *] <;> fail) | fail) (fun _ => rfl) ?_
      | refine X.pickFs rfl (by first | rfl | omega | exact Nat.le_of_ble_eq_true rfl | (simp (disch := omega) only [sd, sb]; omega) | (simp (disch := omega) [sd] <;> fail) | (simp (disch := omega) [sd]; omega) | (simp [sd, *] <;> fail) | fail) (fun _ => rfl) ?_
      | refine X.mov (by conv => lhs; whnf) (by first | rfl | assumption) ?_
      )
    exact X.fin (fun _ => rfl) rfl rfl
  | true =>
    rw [show putL b ty fl s p = b ++ h9 ty fl s p.length ++ p by simp [putL, hr]]
    let E : List (List V) := (([] ++ bs b) ++ bs (h9 ty fl s p.length)) ++ bs p
    have hE : E = bs (b ++ h9 ty fl s p.length ++ p) := by simp [E, bs]
    refine EvO.of d21 (ts := [.one]) rfl rfl rfl rfl (id := 3) (i := 0) (len := 0 + (bs b).length + 9 + (bs p).length) (es := E)
      (h := hnew (hset (hnew (hset (hnew (hset (hnew h0 ⟨1, false, []⟩) 0 none) ⟨1, false, [] ++ bs b⟩) 1 none) ⟨1, false, ([] ++ bs b) ++ bs (h9 ty fl s p.length)⟩) 2 none) ⟨1, false, E⟩) ?_ (by first | rfl | (simp only [hgs, if_true]; rfl)) (Nat.le_of_ble_eq_true rfl) ?_ ?_ (bs_clo _) (by simp [depth, bs_length]; omega)
    · refine X.fn ?_
      repeat (first
        | refine X.lpb ?_
        | refine X.seq ?_
        | refine X.skip ?_
        | refine X.ret ?_
        | refine X.exit ?_
        | refine X.blk ?_
        | refine X.sn ?_
        | refine X.se ?_
        | refine X.sr ?_
        | refine X.bn ?_
        | refine X.br ?_
        | refine X.bh ?_
        | refine X.bm rfl ?_
        | refine X.pn ?_
        | refine X.gn ?_
        | refine X.g0 ?_
        | refine X.ln ?_
        | refine X.finn ?_
        | refine X.reg0 (by conv => lhs; reduce) ?_
        | refine X.reg1 (by conv => lhs; reduce) ?_
        | refine X.gt rfl ?_
        | refine X.iav (by conv => lhs; whnf) (by conv => lhs; whnf) (by first | rfl | omega | exact Nat.le_of_ble_eq_true rfl | (simp (disch := omega) only [sd, sb]; omega) | (simp (disch := omega) [sd] <;> fail) | (simp (disch := omega) [sd]; omega) | (simp [sd, *] <;> fail) | fail) (by first | exact bs_getD (by first | rfl | omega | exact Nat.le_of_ble_eq_true rfl | (simp (disch := omega) only [sd, sb]; omega) | (simp (disch := omega) [sd] <;> fail) | (simp (disch := omega) [sd]; omega) | (simp [sd, *] <;> fail) | fail) | rfl) ?_
        | refine X.o0 (fun _ _ => rfl) ?_
        | refine X.o1 (fun _ _ => rfl) (by first | rfl | omega | exact Nat.le_of_ble_eq_true rfl | (simp (disch := omega) only [sd, sb]; omega) | (simp (disch := omega) [sd] <;> fail) | (simp (disch := omega) [sd]; omega) | (simp [sd, *] <;> fail) | fail) ?_
        | refine X.o2 (fun _ _ => rfl) (by first | rfl | omega | exact Nat.le_of_ble_eq_true rfl | (simp (disch := omega) only [sd, sb]; omega) | (simp (disch := omega) [sd] <;> fail) | (simp (disch := omega) [sd]; omega) | (simp [sd, *] <;> fail) | fail) (by first | rfl | omega | exact Nat.le_of_ble_eq_true rfl | (simp (disch := omega) only [sd, sb]; omega) | (simp (disch := omega) [sd] <;> fail) | (simp (disch := omega) [sd]; omega) | (simp [sd, *] <;> fail) | fail) ?_
        | refine X.o3 (fun _ _ => rfl) (by first | rfl | omega | exact Nat.le_of_ble_eq_true rfl | (simp (disch := omega) only [sd, sb]; omega) | (simp (disch := omega) [sd] <;> fail) | (simp (disch := omega) [sd]; omega) | (simp [sd, *] <;> fail) | fail) (by first | rfl | omega | exact Nat.le_of_ble_eq_true rfl | (simp (disch := omega) only [sd, sb]; omega) | (simp (disch := omega) [sd] <;> fail) | (simp (disch := omega) [sd]; omega) | (simp [sd, *] <;> fail) | fail) (by first | rfl | omega | exact Nat.le_of_ble_eq_true rfl | (simp (disch := omega) only [sd, sb]; omega) | (simp (disch := omega) [sd] <;> fail) | (simp (disch := omega) [sd]; omega) | (simp [sd, *] <;> fail) | fail) ?_
        | refine X.pickT rfl (fun _ => rfl) ?_
        | refine X.pickF rfl (fun _ => rfl) ?_
        | refine X.condT rfl ?_
        | refine X.condF rfl ?_
        | refine X.g1T rfl ?_
        | refine X.g1F rfl ?_
        | refine X.alc rfl ?_
        | refine X.box (by conv => lhs; whnf) rfl rfl ?_
        | refine X.stl (by conv => lhs; whnf) rfl rfl rfl rfl rfl rfl rfl ?_
        | refine X.apf (by conv => lhs; whnf) (by conv => lhs; whnf) (by first | exact Els.vs _ | exact Els.st _ | exact Els.ns) (by first | rfl | (simp only [hgs, if_true]; rfl)) rfl rfl (by first | rfl | omega | exact Nat.le_of_ble_eq_true rfl | (simp (disch := omega) only [sd, sb]; omega) | (simp (disch := omega) [sd] <;> fail) | (simp (disch := omega) [sd]; omega) | (simp [sd, *] <;> fail) | fail) (by first | rfl | omega | exact Nat.le_of_ble_eq_true rfl | (simp (disch := omega) only [sd, sb]; omega) | (simp (disch := omega) [sd] <;> fail) | (simp (disch := omega) [sd]; omega) | (simp [sd, *] <;> fail) | fail) (by conv => lhs; whnf) ?_
        | refine X.bsl rfl (by conv => lhs; whnf) ?_
        | refine X.alh (by conv => lhs; whnf) ?_
        | refine X.bxh (by conv => lhs; whnf) rfl (by conv => lhs; whnf) ?_
        | refine X.mks (by conv => lhs; whnf) (by conv => lhs; whnf) (by first | rfl | omega | exact Nat.le_of_ble_eq_true rfl | (simp (disch := omega) only [sd, sb]; omega) | (simp (disch := omega) [sd] <;> fail) | (simp (disch := omega) [sd]; omega) | (simp [sd, *] <;> fail) | fail) (by first | rfl | omega | exact Nat.le_of_ble_eq_true rfl | (simp (disch := omega) only [sd, sb]; omega) | (simp (disch := omega) [sd] <;> fail) | (simp (disch := omega) [sd]; omega) | (simp [sd, *] <;> fail) | fail) (by first | rfl | omega | exact Nat.le_of_ble_eq_true rfl | (simp (disch := omega) only [sd, sb]; omega) | (simp (disch := omega) [sd] <;> fail) | (simp (disch := omega) [sd]; omega) | (simp [sd, *] <;> fail) | fail) (by decide) (by conv => lhs; whnf) (by first | exact wr_add_nat (by first | rfl | omega | exact Nat.le_of_ble_eq_true rfl | (simp (disch := omega) only [sd, sb]; omega) | (simp (disch := omega) [sd] <;> fail) | (simp (disch := omega) [sd]; omega) | (simp [sd, *] <;> fail) | fail) | (conv => lhs; whnf)) ?_
        | refine X.cpy (by conv => lhs; whnf) (by conv => lhs; whnf) (elems_vs _) (by first | assumption | first | rfl | (simp only [hgs, if_true]; rfl)) rfl rfl (by first | rfl | omega | exact Nat.le_of_ble_eq_true rfl | (simp (disch := omega) only [sd, sb]; omega) | (simp (disch := omega) [sd] <;> fail) | (simp (disch := omega) [sd]; omega) | (simp [sd, *] <;> fail) | fail) (by first | rfl | omega | exact Nat.le_of_ble_eq_true rfl | (simp (disch := omega) only [sd, sb]; omega) | (simp (disch := omega) [sd] <;> fail) | (simp (disch := omega) [sd]; omega) | (simp [sd, *] <;> fail) | fail) ?_
        | refine X.iah (by conv => lhs; whnf) (by conv => lhs; whnf) (by first | assumption | first | rfl | (simp only [hgs, if_true]; rfl)) rfl (by first | rfl | omega | exact Nat.le_of_ble_eq_true rfl | (simp (disch := omega) only [sd, sb]; omega) | (simp (disch := omega) [sd] <;> fail) | (simp (disch := omega) [sd]; omega) | (simp [sd, *] <;> fail) | fail) ?_
        | refine X.stp (by conv => lhs; whnf) (by conv => lhs; whnf) (by first | assumption | first | rfl | (simp only [hgs, if_true]; rfl)) rfl (by first | omega | exact Nat.le_of_ble_eq_true rfl) rfl rfl rfl (by first | rfl | omega | exact Nat.le_of_ble_eq_true rfl | (simp (disch := omega) only [sd, sb]; omega) | (simp (disch := omega) [sd] <;> fail) | (simp (disch := omega) [sd]; omega) | (simp [sd, *] <;> fail) | fail) (by first | exact bs_getD (by first | rfl | omega | exact Nat.le_of_ble_eq_true rfl | (simp (disch := omega) only [sd, sb]; omega) | (simp (disch := omega) [sd] <;> fail) | (simp (disch := omega) [sd]; omega) | (simp [sd, *] <;> fail) | fail) | rfl) (by first | rfl | omega | exact Nat.le_of_ble_eq_true rfl | (simp (disch := omega) only [sd, sb]; omega) | (simp (disch := omega) [sd] <;> fail) | (simp (disch := omega) [sd]; omega) | (simp [sd, *] <;> fail) | fail) ?_
        | refine X.ldp (by conv => lhs; whnf) (by first | assumption | first | rfl | (simp only [hgs, if_true]; rfl)) (by first | rfl | omega | exact Nat.le_of_ble_eq_true rfl | (simp (disch := omega) only [sd, sb]; omega) | (simp (disch := omega) [sd] <;> fail) | (simp (disch := omega) [sd]; omega) | (simp [sd, *] <;> fail) | fail) (by first | exact bs_getD (by first | rfl | omega | exact Nat.le_of_ble_eq_true rfl | (simp (disch := omega) only [sd, sb]; omega) | (simp (disch := omega) [sd] <;> fail) | (simp (disch := omega) [sd]; omega) | (simp [sd, *] <;> fail) | fail) | rfl) (by first | rfl | omega | exact Nat.le_of_ble_eq_true rfl | (simp (disch := omega) only [sd, sb]; omega) | (simp (disch := omega) [sd] <;> fail) | (simp (disch := omega) [sd]; omega) | (simp [sd, *] <;> fail) | fail) rfl ?_
        | refine X.len (by conv => lhs; whnf) (by first | rfl | assumption) ?_
        | refine X.condTs rfl (by first | rfl | omega | exact Nat.le_of_ble_eq_true rfl | (simp (disch := omega) only [sd, sb]; omega) | (simp (disch := omega) [sd] <;> fail) | (simp (disch := omega) [sd]; omega) | (simp [sd, *] <;> fail) | fail) ?_
        | refine X.condFs rfl (by first | rfl | omega | exact Nat.le_of_ble_eq_true rfl | (simp (disch := omega) only [sd, sb]; omega) | (simp (disch := omega) [sd] <;> fail) | (simp (disch := omega) [sd]; omega) | (simp [sd, *] <;> fail) | fail) ?_
        | refine X.g1Ts rfl (by first | rfl | omega | exact Nat.le_of_ble_eq_true rfl | (simp (disch := omega) only [sd, sb]; omega) | (simp (disch := omega) [sd] <;> fail) | (simp (disch := omega) [sd]; omega) | (simp [sd, *] <;> fail) | fail) ?_
        | refine X.g1Fs rfl (by first | rfl | omega | exact Nat.le_of_ble_eq_true rfl | (simp (disch := omega) only [sd, sb]; omega) | (simp (disch := omega) [sd] <;> fail) | (simp (disch := omega) [sd]; omega) | (simp [sd, *] <;> fail) | fail) ?_
        | refine X.pickTs rfl (by first | rfl | omega | exact Nat.le_of_ble_eq_true rfl | (simp (disch := omega) only [sd, sb]; omega) | (simp (disch := omega) [sd] <;> fail) | (simp (disch := omega) [sd]; omega) | (simp [sd, *] <;> fail) | fail) (fun _ => rfl) ?_
        | refine X.pickFs rfl (by first | rfl | omega | exact Nat.le_of_ble_eq_true rfl | (simp (disch := omega) only [sd, sb]; omega) | (simp (disch := omega) [sd] <;> fail) | (simp (disch := omega) [sd]; omega) | (simp [sd, *] <;> fail) | fail) (fun _ => rfl) ?_
        | refine X.mov (by conv => lhs; whnf) (by first | rfl | assumption) ?_
        )
      refine X.pcall (rright_ok ty fl s p) (.gs (fr_clo _ _ _ _) (.nil _)) rfl rfl rfl ?_
      rw [hr]
      repeat (first
        | refine X.lpb ?_
        | refine X.seq ?_
        | refine X.skip ?_
        | refine X.ret ?_
        | refine X.exit ?_
        | refine X.blk ?_
        | refine X.sn ?_
        | refine X.se ?_
        | refine X.sr ?_
        | refine X.bn ?_
        | refine X.br ?_
        | refine X.bh ?_
        | refine X.bm rfl ?_
        | refine X.pn ?_
        | refine X.gn ?_
        | refine X.g0 ?_
        | refine X.ln ?_
        | refine X.finn ?_
        | refine X.reg0 (by conv => lhs; reduce) ?_
        | refine X.reg1 (by conv => lhs; reduce) ?_
        | refine X.gt rfl ?_
        | refine X.iav (by conv => lhs; whnf) (by conv => lhs; whnf) (by first | rfl | omega | exact Nat.le_of_ble_eq_true rfl | (simp (disch := omega) only [sd, sb]; omega) | (simp (disch := omega) [sd] <;> fail) | (simp (disch := omega) [sd]; omega) | (simp [sd, *] <;> fail) | fail) (by first | exact bs_getD (by first | rfl | omega | exact Nat.le_of_ble_eq_true rfl | (simp (disch := omega) only [sd, sb]; omega) | (simp (disch := omega) [sd] <;> fail) | (simp (disch := omega) [sd]; omega) | (simp [sd, *] <;> fail) | fail) | rfl) ?_
        | refine X.o0 (fun _ _ => rfl) ?_
        | refine X.o1 (fun _ _ => rfl) (by first | rfl | omega | exact Nat.le_of_ble_eq_true rfl | (simp (disch := omega) only [sd, sb]; omega) | (simp (disch := omega) [sd] <;> fail) | (simp (disch := omega) [sd]; omega) | (simp [sd, *] <;> fail) | fail) ?_
        | refine X.o2 (fun _ _ => rfl) (by first | rfl | omega | exact Nat.le_of_ble_eq_true rfl | (simp (disch := omega) only [sd, sb]; omega) | (simp (disch := omega) [sd] <;> fail) | (simp (disch := omega) [sd]; omega) | (simp [sd, *] <;> fail) | fail) (by first | rfl | omega | exact Nat.le_of_ble_eq_true rfl | (simp (disch := omega) only [sd, sb]; omega) | (simp (disch := omega) [sd] <;> fail) | (simp (disch := omega) [sd]; omega) | (simp [sd, *] <;> fail) | fail) ?_
        | refine X.o3 (fun _ _ => rfl) (by first | rfl | omega | exact Nat.le_of_ble_eq_true rfl | (simp (disch := omega) only [sd, sb]; omega) | (simp (disch := omega) [sd] <;> fail) | (simp (disch := omega) [sd]; omega) | (simp [sd, *] <;> fail) | fail) (by first | rfl | omega | exact Nat.le_of_ble_eq_true rfl | (simp (disch := omega) only [sd, sb]; omega) | (simp (disch := omega) [sd] <;> fail) | (simp (disch := omega) [sd]; omega) | (simp [sd, *] <;> fail) | fail) (by first | rfl | omega | exact Nat.le_of_ble_eq_true rfl | (simp (disch := omega) only [sd, sb]; omega) | (simp (disch := omega) [sd] <;> fail) | (simp (disch := omega) [sd]; omega) | (simp [sd, *] <;> fail) | fail) ?_
        | refine X.pickT rfl (fun _ => rfl) ?_
        | refine X.pickF rfl (fun _ => rfl) ?_
        | refine X.condT rfl ?_
        | refine X.condF rfl ?_
        | refine X.g1T rfl ?_
        | refine X.g1F rfl ?_
        | refine X.alc rfl ?_
        | refine X.box (by conv => lhs; whnf) rfl rfl ?_
        | refine X.stl (by conv => lhs; whnf) rfl rfl rfl rfl rfl rfl rfl ?_
        | refine X.apf (by conv => lhs; whnf) (by conv => lhs; whnf) (by first | exact Els.vs _ | exact Els.st _ | exact Els.ns) (by first | rfl | (simp only [hgs, if_true]; rfl)) rfl rfl (by first | rfl | omega | exact Nat.le_of_ble_eq_true rfl | (simp (disch := omega) only [sd, sb]; omega) | (simp (disch := omega) [sd] <;> fail) | (simp (disch := omega) [sd]; omega) | (simp [sd, *] <;> fail) | fail) (by first | rfl | omega | exact Nat.le_of_ble_eq_true rfl | (simp (disch := omega) only [sd, sb]; omega) | (simp (disch := omega) [sd] <;> fail) | (simp (disch := omega) [sd]; omega) | (simp [sd, *] <;> fail) | fail) (by conv => lhs; whnf) ?_
        | refine X.bsl rfl (by conv => lhs; whnf) ?_
        | refine X.alh (by conv => lhs; whnf) ?_
        | refine X.bxh (by conv => lhs; whnf) rfl (by conv => lhs; whnf) ?_
        | refine X.mks (by conv => lhs; whnf) (by conv => lhs; whnf) (by first | rfl | omega | exact Nat.le_of_ble_eq_true rfl | (simp (disch := omega) only [sd, sb]; omega) | (simp (disch := omega) [sd] <;> fail) | (simp (disch := omega) [sd]; omega) | (simp [sd, *] <;> fail) | fail) (by first | rfl | omega | exact Nat.le_of_ble_eq_true rfl | (simp (disch := omega) only [sd, sb]; omega) | (simp (disch := omega) [sd] <;> fail) | (simp (disch := omega) [sd]; omega) | (simp [sd, *] <;> fail) | fail) (by first | rfl | omega | exact Nat.le_of_ble_eq_true rfl | (simp (disch := omega) only [sd, sb]; omega) | (simp (disch := omega) [sd] <;> fail) | (simp (disch := omega) [sd]; omega) | (simp [sd, *] <;> fail) | fail) (by decide) (by conv => lhs; whnf) (by first | exact wr_add_nat (by first | rfl | omega | exact Nat.le_of_ble_eq_true rfl | (simp (disch := omega) only [sd, sb]; omega) | (simp (disch := omega) [sd] <;> fail) | (simp (disch := omega) [sd]; omega) | (simp [sd, *] <;> fail) | fail) | (conv => lhs; whnf)) ?_
        | refine X.cpy (by conv => lhs; whnf) (by conv => lhs; whnf) (elems_vs _) (by first | assumption | first | rfl | (simp only [hgs, if_true]; rfl)) rfl rfl (by first | rfl | omega | exact Nat.le_of_ble_eq_true rfl | (simp (disch := omega) only [sd, sb]; omega) | (simp (disch := omega) [sd] <;> fail) | (simp (disch := omega) [sd]; omega) | (simp [sd, *] <;> fail) | fail) (by first | rfl | omega | exact Nat.le_of_ble_eq_true rfl | (simp (disch := omega) only [sd, sb]; omega) | (simp (disch := omega) [sd] <;> fail) | (simp (disch := omega) [sd]; omega) | (simp [sd, *] <;> fail) | fail) ?_
        | refine X.iah (by conv => lhs; whnf) (by conv => lhs; whnf) (by first | assumption | first | rfl | (simp only [hgs, if_true]; rfl)) rfl (by first | rfl | omega | exact Nat.le_of_ble_eq_true rfl | (simp (disch := omega) only [sd, sb]; omega) | (simp (disch := omega) [sd] <;> fail) | (simp (disch := omega) [sd]; omega) | (simp [sd, *] <;> fail) | fail) ?_
        | refine X.stp (by conv => lhs; whnf) (by conv => lhs; whnf) (by first | assumption | first | rfl | (simp only [hgs, if_true]; rfl)) rfl (by first | omega | exact Nat.le_of_ble_eq_true rfl) rfl rfl rfl (by first | rfl | omega | exact Nat.le_of_ble_eq_true rfl | (simp (disch := omega) only [sd, sb]; omega) | (simp (disch := omega) [sd] <;> fail) | (simp (disch := omega) [sd]; omega) | (simp [sd, *] <;> fail) | fail) (by first | exact bs_getD (by first | rfl | omega | exact Nat.le_of_ble_eq_true rfl | (simp (disch := omega) only [sd, sb]; omega) | (simp (disch := omega) [sd] <;> fail) | (simp (disch := omega) [sd]; omega) | (simp [sd, *] <;> fail) | fail) | rfl) (by first | rfl | omega | exact Nat.le_of_ble_eq_true rfl | (simp (disch := omega) only [sd, sb]; omega) | (simp (disch := omega) [sd] <;> fail) | (simp (disch := omega) [sd]; omega) | (simp [sd, *] <;> fail) | fail) ?_
        | refine X.ldp (by conv => lhs; whnf) (by first | assumption | first | rfl | (simp only [hgs, if_true]; rfl)) (by first | rfl | omega | exact Nat.le_of_ble_eq_true rfl | (simp (disch := omega) only [sd, sb]; omega) | (simp (disch := omega) [sd] <;> fail) | (simp (disch := omega) [sd]; omega) | (simp [sd, *] <;> fail) | fail) (by first | exact bs_getD (by first | rfl | omega | exact Nat.le_of_ble_eq_true rfl | (simp (disch := omega) only [sd, sb]; omega) | (simp (disch := omega) [sd] <;> fail) | (simp (disch := omega) [sd]; omega) | (simp [sd, *] <;> fail) | fail) | rfl) (by first | rfl | omega | exact Nat.le_of_ble_eq_true rfl | (simp (disch := omega) only [sd, sb]; omega) | (simp (disch := omega) [sd] <;> fail) | (simp (disch := omega) [sd]; omega) | (simp [sd, *] <;> fail) | fail) rfl ?_
        | refine X.len (by conv => lhs; whnf) (by first | rfl | assumption) ?_
        | refine X.condTs rfl (by first | rfl | omega | exact Nat.le_of_ble_eq_true rfl | (simp (disch := omega) only [sd, sb]; omega) | (simp (disch := omega) [sd] <;> fail) | (simp (disch := omega) [sd]; omega) | (simp [sd, *] <;> fail) | fail) ?_
        | refine X.condFs rfl (by first | rfl | omega | exact Nat.le_of_ble_eq_true rfl | (simp (disch := omega) only [sd, sb]; omega) | (simp (disch := omega) [sd] <;> fail) | (simp (disch := omega) [sd]; omega) | (simp [sd, *] <;> fail) | fail) ?_
        | refine X.g1Ts rfl (by first | rfl | omega | exact Nat.le_of_ble_eq_true rfl | (simp (disch := omega) only [sd, sb]; omega) | (simp (disch := omega) [sd] <;> fail) | (simp (disch := omega) [sd]; omega) | (simp [sd, *] <;> fail) | fail) ?_
        | refine X.g1Fs rfl (by first | rfl | omega | exact Nat.le_of_ble_eq_true rfl | (simp (disch := omega) only [sd, sb]; omega) | (simp (disch := omega) [sd] <;> fail) | (simp (disch := omega) [sd]; omega) | (simp [sd, *] <;> fail) | fail) ?_
        | refine X.pickTs rfl (by first | rfl | omega | exact Nat.le_of_ble_eq_true rfl | (simp (disch := omega) only [sd, sb]; omega) | (simp (disch := omega) [sd] <;> fail) | (simp (disch := omega) [sd]; omega) | (simp [sd, *] <;> fail) | fail) (fun _ => rfl) ?_
        | refine X.pickFs rfl (by first | rfl | omega | exact Nat.le_of_ble_eq_true rfl | (simp (disch := omega) only [sd, sb]; omega) | (simp (disch := omega) [sd] <;> fail) | (simp (disch := omega) [sd]; omega) | (simp [sd, *] <;> fail) | fail) (fun _ => rfl) ?_
        | refine X.mov (by conv => lhs; whnf) (by first | rfl | assumption) ?_
        )
      refine X.fin (fun _ => rfl) rfl ?_
      have e : bs (h9 ty fl s p.length) = [[V.it IntKind.u8 (wr IntKind.u8 ((Int.ofNat (bs p).length).fdiv (Int.ofNat 65536)))], [V.it IntKind.u8 (wr IntKind.u8 ((Int.ofNat (bs p).length).fdiv (Int.ofNat 256)))], [V.it IntKind.u8 (wr IntKind.u8 (Int.ofNat (bs p).length))],
          [V.it IntKind.u8 (wr IntKind.u8 ty)], [V.it IntKind.u8 (wr IntKind.u8 fl)], [V.it IntKind.u8 (wr IntKind.u8 (s.fdiv (Int.ofNat 16777216)))], [V.it IntKind.u8 (wr IntKind.u8 (s.fdiv (Int.ofNat 65536)))],
          [V.it IntKind.u8 (wr IntKind.u8 (s.fdiv (Int.ofNat 256)))], [V.it IntKind.u8 (wr IntKind.u8 s)]] := by
        simp [bs, h9, wr8m, Int.fdiv_eq_ediv_of_nonneg]
      simp only [E, e]
      rfl
    · rw [hE]; simp [bs_length, h9]; omega
    · rw [hE, List.drop_zero]; apply List.take_of_length_le; simp [bs_length, h9]; omega
end Go.Proofs.Ytgofadnggipkpaa
