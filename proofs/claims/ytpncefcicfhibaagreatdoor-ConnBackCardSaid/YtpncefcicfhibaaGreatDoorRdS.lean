import Derived.Test.YtpncefcicfhibaaGreatDoorEvE
import Derived.Test.YtpncefcicfhibaaGreatDoorRdB
set_option linter.unusedVariables false
set_option linter.unusedSimpArgs false
-- (EvHp)
namespace Go.Proofs.YtpncefcicfhibaaGreatDoor
open Go hiding Fn
open Ev tab
attribute [local irreducible] EvP EvD EvL EvC evGds evLs C.run sK bK gK pK fK lpB stepD

def L12 : C := d12.body.lps.getD 0 .skip

theorem same_loop (a b : List Int) (hl : a.length = b.length) (hb : a.length ≤ 10000000) : ∀ (m i : Nat) (st : St), i + m = a.length → (∀ j : Nat, j < i → a[j]?.getD 0 = b[j]?.getD 0) →
    [0, 1, 5].map (fun s => (s, st.tm s)) = [(0, .vs 1 (bs a)), (1, .vs 1 (bs b)), (5, .it .i64 (Int.ofNat i))] →
    (a = b → ∃ tm lo hp, EvL F [0, 1, 5] [] (lpB L12) st (.exit 0 ⟨tm, lo, hp⟩)) ∧ (a ≠ b → ∃ tm lo hp, EvL F [0, 1, 5] [] (lpB L12) st (.ret ⟨upd tm 4 (.bo false), lo, hp⟩)) := by
  intro m
  induction m with
  | zero =>
    intro i st hi hj hk
    have hab : a = b := by
      apply List.ext_getElem hl
      intro n h1 h2
      have := hj n (by omega)
      simpa [h1, h2] using this
    refine ⟨fun _ => ?_, fun h => absurd hab h⟩
    iterate 3 apply Exists.intro
    refine EvL.stop _ hk ?_ (fun s h => by cases h)
    refine X.run ?_
    exact EvD.done _
  | succ m ih =>
    intro i st hi hj hk
    by_cases he : a[i]?.getD 0 = b[i]?.getD 0
    · have step : ∃ tm lo hp, tm 0 = .vs 1 (bs a) ∧ tm 1 = .vs 1 (bs b) ∧ tm 5 = .it .i64 (Int.ofNat (i + 1)) ∧ ∀ r, EvL F [0, 1, 5] [] (lpB L12) ⟨tm, lo, hp⟩ r → EvL F [0, 1, 5] [] (lpB L12) st r := by
        iterate 3 apply Exists.intro
        refine ⟨?_, ?_, ?_, fun r h => EvL.go _ hk ?_ h⟩
        rotate_left 3
        · refine X.run ?_
          exact EvD.done _
        · rfl
        · rfl
        · exact wr_inc (by omega)
      obtain ⟨tm, lo, hp, e0, e1, e5, go⟩ := step
      obtain ⟨h1, h2⟩ := ih (i + 1) ⟨tm, lo, hp⟩ (by omega) (fun j hj' => by
        rcases Nat.lt_or_ge j i with q | q
        · exact hj j q
        · have : j = i := by omega
          subst this; exact he) (by simp [e0, e1, e5])
      refine ⟨fun h => ?_, fun h => ?_⟩
      · obtain ⟨t, l, p, q⟩ := h1 h
        exact ⟨t, l, p, go _ q⟩
      · obtain ⟨t, l, p, q⟩ := h2 h
        exact ⟨t, l, p, go _ q⟩
    · refine ⟨fun h => absurd (by rw [h]) he, fun _ => ?_⟩
      iterate 3 apply Exists.intro
      refine EvL.stop _ hk ?_ (fun s h => by cases h)
      refine X.run ?_
      exact EvD.done _

theorem same_ok (a b : List Int) (hb : a.length ≤ 10000000) : EvP F 12 c12 [.vs 1 (bs a), .vs 1 (bs b)] [.bo (decide (a = b))] := by
  by_cases hl : a.length = b.length
  · obtain ⟨h1, h2⟩ := same_loop a b hl hb a.length 0 ⟨tmOf [(0, .vs 1 (bs a)), (1, .vs 1 (bs b)), (5, .it .i64 (Int.ofNat 0))], fun _ => none, h0⟩ (by omega) (fun j h => by omega) (by rfl)
    by_cases hab : a = b
    · obtain ⟨tm, lo, hp, h⟩ := h1 hab
      rw [decide_eq_true hab]
      refine EvP.of d12 rfl rfl rfl (v := .bo _) (h := hp) (h' := hp) ?_ (.s (clo_bo _) (.nil _))
      refine X.fn ?_
      refine X.run ?_
      refine X.loop (h.congr rfl rfl rfl) ?_
      refine X.run ?_
      exact X.fin (fun _ => rfl) rfl rfl
    · obtain ⟨tm, lo, hp, h⟩ := h2 hab
      rw [decide_eq_false hab]
      refine EvP.of d12 rfl rfl rfl (v := .bo _) (h := hp) (h' := hp) ?_ (.s (clo_bo _) (.nil _))
      refine X.fn ?_
      refine X.run ?_
      refine X.loop (h.congr rfl rfl rfl) ?_
      refine X.run ?_
      exact X.fin (fun _ => rfl) rfl rfl
  · rw [decide_eq_false (fun h => hl (by rw [h]))]
    refine EvP.of d12 rfl rfl rfl (v := .bo _) (h := h0) (h' := h0) ?_ (.s (clo_bo _) (.nil _))
    refine X.fn ?_
    refine X.run ?_
    exact X.fin (fun _ => rfl) rfl rfl
end Go.Proofs.YtpncefcicfhibaaGreatDoor
