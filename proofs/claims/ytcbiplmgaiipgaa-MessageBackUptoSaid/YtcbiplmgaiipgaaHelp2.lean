import Derived.Test.YtcbiplmgaiipgaaEvE
import Derived.Test.YtcbiplmgaiipgaaHelp
import Derived.Test.YtcbiplmgaiipgaaReq2
set_option linter.unusedVariables false
set_option linter.unusedSimpArgs false
set_option linter.unusedSectionVars false
-- fields, requests held against each other
namespace Go.Proofs.Ytcbiplmgaiipgaa
open Go hiding Fn
open Ev tab
attribute [local irreducible] EvD EvL EvC evGds evLs C.run sK bK gK pK fK lpB stepD

set_option maxHeartbeats 8000000 in
theorem sameF_ok (a b : List Fld) (hl : a.length ≤ 100000000) : EvP F 51 c51 [.vs 2 (fds a), .vs 2 (fds b)] [.bo (decide (a = b))] := by
  have hla := fds_length a
  have hlb := fds_length b
  by_cases hn : a.length = b.length
  · have loop : ∀ (tm : Tm) (lo : Lo) (hp : Hp), [0, 1, 5].map (fun s => (s, tm s)) = [(0, .vs 2 (fds a)), (1, .vs 2 (fds b)), (5, .it .i64 (Int.ofNat 0))] → ∃ r, EvL F [0, 1, 5] [] (lpB L51) ⟨tm, lo, hp⟩ r ∧
        ((a = b ∧ ∃ tm lo hp, r = .exit 0 ⟨tm, lo, hp⟩) ∨ (a ≠ b ∧ ∃ tm lo hp, r = .ret ⟨tm, lo, hp⟩ ∧ tm 4 = .bo false)) := by
      refine fun tm lo hp hk => EvL.inv (S := Nat) (fun i => [(0, .vs 2 (fds a)), (1, .vs 2 (fds b)), (5, .it .i64 (Int.ofNat i))]) (fun i _ _ => i ≤ a.length ∧ ∀ j (hj : j < a.length) (hj' : j < b.length), j < i → a[j] = b[j]) (fun i => a.length - i) _ ?_ 0 tm lo hp ⟨by omega, fun j _ _ h => by omega⟩ hk
      intro i lo hp ⟨h1, h2⟩
      by_cases h : i < a.length
      · have h' : i < b.length := by omega
        have hga := fds_getD h
        have hgb := fds_getD h'
        have hno : a[i] ≠ b[i] → a ≠ b := fun e e' => e (by subst e'; rfl)
        have hyes : a[i] = b[i] → ∀ j (hj : j < a.length) (hj' : j < b.length), j < i + 1 → a[j] = b[j] := by
          intro e j hj hj' hji
          rcases Nat.lt_or_ge j i with q | q
          · exact h2 j hj hj' q
          · have : j = i := by omega
            subst this; exact e
        revert hga hgb hno hyes
        generalize a[i] = f
        generalize b[i] = g
        obtain ⟨n1, v1⟩ := f
        obtain ⟨n2, v2⟩ := g
        intro hga hgb hno hyes
        by_cases he : n1 = n2 ∧ v1 = v2
        · obtain ⟨rfl, rfl⟩ := he
          have hq : (!(beqL n1 n1 && (beqL v1 v1 && true))) = false := by rw [beqLD, beqLD]; simp
          left
          iterate 3 apply Exists.intro
          refine ⟨i + 1, ?_, ?_, ⟨h, hyes rfl⟩, by omega⟩
          · refine X.run ?_
            exact EvD.done _
          · exact X.kv
        · have hq : (!(beqL n1 n2 && (beqL v1 v2 && true))) = true := by
            rw [beqLD, beqLD, Bool.and_true, Bool.not_eq_true', Bool.and_eq_false_iff]
            by_cases e1 : n1 = n2
            · right; exact decide_eq_false fun e2 => he ⟨e1, e2⟩
            · left; exact decide_eq_false e1
          right
          apply EvL.endR
          · refine X.run ?_
            exact EvD.done _
          · exact .inr ⟨hno fun e => he (by cases e; exact ⟨rfl, rfl⟩), _, _, _, rfl, rfl⟩
      · right
        apply EvL.endE
        · refine X.run ?_
          exact EvD.done _
        · exact .inl ⟨List.ext_getElem hn fun j q q' => h2 j q q' (by omega), _, _, _, rfl⟩
    obtain ⟨r, hL, h | h⟩ := loop (tmOf [(0, .vs 2 (fds a)), (1, .vs 2 (fds b)), (5, .it .i64 (Int.ofNat 0))]) (fun _ => none) h0 rfl
    · obtain ⟨ha, tm, lo, hp, rfl⟩ := h
      rw [decide_eq_true ha]
      refine EvP.of d51 rfl rfl rfl (v := .bo _) (h := hp) (h' := hp) ?_ (.s (clo_bo _) (.nil _))
      refine X.fn ?_
      refine X.run ?_
      refine X.loop (hL.congr rfl rfl rfl) ?_
      refine X.run ?_
      exact X.fin (fun _ => rfl) rfl rfl
    · obtain ⟨ha, tm, lo, hp, rfl, e0⟩ := h
      have hL := hL.pr e0
      rw [decide_eq_false ha]
      refine EvP.of d51 rfl rfl rfl (v := .bo _) (h := hp) (h' := hp) ?_ (.s (clo_bo _) (.nil _))
      refine X.fn ?_
      refine X.run ?_
      refine X.loop (hL.congr rfl rfl rfl) ?_
      refine X.run ?_
      exact X.fin (fun _ => rfl) rfl rfl
  · rw [decide_eq_false (fun e => hn (by rw [e]))]
    refine EvP.of d51 rfl rfl rfl (v := .bo _) (h := h0) (h' := h0) ?_ (.s (clo_bo _) (.nil _))
    refine X.fn ?_
    refine X.run ?_
    exact X.fin (fun _ => rfl) rfl rfl
end Go.Proofs.Ytcbiplmgaiipgaa
