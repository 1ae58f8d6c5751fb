import Derived.Test.YtddohjlkjakdlaaEvE
import Derived.Test.YtddohjlkjakdlaaSto6
set_option linter.unusedVariables false
set_option linter.unusedSimpArgs false
set_option linter.unusedSectionVars false
set_option linter.unusedVariables false
set_option linter.unusedSimpArgs false
-- texts held against each other; pages
namespace Go.Proofs.Ytddohjlkjakdlaa
open Go hiding Fn
open Ev tab
attribute [local irreducible] EvP EvD EvL EvC evGds evLs C.run sK bK gK pK fK lpB stepD
def eqT : List (List Nat) → List (List Nat) → Bool
  | [], [] => true
  | a :: x, b :: y => decide (a = b) && eqT x y
  | _, _ => false
theorem eqT_eq : ∀ (x y : List (List Nat)), eqT x y = decide (x = y)
  | [], [] => rfl
  | [], _ :: _ => by simp [eqT]
  | _ :: _, [] => by simp [eqT]
  | a :: x, b :: y => by
    simp only [eqT, eqT_eq x y, List.cons.injEq, Bool.decide_and]
theorem eqT_len : ∀ {x y : List (List Nat)}, x.length ≠ y.length → eqT x y = false
  | [], [], h => absurd rfl h
  | [], _ :: _, _ => rfl
  | _ :: _, [], _ => rfl
  | a :: x, b :: y, h => by
    simp only [eqT, eqT_len (x := x) (y := y) (by simpa using h), Bool.and_false]
set_option maxHeartbeats 8000000 in
theorem sameT_ok (x y : List (List Nat)) (hx : x.length ≤ 1000000) (hy : y.length ≤ 1000000) : EvP F 16 c16 [.vs 1 (txs x), .vs 1 (txs y)] [.bo (eqT x y)] := by
  generalize ht : eqT x y = t
  refine EvP.ofQ d16 rfl rfl rfl ?_
  by_cases hl : x.length = y.length
  · have hn : Int.ofNat x.length = Int.ofNat y.length := by rw [hl]
    repeat (first | refine EvQ.run ?_ | refine EvQ.fin X.rs ?_ | refine EvQ.fin1 (fun _ => rfl) rfl ?_)
    refine EvQ.loop (QL := fun r => (t = true ∧ XtQ 0 [] (fun _ _ => True) r) ∨ (t = false ∧ RtQ [(4, .bo false)] (fun _ _ => True) r)) ?_ ?_
    · refine EvL.invQ (S := Nat) (fun i => [(0, .vs 1 (txs x)), (1, .vs 1 (txs y)), (5, .it .i64 (Int.ofNat i))]) (fun i _ _ => i ≤ x.length ∧ eqT (x.drop i) (y.drop i) = t) (fun i => x.length - i) _ ?_ 0 _ _ _ ⟨Nat.zero_le _, ht⟩ X.kv
      intro i lo hp ⟨h1, h2⟩
      by_cases hi : i < x.length
      · rw [drop_getD hi [], drop_getD (show i < y.length by omega) []] at h2
        simp only [eqT] at h2
        have hiy : i < y.length := by omega
        repeat' (first | refine EvQ.run ?_ | (refine EvQ.pickB rfl rfl rfl ?_) | (refine EvQ.cond rfl (fun h => ?_) (fun h => ?_) <;> ((first | replace h := X.nm h | skip); try have hne := ne_len h)) | (refine EvQ.g1 rfl (fun h => ?_) (fun h => ?_) <;> ((first | replace h := X.nm h | skip); try have hne := ne_len h)) | (refine EvQ.pick rfl (fun _ => rfl) (fun _ => rfl) (fun h => ?_) (fun h => ?_) <;> ((first | replace h := X.nm h | skip); try have hne := ne_len h)) | refine EvQ.fin X.rs ?_ | refine EvQ.fin1 (fun _ => rfl) rfl ?_)
        · rw [decide_eq_false (by assumption), Bool.false_and] at h2
          exact EvQ.rt (.inr ⟨h2.symm, .mk' X.kv trivial⟩)
        · rw [decide_eq_true (by assumption), Bool.true_and] at h2
          exact EvQ.go (i + 1) X.kv ⟨by omega, h2⟩ (by omega)
      · repeat' (first | refine EvQ.run ?_ | (refine EvQ.pickB rfl rfl rfl ?_) | (refine EvQ.cond rfl (fun h => ?_) (fun h => ?_) <;> ((first | replace h := X.nm h | skip); try have hne := ne_len h)) | (refine EvQ.g1 rfl (fun h => ?_) (fun h => ?_) <;> ((first | replace h := X.nm h | skip); try have hne := ne_len h)) | (refine EvQ.pick rfl (fun _ => rfl) (fun _ => rfl) (fun h => ?_) (fun h => ?_) <;> ((first | replace h := X.nm h | skip); try have hne := ne_len h)) | refine EvQ.fin X.rs ?_ | refine EvQ.fin1 (fun _ => rfl) rfl ?_)
        rw [List.drop_of_length_le (by omega), List.drop_of_length_le (by omega)] at h2
        exact EvQ.xt (.inl ⟨h2.symm, .mk' X.kv trivial⟩)
    · rintro _ (⟨rfl, tm, lo, hp, rfl, -⟩ | ⟨rfl, tm, lo, hp, rfl, -⟩)
      · repeat' (first | refine EvQ.run ?_ | (refine EvQ.pickB rfl rfl rfl ?_) | (refine EvQ.cond rfl (fun h => ?_) (fun h => ?_) <;> ((first | replace h := X.nm h | skip); try have hne := ne_len h)) | (refine EvQ.g1 rfl (fun h => ?_) (fun h => ?_) <;> ((first | replace h := X.nm h | skip); try have hne := ne_len h)) | (refine EvQ.pick rfl (fun _ => rfl) (fun _ => rfl) (fun h => ?_) (fun h => ?_) <;> ((first | replace h := X.nm h | skip); try have hne := ne_len h)) | refine EvQ.fin X.rs ?_ | refine EvQ.fin1 (fun _ => rfl) rfl ?_)
        exact PQ.bo rfl
      · repeat' (first | refine EvQ.run ?_ | (refine EvQ.pickB rfl rfl rfl ?_) | (refine EvQ.cond rfl (fun h => ?_) (fun h => ?_) <;> ((first | replace h := X.nm h | skip); try have hne := ne_len h)) | (refine EvQ.g1 rfl (fun h => ?_) (fun h => ?_) <;> ((first | replace h := X.nm h | skip); try have hne := ne_len h)) | (refine EvQ.pick rfl (fun _ => rfl) (fun _ => rfl) (fun h => ?_) (fun h => ?_) <;> ((first | replace h := X.nm h | skip); try have hne := ne_len h)) | refine EvQ.fin X.rs ?_ | refine EvQ.fin1 (fun _ => rfl) rfl ?_)
        exact PQ.bo rfl
  · rw [eqT_len hl] at ht
    subst ht
    repeat (first | refine EvQ.run ?_ | refine EvQ.fin X.rs ?_ | refine EvQ.fin1 (fun _ => rfl) rfl ?_)
    exact PQ.bo rfl
end Go.Proofs.Ytddohjlkjakdlaa
