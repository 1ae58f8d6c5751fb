import Derived.Test.YtddohjlkjakdlaaEvE
import Derived.Test.YtddohjlkjakdlaaLow
set_option linter.unusedVariables false
set_option linter.unusedSimpArgs false
set_option linter.unusedSectionVars false
set_option linter.unusedVariables false
set_option linter.unusedSimpArgs false
-- the document's own names; requests held against each other
namespace Go.Proofs.Ytddohjlkjakdlaa
open Go hiding Fn
open Ev tab
attribute [local irreducible] EvD EvL EvC evGds evLs C.run sK bK gK pK fK lpB stepD

def oths : List Nat := [33, 35, 36, 37, 38, 39, 42, 43, 45, 46, 94, 95, 96, 124, 126]
theorem sign_oths (c : Nat) : signB c = (decide (97 ≤ c ∧ c ≤ 122) || decide (65 ≤ c ∧ c ≤ 90) || decide (48 ≤ c ∧ c ≤ 57) || oths.any fun x => x == c) := by
  unfold signB
  congr 1
  rw [Bool.eq_iff_iff]
  simp [signs, oths]
  omega
set_option maxHeartbeats 8000000 in
theorem tchar_ok (c : Nat) : EvP F 57 c57 [.it .u8 (Int.ofNat c)] [.bo (signB c)] := by
  refine EvP.ofQ d57 rfl rfl rfl ?_
  rw [sign_oths]
  generalize hb : (oths.any fun x => x == c) = b
  repeat' (first | refine EvQ.run ?_ | (refine EvQ.pickB rfl rfl rfl ?_) | (refine EvQ.cond rfl (fun h => ?_) (fun h => ?_) <;> ((first | replace h := X.nm h | skip); try have hne := ne_len h)) | (refine EvQ.g1 rfl (fun h => ?_) (fun h => ?_) <;> ((first | replace h := X.nm h | skip); try have hne := ne_len h)) | (refine EvQ.pick rfl (fun _ => rfl) (fun _ => rfl) (fun h => ?_) (fun h => ?_) <;> ((first | replace h := X.nm h | skip); try have hne := ne_len h)) | refine EvQ.fin X.rs ?_ | refine EvQ.fin1 (fun _ => rfl) rfl ?_)
  any_goals
    refine PQ.bo (Eq.symm ?_)
    simp only [Bool.or_eq_true, decide_eq_true_eq]
    omega
  all_goals
    refine EvQ.loop (QL := fun r => (b = true ∧ RtQ [(2, .bo true)] (fun _ _ => True) r) ∨ (b = false ∧ XtQ 0 [] (fun _ _ => True) r)) ?_ ?_
    · refine EvL.invQ (S := Nat) (fun i => [(0, .it .u8 (Int.ofNat c)), (3, .it .i64 (Int.ofNat i))]) (fun i _ _ => i ≤ 15 ∧ ∀ j, j < i → (oths.getD j 0 == c) = false) (fun i => 15 - i) _ ?_ 0 _ _ _ ⟨Nat.zero_le _, fun j h => by omega⟩ X.kv
      intro i lo hp ⟨h1, h2⟩
      have hol : oths.length = 15 := rfl
      repeat' (first | refine EvQ.run ?_ | (refine EvQ.pickB rfl rfl rfl ?_) | (refine EvQ.cond rfl (fun h => ?_) (fun h => ?_) <;> ((first | replace h := X.nm h | skip); try have hne := ne_len h)) | (refine EvQ.g1 rfl (fun h => ?_) (fun h => ?_) <;> ((first | replace h := X.nm h | skip); try have hne := ne_len h)) | (refine EvQ.pick rfl (fun _ => rfl) (fun _ => rfl) (fun h => ?_) (fun h => ?_) <;> ((first | replace h := X.nm h | skip); try have hne := ne_len h)) | refine EvQ.fin X.rs ?_ | refine EvQ.fin1 (fun _ => rfl) rfl ?_)
      · refine EvQ.rt (.inl ⟨?_, .mk' X.kv trivial⟩)
        rw [← hb]
        exact any_at (l := oths) (i := i) 0 (by omega) (beq_iff_eq.2 (by assumption))
      · refine EvQ.go (i + 1) X.kv ⟨by omega, fun j hj => ?_⟩ (by omega)
        rcases Nat.lt_or_ge j i with q | q
        · exact h2 j q
        · rw [show j = i by omega]; exact beq_eq_false_iff_ne.2 (by assumption)
      · refine EvQ.xt (.inr ⟨?_, .mk' X.kv trivial⟩)
        rw [← hb]
        exact any_take 0 h2 (by omega)
    · rintro _ (⟨rfl, tm, lo, hp, rfl, -⟩ | ⟨rfl, tm, lo, hp, rfl, -⟩)
      · repeat' (first | refine EvQ.run ?_ | (refine EvQ.pickB rfl rfl rfl ?_) | (refine EvQ.cond rfl (fun h => ?_) (fun h => ?_) <;> ((first | replace h := X.nm h | skip); try have hne := ne_len h)) | (refine EvQ.g1 rfl (fun h => ?_) (fun h => ?_) <;> ((first | replace h := X.nm h | skip); try have hne := ne_len h)) | (refine EvQ.pick rfl (fun _ => rfl) (fun _ => rfl) (fun h => ?_) (fun h => ?_) <;> ((first | replace h := X.nm h | skip); try have hne := ne_len h)) | refine EvQ.fin X.rs ?_ | refine EvQ.fin1 (fun _ => rfl) rfl ?_)
        exact PQ.bo (by simp)
      · repeat' (first | refine EvQ.run ?_ | (refine EvQ.pickB rfl rfl rfl ?_) | (refine EvQ.cond rfl (fun h => ?_) (fun h => ?_) <;> ((first | replace h := X.nm h | skip); try have hne := ne_len h)) | (refine EvQ.g1 rfl (fun h => ?_) (fun h => ?_) <;> ((first | replace h := X.nm h | skip); try have hne := ne_len h)) | (refine EvQ.pick rfl (fun _ => rfl) (fun _ => rfl) (fun h => ?_) (fun h => ?_) <;> ((first | replace h := X.nm h | skip); try have hne := ne_len h)) | refine EvQ.fin X.rs ?_ | refine EvQ.fin1 (fun _ => rfl) rfl ?_)
        refine PQ.bo (Eq.symm ?_)
        rw [Bool.or_false]
        simp only [Bool.or_eq_false_iff, decide_eq_false_iff_not]
        omega
set_option maxHeartbeats 8000000 in
theorem rtoken_ok (s : List Nat) (hl : s.length ≤ 1000000000) : EvP F 48 c48 [.st s] [.bo (tokenB s)] := by
  refine EvP.ofQ d48 rfl rfl rfl ?_
  repeat' (first | refine EvQ.run ?_ | (refine EvQ.pickB rfl rfl rfl ?_) | (refine EvQ.cond rfl (fun h => ?_) (fun h => ?_) <;> ((first | replace h := X.nm h | skip); try have hne := ne_len h)) | (refine EvQ.g1 rfl (fun h => ?_) (fun h => ?_) <;> ((first | replace h := X.nm h | skip); try have hne := ne_len h)) | (refine EvQ.pick rfl (fun _ => rfl) (fun _ => rfl) (fun h => ?_) (fun h => ?_) <;> ((first | replace h := X.nm h | skip); try have hne := ne_len h)) | refine EvQ.fin X.rs ?_ | refine EvQ.fin1 (fun _ => rfl) rfl ?_)
  refine EvQ.loop (QL := fun r => (s.all signB = false ∧ RtQ [(2, .bo false)] (fun _ _ => True) r) ∨ (s.all signB = true ∧ XtQ 0 [(0, .st s)] (fun _ _ => True) r)) ?_ ?_
  · refine EvL.invQ (S := Nat) (fun i => [(0, .st s), (3, .it .i64 (Int.ofNat i))]) (fun i _ _ => i ≤ s.length ∧ ∀ j, j < i → signB (s.getD j 0) = true) (fun i => s.length - i) _ ?_ 0 _ _ _ ⟨Nat.zero_le _, fun j h => by omega⟩ X.kv
    intro i lo hp ⟨h1, h2⟩
    repeat' (first | refine EvQ.run ?_ | refine EvQ.lift (fun _ zn => X.pcall (tchar_ok _) X.cq rfl X.al rfl zn) ?_ | refine EvQ.lift (fun _ zn => X.pcallG (tchar_ok _) rfl X.cq rfl X.al rfl zn) ?_ | refine EvQ.lift (fun _ zn => X.pcallC (tchar_ok _) rfl X.cq rfl X.al rfl zn) ?_ | refine EvQ.lift (fun _ zn => X.pcallT (tchar_ok _) (by decide) X.cq rfl X.al rfl zn) ?_ | refine EvQ.lift (fun _ zn => X.call rfl X.al (tchar_ok _) zn) ?_ | (refine EvQ.pickB rfl rfl rfl ?_) | (refine EvQ.cond rfl (fun h => ?_) (fun h => ?_) <;> ((first | replace h := X.nm h | skip); try have hne := ne_len h)) | (refine EvQ.g1 rfl (fun h => ?_) (fun h => ?_) <;> ((first | replace h := X.nm h | skip); try have hne := ne_len h)) | (refine EvQ.pick rfl (fun _ => rfl) (fun _ => rfl) (fun h => ?_) (fun h => ?_) <;> ((first | replace h := X.nm h | skip); try have hne := ne_len h)) | refine EvQ.fin X.rs ?_ | refine EvQ.fin1 (fun _ => rfl) rfl ?_)
    · exact EvQ.rt (.inl ⟨all_not (by assumption) (by assumption), .mk' X.kv trivial⟩)
    · refine EvQ.go (i + 1) X.kv ⟨by omega, fun j hj => ?_⟩ (by omega)
      rcases Nat.lt_or_ge j i with q | q
      · exact h2 j q
      · rw [show j = i by omega]; assumption
    · exact EvQ.xt (.inr ⟨all_of fun j hj => h2 j (by omega), .mk' X.kv trivial⟩)
  · rintro _ (⟨ha, tm, lo, hp, rfl, -⟩ | ⟨ha, tm, lo, hp, rfl, -⟩)
    · repeat' (first | refine EvQ.run ?_ | (refine EvQ.pickB rfl rfl rfl ?_) | (refine EvQ.cond rfl (fun h => ?_) (fun h => ?_) <;> ((first | replace h := X.nm h | skip); try have hne := ne_len h)) | (refine EvQ.g1 rfl (fun h => ?_) (fun h => ?_) <;> ((first | replace h := X.nm h | skip); try have hne := ne_len h)) | (refine EvQ.pick rfl (fun _ => rfl) (fun _ => rfl) (fun h => ?_) (fun h => ?_) <;> ((first | replace h := X.nm h | skip); try have hne := ne_len h)) | refine EvQ.fin X.rs ?_ | refine EvQ.fin1 (fun _ => rfl) rfl ?_)
      exact PQ.bo (by unfold tokenB; rw [ha]; rfl)
    · repeat' (first | refine EvQ.run ?_ | (refine EvQ.pickB rfl rfl rfl ?_) | (refine EvQ.cond rfl (fun h => ?_) (fun h => ?_) <;> ((first | replace h := X.nm h | skip); try have hne := ne_len h)) | (refine EvQ.g1 rfl (fun h => ?_) (fun h => ?_) <;> ((first | replace h := X.nm h | skip); try have hne := ne_len h)) | (refine EvQ.pick rfl (fun _ => rfl) (fun _ => rfl) (fun h => ?_) (fun h => ?_) <;> ((first | replace h := X.nm h | skip); try have hne := ne_len h)) | refine EvQ.fin X.rs ?_ | refine EvQ.fin1 (fun _ => rfl) rfl ?_)
      refine PQ.bo ?_
      rw [tokenB, ha, beqLD]
      cases s <;> rfl
end Go.Proofs.Ytddohjlkjakdlaa
