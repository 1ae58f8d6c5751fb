import Derived.Test.YtcbiplmgaiipgaaEvE
import Derived.Test.YtcbiplmgaiipgaaRefN
set_option linter.unusedVariables false
set_option linter.unusedSimpArgs false
set_option linter.unusedSectionVars false
-- the document's names
namespace Go.Proofs.Ytcbiplmgaiipgaa
open Go hiding Fn
open Ev tab
attribute [local irreducible] EvD EvL EvC evGds evLs C.run sK bK gK pK fK lpB stepD
def greatB (c : Nat) : Bool := decide (65 ≤ c ∧ c ≤ 90)
theorem low_great (s : List Nat) : decide (lowL s = s) = !s.any greatB := by
  rw [Bool.eq_iff_iff, decide_eq_true_eq]
  induction s with
  | nil => exact ⟨fun _ => rfl, fun _ => rfl⟩
  | cons c r ih =>
    have h1 : (lowC c = c) ↔ greatB c = false := by
      unfold lowC greatB
      split
      · rename_i h; simp [h]
      · rename_i h; simp; omega
    show lowC c :: lowL r = c :: r ↔ _
    rw [List.cons.injEq, h1, ih, List.any_cons]
    simp
set_option maxHeartbeats 8000000 in
theorem rname_ok (s : List Nat) (hl : s.length ≤ 100000000) : EvP F 74 c74 [.st s] [.bo (namedB s)] := by
  have tk := rtoken_ok s (by omega)
  have hn : namedB s = (tokenB s && !s.any greatB) := by unfold namedB; rw [low_great]
  refine EvP.ofQ d74 rfl rfl rfl ?_
  generalize ht : s.any greatB = t at *
  repeat' (first | refine EvQ.run ?_ | (refine EvQ.pickB rfl rfl rfl ?_) | (refine EvQ.cond rfl (fun h => ?_) (fun h => ?_) <;> ((first | replace h := X.nm h | skip); try have hne := ne_len h)) | (refine EvQ.g1 rfl (fun h => ?_) (fun h => ?_) <;> ((first | replace h := X.nm h | skip); try have hne := ne_len h)) | (refine EvQ.pick rfl (fun _ => rfl) (fun _ => rfl) (fun h => ?_) (fun h => ?_) <;> ((first | replace h := X.nm h | skip); try have hne := ne_len h)) | refine EvQ.fin X.rs ?_ | refine EvQ.fin1 (fun _ => rfl) rfl ?_)
  refine EvQ.loop (QL := fun r => (t = false ∧ XtQ 0 [(0, .st s)] (fun _ hp => True) r) ∨ (t = true ∧ RtQ [(2, .bo false)] (fun _ _ => True) r)) ?_ ?_
  · refine EvL.invQ (S := Nat) (fun i => [(0, .st s), (3, .it .i64 (Int.ofNat i))]) (fun i _ hp => i ≤ s.length ∧ (s.drop i).any greatB = t) (fun i => s.length - i) _ ?_ 0 _ _ _ ⟨Nat.zero_le _, ht⟩ X.kv
    intro i lo hp ⟨e1, e2⟩
    have hd : i < s.length → (greatB (s.getD i 0) || (s.drop (i + 1)).any greatB) = t := fun h => by rw [drop_getD h 0] at e2; exact e2
    clear tk
    repeat' (first | refine EvQ.run ?_ | (refine EvQ.pickB rfl rfl rfl ?_) | (refine EvQ.cond rfl (fun h => ?_) (fun h => ?_) <;> ((first | replace h := X.nm h | skip); try have hne := ne_len h)) | (refine EvQ.g1 rfl (fun h => ?_) (fun h => ?_) <;> ((first | replace h := X.nm h | skip); try have hne := ne_len h)) | (refine EvQ.pick rfl (fun _ => rfl) (fun _ => rfl) (fun h => ?_) (fun h => ?_) <;> ((first | replace h := X.nm h | skip); try have hne := ne_len h)) | refine EvQ.fin X.rs ?_ | refine EvQ.fin1 (fun _ => rfl) rfl ?_)
    all_goals first
      | (have e : greatB (s.getD i 0) = false := by (clear hd e2; generalize s.getD i 0 = c at *; simp [greatB]; omega)
         refine EvQ.go (i + 1) X.kv ⟨by omega, ?_⟩ (by omega)
         rw [← hd (by assumption), e]; rfl)
      | (have e : greatB (s.getD i 0) = true := by (clear hd e2; generalize s.getD i 0 = c at *; simp [greatB]; omega)
         refine EvQ.rt (.inr ⟨?_, .mk' X.kv trivial⟩)
         rw [← hd (by assumption), e]; rfl)
      | (refine EvQ.xt (.inl ⟨?_, .mk' X.kv trivial⟩)
         rw [← e2, List.drop_of_length_le (by omega)]; rfl)
      | trace_state
  · rintro _ (⟨rfl, tm, lo, hp, rfl, -⟩ | ⟨rfl, tm, lo, hp, rfl, -⟩)
    · repeat' (first | refine EvQ.run ?_ | refine EvQ.lift (fun _ zn => X.pcall (tk) X.cq rfl X.al rfl zn) ?_ | refine EvQ.lift (fun _ zn => X.pcallG (tk) rfl X.cq rfl X.al rfl zn) ?_ | refine EvQ.lift (fun _ zn => X.pcallC (tk) rfl X.cq rfl X.al rfl zn) ?_ | refine EvQ.lift (fun _ zn => X.pcallT (tk) (by decide) X.cq rfl X.al rfl zn) ?_ | refine EvQ.lift (fun _ zn => X.call rfl X.al (tk) zn) ?_ | (refine EvQ.pickB rfl rfl rfl ?_) | (refine EvQ.cond rfl (fun h => ?_) (fun h => ?_) <;> ((first | replace h := X.nm h | skip); try have hne := ne_len h)) | (refine EvQ.g1 rfl (fun h => ?_) (fun h => ?_) <;> ((first | replace h := X.nm h | skip); try have hne := ne_len h)) | (refine EvQ.pick rfl (fun _ => rfl) (fun _ => rfl) (fun h => ?_) (fun h => ?_) <;> ((first | replace h := X.nm h | skip); try have hne := ne_len h)) | refine EvQ.fin X.rs ?_ | refine EvQ.fin1 (fun _ => rfl) rfl ?_)
      exact PQ.bo (by rw [hn]; simp)
    · repeat' (first | refine EvQ.run ?_ | (refine EvQ.pickB rfl rfl rfl ?_) | (refine EvQ.cond rfl (fun h => ?_) (fun h => ?_) <;> ((first | replace h := X.nm h | skip); try have hne := ne_len h)) | (refine EvQ.g1 rfl (fun h => ?_) (fun h => ?_) <;> ((first | replace h := X.nm h | skip); try have hne := ne_len h)) | (refine EvQ.pick rfl (fun _ => rfl) (fun _ => rfl) (fun h => ?_) (fun h => ?_) <;> ((first | replace h := X.nm h | skip); try have hne := ne_len h)) | refine EvQ.fin X.rs ?_ | refine EvQ.fin1 (fun _ => rfl) rfl ?_)
      exact PQ.bo (by rw [hn]; simp)
end Go.Proofs.Ytcbiplmgaiipgaa
