import Derived.Test.YtcbiplmgaiipgaaEvE
import Derived.Test.YtcbiplmgaiipgaaVaryN
import Derived.Test.YtcbiplmgaiipgaaResW
set_option linter.unusedVariables false
set_option linter.unusedSimpArgs false
set_option linter.unusedSectionVars false
-- the document's own answers to chapter 15: names, values, numbers, lengths
namespace Go.Proofs.Ytcbiplmgaiipgaa
open Go hiding Fn
open Ev tab
attribute [local irreducible] EvD EvL EvC evGds evLs C.run sK bK gK pK fK lpB stepD
theorem trail_ok (l : List Fld) (hl : FOK l) : EvP F 31 c31 [.vs 2 (fds l)] [.bo (!(l.any colonB) && plainF l)] := by
  have hc := contains_ok l (by have := hl.1; omega) h0
  have hp := plain_ok l hl
  refine EvP.ofQ d31 rfl rfl rfl ?_
  repeat' (first | refine EvQ.run ?_ | refine EvQ.lift (fun _ zn => X.pcall (hc) X.cq rfl X.al rfl zn) ?_ | refine EvQ.lift (fun _ zn => X.pcallG (hc) rfl X.cq rfl X.al rfl zn) ?_ | refine EvQ.lift (fun _ zn => X.pcallC (hc) rfl X.cq rfl X.al rfl zn) ?_ | refine EvQ.lift (fun _ zn => X.pcallT (hc) (by decide) X.cq rfl X.al rfl zn) ?_ | refine EvQ.lift (fun _ zn => X.call rfl X.al (hc) zn) ?_ | refine EvQ.lift (fun _ zn => X.pcall (hp) X.cq rfl X.al rfl zn) ?_ | refine EvQ.lift (fun _ zn => X.pcallG (hp) rfl X.cq rfl X.al rfl zn) ?_ | refine EvQ.lift (fun _ zn => X.pcallC (hp) rfl X.cq rfl X.al rfl zn) ?_ | refine EvQ.lift (fun _ zn => X.pcallT (hp) (by decide) X.cq rfl X.al rfl zn) ?_ | refine EvQ.lift (fun _ zn => X.call rfl X.al (hp) zn) ?_ | (refine EvQ.pickB rfl rfl rfl ?_) | (refine EvQ.cond rfl (fun h => ?_) (fun h => ?_) <;> ((first | replace h := X.nm h | skip); try have hne := ne_len h)) | (refine EvQ.g1 rfl (fun h => ?_) (fun h => ?_) <;> ((first | replace h := X.nm h | skip); try have hne := ne_len h)) | (refine EvQ.pick rfl (fun _ => rfl) (fun _ => rfl) (fun h => ?_) (fun h => ?_) <;> ((first | replace h := X.nm h | skip); try have hne := ne_len h)) | refine EvQ.fin X.rs ?_ | refine EvQ.fin1 (fun _ => rfl) rfl ?_)
  all_goals
    refine PQ.bo ?_
    simp [*]
set_option maxHeartbeats 8000000 in
theorem rvalue_ok (s : List Nat) (hl : s.length ≤ 100000000) : EvP F 68 c68 [.st s] [.bo (valueB s)] := by
  have b1 := rblank_ok (s.getD 0 0)
  have b2 := rblank_ok (s.getD (s.length - 1) 0)
  refine EvP.ofQ d68 rfl rfl rfl ?_
  have hv : valueB s = (s.all plainB && (s.isEmpty || !blankB (s.getD 0 0) && !blankB (s.getD (s.length - 1) 0))) := rfl
  generalize ht : s.all plainB = t at *
  repeat' (first | refine EvQ.run ?_ | (refine EvQ.pickB rfl rfl rfl ?_) | (refine EvQ.cond rfl (fun h => ?_) (fun h => ?_) <;> ((first | replace h := X.nm h | skip); try have hne := ne_len h)) | (refine EvQ.g1 rfl (fun h => ?_) (fun h => ?_) <;> ((first | replace h := X.nm h | skip); try have hne := ne_len h)) | (refine EvQ.pick rfl (fun _ => rfl) (fun _ => rfl) (fun h => ?_) (fun h => ?_) <;> ((first | replace h := X.nm h | skip); try have hne := ne_len h)) | refine EvQ.fin X.rs ?_ | refine EvQ.fin1 (fun _ => rfl) rfl ?_)
  refine EvQ.loop (QL := fun r => (t = true ∧ XtQ 0 [(0, .st s)] (fun _ hp => hp = h0) r) ∨ (t = false ∧ RtQ [(2, .bo false)] (fun _ _ => True) r)) ?_ ?_
  · refine EvL.invQ (S := Nat) (fun i => [(0, .st s), (3, .it .i64 (Int.ofNat i))]) (fun i _ hp => hp = h0 ∧ i ≤ s.length ∧ (s.drop i).all plainB = t) (fun i => s.length - i) _ ?_ 0 _ _ _ ⟨rfl, Nat.zero_le _, ht⟩ X.kv
    intro i lo hp ⟨e0, e1, e2⟩
    subst e0
    have hd : i < s.length → (plainB (s.getD i 0) && (s.drop (i + 1)).all plainB) = t := fun h => by rw [drop_getD h 0] at e2; exact e2
    clear b1 b2
    repeat' (first | refine EvQ.run ?_ | (refine EvQ.pickB rfl rfl rfl ?_) | (refine EvQ.cond rfl (fun h => ?_) (fun h => ?_) <;> ((first | replace h := X.nm h | skip); try have hne := ne_len h)) | (refine EvQ.g1 rfl (fun h => ?_) (fun h => ?_) <;> ((first | replace h := X.nm h | skip); try have hne := ne_len h)) | (refine EvQ.pick rfl (fun _ => rfl) (fun _ => rfl) (fun h => ?_) (fun h => ?_) <;> ((first | replace h := X.nm h | skip); try have hne := ne_len h)) | refine EvQ.fin X.rs ?_ | refine EvQ.fin1 (fun _ => rfl) rfl ?_)
    all_goals first
      | (have e : plainB (s.getD i 0) = true := by (clear hd e2; generalize s.getD i 0 = c at *; simp [plainB]; omega)
         refine EvQ.go (i + 1) X.kv ⟨rfl, by omega, ?_⟩ (by omega)
         rw [← hd (by assumption), e]; rfl)
      | (have e : plainB (s.getD i 0) = false := by (clear hd e2; generalize s.getD i 0 = c at *; simp [plainB]; omega)
         refine EvQ.rt (.inr ⟨?_, .mk' X.kv trivial⟩)
         rw [← hd (by assumption), e]; rfl)
      | (refine EvQ.xt (.inl ⟨?_, .mk' X.kv rfl⟩)
         rw [← e2, List.drop_of_length_le (by omega)]; rfl)
      | trace_state
  · rintro _ (⟨rfl, tm, lo, hp, rfl, rfl⟩ | ⟨rfl, tm, lo, hp, rfl, -⟩)
    · repeat' (first | refine EvQ.run ?_ | refine EvQ.lift (fun _ zn => X.pcall (b1) X.cq rfl X.al rfl zn) ?_ | refine EvQ.lift (fun _ zn => X.pcallG (b1) rfl X.cq rfl X.al rfl zn) ?_ | refine EvQ.lift (fun _ zn => X.pcallC (b1) rfl X.cq rfl X.al rfl zn) ?_ | refine EvQ.lift (fun _ zn => X.pcallT (b1) (by decide) X.cq rfl X.al rfl zn) ?_ | refine EvQ.lift (fun _ zn => X.call rfl X.al (b1) zn) ?_ | refine EvQ.lift (fun _ zn => X.pcall (b2) X.cq rfl X.al rfl zn) ?_ | refine EvQ.lift (fun _ zn => X.pcallG (b2) rfl X.cq rfl X.al rfl zn) ?_ | refine EvQ.lift (fun _ zn => X.pcallC (b2) rfl X.cq rfl X.al rfl zn) ?_ | refine EvQ.lift (fun _ zn => X.pcallT (b2) (by decide) X.cq rfl X.al rfl zn) ?_ | refine EvQ.lift (fun _ zn => X.call rfl X.al (b2) zn) ?_ | (refine EvQ.pickB rfl rfl rfl ?_) | (refine EvQ.cond rfl (fun h => ?_) (fun h => ?_) <;> ((first | replace h := X.nm h | skip); try have hne := ne_len h)) | (refine EvQ.g1 rfl (fun h => ?_) (fun h => ?_) <;> ((first | replace h := X.nm h | skip); try have hne := ne_len h)) | (refine EvQ.pick rfl (fun _ => rfl) (fun _ => rfl) (fun h => ?_) (fun h => ?_) <;> ((first | replace h := X.nm h | skip); try have hne := ne_len h)) | refine EvQ.fin X.rs ?_ | refine EvQ.fin1 (fun _ => rfl) rfl ?_)
      all_goals
        refine PQ.bo ?_
        rw [hv]
        first
          | (have he : s.isEmpty = false := by cases s <;> first | rfl | contradiction
             rw [he, h]; simp; done)
          | (rw [h]; rfl)
          | trace_state
    · repeat' (first | refine EvQ.run ?_ | (refine EvQ.pickB rfl rfl rfl ?_) | (refine EvQ.cond rfl (fun h => ?_) (fun h => ?_) <;> ((first | replace h := X.nm h | skip); try have hne := ne_len h)) | (refine EvQ.g1 rfl (fun h => ?_) (fun h => ?_) <;> ((first | replace h := X.nm h | skip); try have hne := ne_len h)) | (refine EvQ.pick rfl (fun _ => rfl) (fun _ => rfl) (fun h => ?_) (fun h => ?_) <;> ((first | replace h := X.nm h | skip); try have hne := ne_len h)) | refine EvQ.fin X.rs ?_ | refine EvQ.fin1 (fun _ => rfl) rfl ?_)
      exact PQ.bo (by rw [hv]; rfl)
end Go.Proofs.Ytcbiplmgaiipgaa
