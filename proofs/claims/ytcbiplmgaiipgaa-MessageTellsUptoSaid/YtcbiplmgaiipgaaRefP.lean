import Derived.Test.YtcbiplmgaiipgaaEvE
import Derived.Test.YtcbiplmgaiipgaaRefO
set_option linter.unusedVariables false
set_option linter.unusedSimpArgs false
set_option linter.unusedSectionVars false
-- the document's plain fields
namespace Go.Proofs.Ytcbiplmgaiipgaa
open Go hiding Fn
open Ev tab
attribute [local irreducible] EvD EvL EvC evGds evLs C.run sK bK gK pK fK lpB stepD
theorem fpl_eq (f : Fld) : fplB f = (namedB f.1 && (valueB f.2 && (!decide (f.1 ∈ hops) && (!decide (f.1 = [116, 101]) || decide (f.2 = [116, 114, 97, 105, 108, 101, 114, 115]))))) := rfl
attribute [local irreducible] EvP fplB namedB valueB plainF
set_option maxHeartbeats 8000000 in
theorem rplain_ok (l : List Fld) (hl : FOK l) : EvP F 32 c32 [.vs 2 (fds l)] [.bo (plainF l)] := by
  have hll := hl.1
  refine EvP.ofQ d32 rfl rfl rfl ?_
  have ht : l.all fplB = plainF l := by unfold plainF; rfl
  generalize plainF l = t at *
  repeat' (first | refine EvQ.run ?_ | (refine EvQ.pickB rfl rfl rfl ?_) | (refine EvQ.cond rfl (fun h => ?_) (fun h => ?_) <;> ((first | replace h := X.nm h | skip); try have hne := ne_len h)) | (refine EvQ.g1 rfl (fun h => ?_) (fun h => ?_) <;> ((first | replace h := X.nm h | skip); try have hne := ne_len h)) | (refine EvQ.pick rfl (fun _ => rfl) (fun _ => rfl) (fun h => ?_) (fun h => ?_) <;> ((first | replace h := X.nm h | skip); try have hne := ne_len h)) | refine EvQ.fin X.rs ?_ | refine EvQ.fin1 (fun _ => rfl) rfl ?_)
  refine EvQ.loop (QL := fun r => (t = true ∧ XtQ 0 [] (fun _ hp => True) r) ∨ (t = false ∧ RtQ [(2, .bo false)] (fun _ _ => True) r)) ?_ ?_
  · refine EvL.invQ (S := Nat) (fun i => [(0, .vs 2 (fds l)), (3, .it .i64 (Int.ofNat i))]) (fun i lo hp => shed [4] lo = (fun _ => none) ∧ i ≤ l.length ∧ (l.drop i).all fplB = t) (fun i => l.length - i) _ ?_ 0 _ _ _ ⟨X.lo, Nat.zero_le _, ht⟩ X.kv
    intro i lo hp ⟨e0, e1, e2⟩
    rw [e0]
    have hd : i < l.length → (fplB (l.getD i f0) && (l.drop (i + 1)).all fplB) = t := fun h => by rw [drop_getD h f0] at e2; exact e2
    have hb : (l.getD i f0).1.length ≤ 100000000 ∧ (l.getD i f0).2.length ≤ 100000000 := by
      by_cases hi : i < l.length
      · rw [List.getD, List.getElem?_eq_getElem hi]
        exact ⟨(hl.get hi).2.2.1, (hl.get hi).2.2.2⟩
      · rw [List.getD, List.getElem?_eq_none (by omega)]; exact ⟨Nat.zero_le _, Nat.zero_le _⟩
    have n1 := rname_ok _ hb.1
    have n2 := rvalue_ok _ hb.2
    have hf := fpl_eq (l.getD i f0)
    repeat' (first | refine EvQ.run ?_ | refine EvQ.lift (fun _ zn => X.pcall (n1) X.cq rfl X.al rfl zn) ?_ | refine EvQ.lift (fun _ zn => X.pcallG (n1) rfl X.cq rfl X.al rfl zn) ?_ | refine EvQ.lift (fun _ zn => X.pcallC (n1) rfl X.cq rfl X.al rfl zn) ?_ | refine EvQ.lift (fun _ zn => X.pcallT (n1) (by decide) X.cq rfl X.al rfl zn) ?_ | refine EvQ.lift (fun _ zn => X.call rfl X.al (n1) zn) ?_ | refine EvQ.lift (fun _ zn => X.pcall (n2) X.cq rfl X.al rfl zn) ?_ | refine EvQ.lift (fun _ zn => X.pcallG (n2) rfl X.cq rfl X.al rfl zn) ?_ | refine EvQ.lift (fun _ zn => X.pcallC (n2) rfl X.cq rfl X.al rfl zn) ?_ | refine EvQ.lift (fun _ zn => X.pcallT (n2) (by decide) X.cq rfl X.al rfl zn) ?_ | refine EvQ.lift (fun _ zn => X.call rfl X.al (n2) zn) ?_ | (refine EvQ.pickB rfl rfl rfl ?_) | (refine EvQ.cond rfl (fun h => ?_) (fun h => ?_) <;> ((first | replace h := X.nm h | skip); try have hne := ne_len h)) | (refine EvQ.g1 rfl (fun h => ?_) (fun h => ?_) <;> ((first | replace h := X.nm h | skip); try have hne := ne_len h)) | (refine EvQ.pick rfl (fun _ => rfl) (fun _ => rfl) (fun h => ?_) (fun h => ?_) <;> ((first | replace h := X.nm h | skip); try have hne := ne_len h)) | refine EvQ.fin X.rs ?_ | refine EvQ.fin1 (fun _ => rfl) rfl ?_)
    all_goals first
      | (have e : fplB (l.getD i f0) = true := by (rw [hf]; clear hd e2 n1 n2 hf hb; generalize l.getD i f0 = f at *; unfold hops; first | (simp [*]; done) | (obtain ⟨x, y⟩ := f; simp only at *; subst_vars; simp [*]; done))
         refine EvQ.go (i + 1) X.kv ⟨X.lo, by omega, ?_⟩ (by omega)
         rw [← hd (by assumption), e]; rfl)
      | (have e : fplB (l.getD i f0) = false := by (rw [hf]; clear hd e2 n1 n2 hf hb; generalize l.getD i f0 = f at *; unfold hops; simp [*]; done)
         refine EvQ.rt (.inr ⟨?_, .mk' X.kv trivial⟩)
         rw [← hd (by assumption), e]; rfl)
      | (refine EvQ.xt (.inl ⟨?_, .mk' X.kv trivial⟩)
         rw [← e2, List.drop_of_length_le (by omega)]; rfl)
      | trace_state
  · rintro _ (⟨rfl, tm, lo, hp, rfl, -⟩ | ⟨rfl, tm, lo, hp, rfl, -⟩)
    · repeat' (first | refine EvQ.run ?_ | (refine EvQ.pickB rfl rfl rfl ?_) | (refine EvQ.cond rfl (fun h => ?_) (fun h => ?_) <;> ((first | replace h := X.nm h | skip); try have hne := ne_len h)) | (refine EvQ.g1 rfl (fun h => ?_) (fun h => ?_) <;> ((first | replace h := X.nm h | skip); try have hne := ne_len h)) | (refine EvQ.pick rfl (fun _ => rfl) (fun _ => rfl) (fun h => ?_) (fun h => ?_) <;> ((first | replace h := X.nm h | skip); try have hne := ne_len h)) | refine EvQ.fin X.rs ?_ | refine EvQ.fin1 (fun _ => rfl) rfl ?_)
      exact PQ.bo rfl
    · repeat' (first | refine EvQ.run ?_ | (refine EvQ.pickB rfl rfl rfl ?_) | (refine EvQ.cond rfl (fun h => ?_) (fun h => ?_) <;> ((first | replace h := X.nm h | skip); try have hne := ne_len h)) | (refine EvQ.g1 rfl (fun h => ?_) (fun h => ?_) <;> ((first | replace h := X.nm h | skip); try have hne := ne_len h)) | (refine EvQ.pick rfl (fun _ => rfl) (fun _ => rfl) (fun h => ?_) (fun h => ?_) <;> ((first | replace h := X.nm h | skip); try have hne := ne_len h)) | refine EvQ.fin X.rs ?_ | refine EvQ.fin1 (fun _ => rfl) rfl ?_)
      exact PQ.bo rfl
end Go.Proofs.Ytcbiplmgaiipgaa
