import Derived.Test.YtcbiplmgaiipgaaEvE
import Derived.Test.YtcbiplmgaiipgaaEvE
import Derived.Test.YtcbiplmgaiipgaaVaryW
set_option linter.unusedVariables false
set_option linter.unusedSimpArgs false
-- requests held against each other, as Vary says
namespace Go.Proofs.Ytcbiplmgaiipgaa
open Go hiding Fn
open Ev tab
attribute [local irreducible] EvD EvL EvC evGds evLs C.run sK bK gK pK fK lpB stepD

set_option maxHeartbeats 16000000 in
theorem rmatch_ok (e : En) (q : Rq) (h1 : JOK e.q.fs) (h2 : JOK e.s.fs) (h3 : JOK q.fs) (ht : TOK e.s.fs) : EvP F 41 c41 [.ag (rowEn e), .ag (rowRq q)] [.bo (matchS e q)] := by
  have hs := rstars_ok e.s.fs h2 ht
  have hn := starsS_len h2
  refine EvP.ofQ d41 rfl rfl rfl ?_
  unfold matchS
  cases hst : starsS e.s.fs with
  | none =>
    rw [hst] at hs
    repeat' (first | refine EvQ.run ?_ | refine EvQ.lift (fun _ zn => X.pcall (hs) X.cq rfl X.al rfl zn) ?_ | refine EvQ.lift (fun _ zn => X.pcallG (hs) rfl X.cq rfl X.al rfl zn) ?_ | refine EvQ.lift (fun _ zn => X.pcallC (hs) rfl X.cq rfl X.al rfl zn) ?_ | refine EvQ.lift (fun _ zn => X.pcallT (hs) (by decide) X.cq rfl X.al rfl zn) ?_ | (refine EvQ.pickB rfl rfl rfl ?_) | (refine EvQ.cond rfl (fun h => ?_) (fun h => ?_) <;> ((first | replace h := X.nm h | skip); try have hne := ne_len h)) | (refine EvQ.g1 rfl (fun h => ?_) (fun h => ?_) <;> ((first | replace h := X.nm h | skip); try have hne := ne_len h)) | (refine EvQ.pick rfl (fun _ => rfl) (fun _ => rfl) (fun h => ?_) (fun h => ?_) <;> ((first | replace h := X.nm h | skip); try have hne := ne_len h)) | refine EvQ.fin X.rs ?_ | refine EvQ.fin1 (fun _ => rfl) rfl ?_)
    exact PQ.bo rfl
  | some names =>
    rw [hst] at hs hn
    simp only [Option.getD_some] at hn
    repeat' (first | refine EvQ.run ?_ | refine EvQ.lift (fun _ zn => X.pcall (hs) X.cq rfl X.al rfl zn) ?_ | refine EvQ.lift (fun _ zn => X.pcallG (hs) rfl X.cq rfl X.al rfl zn) ?_ | refine EvQ.lift (fun _ zn => X.pcallC (hs) rfl X.cq rfl X.al rfl zn) ?_ | refine EvQ.lift (fun _ zn => X.pcallT (hs) (by decide) X.cq rfl X.al rfl zn) ?_ | (refine EvQ.pickB rfl rfl rfl ?_) | (refine EvQ.cond rfl (fun h => ?_) (fun h => ?_) <;> ((first | replace h := X.nm h | skip); try have hne := ne_len h)) | (refine EvQ.g1 rfl (fun h => ?_) (fun h => ?_) <;> ((first | replace h := X.nm h | skip); try have hne := ne_len h)) | (refine EvQ.pick rfl (fun _ => rfl) (fun _ => rfl) (fun h => ?_) (fun h => ?_) <;> ((first | replace h := X.nm h | skip); try have hne := ne_len h)) | refine EvQ.fin X.rs ?_ | refine EvQ.fin1 (fun _ => rfl) rfl ?_)
    refine EvQ.loop (QL := fun r => (names.all (nmB e.q.fs q.fs) = false ∧ RtQ [(4, .bo false)] (fun _ _ => True) r) ∨ (names.all (nmB e.q.fs q.fs) = true ∧ XtQ 0 [] (fun _ _ => True) r)) ?_ ?_
    · refine EvL.invQ (S := Nat) (fun i => [(2, .lp 2 0), (3, .lp 3 0), (5, .vs 1 (txs names)), (7, .it .i64 (Int.ofNat i))]) (fun i lo _ => lo = lset (lset (fun _ => none) 2 (rowEn e)) 3 (rowRq q) ∧ i ≤ names.length ∧ ∀ j, j < i → nmB e.q.fs q.fs (names.getD j []) = true) (fun i => names.length - i) _ ?_ 0 _ _ _ ⟨rfl, Nat.zero_le _, fun j h => absurd h (Nat.not_lt_zero j)⟩ X.kv
      intro i lo hp ⟨e1, e2, e3⟩
      subst e1
      have a1 := rall_ok e.q.fs (names.getD i []) h1
      have a2 := rall_ok q.fs (names.getD i []) h3
      have l1 := allF_len h1 (names.getD i [])
      have l2 := allF_len h3 (names.getD i [])
      have t1 := rtrim_ok (allF e.q.fs (names.getD i [])) (by omega)
      have t2 := rtrim_ok (allF q.fs (names.getD i [])) (by omega)
      have b1 := hasF_ilt e.q.fs (names.getD i [])
      have b2 := hasF_ilt q.fs (names.getD i [])
      repeat' (first | refine EvQ.run ?_ | refine EvQ.lift (fun _ zn => X.pcall (a1) X.cq rfl X.al rfl zn) ?_ | refine EvQ.lift (fun _ zn => X.pcallG (a1) rfl X.cq rfl X.al rfl zn) ?_ | refine EvQ.lift (fun _ zn => X.pcallC (a1) rfl X.cq rfl X.al rfl zn) ?_ | refine EvQ.lift (fun _ zn => X.pcallT (a1) (by decide) X.cq rfl X.al rfl zn) ?_ | refine EvQ.lift (fun _ zn => X.pcall (a2) X.cq rfl X.al rfl zn) ?_ | refine EvQ.lift (fun _ zn => X.pcallG (a2) rfl X.cq rfl X.al rfl zn) ?_ | refine EvQ.lift (fun _ zn => X.pcallC (a2) rfl X.cq rfl X.al rfl zn) ?_ | refine EvQ.lift (fun _ zn => X.pcallT (a2) (by decide) X.cq rfl X.al rfl zn) ?_ | refine EvQ.lift (fun _ zn => X.pcall (t1) X.cq rfl X.al rfl zn) ?_ | refine EvQ.lift (fun _ zn => X.pcallG (t1) rfl X.cq rfl X.al rfl zn) ?_ | refine EvQ.lift (fun _ zn => X.pcallC (t1) rfl X.cq rfl X.al rfl zn) ?_ | refine EvQ.lift (fun _ zn => X.pcallT (t1) (by decide) X.cq rfl X.al rfl zn) ?_ | refine EvQ.lift (fun _ zn => X.pcall (t2) X.cq rfl X.al rfl zn) ?_ | refine EvQ.lift (fun _ zn => X.pcallG (t2) rfl X.cq rfl X.al rfl zn) ?_ | refine EvQ.lift (fun _ zn => X.pcallC (t2) rfl X.cq rfl X.al rfl zn) ?_ | refine EvQ.lift (fun _ zn => X.pcallT (t2) (by decide) X.cq rfl X.al rfl zn) ?_ | (refine EvQ.pickB rfl rfl rfl ?_) | (refine EvQ.cond rfl (fun h => ?_) (fun h => ?_) <;> ((first | replace h := X.nm h | skip); try have hne := ne_len h)) | (refine EvQ.g1 rfl (fun h => ?_) (fun h => ?_) <;> ((first | replace h := X.nm h | skip); try have hne := ne_len h)) | (refine EvQ.pick rfl (fun _ => rfl) (fun _ => rfl) (fun h => ?_) (fun h => ?_) <;> ((first | replace h := X.nm h | skip); try have hne := ne_len h)) | refine EvQ.fin X.rs ?_ | refine EvQ.fin1 (fun _ => rfl) rfl ?_)
      · refine EvQ.rt (.inl ⟨all_at [] (by assumption) ?_, .mk' X.kv trivial⟩)
        unfold nmB
        rw [decide_eq_false (by assumption), Bool.and_false]
      · refine EvQ.go (i + 1) X.kv ⟨rfl, by omega, fun j hj => ?_⟩ (by omega)
        rcases Nat.lt_or_ge j i with p | p
        · exact e3 j p
        · rw [show j = i by omega]
          unfold nmB hasF
          rw [decide_eq_true (show trimS (allF e.q.fs (names.getD i [])) = _ by assumption), Bool.and_true]
          assumption
      · refine EvQ.rt (.inl ⟨all_at [] (by assumption) ?_, .mk' X.kv trivial⟩)
        unfold nmB hasF
        rw [show (decide (0 < (valsF e.q.fs (names.getD i [])).length) == decide (0 < (valsF q.fs (names.getD i [])).length)) = false by assumption]; rfl
      · exact EvQ.xt (.inr ⟨all_take [] e3 (by omega), .mk' X.kv trivial⟩)
    · rintro _ (⟨hb, tm, lo, hp, rfl, -⟩ | ⟨hb, tm, lo, hp, rfl, -⟩)
      · repeat' (first | refine EvQ.run ?_ | (refine EvQ.pickB rfl rfl rfl ?_) | (refine EvQ.cond rfl (fun h => ?_) (fun h => ?_) <;> ((first | replace h := X.nm h | skip); try have hne := ne_len h)) | (refine EvQ.g1 rfl (fun h => ?_) (fun h => ?_) <;> ((first | replace h := X.nm h | skip); try have hne := ne_len h)) | (refine EvQ.pick rfl (fun _ => rfl) (fun _ => rfl) (fun h => ?_) (fun h => ?_) <;> ((first | replace h := X.nm h | skip); try have hne := ne_len h)) | refine EvQ.fin X.rs ?_ | refine EvQ.fin1 (fun _ => rfl) rfl ?_)
        exact PQ.bo hb.symm
      · repeat' (first | refine EvQ.run ?_ | (refine EvQ.pickB rfl rfl rfl ?_) | (refine EvQ.cond rfl (fun h => ?_) (fun h => ?_) <;> ((first | replace h := X.nm h | skip); try have hne := ne_len h)) | (refine EvQ.g1 rfl (fun h => ?_) (fun h => ?_) <;> ((first | replace h := X.nm h | skip); try have hne := ne_len h)) | (refine EvQ.pick rfl (fun _ => rfl) (fun _ => rfl) (fun h => ?_) (fun h => ?_) <;> ((first | replace h := X.nm h | skip); try have hne := ne_len h)) | refine EvQ.fin X.rs ?_ | refine EvQ.fin1 (fun _ => rfl) rfl ?_)
        exact PQ.bo hb.symm
def keyS (q : Rq) : List Nat := ((q.s ++ [58, 47, 47]) ++ q.a) ++ q.p
theorem key_ok (q : Rq) (h1 : q.s.length ≤ 10000000) (h2 : q.a.length ≤ 10000000) (h3 : q.p.length ≤ 10000000) : EvP F 36 c36 [.ag (rowRq q)] [.st (keyS q)] := by
  refine EvP.ofQ d36 rfl rfl rfl ?_
  repeat' (first | refine EvQ.run ?_ | (refine EvQ.pickB rfl rfl rfl ?_) | (refine EvQ.cond rfl (fun h => ?_) (fun h => ?_) <;> ((first | replace h := X.nm h | skip); try have hne := ne_len h)) | (refine EvQ.g1 rfl (fun h => ?_) (fun h => ?_) <;> ((first | replace h := X.nm h | skip); try have hne := ne_len h)) | (refine EvQ.pick rfl (fun _ => rfl) (fun _ => rfl) (fun h => ?_) (fun h => ?_) <;> ((first | replace h := X.nm h | skip); try have hne := ne_len h)) | refine EvQ.fin X.rs ?_ | refine EvQ.fin1 (fun _ => rfl) rfl ?_)
  exact PQ.st rfl
end Go.Proofs.Ytcbiplmgaiipgaa
