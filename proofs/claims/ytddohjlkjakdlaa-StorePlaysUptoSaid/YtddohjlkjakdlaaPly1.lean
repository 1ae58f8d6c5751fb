import Derived.Test.YtddohjlkjakdlaaEvE
import Derived.Test.YtddohjlkjakdlaaSto5
import Derived.Test.YtddohjlkjakdlaaVaryW
set_option linter.unusedVariables false
set_option linter.unusedSimpArgs false
set_option linter.unusedSectionVars false
-- StorePlays: the document's plain parts: key, sum, cost, match (EvHp EvOwn)
namespace Go.Proofs.Ytddohjlkjakdlaa
open Go hiding Fn
open Ev tab
attribute [local irreducible] EvP EvD EvL EvC evGds evLs C.run sK bK gK pK fK lpB stepD matchS
theorem rkey_ok (q : Rq) (h1 : q.s.length ≤ 10000000) (h2 : q.a.length ≤ 10000000) (h3 : q.p.length ≤ 10000000) : EvP F 29 c29 [.ag (rowRq q)] [.st (keyS q)] := by
  refine EvP.ofQ d29 rfl rfl rfl ?_
  repeat' (first | refine EvQ.run ?_ | (refine EvQ.pickB rfl rfl rfl ?_) | (refine EvQ.cond rfl (fun h => ?_) (fun h => ?_) <;> ((first | replace h := X.nm h | skip); try have hne := ne_len h)) | (refine EvQ.g1 rfl (fun h => ?_) (fun h => ?_) <;> ((first | replace h := X.nm h | skip); try have hne := ne_len h)) | (refine EvQ.pick rfl (fun _ => rfl) (fun _ => rfl) (fun h => ?_) (fun h => ?_) <;> ((first | replace h := X.nm h | skip); try have hne := ne_len h)) | refine EvQ.fin X.rs ?_ | refine EvQ.fin1 (fun _ => rfl) rfl ?_)
  exact PQ.st rfl
set_option maxHeartbeats 8000000 in
theorem rsum_ok (l : List Fld) (hl : JOK l) : EvP F 40 c40 [.vs 2 (fds l)] [.it .i64 (Int.ofNat (sumS l))] := by
  have hl1 := hl.1
  refine EvP.ofQ d40 rfl rfl rfl ?_
  repeat' (first | refine EvQ.run ?_ | (refine EvQ.pickB rfl rfl rfl ?_) | (refine EvQ.cond rfl (fun h => ?_) (fun h => ?_) <;> ((first | replace h := X.nm h | skip); try have hne := ne_len h)) | (refine EvQ.g1 rfl (fun h => ?_) (fun h => ?_) <;> ((first | replace h := X.nm h | skip); try have hne := ne_len h)) | (refine EvQ.pick rfl (fun _ => rfl) (fun _ => rfl) (fun h => ?_) (fun h => ?_) <;> ((first | replace h := X.nm h | skip); try have hne := ne_len h)) | refine EvQ.fin X.rs ?_ | refine EvQ.fin1 (fun _ => rfl) rfl ?_)
  refine EvQ.loop (QL := XtQ 0 [(3, .it .i64 (Int.ofNat (sumS l)))] (fun _ _ => True)) ?_ ?_
  · refine EvL.invQ (S := Nat × Nat) (fun x => [(0, .vs 2 (fds l)), (3, .it .i64 (Int.ofNat x.2)), (4, .it .i64 (Int.ofNat x.1))]) (fun x lo _ => x.1 ≤ l.length ∧ x.2 = sumS (l.take x.1)) (fun x => l.length - x.1) _ ?_ (0, 0) _ _ _ ⟨Nat.zero_le _, by simp [sumS]⟩ X.kv
    intro ⟨i, n⟩ lo hp ⟨h1, h2⟩
    simp only at h1 h2
    have hb := hl.sum i
    have hb2 : i < l.length → (l.getD i f0).1.length ≤ 3100 ∧ (l.getD i f0).2.length ≤ 3100 := fun h => hl.2 _ (by rw [List.getD, List.getElem?_eq_getElem h]; exact List.getElem_mem _)
    have hs := fun h : i < l.length => sumS_take h
    by_cases hi : i < l.length
    · obtain ⟨b1, b2⟩ := hb2 hi
      have hs := hs hi
      repeat' (first | refine EvQ.run ?_ | (refine EvQ.pickB rfl rfl rfl ?_) | (refine EvQ.cond rfl (fun h => ?_) (fun h => ?_) <;> ((first | replace h := X.nm h | skip); try have hne := ne_len h)) | (refine EvQ.g1 rfl (fun h => ?_) (fun h => ?_) <;> ((first | replace h := X.nm h | skip); try have hne := ne_len h)) | (refine EvQ.pick rfl (fun _ => rfl) (fun _ => rfl) (fun h => ?_) (fun h => ?_) <;> ((first | replace h := X.nm h | skip); try have hne := ne_len h)) | refine EvQ.fin X.rs ?_ | refine EvQ.fin1 (fun _ => rfl) rfl ?_)
      refine EvQ.go (i + 1, _) X.kv ⟨by show i + 1 ≤ _; omega, ?_⟩ (by show l.length - (i + 1) < l.length - i; omega)
      show (n + (l.getD i f0).1.length) + (l.getD i f0).2.length = sumS (l.take (i + 1))
      omega
    · obtain rfl : i = l.length := by omega
      repeat' (first | refine EvQ.run ?_ | (refine EvQ.pickB rfl rfl rfl ?_) | (refine EvQ.cond rfl (fun h => ?_) (fun h => ?_) <;> ((first | replace h := X.nm h | skip); try have hne := ne_len h)) | (refine EvQ.g1 rfl (fun h => ?_) (fun h => ?_) <;> ((first | replace h := X.nm h | skip); try have hne := ne_len h)) | (refine EvQ.pick rfl (fun _ => rfl) (fun _ => rfl) (fun h => ?_) (fun h => ?_) <;> ((first | replace h := X.nm h | skip); try have hne := ne_len h)) | refine EvQ.fin X.rs ?_ | refine EvQ.fin1 (fun _ => rfl) rfl ?_)
      rw [List.take_length] at h2
      subst h2
      exact EvQ.xt (.mk' X.kv trivial)
  · rintro _ ⟨tm, lo, hp, rfl, -⟩
    repeat' (first | refine EvQ.run ?_ | (refine EvQ.pickB rfl rfl rfl ?_) | (refine EvQ.cond rfl (fun h => ?_) (fun h => ?_) <;> ((first | replace h := X.nm h | skip); try have hne := ne_len h)) | (refine EvQ.g1 rfl (fun h => ?_) (fun h => ?_) <;> ((first | replace h := X.nm h | skip); try have hne := ne_len h)) | (refine EvQ.pick rfl (fun _ => rfl) (fun _ => rfl) (fun h => ?_) (fun h => ?_) <;> ((first | replace h := X.nm h | skip); try have hne := ne_len h)) | refine EvQ.fin X.rs ?_ | refine EvQ.fin1 (fun _ => rfl) rfl ?_)
    exact PQ.it rfl
set_option maxHeartbeats 8000000 in
theorem rcost_ok (e : En) (h : EOK e) : EvP F 23 c23 [.ag (rowEn e)] [.it .i64 (Int.ofNat (costS e))] := by
  have k := rkey_ok e.q h.q.k1 h.q.k2 h.q.k3
  have b1 := rsum_ok e.q.fs h.q.f
  have b2 := rsum_ok e.s.fs h.s
  have c := rowRq_clo e.q
  have l1 := h.q.key
  have l2 := h.q.f.sum'
  have l3 := h.s.sum'
  have l4 := h.b
  refine EvP.ofQ d23 rfl rfl rfl ?_
  unfold costS
  generalize keyS e.q = K at *
  generalize sumS e.q.fs = S1 at *
  generalize sumS e.s.fs = S2 at *
  repeat' (first | refine EvQ.run ?_ | refine EvQ.lift (fun _ zn => X.pcall (k) X.cq rfl X.al rfl zn) ?_ | refine EvQ.lift (fun _ zn => X.pcallG (k) rfl X.cq rfl X.al rfl zn) ?_ | refine EvQ.lift (fun _ zn => X.pcallC (k) rfl X.cq rfl X.al rfl zn) ?_ | refine EvQ.lift (fun _ zn => X.pcallT (k) (by decide) X.cq rfl X.al rfl zn) ?_ | refine EvQ.lift (fun _ zn => X.call rfl X.al (k) zn) ?_ | refine EvQ.lift (fun _ zn => X.pcall (b1) X.cq rfl X.al rfl zn) ?_ | refine EvQ.lift (fun _ zn => X.pcallG (b1) rfl X.cq rfl X.al rfl zn) ?_ | refine EvQ.lift (fun _ zn => X.pcallC (b1) rfl X.cq rfl X.al rfl zn) ?_ | refine EvQ.lift (fun _ zn => X.pcallT (b1) (by decide) X.cq rfl X.al rfl zn) ?_ | refine EvQ.lift (fun _ zn => X.call rfl X.al (b1) zn) ?_ | refine EvQ.lift (fun _ zn => X.pcall (b2) X.cq rfl X.al rfl zn) ?_ | refine EvQ.lift (fun _ zn => X.pcallG (b2) rfl X.cq rfl X.al rfl zn) ?_ | refine EvQ.lift (fun _ zn => X.pcallC (b2) rfl X.cq rfl X.al rfl zn) ?_ | refine EvQ.lift (fun _ zn => X.pcallT (b2) (by decide) X.cq rfl X.al rfl zn) ?_ | refine EvQ.lift (fun _ zn => X.call rfl X.al (b2) zn) ?_ | (refine EvQ.pickB rfl rfl rfl ?_) | (refine EvQ.cond rfl (fun h => ?_) (fun h => ?_) <;> ((first | replace h := X.nm h | skip); try have hne := ne_len h)) | (refine EvQ.g1 rfl (fun h => ?_) (fun h => ?_) <;> ((first | replace h := X.nm h | skip); try have hne := ne_len h)) | (refine EvQ.pick rfl (fun _ => rfl) (fun _ => rfl) (fun h => ?_) (fun h => ?_) <;> ((first | replace h := X.nm h | skip); try have hne := ne_len h)) | refine EvQ.fin X.rs ?_ | refine EvQ.fin1 (fun _ => rfl) rfl ?_)
  exact PQ.it rfl
end Go.Proofs.Ytddohjlkjakdlaa
namespace Go.Proofs.Ytddohjlkjakdlaa
open Go hiding Fn
open Ev tab
attribute [local irreducible] EvP EvD EvL EvC evGds evLs C.run sK bK gK pK fK lpB stepD
set_option maxHeartbeats 16000000 in
theorem rmatch_ok (e : En) (q : Rq) (h1 : JOK e.q.fs) (h2 : JOK e.s.fs) (h3 : JOK q.fs) (ht : TOK e.s.fs) : EvP F 41 c41 [.ag (rowEn e), .ag (rowRq q)] [.bo (matchS e q)] := by
  have hs := rstars_ok e.s.fs h2 ht
  have hn := starsS_len h2
  refine EvP.ofQ d41 rfl rfl rfl ?_
  unfold matchS
  cases hst : starsS e.s.fs with
  | none =>
    rw [hst] at hs
    repeat' (first | refine EvQ.run ?_ | refine EvQ.lift (fun _ zn => X.pcall (hs) X.cq rfl X.al rfl zn) ?_ | refine EvQ.lift (fun _ zn => X.pcallG (hs) rfl X.cq rfl X.al rfl zn) ?_ | refine EvQ.lift (fun _ zn => X.pcallC (hs) rfl X.cq rfl X.al rfl zn) ?_ | refine EvQ.lift (fun _ zn => X.pcallT (hs) (by decide) X.cq rfl X.al rfl zn) ?_ | refine EvQ.lift (fun _ zn => X.call rfl X.al (hs) zn) ?_ | (refine EvQ.pickB rfl rfl rfl ?_) | (refine EvQ.cond rfl (fun h => ?_) (fun h => ?_) <;> ((first | replace h := X.nm h | skip); try have hne := ne_len h)) | (refine EvQ.g1 rfl (fun h => ?_) (fun h => ?_) <;> ((first | replace h := X.nm h | skip); try have hne := ne_len h)) | (refine EvQ.pick rfl (fun _ => rfl) (fun _ => rfl) (fun h => ?_) (fun h => ?_) <;> ((first | replace h := X.nm h | skip); try have hne := ne_len h)) | refine EvQ.fin X.rs ?_ | refine EvQ.fin1 (fun _ => rfl) rfl ?_)
    exact PQ.bo rfl
  | some names =>
    rw [hst] at hs hn
    simp only [Option.getD_some] at hn
    repeat' (first | refine EvQ.run ?_ | refine EvQ.lift (fun _ zn => X.pcall (hs) X.cq rfl X.al rfl zn) ?_ | refine EvQ.lift (fun _ zn => X.pcallG (hs) rfl X.cq rfl X.al rfl zn) ?_ | refine EvQ.lift (fun _ zn => X.pcallC (hs) rfl X.cq rfl X.al rfl zn) ?_ | refine EvQ.lift (fun _ zn => X.pcallT (hs) (by decide) X.cq rfl X.al rfl zn) ?_ | refine EvQ.lift (fun _ zn => X.call rfl X.al (hs) zn) ?_ | (refine EvQ.pickB rfl rfl rfl ?_) | (refine EvQ.cond rfl (fun h => ?_) (fun h => ?_) <;> ((first | replace h := X.nm h | skip); try have hne := ne_len h)) | (refine EvQ.g1 rfl (fun h => ?_) (fun h => ?_) <;> ((first | replace h := X.nm h | skip); try have hne := ne_len h)) | (refine EvQ.pick rfl (fun _ => rfl) (fun _ => rfl) (fun h => ?_) (fun h => ?_) <;> ((first | replace h := X.nm h | skip); try have hne := ne_len h)) | refine EvQ.fin X.rs ?_ | refine EvQ.fin1 (fun _ => rfl) rfl ?_)
    refine EvQ.loop (QL := fun r => (names.all (nmB e.q.fs q.fs) = false ∧ RtQ [(4, .bo false)] (fun _ _ => True) r) ∨ (names.all (nmB e.q.fs q.fs) = true ∧ XtQ 0 [] (fun _ _ => True) r)) ?_ ?_
    · refine EvL.invQ (S := Nat) (fun i => [(2, .lp 2 0), (3, .lp 3 0), (5, .vs 1 (txs names)), (7, .it .i64 (Int.ofNat i))]) (fun i lo _ => lo = lset (lset (fun _ => none) 2 (rowEn e)) 3 (rowRq q) ∧ i ≤ names.length ∧ ∀ j, j < i → nmB e.q.fs q.fs (names.getD j []) = true) (fun i => names.length - i) _ ?_ 0 _ _ _ ⟨rfl, Nat.zero_le _, fun j h => absurd h (Nat.not_lt_zero j)⟩ X.kv
      intro i lo hp ⟨e1, e2, e3⟩
      subst e1
      have a1 := rall_ok e.q.fs (names.getD i []) h1
      have a2 := rall_ok q.fs (names.getD i []) h3
      have l1 := allF_len h1 (names.getD i [])
      have l2 := allF_len h3 (names.getD i [])
      have t1 := rtrim_ok (allF e.q.fs (names.getD i [])) (by omega)
      have t2 := rtrim_ok (allF q.fs (names.getD i [])) (by omega)
      have b1 := hasF_ilt e.q.fs (names.getD i [])
      have b2 := hasF_ilt q.fs (names.getD i [])
      repeat' (first | refine EvQ.run ?_ | refine EvQ.lift (fun _ zn => X.pcall (a1) X.cq rfl X.al rfl zn) ?_ | refine EvQ.lift (fun _ zn => X.pcallG (a1) rfl X.cq rfl X.al rfl zn) ?_ | refine EvQ.lift (fun _ zn => X.pcallC (a1) rfl X.cq rfl X.al rfl zn) ?_ | refine EvQ.lift (fun _ zn => X.pcallT (a1) (by decide) X.cq rfl X.al rfl zn) ?_ | refine EvQ.lift (fun _ zn => X.call rfl X.al (a1) zn) ?_ | refine EvQ.lift (fun _ zn => X.pcall (a2) X.cq rfl X.al rfl zn) ?_ | refine EvQ.lift (fun _ zn => X.pcallG (a2) rfl X.cq rfl X.al rfl zn) ?_ | refine EvQ.lift (fun _ zn => X.pcallC (a2) rfl X.cq rfl X.al rfl zn) ?_ | refine EvQ.lift (fun _ zn => X.pcallT (a2) (by decide) X.cq rfl X.al rfl zn) ?_ | refine EvQ.lift (fun _ zn => X.call rfl X.al (a2) zn) ?_ | refine EvQ.lift (fun _ zn => X.pcall (t1) X.cq rfl X.al rfl zn) ?_ | refine EvQ.lift (fun _ zn => X.pcallG (t1) rfl X.cq rfl X.al rfl zn) ?_ | refine EvQ.lift (fun _ zn => X.pcallC (t1) rfl X.cq rfl X.al rfl zn) ?_ | refine EvQ.lift (fun _ zn => X.pcallT (t1) (by decide) X.cq rfl X.al rfl zn) ?_ | refine EvQ.lift (fun _ zn => X.call rfl X.al (t1) zn) ?_ | refine EvQ.lift (fun _ zn => X.pcall (t2) X.cq rfl X.al rfl zn) ?_ | refine EvQ.lift (fun _ zn => X.pcallG (t2) rfl X.cq rfl X.al rfl zn) ?_ | refine EvQ.lift (fun _ zn => X.pcallC (t2) rfl X.cq rfl X.al rfl zn) ?_ | refine EvQ.lift (fun _ zn => X.pcallT (t2) (by decide) X.cq rfl X.al rfl zn) ?_ | refine EvQ.lift (fun _ zn => X.call rfl X.al (t2) zn) ?_ | (refine EvQ.pickB rfl rfl rfl ?_) | (refine EvQ.cond rfl (fun h => ?_) (fun h => ?_) <;> ((first | replace h := X.nm h | skip); try have hne := ne_len h)) | (refine EvQ.g1 rfl (fun h => ?_) (fun h => ?_) <;> ((first | replace h := X.nm h | skip); try have hne := ne_len h)) | (refine EvQ.pick rfl (fun _ => rfl) (fun _ => rfl) (fun h => ?_) (fun h => ?_) <;> ((first | replace h := X.nm h | skip); try have hne := ne_len h)) | refine EvQ.fin X.rs ?_ | refine EvQ.fin1 (fun _ => rfl) rfl ?_)
      · refine EvQ.rt (.inl ⟨all_at [] (by assumption) ?_, .mk' X.kv trivial⟩)
        unfold nmB
        rw [decide_eq_false (by assumption), Bool.and_false]
      · refine EvQ.go (i + 1) X.kv ⟨rfl, by omega, fun j hj => ?_⟩ (by omega)
        rcases Nat.lt_or_ge j i with p | p
        · exact e3 j p
        · rw [show j = i by omega]
          unfold nmB hasF
          rw [decide_eq_true (show trimS (allF e.q.fs (names.getD i [])) = _ by assumption), Bool.and_true]
          assumption
      · refine EvQ.rt (.inl ⟨all_at [] (by assumption) ?_, .mk' X.kv trivial⟩)
        unfold nmB hasF
        rw [show (decide (0 < (valsF e.q.fs (names.getD i [])).length) == decide (0 < (valsF q.fs (names.getD i [])).length)) = false by assumption]; rfl
      · exact EvQ.xt (.inr ⟨all_take [] e3 (by omega), .mk' X.kv trivial⟩)
    · rintro _ (⟨hb, tm, lo, hp, rfl, -⟩ | ⟨hb, tm, lo, hp, rfl, -⟩)
      · repeat' (first | refine EvQ.run ?_ | (refine EvQ.pickB rfl rfl rfl ?_) | (refine EvQ.cond rfl (fun h => ?_) (fun h => ?_) <;> ((first | replace h := X.nm h | skip); try have hne := ne_len h)) | (refine EvQ.g1 rfl (fun h => ?_) (fun h => ?_) <;> ((first | replace h := X.nm h | skip); try have hne := ne_len h)) | (refine EvQ.pick rfl (fun _ => rfl) (fun _ => rfl) (fun h => ?_) (fun h => ?_) <;> ((first | replace h := X.nm h | skip); try have hne := ne_len h)) | refine EvQ.fin X.rs ?_ | refine EvQ.fin1 (fun _ => rfl) rfl ?_)
        exact PQ.bo hb.symm
      · repeat' (first | refine EvQ.run ?_ | (refine EvQ.pickB rfl rfl rfl ?_) | (refine EvQ.cond rfl (fun h => ?_) (fun h => ?_) <;> ((first | replace h := X.nm h | skip); try have hne := ne_len h)) | (refine EvQ.g1 rfl (fun h => ?_) (fun h => ?_) <;> ((first | replace h := X.nm h | skip); try have hne := ne_len h)) | (refine EvQ.pick rfl (fun _ => rfl) (fun _ => rfl) (fun h => ?_) (fun h => ?_) <;> ((first | replace h := X.nm h | skip); try have hne := ne_len h)) | refine EvQ.fin X.rs ?_ | refine EvQ.fin1 (fun _ => rfl) rfl ?_)
        exact PQ.bo hb.symm
end Go.Proofs.Ytddohjlkjakdlaa
