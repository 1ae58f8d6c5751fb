import Derived.Test.YtcbiplmgaiipgaaEvE
import Derived.Test.YtcbiplmgaiipgaaEvE
import Derived.Test.YtcbiplmgaiipgaaEnt
set_option linter.unusedVariables false
set_option linter.unusedSimpArgs false
-- VaryTells
namespace Go.Proofs.Ytcbiplmgaiipgaa
open Go hiding Fn
open Ev tab
attribute [local irreducible] EvD EvL EvC evGds evLs C.run sK bK gK pK fK lpB stepD matchS keyS
set_option maxHeartbeats 8000000 in
theorem vtells_run (e : En) (q : Rq) (h1 : FB e.q.fs 1100000) (h2 : FB e.s.fs 1100000) (h3 : FB q.fs 1100000) (hs : q.s.length ≤ 1100000) (ha : q.a.length ≤ 1100000) (hp : q.p.length ≤ 1100000) : ∃ h, EvD F (stepD d9 [.ag (rowEn e), .ag (rowRq q)] h0) (Rt (.bo true) h) := by
  have s1 := small_ok e (h1.bok (by decide)) (h2.bok (by decide))
  have s2 := lk_ok q.fs (h3.bok (by decide))
  have c1 := rowEn_clo e
  have c2 := rowRq_clo q
  refine EvQ.law ?_
  cases hb : smB e with
  | false =>
    rw [hb] at s1
    repeat' (first | refine EvQ.run ?_ | refine EvQ.lift (fun _ zn => X.pcall (s1) X.cq rfl X.al rfl zn) ?_ | refine EvQ.lift (fun _ zn => X.pcallG (s1) rfl X.cq rfl X.al rfl zn) ?_ | refine EvQ.lift (fun _ zn => X.pcallC (s1) rfl X.cq rfl X.al rfl zn) ?_ | refine EvQ.lift (fun _ zn => X.pcallT (s1) (by decide) X.cq rfl X.al rfl zn) ?_ | refine EvQ.lift (fun _ zn => X.pcall (varyruns_ok) X.cq rfl X.al rfl zn) ?_ | refine EvQ.lift (fun _ zn => X.pcallG (varyruns_ok) rfl X.cq rfl X.al rfl zn) ?_ | refine EvQ.lift (fun _ zn => X.pcallC (varyruns_ok) rfl X.cq rfl X.al rfl zn) ?_ | refine EvQ.lift (fun _ zn => X.pcallT (varyruns_ok) (by decide) X.cq rfl X.al rfl zn) ?_ | (refine EvQ.pickB rfl rfl rfl ?_) | (refine EvQ.cond rfl (fun h => ?_) (fun h => ?_) <;> ((first | replace h := X.nm h | skip); try have hne := ne_len h)) | (refine EvQ.g1 rfl (fun h => ?_) (fun h => ?_) <;> ((first | replace h := X.nm h | skip); try have hne := ne_len h)) | (refine EvQ.pick rfl (fun _ => rfl) (fun _ => rfl) (fun h => ?_) (fun h => ?_) <;> ((first | replace h := X.nm h | skip); try have hne := ne_len h)) | refine EvQ.fin X.rs ?_ | refine EvQ.fin1 (fun _ => rfl) rfl ?_)
    exact ⟨_, rfl⟩
  | true =>
    rw [hb] at s1
    cases hl : lkB q.fs with
    | false =>
      rw [hl] at s2
      repeat' (first | refine EvQ.run ?_ | refine EvQ.lift (fun _ zn => X.pcall (s1) X.cq rfl X.al rfl zn) ?_ | refine EvQ.lift (fun _ zn => X.pcallG (s1) rfl X.cq rfl X.al rfl zn) ?_ | refine EvQ.lift (fun _ zn => X.pcallC (s1) rfl X.cq rfl X.al rfl zn) ?_ | refine EvQ.lift (fun _ zn => X.pcallT (s1) (by decide) X.cq rfl X.al rfl zn) ?_ | refine EvQ.lift (fun _ zn => X.pcall (s2) X.cq rfl X.al rfl zn) ?_ | refine EvQ.lift (fun _ zn => X.pcallG (s2) rfl X.cq rfl X.al rfl zn) ?_ | refine EvQ.lift (fun _ zn => X.pcallC (s2) rfl X.cq rfl X.al rfl zn) ?_ | refine EvQ.lift (fun _ zn => X.pcallT (s2) (by decide) X.cq rfl X.al rfl zn) ?_ | refine EvQ.lift (fun _ zn => X.pcall (varyruns_ok) X.cq rfl X.al rfl zn) ?_ | refine EvQ.lift (fun _ zn => X.pcallG (varyruns_ok) rfl X.cq rfl X.al rfl zn) ?_ | refine EvQ.lift (fun _ zn => X.pcallC (varyruns_ok) rfl X.cq rfl X.al rfl zn) ?_ | refine EvQ.lift (fun _ zn => X.pcallT (varyruns_ok) (by decide) X.cq rfl X.al rfl zn) ?_ | (refine EvQ.pickB rfl rfl rfl ?_) | (refine EvQ.cond rfl (fun h => ?_) (fun h => ?_) <;> ((first | replace h := X.nm h | skip); try have hne := ne_len h)) | (refine EvQ.g1 rfl (fun h => ?_) (fun h => ?_) <;> ((first | replace h := X.nm h | skip); try have hne := ne_len h)) | (refine EvQ.pick rfl (fun _ => rfl) (fun _ => rfl) (fun h => ?_) (fun h => ?_) <;> ((first | replace h := X.nm h | skip); try have hne := ne_len h)) | refine EvQ.fin X.rs ?_ | refine EvQ.fin1 (fun _ => rfl) rfl ?_)
      exact ⟨_, rfl⟩
    | true =>
      rw [hl] at s2
      simp only [smB, Bool.and_eq_true, decide_eq_true_eq] at hb
      have j1 := lkB_jok hb.1
      have j2 := lkB_jok hb.2.1
      have j3 := lkB_jok hl
      have m1 := match_ok e q j1 j2 j3 h2.t
      have m2 := rmatch_ok e q j1 j2 j3 h2.t
      have k1 := key_ok q (by omega) (by omega) (by omega)
      have hk : beqL (keyS q) (((q.s ++ [58, 47, 47]) ++ q.a) ++ q.p) = true := by rw [beqLD]; unfold keyS; exact decide_eq_true rfl
      repeat' (first | refine EvQ.run ?_ | refine EvQ.lift (fun _ zn => X.pcall (s1) X.cq rfl X.al rfl zn) ?_ | refine EvQ.lift (fun _ zn => X.pcallG (s1) rfl X.cq rfl X.al rfl zn) ?_ | refine EvQ.lift (fun _ zn => X.pcallC (s1) rfl X.cq rfl X.al rfl zn) ?_ | refine EvQ.lift (fun _ zn => X.pcallT (s1) (by decide) X.cq rfl X.al rfl zn) ?_ | refine EvQ.lift (fun _ zn => X.pcall (s2) X.cq rfl X.al rfl zn) ?_ | refine EvQ.lift (fun _ zn => X.pcallG (s2) rfl X.cq rfl X.al rfl zn) ?_ | refine EvQ.lift (fun _ zn => X.pcallC (s2) rfl X.cq rfl X.al rfl zn) ?_ | refine EvQ.lift (fun _ zn => X.pcallT (s2) (by decide) X.cq rfl X.al rfl zn) ?_ | (refine EvQ.pickB rfl rfl rfl ?_) | (refine EvQ.cond rfl (fun h => ?_) (fun h => ?_) <;> ((first | replace h := X.nm h | skip); try have hne := ne_len h)) | (refine EvQ.g1 rfl (fun h => ?_) (fun h => ?_) <;> ((first | replace h := X.nm h | skip); try have hne := ne_len h)) | (refine EvQ.pick rfl (fun _ => rfl) (fun _ => rfl) (fun h => ?_) (fun h => ?_) <;> ((first | replace h := X.nm h | skip); try have hne := ne_len h)) | refine EvQ.fin X.rs ?_ | refine EvQ.fin1 (fun _ => rfl) rfl ?_)
      refine EvQ.lift (fun _ zn => X.pcall (k1) X.cq rfl X.al rfl zn) ?_
      refine EvQ.run ?_
      refine EvQ.lift (fun _ zn => X.pcall (m1) X.cq rfl X.al rfl zn) ?_
      refine EvQ.run ?_
      refine EvQ.lift (fun _ zn => X.pcall (m2) X.cq rfl X.al rfl zn) ?_
      refine EvQ.run ?_
      refine EvQ.lift (fun _ zn => X.pcall (varyruns_ok) X.cq rfl X.al rfl zn) ?_
      refine EvQ.run ?_
      refine EvQ.fin X.rs ?_
      exact ⟨_, rfl⟩
theorem vtells_law (xs : List V) (h : ShP [(true, [.st, .st, .st, .st, .sl [.st, .st], .it .i64, .it .i64, .sl [.st, .st], .it .i64, .st, .it .i64, .it .i64]), (true, [.st, .st, .st, .st, .sl [.st, .st], .it .i64])] xs) (hb : sizP xs ≤ 1048576) : ∃ L k hp', runF (callF F L k) L c9 xs h0 = .ret (.bo true) hp' := by
  obtain ⟨v, r, rfl, h1, h, e1⟩ := h.grp'
  obtain ⟨w, r, rfl, h2, h, e2⟩ := h.grp'
  cases h.nil'
  obtain ⟨e, rfl, f1, f2, t⟩ := en_of h1
  obtain ⟨q, rfl, f3, t2, b⟩ := rq_of h2
  have fb : ∀ {l : List Fld} {m : Nat}, FB l m → m ≤ 1100000 → FB l 1100000 := fun {l} {m} z hz => ⟨z.t, by have := z.n; omega, fun f hf => by have := z.s f hf; omega⟩
  exact law_of d9 rfl (vtells_run e q (fb f1 (by omega)) (fb f2 (by omega)) (fb f3 (by omega)) (by omega) (by omega) (by omega))
end Go.Proofs.Ytcbiplmgaiipgaa
