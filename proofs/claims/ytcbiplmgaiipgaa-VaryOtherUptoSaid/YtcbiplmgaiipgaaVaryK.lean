import Derived.Test.YtcbiplmgaiipgaaEvE
import Derived.Test.YtcbiplmgaiipgaaEvE
import Derived.Test.YtcbiplmgaiipgaaVaryI
set_option linter.unusedVariables false
set_option linter.unusedSimpArgs false
-- VaryOther: the law
namespace Go.Proofs.Ytcbiplmgaiipgaa
open Go hiding Fn
open Ev tab
attribute [local irreducible] EvD EvL EvC evGds evLs C.run sK bK gK pK fK lpB stepD matchS keyS starsS
set_option maxHeartbeats 8000000 in
theorem other_run (e : En) (q : Rq) (name value : List Nat) (n : Int) (h1 : FB e.q.fs 1100000) (h2 : FB e.s.fs 1100000) (h3 : FB q.fs 1100000) (hnl : name.length ≤ 1100000) (hvl : value.length ≤ 1100000) (tn : Txt name) (tv : Txt value) :
    ∃ h, EvD F (stepD d11 [.ag (rowEn e), .ag (rowRq q), .st name, .st value, .it .i64 n] h0) (Rt (.bo true) h) := by
  have s1 := small_ok e (h1.bok (by decide)) (h2.bok (by decide))
  have s2 := lk_ok q.fs (h3.bok (by decide))
  have c1 := rowEn_clo e
  have c2 := rowRq_clo q
  cases hb : smB e with
  | false =>
    rw [hb] at s1
    refine EvQ.law ?_
    repeat' (first | refine EvQ.run ?_ | refine EvQ.lift (fun _ zn => X.pcall (s1) X.cq rfl X.al rfl zn) ?_ | refine EvQ.lift (fun _ zn => X.pcallG (s1) rfl X.cq rfl X.al rfl zn) ?_ | refine EvQ.lift (fun _ zn => X.pcallC (s1) rfl X.cq rfl X.al rfl zn) ?_ | refine EvQ.lift (fun _ zn => X.pcallT (s1) (by decide) X.cq rfl X.al rfl zn) ?_ | refine EvQ.lift (fun _ zn => X.pcall (varyruns_ok) X.cq rfl X.al rfl zn) ?_ | refine EvQ.lift (fun _ zn => X.pcallG (varyruns_ok) rfl X.cq rfl X.al rfl zn) ?_ | refine EvQ.lift (fun _ zn => X.pcallC (varyruns_ok) rfl X.cq rfl X.al rfl zn) ?_ | refine EvQ.lift (fun _ zn => X.pcallT (varyruns_ok) (by decide) X.cq rfl X.al rfl zn) ?_ | (refine EvQ.pickB rfl rfl rfl ?_) | (refine EvQ.cond rfl (fun h => ?_) (fun h => ?_) <;> ((first | replace h := X.nm h | skip); try have hne := ne_len h)) | (refine EvQ.g1 rfl (fun h => ?_) (fun h => ?_) <;> ((first | replace h := X.nm h | skip); try have hne := ne_len h)) | (refine EvQ.pick rfl (fun _ => rfl) (fun _ => rfl) (fun h => ?_) (fun h => ?_) <;> ((first | replace h := X.nm h | skip); try have hne := ne_len h)) | refine EvQ.fin X.rs ?_ | refine EvQ.fin1 (fun _ => rfl) rfl ?_)
    exact ⟨_, rfl⟩
  | true =>
    cases hl : lkB q.fs with
    | false =>
      rw [hb] at s1
      rw [hl] at s2
      refine EvQ.law ?_
      repeat' (first | refine EvQ.run ?_ | refine EvQ.lift (fun _ zn => X.pcall (s1) X.cq rfl X.al rfl zn) ?_ | refine EvQ.lift (fun _ zn => X.pcallG (s1) rfl X.cq rfl X.al rfl zn) ?_ | refine EvQ.lift (fun _ zn => X.pcallC (s1) rfl X.cq rfl X.al rfl zn) ?_ | refine EvQ.lift (fun _ zn => X.pcallT (s1) (by decide) X.cq rfl X.al rfl zn) ?_ | refine EvQ.lift (fun _ zn => X.pcall (s2) X.cq rfl X.al rfl zn) ?_ | refine EvQ.lift (fun _ zn => X.pcallG (s2) rfl X.cq rfl X.al rfl zn) ?_ | refine EvQ.lift (fun _ zn => X.pcallC (s2) rfl X.cq rfl X.al rfl zn) ?_ | refine EvQ.lift (fun _ zn => X.pcallT (s2) (by decide) X.cq rfl X.al rfl zn) ?_ | refine EvQ.lift (fun _ zn => X.pcall (varyruns_ok) X.cq rfl X.al rfl zn) ?_ | refine EvQ.lift (fun _ zn => X.pcallG (varyruns_ok) rfl X.cq rfl X.al rfl zn) ?_ | refine EvQ.lift (fun _ zn => X.pcallC (varyruns_ok) rfl X.cq rfl X.al rfl zn) ?_ | refine EvQ.lift (fun _ zn => X.pcallT (varyruns_ok) (by decide) X.cq rfl X.al rfl zn) ?_ | (refine EvQ.pickB rfl rfl rfl ?_) | (refine EvQ.cond rfl (fun h => ?_) (fun h => ?_) <;> ((first | replace h := X.nm h | skip); try have hne := ne_len h)) | (refine EvQ.g1 rfl (fun h => ?_) (fun h => ?_) <;> ((first | replace h := X.nm h | skip); try have hne := ne_len h)) | (refine EvQ.pick rfl (fun _ => rfl) (fun _ => rfl) (fun h => ?_) (fun h => ?_) <;> ((first | replace h := X.nm h | skip); try have hne := ne_len h)) | refine EvQ.fin X.rs ?_ | refine EvQ.fin1 (fun _ => rfl) rfl ?_)
      exact ⟨_, rfl⟩
    | true =>
      by_cases hn : name.length ≤ 60
      · by_cases hv : value.length ≤ 60
        · exact other_go e q name value n h1 h2 h3 hb hl hn hv tn tv
        · rw [hb] at s1
          rw [hl] at s2
          refine EvQ.law ?_
          repeat' (first | refine EvQ.run ?_ | refine EvQ.lift (fun _ zn => X.pcall (s1) X.cq rfl X.al rfl zn) ?_ | refine EvQ.lift (fun _ zn => X.pcallG (s1) rfl X.cq rfl X.al rfl zn) ?_ | refine EvQ.lift (fun _ zn => X.pcallC (s1) rfl X.cq rfl X.al rfl zn) ?_ | refine EvQ.lift (fun _ zn => X.pcallT (s1) (by decide) X.cq rfl X.al rfl zn) ?_ | refine EvQ.lift (fun _ zn => X.pcall (s2) X.cq rfl X.al rfl zn) ?_ | refine EvQ.lift (fun _ zn => X.pcallG (s2) rfl X.cq rfl X.al rfl zn) ?_ | refine EvQ.lift (fun _ zn => X.pcallC (s2) rfl X.cq rfl X.al rfl zn) ?_ | refine EvQ.lift (fun _ zn => X.pcallT (s2) (by decide) X.cq rfl X.al rfl zn) ?_ | refine EvQ.lift (fun _ zn => X.pcall (varyruns_ok) X.cq rfl X.al rfl zn) ?_ | refine EvQ.lift (fun _ zn => X.pcallG (varyruns_ok) rfl X.cq rfl X.al rfl zn) ?_ | refine EvQ.lift (fun _ zn => X.pcallC (varyruns_ok) rfl X.cq rfl X.al rfl zn) ?_ | refine EvQ.lift (fun _ zn => X.pcallT (varyruns_ok) (by decide) X.cq rfl X.al rfl zn) ?_ | (refine EvQ.pickB rfl rfl rfl ?_) | (refine EvQ.cond rfl (fun h => ?_) (fun h => ?_) <;> ((first | replace h := X.nm h | skip); try have hne := ne_len h)) | (refine EvQ.g1 rfl (fun h => ?_) (fun h => ?_) <;> ((first | replace h := X.nm h | skip); try have hne := ne_len h)) | (refine EvQ.pick rfl (fun _ => rfl) (fun _ => rfl) (fun h => ?_) (fun h => ?_) <;> ((first | replace h := X.nm h | skip); try have hne := ne_len h)) | refine EvQ.fin X.rs ?_ | refine EvQ.fin1 (fun _ => rfl) rfl ?_)
          exact ⟨_, rfl⟩
      · rw [hb] at s1
        rw [hl] at s2
        refine EvQ.law ?_
        repeat' (first | refine EvQ.run ?_ | refine EvQ.lift (fun _ zn => X.pcall (s1) X.cq rfl X.al rfl zn) ?_ | refine EvQ.lift (fun _ zn => X.pcallG (s1) rfl X.cq rfl X.al rfl zn) ?_ | refine EvQ.lift (fun _ zn => X.pcallC (s1) rfl X.cq rfl X.al rfl zn) ?_ | refine EvQ.lift (fun _ zn => X.pcallT (s1) (by decide) X.cq rfl X.al rfl zn) ?_ | refine EvQ.lift (fun _ zn => X.pcall (s2) X.cq rfl X.al rfl zn) ?_ | refine EvQ.lift (fun _ zn => X.pcallG (s2) rfl X.cq rfl X.al rfl zn) ?_ | refine EvQ.lift (fun _ zn => X.pcallC (s2) rfl X.cq rfl X.al rfl zn) ?_ | refine EvQ.lift (fun _ zn => X.pcallT (s2) (by decide) X.cq rfl X.al rfl zn) ?_ | refine EvQ.lift (fun _ zn => X.pcall (varyruns_ok) X.cq rfl X.al rfl zn) ?_ | refine EvQ.lift (fun _ zn => X.pcallG (varyruns_ok) rfl X.cq rfl X.al rfl zn) ?_ | refine EvQ.lift (fun _ zn => X.pcallC (varyruns_ok) rfl X.cq rfl X.al rfl zn) ?_ | refine EvQ.lift (fun _ zn => X.pcallT (varyruns_ok) (by decide) X.cq rfl X.al rfl zn) ?_ | (refine EvQ.pickB rfl rfl rfl ?_) | (refine EvQ.cond rfl (fun h => ?_) (fun h => ?_) <;> ((first | replace h := X.nm h | skip); try have hne := ne_len h)) | (refine EvQ.g1 rfl (fun h => ?_) (fun h => ?_) <;> ((first | replace h := X.nm h | skip); try have hne := ne_len h)) | (refine EvQ.pick rfl (fun _ => rfl) (fun _ => rfl) (fun h => ?_) (fun h => ?_) <;> ((first | replace h := X.nm h | skip); try have hne := ne_len h)) | refine EvQ.fin X.rs ?_ | refine EvQ.fin1 (fun _ => rfl) rfl ?_)
        exact ⟨_, rfl⟩
theorem other_law (xs : List V) (h : ShP [(true, [.st, .st, .st, .st, .sl [.st, .st], .it .i64, .it .i64, .sl [.st, .st], .it .i64, .st, .it .i64, .it .i64]), (true, [.st, .st, .st, .st, .sl [.st, .st], .it .i64]), (false, [.st]), (false, [.st]), (false, [.it .i64])] xs) (hb : sizP xs ≤ 1048576) : ∃ L k hp', runF (callF F L k) L c11 xs h0 = .ret (.bo true) hp' := by
  obtain ⟨v, r, rfl, h1, h, e1⟩ := h.grp'
  obtain ⟨w, r, rfl, h2, h, e2⟩ := h.grp'
  obtain ⟨x, r, rfl, h3, h, e3⟩ := h.one'
  obtain ⟨y, r, rfl, h4, h, e4⟩ := h.one'
  obtain ⟨z, r, rfl, h5, h, e5⟩ := h.one'
  cases h.nil'
  obtain ⟨e, rfl, f1, f2, t⟩ := en_of h1
  obtain ⟨q, rfl, f3, t2, b⟩ := rq_of h2
  obtain ⟨name, rfl, tn, ln⟩ := text_of h3
  obtain ⟨value, rfl, tv, lv⟩ := text_of h4
  obtain ⟨n, rfl, _⟩ := int_of h5
  have fb : ∀ {l : List Fld} {m : Nat}, FB l m → m ≤ 1100000 → FB l 1100000 := fun {l} {m} z hz => ⟨z.t, by have := z.n; omega, fun f hf => by have := z.s f hf; omega⟩
  exact law_of d11 rfl (other_run e q name value n (fb f1 (by omega)) (fb f2 (by omega)) (fb f3 (by omega)) (by omega) (by omega) tn tv)
end Go.Proofs.Ytcbiplmgaiipgaa
