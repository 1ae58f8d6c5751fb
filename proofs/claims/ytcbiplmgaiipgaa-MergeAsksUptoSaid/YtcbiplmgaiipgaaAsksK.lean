import Derived.Test.YtcbiplmgaiipgaaEvE
import Derived.Test.YtcbiplmgaiipgaaEvE
import Derived.Test.YtcbiplmgaiipgaaAsksW
set_option linter.unusedVariables false
set_option linter.unusedSimpArgs false
-- MergeAsks: the law
namespace Go.Proofs.Ytcbiplmgaiipgaa
open Go hiding Fn
open Ev tab
attribute [local irreducible] EvD EvL EvC evGds evLs C.run sK bK gK pK fK lpB stepD sameS askL asksF
set_option maxHeartbeats 8000000 in
theorem asks_run (tag : List Nat) (w : Bool) (q : Rq) (n : Int) (hq : FB q.fs 1100000) (htl : tag.length ≤ 1100000) : ∃ h, EvD F (stepD d16 [.st tag, .bo w, .ag (rowRq q), .it .i64 n] h0) (Rt (.bo true) h) := by
  have s2 := lk_ok q.fs (hq.bok (by decide))
  cases hl : lkB q.fs with
  | false =>
    rw [hl] at s2
    refine EvQ.law ?_
    repeat' (first | refine EvQ.run ?_ | refine EvQ.lift (fun _ zn => X.pcall (s2) X.cq rfl X.al rfl zn) ?_ | refine EvQ.lift (fun _ zn => X.pcallG (s2) rfl X.cq rfl X.al rfl zn) ?_ | refine EvQ.lift (fun _ zn => X.pcallC (s2) rfl X.cq rfl X.al rfl zn) ?_ | refine EvQ.lift (fun _ zn => X.pcallT (s2) (by decide) X.cq rfl X.al rfl zn) ?_ | refine EvQ.lift (fun _ zn => X.call rfl X.al (s2) zn) ?_ | refine EvQ.lift (fun _ zn => X.pcall (mergeruns_ok) X.cq rfl X.al rfl zn) ?_ | refine EvQ.lift (fun _ zn => X.pcallG (mergeruns_ok) rfl X.cq rfl X.al rfl zn) ?_ | refine EvQ.lift (fun _ zn => X.pcallC (mergeruns_ok) rfl X.cq rfl X.al rfl zn) ?_ | refine EvQ.lift (fun _ zn => X.pcallT (mergeruns_ok) (by decide) X.cq rfl X.al rfl zn) ?_ | refine EvQ.lift (fun _ zn => X.call rfl X.al (mergeruns_ok) zn) ?_ | (refine EvQ.pickB rfl rfl rfl ?_) | (refine EvQ.cond rfl (fun h => ?_) (fun h => ?_) <;> ((first | replace h := X.nm h | skip); try have hne := ne_len h)) | (refine EvQ.g1 rfl (fun h => ?_) (fun h => ?_) <;> ((first | replace h := X.nm h | skip); try have hne := ne_len h)) | (refine EvQ.pick rfl (fun _ => rfl) (fun _ => rfl) (fun h => ?_) (fun h => ?_) <;> ((first | replace h := X.nm h | skip); try have hne := ne_len h)) | refine EvQ.fin X.rs ?_ | refine EvQ.fin1 (fun _ => rfl) rfl ?_)
    exact ⟨_, rfl⟩
  | true =>
    by_cases ht : tag.length ≤ 60
    · exact asks_go tag w q n hq hl ht
    · rw [hl] at s2
      refine EvQ.law ?_
      repeat' (first | refine EvQ.run ?_ | refine EvQ.lift (fun _ zn => X.pcall (s2) X.cq rfl X.al rfl zn) ?_ | refine EvQ.lift (fun _ zn => X.pcallG (s2) rfl X.cq rfl X.al rfl zn) ?_ | refine EvQ.lift (fun _ zn => X.pcallC (s2) rfl X.cq rfl X.al rfl zn) ?_ | refine EvQ.lift (fun _ zn => X.pcallT (s2) (by decide) X.cq rfl X.al rfl zn) ?_ | refine EvQ.lift (fun _ zn => X.call rfl X.al (s2) zn) ?_ | refine EvQ.lift (fun _ zn => X.pcall (mergeruns_ok) X.cq rfl X.al rfl zn) ?_ | refine EvQ.lift (fun _ zn => X.pcallG (mergeruns_ok) rfl X.cq rfl X.al rfl zn) ?_ | refine EvQ.lift (fun _ zn => X.pcallC (mergeruns_ok) rfl X.cq rfl X.al rfl zn) ?_ | refine EvQ.lift (fun _ zn => X.pcallT (mergeruns_ok) (by decide) X.cq rfl X.al rfl zn) ?_ | refine EvQ.lift (fun _ zn => X.call rfl X.al (mergeruns_ok) zn) ?_ | (refine EvQ.pickB rfl rfl rfl ?_) | (refine EvQ.cond rfl (fun h => ?_) (fun h => ?_) <;> ((first | replace h := X.nm h | skip); try have hne := ne_len h)) | (refine EvQ.g1 rfl (fun h => ?_) (fun h => ?_) <;> ((first | replace h := X.nm h | skip); try have hne := ne_len h)) | (refine EvQ.pick rfl (fun _ => rfl) (fun _ => rfl) (fun h => ?_) (fun h => ?_) <;> ((first | replace h := X.nm h | skip); try have hne := ne_len h)) | refine EvQ.fin X.rs ?_ | refine EvQ.fin1 (fun _ => rfl) rfl ?_)
      exact ⟨_, rfl⟩
theorem asks_law (xs : List V) (h : ShP [(false, [.st]), (false, [.bo]), (true, [.st, .st, .st, .st, .sl [.st, .st], .it .i64]), (false, [.it .i64])] xs) (hb : sizP xs ≤ 1048576) : ∃ L k hp', runF (callF F L k) L c16 xs h0 = .ret (.bo true) hp' := by
  obtain ⟨x, r, rfl, h3, h, e3⟩ := h.one'
  obtain ⟨y, r, rfl, h4, h, e4⟩ := h.one'
  obtain ⟨w, r, rfl, h2, h, e2⟩ := h.grp'
  obtain ⟨z, r, rfl, h5, h, e5⟩ := h.one'
  cases h.nil'
  obtain ⟨tag, rfl, tn, ln⟩ := text_of h3
  obtain ⟨b, rfl⟩ := bool_of h4
  obtain ⟨q, rfl, f3, t2, bb⟩ := rq_of h2
  obtain ⟨n, rfl, _⟩ := int_of h5
  exact law_of d16 rfl (asks_run tag b q n ⟨f3.t, by have := f3.n; omega, fun f hf => by have := f3.s f hf; omega⟩ (by omega))
end Go.Proofs.Ytcbiplmgaiipgaa
