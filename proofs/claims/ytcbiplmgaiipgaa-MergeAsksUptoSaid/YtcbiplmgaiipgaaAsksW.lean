import Derived.Test.YtcbiplmgaiipgaaEvE
import Derived.Test.YtcbiplmgaiipgaaEvE
import Derived.Test.YtcbiplmgaiipgaaAsksM
import Derived.Test.YtcbiplmgaiipgaaMrgB
set_option linter.unusedVariables false
set_option linter.unusedSimpArgs false
-- MergeAsks: the walk
namespace Go.Proofs.Ytcbiplmgaiipgaa
open Go hiding Fn
open Ev tab
attribute [local irreducible] EvD EvL EvC evGds evLs C.run sK bK gK pK fK lpB stepD sameS askL asksF
set_option maxHeartbeats 8000000 in
theorem asks_go (tag : List Nat) (w : Bool) (q : Rq) (n : Int) (hq : FB q.fs 1100000) (hl : lkB q.fs = true) (htl : tag.length ≤ 60) : ∃ h, EvD F (stepD d16 [.st tag, .bo w, .ag (rowRq q), .it .i64 n] h0) (Rt (.bo true) h) := by
  have s2 := lk_ok q.fs (hq.bok (by decide))
  rw [hl] at s2
  refine EvQ.law ?_
  repeat' (first | refine EvQ.run ?_ | refine EvQ.lift (fun _ zn => X.pcall (s2) X.cq rfl X.al rfl zn) ?_ | refine EvQ.lift (fun _ zn => X.pcallG (s2) rfl X.cq rfl X.al rfl zn) ?_ | refine EvQ.lift (fun _ zn => X.pcallC (s2) rfl X.cq rfl X.al rfl zn) ?_ | refine EvQ.lift (fun _ zn => X.pcallT (s2) (by decide) X.cq rfl X.al rfl zn) ?_ | refine EvQ.lift (fun _ zn => X.call rfl X.al (s2) zn) ?_ | (refine EvQ.pickB rfl rfl rfl ?_) | (refine EvQ.cond rfl (fun h => ?_) (fun h => ?_) <;> ((first | replace h := X.nm h | skip); try have hne := ne_len h)) | (refine EvQ.g1 rfl (fun h => ?_) (fun h => ?_) <;> ((first | replace h := X.nm h | skip); try have hne := ne_len h)) | (refine EvQ.pick rfl (fun _ => rfl) (fun _ => rfl) (fun h => ?_) (fun h => ?_) <;> ((first | replace h := X.nm h | skip); try have hne := ne_len h)) | refine EvQ.fin X.rs ?_ | refine EvQ.fin1 (fun _ => rfl) rfl ?_)
  refine EvQ.loop (QL := fun r => RtQ [(8, .bo true)] (fun _ _ => True) r ∨ (tagOK tag ∧ XtQ 0 [(0, .st tag), (1, .bo w), (6, .lp 6 0)] (fun lo hp => lo = lset (fun _ => none) 6 (rowRq q) ∧ hp = h0) r)) ?_ ?_
  · refine EvL.invQ (S := Nat) (fun i => [(0, .st tag), (1, .bo w), (6, .lp 6 0), (9, .it .i64 (Int.ofNat i))]) (fun i lo hp => shed [11, 12] lo = lset (fun _ => none) 6 (rowRq q) ∧ hp = h0 ∧ i ≤ tag.length ∧ ∀ j, j < i → tagC (tag.getD j 0) = true) (fun i => tag.length - i) _ ?_ 0 _ _ _ ⟨?_, rfl, Nat.zero_le _, fun j h => absurd h (Nat.not_lt_zero j)⟩ X.kv
    · intro i lo hp ⟨e1, e2, e3, e4⟩
      subst e2
      rw [e1]
      have hsh : shed [11, 12] (lset (fun _ => none) 6 (rowRq q)) = lset (fun _ => none) 6 (rowRq q) := shed_eq fun t => ⟨fun h => by rcases hasN2 h with rfl | rfl <;> rfl, fun _ => rfl⟩
      repeat' (first | refine EvQ.run ?_ | refine EvQ.lift (fun _ zn => X.pcall (mergeruns_ok) X.cq rfl X.al rfl zn) ?_ | refine EvQ.lift (fun _ zn => X.pcallG (mergeruns_ok) rfl X.cq rfl X.al rfl zn) ?_ | refine EvQ.lift (fun _ zn => X.pcallC (mergeruns_ok) rfl X.cq rfl X.al rfl zn) ?_ | refine EvQ.lift (fun _ zn => X.pcallT (mergeruns_ok) (by decide) X.cq rfl X.al rfl zn) ?_ | refine EvQ.lift (fun _ zn => X.call rfl X.al (mergeruns_ok) zn) ?_ | (refine EvQ.pickB rfl rfl rfl ?_) | (refine EvQ.cond rfl (fun h => ?_) (fun h => ?_) <;> ((first | replace h := X.nm h | skip); try have hne := ne_len h)) | (refine EvQ.g1 rfl (fun h => ?_) (fun h => ?_) <;> ((first | replace h := X.nm h | skip); try have hne := ne_len h)) | (refine EvQ.pick rfl (fun _ => rfl) (fun _ => rfl) (fun h => ?_) (fun h => ?_) <;> ((first | replace h := X.nm h | skip); try have hne := ne_len h)) | refine EvQ.fin X.rs ?_ | refine EvQ.fin1 (fun _ => rfl) rfl ?_)
      all_goals first
        | exact EvQ.rt (.inl (RtQ.mk' X.kv trivial))
        | (refine EvQ.go (i + 1) X.kv ⟨hsh, rfl, by omega, fun j hj => ?_⟩ (by omega)
           rcases Nat.lt_or_ge j i with p | p
           · exact e4 j p
           · rw [show j = i by omega]; exact tagC_of (by assumption) (by assumption) (by assumption) (by assumption))
        | (have hk : i = tag.length := by omega
           subst hk
           exact EvQ.xt (.inr ⟨tagOK_of e4, XtQ.mk' X.kv ⟨rfl, rfl⟩⟩))
        | trace_state
    · exact shed_eq fun t => ⟨fun h => by rcases hasN2 h with rfl | rfl <;> rfl, fun _ => rfl⟩
  · rintro _ (⟨tm, lo, hp, rfl, -⟩ | ⟨ok, tm, lo, hp, rfl, rfl, rfl⟩)
    · repeat' (first | refine EvQ.run ?_ | (refine EvQ.pickB rfl rfl rfl ?_) | (refine EvQ.cond rfl (fun h => ?_) (fun h => ?_) <;> ((first | replace h := X.nm h | skip); try have hne := ne_len h)) | (refine EvQ.g1 rfl (fun h => ?_) (fun h => ?_) <;> ((first | replace h := X.nm h | skip); try have hne := ne_len h)) | (refine EvQ.pick rfl (fun _ => rfl) (fun _ => rfl) (fun h => ?_) (fun h => ?_) <;> ((first | replace h := X.nm h | skip); try have hne := ne_len h)) | refine EvQ.fin X.rs ?_ | refine EvQ.fin1 (fun _ => rfl) rfl ?_)
      exact ⟨_, rfl⟩
    · obtain ⟨n1, n2⟩ := lkB_n hl
      have hj := fun w : Bool => asks_jok (s := wq w tag) (by have := wq_len w tag; omega) n1 n2
      have hje := fun w : Bool => (show JOK (etF (wq w tag)) from ⟨by show 2 ≤ 3100; decide, fun f hf => by
        have hw := wq_len w tag
        simp only [etF, List.mem_cons, List.not_mem_nil, or_false] at hf
        rcases hf with rfl | rfl
        · exact ⟨by decide, by decide⟩
        · exact ⟨by show sEtag.length ≤ _; decide, by show (wq w tag).length ≤ _; omega⟩⟩)
      have ak := fun w : Bool => ask_ok (entE (etF (wq w tag))) q (hje w) (by omega)
      have sm := fun w : Bool => same_ok (entE (etF (wq w tag))) (withF2 q (asksF (wq w tag) q.fs)) (hje w) (hj w)
      have r1 := fun w : Bool => rall_ok (asksF (wq w tag) q.fs) sInm (hj w)
      have r2 := fun w : Bool => rall_ok (asksF (wq w tag) q.fs) sRange (hj w)
      have v1 := fun w : Bool => asks_vals (wq w tag) q.fs
      have e1 := fun w : Bool => asks_askL (wq w tag) q.fs
      have e2 := fun w : Bool => et_only (wq w tag)
      have e3 := fun w : Bool => asks_same w tag q.fs ok
      have c1 := fun w : Bool => rowEn_clo (entE (etF (wq w tag)))
      have c2 := rowRq_clo q
      have c3 := fun w : Bool => rowRq_clo (withF2 q (asksF (wq w tag) q.fs))
      have b1 : beqL q.m q.m = true := by rw [beqLD]; exact decide_eq_true rfl
      have b2 : beqL q.p q.p = true := by rw [beqLD]; exact decide_eq_true rfl
      cases w
      · have ak := ak false
        rw [show (entE (etF (wq false tag))).s.fs = etF (wq false tag) from rfl, e1, (e2 false).1, (e2 false).2] at ak
        have sm := sm false
        rw [show sameS (entE (etF (wq false tag))).s.fs (withF2 q (asksF (wq false tag) q.fs)).fs = true from e3 false] at sm
        have r1 := r1 false
        have r2 := r2 false
        rw [(v1 false).1] at r1
        rw [(v1 false).2] at r2
        have c1 := c1 false
        have c3 := c3 false
        refine EvQ.run ?_
        first | refine EvQ.lift (fun _ zn => X.pcall (of47_ok [97] [98]) X.cq rfl X.al rfl zn) ?_ | refine EvQ.lift (fun _ zn => X.pcallG (of47_ok [97] [98]) rfl X.cq rfl X.al rfl zn) ?_ | refine EvQ.lift (fun _ zn => X.pcallC (of47_ok [97] [98]) rfl X.cq rfl X.al rfl zn) ?_ | refine EvQ.lift (fun _ zn => X.pcallT (of47_ok [97] [98]) (by decide) X.cq rfl X.al rfl zn) ?_ | refine EvQ.lift (fun _ zn => X.call rfl X.al (of47_ok [97] [98]) zn) ?_
        try refine EvQ.run ?_
        first | refine EvQ.lift (fun _ zn => X.pcall (of47_ok sEtag (wq false tag)) X.cq rfl X.al rfl zn) ?_ | refine EvQ.lift (fun _ zn => X.pcallG (of47_ok sEtag (wq false tag)) rfl X.cq rfl X.al rfl zn) ?_ | refine EvQ.lift (fun _ zn => X.pcallC (of47_ok sEtag (wq false tag)) rfl X.cq rfl X.al rfl zn) ?_ | refine EvQ.lift (fun _ zn => X.pcallT (of47_ok sEtag (wq false tag)) (by decide) X.cq rfl X.al rfl zn) ?_ | refine EvQ.lift (fun _ zn => X.call rfl X.al (of47_ok sEtag (wq false tag)) zn) ?_
        try refine EvQ.run ?_
        first | refine EvQ.lift (fun _ zn => X.pcall (ent46_ok (etF (wq false tag))) X.cq rfl X.al rfl zn) ?_ | refine EvQ.lift (fun _ zn => X.pcallG (ent46_ok (etF (wq false tag))) rfl X.cq rfl X.al rfl zn) ?_ | refine EvQ.lift (fun _ zn => X.pcallC (ent46_ok (etF (wq false tag))) rfl X.cq rfl X.al rfl zn) ?_ | refine EvQ.lift (fun _ zn => X.pcallT (ent46_ok (etF (wq false tag))) (by decide) X.cq rfl X.al rfl zn) ?_ | refine EvQ.lift (fun _ zn => X.call rfl X.al (ent46_ok (etF (wq false tag))) zn) ?_
        try refine EvQ.run ?_
        first | refine EvQ.lift (fun _ zn => X.pcall (ak) X.cq rfl X.al rfl zn) ?_ | refine EvQ.lift (fun _ zn => X.pcallG (ak) rfl X.cq rfl X.al rfl zn) ?_ | refine EvQ.lift (fun _ zn => X.pcallC (ak) rfl X.cq rfl X.al rfl zn) ?_ | refine EvQ.lift (fun _ zn => X.pcallT (ak) (by decide) X.cq rfl X.al rfl zn) ?_ | refine EvQ.lift (fun _ zn => X.call rfl X.al (ak) zn) ?_
        try refine EvQ.run ?_
        first | refine EvQ.lift (fun _ zn => X.pcall (r1) X.cq rfl X.al rfl zn) ?_ | refine EvQ.lift (fun _ zn => X.pcallG (r1) rfl X.cq rfl X.al rfl zn) ?_ | refine EvQ.lift (fun _ zn => X.pcallC (r1) rfl X.cq rfl X.al rfl zn) ?_ | refine EvQ.lift (fun _ zn => X.pcallT (r1) (by decide) X.cq rfl X.al rfl zn) ?_ | refine EvQ.lift (fun _ zn => X.call rfl X.al (r1) zn) ?_
        try refine EvQ.run ?_
        first | refine EvQ.lift (fun _ zn => X.pcall (r2) X.cq rfl X.al rfl zn) ?_ | refine EvQ.lift (fun _ zn => X.pcallG (r2) rfl X.cq rfl X.al rfl zn) ?_ | refine EvQ.lift (fun _ zn => X.pcallC (r2) rfl X.cq rfl X.al rfl zn) ?_ | refine EvQ.lift (fun _ zn => X.pcallT (r2) (by decide) X.cq rfl X.al rfl zn) ?_ | refine EvQ.lift (fun _ zn => X.call rfl X.al (r2) zn) ?_
        try refine EvQ.run ?_
        first | refine EvQ.lift (fun _ zn => X.pcall (sm) X.cq rfl X.al rfl zn) ?_ | refine EvQ.lift (fun _ zn => X.pcallG (sm) rfl X.cq rfl X.al rfl zn) ?_ | refine EvQ.lift (fun _ zn => X.pcallC (sm) rfl X.cq rfl X.al rfl zn) ?_ | refine EvQ.lift (fun _ zn => X.pcallT (sm) (by decide) X.cq rfl X.al rfl zn) ?_ | refine EvQ.lift (fun _ zn => X.call rfl X.al (sm) zn) ?_
        try refine EvQ.run ?_
        first | refine EvQ.lift (fun _ zn => X.pcall (mergeruns_ok) X.cq rfl X.al rfl zn) ?_ | refine EvQ.lift (fun _ zn => X.pcallG (mergeruns_ok) rfl X.cq rfl X.al rfl zn) ?_ | refine EvQ.lift (fun _ zn => X.pcallC (mergeruns_ok) rfl X.cq rfl X.al rfl zn) ?_ | refine EvQ.lift (fun _ zn => X.pcallT (mergeruns_ok) (by decide) X.cq rfl X.al rfl zn) ?_ | refine EvQ.lift (fun _ zn => X.call rfl X.al (mergeruns_ok) zn) ?_
        try refine EvQ.run ?_
        refine EvQ.fin X.rs ?_
        exact ⟨_, rfl⟩
      · have ak := ak true
        rw [show (entE (etF (wq true tag))).s.fs = etF (wq true tag) from rfl, e1, (e2 true).1, (e2 true).2] at ak
        have sm := sm true
        rw [show sameS (entE (etF (wq true tag))).s.fs (withF2 q (asksF (wq true tag) q.fs)).fs = true from e3 true] at sm
        have r1 := r1 true
        have r2 := r2 true
        rw [(v1 true).1] at r1
        rw [(v1 true).2] at r2
        have c1 := c1 true
        have c3 := c3 true
        refine EvQ.run ?_
        first | refine EvQ.lift (fun _ zn => X.pcall (of47_ok [97] [98]) X.cq rfl X.al rfl zn) ?_ | refine EvQ.lift (fun _ zn => X.pcallG (of47_ok [97] [98]) rfl X.cq rfl X.al rfl zn) ?_ | refine EvQ.lift (fun _ zn => X.pcallC (of47_ok [97] [98]) rfl X.cq rfl X.al rfl zn) ?_ | refine EvQ.lift (fun _ zn => X.pcallT (of47_ok [97] [98]) (by decide) X.cq rfl X.al rfl zn) ?_ | refine EvQ.lift (fun _ zn => X.call rfl X.al (of47_ok [97] [98]) zn) ?_
        try refine EvQ.run ?_
        first | refine EvQ.lift (fun _ zn => X.pcall (of47_ok sEtag (wq true tag)) X.cq rfl X.al rfl zn) ?_ | refine EvQ.lift (fun _ zn => X.pcallG (of47_ok sEtag (wq true tag)) rfl X.cq rfl X.al rfl zn) ?_ | refine EvQ.lift (fun _ zn => X.pcallC (of47_ok sEtag (wq true tag)) rfl X.cq rfl X.al rfl zn) ?_ | refine EvQ.lift (fun _ zn => X.pcallT (of47_ok sEtag (wq true tag)) (by decide) X.cq rfl X.al rfl zn) ?_ | refine EvQ.lift (fun _ zn => X.call rfl X.al (of47_ok sEtag (wq true tag)) zn) ?_
        try refine EvQ.run ?_
        first | refine EvQ.lift (fun _ zn => X.pcall (ent46_ok (etF (wq true tag))) X.cq rfl X.al rfl zn) ?_ | refine EvQ.lift (fun _ zn => X.pcallG (ent46_ok (etF (wq true tag))) rfl X.cq rfl X.al rfl zn) ?_ | refine EvQ.lift (fun _ zn => X.pcallC (ent46_ok (etF (wq true tag))) rfl X.cq rfl X.al rfl zn) ?_ | refine EvQ.lift (fun _ zn => X.pcallT (ent46_ok (etF (wq true tag))) (by decide) X.cq rfl X.al rfl zn) ?_ | refine EvQ.lift (fun _ zn => X.call rfl X.al (ent46_ok (etF (wq true tag))) zn) ?_
        try refine EvQ.run ?_
        first | refine EvQ.lift (fun _ zn => X.pcall (ak) X.cq rfl X.al rfl zn) ?_ | refine EvQ.lift (fun _ zn => X.pcallG (ak) rfl X.cq rfl X.al rfl zn) ?_ | refine EvQ.lift (fun _ zn => X.pcallC (ak) rfl X.cq rfl X.al rfl zn) ?_ | refine EvQ.lift (fun _ zn => X.pcallT (ak) (by decide) X.cq rfl X.al rfl zn) ?_ | refine EvQ.lift (fun _ zn => X.call rfl X.al (ak) zn) ?_
        try refine EvQ.run ?_
        first | refine EvQ.lift (fun _ zn => X.pcall (r1) X.cq rfl X.al rfl zn) ?_ | refine EvQ.lift (fun _ zn => X.pcallG (r1) rfl X.cq rfl X.al rfl zn) ?_ | refine EvQ.lift (fun _ zn => X.pcallC (r1) rfl X.cq rfl X.al rfl zn) ?_ | refine EvQ.lift (fun _ zn => X.pcallT (r1) (by decide) X.cq rfl X.al rfl zn) ?_ | refine EvQ.lift (fun _ zn => X.call rfl X.al (r1) zn) ?_
        try refine EvQ.run ?_
        first | refine EvQ.lift (fun _ zn => X.pcall (r2) X.cq rfl X.al rfl zn) ?_ | refine EvQ.lift (fun _ zn => X.pcallG (r2) rfl X.cq rfl X.al rfl zn) ?_ | refine EvQ.lift (fun _ zn => X.pcallC (r2) rfl X.cq rfl X.al rfl zn) ?_ | refine EvQ.lift (fun _ zn => X.pcallT (r2) (by decide) X.cq rfl X.al rfl zn) ?_ | refine EvQ.lift (fun _ zn => X.call rfl X.al (r2) zn) ?_
        try refine EvQ.run ?_
        first | refine EvQ.lift (fun _ zn => X.pcall (sm) X.cq rfl X.al rfl zn) ?_ | refine EvQ.lift (fun _ zn => X.pcallG (sm) rfl X.cq rfl X.al rfl zn) ?_ | refine EvQ.lift (fun _ zn => X.pcallC (sm) rfl X.cq rfl X.al rfl zn) ?_ | refine EvQ.lift (fun _ zn => X.pcallT (sm) (by decide) X.cq rfl X.al rfl zn) ?_ | refine EvQ.lift (fun _ zn => X.call rfl X.al (sm) zn) ?_
        try refine EvQ.run ?_
        first | refine EvQ.lift (fun _ zn => X.pcall (mergeruns_ok) X.cq rfl X.al rfl zn) ?_ | refine EvQ.lift (fun _ zn => X.pcallG (mergeruns_ok) rfl X.cq rfl X.al rfl zn) ?_ | refine EvQ.lift (fun _ zn => X.pcallC (mergeruns_ok) rfl X.cq rfl X.al rfl zn) ?_ | refine EvQ.lift (fun _ zn => X.pcallT (mergeruns_ok) (by decide) X.cq rfl X.al rfl zn) ?_ | refine EvQ.lift (fun _ zn => X.call rfl X.al (mergeruns_ok) zn) ?_
        try refine EvQ.run ?_
        refine EvQ.fin X.rs ?_
        exact ⟨_, rfl⟩
end Go.Proofs.Ytcbiplmgaiipgaa
