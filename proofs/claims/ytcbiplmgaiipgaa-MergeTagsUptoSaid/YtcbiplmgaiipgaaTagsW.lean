import Derived.Test.YtcbiplmgaiipgaaEvE
import Derived.Test.YtcbiplmgaiipgaaEvE
import Derived.Test.YtcbiplmgaiipgaaTagsM
set_option linter.unusedVariables false
set_option linter.unusedSimpArgs false
-- MergeTags: the walk
namespace Go.Proofs.Ytcbiplmgaiipgaa
open Go hiding Fn
open Ev tab
theorem mergeruns_go : ∀ N M, run (callF F (N + 2000) (M + 60)) (N + 2000) (bodyD c13 [] h0) = Rt (.bo true) (hpOf (run (callF F 2000 60) 2000 (bodyD c13 [] h0))) := by
  intro N M; kernel_rfl
theorem mergeruns_ok : EvP F 13 c13 [] [.bo true] := .closed 2000 60 rfl rfl rfl rfl mergeruns_go
attribute [local irreducible] EvD EvL EvC evGds evLs C.run sK bK gK pK fK lpB stepD

theorem of47_ok (a b : List Nat) : EvP F 47 c47 [.st a, .st b] [.ag (fd (a, b))] := by
  refine EvP.ofQ d47 rfl rfl rfl ?_
  repeat' (first | refine EvQ.run ?_ | (refine EvQ.pickB rfl rfl rfl ?_) | (refine EvQ.cond rfl (fun h => ?_) (fun h => ?_) <;> ((first | replace h := X.nm h | skip); try have hne := ne_len h)) | (refine EvQ.g1 rfl (fun h => ?_) (fun h => ?_) <;> ((first | replace h := X.nm h | skip); try have hne := ne_len h)) | (refine EvQ.pick rfl (fun _ => rfl) (fun _ => rfl) (fun h => ?_) (fun h => ?_) <;> ((first | replace h := X.nm h | skip); try have hne := ne_len h)) | refine EvQ.fin X.rs ?_ | refine EvQ.fin1 (fun _ => rfl) rfl ?_)
  exact PQ.of (.gs (fd_clo (a, b)) (.nil _))
def entE (l : List Fld) : En := ⟨⟨[], [], [], [], [], 0⟩, ⟨200, l, 0⟩, [], 0, 0⟩
theorem ent46_ok (l : List Fld) : EvP F 46 c46 [.vs 2 (fds l)] [.ag (rowEn (entE l))] := by
  refine EvP.ofQ d46 rfl rfl rfl ?_
  repeat' (first | refine EvQ.run ?_ | (refine EvQ.pickB rfl rfl rfl ?_) | (refine EvQ.cond rfl (fun h => ?_) (fun h => ?_) <;> ((first | replace h := X.nm h | skip); try have hne := ne_len h)) | (refine EvQ.g1 rfl (fun h => ?_) (fun h => ?_) <;> ((first | replace h := X.nm h | skip); try have hne := ne_len h)) | (refine EvQ.pick rfl (fun _ => rfl) (fun _ => rfl) (fun h => ?_) (fun h => ?_) <;> ((first | replace h := X.nm h | skip); try have hne := ne_len h)) | refine EvQ.fin X.rs ?_ | refine EvQ.fin1 (fun _ => rfl) rfl ?_)
  exact PQ.of (.gs2 (.cons (fun _ _ => rfl) (.cons (fun _ _ => rfl) (.cons (fun _ _ => rfl) (.cons (fun _ _ => rfl) (.cons (clo_ns [.one, .one]) (.cons (fun _ _ => rfl) (.cons (fun _ _ => rfl) (.cons (clo_vs [.one, .one] _) (.cons (fun _ _ => rfl) (.cons (fun _ _ => rfl) (.cons (fun _ _ => rfl) (.cons (fun _ _ => rfl) .nil)))))))))))) (.nil _))
theorem JOK1 (s : List Nat) (h : s.length ≤ 10000) (n : List Nat) (hn : n.length ≤ 10000) : JOK [(n, s)] := ⟨by simp, fun f hf => by simp at hf; subst hf; exact ⟨hn, h⟩⟩
set_option maxHeartbeats 4000000 in
theorem says_ok {hp : Hp} {id : Nat} (s : List Nat) (e : En) (hg : hget hp id = some ⟨12, false, [rowEn e]⟩) (he : JOK e.s.fs) (hs : s.length ≤ 10000) : ∃ v hp', EvC F false 59 [.st s, .pt id 0 0] hp (.ret v hp') ∧ (v = .bo (sameS e.s.fs [(sInm, s)]) ∧ hp' = hp) := by
  refine EvC.ofQ (P := fun v hp' => v = .bo (sameS e.s.fs [(sInm, s)]) ∧ hp' = hp) d59 rfl rfl rfl ?_
  have h1 := same_ok e ⟨[], [], [], [], [(sInm, s)], 0⟩ he (JOK1 s hs sInm (by decide))
  have h2 := of47_ok sInm s
  have c1 := rowEn_clo e
  have c2 := rowRq_clo ⟨[], [], [], [], [(sInm, s)], 0⟩
  repeat' (first | refine EvQ.run ?_ | refine EvQ.lift (fun _ zn => X.pcall (h2) X.cq rfl X.al rfl zn) ?_ | refine EvQ.lift (fun _ zn => X.pcallG (h2) rfl X.cq rfl X.al rfl zn) ?_ | refine EvQ.lift (fun _ zn => X.pcallT (h2) (by decide) X.cq rfl X.al rfl zn) ?_ | refine EvQ.lift (fun _ zn => X.pcall (h1) X.cq rfl X.al rfl zn) ?_ | refine EvQ.lift (fun _ zn => X.pcallG (h1) rfl X.cq rfl X.al rfl zn) ?_ | refine EvQ.lift (fun _ zn => X.pcallT (h1) (by decide) X.cq rfl X.al rfl zn) ?_ | (refine EvQ.pickB rfl rfl rfl ?_) | (refine EvQ.cond rfl (fun h => ?_) (fun h => ?_) <;> ((first | replace h := X.nm h | skip); try have hne := ne_len h)) | (refine EvQ.g1 rfl (fun h => ?_) (fun h => ?_) <;> ((first | replace h := X.nm h | skip); try have hne := ne_len h)) | (refine EvQ.pick rfl (fun _ => rfl) (fun _ => rfl) (fun h => ?_) (fun h => ?_) <;> ((first | replace h := X.nm h | skip); try have hne := ne_len h)) | refine EvQ.fin X.rs ?_ | refine EvQ.fin1 (fun _ => rfl) rfl ?_)
  exact ⟨_, _, rfl, rfl, rfl⟩

/-- are a tag's bytes such as may be? -/
def cleanB (s : List Nat) : Bool := s.all tagC
def tagB (s : List Nat) : Bool := decide (s.length ≤ 50) && cleanB s
theorem Txt.get' {s : List Nat} (h : Txt s) (i : Nat) : s.getD i 0 < 256 := h.get i
theorem wq_len (w : Bool) (a : List Nat) : (wq w a).length ≤ a.length + 4 := by unfold wq qt; cases w <;> simp
section
variable {hp : Hp} {id : Nat} (v w : Bool) {a b : List Nat}
theorem says1 (ha : tagOK a) (hb : tagOK b) (hal : a.length ≤ 50) (hbl : b.length ≤ 50) (hg : hget hp id = some ⟨12, false, [rowEn (entE [(sEtag, wq v a)])]⟩) : ∃ x hp', EvC F false 59 [.st (wq w b), .pt id 0 0] hp (.ret x hp') ∧ (x = .bo (decide (a = b)) ∧ hp' = hp) := by
  have := says_ok (wq w b) _ hg (JOK1 _ (by have := wq_len v a; omega) _ (by decide)) (by have := wq_len w b; omega)
  rw [show sameS (entE [(sEtag, wq v a)]).s.fs [(sInm, wq w b)] = decide (a = b) from (tags_law v w a b ha hb).1] at this
  exact this
theorem says2 (ha : tagOK a) (hb : tagOK b) (hal : a.length ≤ 50) (hbl : b.length ≤ 50) (hg : hget hp id = some ⟨12, false, [rowEn (entE [(sEtag, wq v a)])]⟩) : ∃ x hp', EvC F false 59 [.st (noneS ++ wq w b), .pt id 0 0] hp (.ret x hp') ∧ (x = .bo (decide (a = b)) ∧ hp' = hp) := by
  have := says_ok (noneS ++ wq w b) _ hg (JOK1 _ (by have := wq_len v a; omega) _ (by decide)) (by have := wq_len w b; rw [List.length_append]; have : noneS.length = 18 := rfl; omega)
  rw [show sameS (entE [(sEtag, wq v a)]).s.fs [(sInm, noneS ++ wq w b)] = decide (a = b) from (tags_law v w a b ha hb).2.1] at this
  exact this
theorem says3 (ha : tagOK a) (hal : a.length ≤ 50) (hg : hget hp id = some ⟨12, false, [rowEn (entE [(sEtag, wq v a)])]⟩) : ∃ x hp', EvC F false 59 [.st [42], .pt id 0 0] hp (.ret x hp') ∧ (x = .bo true ∧ hp' = hp) := by
  have := says_ok [42] _ hg (JOK1 _ (by have := wq_len v a; omega) _ (by decide)) (by decide)
  rw [show sameS (entE [(sEtag, wq v a)]).s.fs [(sInm, [42])] = true from (tags_law v v a a ha ha).2.2.1] at this
  exact this
theorem says4 (ha : tagOK a) (hal : a.length ≤ 50) (hg : hget hp id = some ⟨12, false, [rowEn (entE [(sEtag, wq v a)])]⟩) : ∃ x hp', EvC F false 59 [.st [], .pt id 0 0] hp (.ret x hp') ∧ (x = .bo false ∧ hp' = hp) := by
  have := says_ok [] _ hg (JOK1 _ (by have := wq_len v a; omega) _ (by decide)) (by decide)
  rw [show sameS (entE [(sEtag, wq v a)]).s.fs [(sInm, [])] = false from (tags_law v v a a ha ha).2.2.2] at this
  exact this
end
theorem tagC_of {c : Nat} (h1 : ¬ c < 33) (h2 : ¬ 126 < c) (h3 : ¬ c = 34) (h4 : ¬ c = 92) : tagC c = true := by
  simp [tagC]; omega
theorem tagOK_of {s : List Nat} (h : ∀ j, j < s.length → tagC (s.getD j 0) = true) : tagOK s := fun c hc => List.all_eq_true.1 (all_of h) c hc
set_option maxHeartbeats 16000000 in
theorem tags_run (a b : List Nat) (v w : Bool) (hal : a.length ≤ 10000000) (hbl : b.length ≤ 10000000) : ∃ h, EvD F (stepD d18 [.st a, .st b, .bo v, .bo w] h0) (Rt (.bo true) h) := by
  refine EvQ.law ?_
  repeat' (first | refine EvQ.run ?_ | (refine EvQ.pickB rfl rfl rfl ?_) | (refine EvQ.cond rfl (fun h => ?_) (fun h => ?_) <;> ((first | replace h := X.nm h | skip); try have hne := ne_len h)) | (refine EvQ.g1 rfl (fun h => ?_) (fun h => ?_) <;> ((first | replace h := X.nm h | skip); try have hne := ne_len h)) | (refine EvQ.pick rfl (fun _ => rfl) (fun _ => rfl) (fun h => ?_) (fun h => ?_) <;> ((first | replace h := X.nm h | skip); try have hne := ne_len h)) | refine EvQ.fin X.rs ?_ | refine EvQ.fin1 (fun _ => rfl) rfl ?_)
  refine EvQ.loop (QL := fun r => RtQ [(8, .bo true)] (fun _ _ => True) r ∨ ((∀ j, j < 2 → ([a, b].getD j []).length ≤ 50 ∧ tagOK ([a, b].getD j [])) ∧ XtQ 0 [(0, .st a), (1, .st b), (2, .bo v), (3, .bo w)] (fun _ hp => hp = h0) r)) ?_ ?_
  · refine EvL.invQ (S := Nat) (fun i => [(0, .st a), (1, .st b), (2, .bo v), (3, .bo w), (18, .vs 1 (txs [a, b])), (19, .it .i64 (Int.ofNat 2)), (20, .it .i64 (Int.ofNat i))]) (fun i _ hp => hp = h0 ∧ i ≤ 2 ∧ ∀ j, j < i → ([a, b].getD j []).length ≤ 50 ∧ tagOK ([a, b].getD j [])) (fun i => 2 - i) _ ?_ 0 _ _ _ ⟨rfl, by omega, fun j h => by omega⟩ X.kv
    intro i lo hp ⟨e1, e2, e3⟩
    subst e1
    have hlen : ([a, b].getD i []).length ≤ 10000000 := by
      rcases (by omega : i = 0 ∨ i = 1 ∨ i = 2) with rfl | rfl | rfl
      · exact hal
      · exact hbl
      · exact Nat.zero_le _
    repeat' (first | refine EvQ.run ?_ | refine EvQ.lift (fun _ zn => X.pcall (mergeruns_ok) X.cq rfl X.al rfl zn) ?_ | refine EvQ.lift (fun _ zn => X.pcallG (mergeruns_ok) rfl X.cq rfl X.al rfl zn) ?_ | refine EvQ.lift (fun _ zn => X.pcallT (mergeruns_ok) (by decide) X.cq rfl X.al rfl zn) ?_ | (refine EvQ.pickB rfl rfl rfl ?_) | (refine EvQ.cond rfl (fun h => ?_) (fun h => ?_) <;> ((first | replace h := X.nm h | skip); try have hne := ne_len h)) | (refine EvQ.g1 rfl (fun h => ?_) (fun h => ?_) <;> ((first | replace h := X.nm h | skip); try have hne := ne_len h)) | (refine EvQ.pick rfl (fun _ => rfl) (fun _ => rfl) (fun h => ?_) (fun h => ?_) <;> ((first | replace h := X.nm h | skip); try have hne := ne_len h)) | refine EvQ.fin X.rs ?_ | refine EvQ.fin1 (fun _ => rfl) rfl ?_)
    · exact EvQ.rt (.inl (.mk' X.kv trivial))
    · have hi : i < 2 := by assumption
      have h50 : ([a, b].getD i []).length ≤ 50 := by omega
      generalize ht : [a, b].getD i [] = t at *
      refine EvQ.loop (QL := fun r => RtQ [(8, .bo true)] (fun _ _ => True) r ∨ (tagOK t ∧ XtQ 2 [(0, .st a), (1, .st b), (2, .bo v), (3, .bo w), (18, .vs 1 (txs [a, b])), (19, .it .i64 (Int.ofNat 2)), (20, .it .i64 (Int.ofNat i))] (fun _ hp => hp = h0) r)) ?_ ?_
      · refine EvL.invQ (S := Nat) (fun k => [(0, .st a), (1, .st b), (2, .bo v), (3, .bo w), (10, .st t), (11, .it .i64 (Int.ofNat k)), (18, .vs 1 (txs [a, b])), (19, .it .i64 (Int.ofNat 2)), (20, .it .i64 (Int.ofNat i))]) (fun k _ hp => hp = h0 ∧ k ≤ t.length ∧ ∀ j, j < k → tagC (t.getD j 0) = true) (fun k => t.length - k) _ ?_ 0 _ _ _ ⟨rfl, by omega, fun j h => by omega⟩ X.kv
        intro k lo hp ⟨f1, f2, f3⟩
        subst f1
        repeat' (first | refine EvQ.run ?_ | refine EvQ.lift (fun _ zn => X.pcall (mergeruns_ok) X.cq rfl X.al rfl zn) ?_ | refine EvQ.lift (fun _ zn => X.pcallG (mergeruns_ok) rfl X.cq rfl X.al rfl zn) ?_ | refine EvQ.lift (fun _ zn => X.pcallT (mergeruns_ok) (by decide) X.cq rfl X.al rfl zn) ?_ | (refine EvQ.pickB rfl rfl rfl ?_) | (refine EvQ.cond rfl (fun h => ?_) (fun h => ?_) <;> ((first | replace h := X.nm h | skip); try have hne := ne_len h)) | (refine EvQ.g1 rfl (fun h => ?_) (fun h => ?_) <;> ((first | replace h := X.nm h | skip); try have hne := ne_len h)) | (refine EvQ.pick rfl (fun _ => rfl) (fun _ => rfl) (fun h => ?_) (fun h => ?_) <;> ((first | replace h := X.nm h | skip); try have hne := ne_len h)) | refine EvQ.fin X.rs ?_ | refine EvQ.fin1 (fun _ => rfl) rfl ?_)
        any_goals exact EvQ.rt (.inl (.mk' X.kv trivial))
        · refine EvQ.go (k + 1) X.kv ⟨rfl, by omega, fun j hj => ?_⟩ (by omega)
          rcases Nat.lt_or_ge j k with q | q
          · exact f3 j q
          · rw [show j = k by omega]; exact tagC_of (by assumption) (by assumption) (by assumption) (by assumption)
        · have hk : k = t.length := by omega
          subst hk
          exact EvQ.xt (.inr ⟨tagOK_of f3, .mk' X.kv rfl⟩)
      · rintro _ (⟨tm, lo, hp, rfl, -⟩ | ⟨ok, tm, lo, hp, rfl, rfl⟩)
        · repeat' (first | refine EvQ.run ?_ | (refine EvQ.pickB rfl rfl rfl ?_) | (refine EvQ.cond rfl (fun h => ?_) (fun h => ?_) <;> ((first | replace h := X.nm h | skip); try have hne := ne_len h)) | (refine EvQ.g1 rfl (fun h => ?_) (fun h => ?_) <;> ((first | replace h := X.nm h | skip); try have hne := ne_len h)) | (refine EvQ.pick rfl (fun _ => rfl) (fun _ => rfl) (fun h => ?_) (fun h => ?_) <;> ((first | replace h := X.nm h | skip); try have hne := ne_len h)) | refine EvQ.fin X.rs ?_ | refine EvQ.fin1 (fun _ => rfl) rfl ?_)
          exact EvQ.rt (.inl (.mk' X.kv trivial))
        · repeat' (first | refine EvQ.run ?_ | (refine EvQ.pickB rfl rfl rfl ?_) | (refine EvQ.cond rfl (fun h => ?_) (fun h => ?_) <;> ((first | replace h := X.nm h | skip); try have hne := ne_len h)) | (refine EvQ.g1 rfl (fun h => ?_) (fun h => ?_) <;> ((first | replace h := X.nm h | skip); try have hne := ne_len h)) | (refine EvQ.pick rfl (fun _ => rfl) (fun _ => rfl) (fun h => ?_) (fun h => ?_) <;> ((first | replace h := X.nm h | skip); try have hne := ne_len h)) | refine EvQ.fin X.rs ?_ | refine EvQ.fin1 (fun _ => rfl) rfl ?_)
          refine EvQ.go (i + 1) X.kv ⟨rfl, hi, fun j hj => ?_⟩ (by omega)
          rcases Nat.lt_or_ge j i with q | q
          · exact e3 j q
          · rw [show j = i by omega, ht]; exact ⟨h50, ok⟩
    · have hi : i = 2 := by omega
      subst hi
      exact EvQ.xt (.inr ⟨e3, .mk' X.kv rfl⟩)
  · rintro _ (⟨tm, lo, hp, rfl, -⟩ | ⟨ok, tm, lo, hp, rfl, rfl⟩)
    · repeat' (first | refine EvQ.run ?_ | (refine EvQ.pickB rfl rfl rfl ?_) | (refine EvQ.cond rfl (fun h => ?_) (fun h => ?_) <;> ((first | replace h := X.nm h | skip); try have hne := ne_len h)) | (refine EvQ.g1 rfl (fun h => ?_) (fun h => ?_) <;> ((first | replace h := X.nm h | skip); try have hne := ne_len h)) | (refine EvQ.pick rfl (fun _ => rfl) (fun _ => rfl) (fun h => ?_) (fun h => ?_) <;> ((first | replace h := X.nm h | skip); try have hne := ne_len h)) | refine EvQ.fin X.rs ?_ | refine EvQ.fin1 (fun _ => rfl) rfl ?_)
      exact ⟨_, rfl⟩
    · obtain ⟨la, oa⟩ := ok 0 (by omega)
      obtain ⟨lb, ob⟩ := ok 1 (by omega)
      simp only [List.getD_cons_zero, List.getD_cons_succ] at la oa lb ob
      cases v <;> cases w
      ·
        have eb := beqLD a b
        repeat' (first | refine EvQ.run ?_ | refine EvQ.lift (fun _ zn => X.pcall (of47_ok _ _) X.cq rfl X.al rfl zn) ?_ | refine EvQ.lift (fun _ zn => X.pcallG (of47_ok _ _) rfl X.cq rfl X.al rfl zn) ?_ | refine EvQ.lift (fun _ zn => X.pcallT (of47_ok _ _) (by decide) X.cq rfl X.al rfl zn) ?_ | refine EvQ.lift (fun _ zn => X.pcall (ent46_ok [(sEtag, wq false a)]) X.cq rfl X.al rfl zn) ?_ | refine EvQ.lift (fun _ zn => X.pcallG (ent46_ok [(sEtag, wq false a)]) rfl X.cq rfl X.al rfl zn) ?_ | refine EvQ.lift (fun _ zn => X.pcallT (ent46_ok [(sEtag, wq false a)]) (by decide) X.cq rfl X.al rfl zn) ?_ | (refine EvQ.pickB rfl rfl rfl ?_) | (refine EvQ.cond rfl (fun h => ?_) (fun h => ?_) <;> ((first | replace h := X.nm h | skip); try have hne := ne_len h)) | (refine EvQ.g1 rfl (fun h => ?_) (fun h => ?_) <;> ((first | replace h := X.nm h | skip); try have hne := ne_len h)) | (refine EvQ.pick rfl (fun _ => rfl) (fun _ => rfl) (fun h => ?_) (fun h => ?_) <;> ((first | replace h := X.nm h | skip); try have hne := ne_len h)) | refine EvQ.fin X.rs ?_ | refine EvQ.fin1 (fun _ => rfl) rfl ?_)
        refine EvQ.calv rfl rfl rfl rfl (says1 false false oa ob la lb X.hq) ?_
        rintro _ _ ⟨rfl, rfl⟩
        repeat' (first | refine EvQ.run ?_ | (refine EvQ.pickB rfl rfl rfl ?_) | (refine EvQ.cond rfl (fun h => ?_) (fun h => ?_) <;> ((first | replace h := X.nm h | skip); try have hne := ne_len h)) | (refine EvQ.g1 rfl (fun h => ?_) (fun h => ?_) <;> ((first | replace h := X.nm h | skip); try have hne := ne_len h)) | (refine EvQ.pick rfl (fun _ => rfl) (fun _ => rfl) (fun h => ?_) (fun h => ?_) <;> ((first | replace h := X.nm h | skip); try have hne := ne_len h)) | refine EvQ.fin X.rs ?_ | refine EvQ.fin1 (fun _ => rfl) rfl ?_)
        · refine EvQ.calv rfl rfl rfl rfl (says2 false false oa ob la lb X.hq) ?_
          rintro _ _ ⟨rfl, rfl⟩
          repeat' (first | refine EvQ.run ?_ | (refine EvQ.pickB rfl rfl rfl ?_) | (refine EvQ.cond rfl (fun h => ?_) (fun h => ?_) <;> ((first | replace h := X.nm h | skip); try have hne := ne_len h)) | (refine EvQ.g1 rfl (fun h => ?_) (fun h => ?_) <;> ((first | replace h := X.nm h | skip); try have hne := ne_len h)) | (refine EvQ.pick rfl (fun _ => rfl) (fun _ => rfl) (fun h => ?_) (fun h => ?_) <;> ((first | replace h := X.nm h | skip); try have hne := ne_len h)) | refine EvQ.fin X.rs ?_ | refine EvQ.fin1 (fun _ => rfl) rfl ?_)
          · refine EvQ.calv rfl rfl rfl rfl (says3 false oa la X.hq) ?_
            rintro _ _ ⟨rfl, rfl⟩
            repeat' (first | refine EvQ.run ?_ | (refine EvQ.pickB rfl rfl rfl ?_) | (refine EvQ.cond rfl (fun h => ?_) (fun h => ?_) <;> ((first | replace h := X.nm h | skip); try have hne := ne_len h)) | (refine EvQ.g1 rfl (fun h => ?_) (fun h => ?_) <;> ((first | replace h := X.nm h | skip); try have hne := ne_len h)) | (refine EvQ.pick rfl (fun _ => rfl) (fun _ => rfl) (fun h => ?_) (fun h => ?_) <;> ((first | replace h := X.nm h | skip); try have hne := ne_len h)) | refine EvQ.fin X.rs ?_ | refine EvQ.fin1 (fun _ => rfl) rfl ?_)
            refine EvQ.calv rfl rfl rfl rfl (says4 false oa la X.hq) ?_
            rintro _ _ ⟨rfl, rfl⟩
            repeat' (first | refine EvQ.run ?_ | refine EvQ.lift (fun _ zn => X.pcall (mergeruns_ok) X.cq rfl X.al rfl zn) ?_ | refine EvQ.lift (fun _ zn => X.pcallG (mergeruns_ok) rfl X.cq rfl X.al rfl zn) ?_ | refine EvQ.lift (fun _ zn => X.pcallT (mergeruns_ok) (by decide) X.cq rfl X.al rfl zn) ?_ | (refine EvQ.pickB rfl rfl rfl ?_) | (refine EvQ.cond rfl (fun h => ?_) (fun h => ?_) <;> ((first | replace h := X.nm h | skip); try have hne := ne_len h)) | (refine EvQ.g1 rfl (fun h => ?_) (fun h => ?_) <;> ((first | replace h := X.nm h | skip); try have hne := ne_len h)) | (refine EvQ.pick rfl (fun _ => rfl) (fun _ => rfl) (fun h => ?_) (fun h => ?_) <;> ((first | replace h := X.nm h | skip); try have hne := ne_len h)) | refine EvQ.fin X.rs ?_ | refine EvQ.fin1 (fun _ => rfl) rfl ?_)
            exact ⟨_, rfl⟩
      ·
        have eb := beqLD a b
        repeat' (first | refine EvQ.run ?_ | refine EvQ.lift (fun _ zn => X.pcall (of47_ok _ _) X.cq rfl X.al rfl zn) ?_ | refine EvQ.lift (fun _ zn => X.pcallG (of47_ok _ _) rfl X.cq rfl X.al rfl zn) ?_ | refine EvQ.lift (fun _ zn => X.pcallT (of47_ok _ _) (by decide) X.cq rfl X.al rfl zn) ?_ | refine EvQ.lift (fun _ zn => X.pcall (ent46_ok [(sEtag, wq false a)]) X.cq rfl X.al rfl zn) ?_ | refine EvQ.lift (fun _ zn => X.pcallG (ent46_ok [(sEtag, wq false a)]) rfl X.cq rfl X.al rfl zn) ?_ | refine EvQ.lift (fun _ zn => X.pcallT (ent46_ok [(sEtag, wq false a)]) (by decide) X.cq rfl X.al rfl zn) ?_ | (refine EvQ.pickB rfl rfl rfl ?_) | (refine EvQ.cond rfl (fun h => ?_) (fun h => ?_) <;> ((first | replace h := X.nm h | skip); try have hne := ne_len h)) | (refine EvQ.g1 rfl (fun h => ?_) (fun h => ?_) <;> ((first | replace h := X.nm h | skip); try have hne := ne_len h)) | (refine EvQ.pick rfl (fun _ => rfl) (fun _ => rfl) (fun h => ?_) (fun h => ?_) <;> ((first | replace h := X.nm h | skip); try have hne := ne_len h)) | refine EvQ.fin X.rs ?_ | refine EvQ.fin1 (fun _ => rfl) rfl ?_)
        refine EvQ.calv rfl rfl rfl rfl (says1 false true oa ob la lb X.hq) ?_
        rintro _ _ ⟨rfl, rfl⟩
        repeat' (first | refine EvQ.run ?_ | (refine EvQ.pickB rfl rfl rfl ?_) | (refine EvQ.cond rfl (fun h => ?_) (fun h => ?_) <;> ((first | replace h := X.nm h | skip); try have hne := ne_len h)) | (refine EvQ.g1 rfl (fun h => ?_) (fun h => ?_) <;> ((first | replace h := X.nm h | skip); try have hne := ne_len h)) | (refine EvQ.pick rfl (fun _ => rfl) (fun _ => rfl) (fun h => ?_) (fun h => ?_) <;> ((first | replace h := X.nm h | skip); try have hne := ne_len h)) | refine EvQ.fin X.rs ?_ | refine EvQ.fin1 (fun _ => rfl) rfl ?_)
        · refine EvQ.calv rfl rfl rfl rfl (says2 false true oa ob la lb X.hq) ?_
          rintro _ _ ⟨rfl, rfl⟩
          repeat' (first | refine EvQ.run ?_ | (refine EvQ.pickB rfl rfl rfl ?_) | (refine EvQ.cond rfl (fun h => ?_) (fun h => ?_) <;> ((first | replace h := X.nm h | skip); try have hne := ne_len h)) | (refine EvQ.g1 rfl (fun h => ?_) (fun h => ?_) <;> ((first | replace h := X.nm h | skip); try have hne := ne_len h)) | (refine EvQ.pick rfl (fun _ => rfl) (fun _ => rfl) (fun h => ?_) (fun h => ?_) <;> ((first | replace h := X.nm h | skip); try have hne := ne_len h)) | refine EvQ.fin X.rs ?_ | refine EvQ.fin1 (fun _ => rfl) rfl ?_)
          · refine EvQ.calv rfl rfl rfl rfl (says3 false oa la X.hq) ?_
            rintro _ _ ⟨rfl, rfl⟩
            repeat' (first | refine EvQ.run ?_ | (refine EvQ.pickB rfl rfl rfl ?_) | (refine EvQ.cond rfl (fun h => ?_) (fun h => ?_) <;> ((first | replace h := X.nm h | skip); try have hne := ne_len h)) | (refine EvQ.g1 rfl (fun h => ?_) (fun h => ?_) <;> ((first | replace h := X.nm h | skip); try have hne := ne_len h)) | (refine EvQ.pick rfl (fun _ => rfl) (fun _ => rfl) (fun h => ?_) (fun h => ?_) <;> ((first | replace h := X.nm h | skip); try have hne := ne_len h)) | refine EvQ.fin X.rs ?_ | refine EvQ.fin1 (fun _ => rfl) rfl ?_)
            refine EvQ.calv rfl rfl rfl rfl (says4 false oa la X.hq) ?_
            rintro _ _ ⟨rfl, rfl⟩
            repeat' (first | refine EvQ.run ?_ | refine EvQ.lift (fun _ zn => X.pcall (mergeruns_ok) X.cq rfl X.al rfl zn) ?_ | refine EvQ.lift (fun _ zn => X.pcallG (mergeruns_ok) rfl X.cq rfl X.al rfl zn) ?_ | refine EvQ.lift (fun _ zn => X.pcallT (mergeruns_ok) (by decide) X.cq rfl X.al rfl zn) ?_ | (refine EvQ.pickB rfl rfl rfl ?_) | (refine EvQ.cond rfl (fun h => ?_) (fun h => ?_) <;> ((first | replace h := X.nm h | skip); try have hne := ne_len h)) | (refine EvQ.g1 rfl (fun h => ?_) (fun h => ?_) <;> ((first | replace h := X.nm h | skip); try have hne := ne_len h)) | (refine EvQ.pick rfl (fun _ => rfl) (fun _ => rfl) (fun h => ?_) (fun h => ?_) <;> ((first | replace h := X.nm h | skip); try have hne := ne_len h)) | refine EvQ.fin X.rs ?_ | refine EvQ.fin1 (fun _ => rfl) rfl ?_)
            exact ⟨_, rfl⟩
      ·
        have eb := beqLD a b
        repeat' (first | refine EvQ.run ?_ | refine EvQ.lift (fun _ zn => X.pcall (of47_ok _ _) X.cq rfl X.al rfl zn) ?_ | refine EvQ.lift (fun _ zn => X.pcallG (of47_ok _ _) rfl X.cq rfl X.al rfl zn) ?_ | refine EvQ.lift (fun _ zn => X.pcallT (of47_ok _ _) (by decide) X.cq rfl X.al rfl zn) ?_ | refine EvQ.lift (fun _ zn => X.pcall (ent46_ok [(sEtag, wq true a)]) X.cq rfl X.al rfl zn) ?_ | refine EvQ.lift (fun _ zn => X.pcallG (ent46_ok [(sEtag, wq true a)]) rfl X.cq rfl X.al rfl zn) ?_ | refine EvQ.lift (fun _ zn => X.pcallT (ent46_ok [(sEtag, wq true a)]) (by decide) X.cq rfl X.al rfl zn) ?_ | (refine EvQ.pickB rfl rfl rfl ?_) | (refine EvQ.cond rfl (fun h => ?_) (fun h => ?_) <;> ((first | replace h := X.nm h | skip); try have hne := ne_len h)) | (refine EvQ.g1 rfl (fun h => ?_) (fun h => ?_) <;> ((first | replace h := X.nm h | skip); try have hne := ne_len h)) | (refine EvQ.pick rfl (fun _ => rfl) (fun _ => rfl) (fun h => ?_) (fun h => ?_) <;> ((first | replace h := X.nm h | skip); try have hne := ne_len h)) | refine EvQ.fin X.rs ?_ | refine EvQ.fin1 (fun _ => rfl) rfl ?_)
        refine EvQ.calv rfl rfl rfl rfl (says1 true false oa ob la lb X.hq) ?_
        rintro _ _ ⟨rfl, rfl⟩
        repeat' (first | refine EvQ.run ?_ | (refine EvQ.pickB rfl rfl rfl ?_) | (refine EvQ.cond rfl (fun h => ?_) (fun h => ?_) <;> ((first | replace h := X.nm h | skip); try have hne := ne_len h)) | (refine EvQ.g1 rfl (fun h => ?_) (fun h => ?_) <;> ((first | replace h := X.nm h | skip); try have hne := ne_len h)) | (refine EvQ.pick rfl (fun _ => rfl) (fun _ => rfl) (fun h => ?_) (fun h => ?_) <;> ((first | replace h := X.nm h | skip); try have hne := ne_len h)) | refine EvQ.fin X.rs ?_ | refine EvQ.fin1 (fun _ => rfl) rfl ?_)
        · refine EvQ.calv rfl rfl rfl rfl (says2 true false oa ob la lb X.hq) ?_
          rintro _ _ ⟨rfl, rfl⟩
          repeat' (first | refine EvQ.run ?_ | (refine EvQ.pickB rfl rfl rfl ?_) | (refine EvQ.cond rfl (fun h => ?_) (fun h => ?_) <;> ((first | replace h := X.nm h | skip); try have hne := ne_len h)) | (refine EvQ.g1 rfl (fun h => ?_) (fun h => ?_) <;> ((first | replace h := X.nm h | skip); try have hne := ne_len h)) | (refine EvQ.pick rfl (fun _ => rfl) (fun _ => rfl) (fun h => ?_) (fun h => ?_) <;> ((first | replace h := X.nm h | skip); try have hne := ne_len h)) | refine EvQ.fin X.rs ?_ | refine EvQ.fin1 (fun _ => rfl) rfl ?_)
          · refine EvQ.calv rfl rfl rfl rfl (says3 true oa la X.hq) ?_
            rintro _ _ ⟨rfl, rfl⟩
            repeat' (first | refine EvQ.run ?_ | (refine EvQ.pickB rfl rfl rfl ?_) | (refine EvQ.cond rfl (fun h => ?_) (fun h => ?_) <;> ((first | replace h := X.nm h | skip); try have hne := ne_len h)) | (refine EvQ.g1 rfl (fun h => ?_) (fun h => ?_) <;> ((first | replace h := X.nm h | skip); try have hne := ne_len h)) | (refine EvQ.pick rfl (fun _ => rfl) (fun _ => rfl) (fun h => ?_) (fun h => ?_) <;> ((first | replace h := X.nm h | skip); try have hne := ne_len h)) | refine EvQ.fin X.rs ?_ | refine EvQ.fin1 (fun _ => rfl) rfl ?_)
            refine EvQ.calv rfl rfl rfl rfl (says4 true oa la X.hq) ?_
            rintro _ _ ⟨rfl, rfl⟩
            repeat' (first | refine EvQ.run ?_ | refine EvQ.lift (fun _ zn => X.pcall (mergeruns_ok) X.cq rfl X.al rfl zn) ?_ | refine EvQ.lift (fun _ zn => X.pcallG (mergeruns_ok) rfl X.cq rfl X.al rfl zn) ?_ | refine EvQ.lift (fun _ zn => X.pcallT (mergeruns_ok) (by decide) X.cq rfl X.al rfl zn) ?_ | (refine EvQ.pickB rfl rfl rfl ?_) | (refine EvQ.cond rfl (fun h => ?_) (fun h => ?_) <;> ((first | replace h := X.nm h | skip); try have hne := ne_len h)) | (refine EvQ.g1 rfl (fun h => ?_) (fun h => ?_) <;> ((first | replace h := X.nm h | skip); try have hne := ne_len h)) | (refine EvQ.pick rfl (fun _ => rfl) (fun _ => rfl) (fun h => ?_) (fun h => ?_) <;> ((first | replace h := X.nm h | skip); try have hne := ne_len h)) | refine EvQ.fin X.rs ?_ | refine EvQ.fin1 (fun _ => rfl) rfl ?_)
            exact ⟨_, rfl⟩
      ·
        have eb := beqLD a b
        repeat' (first | refine EvQ.run ?_ | refine EvQ.lift (fun _ zn => X.pcall (of47_ok _ _) X.cq rfl X.al rfl zn) ?_ | refine EvQ.lift (fun _ zn => X.pcallG (of47_ok _ _) rfl X.cq rfl X.al rfl zn) ?_ | refine EvQ.lift (fun _ zn => X.pcallT (of47_ok _ _) (by decide) X.cq rfl X.al rfl zn) ?_ | refine EvQ.lift (fun _ zn => X.pcall (ent46_ok [(sEtag, wq true a)]) X.cq rfl X.al rfl zn) ?_ | refine EvQ.lift (fun _ zn => X.pcallG (ent46_ok [(sEtag, wq true a)]) rfl X.cq rfl X.al rfl zn) ?_ | refine EvQ.lift (fun _ zn => X.pcallT (ent46_ok [(sEtag, wq true a)]) (by decide) X.cq rfl X.al rfl zn) ?_ | (refine EvQ.pickB rfl rfl rfl ?_) | (refine EvQ.cond rfl (fun h => ?_) (fun h => ?_) <;> ((first | replace h := X.nm h | skip); try have hne := ne_len h)) | (refine EvQ.g1 rfl (fun h => ?_) (fun h => ?_) <;> ((first | replace h := X.nm h | skip); try have hne := ne_len h)) | (refine EvQ.pick rfl (fun _ => rfl) (fun _ => rfl) (fun h => ?_) (fun h => ?_) <;> ((first | replace h := X.nm h | skip); try have hne := ne_len h)) | refine EvQ.fin X.rs ?_ | refine EvQ.fin1 (fun _ => rfl) rfl ?_)
        refine EvQ.calv rfl rfl rfl rfl (says1 true true oa ob la lb X.hq) ?_
        rintro _ _ ⟨rfl, rfl⟩
        repeat' (first | refine EvQ.run ?_ | (refine EvQ.pickB rfl rfl rfl ?_) | (refine EvQ.cond rfl (fun h => ?_) (fun h => ?_) <;> ((first | replace h := X.nm h | skip); try have hne := ne_len h)) | (refine EvQ.g1 rfl (fun h => ?_) (fun h => ?_) <;> ((first | replace h := X.nm h | skip); try have hne := ne_len h)) | (refine EvQ.pick rfl (fun _ => rfl) (fun _ => rfl) (fun h => ?_) (fun h => ?_) <;> ((first | replace h := X.nm h | skip); try have hne := ne_len h)) | refine EvQ.fin X.rs ?_ | refine EvQ.fin1 (fun _ => rfl) rfl ?_)
        · refine EvQ.calv rfl rfl rfl rfl (says2 true true oa ob la lb X.hq) ?_
          rintro _ _ ⟨rfl, rfl⟩
          repeat' (first | refine EvQ.run ?_ | (refine EvQ.pickB rfl rfl rfl ?_) | (refine EvQ.cond rfl (fun h => ?_) (fun h => ?_) <;> ((first | replace h := X.nm h | skip); try have hne := ne_len h)) | (refine EvQ.g1 rfl (fun h => ?_) (fun h => ?_) <;> ((first | replace h := X.nm h | skip); try have hne := ne_len h)) | (refine EvQ.pick rfl (fun _ => rfl) (fun _ => rfl) (fun h => ?_) (fun h => ?_) <;> ((first | replace h := X.nm h | skip); try have hne := ne_len h)) | refine EvQ.fin X.rs ?_ | refine EvQ.fin1 (fun _ => rfl) rfl ?_)
          · refine EvQ.calv rfl rfl rfl rfl (says3 true oa la X.hq) ?_
            rintro _ _ ⟨rfl, rfl⟩
            repeat' (first | refine EvQ.run ?_ | (refine EvQ.pickB rfl rfl rfl ?_) | (refine EvQ.cond rfl (fun h => ?_) (fun h => ?_) <;> ((first | replace h := X.nm h | skip); try have hne := ne_len h)) | (refine EvQ.g1 rfl (fun h => ?_) (fun h => ?_) <;> ((first | replace h := X.nm h | skip); try have hne := ne_len h)) | (refine EvQ.pick rfl (fun _ => rfl) (fun _ => rfl) (fun h => ?_) (fun h => ?_) <;> ((first | replace h := X.nm h | skip); try have hne := ne_len h)) | refine EvQ.fin X.rs ?_ | refine EvQ.fin1 (fun _ => rfl) rfl ?_)
            refine EvQ.calv rfl rfl rfl rfl (says4 true oa la X.hq) ?_
            rintro _ _ ⟨rfl, rfl⟩
            repeat' (first | refine EvQ.run ?_ | refine EvQ.lift (fun _ zn => X.pcall (mergeruns_ok) X.cq rfl X.al rfl zn) ?_ | refine EvQ.lift (fun _ zn => X.pcallG (mergeruns_ok) rfl X.cq rfl X.al rfl zn) ?_ | refine EvQ.lift (fun _ zn => X.pcallT (mergeruns_ok) (by decide) X.cq rfl X.al rfl zn) ?_ | (refine EvQ.pickB rfl rfl rfl ?_) | (refine EvQ.cond rfl (fun h => ?_) (fun h => ?_) <;> ((first | replace h := X.nm h | skip); try have hne := ne_len h)) | (refine EvQ.g1 rfl (fun h => ?_) (fun h => ?_) <;> ((first | replace h := X.nm h | skip); try have hne := ne_len h)) | (refine EvQ.pick rfl (fun _ => rfl) (fun _ => rfl) (fun h => ?_) (fun h => ?_) <;> ((first | replace h := X.nm h | skip); try have hne := ne_len h)) | refine EvQ.fin X.rs ?_ | refine EvQ.fin1 (fun _ => rfl) rfl ?_)
            exact ⟨_, rfl⟩
theorem tags_said (xs : List V) (h : ShP [(false, [.st]), (false, [.st]), (false, [.bo]), (false, [.bo])] xs) (hb : sizP xs ≤ 1048576) : ∃ L k hp', runF (callF F L k) L c18 xs h0 = .ret (.bo true) hp' := by
  obtain ⟨v, r, rfl, h1, h, e1⟩ := h.one'
  obtain ⟨w, r, rfl, h2, h, e2⟩ := h.one'
  obtain ⟨x, r, rfl, h3, h, e3⟩ := h.one'
  obtain ⟨y, r, rfl, h4, h, e4⟩ := h.one'
  cases h.nil'
  obtain ⟨a, rfl, ta, la⟩ := text_of h1
  obtain ⟨b, rfl, tb, lb⟩ := text_of h2
  obtain ⟨p, rfl⟩ := bool_of h3
  obtain ⟨q, rfl⟩ := bool_of h4
  exact law_of d18 rfl (tags_run a b p q (by omega) (by omega))
end Go.Proofs.Ytcbiplmgaiipgaa
