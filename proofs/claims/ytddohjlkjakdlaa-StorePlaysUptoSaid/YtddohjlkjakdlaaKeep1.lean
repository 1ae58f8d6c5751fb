import Derived.Test.YtddohjlkjakdlaaEvE
import Derived.Test.YtddohjlkjakdlaaSameM
import Derived.Test.YtddohjlkjakdlaaTok2
set_option linter.unusedVariables false
set_option linter.unusedSimpArgs false
set_option linter.unusedSectionVars false
set_option linter.unusedVariables false
set_option linter.unusedSimpArgs false
-- what the laws of layers 20 and 22 lean on: sizes; the document's own lists
namespace Go.Proofs.Ytddohjlkjakdlaa
open Go hiding Fn
open Ev tab
attribute [local irreducible] EvD EvL EvC evGds evLs C.run sK bK gK pK fK lpB stepD

/-- fields of bytes -/
def TOK (l : List Fld) : Prop := ∀ f, f ∈ l → Txt f.1 ∧ Txt f.2
/-- fields of no wild length -/
def BOK (l : List Fld) : Prop := l.length ≤ 10000000 ∧ ∀ f, f ∈ l → f.1.length ≤ 10000000 ∧ f.2.length ≤ 10000000
theorem BOK.get {l : List Fld} (h : BOK l) (i : Nat) : (l.getD i f0).1.length ≤ 10000000 ∧ (l.getD i f0).2.length ≤ 10000000 := by
  by_cases hi : i < l.length
  · rw [List.getD, List.getElem?_eq_getElem hi]; exact h.2 _ (List.getElem_mem hi)
  · rw [List.getD, List.getElem?_eq_none (by omega)]; exact ⟨Nat.zero_le _, Nat.zero_le _⟩
theorem JOK.bok {l : List Fld} (h : JOK l) : BOK l := ⟨by have := h.1; omega, fun f hf => by have := h.2 f hf; omega⟩
theorem JOK.take {l : List Fld} (h : JOK l) (i : Nat) : JOK (l.take i) := ⟨by have := h.1; rw [List.length_take]; omega, fun f hf => h.2 f (List.mem_of_mem_take hf)⟩
def lkGo (n : Nat) : List Fld → Bool
  | [] => true
  | f :: r => if 2000 < n + f.1.length + f.2.length + 1 then false else lkGo (n + f.1.length + f.2.length + 1) r
def lkB (l : List Fld) : Bool := lkGo 0 l
theorem lkGo_ok : ∀ (l : List Fld) (n : Nat), lkGo n l = true → (l = [] ∨ n + l.length ≤ 2000) ∧ ∀ f, f ∈ l → f.1.length ≤ 2000 ∧ f.2.length ≤ 2000
  | [], n, _ => ⟨.inl rfl, fun _ h => absurd h List.not_mem_nil⟩
  | f :: r, n, h => by
    unfold lkGo at h
    split at h
    · cases h
    · obtain ⟨h1, h2⟩ := lkGo_ok r _ h
      refine ⟨.inr ?_, fun g hg => ?_⟩
      · rw [List.length_cons]
        rcases h1 with rfl | h1
        · rw [List.length_nil]; omega
        · omega
      · rcases List.mem_cons.1 hg with rfl | hg
        · omega
        · exact h2 g hg
theorem lkB_jok {l : List Fld} (h : lkB l = true) : JOK l := by
  obtain ⟨h1, h2⟩ := lkGo_ok l 0 h
  refine ⟨?_, fun f hf => by have := h2 f hf; omega⟩
  rcases h1 with rfl | h1
  · exact Nat.zero_le _
  · omega
set_option maxHeartbeats 8000000 in
theorem lk_ok (l : List Fld) (hl : BOK l) : EvP F 39 c39 [.vs 2 (fds l)] [.bo (lkB l)] := by
  have hl1 := hl.1
  refine EvP.ofQ d39 rfl rfl rfl ?_
  generalize ht : lkB l = t
  repeat' (first | refine EvQ.run ?_ | (refine EvQ.pickB rfl rfl rfl ?_) | (refine EvQ.cond rfl (fun h => ?_) (fun h => ?_) <;> ((first | replace h := X.nm h | skip); try have hne := ne_len h)) | (refine EvQ.g1 rfl (fun h => ?_) (fun h => ?_) <;> ((first | replace h := X.nm h | skip); try have hne := ne_len h)) | (refine EvQ.pick rfl (fun _ => rfl) (fun _ => rfl) (fun h => ?_) (fun h => ?_) <;> ((first | replace h := X.nm h | skip); try have hne := ne_len h)) | refine EvQ.fin X.rs ?_ | refine EvQ.fin1 (fun _ => rfl) rfl ?_)
  refine EvQ.loop (QL := fun r => (t = true ∧ XtQ 0 [] (fun _ _ => True) r) ∨ (t = false ∧ RtQ [(2, .bo false)] (fun _ _ => True) r)) ?_ ?_
  · refine EvL.invQ (S := Nat × Nat) (fun x => [(0, .vs 2 (fds l)), (3, .it .i64 (Int.ofNat x.2)), (4, .it .i64 (Int.ofNat x.1))]) (fun x _ _ => x.1 ≤ l.length ∧ x.2 ≤ 2000 ∧ lkGo x.2 (l.drop x.1) = t) (fun x => l.length - x.1) _ ?_ (0, 0) _ _ _ ⟨Nat.zero_le _, Nat.zero_le _, ht⟩ X.kv
    intro ⟨i, n⟩ lo hp ⟨h1, h2, h3⟩
    simp only at h1 h2 h3
    obtain ⟨b1, b2⟩ := hl.get i
    have hd : i < l.length → lkGo n (l.drop i) = if 2000 < n + (l.getD i f0).1.length + (l.getD i f0).2.length + 1 then false else lkGo (n + (l.getD i f0).1.length + (l.getD i f0).2.length + 1) (l.drop (i + 1)) := fun h => by rw [drop_getD h f0]; rfl
    repeat' (first | refine EvQ.run ?_ | (refine EvQ.pickB rfl rfl rfl ?_) | (refine EvQ.cond rfl (fun h => ?_) (fun h => ?_) <;> ((first | replace h := X.nm h | skip); try have hne := ne_len h)) | (refine EvQ.g1 rfl (fun h => ?_) (fun h => ?_) <;> ((first | replace h := X.nm h | skip); try have hne := ne_len h)) | (refine EvQ.pick rfl (fun _ => rfl) (fun _ => rfl) (fun h => ?_) (fun h => ?_) <;> ((first | replace h := X.nm h | skip); try have hne := ne_len h)) | refine EvQ.fin X.rs ?_ | refine EvQ.fin1 (fun _ => rfl) rfl ?_)
    · rw [hd (by assumption), if_pos (by assumption)] at h3
      exact EvQ.rt (.inr ⟨h3.symm, .mk' X.kv trivial⟩)
    · rw [hd (by assumption), if_neg (by assumption)] at h3
      exact EvQ.go (i + 1, _) X.kv ⟨by show i + 1 ≤ _; omega, by show _ ≤ 2000; omega, h3⟩ (by show l.length - (i + 1) < l.length - i; omega)
    · rw [List.drop_of_length_le (by omega)] at h3
      exact EvQ.xt (.inl ⟨h3.symm, .mk' X.kv trivial⟩)
  · rintro _ (⟨rfl, tm, lo, hp, rfl, -⟩ | ⟨rfl, tm, lo, hp, rfl, -⟩)
    · repeat' (first | refine EvQ.run ?_ | (refine EvQ.pickB rfl rfl rfl ?_) | (refine EvQ.cond rfl (fun h => ?_) (fun h => ?_) <;> ((first | replace h := X.nm h | skip); try have hne := ne_len h)) | (refine EvQ.g1 rfl (fun h => ?_) (fun h => ?_) <;> ((first | replace h := X.nm h | skip); try have hne := ne_len h)) | (refine EvQ.pick rfl (fun _ => rfl) (fun _ => rfl) (fun h => ?_) (fun h => ?_) <;> ((first | replace h := X.nm h | skip); try have hne := ne_len h)) | refine EvQ.fin X.rs ?_ | refine EvQ.fin1 (fun _ => rfl) rfl ?_)
      exact PQ.bo rfl
    · repeat' (first | refine EvQ.run ?_ | (refine EvQ.pickB rfl rfl rfl ?_) | (refine EvQ.cond rfl (fun h => ?_) (fun h => ?_) <;> ((first | replace h := X.nm h | skip); try have hne := ne_len h)) | (refine EvQ.g1 rfl (fun h => ?_) (fun h => ?_) <;> ((first | replace h := X.nm h | skip); try have hne := ne_len h)) | (refine EvQ.pick rfl (fun _ => rfl) (fun _ => rfl) (fun h => ?_) (fun h => ?_) <;> ((first | replace h := X.nm h | skip); try have hne := ne_len h)) | refine EvQ.fin X.rs ?_ | refine EvQ.fin1 (fun _ => rfl) rfl ?_)
      exact PQ.bo rfl
def smB (e : En) : Bool := lkB e.q.fs && (lkB e.s.fs && decide (e.body.length ≤ 2000))
set_option maxHeartbeats 4000000 in
theorem small_ok (e : En) (h1 : BOK e.q.fs) (h2 : BOK e.s.fs) : EvP F 38 c38 [.ag (rowEn e)] [.bo (smB e)] := by
  have q1 := lk_ok e.q.fs h1
  have q2 := lk_ok e.s.fs h2
  refine EvP.ofQ d38 rfl rfl rfl ?_
  repeat' (first | refine EvQ.run ?_ | refine EvQ.lift (fun _ zn => X.pcall (q1) X.cq rfl X.al rfl zn) ?_ | refine EvQ.lift (fun _ zn => X.pcallG (q1) rfl X.cq rfl X.al rfl zn) ?_ | refine EvQ.lift (fun _ zn => X.pcallC (q1) rfl X.cq rfl X.al rfl zn) ?_ | refine EvQ.lift (fun _ zn => X.pcallT (q1) (by decide) X.cq rfl X.al rfl zn) ?_ | refine EvQ.lift (fun _ zn => X.call rfl X.al (q1) zn) ?_ | refine EvQ.lift (fun _ zn => X.pcall (q2) X.cq rfl X.al rfl zn) ?_ | refine EvQ.lift (fun _ zn => X.pcallG (q2) rfl X.cq rfl X.al rfl zn) ?_ | refine EvQ.lift (fun _ zn => X.pcallC (q2) rfl X.cq rfl X.al rfl zn) ?_ | refine EvQ.lift (fun _ zn => X.pcallT (q2) (by decide) X.cq rfl X.al rfl zn) ?_ | refine EvQ.lift (fun _ zn => X.call rfl X.al (q2) zn) ?_ | (refine EvQ.pickB rfl rfl rfl ?_) | (refine EvQ.cond rfl (fun h => ?_) (fun h => ?_) <;> ((first | replace h := X.nm h | skip); try have hne := ne_len h)) | (refine EvQ.g1 rfl (fun h => ?_) (fun h => ?_) <;> ((first | replace h := X.nm h | skip); try have hne := ne_len h)) | (refine EvQ.pick rfl (fun _ => rfl) (fun _ => rfl) (fun h => ?_) (fun h => ?_) <;> ((first | replace h := X.nm h | skip); try have hne := ne_len h)) | refine EvQ.fin X.rs ?_ | refine EvQ.fin1 (fun _ => rfl) rfl ?_)
  all_goals
    refine PQ.bo ?_
    unfold smB
    first
      | (rw [show lkB e.q.fs = false by assumption]; rfl)
      | (rw [show lkB e.q.fs = true by assumption, show lkB e.s.fs = false by assumption]; rfl)
      | (rw [show lkB e.q.fs = true by assumption, show lkB e.s.fs = true by assumption]; rw [ilt_eq, Bool.eq_iff_iff]; simp; omega)

theorem joinL_snoc (v : List Nat) : ∀ ls : List (List Nat), joinL (ls ++ [v]) sSep = if ls.length = 0 then v else (joinL ls sSep ++ sSep) ++ v
  | [] => rfl
  | [x] => by simp [joinL]
  | x :: y :: r => by
    have ih := joinL_snoc v (y :: r)
    rw [if_neg (by simp)] at ih ⊢
    show x ++ (sSep ++ joinL ((y :: r) ++ [v]) sSep) = _
    rw [ih]
    simp [joinL, List.append_assoc]
theorem allF_getD {l : List Fld} {i : Nat} (h : i < l.length) (n : List Nat) : allF (l.take (i + 1)) n = if (l.getD i f0).1 = n then (if (valsF (l.take i) n).length = 0 then (l.getD i f0).2 else (allF (l.take i) n ++ sSep) ++ (l.getD i f0).2) else allF (l.take i) n := by
  unfold allF
  rw [valsF_getD h]
  split
  · rw [joinL_snoc]
  · rfl
theorem allF_nil {l : List Fld} {n : List Nat} (h : (valsF l n).length = 0) : allF l n = [] := by
  unfold allF; rw [List.eq_nil_of_length_eq_zero h]; rfl
set_option maxHeartbeats 8000000 in
theorem rall_ok2 (l : List Fld) (name : List Nat) (hB : BOK l) (hA : ∀ i, (allF (l.take i) name).length ≤ 1000000000) : EvP F 46 c46 [.vs 2 (fds l), .st name] [.st (allF l name), .it .i64 (Int.ofNat (valsF l name).length)] := by
  have hl1 := hB.1
  refine EvP.ofQ d46 rfl rfl rfl ?_
  repeat' (first | refine EvQ.run ?_ | (refine EvQ.pickB rfl rfl rfl ?_) | (refine EvQ.cond rfl (fun h => ?_) (fun h => ?_) <;> ((first | replace h := X.nm h | skip); try have hne := ne_len h)) | (refine EvQ.g1 rfl (fun h => ?_) (fun h => ?_) <;> ((first | replace h := X.nm h | skip); try have hne := ne_len h)) | (refine EvQ.pick rfl (fun _ => rfl) (fun _ => rfl) (fun h => ?_) (fun h => ?_) <;> ((first | replace h := X.nm h | skip); try have hne := ne_len h)) | refine EvQ.fin X.rs ?_ | refine EvQ.fin1 (fun _ => rfl) rfl ?_)
  refine EvQ.loop (QL := XtQ 0 [(6, .st (allF l name)), (7, .it .i64 (Int.ofNat (valsF l name).length))] (fun _ _ => True)) ?_ ?_
  · refine EvL.invQ (S := Nat) (fun i => [(0, .vs 2 (fds l)), (1, .st name), (6, .st (allF (l.take i) name)), (7, .it .i64 (Int.ofNat (valsF (l.take i) name).length)), (8, .it .i64 (Int.ofNat i))]) (fun i _ _ => i ≤ l.length) (fun i => l.length - i) _ ?_ 0 _ _ _ (Nat.zero_le _) X.kv
    intro i lo hp h1
    have b1 := hA i
    obtain ⟨b2, b3⟩ := hB.get i
    have b4 := valsF_len (l.take i) name
    rw [List.length_take] at b4
    have a1 := fun h : i < l.length => allF_getD h name
    have a2 := fun h : i < l.length => valsF_getD h name
    repeat' (first | refine EvQ.run ?_ | (refine EvQ.pickB rfl rfl rfl ?_) | (refine EvQ.cond rfl (fun h => ?_) (fun h => ?_) <;> ((first | replace h := X.nm h | skip); try have hne := ne_len h)) | (refine EvQ.g1 rfl (fun h => ?_) (fun h => ?_) <;> ((first | replace h := X.nm h | skip); try have hne := ne_len h)) | (refine EvQ.pick rfl (fun _ => rfl) (fun _ => rfl) (fun h => ?_) (fun h => ?_) <;> ((first | replace h := X.nm h | skip); try have hne := ne_len h)) | refine EvQ.fin X.rs ?_ | refine EvQ.fin1 (fun _ => rfl) rfl ?_)
    · have e1 := a1 (by assumption)
      have e2 := congrArg List.length (a2 (by assumption))
      rw [if_neg (by assumption)] at e1 e2
      exact EvQ.go (i + 1) (kvc rfl (kvc rfl (kvc (congrArg V.st e1.symm) (kvc (congrArg (fun n : Nat => V.it .i64 (Int.ofNat n)) e2.symm) (kvc rfl rfl))))) (by omega) (by omega)
    · have e1 := a1 (by assumption)
      have e2 := congrArg List.length (a2 (by assumption))
      rw [if_pos (by assumption)] at e1 e2
      rw [if_neg (by omega)] at e1
      rw [List.length_append] at e2
      exact EvQ.go (i + 1) (kvc rfl (kvc rfl (kvc (congrArg V.st e1.symm) (kvc (congrArg (fun n : Nat => V.it .i64 (Int.ofNat n)) e2.symm) (kvc rfl rfl))))) (by omega) (by omega)
    · have e1 := a1 (by assumption)
      have e2 := congrArg List.length (a2 (by assumption))
      rw [if_pos (by assumption)] at e1 e2
      rw [if_pos (by omega)] at e1
      rw [List.length_append] at e2
      have e3 := allF_nil (l := l.take i) (n := name) (by omega)
      exact EvQ.go (i + 1) (kvc rfl (kvc rfl (kvc (congrArg V.st (by rw [e1, e3]; rfl)) (kvc (congrArg (fun n : Nat => V.it .i64 (Int.ofNat n)) e2.symm) (kvc rfl rfl))))) (by omega) (by omega)
    · have hi : i = l.length := by omega
      subst hi
      exact EvQ.xt (.mk' (kvc (congrArg V.st (by rw [List.take_length])) (kvc (congrArg (fun n : Nat => V.it .i64 (Int.ofNat n)) (by rw [List.take_length])) rfl)) trivial)
  · rintro _ ⟨tm, lo, hp, rfl, -⟩
    repeat' (first | refine EvQ.run ?_ | (refine EvQ.pickB rfl rfl rfl ?_) | (refine EvQ.cond rfl (fun h => ?_) (fun h => ?_) <;> ((first | replace h := X.nm h | skip); try have hne := ne_len h)) | (refine EvQ.g1 rfl (fun h => ?_) (fun h => ?_) <;> ((first | replace h := X.nm h | skip); try have hne := ne_len h)) | (refine EvQ.pick rfl (fun _ => rfl) (fun _ => rfl) (fun h => ?_) (fun h => ?_) <;> ((first | replace h := X.nm h | skip); try have hne := ne_len h)) | refine EvQ.fin X.rs ?_ | refine EvQ.fin1 (fun _ => rfl) rfl ?_)
    exact PQ.of (.s (clo_st _) (.s (clo_it _ _) (.nil _)))
theorem rall_ok (l : List Fld) (name : List Nat) (hl : JOK l) : EvP F 46 c46 [.vs 2 (fds l), .st name] [.st (allF l name), .it .i64 (Int.ofNat (valsF l name).length)] :=
  rall_ok2 l name hl.bok fun i => Nat.le_trans (allF_len (hl.take i) name) (by decide)

theorem rblank_ok (c : Nat) : EvP F 63 c63 [.it .u8 (Int.ofNat c)] [.bo (blankB c)] := by
  refine EvP.ofQ d63 rfl rfl rfl ?_
  repeat' (first | refine EvQ.run ?_ | (refine EvQ.pickB rfl rfl rfl ?_) | (refine EvQ.cond rfl (fun h => ?_) (fun h => ?_) <;> ((first | replace h := X.nm h | skip); try have hne := ne_len h)) | (refine EvQ.g1 rfl (fun h => ?_) (fun h => ?_) <;> ((first | replace h := X.nm h | skip); try have hne := ne_len h)) | (refine EvQ.pick rfl (fun _ => rfl) (fun _ => rfl) (fun h => ?_) (fun h => ?_) <;> ((first | replace h := X.nm h | skip); try have hne := ne_len h)) | refine EvQ.fin X.rs ?_ | refine EvQ.fin1 (fun _ => rfl) rfl ?_)
  all_goals
    refine PQ.bo ?_
    rw [Bool.eq_iff_iff]
    simp [blankB, ieqD] at *
    try omega
set_option maxHeartbeats 8000000 in
theorem rtrim_ok (s0 : List Nat) (hl : s0.length ≤ 1000000000) : EvP F 55 c55 [.st s0] [.st (trimS s0)] := by
  refine EvP.ofQ d55 rfl rfl rfl ?_
  repeat' (first | refine EvQ.run ?_ | (refine EvQ.pickB rfl rfl rfl ?_) | (refine EvQ.cond rfl (fun h => ?_) (fun h => ?_) <;> ((first | replace h := X.nm h | skip); try have hne := ne_len h)) | (refine EvQ.g1 rfl (fun h => ?_) (fun h => ?_) <;> ((first | replace h := X.nm h | skip); try have hne := ne_len h)) | (refine EvQ.pick rfl (fun _ => rfl) (fun _ => rfl) (fun h => ?_) (fun h => ?_) <;> ((first | replace h := X.nm h | skip); try have hne := ne_len h)) | refine EvQ.fin X.rs ?_ | refine EvQ.fin1 (fun _ => rfl) rfl ?_)
  refine EvQ.loop (QL := XtQ 0 [(0, .st (s0.dropWhile blankB))] (fun _ _ => True)) ?_ ?_
  · refine EvL.invQ (S := List Nat) (fun s => [(0, .st s)]) (fun s _ _ => s.length ≤ s0.length ∧ s.dropWhile blankB = s0.dropWhile blankB) (fun s => s.length) _ ?_ s0 _ _ _ ⟨Nat.le_refl _, rfl⟩ rfl
    intro s lo hp ⟨h1, h2⟩
    repeat' (first | refine EvQ.run ?_ | refine EvQ.lift (fun _ zn => X.pcall (rblank_ok _) X.cq rfl X.al rfl zn) ?_ | refine EvQ.lift (fun _ zn => X.pcallG (rblank_ok _) rfl X.cq rfl X.al rfl zn) ?_ | refine EvQ.lift (fun _ zn => X.pcallC (rblank_ok _) rfl X.cq rfl X.al rfl zn) ?_ | refine EvQ.lift (fun _ zn => X.pcallT (rblank_ok _) (by decide) X.cq rfl X.al rfl zn) ?_ | refine EvQ.lift (fun _ zn => X.call rfl X.al (rblank_ok _) zn) ?_ | (refine EvQ.pickB rfl rfl rfl ?_) | (refine EvQ.cond rfl (fun h => ?_) (fun h => ?_) <;> ((first | replace h := X.nm h | skip); try have hne := ne_len h)) | (refine EvQ.g1 rfl (fun h => ?_) (fun h => ?_) <;> ((first | replace h := X.nm h | skip); try have hne := ne_len h)) | (refine EvQ.pick rfl (fun _ => rfl) (fun _ => rfl) (fun h => ?_) (fun h => ?_) <;> ((first | replace h := X.nm h | skip); try have hne := ne_len h)) | refine EvQ.fin X.rs ?_ | refine EvQ.fin1 (fun _ => rfl) rfl ?_)
    · have hs : ¬ s = [] := by intro e; subst e; simp at *
      refine EvQ.go (s.drop 1) X.kv ⟨by rw [List.length_drop]; omega, ?_⟩ (by rw [List.length_drop]; omega)
      rw [← h2, dw_cons hs, h]; rfl
    · have hs : ¬ s = [] := by intro e; subst e; simp at *
      refine EvQ.xt (.mk' (kvc (congrArg V.st ?_) rfl) trivial)
      rw [← h2, dw_cons hs, h]; rfl
    · have hs : s = [] := List.eq_nil_of_length_eq_zero (by omega)
      refine EvQ.xt (.mk' (kvc (congrArg V.st ?_) rfl) trivial)
      rw [← h2, hs]; rfl
  · rintro _ ⟨tm, lo, hp, rfl, -⟩
    repeat' (first | refine EvQ.run ?_ | (refine EvQ.pickB rfl rfl rfl ?_) | (refine EvQ.cond rfl (fun h => ?_) (fun h => ?_) <;> ((first | replace h := X.nm h | skip); try have hne := ne_len h)) | (refine EvQ.g1 rfl (fun h => ?_) (fun h => ?_) <;> ((first | replace h := X.nm h | skip); try have hne := ne_len h)) | (refine EvQ.pick rfl (fun _ => rfl) (fun _ => rfl) (fun h => ?_) (fun h => ?_) <;> ((first | replace h := X.nm h | skip); try have hne := ne_len h)) | refine EvQ.fin X.rs ?_ | refine EvQ.fin1 (fun _ => rfl) rfl ?_)
    have hd : (s0.dropWhile blankB).length ≤ s0.length := (List.dropWhile_sublist (p := blankB) (l := s0)).length_le
    refine EvQ.loop (QL := XtQ 2 [(0, .st (trimS s0))] (fun _ _ => True)) ?_ ?_
    · refine EvL.invQ (S := List Nat) (fun s => [(0, .st s)]) (fun s _ _ => s.length ≤ s0.length ∧ trimR s = trimS s0) (fun s => s.length) _ ?_ (s0.dropWhile blankB) _ _ _ ⟨hd, rfl⟩ rfl
      intro s lo hp ⟨h1, h2⟩
      repeat' (first | refine EvQ.run ?_ | refine EvQ.lift (fun _ zn => X.pcall (rblank_ok _) X.cq rfl X.al rfl zn) ?_ | refine EvQ.lift (fun _ zn => X.pcallG (rblank_ok _) rfl X.cq rfl X.al rfl zn) ?_ | refine EvQ.lift (fun _ zn => X.pcallC (rblank_ok _) rfl X.cq rfl X.al rfl zn) ?_ | refine EvQ.lift (fun _ zn => X.pcallT (rblank_ok _) (by decide) X.cq rfl X.al rfl zn) ?_ | refine EvQ.lift (fun _ zn => X.call rfl X.al (rblank_ok _) zn) ?_ | (refine EvQ.pickB rfl rfl rfl ?_) | (refine EvQ.cond rfl (fun h => ?_) (fun h => ?_) <;> ((first | replace h := X.nm h | skip); try have hne := ne_len h)) | (refine EvQ.g1 rfl (fun h => ?_) (fun h => ?_) <;> ((first | replace h := X.nm h | skip); try have hne := ne_len h)) | (refine EvQ.pick rfl (fun _ => rfl) (fun _ => rfl) (fun h => ?_) (fun h => ?_) <;> ((first | replace h := X.nm h | skip); try have hne := ne_len h)) | refine EvQ.fin X.rs ?_ | refine EvQ.fin1 (fun _ => rfl) rfl ?_)
      · have hs : ¬ s = [] := by intro e; subst e; simp at *
        refine EvQ.go (s.take (s.length - 1)) X.kv ⟨by rw [List.length_take]; omega, ?_⟩ (by rw [List.length_take]; omega)
        rw [← h2, tr_snoc hs, h]; rfl
      · have hs : ¬ s = [] := by intro e; subst e; simp at *
        refine EvQ.xt (.mk' (kvc (congrArg V.st ?_) rfl) trivial)
        rw [← h2, tr_snoc hs, h]; rfl
      · have hs : s = [] := List.eq_nil_of_length_eq_zero (by omega)
        refine EvQ.xt (.mk' (kvc (congrArg V.st ?_) rfl) trivial)
        rw [← h2, hs]; rfl
    · rintro _ ⟨tm, lo, hp, rfl, -⟩
      repeat' (first | refine EvQ.run ?_ | (refine EvQ.pickB rfl rfl rfl ?_) | (refine EvQ.cond rfl (fun h => ?_) (fun h => ?_) <;> ((first | replace h := X.nm h | skip); try have hne := ne_len h)) | (refine EvQ.g1 rfl (fun h => ?_) (fun h => ?_) <;> ((first | replace h := X.nm h | skip); try have hne := ne_len h)) | (refine EvQ.pick rfl (fun _ => rfl) (fun _ => rfl) (fun h => ?_) (fun h => ?_) <;> ((first | replace h := X.nm h | skip); try have hne := ne_len h)) | refine EvQ.fin X.rs ?_ | refine EvQ.fin1 (fun _ => rfl) rfl ?_)
      exact PQ.st rfl

/-- what is left of a list to split: in a quoted text or not; behind its end -/
def rsT (n : Nat) (s : List Nat) (i f : Nat) (q : Bool) (acc : List (List Nat)) : Option (List (List Nat)) :=
  if i ≤ s.length then (if q = true then (match quoGo (s.drop i) i with | none => none | some j => splGo n s j f acc) else splGo n s i f acc) else (if q = true then none else some acc)
theorem rsT_0 {n : Nat} {s : List Nat} {i f : Nat} {acc : List (List Nat)} (h : i ≤ s.length) : rsT n s i f false acc = splGo n s i f acc := by unfold rsT; rw [if_pos h]; rfl
theorem rsT_1 {n : Nat} {s : List Nat} {i f : Nat} {acc : List (List Nat)} (h : i ≤ s.length) : rsT n s i f true acc = (match quoGo (s.drop i) i with | none => none | some j => splGo n s j f acc) := by unfold rsT; rw [if_pos h]; rfl
theorem rsT_e {n : Nat} {s : List Nat} {i f : Nat} {q : Bool} {acc : List (List Nat)} (h : ¬ i ≤ s.length) : rsT n s i f q acc = if q = true then none else some acc := by unfold rsT; rw [if_neg h]
set_option maxHeartbeats 16000000 in
theorem rsplit_ok (s : List Nat) (hs : s.length ≤ 10000000) : EvP F 47 c47 [.st s] [.vs 1 (txs ((splS s).getD [])), .bo (splS s).isSome] := by
  refine EvP.ofQ d47 rfl rfl rfl ?_
  generalize ht : splS s = t
  repeat' (first | refine EvQ.run ?_ | (refine EvQ.pickB rfl rfl rfl ?_) | (refine EvQ.cond rfl (fun h => ?_) (fun h => ?_) <;> ((first | replace h := X.nm h | skip); try have hne := ne_len h)) | (refine EvQ.g1 rfl (fun h => ?_) (fun h => ?_) <;> ((first | replace h := X.nm h | skip); try have hne := ne_len h)) | (refine EvQ.pick rfl (fun _ => rfl) (fun _ => rfl) (fun h => ?_) (fun h => ?_) <;> ((first | replace h := X.nm h | skip); try have hne := ne_len h)) | refine EvQ.fin X.rs ?_ | refine EvQ.fin1 (fun _ => rfl) rfl ?_)
  refine EvQ.loop (QL := fun r => (t = none ∧ RtQ [(2, .ns), (3, .bo false)] (fun _ _ => True) r) ∨ (∃ v q acc, (if q = true then none else some acc) = t ∧ acc.length ≤ s.length + 1 ∧ XtQ 0 [(4, v), (6, .bo q)] (fun _ hp => Ow hp v 1 (txs acc)) r)) ?_ ?_
  · refine EvL.invQ (S := Nat × Nat × Nat × Bool × List (List Nat) × V) (fun x => [(0, .st s), (4, x.2.2.2.2.2), (5, .it .i64 (Int.ofNat x.2.2.1)), (6, .bo x.2.2.2.1), (7, .it .i64 (Int.ofNat x.2.1))])
      (fun x _ hp => Ow hp x.2.2.2.2.2 1 (txs x.2.2.2.2.1) ∧ hp.lim ≤ hp.next ∧ x.2.2.2.2.1.length ≤ x.2.1 ∧ x.2.2.1 ≤ x.2.1 ∧ x.2.1 ≤ s.length + 1 ∧ s.length - x.2.1 < x.1 ∧ rsT x.1 s x.2.1 x.2.2.1 x.2.2.2.1 x.2.2.2.2.1 = t)
      (fun x => s.length + 1 - x.2.1) _ ?_ (s.length + 1, 0, 0, false, [], .ns) _ _ _ ⟨.ns, Nat.le_refl _, Nat.le_refl _, Nat.le_refl _, by simp, by simp, by rw [← ht]; rfl⟩ X.kv
    intro ⟨n, i, f, q, acc, v⟩ lo hp ⟨hO, hlim, h1, h2, h3, h4, h5⟩
    simp only at hO hlim h1 h2 h3 h4 h5
    have hel := hO.lp
    have htr := rtrim_ok ((s.drop f).take (i - f)) (by rw [List.length_take, List.length_drop]; omega)
    have hp1 : trimS ((s.drop f).take (i - f)) = [] → putS acc ((s.drop f).take (i - f)) = acc := fun h => by unfold putS; rw [if_pos h]
    have hp2 : ¬ trimS ((s.drop f).take (i - f)) = [] → putS acc ((s.drop f).take (i - f)) = acc ++ [trimS ((s.drop f).take (i - f))] := fun h => by unfold putS; rw [if_neg h]
    have hO' := fun z => hO.put (new := txs [z]) hlim
    have hlim' : ∀ rows, (oah hp v 1 rows).lim ≤ (oah hp v 1 rows).next := fun rows => by rw [oah_lim, oah_next]; omega
    cases q
    · repeat' (first | refine EvQ.run ?_ | refine EvQ.lift (fun _ zn => X.pcall (htr) X.cq rfl X.al rfl zn) ?_ | refine EvQ.lift (fun _ zn => X.pcallG (htr) rfl X.cq rfl X.al rfl zn) ?_ | refine EvQ.lift (fun _ zn => X.pcallC (htr) rfl X.cq rfl X.al rfl zn) ?_ | refine EvQ.lift (fun _ zn => X.pcallT (htr) (by decide) X.cq rfl X.al rfl zn) ?_ | refine EvQ.lift (fun _ zn => X.call rfl X.al (htr) zn) ?_ | (refine EvQ.pickB rfl rfl rfl ?_) | (refine EvQ.cond rfl (fun h => ?_) (fun h => ?_) <;> ((first | replace h := X.nm h | skip); try have hne := ne_len h)) | (refine EvQ.g1 rfl (fun h => ?_) (fun h => ?_) <;> ((first | replace h := X.nm h | skip); try have hne := ne_len h)) | (refine EvQ.pick rfl (fun _ => rfl) (fun _ => rfl) (fun h => ?_) (fun h => ?_) <;> ((first | replace h := X.nm h | skip); try have hne := ne_len h)) | refine EvQ.fin X.rs ?_ | refine EvQ.fin1 (fun _ => rfl) rfl ?_)
      · rw [rsT_0 (by omega), splGo_at (by omega) (by omega), if_pos (by assumption), hp2 (by assumption), ← rsT_0 (by omega)] at h5
        exact EvQ.go (n - 1, i + 1, i + 1, false, _, _) X.kv ⟨by simp only; rw [← txs_append]; exact hO' _, hlim' _, by rw [List.length_append]; simp; omega, Nat.le_refl _, by simp only; omega, by simp only; omega, h5⟩ (by simp only; omega)
      · rw [rsT_0 (by omega), splGo_at (by omega) (by omega), if_pos (by assumption), hp1 (by assumption), ← rsT_0 (by omega)] at h5
        exact EvQ.go (n - 1, i + 1, i + 1, false, acc, v) X.kv ⟨hO, hlim, by simp only; omega, Nat.le_refl _, by simp only; omega, by simp only; omega, h5⟩ (by simp only; omega)
      · rw [rsT_0 (by omega), splGo_at (by omega) (by omega), if_neg (by assumption), if_pos (by assumption)] at h5
        exact EvQ.go (n - 1, i + 1, f, true, acc, v) X.kv ⟨hO, hlim, by simp only; omega, by simp only; omega, by simp only; omega, by simp only; omega, (rsT_1 (by simp only; omega)).trans h5⟩ (by simp only; omega)
      · rw [rsT_0 (by omega), splGo_at (by omega) (by omega), if_neg (by assumption), if_neg (by assumption), ← rsT_0 (by omega)] at h5
        exact EvQ.go (n - 1, i + 1, f, false, acc, v) X.kv ⟨hO, hlim, by simp only; omega, by simp only; omega, by simp only; omega, by simp only; omega, h5⟩ (by simp only; omega)
      · have hi : i = s.length := by omega
        rw [rsT_0 (by omega), splGo_end (by omega) (by omega), ← hi, hp2 (by assumption)] at h5
        exact EvQ.go (n, i + 1, i + 1, false, _, _) X.kv ⟨by simp only; rw [← txs_append]; exact hO' _, hlim' _, by rw [List.length_append]; simp; omega, Nat.le_refl _, by simp only; omega, by simp only; omega, (rsT_e (by simp only; omega)).trans h5⟩ (by simp only; omega)
      · have hi : i = s.length := by omega
        rw [rsT_0 (by omega), splGo_end (by omega) (by omega), ← hi, hp1 (by assumption)] at h5
        exact EvQ.go (n, i + 1, i + 1, false, acc, v) X.kv ⟨hO, hlim, by simp only; omega, Nat.le_refl _, by simp only; omega, by simp only; omega, (rsT_e (by simp only; omega)).trans h5⟩ (by simp only; omega)
      · rw [rsT_e (by omega)] at h5
        exact EvQ.xt (.inr ⟨v, false, acc, h5, by omega, .mk' X.kv hO⟩)
    · repeat' (first | refine EvQ.run ?_ | refine EvQ.lift (fun _ zn => X.pcall (htr) X.cq rfl X.al rfl zn) ?_ | refine EvQ.lift (fun _ zn => X.pcallG (htr) rfl X.cq rfl X.al rfl zn) ?_ | refine EvQ.lift (fun _ zn => X.pcallC (htr) rfl X.cq rfl X.al rfl zn) ?_ | refine EvQ.lift (fun _ zn => X.pcallT (htr) (by decide) X.cq rfl X.al rfl zn) ?_ | refine EvQ.lift (fun _ zn => X.call rfl X.al (htr) zn) ?_ | (refine EvQ.pickB rfl rfl rfl ?_) | (refine EvQ.cond rfl (fun h => ?_) (fun h => ?_) <;> ((first | replace h := X.nm h | skip); try have hne := ne_len h)) | (refine EvQ.g1 rfl (fun h => ?_) (fun h => ?_) <;> ((first | replace h := X.nm h | skip); try have hne := ne_len h)) | (refine EvQ.pick rfl (fun _ => rfl) (fun _ => rfl) (fun h => ?_) (fun h => ?_) <;> ((first | replace h := X.nm h | skip); try have hne := ne_len h)) | refine EvQ.fin X.rs ?_ | refine EvQ.fin1 (fun _ => rfl) rfl ?_)
      · rw [rsT_1 (by omega), quo_drop (by omega), if_pos (by assumption), List.drop_of_length_le (by omega)] at h5
        exact EvQ.rt (.inl ⟨h5.symm, .mk' X.kv trivial⟩)
      · rw [rsT_1 (by omega), quo_drop (by omega), if_pos (by assumption)] at h5
        exact EvQ.go (n, i + 2, f, true, acc, v) X.kv ⟨hO, hlim, by simp only; omega, by simp only; omega, by simp only; omega, by simp only; omega, (rsT_1 (by simp only; omega)).trans h5⟩ (by simp only; omega)
      · rw [rsT_1 (by omega), quo_drop (by omega), if_neg (by assumption), if_pos (by assumption)] at h5
        exact EvQ.go (n, i + 1, f, false, acc, v) X.kv ⟨hO, hlim, by simp only; omega, by simp only; omega, by simp only; omega, by simp only; omega, (rsT_0 (by simp only; omega)).trans h5⟩ (by simp only; omega)
      · rw [rsT_1 (by omega), quo_drop (by omega), if_neg (by assumption), if_neg (by assumption)] at h5
        exact EvQ.go (n, i + 1, f, true, acc, v) X.kv ⟨hO, hlim, by simp only; omega, by simp only; omega, by simp only; omega, by simp only; omega, (rsT_1 (by simp only; omega)).trans h5⟩ (by simp only; omega)
      · rw [rsT_1 (by omega), List.drop_of_length_le (by omega)] at h5
        exact EvQ.go (n, i + 1, i + 1, true, acc ++ [trimS ((s.drop f).take (i - f))], _) X.kv ⟨by simp only; rw [← txs_append]; exact hO' _, hlim' _, by rw [List.length_append]; simp; omega, Nat.le_refl _, by simp only; omega, by simp only; omega, (rsT_e (by simp only; omega)).trans h5⟩ (by simp only; omega)
      · rw [rsT_1 (by omega), List.drop_of_length_le (by omega)] at h5
        exact EvQ.go (n, i + 1, i + 1, true, acc, v) X.kv ⟨hO, hlim, by simp only; omega, Nat.le_refl _, by simp only; omega, by simp only; omega, (rsT_e (by simp only; omega)).trans h5⟩ (by simp only; omega)
      · rw [rsT_e (by omega)] at h5
        exact EvQ.xt (.inr ⟨v, true, acc, h5, by omega, .mk' X.kv hO⟩)
  · rintro _ (⟨rfl, tm, lo, hp, rfl, -⟩ | ⟨v, q, acc, hq, hn, tm, lo, hp, rfl, hO⟩)
    · repeat' (first | refine EvQ.run ?_ | (refine EvQ.pickB rfl rfl rfl ?_) | (refine EvQ.cond rfl (fun h => ?_) (fun h => ?_) <;> ((first | replace h := X.nm h | skip); try have hne := ne_len h)) | (refine EvQ.g1 rfl (fun h => ?_) (fun h => ?_) <;> ((first | replace h := X.nm h | skip); try have hne := ne_len h)) | (refine EvQ.pick rfl (fun _ => rfl) (fun _ => rfl) (fun h => ?_) (fun h => ?_) <;> ((first | replace h := X.nm h | skip); try have hne := ne_len h)) | refine EvQ.fin X.rs ?_ | refine EvQ.fin1 (fun _ => rfl) rfl ?_)
      exact PQ.of (.s2 (clo_ns [.one]) (.s (clo_bo _) (.nil _)))
    · have hel := hO.lp
      obtain ⟨hp', hc, hcf⟩ := hO.sl.close (ts := [.one]) (txs_clo _) (by rw [txs_length]; simp [depth]; omega)
      cases q
      · rw [if_neg Bool.noConfusion] at hq
        subst hq
        repeat' (first | refine EvQ.run ?_ | (refine EvQ.pickB rfl rfl rfl ?_) | (refine EvQ.cond rfl (fun h => ?_) (fun h => ?_) <;> ((first | replace h := X.nm h | skip); try have hne := ne_len h)) | (refine EvQ.g1 rfl (fun h => ?_) (fun h => ?_) <;> ((first | replace h := X.nm h | skip); try have hne := ne_len h)) | (refine EvQ.pick rfl (fun _ => rfl) (fun _ => rfl) (fun h => ?_) (fun h => ?_) <;> ((first | replace h := X.nm h | skip); try have hne := ne_len h)) | refine EvQ.fin X.rs ?_ | refine EvQ.fin1 (fun _ => rfl) rfl ?_)
        exact PQ.of (.c hc (.s (clo_bo _) (.nil _)))
      · rw [if_pos rfl] at hq
        subst hq
        repeat' (first | refine EvQ.run ?_ | (refine EvQ.pickB rfl rfl rfl ?_) | (refine EvQ.cond rfl (fun h => ?_) (fun h => ?_) <;> ((first | replace h := X.nm h | skip); try have hne := ne_len h)) | (refine EvQ.g1 rfl (fun h => ?_) (fun h => ?_) <;> ((first | replace h := X.nm h | skip); try have hne := ne_len h)) | (refine EvQ.pick rfl (fun _ => rfl) (fun _ => rfl) (fun h => ?_) (fun h => ?_) <;> ((first | replace h := X.nm h | skip); try have hne := ne_len h)) | refine EvQ.fin X.rs ?_ | refine EvQ.fin1 (fun _ => rfl) rfl ?_)
        exact PQ.of (.s2 (clo_ns [.one]) (.s (clo_bo _) (.nil _)))
end Go.Proofs.Ytddohjlkjakdlaa
