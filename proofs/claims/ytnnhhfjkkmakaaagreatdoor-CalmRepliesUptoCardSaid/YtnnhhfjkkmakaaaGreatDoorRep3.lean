import Derived.Test.YtnnhhfjkkmakaaaGreatDoorEvE
import Derived.Test.YtnnhhfjkkmakaaaGreatDoorRep1
set_option linter.unusedSectionVars false
set_option linter.unusedVariables false
set_option linter.unusedSimpArgs false
-- CalmReplies: light, rows held against each other (EvHp EvOwn)
namespace Go.Proofs.YtnnhhfjkkmakaaaGreatDoor.rep
open Go hiding Fn
open Ev tab
attribute [local irreducible] EvP EvD EvL EvC evGds evLs C.run sK bK gK pK fK lpB stepD hp6 itoaL
def BOK (l : List Fld) : Prop := l.length ≤ 10000000 ∧ ∀ f, f ∈ l → f.1.length ≤ 10000000 ∧ f.2.length ≤ 10000000
theorem BOK.get {l : List Fld} (h : BOK l) (i : Nat) : (l.getD i f0).1.length ≤ 10000000 ∧ (l.getD i f0).2.length ≤ 10000000 := by
  by_cases hi : i < l.length
  · rw [List.getD, List.getElem?_eq_getElem hi]; exact h.2 _ (List.getElem_mem hi)
  · rw [List.getD, List.getElem?_eq_none (by omega)]; exact ⟨Nat.zero_le _, Nat.zero_le _⟩
def lkGo (n : Nat) : List Fld → Bool
  | [] => true
  | f :: r => if 2000 < n + f.1.length + f.2.length + 1 then false else lkGo (n + f.1.length + f.2.length + 1) r
def lkB (l : List Fld) : Bool := lkGo 0 l
set_option maxHeartbeats 8000000 in
theorem lk_ok (l : List Fld) (hl : BOK l) : EvP Fq 40 c40 [.vs 2 (fds l)] [.bo (lkB l)] := by
  have hl1 := hl.1
  refine EvP.ofQ d40 rfl rfl rfl ?_
  generalize ht : lkB l = t
  repeat' (first | refine EvQ.run ?_ | (refine EvQ.pickB rfl rfl rfl ?_) | (refine EvQ.cond rfl (fun h => ?_) (fun h => ?_) <;> ((first | replace h := X.nm h | skip); try have hne := ne_len h)) | (refine EvQ.g1 rfl (fun h => ?_) (fun h => ?_) <;> ((first | replace h := X.nm h | skip); try have hne := ne_len h)) | (refine EvQ.pick rfl (fun _ => rfl) (fun _ => rfl) (fun h => ?_) (fun h => ?_) <;> ((first | replace h := X.nm h | skip); try have hne := ne_len h)) | refine EvQ.fin X.rs ?_ | refine EvQ.fin1 (fun _ => rfl) rfl ?_)
  refine EvQ.loop (QL := fun r => (t = true ∧ XtQ 0 [] (fun _ _ => True) r) ∨ (t = false ∧ RtQ [(2, .bo false)] (fun _ _ => True) r)) ?_ ?_
  · refine EvL.invQ (S := Nat × Nat) (fun x => [(0, .vs 2 (fds l)), (3, .it .i64 (Int.ofNat x.2)), (4, .it .i64 (Int.ofNat x.1))]) (fun x _ _ => x.1 ≤ l.length ∧ x.2 ≤ 2000 ∧ lkGo x.2 (l.drop x.1) = t) (fun x => l.length - x.1) _ ?_ (0, 0) _ _ _ ⟨Nat.zero_le _, Nat.zero_le _, ht⟩ X.kv
    intro ⟨i, n⟩ lo hp ⟨h1, h2, h3⟩
    simp only at h1 h2 h3
    obtain ⟨b1, b2⟩ := hl.get i
    have hd : i < l.length → lkGo n (l.drop i) = if 2000 < n + (l.getD i f0).1.length + (l.getD i f0).2.length + 1 then false else lkGo (n + (l.getD i f0).1.length + (l.getD i f0).2.length + 1) (l.drop (i + 1)) := fun h => by rw [drop_getD h f0]; rfl
    repeat' (first | refine EvQ.run ?_ | (refine EvQ.pickB rfl rfl rfl ?_) | (refine EvQ.cond rfl (fun h => ?_) (fun h => ?_) <;> ((first | replace h := X.nm h | skip); try have hne := ne_len h)) | (refine EvQ.g1 rfl (fun h => ?_) (fun h => ?_) <;> ((first | replace h := X.nm h | skip); try have hne := ne_len h)) | (refine EvQ.pick rfl (fun _ => rfl) (fun _ => rfl) (fun h => ?_) (fun h => ?_) <;> ((first | replace h := X.nm h | skip); try have hne := ne_len h)) | refine EvQ.fin X.rs ?_ | refine EvQ.fin1 (fun _ => rfl) rfl ?_)
    · rw [hd (by assumption), if_pos (by assumption)] at h3
      exact EvQ.rt (.inr ⟨h3.symm, .mk' X.kv trivial⟩)
    · rw [hd (by assumption), if_neg (by assumption)] at h3
      exact EvQ.go (i + 1, _) X.kv ⟨by show i + 1 ≤ _; omega, by show _ ≤ 2000; omega, h3⟩ (by show l.length - (i + 1) < l.length - i; omega)
    · rw [List.drop_of_length_le (by omega)] at h3
      exact EvQ.xt (.inl ⟨h3.symm, .mk' X.kv trivial⟩)
  · rintro _ (⟨rfl, tm, lo, hp, rfl, -⟩ | ⟨rfl, tm, lo, hp, rfl, -⟩)
    · repeat' (first | refine EvQ.run ?_ | (refine EvQ.pickB rfl rfl rfl ?_) | (refine EvQ.cond rfl (fun h => ?_) (fun h => ?_) <;> ((first | replace h := X.nm h | skip); try have hne := ne_len h)) | (refine EvQ.g1 rfl (fun h => ?_) (fun h => ?_) <;> ((first | replace h := X.nm h | skip); try have hne := ne_len h)) | (refine EvQ.pick rfl (fun _ => rfl) (fun _ => rfl) (fun h => ?_) (fun h => ?_) <;> ((first | replace h := X.nm h | skip); try have hne := ne_len h)) | refine EvQ.fin X.rs ?_ | refine EvQ.fin1 (fun _ => rfl) rfl ?_)
      exact PQ.bo rfl
    · repeat' (first | refine EvQ.run ?_ | (refine EvQ.pickB rfl rfl rfl ?_) | (refine EvQ.cond rfl (fun h => ?_) (fun h => ?_) <;> ((first | replace h := X.nm h | skip); try have hne := ne_len h)) | (refine EvQ.g1 rfl (fun h => ?_) (fun h => ?_) <;> ((first | replace h := X.nm h | skip); try have hne := ne_len h)) | (refine EvQ.pick rfl (fun _ => rfl) (fun _ => rfl) (fun h => ?_) (fun h => ?_) <;> ((first | replace h := X.nm h | skip); try have hne := ne_len h)) | refine EvQ.fin X.rs ?_ | refine EvQ.fin1 (fun _ => rfl) rfl ?_)
      exact PQ.bo rfl
/-- a rule -/
structure Rl where
  st : Int
  ctl : List Nat
  tag : List Nat
  body : List Nat
  ex : List Fld
def rowRl (r : Rl) : List V := [.it .i64 r.st, .st r.ctl, .st r.tag, .st r.body, .vs 2 (fds r.ex)]
theorem rowRl_clo (r : Rl) : CloL [.one, .one, .one, .one, .sl [.one, .one]] (rowRl r) :=
  .cons (clo_it _ _) (.cons (clo_st _) (.cons (clo_st _) (.cons (clo_st _) (.cons (clo_vs [.one, .one] _) .nil))))
structure ROK (r : Rl) : Prop where
  x : BOK r.ex
  c : r.ctl.length ≤ 10000000
  t : r.tag.length ≤ 10000000
  b : r.body.length ≤ 10000000
  s : r.st < 9223372036854775808
set_option maxHeartbeats 8000000 in
theorem light_ok (r : Rl) (h : ROK r) : ∃ b, EvP Fq 39 c39 [.ag (rowRl r)] [.bo b] := by
  have k := lk_ok r.ex h.x
  have h1 := h.c
  have h2 := h.t
  have h3 := h.b
  generalize lkB r.ex = b at k
  refine ⟨b && (decide (r.body.length ≤ 4000) && (decide (r.ctl.length ≤ 300) && decide (r.tag.length ≤ 100))), ?_⟩
  refine EvP.ofQ d39 rfl rfl rfl ?_
  repeat' (first | refine EvQ.run ?_ | refine EvQ.lift (fun _ zn => X.pcall (k) X.cq rfl X.al rfl zn) ?_ | refine EvQ.lift (fun _ zn => X.pcallG (k) rfl X.cq rfl X.al rfl zn) ?_ | refine EvQ.lift (fun _ zn => X.pcallC (k) rfl X.cq rfl X.al rfl zn) ?_ | refine EvQ.lift (fun _ zn => X.pcallT (k) (by decide) X.cq rfl X.al rfl zn) ?_ | refine EvQ.lift (fun _ zn => X.call rfl X.al (k) zn) ?_ | (refine EvQ.pickB rfl rfl rfl ?_) | (refine EvQ.cond rfl (fun h => ?_) (fun h => ?_) <;> ((first | replace h := X.nm h | skip); try have hne := ne_len h)) | (refine EvQ.g1 rfl (fun h => ?_) (fun h => ?_) <;> ((first | replace h := X.nm h | skip); try have hne := ne_len h)) | (refine EvQ.pick rfl (fun _ => rfl) (fun _ => rfl) (fun h => ?_) (fun h => ?_) <;> ((first | replace h := X.nm h | skip); try have hne := ne_len h)) | refine EvQ.fin X.rs ?_ | refine EvQ.fin1 (fun _ => rfl) rfl ?_)
  all_goals
    refine PQ.bo ?_
    subst_vars
    first
      | rfl
      | (rw [decide_eq_true (show r.body.length ≤ 4000 by omega), decide_eq_true (show r.ctl.length ≤ 300 by omega), ilt_eq]; simp; omega)
      | (rw [decide_eq_true (show r.body.length ≤ 4000 by omega), decide_eq_false (show ¬ r.ctl.length ≤ 300 by omega)]; rfl)
      | (rw [decide_eq_false (show ¬ r.body.length ≤ 4000 by omega)]; rfl)
      | (rw [Bool.eq_iff_iff, ilt_eq]; simp; omega)
set_option maxHeartbeats 8000000 in
theorem same_ok (a : List Fld) (hl : a.length ≤ 10000000) : EvP Fq 37 c37 [.vs 3 (rws a), .vs 3 (rws a)] [.bo true] := by
  have hr := rws_length a
  refine EvP.ofQ d37 rfl rfl rfl ?_
  repeat' (first | refine EvQ.run ?_ | (refine EvQ.pickB rfl rfl rfl ?_) | (refine EvQ.cond rfl (fun h => ?_) (fun h => ?_) <;> ((first | replace h := X.nm h | skip); try have hne := ne_len h)) | (refine EvQ.g1 rfl (fun h => ?_) (fun h => ?_) <;> ((first | replace h := X.nm h | skip); try have hne := ne_len h)) | (refine EvQ.pick rfl (fun _ => rfl) (fun _ => rfl) (fun h => ?_) (fun h => ?_) <;> ((first | replace h := X.nm h | skip); try have hne := ne_len h)) | refine EvQ.fin X.rs ?_ | refine EvQ.fin1 (fun _ => rfl) rfl ?_)
  refine EvQ.loop (QL := XtQ 0 [] (fun _ _ => True)) ?_ ?_
  · refine EvL.invQ (S := Nat) (fun i => [(0, .vs 3 (rws a)), (1, .vs 3 (rws a)), (5, .it .i64 (Int.ofNat i))]) (fun i _ _ => i ≤ a.length) (fun i => a.length - i) _ ?_ 0 _ _ _ (Nat.zero_le _) X.kv
    intro i lo hp h1
    by_cases hi : i < a.length
    · have hg := rws_getD hi
      generalize a.getD i f0 = f at *
      have e2 : (beqL f.1 f.1 && (beqL f.2 f.2 && (ieq 1 1 && true))) = true := by rw [beqLD, beqLD, ieqD]; simp
      repeat' (first | refine EvQ.run ?_ | (refine EvQ.pickB rfl rfl rfl ?_) | (refine EvQ.cond rfl (fun h => ?_) (fun h => ?_) <;> ((first | replace h := X.nm h | skip); try have hne := ne_len h)) | (refine EvQ.g1 rfl (fun h => ?_) (fun h => ?_) <;> ((first | replace h := X.nm h | skip); try have hne := ne_len h)) | (refine EvQ.pick rfl (fun _ => rfl) (fun _ => rfl) (fun h => ?_) (fun h => ?_) <;> ((first | replace h := X.nm h | skip); try have hne := ne_len h)) | refine EvQ.fin X.rs ?_ | refine EvQ.fin1 (fun _ => rfl) rfl ?_)
      exact EvQ.go (i + 1) X.kv (by omega) (by omega)
    · repeat' (first | refine EvQ.run ?_ | (refine EvQ.pickB rfl rfl rfl ?_) | (refine EvQ.cond rfl (fun h => ?_) (fun h => ?_) <;> ((first | replace h := X.nm h | skip); try have hne := ne_len h)) | (refine EvQ.g1 rfl (fun h => ?_) (fun h => ?_) <;> ((first | replace h := X.nm h | skip); try have hne := ne_len h)) | (refine EvQ.pick rfl (fun _ => rfl) (fun _ => rfl) (fun h => ?_) (fun h => ?_) <;> ((first | replace h := X.nm h | skip); try have hne := ne_len h)) | refine EvQ.fin X.rs ?_ | refine EvQ.fin1 (fun _ => rfl) rfl ?_)
      exact EvQ.xt (.mk' X.kv trivial)
  · rintro _ ⟨tm, lo, hp, rfl, -⟩
    repeat' (first | refine EvQ.run ?_ | (refine EvQ.pickB rfl rfl rfl ?_) | (refine EvQ.cond rfl (fun h => ?_) (fun h => ?_) <;> ((first | replace h := X.nm h | skip); try have hne := ne_len h)) | (refine EvQ.g1 rfl (fun h => ?_) (fun h => ?_) <;> ((first | replace h := X.nm h | skip); try have hne := ne_len h)) | (refine EvQ.pick rfl (fun _ => rfl) (fun _ => rfl) (fun h => ?_) (fun h => ?_) <;> ((first | replace h := X.nm h | skip); try have hne := ne_len h)) | refine EvQ.fin X.rs ?_ | refine EvQ.fin1 (fun _ => rfl) rfl ?_)
    exact PQ.bo rfl
end Go.Proofs.YtnnhhfjkkmakaaaGreatDoor.rep
