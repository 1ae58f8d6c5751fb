import Derived.Test.YtddohjlkjakdlaaEvE
import Derived.Test.YtddohjlkjakdlaaEvE
import Derived.Test.YtddohjlkjakdlaaSto9
import Derived.Test.YtddohjlkjakdlaaRdr
set_option linter.unusedVariables false
set_option linter.unusedSimpArgs false
-- StoreBounded: asks, and the plain law
namespace Go.Proofs.Ytddohjlkjakdlaa
open Go hiding Fn
open Ev tab
attribute [local irreducible] EvP EvD EvL EvC evGds evLs C.run sK bK gK pK fK lpB stepD
structure Ak where
  k : Int
  e : En
  q : Rq
  key : List Nat
def rowAk (a : Ak) : List V := .it .i64 a.k :: (rowEn a.e ++ (rowRq a.q ++ [.st a.key]))
def aks (l : List Ak) : List (List V) := l.map rowAk
abbrev a0 : Ak := ⟨0, e0, ⟨[], [], [], [], [], 0⟩, []⟩
theorem aks_length (l : List Ak) : (aks l).length = l.length := by simp [aks]
theorem aks_getD {l : List Ak} {i : Nat} (h : i < l.length) : (aks l).getD i [] = rowAk (l.getD i a0) := by
  unfold aks
  rw [List.getD, List.getD, List.getElem?_map, List.getElem?_eq_getElem h]; rfl
def lgB (a : Ak) : Bool := smB a.e && (lkB a.q.fs && decide (a.e.q.p.length < 500))
theorem rowAk_clo (a : Ak) : CloL [.one, .one, .one, .one, .one, .sl [.one, .one], .one, .one, .sl [.one, .one], .one, .one, .one, .one, .one, .one, .one, .one, .sl [.one, .one], .one, .one] (rowAk a) :=
  .cons (clo_it _ _) (.cons (clo_st _) (.cons (clo_st _) (.cons (clo_st _) (.cons (clo_st _) (.cons (clo_vs [.one, .one] _) (.cons (clo_it _ _) (.cons (clo_it _ _) (.cons (clo_vs [.one, .one] _) (.cons (clo_it _ _) (.cons (clo_st _) (.cons (clo_it _ _) (.cons (clo_it _ _) (.cons (clo_st _) (.cons (clo_st _) (.cons (clo_st _) (.cons (clo_st _) (.cons (clo_vs [.one, .one] _) (.cons (clo_it _ _) (.cons (clo_st _) .nil)))))))))))))))))))
set_option maxHeartbeats 8000000 in
theorem light_ok (a : Ak) (h1 : BOK a.e.q.fs) (h2 : BOK a.e.s.fs) (h3 : BOK a.q.fs) (hp : a.e.q.p.length ≤ 100000000) : EvP F 22 c22 [.ag (rowAk a)] [.bo (lgB a)] := by
  have q1 := small_ok a.e h1 h2
  have q2 := lk_ok a.q.fs h3
  have c3 := rowEn_clo a.e
  refine EvP.ofQ d22 rfl rfl rfl ?_
  unfold lgB
  generalize smB a.e = s at *
  generalize lkB a.q.fs = k at *
  cases s with
  | false =>
    repeat' (first | refine EvQ.run ?_ | refine EvQ.lift (fun _ zn => X.pcall (q1) X.cq rfl X.al rfl zn) ?_ | refine EvQ.lift (fun _ zn => X.pcallG (q1) rfl X.cq rfl X.al rfl zn) ?_ | refine EvQ.lift (fun _ zn => X.pcallC (q1) rfl X.cq rfl X.al rfl zn) ?_ | refine EvQ.lift (fun _ zn => X.pcallT (q1) (by decide) X.cq rfl X.al rfl zn) ?_ | refine EvQ.lift (fun _ zn => X.call rfl X.al (q1) zn) ?_ | refine EvQ.lift (fun _ zn => X.pcall (q2) X.cq rfl X.al rfl zn) ?_ | refine EvQ.lift (fun _ zn => X.pcallG (q2) rfl X.cq rfl X.al rfl zn) ?_ | refine EvQ.lift (fun _ zn => X.pcallC (q2) rfl X.cq rfl X.al rfl zn) ?_ | refine EvQ.lift (fun _ zn => X.pcallT (q2) (by decide) X.cq rfl X.al rfl zn) ?_ | refine EvQ.lift (fun _ zn => X.call rfl X.al (q2) zn) ?_ | (refine EvQ.pickB rfl rfl rfl ?_) | (refine EvQ.cond rfl (fun h => ?_) (fun h => ?_) <;> ((first | replace h := X.nm h | skip); try have hne := ne_len h)) | (refine EvQ.g1 rfl (fun h => ?_) (fun h => ?_) <;> ((first | replace h := X.nm h | skip); try have hne := ne_len h)) | (refine EvQ.pick rfl (fun _ => rfl) (fun _ => rfl) (fun h => ?_) (fun h => ?_) <;> ((first | replace h := X.nm h | skip); try have hne := ne_len h)) | refine EvQ.fin X.rs ?_ | refine EvQ.fin1 (fun _ => rfl) rfl ?_)
    exact PQ.bo rfl
  | true =>
    cases k with
    | false =>
      repeat' (first | refine EvQ.run ?_ | refine EvQ.lift (fun _ zn => X.pcall (q1) X.cq rfl X.al rfl zn) ?_ | refine EvQ.lift (fun _ zn => X.pcallG (q1) rfl X.cq rfl X.al rfl zn) ?_ | refine EvQ.lift (fun _ zn => X.pcallC (q1) rfl X.cq rfl X.al rfl zn) ?_ | refine EvQ.lift (fun _ zn => X.pcallT (q1) (by decide) X.cq rfl X.al rfl zn) ?_ | refine EvQ.lift (fun _ zn => X.call rfl X.al (q1) zn) ?_ | refine EvQ.lift (fun _ zn => X.pcall (q2) X.cq rfl X.al rfl zn) ?_ | refine EvQ.lift (fun _ zn => X.pcallG (q2) rfl X.cq rfl X.al rfl zn) ?_ | refine EvQ.lift (fun _ zn => X.pcallC (q2) rfl X.cq rfl X.al rfl zn) ?_ | refine EvQ.lift (fun _ zn => X.pcallT (q2) (by decide) X.cq rfl X.al rfl zn) ?_ | refine EvQ.lift (fun _ zn => X.call rfl X.al (q2) zn) ?_ | (refine EvQ.pickB rfl rfl rfl ?_) | (refine EvQ.cond rfl (fun h => ?_) (fun h => ?_) <;> ((first | replace h := X.nm h | skip); try have hne := ne_len h)) | (refine EvQ.g1 rfl (fun h => ?_) (fun h => ?_) <;> ((first | replace h := X.nm h | skip); try have hne := ne_len h)) | (refine EvQ.pick rfl (fun _ => rfl) (fun _ => rfl) (fun h => ?_) (fun h => ?_) <;> ((first | replace h := X.nm h | skip); try have hne := ne_len h)) | refine EvQ.fin X.rs ?_ | refine EvQ.fin1 (fun _ => rfl) rfl ?_)
      exact PQ.bo rfl
    | true =>
      repeat' (first | refine EvQ.run ?_ | refine EvQ.lift (fun _ zn => X.pcall (q1) X.cq rfl X.al rfl zn) ?_ | refine EvQ.lift (fun _ zn => X.pcallG (q1) rfl X.cq rfl X.al rfl zn) ?_ | refine EvQ.lift (fun _ zn => X.pcallC (q1) rfl X.cq rfl X.al rfl zn) ?_ | refine EvQ.lift (fun _ zn => X.pcallT (q1) (by decide) X.cq rfl X.al rfl zn) ?_ | refine EvQ.lift (fun _ zn => X.call rfl X.al (q1) zn) ?_ | refine EvQ.lift (fun _ zn => X.pcall (q2) X.cq rfl X.al rfl zn) ?_ | refine EvQ.lift (fun _ zn => X.pcallG (q2) rfl X.cq rfl X.al rfl zn) ?_ | refine EvQ.lift (fun _ zn => X.pcallC (q2) rfl X.cq rfl X.al rfl zn) ?_ | refine EvQ.lift (fun _ zn => X.pcallT (q2) (by decide) X.cq rfl X.al rfl zn) ?_ | refine EvQ.lift (fun _ zn => X.call rfl X.al (q2) zn) ?_ | (refine EvQ.pickB rfl rfl rfl ?_) | (refine EvQ.cond rfl (fun h => ?_) (fun h => ?_) <;> ((first | replace h := X.nm h | skip); try have hne := ne_len h)) | (refine EvQ.g1 rfl (fun h => ?_) (fun h => ?_) <;> ((first | replace h := X.nm h | skip); try have hne := ne_len h)) | (refine EvQ.pick rfl (fun _ => rfl) (fun _ => rfl) (fun h => ?_) (fun h => ?_) <;> ((first | replace h := X.nm h | skip); try have hne := ne_len h)) | refine EvQ.fin X.rs ?_ | refine EvQ.fin1 (fun _ => rfl) rfl ?_)
      exact PQ.bo (by rw [ilt_eq, Bool.true_and, Bool.true_and, Bool.eq_iff_iff]; simp; omega)
theorem nm_self (a : List Fld) (n : List Nat) : nmB a a n = true := by
  unfold nmB
  rw [decide_eq_true rfl, Bool.and_true]
  cases hasF a n <;> rfl
theorem match_self (e : En) (h : (starsS e.s.fs).isNone = false) : matchS e e.q = true := by
  unfold matchS
  cases hs : starsS e.s.fs with
  | none => rw [hs] at h; cases h
  | some names => exact List.all_eq_true.2 fun n _ => nm_self _ _
theorem fit_self (e : En) (h : (starsS e.s.fs).isNone = false) : fitB e e.q = true := by
  unfold fitB
  rw [match_self e h, decide_eq_true rfl]; rfl
theorem idx_first (e : En) (l : List En) (h : fitB e e.q = true) : idxS (e :: l) e.q = some 0 := by
  show (if fitB e e.q = true then some 0 else _) = _
  rw [if_pos h]
theorem idx_no (q : Rq) : ∀ (l : List En) (i : Nat), (∀ e, e ∈ l → keyS e.q ≠ keyS q) → idxGo q i l = none
  | [], _, _ => rfl
  | e :: r, i, h => by
    unfold idxGo
    have : fitB e q = false := by
      unfold fitB; rw [decide_eq_false (h e List.mem_cons_self)]; rfl
    rw [this, if_neg (by decide)]
    exact idx_no q r (i + 1) fun x hx => h x (List.mem_cons_of_mem _ hx)
theorem idx_gone (l : List En) (q : Rq) : idxS (siv (keyB (keyS q)) l 0) q = none := by
  refine idx_no q _ 0 fun e he => ?_
  rw [siv_zero] at he
  have := (List.mem_filter.1 he).2
  intro hk
  unfold keyB at this
  rw [decide_eq_true hk] at this; cases this
theorem eqEn_self' (e : En) : eqEn e e = true := by
  unfold eqEn
  have h0 : eqRq e.q e.q = true := decide_eq_true ⟨rfl, rfl, rfl, rfl, rfl, rfl⟩
  have h1 : eqRs e.s e.s = true := decide_eq_true ⟨rfl, rfl, rfl⟩
  rw [h0, h1]
  exact decide_eq_true ⟨rfl, rfl, rfl⟩
/-- an ask that is light: an entry that is not too large -/
theorem light_eok {a : Ak} (h : lgB a = true) (h1 : a.e.q.s.length ≤ 10000000) (h2 : a.e.q.a.length ≤ 10000000) (ht : TOK a.e.s.fs) : EOK a.e := by
  unfold lgB smB at h
  simp only [Bool.and_eq_true, decide_eq_true_eq] at h
  obtain ⟨⟨q1, q2, q3⟩, q4, q5⟩ := h
  exact ⟨⟨lkB_jok q1, h1, h2, by omega⟩, lkB_jok q2, ht, by omega⟩
end Go.Proofs.Ytddohjlkjakdlaa
