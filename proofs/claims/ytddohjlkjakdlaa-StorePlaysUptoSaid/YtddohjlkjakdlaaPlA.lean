import Derived.Test.YtddohjlkjakdlaaEvE
import Derived.Test.YtddohjlkjakdlaaSto8
import Derived.Test.YtddohjlkjakdlaaEnt
import Derived.Test.YtddohjlkjakdlaaRdr
set_option linter.unusedVariables false
set_option linter.unusedSimpArgs false
set_option linter.unusedSectionVars false
set_option linter.unusedVariables false
set_option linter.unusedSimpArgs false
-- StorePlays: asks, read (after StoreBounded)
namespace Go.Proofs.Ytddohjlkjakdlaa
open Go hiding Fn
open Ev tab
attribute [local irreducible] EvP EvD EvL EvC evGds evLs C.run sK bK gK pK fK lpB stepD
structure Ak where
  k : Int
  e : En
  q : Rq
  key : List Nat
def rowAk (a : Ak) : List V := .it .i64 a.k :: (rowEn a.e ++ (rowRq a.q ++ [.st a.key]))
def aks (l : List Ak) : List (List V) := l.map rowAk
abbrev a0 : Ak := ⟨0, e0, ⟨[], [], [], [], [], 0⟩, []⟩
theorem aks_length (l : List Ak) : (aks l).length = l.length := by simp [aks]
theorem aks_getD {l : List Ak} {i : Nat} (h : i < l.length) : (aks l).getD i [] = rowAk (l.getD i a0) := by
  unfold aks
  rw [List.getD, List.getD, List.getElem?_map, List.getElem?_eq_getElem h]; rfl
def lgB (a : Ak) : Bool := smB a.e && (lkB a.q.fs && decide (a.e.q.p.length < 500))
theorem rowAk_clo (a : Ak) : CloL [.one, .one, .one, .one, .one, .sl [.one, .one], .one, .one, .sl [.one, .one], .one, .one, .one, .one, .one, .one, .one, .one, .sl [.one, .one], .one, .one] (rowAk a) :=
  .cons (clo_it _ _) (.cons (clo_st _) (.cons (clo_st _) (.cons (clo_st _) (.cons (clo_st _) (.cons (clo_vs [.one, .one] _) (.cons (clo_it _ _) (.cons (clo_it _ _) (.cons (clo_vs [.one, .one] _) (.cons (clo_it _ _) (.cons (clo_st _) (.cons (clo_it _ _) (.cons (clo_it _ _) (.cons (clo_st _) (.cons (clo_st _) (.cons (clo_st _) (.cons (clo_st _) (.cons (clo_vs [.one, .one] _) (.cons (clo_it _ _) (.cons (clo_st _) .nil)))))))))))))))))))
set_option maxHeartbeats 8000000 in
theorem light_ok (a : Ak) (h1 : BOK a.e.q.fs) (h2 : BOK a.e.s.fs) (h3 : BOK a.q.fs) (hp : a.e.q.p.length ≤ 100000000) : EvP F 22 c22 [.ag (rowAk a)] [.bo (lgB a)] := by
  have q1 := small_ok a.e h1 h2
  have q2 := lk_ok a.q.fs h3
  have c3 := rowEn_clo a.e
  refine EvP.ofQ d22 rfl rfl rfl ?_
  unfold lgB
  generalize smB a.e = s at *
  generalize lkB a.q.fs = k at *
  cases s with
  | false =>
    repeat' (first | refine EvQ.run ?_ | refine EvQ.lift (fun _ zn => X.pcall (q1) X.cq rfl X.al rfl zn) ?_ | refine EvQ.lift (fun _ zn => X.pcallG (q1) rfl X.cq rfl X.al rfl zn) ?_ | refine EvQ.lift (fun _ zn => X.pcallC (q1) rfl X.cq rfl X.al rfl zn) ?_ | refine EvQ.lift (fun _ zn => X.pcallT (q1) (by decide) X.cq rfl X.al rfl zn) ?_ | refine EvQ.lift (fun _ zn => X.call rfl X.al (q1) zn) ?_ | refine EvQ.lift (fun _ zn => X.pcall (q2) X.cq rfl X.al rfl zn) ?_ | refine EvQ.lift (fun _ zn => X.pcallG (q2) rfl X.cq rfl X.al rfl zn) ?_ | refine EvQ.lift (fun _ zn => X.pcallC (q2) rfl X.cq rfl X.al rfl zn) ?_ | refine EvQ.lift (fun _ zn => X.pcallT (q2) (by decide) X.cq rfl X.al rfl zn) ?_ | refine EvQ.lift (fun _ zn => X.call rfl X.al (q2) zn) ?_ | (refine EvQ.pickB rfl rfl rfl ?_) | (refine EvQ.cond rfl (fun h => ?_) (fun h => ?_) <;> ((first | replace h := X.nm h | skip); try have hne := ne_len h)) | (refine EvQ.g1 rfl (fun h => ?_) (fun h => ?_) <;> ((first | replace h := X.nm h | skip); try have hne := ne_len h)) | (refine EvQ.pick rfl (fun _ => rfl) (fun _ => rfl) (fun h => ?_) (fun h => ?_) <;> ((first | replace h := X.nm h | skip); try have hne := ne_len h)) | refine EvQ.fin X.rs ?_ | refine EvQ.fin1 (fun _ => rfl) rfl ?_)
    exact PQ.bo rfl
  | true =>
    cases k with
    | false =>
      repeat' (first | refine EvQ.run ?_ | refine EvQ.lift (fun _ zn => X.pcall (q1) X.cq rfl X.al rfl zn) ?_ | refine EvQ.lift (fun _ zn => X.pcallG (q1) rfl X.cq rfl X.al rfl zn) ?_ | refine EvQ.lift (fun _ zn => X.pcallC (q1) rfl X.cq rfl X.al rfl zn) ?_ | refine EvQ.lift (fun _ zn => X.pcallT (q1) (by decide) X.cq rfl X.al rfl zn) ?_ | refine EvQ.lift (fun _ zn => X.call rfl X.al (q1) zn) ?_ | refine EvQ.lift (fun _ zn => X.pcall (q2) X.cq rfl X.al rfl zn) ?_ | refine EvQ.lift (fun _ zn => X.pcallG (q2) rfl X.cq rfl X.al rfl zn) ?_ | refine EvQ.lift (fun _ zn => X.pcallC (q2) rfl X.cq rfl X.al rfl zn) ?_ | refine EvQ.lift (fun _ zn => X.pcallT (q2) (by decide) X.cq rfl X.al rfl zn) ?_ | refine EvQ.lift (fun _ zn => X.call rfl X.al (q2) zn) ?_ | (refine EvQ.pickB rfl rfl rfl ?_) | (refine EvQ.cond rfl (fun h => ?_) (fun h => ?_) <;> ((first | replace h := X.nm h | skip); try have hne := ne_len h)) | (refine EvQ.g1 rfl (fun h => ?_) (fun h => ?_) <;> ((first | replace h := X.nm h | skip); try have hne := ne_len h)) | (refine EvQ.pick rfl (fun _ => rfl) (fun _ => rfl) (fun h => ?_) (fun h => ?_) <;> ((first | replace h := X.nm h | skip); try have hne := ne_len h)) | refine EvQ.fin X.rs ?_ | refine EvQ.fin1 (fun _ => rfl) rfl ?_)
      exact PQ.bo rfl
    | true =>
      repeat' (first | refine EvQ.run ?_ | refine EvQ.lift (fun _ zn => X.pcall (q1) X.cq rfl X.al rfl zn) ?_ | refine EvQ.lift (fun _ zn => X.pcallG (q1) rfl X.cq rfl X.al rfl zn) ?_ | refine EvQ.lift (fun _ zn => X.pcallC (q1) rfl X.cq rfl X.al rfl zn) ?_ | refine EvQ.lift (fun _ zn => X.pcallT (q1) (by decide) X.cq rfl X.al rfl zn) ?_ | refine EvQ.lift (fun _ zn => X.call rfl X.al (q1) zn) ?_ | refine EvQ.lift (fun _ zn => X.pcall (q2) X.cq rfl X.al rfl zn) ?_ | refine EvQ.lift (fun _ zn => X.pcallG (q2) rfl X.cq rfl X.al rfl zn) ?_ | refine EvQ.lift (fun _ zn => X.pcallC (q2) rfl X.cq rfl X.al rfl zn) ?_ | refine EvQ.lift (fun _ zn => X.pcallT (q2) (by decide) X.cq rfl X.al rfl zn) ?_ | refine EvQ.lift (fun _ zn => X.call rfl X.al (q2) zn) ?_ | (refine EvQ.pickB rfl rfl rfl ?_) | (refine EvQ.cond rfl (fun h => ?_) (fun h => ?_) <;> ((first | replace h := X.nm h | skip); try have hne := ne_len h)) | (refine EvQ.g1 rfl (fun h => ?_) (fun h => ?_) <;> ((first | replace h := X.nm h | skip); try have hne := ne_len h)) | (refine EvQ.pick rfl (fun _ => rfl) (fun _ => rfl) (fun h => ?_) (fun h => ?_) <;> ((first | replace h := X.nm h | skip); try have hne := ne_len h)) | refine EvQ.fin X.rs ?_ | refine EvQ.fin1 (fun _ => rfl) rfl ?_)
      exact PQ.bo (by rw [ilt_eq, Bool.true_and, Bool.true_and, Bool.eq_iff_iff]; simp; omega)
theorem eqEn_self' (e : En) : eqEn e e = true := by
  unfold eqEn
  have h0 : eqRq e.q e.q = true := decide_eq_true ⟨rfl, rfl, rfl, rfl, rfl, rfl⟩
  have h1 : eqRs e.s e.s = true := decide_eq_true ⟨rfl, rfl, rfl⟩
  rw [h0, h1]
  exact decide_eq_true ⟨rfl, rfl, rfl⟩
/-- an ask that is light: an entry that is not too large -/
theorem light_eok {a : Ak} (h : lgB a = true) (h1 : a.e.q.s.length ≤ 10000000) (h2 : a.e.q.a.length ≤ 10000000) (ht : TOK a.e.s.fs) : EOK a.e := by
  unfold lgB smB at h
  simp only [Bool.and_eq_true, decide_eq_true_eq] at h
  obtain ⟨⟨q1, q2, q3⟩, q4, q5⟩ := h
  exact ⟨⟨lkB_jok q1, h1, h2, by omega⟩, lkB_jok q2, ht, by omega⟩
structure AOK (a : Ak) : Prop where
  f1 : BOK a.e.q.fs
  f2 : BOK a.e.s.fs
  f3 : BOK a.q.fs
  t : TOK a.e.s.fs
  k1 : a.e.q.s.length ≤ 10000000
  k2 : a.e.q.a.length ≤ 10000000
  k3 : a.e.q.p.length ≤ 10000000
  q1 : a.q.s.length ≤ 10000000
  q2 : a.q.a.length ≤ 10000000
  q3 : a.q.p.length ≤ 10000000
theorem shl_split : ∀ (a : List TD) {b : List TD} {vs : List V}, ShL (a ++ b) vs → ∃ v1 v2, vs = v1 ++ v2 ∧ ShL a v1 ∧ ShL b v2 ∧ sizL vs = sizL v1 + sizL v2
  | [], b, vs, h => ⟨[], vs, rfl, .nil, h, by simp [sizL]⟩
  | t :: a, b, vs, h => by
    obtain ⟨v, r, rfl, h1, h2, e⟩ := ShL.cons' (ts := a ++ b) h
    obtain ⟨v1, v2, rfl, h3, h4, e2⟩ := shl_split a h2
    exact ⟨v :: v1, v2, rfl, .cons h1 h3, h4, by simp only [sizL] at *; omega⟩
theorem ak_of {vs : List V} (h : ShL [.it .i64, .st, .st, .st, .st, .sl [.st, .st], .it .i64, .it .i64, .sl [.st, .st], .it .i64, .st, .it .i64, .it .i64, .st, .st, .st, .st, .sl [.st, .st], .it .i64, .st] vs) (hs : sizL vs ≤ 1048576) : ∃ a : Ak, vs = rowAk a ∧ AOK a := by
  obtain ⟨v, r, rfl, a1, h, e1⟩ := h.cons'
  obtain ⟨v1, r, rfl, h1, h, e2⟩ := shl_split [.st, .st, .st, .st, .sl [.st, .st], .it .i64, .it .i64, .sl [.st, .st], .it .i64, .st, .it .i64, .it .i64] (b := [.st, .st, .st, .st, .sl [.st, .st], .it .i64, .st]) h
  obtain ⟨v2, r, rfl, h2, h, e3⟩ := shl_split [.st, .st, .st, .st, .sl [.st, .st], .it .i64] (b := [.st]) h
  obtain ⟨w, r, rfl, a2, h, e4⟩ := h.cons'
  cases h.nil'
  obtain ⟨k, rfl, _⟩ := int_of a1
  obtain ⟨key, rfl, _, _⟩ := text_of a2
  obtain ⟨e, rfl, f1, f2, t1, t2, t3, t4, t5, n1, n2, n3, n4, n5⟩ := en_of h1
  obtain ⟨q, rfl, f3, _, m1, m2, m3, m4⟩ := rq_of h2
  refine ⟨⟨k, e, q, key⟩, rfl, f1.bok (by omega), f2.bok (by omega), f3.bok (by omega), f2.t, ?_, ?_, ?_, ?_, ?_, ?_⟩
  · show e.q.s.length ≤ _; omega
  · show e.q.a.length ≤ _; omega
  · show e.q.p.length ≤ _; omega
  · show q.s.length ≤ _; omega
  · show q.a.length ≤ _; omega
  · show q.p.length ≤ _; omega
theorem aks_of {es : List (List V)} (h : ShE [.it .i64, .st, .st, .st, .st, .sl [.st, .st], .it .i64, .it .i64, .sl [.st, .st], .it .i64, .st, .it .i64, .it .i64, .st, .st, .st, .st, .sl [.st, .st], .it .i64, .st] es) (hs : sizE es ≤ 1048576) : ∃ l : List Ak, es = aks l ∧ (∀ a, a ∈ l → AOK a) ∧ l.length ≤ sizE es := by
  induction es with
  | nil => exact ⟨[], rfl, fun a h => (nomatch h), by simp [sizE]⟩
  | cons e es ih =>
    cases h with
    | cons a r =>
      have e1 : sizE (e :: es) = sizL e + sizE es + 1 ∨ sizE (e :: es) = sizL e + sizE es := by
        first | exact .inl rfl | exact .inr rfl
      obtain ⟨l, rfl, h1, h2⟩ := ih r (by omega)
      have hpos : 1 ≤ sizL e := by
        obtain ⟨v, r', rfl, b1, -, e2⟩ := ShL.cons' a
        obtain ⟨k, rfl, _⟩ := int_of b1
        simp only [sizL, siz]; omega
      obtain ⟨x, rfl, h3⟩ := ak_of a (by omega)
      exact ⟨x :: l, rfl, fun y hy => by
        rcases List.mem_cons.1 hy with rfl | hy
        · exact h3
        · exact h1 y hy, by rw [List.length_cons]; omega⟩
end Go.Proofs.Ytddohjlkjakdlaa
