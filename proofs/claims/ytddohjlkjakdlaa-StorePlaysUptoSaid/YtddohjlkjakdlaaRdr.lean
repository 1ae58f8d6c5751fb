import Derived.Test.YtddohjlkjakdlaaEvE
import Derived.Test.YtddohjlkjakdlaaSto1
set_option linter.unusedVariables false
set_option linter.unusedSimpArgs false
set_option linter.unusedSectionVars false
set_option linter.unusedVariables false
set_option linter.unusedSimpArgs false
-- fields, requests, entries held against each other, wherever they lie
namespace Go.Proofs.Ytddohjlkjakdlaa
open Go hiding Fn
open Ev tab
attribute [local irreducible] EvD EvL EvC evGds evLs C.run sK bK gK pK fK lpB stepD
theorem ext_f {a b : List Fld} (h : a.length = b.length) (h2 : ∀ j, j < a.length → a.getD j f0 = b.getD j f0) : a = b :=
  List.ext_getElem h fun j q q' => by
    have := h2 j q
    rw [List.getD, List.getElem?_eq_getElem q, List.getD, List.getElem?_eq_getElem q'] at this
    exact this
theorem fld_eq {f g : Fld} (h1 : f.1 = g.1) (h2 : f.2 = g.2) : f = g := by cases f; cases g; simp_all
def rowRqV (q : Rq) (v : V) : List V := [.st q.m, .st q.s, .st q.a, .st q.p, v, .it .i64 q.n]
def rowRsV (s : Rs) (v : V) : List V := [.it .i64 s.k, v, .it .i64 s.n]
set_option maxHeartbeats 8000000 in
theorem sameR_ok {own : Bool} (hp : Hp) (v w : V) (a b : List Fld) (ha : Rd hp v 2 (fds a)) (hb : Rd hp w 2 (fds b)) (hl : a.length ≤ 100000000) (hl2 : b.length ≤ 100000000) : EvC F own 56 [v, w] hp (.ret (.bo (decide (a = b))) hp) := by
  refine EvC.ofRoQ d56 rfl rfl rfl ?_ rfl
  have ha := ha.ro
  have hb := hb.ro
  generalize (⟨hp.next, hp.next, hp.tr⟩ : Hp) = hq at *
  have hvl := ha.lp
  have hwl := hb.lp
  have hv2 := lenO ha.len (fds_length _)
  have hw2 := lenO hb.len (fds_length _)
  generalize ht : decide (a = b) = t
  repeat' (first | refine EvQ.run ?_ | (refine EvQ.pickB rfl rfl rfl ?_) | (refine EvQ.cond rfl (fun h => ?_) (fun h => ?_) <;> ((first | replace h := X.nm h | skip); try have hne := ne_len h)) | (refine EvQ.g1 rfl (fun h => ?_) (fun h => ?_) <;> ((first | replace h := X.nm h | skip); try have hne := ne_len h)) | (refine EvQ.pick rfl (fun _ => rfl) (fun _ => rfl) (fun h => ?_) (fun h => ?_) <;> ((first | replace h := X.nm h | skip); try have hne := ne_len h)) | refine EvQ.fin X.rs ?_ | refine EvQ.fin1 (fun _ => rfl) rfl ?_)
  · have : t = false := by rw [← ht]; exact decide_eq_false (fun e => by subst e; omega)
    subst this
    exact ⟨_, rfl⟩
  · refine EvQ.loop (QL := fun r => (t = true ∧ XtQ 0 [] (fun _ _ => True) r) ∨ (t = false ∧ RtQ [(4, .bo false)] (fun _ _ => True) r)) ?_ ?_
    · refine EvL.invQ (S := Nat) (fun i => [(0, v), (1, w), (5, .it .i64 (Int.ofNat i))]) (fun i _ h' => h' = hq ∧ i ≤ a.length ∧ ∀ j, j < i → a.getD j f0 = b.getD j f0) (fun i => a.length - i) _ ?_ 0 _ _ _ ⟨rfl, Nat.zero_le _, fun j hj => absurd hj (Nat.not_lt_zero j)⟩ X.kv
      intro i lo h' ⟨e0, e1, e2⟩
      subst e0
      repeat' (first | refine EvQ.run ?_ | (refine EvQ.pickB rfl rfl rfl ?_) | (refine EvQ.cond rfl (fun h => ?_) (fun h => ?_) <;> ((first | replace h := X.nm h | skip); try have hne := ne_len h)) | (refine EvQ.g1 rfl (fun h => ?_) (fun h => ?_) <;> ((first | replace h := X.nm h | skip); try have hne := ne_len h)) | (refine EvQ.pick rfl (fun _ => rfl) (fun _ => rfl) (fun h => ?_) (fun h => ?_) <;> ((first | replace h := X.nm h | skip); try have hne := ne_len h)) | refine EvQ.fin X.rs ?_ | refine EvQ.fin1 (fun _ => rfl) rfl ?_)
      · refine EvQ.rt (.inr ⟨?_, RtQ.mk' X.kv trivial⟩)
        rw [← ht]
        refine decide_eq_false fun e => ?_
        subst e
        rcases h with h | h | h
        · exact h rfl
        · exact h rfl
        · cases h
      · refine EvQ.go (i + 1) X.kv ⟨rfl, by omega, fun j hj => ?_⟩ (by omega)
        rcases Nat.lt_or_ge j i with q | q
        · exact e2 j q
        · rw [show j = i by omega]; exact fld_eq h.1 h.2.1
      · refine EvQ.xt (.inl ⟨?_, XtQ.mk' X.kv trivial⟩)
        rw [← ht]
        exact decide_eq_true (ext_f (by omega) fun j hj => e2 j (by omega))
    · rintro _ (⟨rfl, tm, lo, h', rfl, -⟩ | ⟨rfl, tm, lo, h', rfl, -⟩)
      · repeat' (first | refine EvQ.run ?_ | (refine EvQ.pickB rfl rfl rfl ?_) | (refine EvQ.cond rfl (fun h => ?_) (fun h => ?_) <;> ((first | replace h := X.nm h | skip); try have hne := ne_len h)) | (refine EvQ.g1 rfl (fun h => ?_) (fun h => ?_) <;> ((first | replace h := X.nm h | skip); try have hne := ne_len h)) | (refine EvQ.pick rfl (fun _ => rfl) (fun _ => rfl) (fun h => ?_) (fun h => ?_) <;> ((first | replace h := X.nm h | skip); try have hne := ne_len h)) | refine EvQ.fin X.rs ?_ | refine EvQ.fin1 (fun _ => rfl) rfl ?_)
        exact ⟨_, rfl⟩
      · repeat' (first | refine EvQ.run ?_ | (refine EvQ.pickB rfl rfl rfl ?_) | (refine EvQ.cond rfl (fun h => ?_) (fun h => ?_) <;> ((first | replace h := X.nm h | skip); try have hne := ne_len h)) | (refine EvQ.g1 rfl (fun h => ?_) (fun h => ?_) <;> ((first | replace h := X.nm h | skip); try have hne := ne_len h)) | (refine EvQ.pick rfl (fun _ => rfl) (fun _ => rfl) (fun h => ?_) (fun h => ?_) <;> ((first | replace h := X.nm h | skip); try have hne := ne_len h)) | refine EvQ.fin X.rs ?_ | refine EvQ.fin1 (fun _ => rfl) rfl ?_)
        exact ⟨_, rfl⟩
theorem rt_bo {x t : Bool} {h : Hp} (e : x = t) : ∃ h', Rt (.bo x) h = Rt (.bo t) h' := ⟨h, by rw [e]⟩
def eqRq (p q : Rq) : Bool := decide (p.m = q.m ∧ p.s = q.s ∧ p.a = q.a ∧ p.p = q.p ∧ p.fs = q.fs ∧ p.n = q.n)
def eqRs (p q : Rs) : Bool := decide (p.k = q.k ∧ p.fs = q.fs ∧ p.n = q.n)
def eqEn (p q : En) : Bool := eqRq p.q q.q && (eqRs p.s q.s && decide (p.body = q.body ∧ p.asked = q.asked ∧ p.came = q.came))
set_option maxHeartbeats 8000000 in
theorem reqR_ok {own : Bool} (hp : Hp) (p q : Rq) (v w : V) (hv : Rd hp v 2 (fds p.fs)) (hw : Rd hp w 2 (fds q.fs)) (hl : p.fs.length ≤ 100000000) (hl2 : q.fs.length ≤ 100000000) : EvC F own 44 [.ag (rowRqV p v), .ag (rowRqV q w)] hp (.ret (.bo (eqRq p q)) hp) := by
  refine EvC.ofRoQ d44 rfl rfl rfl ?_ rfl
  have hv := hv.ro
  have hw := hw.ro
  generalize (⟨hp.next, hp.next, hp.tr⟩ : Hp) = hq at *
  have hvl := hv.lp
  have hwl := hw.lp
  have hvk := hv.keep
  have hwk := hw.keep
  have sm := sameR_ok (own := false) hq v w p.fs q.fs hv hw hl hl2
  generalize ht : eqRq p q = t
  repeat' (first | refine EvQ.run ?_ | refine EvQ.lift (fun _ zn => X.pcall (sm) X.cq rfl X.al rfl zn) ?_ | refine EvQ.lift (fun _ zn => X.pcallG (sm) rfl X.cq rfl X.al rfl zn) ?_ | refine EvQ.lift (fun _ zn => X.pcallC (sm) rfl X.cq rfl X.al rfl zn) ?_ | refine EvQ.lift (fun _ zn => X.pcallT (sm) (by decide) X.cq rfl X.al rfl zn) ?_ | refine EvQ.lift (fun _ zn => X.call rfl X.al (sm) zn) ?_ | (refine EvQ.pickB rfl rfl rfl ?_) | (refine EvQ.cond rfl (fun h => ?_) (fun h => ?_) <;> ((first | replace h := X.nm h | skip); try have hne := ne_len h)) | (refine EvQ.g1 rfl (fun h => ?_) (fun h => ?_) <;> ((first | replace h := X.nm h | skip); try have hne := ne_len h)) | (refine EvQ.pick rfl (fun _ => rfl) (fun _ => rfl) (fun h => ?_) (fun h => ?_) <;> ((first | replace h := X.nm h | skip); try have hne := ne_len h)) | refine EvQ.fin X.rs ?_ | refine EvQ.fin1 (fun _ => rfl) rfl ?_)
  all_goals
    refine rt_bo ?_
    rw [← ht]
    unfold eqRq
    clear sm ht
    first
      | (rw [beqLD] at *; simp [*]; done)
      | (rw [ieqD]; simp [*]; done)
      | (simp [*]; done)
      | trace_state
set_option maxHeartbeats 8000000 in
theorem resR_ok {own : Bool} (hp : Hp) (p q : Rs) (v w : V) (hv : Rd hp v 2 (fds p.fs)) (hw : Rd hp w 2 (fds q.fs)) (hl : p.fs.length ≤ 100000000) (hl2 : q.fs.length ≤ 100000000) : EvC F own 45 [.ag (rowRsV p v), .ag (rowRsV q w)] hp (.ret (.bo (eqRs p q)) hp) := by
  refine EvC.ofRoQ d45 rfl rfl rfl ?_ rfl
  have hv := hv.ro
  have hw := hw.ro
  generalize (⟨hp.next, hp.next, hp.tr⟩ : Hp) = hq at *
  have hvl := hv.lp
  have hwl := hw.lp
  have hvk := hv.keep
  have hwk := hw.keep
  have sm := sameR_ok (own := false) hq v w p.fs q.fs hv hw hl hl2
  generalize ht : eqRs p q = t
  repeat' (first | refine EvQ.run ?_ | refine EvQ.lift (fun _ zn => X.pcall (sm) X.cq rfl X.al rfl zn) ?_ | refine EvQ.lift (fun _ zn => X.pcallG (sm) rfl X.cq rfl X.al rfl zn) ?_ | refine EvQ.lift (fun _ zn => X.pcallC (sm) rfl X.cq rfl X.al rfl zn) ?_ | refine EvQ.lift (fun _ zn => X.pcallT (sm) (by decide) X.cq rfl X.al rfl zn) ?_ | refine EvQ.lift (fun _ zn => X.call rfl X.al (sm) zn) ?_ | (refine EvQ.pickB rfl rfl rfl ?_) | (refine EvQ.cond rfl (fun h => ?_) (fun h => ?_) <;> ((first | replace h := X.nm h | skip); try have hne := ne_len h)) | (refine EvQ.g1 rfl (fun h => ?_) (fun h => ?_) <;> ((first | replace h := X.nm h | skip); try have hne := ne_len h)) | (refine EvQ.pick rfl (fun _ => rfl) (fun _ => rfl) (fun h => ?_) (fun h => ?_) <;> ((first | replace h := X.nm h | skip); try have hne := ne_len h)) | refine EvQ.fin X.rs ?_ | refine EvQ.fin1 (fun _ => rfl) rfl ?_)
  all_goals
    refine rt_bo ?_
    rw [← ht]
    unfold eqRs
    clear sm ht
    first
      | (rw [ieqD]; simp [*]; done)
      | (simp [*]; done)
      | trace_state
set_option maxHeartbeats 16000000 in
theorem entR_ok {own : Bool} (hp : Hp) (p q : En) (v w v' w' : V) (hv : Rd hp v 2 (fds p.q.fs)) (hw : Rd hp w 2 (fds q.q.fs)) (hv' : Rd hp v' 2 (fds p.s.fs)) (hw' : Rd hp w' 2 (fds q.s.fs))
    (hl : p.q.fs.length ≤ 100000000) (hl2 : q.q.fs.length ≤ 100000000) (hl3 : p.s.fs.length ≤ 100000000) (hl4 : q.s.fs.length ≤ 100000000) : EvC F own 26 [.ag (rowEnV p v v'), .ag (rowEnV q w w')] hp (.ret (.bo (eqEn p q)) hp) := by
  refine EvC.ofRoQ d26 rfl rfl rfl ?_ rfl
  have hv := hv.ro
  have hw := hw.ro
  have hv' := hv'.ro
  have hw' := hw'.ro
  generalize (⟨hp.next, hp.next, hp.tr⟩ : Hp) = hq at *
  have hvl := hv.lp
  have hwl := hw.lp
  have hvk := hv.keep
  have hwk := hw.keep
  have hvl' := hv'.lp
  have hwl' := hw'.lp
  have hvk' := hv'.keep
  have hwk' := hw'.keep
  have sm := reqR_ok (own := false) hq p.q q.q v w hv hw hl hl2
  have sn := resR_ok (own := false) hq p.s q.s v' w' hv' hw' hl3 hl4
  generalize ht : eqEn p q = t
  repeat' (first | refine EvQ.run ?_ | refine EvQ.lift (fun _ zn => X.pcall (sm) X.cq rfl X.al rfl zn) ?_ | refine EvQ.lift (fun _ zn => X.pcallG (sm) rfl X.cq rfl X.al rfl zn) ?_ | refine EvQ.lift (fun _ zn => X.pcallC (sm) rfl X.cq rfl X.al rfl zn) ?_ | refine EvQ.lift (fun _ zn => X.pcallT (sm) (by decide) X.cq rfl X.al rfl zn) ?_ | refine EvQ.lift (fun _ zn => X.call rfl X.al (sm) zn) ?_ | refine EvQ.lift (fun _ zn => X.pcall (sn) X.cq rfl X.al rfl zn) ?_ | refine EvQ.lift (fun _ zn => X.pcallG (sn) rfl X.cq rfl X.al rfl zn) ?_ | refine EvQ.lift (fun _ zn => X.pcallC (sn) rfl X.cq rfl X.al rfl zn) ?_ | refine EvQ.lift (fun _ zn => X.pcallT (sn) (by decide) X.cq rfl X.al rfl zn) ?_ | refine EvQ.lift (fun _ zn => X.call rfl X.al (sn) zn) ?_ | (refine EvQ.pickB rfl rfl rfl ?_) | (refine EvQ.cond rfl (fun h => ?_) (fun h => ?_) <;> ((first | replace h := X.nm h | skip); try have hne := ne_len h)) | (refine EvQ.g1 rfl (fun h => ?_) (fun h => ?_) <;> ((first | replace h := X.nm h | skip); try have hne := ne_len h)) | (refine EvQ.pick rfl (fun _ => rfl) (fun _ => rfl) (fun h => ?_) (fun h => ?_) <;> ((first | replace h := X.nm h | skip); try have hne := ne_len h)) | refine EvQ.fin X.rs ?_ | refine EvQ.fin1 (fun _ => rfl) rfl ?_)
  all_goals
    refine rt_bo ?_
    rw [← ht]
    unfold eqEn
    clear sm sn ht
    first
      | (rw [ieqD]; simp [*]; done)
      | (rw [beqLD] at *; simp [*]; done)
      | (simp [*]; done)
      | trace_state
end Go.Proofs.Ytddohjlkjakdlaa
