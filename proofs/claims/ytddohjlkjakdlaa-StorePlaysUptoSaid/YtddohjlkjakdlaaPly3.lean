import Derived.Test.YtddohjlkjakdlaaEvE
import Derived.Test.YtddohjlkjakdlaaPly2
set_option linter.unusedVariables false
set_option linter.unusedSimpArgs false
set_option linter.unusedSectionVars false
-- StorePlays: the document's store: found, its size, peeked at (EvHp EvOwn)
namespace Go.Proofs.Ytddohjlkjakdlaa
open Go hiding Fn
open Ev tab
attribute [local irreducible] EvP EvD EvL EvC evGds evLs C.run sK bK gK pK fK lpB stepD matchS
theorem fit_1 {en : En} {q : Rq} (a : keyS en.q = keyS q) (b : matchS en q = true) : fitB en q = true := by unfold fitB; rw [decide_eq_true a, b]; rfl
theorem fit_2 {en : En} {q : Rq} (a : ¬ keyS en.q = keyS q) : fitB en q = false := by unfold fitB; rw [decide_eq_false a]; rfl
theorem fit_3 {en : En} {q : Rq} (b : matchS en q = false) : fitB en q = false := by unfold fitB; rw [b, Bool.and_false]
set_option maxHeartbeats 16000000 in
theorem rfind_ok {own : Bool} (hp : Hp) (w : Nat) (v : V) (l : List En) (b : Nat) (q : Rq) (h : RefV hp w v l b) (hq : QOK q) : EvC F own 43 [.pt w 0 0, .ag (rowRq q)] hp (.ret (idxV (idxS l q)) hp) := by
  have hlen := h.len
  have hrl : (l.map rowEn).length = l.length := List.length_map _
  have hobj : hget ⟨hp.next, hp.next, hp.tr⟩ w = some ⟨2, false, [[v, .it .i64 (Int.ofNat b)]]⟩ := h.obj
  have vl := h.o.lp
  have vc := h.o.cells
  have vk := h.o.keep
  have hR : Rd ⟨hp.next, hp.next, hp.tr⟩ v 12 (l.map rowEn) := h.o.sl.rd.ro
  have hn := hR.len
  rw [hrl] at hn
  have c2 := rowRq_clo q
  generalize ht : idxS l q = t
  refine EvC.ofRoQ d43 rfl rfl rfl ?_ (idxV_old _ _)
  repeat' (first | refine EvQ.run ?_ | (refine EvQ.pickB rfl rfl rfl ?_) | (refine EvQ.cond rfl (fun h => ?_) (fun h => ?_) <;> ((first | replace h := X.nm h | skip); try have hne := ne_len h)) | (refine EvQ.g1 rfl (fun h => ?_) (fun h => ?_) <;> ((first | replace h := X.nm h | skip); try have hne := ne_len h)) | (refine EvQ.pick rfl (fun _ => rfl) (fun _ => rfl) (fun h => ?_) (fun h => ?_) <;> ((first | replace h := X.nm h | skip); try have hne := ne_len h)) | refine EvQ.fin X.rs ?_ | refine EvQ.fin1 (fun _ => rfl) rfl ?_)
  refine EvQ.loop (QL := fun r => (∃ i, t = some i ∧ RtQ [(4, .it .i64 (Int.ofNat i))] (fun _ _ => True) r) ∨ (t = none ∧ XtQ 0 [] (fun _ _ => True) r)) ?_ ?_
  · refine EvL.invQ (S := Nat) (fun i => [(0, .pt w 0 0), (3, .lp 3 0), (5, .it .i64 (Int.ofNat i))]) (fun i lo hp' => shed [] lo = lset (fun _ => none) 3 (rowRq q) ∧ hp' = ⟨hp.next, hp.next, hp.tr⟩ ∧ i ≤ l.length ∧ idxGo q i (l.drop i) = t) (fun i => l.length - i) _ ?_ 0 _ _ _ ⟨X.lo, rfl, Nat.zero_le _, ht⟩ X.kv
    intro i lo hp' ⟨e1, e2, h1, h2⟩
    subst e2
    rw [e1]
    have hd : i < l.length → idxGo q i (l.drop i) = if fitB (l.getD i e0) q = true then some i else idxGo q (i + 1) (l.drop (i + 1)) := fun h => by rw [drop_getD h e0]; rfl
    by_cases hi : i < l.length
    · have hge := rows_getD hi
      have hE := h.ok _ (mem_getD hi)
      rw [hd hi] at h2
      clear hd
      have k1 := rkey_ok (l.getD i e0).q hE.q.k1 hE.q.k2 hE.q.k3
      have k2 := rkey_ok q hq.k1 hq.k2 hq.k3
      have m := rmatch_ok (l.getD i e0) q hE.q.f hE.s hq.f hE.t
      have f1 := fit_1 (en := l.getD i e0) (q := q)
      have f2 := fit_2 (en := l.getD i e0) (q := q)
      have f3 := fit_3 (en := l.getD i e0) (q := q)
      generalize l.getD i e0 = en at *
      have c3 := rowEn_clo en
      have c4 := rowRq_clo en.q
      generalize keyS en.q = K1 at *
      generalize keyS q = K2 at *
      generalize matchS en q = B at *
      repeat' (first | refine EvQ.run ?_ | refine EvQ.lift (fun _ zn => X.pcall (k1) X.cq rfl X.al rfl zn) ?_ | refine EvQ.lift (fun _ zn => X.pcallG (k1) rfl X.cq rfl X.al rfl zn) ?_ | refine EvQ.lift (fun _ zn => X.pcallC (k1) rfl X.cq rfl X.al rfl zn) ?_ | refine EvQ.lift (fun _ zn => X.pcallT (k1) (by decide) X.cq rfl X.al rfl zn) ?_ | refine EvQ.lift (fun _ zn => X.call rfl X.al (k1) zn) ?_ | refine EvQ.lift (fun _ zn => X.pcall (k2) X.cq rfl X.al rfl zn) ?_ | refine EvQ.lift (fun _ zn => X.pcallG (k2) rfl X.cq rfl X.al rfl zn) ?_ | refine EvQ.lift (fun _ zn => X.pcallC (k2) rfl X.cq rfl X.al rfl zn) ?_ | refine EvQ.lift (fun _ zn => X.pcallT (k2) (by decide) X.cq rfl X.al rfl zn) ?_ | refine EvQ.lift (fun _ zn => X.call rfl X.al (k2) zn) ?_ | refine EvQ.lift (fun _ zn => X.pcall (m) X.cq rfl X.al rfl zn) ?_ | refine EvQ.lift (fun _ zn => X.pcallG (m) rfl X.cq rfl X.al rfl zn) ?_ | refine EvQ.lift (fun _ zn => X.pcallC (m) rfl X.cq rfl X.al rfl zn) ?_ | refine EvQ.lift (fun _ zn => X.pcallT (m) (by decide) X.cq rfl X.al rfl zn) ?_ | refine EvQ.lift (fun _ zn => X.call rfl X.al (m) zn) ?_ | (refine EvQ.pickB rfl rfl rfl ?_) | (refine EvQ.cond rfl (fun h => ?_) (fun h => ?_) <;> ((first | replace h := X.nm h | skip); try have hne := ne_len h)) | (refine EvQ.g1 rfl (fun h => ?_) (fun h => ?_) <;> ((first | replace h := X.nm h | skip); try have hne := ne_len h)) | (refine EvQ.pick rfl (fun _ => rfl) (fun _ => rfl) (fun h => ?_) (fun h => ?_) <;> ((first | replace h := X.nm h | skip); try have hne := ne_len h)) | refine EvQ.fin X.rs ?_ | refine EvQ.fin1 (fun _ => rfl) rfl ?_)
      all_goals
        first
          | (rw [if_pos (f1 (by assumption) (by assumption))] at h2; exact EvQ.rt (.inl ⟨i, h2.symm, .mk' X.kv trivial⟩))
          | (rw [if_neg (by rw [f3 (by assumption)]; decide)] at h2; exact EvQ.go (i + 1) X.kv ⟨X.lo, rfl, by omega, h2⟩ (by omega))
          | (rw [if_neg (by rw [f2 (by assumption)]; decide)] at h2; exact EvQ.go (i + 1) X.kv ⟨X.lo, rfl, by omega, h2⟩ (by omega))
    · repeat' (first | refine EvQ.run ?_ | (refine EvQ.pickB rfl rfl rfl ?_) | (refine EvQ.cond rfl (fun h => ?_) (fun h => ?_) <;> ((first | replace h := X.nm h | skip); try have hne := ne_len h)) | (refine EvQ.g1 rfl (fun h => ?_) (fun h => ?_) <;> ((first | replace h := X.nm h | skip); try have hne := ne_len h)) | (refine EvQ.pick rfl (fun _ => rfl) (fun _ => rfl) (fun h => ?_) (fun h => ?_) <;> ((first | replace h := X.nm h | skip); try have hne := ne_len h)) | refine EvQ.fin X.rs ?_ | refine EvQ.fin1 (fun _ => rfl) rfl ?_)
      rw [List.drop_of_length_le (by omega)] at h2
      exact EvQ.xt (.inr ⟨h2.symm, .mk' X.kv trivial⟩)
  · rintro _ (⟨i, rfl, tm, lo, hp, rfl, -⟩ | ⟨rfl, tm, lo, hp, rfl, -⟩)
    · repeat' (first | refine EvQ.run ?_ | (refine EvQ.pickB rfl rfl rfl ?_) | (refine EvQ.cond rfl (fun h => ?_) (fun h => ?_) <;> ((first | replace h := X.nm h | skip); try have hne := ne_len h)) | (refine EvQ.g1 rfl (fun h => ?_) (fun h => ?_) <;> ((first | replace h := X.nm h | skip); try have hne := ne_len h)) | (refine EvQ.pick rfl (fun _ => rfl) (fun _ => rfl) (fun h => ?_) (fun h => ?_) <;> ((first | replace h := X.nm h | skip); try have hne := ne_len h)) | refine EvQ.fin X.rs ?_ | refine EvQ.fin1 (fun _ => rfl) rfl ?_)
      exact ⟨_, rfl⟩
    · repeat' (first | refine EvQ.run ?_ | (refine EvQ.pickB rfl rfl rfl ?_) | (refine EvQ.cond rfl (fun h => ?_) (fun h => ?_) <;> ((first | replace h := X.nm h | skip); try have hne := ne_len h)) | (refine EvQ.g1 rfl (fun h => ?_) (fun h => ?_) <;> ((first | replace h := X.nm h | skip); try have hne := ne_len h)) | (refine EvQ.pick rfl (fun _ => rfl) (fun _ => rfl) (fun h => ?_) (fun h => ?_) <;> ((first | replace h := X.nm h | skip); try have hne := ne_len h)) | refine EvQ.fin X.rs ?_ | refine EvQ.fin1 (fun _ => rfl) rfl ?_)
      exact ⟨_, rfl⟩
set_option maxHeartbeats 16000000 in
theorem rsize_ok {own : Bool} (hp : Hp) (w : Nat) (v : V) (l : List En) (b : Nat) (h : RefV hp w v l b) : EvC F own 30 [.pt w 0 0] hp (.ret (.it .i64 (Int.ofNat (totS l))) hp) := by
  have hlen := h.len
  have hrl : (l.map rowEn).length = l.length := List.length_map _
  have hobj : hget ⟨hp.next, hp.next, hp.tr⟩ w = some ⟨2, false, [[v, .it .i64 (Int.ofNat b)]]⟩ := h.obj
  have vl := h.o.lp
  have vc := h.o.cells
  have vk := h.o.keep
  have hR : Rd ⟨hp.next, hp.next, hp.tr⟩ v 12 (l.map rowEn) := h.o.sl.rd.ro
  have hn := hR.len
  rw [hrl] at hn
  have htot := h.tot
  have hbud := h.bud
  refine EvC.ofRoQ d30 rfl rfl rfl ?_ rfl
  repeat' (first | refine EvQ.run ?_ | (refine EvQ.pickB rfl rfl rfl ?_) | (refine EvQ.cond rfl (fun h => ?_) (fun h => ?_) <;> ((first | replace h := X.nm h | skip); try have hne := ne_len h)) | (refine EvQ.g1 rfl (fun h => ?_) (fun h => ?_) <;> ((first | replace h := X.nm h | skip); try have hne := ne_len h)) | (refine EvQ.pick rfl (fun _ => rfl) (fun _ => rfl) (fun h => ?_) (fun h => ?_) <;> ((first | replace h := X.nm h | skip); try have hne := ne_len h)) | refine EvQ.fin X.rs ?_ | refine EvQ.fin1 (fun _ => rfl) rfl ?_)
  refine EvQ.loop (QL := XtQ 0 [(3, .it .i64 (Int.ofNat (totS l)))] (fun _ _ => True)) ?_ ?_
  · refine EvL.invQ (S := Nat × Nat) (fun x => [(0, .pt w 0 0), (3, .it .i64 (Int.ofNat x.2)), (4, .it .i64 (Int.ofNat x.1))]) (fun x lo hp' => hp' = ⟨hp.next, hp.next, hp.tr⟩ ∧ x.1 ≤ l.length ∧ x.2 + totS (l.drop x.1) = totS l) (fun x => l.length - x.1) _ ?_ (0, 0) _ _ _ ⟨rfl, Nat.zero_le _, by simp⟩ X.kv
    intro ⟨i, n⟩ lo hp' ⟨e2, h1, h2⟩
    simp only at h1 h2
    subst e2
    by_cases hi : i < l.length
    · have hge := rows_getD hi
      have hE := h.ok _ (mem_getD hi)
      have hd : totS (l.drop i) = costS (l.getD i e0) + totS (l.drop (i + 1)) := by rw [drop_getD hi e0]; rfl
      rw [hd] at h2
      clear hd
      have cs := rcost_ok (l.getD i e0) hE
      generalize l.getD i e0 = en at *
      have c3 := rowEn_clo en
      repeat' (first | refine EvQ.run ?_ | refine EvQ.lift (fun _ zn => X.pcall (cs) X.cq rfl X.al rfl zn) ?_ | refine EvQ.lift (fun _ zn => X.pcallG (cs) rfl X.cq rfl X.al rfl zn) ?_ | refine EvQ.lift (fun _ zn => X.pcallC (cs) rfl X.cq rfl X.al rfl zn) ?_ | refine EvQ.lift (fun _ zn => X.pcallT (cs) (by decide) X.cq rfl X.al rfl zn) ?_ | refine EvQ.lift (fun _ zn => X.call rfl X.al (cs) zn) ?_ | (refine EvQ.pickB rfl rfl rfl ?_) | (refine EvQ.cond rfl (fun h => ?_) (fun h => ?_) <;> ((first | replace h := X.nm h | skip); try have hne := ne_len h)) | (refine EvQ.g1 rfl (fun h => ?_) (fun h => ?_) <;> ((first | replace h := X.nm h | skip); try have hne := ne_len h)) | (refine EvQ.pick rfl (fun _ => rfl) (fun _ => rfl) (fun h => ?_) (fun h => ?_) <;> ((first | replace h := X.nm h | skip); try have hne := ne_len h)) | refine EvQ.fin X.rs ?_ | refine EvQ.fin1 (fun _ => rfl) rfl ?_)
      exact EvQ.go (i + 1, _) X.kv ⟨rfl, by show i + 1 ≤ _; omega, by show _ + totS (l.drop (i + 1)) = _; omega⟩ (by show l.length - (i + 1) < l.length - i; omega)
    · repeat' (first | refine EvQ.run ?_ | (refine EvQ.pickB rfl rfl rfl ?_) | (refine EvQ.cond rfl (fun h => ?_) (fun h => ?_) <;> ((first | replace h := X.nm h | skip); try have hne := ne_len h)) | (refine EvQ.g1 rfl (fun h => ?_) (fun h => ?_) <;> ((first | replace h := X.nm h | skip); try have hne := ne_len h)) | (refine EvQ.pick rfl (fun _ => rfl) (fun _ => rfl) (fun h => ?_) (fun h => ?_) <;> ((first | replace h := X.nm h | skip); try have hne := ne_len h)) | refine EvQ.fin X.rs ?_ | refine EvQ.fin1 (fun _ => rfl) rfl ?_)
      rw [List.drop_of_length_le (by omega)] at h2
      have h3 : n = totS l := h2
      subst h3
      exact EvQ.xt (.mk' X.kv trivial)
  · rintro _ ⟨tm, lo, hp, rfl, -⟩
    repeat' (first | refine EvQ.run ?_ | (refine EvQ.pickB rfl rfl rfl ?_) | (refine EvQ.cond rfl (fun h => ?_) (fun h => ?_) <;> ((first | replace h := X.nm h | skip); try have hne := ne_len h)) | (refine EvQ.g1 rfl (fun h => ?_) (fun h => ?_) <;> ((first | replace h := X.nm h | skip); try have hne := ne_len h)) | (refine EvQ.pick rfl (fun _ => rfl) (fun _ => rfl) (fun h => ?_) (fun h => ?_) <;> ((first | replace h := X.nm h | skip); try have hne := ne_len h)) | refine EvQ.fin X.rs ?_ | refine EvQ.fin1 (fun _ => rfl) rfl ?_)
    exact ⟨_, rfl⟩
set_option maxHeartbeats 16000000 in
theorem rpeek_ok {own : Bool} (hp : Hp) (s : Nat) (v : V) (l : List En) (b : Nat) (q : Rq) (h : RefV hp s v l b) (hq : QOK q) :
    ∃ w hp', EvC F own 27 [.pt s 0 0, .ag (rowRq q)] hp (.ret w hp') ∧ (w = hitV l (idxS l q) ∧ hp' = hp) := by
  have hf := rfind_ok (own := false) hp s v l b q h hq
  have hlen := h.len
  have hobj := h.obj
  have vl := h.o.lp
  have vc := h.o.cells
  have vk := h.o.keep
  have hR := h.o.sl.rd
  have hge : ∀ i, i < l.length → (l.map rowEn).getD i [] = rowEn (l.getD i e0) := fun i => rows_getD
  have hrl : (l.map rowEn).length = l.length := List.length_map _
  have c2 := rowRq_clo q
  refine EvC.ofQ d27 rfl rfl rfl ?_
  refine EvQ.run ?_
  first | refine EvQ.lift (fun _ zn => X.pcall (hf) X.cq rfl X.al rfl zn) ?_ | refine EvQ.lift (fun _ zn => X.pcallG (hf) rfl X.cq rfl X.al rfl zn) ?_ | refine EvQ.lift (fun _ zn => X.pcallC (hf) rfl X.cq rfl X.al rfl zn) ?_ | refine EvQ.lift (fun _ zn => X.pcallT (hf) (by decide) X.cq rfl X.al rfl zn) ?_ | refine EvQ.lift (fun _ zn => X.call rfl X.al (hf) zn) ?_
  try refine EvQ.run ?_
  cases ho : idxS l q with
  | none =>
    repeat' (first | refine EvQ.run ?_ | (refine EvQ.pickB rfl rfl rfl ?_) | (refine EvQ.cond rfl (fun h => ?_) (fun h => ?_) <;> ((first | replace h := X.nm h | skip); try have hne := ne_len h)) | (refine EvQ.g1 rfl (fun h => ?_) (fun h => ?_) <;> ((first | replace h := X.nm h | skip); try have hne := ne_len h)) | (refine EvQ.pick rfl (fun _ => rfl) (fun _ => rfl) (fun h => ?_) (fun h => ?_) <;> ((first | replace h := X.nm h | skip); try have hne := ne_len h)) | refine EvQ.fin X.rs ?_ | refine EvQ.fin1 (fun _ => rfl) rfl ?_)
    exact ⟨_, _, rfl, rfl, rfl⟩
  | some i =>
    obtain ⟨hi, hfit⟩ := idxS_some ho
    have hge := hge i hi
    have c3 := rowEn_clo (l.getD i e0)
    have e : hitV l (some i) = .tu [.ag (rowEn (l.getD i e0)), .bo true] := rfl
    rw [e]
    generalize l.getD i e0 = en at *
    repeat' (first | refine EvQ.run ?_ | (refine EvQ.pickB rfl rfl rfl ?_) | (refine EvQ.cond rfl (fun h => ?_) (fun h => ?_) <;> ((first | replace h := X.nm h | skip); try have hne := ne_len h)) | (refine EvQ.g1 rfl (fun h => ?_) (fun h => ?_) <;> ((first | replace h := X.nm h | skip); try have hne := ne_len h)) | (refine EvQ.pick rfl (fun _ => rfl) (fun _ => rfl) (fun h => ?_) (fun h => ?_) <;> ((first | replace h := X.nm h | skip); try have hne := ne_len h)) | refine EvQ.fin X.rs ?_ | refine EvQ.fin1 (fun _ => rfl) rfl ?_)
    exact ⟨_, _, rfl, rfl, rfl⟩
end Go.Proofs.Ytddohjlkjakdlaa
