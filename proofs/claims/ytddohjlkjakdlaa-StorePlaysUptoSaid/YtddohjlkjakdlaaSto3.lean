import Derived.Test.YtddohjlkjakdlaaEvE
import Derived.Test.YtddohjlkjakdlaaSto2
set_option linter.unusedVariables false
set_option linter.unusedSimpArgs false
set_option linter.unusedSectionVars false
set_option linter.unusedVariables false
set_option linter.unusedSimpArgs false
-- the store: found, got, peeked at
namespace Go.Proofs.Ytddohjlkjakdlaa
open Go hiding Fn
open Ev tab
attribute [local irreducible] EvP EvD EvL EvC evGds evLs C.run sK bK gK pK fK lpB stepD
abbrev e0 : En := ⟨⟨[], [], [], [], [], 0⟩, ⟨0, [], 0⟩, [], 0, 0⟩
def idxGo (q : Rq) : Nat → List En → Option Nat
  | _, [] => none
  | i, e :: r => if fitB e q = true then some i else idxGo q (i + 1) r
def idxS (l : List En) (q : Rq) : Option Nat := idxGo q 0 l
def idxV : Option Nat → V
  | some i => .it .i64 (Int.ofNat i)
  | none => .it .i64 (-1)
theorem rows_getD {l : List En} {i : Nat} (h : i < l.length) : (l.map rowEn).getD i [] = rowEn (l.getD i e0) := by
  rw [List.getD, List.getD, List.getElem?_map, List.getElem?_eq_getElem h]; rfl
theorem mem_getD {l : List En} {i : Nat} (h : i < l.length) : l.getD i e0 ∈ l := by
  rw [List.getD, List.getElem?_eq_getElem h]; exact List.getElem_mem _
theorem getD_some {l : List En} {i : Nat} (h : i < l.length) : l[i]? = some (l.getD i e0) := by
  rw [List.getD, List.getElem?_eq_getElem h]; rfl
theorem idxGo_ge (q : Rq) : ∀ (l : List En) (i k : Nat), idxGo q i l = some k → i ≤ k ∧ k < i + l.length ∧ fitB (l.getD (k - i) e0) q = true
  | [], i, k, h => by cases h
  | e :: r, i, k, h => by
    unfold idxGo at h
    split at h
    · cases h
      refine ⟨Nat.le_refl _, by simp, ?_⟩
      rw [Nat.sub_self]; assumption
    · obtain ⟨h1, h2, h3⟩ := idxGo_ge q r (i + 1) k h
      refine ⟨by omega, by simp only [List.length_cons]; omega, ?_⟩
      rw [show k - i = (k - (i + 1)) + 1 by omega]; exact h3
theorem idxS_some {l : List En} {q : Rq} {k : Nat} (h : idxS l q = some k) : k < l.length ∧ fitB (l.getD k e0) q = true := by
  obtain ⟨_, h2, h3⟩ := idxGo_ge q l 0 k h
  exact ⟨by omega, h3⟩
set_option maxHeartbeats 8000000 in
theorem find1_ok {own : Bool} (hp : Hp) (e : En) (q : Rq) (bx : Nat) (fr : Bool) (he : EOK e) (hq : QOK q) (hb : hget hp bx = some ⟨6, fr, [rowRq q]⟩) : ∃ w hp', EvC F own 54 [.ag (rowEn e), .pt bx 0 0] hp (.ret w hp') ∧ (w = .bo (fitB e q) ∧ hp' = hp) := by
  have hf := fits_ok e q he hq
  have c3 := rowEn_clo e
  have c2 := rowRq_clo q
  refine EvC.ofQ d54 rfl rfl rfl ?_
  repeat' (first | refine EvQ.run ?_ | refine EvQ.lift (fun _ zn => X.pcall (hf) X.cq rfl X.al rfl zn) ?_ | refine EvQ.lift (fun _ zn => X.pcallG (hf) rfl X.cq rfl X.al rfl zn) ?_ | refine EvQ.lift (fun _ zn => X.pcallC (hf) rfl X.cq rfl X.al rfl zn) ?_ | refine EvQ.lift (fun _ zn => X.pcallT (hf) (by decide) X.cq rfl X.al rfl zn) ?_ | refine EvQ.lift (fun _ zn => X.call rfl X.al (hf) zn) ?_ | (refine EvQ.pickB rfl rfl rfl ?_) | (refine EvQ.cond rfl (fun h => ?_) (fun h => ?_) <;> ((first | replace h := X.nm h | skip); try have hne := ne_len h)) | (refine EvQ.g1 rfl (fun h => ?_) (fun h => ?_) <;> ((first | replace h := X.nm h | skip); try have hne := ne_len h)) | (refine EvQ.pick rfl (fun _ => rfl) (fun _ => rfl) (fun h => ?_) (fun h => ?_) <;> ((first | replace h := X.nm h | skip); try have hne := ne_len h)) | refine EvQ.fin X.rs ?_ | refine EvQ.fin1 (fun _ => rfl) rfl ?_)
  exact ⟨_, _, rfl, rfl, rfl⟩
set_option maxHeartbeats 16000000 in
theorem idx_ok {own : Bool} (hp0 : Hp) (v : V) (l : List En) (q : Rq) (bx : Nat) (fr : Bool) (hR : Rd hp0 v 12 (l.map rowEn)) (hl : l.length ≤ 1000000) (he : ∀ e, e ∈ l → EOK e) (hq : QOK q) (hb : hget hp0 bx = some ⟨6, fr, [rowRq q]⟩) :
    ∃ w hp', EvC F own 53 [v, .fn 54 [] [.pt bx 0 0]] hp0 (.ret w hp') ∧ (w = idxV (idxS l q) ∧ hp' = hp0) := by
  have vl := hR.lp
  have vc := hR.cells
  have vk := hR.keep
  have hn := hR.len
  rw [List.length_map] at hn
  generalize ht : idxS l q = t
  refine EvC.ofQ d53 rfl rfl rfl ?_
  repeat' (first | refine EvQ.run ?_ | (refine EvQ.pickB rfl rfl rfl ?_) | (refine EvQ.cond rfl (fun h => ?_) (fun h => ?_) <;> ((first | replace h := X.nm h | skip); try have hne := ne_len h)) | (refine EvQ.g1 rfl (fun h => ?_) (fun h => ?_) <;> ((first | replace h := X.nm h | skip); try have hne := ne_len h)) | (refine EvQ.pick rfl (fun _ => rfl) (fun _ => rfl) (fun h => ?_) (fun h => ?_) <;> ((first | replace h := X.nm h | skip); try have hne := ne_len h)) | refine EvQ.fin X.rs ?_ | refine EvQ.fin1 (fun _ => rfl) rfl ?_)
  refine EvQ.loop (QL := fun r => (∃ i, t = some i ∧ RtQ [(4, .it .i64 (Int.ofNat i))] (fun _ hp => hp = hp0) r) ∨ (t = none ∧ XtQ 0 [] (fun _ hp => hp = hp0) r)) ?_ ?_
  · refine EvL.invQ (S := Nat) (fun i => [(0, v), (1, .fn 54 [] [.pt bx 0 0]), (7, .it .i64 (Int.ofNat l.length)), (8, .it .i64 (Int.ofNat i))]) (fun i lo hp => hp = hp0 ∧ i ≤ l.length ∧ idxGo q i (l.drop i) = t) (fun i => l.length - i) _ ?_ 0 _ _ _ ⟨rfl, Nat.zero_le _, ht⟩ X.kv
    intro i lo hp ⟨e1, h1, h2⟩
    subst e1
    have hd : i < l.length → idxGo q i (l.drop i) = if fitB (l.getD i e0) q = true then some i else idxGo q (i + 1) (l.drop (i + 1)) := fun h => by rw [drop_getD h e0]; rfl
    have hge := fun h : i < l.length => rows_getD h
    have hrl : (l.map rowEn).length = l.length := List.length_map _
    by_cases hi : i < l.length
    · have hge := hge hi
      have hE := he _ (mem_getD hi)
      rw [hd hi] at h2
      clear hd
      generalize l.getD i e0 = e at *
      refine EvQ.run ?_
      refine EvQ.calv rfl rfl rfl X.al (find1_ok hp e q bx fr hE hq hb) ?_
      rintro _ _ ⟨rfl, rfl⟩
      repeat' (first | refine EvQ.run ?_ | (refine EvQ.pickB rfl rfl rfl ?_) | (refine EvQ.cond rfl (fun h => ?_) (fun h => ?_) <;> ((first | replace h := X.nm h | skip); try have hne := ne_len h)) | (refine EvQ.g1 rfl (fun h => ?_) (fun h => ?_) <;> ((first | replace h := X.nm h | skip); try have hne := ne_len h)) | (refine EvQ.pick rfl (fun _ => rfl) (fun _ => rfl) (fun h => ?_) (fun h => ?_) <;> ((first | replace h := X.nm h | skip); try have hne := ne_len h)) | refine EvQ.fin X.rs ?_ | refine EvQ.fin1 (fun _ => rfl) rfl ?_)
      · rw [if_pos (by assumption)] at h2
        exact EvQ.rt (.inl ⟨i, h2.symm, .mk' X.kv rfl⟩)
      · rw [if_neg (by simp [*])] at h2
        exact EvQ.go (i + 1) X.kv ⟨rfl, by omega, h2⟩ (by omega)
    · repeat' (first | refine EvQ.run ?_ | (refine EvQ.pickB rfl rfl rfl ?_) | (refine EvQ.cond rfl (fun h => ?_) (fun h => ?_) <;> ((first | replace h := X.nm h | skip); try have hne := ne_len h)) | (refine EvQ.g1 rfl (fun h => ?_) (fun h => ?_) <;> ((first | replace h := X.nm h | skip); try have hne := ne_len h)) | (refine EvQ.pick rfl (fun _ => rfl) (fun _ => rfl) (fun h => ?_) (fun h => ?_) <;> ((first | replace h := X.nm h | skip); try have hne := ne_len h)) | refine EvQ.fin X.rs ?_ | refine EvQ.fin1 (fun _ => rfl) rfl ?_)
      rw [List.drop_of_length_le (by omega)] at h2
      exact EvQ.xt (.inr ⟨h2.symm, .mk' X.kv rfl⟩)
  · rintro _ (⟨i, rfl, tm, lo, hp, rfl, rfl⟩ | ⟨rfl, tm, lo, hp, rfl, rfl⟩)
    · repeat' (first | refine EvQ.run ?_ | (refine EvQ.pickB rfl rfl rfl ?_) | (refine EvQ.cond rfl (fun h => ?_) (fun h => ?_) <;> ((first | replace h := X.nm h | skip); try have hne := ne_len h)) | (refine EvQ.g1 rfl (fun h => ?_) (fun h => ?_) <;> ((first | replace h := X.nm h | skip); try have hne := ne_len h)) | (refine EvQ.pick rfl (fun _ => rfl) (fun _ => rfl) (fun h => ?_) (fun h => ?_) <;> ((first | replace h := X.nm h | skip); try have hne := ne_len h)) | refine EvQ.fin X.rs ?_ | refine EvQ.fin1 (fun _ => rfl) rfl ?_)
      exact ⟨_, _, rfl, rfl, rfl⟩
    · repeat' (first | refine EvQ.run ?_ | (refine EvQ.pickB rfl rfl rfl ?_) | (refine EvQ.cond rfl (fun h => ?_) (fun h => ?_) <;> ((first | replace h := X.nm h | skip); try have hne := ne_len h)) | (refine EvQ.g1 rfl (fun h => ?_) (fun h => ?_) <;> ((first | replace h := X.nm h | skip); try have hne := ne_len h)) | (refine EvQ.pick rfl (fun _ => rfl) (fun _ => rfl) (fun h => ?_) (fun h => ?_) <;> ((first | replace h := X.nm h | skip); try have hne := ne_len h)) | refine EvQ.fin X.rs ?_ | refine EvQ.fin1 (fun _ => rfl) rfl ?_)
      exact ⟨_, _, rfl, rfl, rfl⟩
theorem idxV_old (n : Nat) : ∀ o, oldT n (idxV o) = true
  | some _ => rfl
  | none => rfl
set_option maxHeartbeats 8000000 in
theorem find_ok {own : Bool} (hp : Hp) (s : Nat) (v : V) (l : List En) (b : Nat) (q : Rq) (h : StoV hp s v l b) (hq : QOK q) : EvC F own 36 [.pt s 0 0, .ag (rowRq q)] hp (.ret (idxV (idxS l q)) hp) := by
  have hlen := h.len
  have hobj := h.obj
  have hlt := h.lt
  have vl := h.o.lp
  have vc := h.o.cells
  have vk := h.o.keep
  have hR : Rd ⟨hp.next, hp.next, hp.tr⟩ v 12 (l.map rowEn) := h.o.sl.rd.ro
  have hobj1 : hget ⟨hp.next, hp.next, hp.tr⟩ s = some ⟨3, false, [[v, .it .i64 (Int.ofNat (totS l)), .it .i64 (Int.ofNat b)]]⟩ := hobj
  have c2 := rowRq_clo q
  refine EvC.ofRoQ d36 rfl rfl rfl ?_ (idxV_old _ _)
  have hobj2 : hget (hnew ⟨hp.next, hp.next, hp.tr⟩ ⟨6, false, [rowRq q]⟩) s = some ⟨3, false, [[v, .it .i64 (Int.ofNat (totS l)), .it .i64 (Int.ofNat b)]]⟩ := (hget_old (by show s ≠ hp.next; omega)).trans hobj1
  have hb : hget (hnew ⟨hp.next, hp.next, hp.tr⟩ ⟨6, false, [rowRq q]⟩) hp.next = some ⟨6, false, [rowRq q]⟩ := hget_new _ _
  have hR2 : Rd (hnew ⟨hp.next, hp.next, hp.tr⟩ ⟨6, false, [rowRq q]⟩) v 12 (l.map rowEn) := hR.get (by rw [hnew_next]; omega) (fun id bk e1 e2 => by
    rw [hget_old (fun e3 => ?_)]
    · exact e2
    · have := h.o.lt _ e1
      have e4 : (⟨hp.next, hp.next, hp.tr⟩ : Hp).next = hp.next := rfl
      omega)
  refine EvQ.run ?_
  refine EvQ.call rfl X.al (idx_ok _ v l q hp.next false hR2 (by omega) h.ok hq hb) ?_
  rintro _ _ ⟨rfl, rfl⟩
  generalize idxS l q = o
  cases o with
  | none =>
    repeat' (first | refine EvQ.run ?_ | (refine EvQ.pickB rfl rfl rfl ?_) | (refine EvQ.cond rfl (fun h => ?_) (fun h => ?_) <;> ((first | replace h := X.nm h | skip); try have hne := ne_len h)) | (refine EvQ.g1 rfl (fun h => ?_) (fun h => ?_) <;> ((first | replace h := X.nm h | skip); try have hne := ne_len h)) | (refine EvQ.pick rfl (fun _ => rfl) (fun _ => rfl) (fun h => ?_) (fun h => ?_) <;> ((first | replace h := X.nm h | skip); try have hne := ne_len h)) | refine EvQ.fin X.rs ?_ | refine EvQ.fin1 (fun _ => rfl) rfl ?_)
    exact ⟨_, rfl⟩
  | some i =>
    repeat' (first | refine EvQ.run ?_ | (refine EvQ.pickB rfl rfl rfl ?_) | (refine EvQ.cond rfl (fun h => ?_) (fun h => ?_) <;> ((first | replace h := X.nm h | skip); try have hne := ne_len h)) | (refine EvQ.g1 rfl (fun h => ?_) (fun h => ?_) <;> ((first | replace h := X.nm h | skip); try have hne := ne_len h)) | (refine EvQ.pick rfl (fun _ => rfl) (fun _ => rfl) (fun h => ?_) (fun h => ?_) <;> ((first | replace h := X.nm h | skip); try have hne := ne_len h)) | refine EvQ.fin X.rs ?_ | refine EvQ.fin1 (fun _ => rfl) rfl ?_)
    exact ⟨_, rfl⟩
end Go.Proofs.Ytddohjlkjakdlaa
