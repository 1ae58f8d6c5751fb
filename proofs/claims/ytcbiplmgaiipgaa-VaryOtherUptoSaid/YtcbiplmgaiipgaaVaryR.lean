import Derived.Test.YtcbiplmgaiipgaaEvE
import Derived.Test.YtcbiplmgaiipgaaEvE
import Derived.Test.YtcbiplmgaiipgaaVaryT
set_option linter.unusedVariables false
set_option linter.unusedSimpArgs false
-- VaryOrder
namespace Go.Proofs.Ytcbiplmgaiipgaa
open Go hiding Fn
open Ev tab
def sAcc : List Nat := [97, 99, 99, 101, 112, 116]
def sX : List Nat := [120]
def sAccX : List Nat := [97, 99, 99, 101, 112, 116, 44, 32, 120]
def sXAcc : List Nat := [88, 44, 65, 99, 99, 101, 112, 116]
def withF (e : En) (l : List Fld) : En := { e with s := { e.s with fs := l } }
theorem matchS_of {e : En} {q : Rq} {l : List Fld} {names : List (List Nat)} (h : starsS l = some names) : matchS (withF e l) q = names.all (nmB e.q.fs q.fs) := by
  unfold matchS
  rw [show (withF e l).s.fs = l from rfl, h]; rfl
theorem st1 : starsS [(sVary, sAccX)] = some [sAcc, sX] := by rfl
theorem st2 : starsS [(sVary, sXAcc)] = some [sX, sAcc] := by rfl
theorem st3 : starsS [(sVary, sX), (sVary, sAcc)] = some [sX, sAcc] := by rfl
theorem st4 : starsS [(sVary, sAcc)] = some [sAcc] := by rfl
theorem st5 : starsS [(sVary, sX)] = some [sX] := by rfl
attribute [local irreducible] EvD EvL EvC evGds evLs C.run sK bK gK pK fK lpB stepD matchS keyS starsS
theorem of38_ok (a b : List Nat) : EvP F 38 c38 [.st a, .st b] [.ag (fd (a, b))] := by
  refine EvP.ofQ d38 rfl rfl rfl ?_
  repeat' (first | refine EvQ.run ?_ | (refine EvQ.pickB rfl rfl rfl ?_) | (refine EvQ.cond rfl (fun h => ?_) (fun h => ?_) <;> ((first | replace h := X.nm h | skip); try have hne := ne_len h)) | (refine EvQ.g1 rfl (fun h => ?_) (fun h => ?_) <;> ((first | replace h := X.nm h | skip); try have hne := ne_len h)) | (refine EvQ.pick rfl (fun _ => rfl) (fun _ => rfl) (fun h => ?_) (fun h => ?_) <;> ((first | replace h := X.nm h | skip); try have hne := ne_len h)) | refine EvQ.fin X.rs ?_ | refine EvQ.fin1 (fun _ => rfl) rfl ?_)
  exact PQ.of (.gs (fd_clo (a, b)) (.nil _))
theorem jok_lit {l : List Fld} (h : l.length ≤ 3100) (h2 : ∀ f, f ∈ l → f.1.length ≤ 3100 ∧ f.2.length ≤ 3100) : JOK l := ⟨h, h2⟩
set_option maxHeartbeats 4000000 in
theorem with_ok {hp : Hp} {i j : Nat} (e : En) (q : Rq) (l : List Fld) (b : Bool) (hi : hget hp i = some ⟨12, false, [rowEn e]⟩) (hj : hget hp j = some ⟨6, false, [rowRq q]⟩) (h1 : JOK e.q.fs) (h2 : JOK l) (h3 : JOK q.fs) (ht : TOK l) (hb : matchS (withF e l) q = b) :
    ∃ v hp', EvC F false 44 [.vs 2 (fds l), .pt i 0 0, .pt j 0 0] hp (.ret v hp') ∧ (v = .bo b ∧ hp' = hp) := by
  refine EvC.ofQ (P := fun v hp' => v = .bo b ∧ hp' = hp) d44 rfl rfl rfl ?_
  have m := match_ok (withF e l) q h1 h2 h3 ht
  rw [hb] at m
  have c1 := rowEn_clo (withF e l)
  have c2 := rowRq_clo q
  repeat' (first | refine EvQ.run ?_ | refine EvQ.lift (fun _ zn => X.pcall (m) X.cq rfl X.al rfl zn) ?_ | refine EvQ.lift (fun _ zn => X.pcallG (m) rfl X.cq rfl X.al rfl zn) ?_ | refine EvQ.lift (fun _ zn => X.pcallC (m) rfl X.cq rfl X.al rfl zn) ?_ | refine EvQ.lift (fun _ zn => X.pcallT (m) (by decide) X.cq rfl X.al rfl zn) ?_ | (refine EvQ.pickB rfl rfl rfl ?_) | (refine EvQ.cond rfl (fun h => ?_) (fun h => ?_) <;> ((first | replace h := X.nm h | skip); try have hne := ne_len h)) | (refine EvQ.g1 rfl (fun h => ?_) (fun h => ?_) <;> ((first | replace h := X.nm h | skip); try have hne := ne_len h)) | (refine EvQ.pick rfl (fun _ => rfl) (fun _ => rfl) (fun h => ?_) (fun h => ?_) <;> ((first | replace h := X.nm h | skip); try have hne := ne_len h)) | refine EvQ.fin X.rs ?_ | refine EvQ.fin1 (fun _ => rfl) rfl ?_)
  exact ⟨_, _, rfl, rfl, rfl⟩
theorem tj : ∀ l, l ∈ [[(sVary, sAccX)], [(sVary, sXAcc)], [(sVary, sX), (sVary, sAcc)], [(sVary, sAcc)], [(sVary, sX)]] → JOK l ∧ TOK l := by
  intro l hl
  simp only [List.mem_cons, List.not_mem_nil, or_false] at hl
  rcases hl with rfl | rfl | rfl | rfl | rfl <;> exact ⟨⟨by decide, by decide⟩, by unfold TOK Txt; decide⟩
set_option maxHeartbeats 16000000 in
theorem vorder_go (e : En) (q : Rq) (h1 : FB e.q.fs 1100000) (h2 : FB e.s.fs 1100000) (h3 : FB q.fs 1100000) (hb : smB e = true) (hl : lkB q.fs = true) : ∃ h, EvD F (stepD d12 [.ag (rowEn e), .ag (rowRq q)] h0) (Rt (.bo true) h) := by
  have s1 := small_ok e (h1.bok (by decide)) (h2.bok (by decide))
  have s2 := lk_ok q.fs (h3.bok (by decide))
  rw [hb] at s1
  rw [hl] at s2
  have c1 := rowEn_clo e
  have c2 := rowRq_clo q
  simp only [smB, Bool.and_eq_true, decide_eq_true_eq] at hb
  have j1 := lkB_jok hb.1
  have j3 := lkB_jok hl
  let hp : Hp := hnew (hnew h0 ⟨12, false, [rowEn e]⟩) ⟨6, false, [rowRq q]⟩
  have hi : hget hp 0 = some ⟨12, false, [rowEn e]⟩ := rfl
  have hj : hget hp 1 = some ⟨6, false, [rowRq q]⟩ := hget_new (hnew h0 ⟨12, false, [rowEn e]⟩) ⟨6, false, [rowRq q]⟩
  have k := fun l (hl : l ∈ _) b hb => with_ok e q l b hi hj j1 (tj l hl).1 j3 (tj l hl).2 hb
  have v1 := matchS_of (e := e) (q := q) st1
  have v2 := matchS_of (e := e) (q := q) st2
  have v3 := matchS_of (e := e) (q := q) st3
  have v4 := matchS_of (e := e) (q := q) st4
  have v5 := matchS_of (e := e) (q := q) st5
  simp only [List.all_cons, List.all_nil, Bool.and_true] at v1 v2 v3 v4 v5
  revert v1 v2 v3 v4 v5
  generalize nmB e.q.fs q.fs sAcc = A
  generalize nmB e.q.fs q.fs sX = X
  intro v1 v2 v3 v4 v5
  have w1 := k _ (by simp) _ v1
  have w2 := k _ (by simp) _ v2
  have w3 := k _ (by simp) _ v3
  have w4 := k _ (by simp) _ v4
  have w5 := k _ (by simp) _ v5
  clear k v1 v2 v3 v4 v5
  refine EvQ.law ?_
  cases A <;> cases X
  ·
    repeat' (first | refine EvQ.run ?_ | refine EvQ.lift (fun _ zn => X.pcall (s1) X.cq rfl X.al rfl zn) ?_ | refine EvQ.lift (fun _ zn => X.pcallG (s1) rfl X.cq rfl X.al rfl zn) ?_ | refine EvQ.lift (fun _ zn => X.pcallC (s1) rfl X.cq rfl X.al rfl zn) ?_ | refine EvQ.lift (fun _ zn => X.pcallT (s1) (by decide) X.cq rfl X.al rfl zn) ?_ | refine EvQ.lift (fun _ zn => X.pcall (s2) X.cq rfl X.al rfl zn) ?_ | refine EvQ.lift (fun _ zn => X.pcallG (s2) rfl X.cq rfl X.al rfl zn) ?_ | refine EvQ.lift (fun _ zn => X.pcallC (s2) rfl X.cq rfl X.al rfl zn) ?_ | refine EvQ.lift (fun _ zn => X.pcallT (s2) (by decide) X.cq rfl X.al rfl zn) ?_ | (refine EvQ.pickB rfl rfl rfl ?_) | (refine EvQ.cond rfl (fun h => ?_) (fun h => ?_) <;> ((first | replace h := X.nm h | skip); try have hne := ne_len h)) | (refine EvQ.g1 rfl (fun h => ?_) (fun h => ?_) <;> ((first | replace h := X.nm h | skip); try have hne := ne_len h)) | (refine EvQ.pick rfl (fun _ => rfl) (fun _ => rfl) (fun h => ?_) (fun h => ?_) <;> ((first | replace h := X.nm h | skip); try have hne := ne_len h)) | refine EvQ.fin X.rs ?_ | refine EvQ.fin1 (fun _ => rfl) rfl ?_)
    first | refine EvQ.lift (fun _ zn => X.pcall (of38_ok sVary sAccX) X.cq rfl X.al rfl zn) ?_ | refine EvQ.lift (fun _ zn => X.pcallG (of38_ok sVary sAccX) rfl X.cq rfl X.al rfl zn) ?_ | refine EvQ.lift (fun _ zn => X.pcallC (of38_ok sVary sAccX) rfl X.cq rfl X.al rfl zn) ?_ | refine EvQ.lift (fun _ zn => X.pcallT (of38_ok sVary sAccX) (by decide) X.cq rfl X.al rfl zn) ?_
    try refine EvQ.run ?_
    refine EvQ.calv rfl rfl rfl rfl w1 ?_
    rintro _ _ ⟨rfl, rfl⟩
    refine EvQ.run ?_
    first | refine EvQ.lift (fun _ zn => X.pcall (of38_ok sVary sXAcc) X.cq rfl X.al rfl zn) ?_ | refine EvQ.lift (fun _ zn => X.pcallG (of38_ok sVary sXAcc) rfl X.cq rfl X.al rfl zn) ?_ | refine EvQ.lift (fun _ zn => X.pcallC (of38_ok sVary sXAcc) rfl X.cq rfl X.al rfl zn) ?_ | refine EvQ.lift (fun _ zn => X.pcallT (of38_ok sVary sXAcc) (by decide) X.cq rfl X.al rfl zn) ?_
    try refine EvQ.run ?_
    refine EvQ.calv rfl rfl rfl rfl w2 ?_
    rintro _ _ ⟨rfl, rfl⟩
    refine EvQ.run ?_
    first | refine EvQ.lift (fun _ zn => X.pcall (of38_ok sVary sX) X.cq rfl X.al rfl zn) ?_ | refine EvQ.lift (fun _ zn => X.pcallG (of38_ok sVary sX) rfl X.cq rfl X.al rfl zn) ?_ | refine EvQ.lift (fun _ zn => X.pcallC (of38_ok sVary sX) rfl X.cq rfl X.al rfl zn) ?_ | refine EvQ.lift (fun _ zn => X.pcallT (of38_ok sVary sX) (by decide) X.cq rfl X.al rfl zn) ?_
    try refine EvQ.run ?_
    first | refine EvQ.lift (fun _ zn => X.pcall (of38_ok sVary sAcc) X.cq rfl X.al rfl zn) ?_ | refine EvQ.lift (fun _ zn => X.pcallG (of38_ok sVary sAcc) rfl X.cq rfl X.al rfl zn) ?_ | refine EvQ.lift (fun _ zn => X.pcallC (of38_ok sVary sAcc) rfl X.cq rfl X.al rfl zn) ?_ | refine EvQ.lift (fun _ zn => X.pcallT (of38_ok sVary sAcc) (by decide) X.cq rfl X.al rfl zn) ?_
    try refine EvQ.run ?_
    refine EvQ.calv rfl rfl rfl rfl w3 ?_
    rintro _ _ ⟨rfl, rfl⟩
    refine EvQ.run ?_
    first | refine EvQ.lift (fun _ zn => X.pcall (of38_ok sVary sAcc) X.cq rfl X.al rfl zn) ?_ | refine EvQ.lift (fun _ zn => X.pcallG (of38_ok sVary sAcc) rfl X.cq rfl X.al rfl zn) ?_ | refine EvQ.lift (fun _ zn => X.pcallC (of38_ok sVary sAcc) rfl X.cq rfl X.al rfl zn) ?_ | refine EvQ.lift (fun _ zn => X.pcallT (of38_ok sVary sAcc) (by decide) X.cq rfl X.al rfl zn) ?_
    try refine EvQ.run ?_
    refine EvQ.calv rfl rfl rfl rfl w4 ?_
    rintro _ _ ⟨rfl, rfl⟩
    refine EvQ.run ?_
    first | refine EvQ.lift (fun _ zn => X.pcall (varyruns_ok) X.cq rfl X.al rfl zn) ?_ | refine EvQ.lift (fun _ zn => X.pcallG (varyruns_ok) rfl X.cq rfl X.al rfl zn) ?_ | refine EvQ.lift (fun _ zn => X.pcallC (varyruns_ok) rfl X.cq rfl X.al rfl zn) ?_ | refine EvQ.lift (fun _ zn => X.pcallT (varyruns_ok) (by decide) X.cq rfl X.al rfl zn) ?_
    try refine EvQ.run ?_
    refine EvQ.fin X.rs ?_
    exact ⟨_, rfl⟩
  ·
    repeat' (first | refine EvQ.run ?_ | refine EvQ.lift (fun _ zn => X.pcall (s1) X.cq rfl X.al rfl zn) ?_ | refine EvQ.lift (fun _ zn => X.pcallG (s1) rfl X.cq rfl X.al rfl zn) ?_ | refine EvQ.lift (fun _ zn => X.pcallC (s1) rfl X.cq rfl X.al rfl zn) ?_ | refine EvQ.lift (fun _ zn => X.pcallT (s1) (by decide) X.cq rfl X.al rfl zn) ?_ | refine EvQ.lift (fun _ zn => X.pcall (s2) X.cq rfl X.al rfl zn) ?_ | refine EvQ.lift (fun _ zn => X.pcallG (s2) rfl X.cq rfl X.al rfl zn) ?_ | refine EvQ.lift (fun _ zn => X.pcallC (s2) rfl X.cq rfl X.al rfl zn) ?_ | refine EvQ.lift (fun _ zn => X.pcallT (s2) (by decide) X.cq rfl X.al rfl zn) ?_ | (refine EvQ.pickB rfl rfl rfl ?_) | (refine EvQ.cond rfl (fun h => ?_) (fun h => ?_) <;> ((first | replace h := X.nm h | skip); try have hne := ne_len h)) | (refine EvQ.g1 rfl (fun h => ?_) (fun h => ?_) <;> ((first | replace h := X.nm h | skip); try have hne := ne_len h)) | (refine EvQ.pick rfl (fun _ => rfl) (fun _ => rfl) (fun h => ?_) (fun h => ?_) <;> ((first | replace h := X.nm h | skip); try have hne := ne_len h)) | refine EvQ.fin X.rs ?_ | refine EvQ.fin1 (fun _ => rfl) rfl ?_)
    first | refine EvQ.lift (fun _ zn => X.pcall (of38_ok sVary sAccX) X.cq rfl X.al rfl zn) ?_ | refine EvQ.lift (fun _ zn => X.pcallG (of38_ok sVary sAccX) rfl X.cq rfl X.al rfl zn) ?_ | refine EvQ.lift (fun _ zn => X.pcallC (of38_ok sVary sAccX) rfl X.cq rfl X.al rfl zn) ?_ | refine EvQ.lift (fun _ zn => X.pcallT (of38_ok sVary sAccX) (by decide) X.cq rfl X.al rfl zn) ?_
    try refine EvQ.run ?_
    refine EvQ.calv rfl rfl rfl rfl w1 ?_
    rintro _ _ ⟨rfl, rfl⟩
    refine EvQ.run ?_
    first | refine EvQ.lift (fun _ zn => X.pcall (of38_ok sVary sXAcc) X.cq rfl X.al rfl zn) ?_ | refine EvQ.lift (fun _ zn => X.pcallG (of38_ok sVary sXAcc) rfl X.cq rfl X.al rfl zn) ?_ | refine EvQ.lift (fun _ zn => X.pcallC (of38_ok sVary sXAcc) rfl X.cq rfl X.al rfl zn) ?_ | refine EvQ.lift (fun _ zn => X.pcallT (of38_ok sVary sXAcc) (by decide) X.cq rfl X.al rfl zn) ?_
    try refine EvQ.run ?_
    refine EvQ.calv rfl rfl rfl rfl w2 ?_
    rintro _ _ ⟨rfl, rfl⟩
    refine EvQ.run ?_
    first | refine EvQ.lift (fun _ zn => X.pcall (of38_ok sVary sX) X.cq rfl X.al rfl zn) ?_ | refine EvQ.lift (fun _ zn => X.pcallG (of38_ok sVary sX) rfl X.cq rfl X.al rfl zn) ?_ | refine EvQ.lift (fun _ zn => X.pcallC (of38_ok sVary sX) rfl X.cq rfl X.al rfl zn) ?_ | refine EvQ.lift (fun _ zn => X.pcallT (of38_ok sVary sX) (by decide) X.cq rfl X.al rfl zn) ?_
    try refine EvQ.run ?_
    first | refine EvQ.lift (fun _ zn => X.pcall (of38_ok sVary sAcc) X.cq rfl X.al rfl zn) ?_ | refine EvQ.lift (fun _ zn => X.pcallG (of38_ok sVary sAcc) rfl X.cq rfl X.al rfl zn) ?_ | refine EvQ.lift (fun _ zn => X.pcallC (of38_ok sVary sAcc) rfl X.cq rfl X.al rfl zn) ?_ | refine EvQ.lift (fun _ zn => X.pcallT (of38_ok sVary sAcc) (by decide) X.cq rfl X.al rfl zn) ?_
    try refine EvQ.run ?_
    refine EvQ.calv rfl rfl rfl rfl w3 ?_
    rintro _ _ ⟨rfl, rfl⟩
    refine EvQ.run ?_
    first | refine EvQ.lift (fun _ zn => X.pcall (of38_ok sVary sAcc) X.cq rfl X.al rfl zn) ?_ | refine EvQ.lift (fun _ zn => X.pcallG (of38_ok sVary sAcc) rfl X.cq rfl X.al rfl zn) ?_ | refine EvQ.lift (fun _ zn => X.pcallC (of38_ok sVary sAcc) rfl X.cq rfl X.al rfl zn) ?_ | refine EvQ.lift (fun _ zn => X.pcallT (of38_ok sVary sAcc) (by decide) X.cq rfl X.al rfl zn) ?_
    try refine EvQ.run ?_
    refine EvQ.calv rfl rfl rfl rfl w4 ?_
    rintro _ _ ⟨rfl, rfl⟩
    refine EvQ.run ?_
    first | refine EvQ.lift (fun _ zn => X.pcall (varyruns_ok) X.cq rfl X.al rfl zn) ?_ | refine EvQ.lift (fun _ zn => X.pcallG (varyruns_ok) rfl X.cq rfl X.al rfl zn) ?_ | refine EvQ.lift (fun _ zn => X.pcallC (varyruns_ok) rfl X.cq rfl X.al rfl zn) ?_ | refine EvQ.lift (fun _ zn => X.pcallT (varyruns_ok) (by decide) X.cq rfl X.al rfl zn) ?_
    try refine EvQ.run ?_
    refine EvQ.fin X.rs ?_
    exact ⟨_, rfl⟩
  ·
    repeat' (first | refine EvQ.run ?_ | refine EvQ.lift (fun _ zn => X.pcall (s1) X.cq rfl X.al rfl zn) ?_ | refine EvQ.lift (fun _ zn => X.pcallG (s1) rfl X.cq rfl X.al rfl zn) ?_ | refine EvQ.lift (fun _ zn => X.pcallC (s1) rfl X.cq rfl X.al rfl zn) ?_ | refine EvQ.lift (fun _ zn => X.pcallT (s1) (by decide) X.cq rfl X.al rfl zn) ?_ | refine EvQ.lift (fun _ zn => X.pcall (s2) X.cq rfl X.al rfl zn) ?_ | refine EvQ.lift (fun _ zn => X.pcallG (s2) rfl X.cq rfl X.al rfl zn) ?_ | refine EvQ.lift (fun _ zn => X.pcallC (s2) rfl X.cq rfl X.al rfl zn) ?_ | refine EvQ.lift (fun _ zn => X.pcallT (s2) (by decide) X.cq rfl X.al rfl zn) ?_ | (refine EvQ.pickB rfl rfl rfl ?_) | (refine EvQ.cond rfl (fun h => ?_) (fun h => ?_) <;> ((first | replace h := X.nm h | skip); try have hne := ne_len h)) | (refine EvQ.g1 rfl (fun h => ?_) (fun h => ?_) <;> ((first | replace h := X.nm h | skip); try have hne := ne_len h)) | (refine EvQ.pick rfl (fun _ => rfl) (fun _ => rfl) (fun h => ?_) (fun h => ?_) <;> ((first | replace h := X.nm h | skip); try have hne := ne_len h)) | refine EvQ.fin X.rs ?_ | refine EvQ.fin1 (fun _ => rfl) rfl ?_)
    first | refine EvQ.lift (fun _ zn => X.pcall (of38_ok sVary sAccX) X.cq rfl X.al rfl zn) ?_ | refine EvQ.lift (fun _ zn => X.pcallG (of38_ok sVary sAccX) rfl X.cq rfl X.al rfl zn) ?_ | refine EvQ.lift (fun _ zn => X.pcallC (of38_ok sVary sAccX) rfl X.cq rfl X.al rfl zn) ?_ | refine EvQ.lift (fun _ zn => X.pcallT (of38_ok sVary sAccX) (by decide) X.cq rfl X.al rfl zn) ?_
    try refine EvQ.run ?_
    refine EvQ.calv rfl rfl rfl rfl w1 ?_
    rintro _ _ ⟨rfl, rfl⟩
    refine EvQ.run ?_
    first | refine EvQ.lift (fun _ zn => X.pcall (of38_ok sVary sXAcc) X.cq rfl X.al rfl zn) ?_ | refine EvQ.lift (fun _ zn => X.pcallG (of38_ok sVary sXAcc) rfl X.cq rfl X.al rfl zn) ?_ | refine EvQ.lift (fun _ zn => X.pcallC (of38_ok sVary sXAcc) rfl X.cq rfl X.al rfl zn) ?_ | refine EvQ.lift (fun _ zn => X.pcallT (of38_ok sVary sXAcc) (by decide) X.cq rfl X.al rfl zn) ?_
    try refine EvQ.run ?_
    refine EvQ.calv rfl rfl rfl rfl w2 ?_
    rintro _ _ ⟨rfl, rfl⟩
    refine EvQ.run ?_
    first | refine EvQ.lift (fun _ zn => X.pcall (of38_ok sVary sX) X.cq rfl X.al rfl zn) ?_ | refine EvQ.lift (fun _ zn => X.pcallG (of38_ok sVary sX) rfl X.cq rfl X.al rfl zn) ?_ | refine EvQ.lift (fun _ zn => X.pcallC (of38_ok sVary sX) rfl X.cq rfl X.al rfl zn) ?_ | refine EvQ.lift (fun _ zn => X.pcallT (of38_ok sVary sX) (by decide) X.cq rfl X.al rfl zn) ?_
    try refine EvQ.run ?_
    first | refine EvQ.lift (fun _ zn => X.pcall (of38_ok sVary sAcc) X.cq rfl X.al rfl zn) ?_ | refine EvQ.lift (fun _ zn => X.pcallG (of38_ok sVary sAcc) rfl X.cq rfl X.al rfl zn) ?_ | refine EvQ.lift (fun _ zn => X.pcallC (of38_ok sVary sAcc) rfl X.cq rfl X.al rfl zn) ?_ | refine EvQ.lift (fun _ zn => X.pcallT (of38_ok sVary sAcc) (by decide) X.cq rfl X.al rfl zn) ?_
    try refine EvQ.run ?_
    refine EvQ.calv rfl rfl rfl rfl w3 ?_
    rintro _ _ ⟨rfl, rfl⟩
    refine EvQ.run ?_
    first | refine EvQ.lift (fun _ zn => X.pcall (of38_ok sVary sAcc) X.cq rfl X.al rfl zn) ?_ | refine EvQ.lift (fun _ zn => X.pcallG (of38_ok sVary sAcc) rfl X.cq rfl X.al rfl zn) ?_ | refine EvQ.lift (fun _ zn => X.pcallC (of38_ok sVary sAcc) rfl X.cq rfl X.al rfl zn) ?_ | refine EvQ.lift (fun _ zn => X.pcallT (of38_ok sVary sAcc) (by decide) X.cq rfl X.al rfl zn) ?_
    try refine EvQ.run ?_
    refine EvQ.calv rfl rfl rfl rfl w4 ?_
    rintro _ _ ⟨rfl, rfl⟩
    refine EvQ.run ?_
    first | refine EvQ.lift (fun _ zn => X.pcall (of38_ok sVary sX) X.cq rfl X.al rfl zn) ?_ | refine EvQ.lift (fun _ zn => X.pcallG (of38_ok sVary sX) rfl X.cq rfl X.al rfl zn) ?_ | refine EvQ.lift (fun _ zn => X.pcallC (of38_ok sVary sX) rfl X.cq rfl X.al rfl zn) ?_ | refine EvQ.lift (fun _ zn => X.pcallT (of38_ok sVary sX) (by decide) X.cq rfl X.al rfl zn) ?_
    try refine EvQ.run ?_
    refine EvQ.calv rfl rfl rfl rfl w5 ?_
    rintro _ _ ⟨rfl, rfl⟩
    refine EvQ.run ?_
    first | refine EvQ.lift (fun _ zn => X.pcall (varyruns_ok) X.cq rfl X.al rfl zn) ?_ | refine EvQ.lift (fun _ zn => X.pcallG (varyruns_ok) rfl X.cq rfl X.al rfl zn) ?_ | refine EvQ.lift (fun _ zn => X.pcallC (varyruns_ok) rfl X.cq rfl X.al rfl zn) ?_ | refine EvQ.lift (fun _ zn => X.pcallT (varyruns_ok) (by decide) X.cq rfl X.al rfl zn) ?_
    try refine EvQ.run ?_
    refine EvQ.fin X.rs ?_
    exact ⟨_, rfl⟩
  ·
    repeat' (first | refine EvQ.run ?_ | refine EvQ.lift (fun _ zn => X.pcall (s1) X.cq rfl X.al rfl zn) ?_ | refine EvQ.lift (fun _ zn => X.pcallG (s1) rfl X.cq rfl X.al rfl zn) ?_ | refine EvQ.lift (fun _ zn => X.pcallC (s1) rfl X.cq rfl X.al rfl zn) ?_ | refine EvQ.lift (fun _ zn => X.pcallT (s1) (by decide) X.cq rfl X.al rfl zn) ?_ | refine EvQ.lift (fun _ zn => X.pcall (s2) X.cq rfl X.al rfl zn) ?_ | refine EvQ.lift (fun _ zn => X.pcallG (s2) rfl X.cq rfl X.al rfl zn) ?_ | refine EvQ.lift (fun _ zn => X.pcallC (s2) rfl X.cq rfl X.al rfl zn) ?_ | refine EvQ.lift (fun _ zn => X.pcallT (s2) (by decide) X.cq rfl X.al rfl zn) ?_ | (refine EvQ.pickB rfl rfl rfl ?_) | (refine EvQ.cond rfl (fun h => ?_) (fun h => ?_) <;> ((first | replace h := X.nm h | skip); try have hne := ne_len h)) | (refine EvQ.g1 rfl (fun h => ?_) (fun h => ?_) <;> ((first | replace h := X.nm h | skip); try have hne := ne_len h)) | (refine EvQ.pick rfl (fun _ => rfl) (fun _ => rfl) (fun h => ?_) (fun h => ?_) <;> ((first | replace h := X.nm h | skip); try have hne := ne_len h)) | refine EvQ.fin X.rs ?_ | refine EvQ.fin1 (fun _ => rfl) rfl ?_)
    first | refine EvQ.lift (fun _ zn => X.pcall (of38_ok sVary sAccX) X.cq rfl X.al rfl zn) ?_ | refine EvQ.lift (fun _ zn => X.pcallG (of38_ok sVary sAccX) rfl X.cq rfl X.al rfl zn) ?_ | refine EvQ.lift (fun _ zn => X.pcallC (of38_ok sVary sAccX) rfl X.cq rfl X.al rfl zn) ?_ | refine EvQ.lift (fun _ zn => X.pcallT (of38_ok sVary sAccX) (by decide) X.cq rfl X.al rfl zn) ?_
    try refine EvQ.run ?_
    refine EvQ.calv rfl rfl rfl rfl w1 ?_
    rintro _ _ ⟨rfl, rfl⟩
    refine EvQ.run ?_
    first | refine EvQ.lift (fun _ zn => X.pcall (of38_ok sVary sXAcc) X.cq rfl X.al rfl zn) ?_ | refine EvQ.lift (fun _ zn => X.pcallG (of38_ok sVary sXAcc) rfl X.cq rfl X.al rfl zn) ?_ | refine EvQ.lift (fun _ zn => X.pcallC (of38_ok sVary sXAcc) rfl X.cq rfl X.al rfl zn) ?_ | refine EvQ.lift (fun _ zn => X.pcallT (of38_ok sVary sXAcc) (by decide) X.cq rfl X.al rfl zn) ?_
    try refine EvQ.run ?_
    refine EvQ.calv rfl rfl rfl rfl w2 ?_
    rintro _ _ ⟨rfl, rfl⟩
    refine EvQ.run ?_
    first | refine EvQ.lift (fun _ zn => X.pcall (of38_ok sVary sX) X.cq rfl X.al rfl zn) ?_ | refine EvQ.lift (fun _ zn => X.pcallG (of38_ok sVary sX) rfl X.cq rfl X.al rfl zn) ?_ | refine EvQ.lift (fun _ zn => X.pcallC (of38_ok sVary sX) rfl X.cq rfl X.al rfl zn) ?_ | refine EvQ.lift (fun _ zn => X.pcallT (of38_ok sVary sX) (by decide) X.cq rfl X.al rfl zn) ?_
    try refine EvQ.run ?_
    first | refine EvQ.lift (fun _ zn => X.pcall (of38_ok sVary sAcc) X.cq rfl X.al rfl zn) ?_ | refine EvQ.lift (fun _ zn => X.pcallG (of38_ok sVary sAcc) rfl X.cq rfl X.al rfl zn) ?_ | refine EvQ.lift (fun _ zn => X.pcallC (of38_ok sVary sAcc) rfl X.cq rfl X.al rfl zn) ?_ | refine EvQ.lift (fun _ zn => X.pcallT (of38_ok sVary sAcc) (by decide) X.cq rfl X.al rfl zn) ?_
    try refine EvQ.run ?_
    refine EvQ.calv rfl rfl rfl rfl w3 ?_
    rintro _ _ ⟨rfl, rfl⟩
    refine EvQ.run ?_
    first | refine EvQ.lift (fun _ zn => X.pcall (of38_ok sVary sAcc) X.cq rfl X.al rfl zn) ?_ | refine EvQ.lift (fun _ zn => X.pcallG (of38_ok sVary sAcc) rfl X.cq rfl X.al rfl zn) ?_ | refine EvQ.lift (fun _ zn => X.pcallC (of38_ok sVary sAcc) rfl X.cq rfl X.al rfl zn) ?_ | refine EvQ.lift (fun _ zn => X.pcallT (of38_ok sVary sAcc) (by decide) X.cq rfl X.al rfl zn) ?_
    try refine EvQ.run ?_
    refine EvQ.calv rfl rfl rfl rfl w4 ?_
    rintro _ _ ⟨rfl, rfl⟩
    refine EvQ.run ?_
    first | refine EvQ.lift (fun _ zn => X.pcall (of38_ok sVary sX) X.cq rfl X.al rfl zn) ?_ | refine EvQ.lift (fun _ zn => X.pcallG (of38_ok sVary sX) rfl X.cq rfl X.al rfl zn) ?_ | refine EvQ.lift (fun _ zn => X.pcallC (of38_ok sVary sX) rfl X.cq rfl X.al rfl zn) ?_ | refine EvQ.lift (fun _ zn => X.pcallT (of38_ok sVary sX) (by decide) X.cq rfl X.al rfl zn) ?_
    try refine EvQ.run ?_
    refine EvQ.calv rfl rfl rfl rfl w5 ?_
    rintro _ _ ⟨rfl, rfl⟩
    refine EvQ.run ?_
    first | refine EvQ.lift (fun _ zn => X.pcall (varyruns_ok) X.cq rfl X.al rfl zn) ?_ | refine EvQ.lift (fun _ zn => X.pcallG (varyruns_ok) rfl X.cq rfl X.al rfl zn) ?_ | refine EvQ.lift (fun _ zn => X.pcallC (varyruns_ok) rfl X.cq rfl X.al rfl zn) ?_ | refine EvQ.lift (fun _ zn => X.pcallT (varyruns_ok) (by decide) X.cq rfl X.al rfl zn) ?_
    try refine EvQ.run ?_
    refine EvQ.fin X.rs ?_
    exact ⟨_, rfl⟩
theorem vorder_run (e : En) (q : Rq) (h1 : FB e.q.fs 1100000) (h2 : FB e.s.fs 1100000) (h3 : FB q.fs 1100000) : ∃ h, EvD F (stepD d12 [.ag (rowEn e), .ag (rowRq q)] h0) (Rt (.bo true) h) := by
  have s1 := small_ok e (h1.bok (by decide)) (h2.bok (by decide))
  have s2 := lk_ok q.fs (h3.bok (by decide))
  have c1 := rowEn_clo e
  have c2 := rowRq_clo q
  cases hb : smB e with
  | false =>
    rw [hb] at s1
    refine EvQ.law ?_
    repeat' (first | refine EvQ.run ?_ | refine EvQ.lift (fun _ zn => X.pcall (s1) X.cq rfl X.al rfl zn) ?_ | refine EvQ.lift (fun _ zn => X.pcallG (s1) rfl X.cq rfl X.al rfl zn) ?_ | refine EvQ.lift (fun _ zn => X.pcallC (s1) rfl X.cq rfl X.al rfl zn) ?_ | refine EvQ.lift (fun _ zn => X.pcallT (s1) (by decide) X.cq rfl X.al rfl zn) ?_ | refine EvQ.lift (fun _ zn => X.pcall (varyruns_ok) X.cq rfl X.al rfl zn) ?_ | refine EvQ.lift (fun _ zn => X.pcallG (varyruns_ok) rfl X.cq rfl X.al rfl zn) ?_ | refine EvQ.lift (fun _ zn => X.pcallC (varyruns_ok) rfl X.cq rfl X.al rfl zn) ?_ | refine EvQ.lift (fun _ zn => X.pcallT (varyruns_ok) (by decide) X.cq rfl X.al rfl zn) ?_ | (refine EvQ.pickB rfl rfl rfl ?_) | (refine EvQ.cond rfl (fun h => ?_) (fun h => ?_) <;> ((first | replace h := X.nm h | skip); try have hne := ne_len h)) | (refine EvQ.g1 rfl (fun h => ?_) (fun h => ?_) <;> ((first | replace h := X.nm h | skip); try have hne := ne_len h)) | (refine EvQ.pick rfl (fun _ => rfl) (fun _ => rfl) (fun h => ?_) (fun h => ?_) <;> ((first | replace h := X.nm h | skip); try have hne := ne_len h)) | refine EvQ.fin X.rs ?_ | refine EvQ.fin1 (fun _ => rfl) rfl ?_)
    exact ⟨_, rfl⟩
  | true =>
    cases hl : lkB q.fs with
    | false =>
      rw [hb] at s1
      rw [hl] at s2
      refine EvQ.law ?_
      repeat' (first | refine EvQ.run ?_ | refine EvQ.lift (fun _ zn => X.pcall (s1) X.cq rfl X.al rfl zn) ?_ | refine EvQ.lift (fun _ zn => X.pcallG (s1) rfl X.cq rfl X.al rfl zn) ?_ | refine EvQ.lift (fun _ zn => X.pcallC (s1) rfl X.cq rfl X.al rfl zn) ?_ | refine EvQ.lift (fun _ zn => X.pcallT (s1) (by decide) X.cq rfl X.al rfl zn) ?_ | refine EvQ.lift (fun _ zn => X.pcall (s2) X.cq rfl X.al rfl zn) ?_ | refine EvQ.lift (fun _ zn => X.pcallG (s2) rfl X.cq rfl X.al rfl zn) ?_ | refine EvQ.lift (fun _ zn => X.pcallC (s2) rfl X.cq rfl X.al rfl zn) ?_ | refine EvQ.lift (fun _ zn => X.pcallT (s2) (by decide) X.cq rfl X.al rfl zn) ?_ | refine EvQ.lift (fun _ zn => X.pcall (varyruns_ok) X.cq rfl X.al rfl zn) ?_ | refine EvQ.lift (fun _ zn => X.pcallG (varyruns_ok) rfl X.cq rfl X.al rfl zn) ?_ | refine EvQ.lift (fun _ zn => X.pcallC (varyruns_ok) rfl X.cq rfl X.al rfl zn) ?_ | refine EvQ.lift (fun _ zn => X.pcallT (varyruns_ok) (by decide) X.cq rfl X.al rfl zn) ?_ | (refine EvQ.pickB rfl rfl rfl ?_) | (refine EvQ.cond rfl (fun h => ?_) (fun h => ?_) <;> ((first | replace h := X.nm h | skip); try have hne := ne_len h)) | (refine EvQ.g1 rfl (fun h => ?_) (fun h => ?_) <;> ((first | replace h := X.nm h | skip); try have hne := ne_len h)) | (refine EvQ.pick rfl (fun _ => rfl) (fun _ => rfl) (fun h => ?_) (fun h => ?_) <;> ((first | replace h := X.nm h | skip); try have hne := ne_len h)) | refine EvQ.fin X.rs ?_ | refine EvQ.fin1 (fun _ => rfl) rfl ?_)
      exact ⟨_, rfl⟩
    | true => exact vorder_go e q h1 h2 h3 hb hl
theorem vorder_law (xs : List V) (h : ShP [(true, [.st, .st, .st, .st, .sl [.st, .st], .it .i64, .it .i64, .sl [.st, .st], .it .i64, .st, .it .i64, .it .i64]), (true, [.st, .st, .st, .st, .sl [.st, .st], .it .i64])] xs) (hb : sizP xs ≤ 1048576) : ∃ L k hp', runF (callF F L k) L c12 xs h0 = .ret (.bo true) hp' := by
  obtain ⟨v, r, rfl, h1, h, e1⟩ := h.grp'
  obtain ⟨w, r, rfl, h2, h, e2⟩ := h.grp'
  cases h.nil'
  obtain ⟨e, rfl, f1, f2, t⟩ := en_of h1
  obtain ⟨q, rfl, f3, t2, b⟩ := rq_of h2
  have fb : ∀ {l : List Fld} {m : Nat}, FB l m → m ≤ 1100000 → FB l 1100000 := fun {l} {m} z hz => ⟨z.t, by have := z.n; omega, fun f hf => by have := z.s f hf; omega⟩
  exact law_of d12 rfl (vorder_run e q (fb f1 (by omega)) (fb f2 (by omega)) (fb f3 (by omega)))
end Go.Proofs.Ytcbiplmgaiipgaa
