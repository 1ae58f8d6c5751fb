import Derived.Test.YtcbiplmgaiipgaaEvE
import Derived.Test.YtcbiplmgaiipgaaEvE
import Derived.Test.YtcbiplmgaiipgaaSplit
import Derived.Test.YtcbiplmgaiipgaaAll
set_option linter.unusedVariables false
set_option linter.unusedSimpArgs false
-- would an entry answer a request's conditions?
namespace Go.Proofs.Ytcbiplmgaiipgaa
open Go hiding Fn
open Ev tab
attribute [local irreducible] EvD EvL EvC evGds evLs C.run sK bK gK pK fK lpB stepD

def preB (s p : List Nat) : Bool := decide (s.take p.length = p)
theorem preB_len {s p : List Nat} (h : preB s p = true) : p.length ≤ s.length := by
  have := congrArg List.length (of_decide_eq_true h)
  rw [List.length_take] at this; omega
def cutS (s p : List Nat) : List Nat := if preB s p = true then s.drop p.length else s
set_option maxHeartbeats 4000000 in
theorem hasPre_ok (s p : List Nat) (hs : s.length ≤ 1000000000) (hp : p.length ≤ 1000000000) : EvP F 114 c114 [.st s, .st p] [.bo (preB s p)] := by
  refine EvP.ofQ d114 rfl rfl rfl ?_
  repeat' (first | refine EvQ.run ?_ | (refine EvQ.pickB rfl rfl rfl ?_) | (refine EvQ.cond rfl (fun h => ?_) (fun h => ?_) <;> ((first | replace h := X.nm h | skip); try have hne := ne_len h)) | (refine EvQ.g1 rfl (fun h => ?_) (fun h => ?_) <;> ((first | replace h := X.nm h | skip); try have hne := ne_len h)) | (refine EvQ.pick rfl (fun _ => rfl) (fun _ => rfl) (fun h => ?_) (fun h => ?_) <;> ((first | replace h := X.nm h | skip); try have hne := ne_len h)) | refine EvQ.fin X.rs ?_ | refine EvQ.fin1 (fun _ => rfl) rfl ?_)
  · exact PQ.bo (by rw [beqLD]; rfl)
  · refine PQ.bo (Eq.symm (Bool.eq_false_iff.2 fun h' => ?_))
    have := preB_len h'
    omega
theorem cut110_ok (s p : List Nat) (hs : s.length ≤ 1000000000) (hp : p.length ≤ 1000000000) : EvP F 110 c110 [.st s, .st p] [.st (cutS s p)] := by
  have h1 := hasPre_ok s p hs hp
  refine EvP.ofQ d110 rfl rfl rfl ?_
  cases hb : preB s p with
  | true =>
    have hl := preB_len hb
    rw [hb] at h1
    repeat' (first | refine EvQ.run ?_ | refine EvQ.lift (fun _ zn => X.pcall (h1) X.cq rfl X.al rfl zn) ?_ | refine EvQ.lift (fun _ zn => X.pcallG (h1) rfl X.cq rfl X.al rfl zn) ?_ | refine EvQ.lift (fun _ zn => X.pcallC (h1) rfl X.cq rfl X.al rfl zn) ?_ | refine EvQ.lift (fun _ zn => X.pcallT (h1) (by decide) X.cq rfl X.al rfl zn) ?_ | refine EvQ.lift (fun _ zn => X.call rfl X.al (h1) zn) ?_ | (refine EvQ.pickB rfl rfl rfl ?_) | (refine EvQ.cond rfl (fun h => ?_) (fun h => ?_) <;> ((first | replace h := X.nm h | skip); try have hne := ne_len h)) | (refine EvQ.g1 rfl (fun h => ?_) (fun h => ?_) <;> ((first | replace h := X.nm h | skip); try have hne := ne_len h)) | (refine EvQ.pick rfl (fun _ => rfl) (fun _ => rfl) (fun h => ?_) (fun h => ?_) <;> ((first | replace h := X.nm h | skip); try have hne := ne_len h)) | refine EvQ.fin X.rs ?_ | refine EvQ.fin1 (fun _ => rfl) rfl ?_)
    exact PQ.st (by unfold cutS; rw [if_pos hb])
  | false =>
    rw [hb] at h1
    repeat' (first | refine EvQ.run ?_ | refine EvQ.lift (fun _ zn => X.pcall (h1) X.cq rfl X.al rfl zn) ?_ | refine EvQ.lift (fun _ zn => X.pcallG (h1) rfl X.cq rfl X.al rfl zn) ?_ | refine EvQ.lift (fun _ zn => X.pcallC (h1) rfl X.cq rfl X.al rfl zn) ?_ | refine EvQ.lift (fun _ zn => X.pcallT (h1) (by decide) X.cq rfl X.al rfl zn) ?_ | refine EvQ.lift (fun _ zn => X.call rfl X.al (h1) zn) ?_ | (refine EvQ.pickB rfl rfl rfl ?_) | (refine EvQ.cond rfl (fun h => ?_) (fun h => ?_) <;> ((first | replace h := X.nm h | skip); try have hne := ne_len h)) | (refine EvQ.g1 rfl (fun h => ?_) (fun h => ?_) <;> ((first | replace h := X.nm h | skip); try have hne := ne_len h)) | (refine EvQ.pick rfl (fun _ => rfl) (fun _ => rfl) (fun h => ?_) (fun h => ?_) <;> ((first | replace h := X.nm h | skip); try have hne := ne_len h)) | refine EvQ.fin X.rs ?_ | refine EvQ.fin1 (fun _ => rfl) rfl ?_)
    exact PQ.st (by unfold cutS; rw [if_neg (by rw [hb]; exact Bool.noConfusion)])
theorem cut_ok (s p : List Nat) (hs : s.length ≤ 1000000000) (hp : p.length ≤ 1000000000) : EvP F 103 c103 [.st s, .st p] [.st (cutS s p)] := by
  refine EvP.ofQ d103 rfl rfl rfl ?_
  repeat' (first | refine EvQ.run ?_ | refine EvQ.lift (fun _ zn => X.pcall (cut110_ok s p hs hp) X.cq rfl X.al rfl zn) ?_ | refine EvQ.lift (fun _ zn => X.pcallG (cut110_ok s p hs hp) rfl X.cq rfl X.al rfl zn) ?_ | refine EvQ.lift (fun _ zn => X.pcallC (cut110_ok s p hs hp) rfl X.cq rfl X.al rfl zn) ?_ | refine EvQ.lift (fun _ zn => X.pcallT (cut110_ok s p hs hp) (by decide) X.cq rfl X.al rfl zn) ?_ | refine EvQ.lift (fun _ zn => X.call rfl X.al (cut110_ok s p hs hp) zn) ?_ | (refine EvQ.pickB rfl rfl rfl ?_) | (refine EvQ.cond rfl (fun h => ?_) (fun h => ?_) <;> ((first | replace h := X.nm h | skip); try have hne := ne_len h)) | (refine EvQ.g1 rfl (fun h => ?_) (fun h => ?_) <;> ((first | replace h := X.nm h | skip); try have hne := ne_len h)) | (refine EvQ.pick rfl (fun _ => rfl) (fun _ => rfl) (fun h => ?_) (fun h => ?_) <;> ((first | replace h := X.nm h | skip); try have hne := ne_len h)) | refine EvQ.fin X.rs ?_ | refine EvQ.fin1 (fun _ => rfl) rfl ?_)
  exact PQ.st rfl
def strongS (s : List Nat) : List Nat := cutS s [87, 47]
theorem strong_ok (s : List Nat) (hs : s.length ≤ 1000000000) : EvP F 84 c84 [.st s] [.st (strongS s)] := by
  refine EvP.ofQ d84 rfl rfl rfl ?_
  repeat' (first | refine EvQ.run ?_ | refine EvQ.lift (fun _ zn => X.pcall (cut_ok s [87, 47] hs (by decide)) X.cq rfl X.al rfl zn) ?_ | refine EvQ.lift (fun _ zn => X.pcallG (cut_ok s [87, 47] hs (by decide)) rfl X.cq rfl X.al rfl zn) ?_ | refine EvQ.lift (fun _ zn => X.pcallC (cut_ok s [87, 47] hs (by decide)) rfl X.cq rfl X.al rfl zn) ?_ | refine EvQ.lift (fun _ zn => X.pcallT (cut_ok s [87, 47] hs (by decide)) (by decide) X.cq rfl X.al rfl zn) ?_ | refine EvQ.lift (fun _ zn => X.call rfl X.al (cut_ok s [87, 47] hs (by decide)) zn) ?_ | (refine EvQ.pickB rfl rfl rfl ?_) | (refine EvQ.cond rfl (fun h => ?_) (fun h => ?_) <;> ((first | replace h := X.nm h | skip); try have hne := ne_len h)) | (refine EvQ.g1 rfl (fun h => ?_) (fun h => ?_) <;> ((first | replace h := X.nm h | skip); try have hne := ne_len h)) | (refine EvQ.pick rfl (fun _ => rfl) (fun _ => rfl) (fun h => ?_) (fun h => ?_) <;> ((first | replace h := X.nm h | skip); try have hne := ne_len h)) | refine EvQ.fin X.rs ?_ | refine EvQ.fin1 (fun _ => rfl) rfl ?_)
  exact PQ.st rfl

def hasF (l : List Fld) (n : List Nat) : Bool := decide (0 < (valsF l n).length)
def onlyF (l : List Fld) (n : List Nat) : Option (List Nat) := if (valsF l n).length = 1 then some (allF l n) else none
theorem has_ok (l : List Fld) (n : List Nat) (hl : JOK l) : EvP F 81 c81 [.vs 2 (fds l), .st n] [.bo (hasF l n)] := by
  refine EvP.ofQ d81 rfl rfl rfl ?_
  repeat' (first | refine EvQ.run ?_ | refine EvQ.lift (fun _ zn => X.pcall (all_ok l n hl) X.cq rfl X.al rfl zn) ?_ | refine EvQ.lift (fun _ zn => X.pcallG (all_ok l n hl) rfl X.cq rfl X.al rfl zn) ?_ | refine EvQ.lift (fun _ zn => X.pcallC (all_ok l n hl) rfl X.cq rfl X.al rfl zn) ?_ | refine EvQ.lift (fun _ zn => X.pcallT (all_ok l n hl) (by decide) X.cq rfl X.al rfl zn) ?_ | refine EvQ.lift (fun _ zn => X.call rfl X.al (all_ok l n hl) zn) ?_ | (refine EvQ.pickB rfl rfl rfl ?_) | (refine EvQ.cond rfl (fun h => ?_) (fun h => ?_) <;> ((first | replace h := X.nm h | skip); try have hne := ne_len h)) | (refine EvQ.g1 rfl (fun h => ?_) (fun h => ?_) <;> ((first | replace h := X.nm h | skip); try have hne := ne_len h)) | (refine EvQ.pick rfl (fun _ => rfl) (fun _ => rfl) (fun h => ?_) (fun h => ?_) <;> ((first | replace h := X.nm h | skip); try have hne := ne_len h)) | refine EvQ.fin X.rs ?_ | refine EvQ.fin1 (fun _ => rfl) rfl ?_)
  refine PQ.bo ?_
  rw [ilt_eq]; unfold hasF; simp
theorem only_ok (l : List Fld) (n : List Nat) (hl : JOK l) : EvP F 79 c79 [.vs 2 (fds l), .st n] [.st ((onlyF l n).getD []), .bo (onlyF l n).isSome] := by
  refine EvP.ofQ d79 rfl rfl rfl ?_
  repeat' (first | refine EvQ.run ?_ | refine EvQ.lift (fun _ zn => X.pcall (all_ok l n hl) X.cq rfl X.al rfl zn) ?_ | refine EvQ.lift (fun _ zn => X.pcallG (all_ok l n hl) rfl X.cq rfl X.al rfl zn) ?_ | refine EvQ.lift (fun _ zn => X.pcallC (all_ok l n hl) rfl X.cq rfl X.al rfl zn) ?_ | refine EvQ.lift (fun _ zn => X.pcallT (all_ok l n hl) (by decide) X.cq rfl X.al rfl zn) ?_ | refine EvQ.lift (fun _ zn => X.call rfl X.al (all_ok l n hl) zn) ?_ | (refine EvQ.pickB rfl rfl rfl ?_) | (refine EvQ.cond rfl (fun h => ?_) (fun h => ?_) <;> ((first | replace h := X.nm h | skip); try have hne := ne_len h)) | (refine EvQ.g1 rfl (fun h => ?_) (fun h => ?_) <;> ((first | replace h := X.nm h | skip); try have hne := ne_len h)) | (refine EvQ.pick rfl (fun _ => rfl) (fun _ => rfl) (fun h => ?_) (fun h => ?_) <;> ((first | replace h := X.nm h | skip); try have hne := ne_len h)) | refine EvQ.fin X.rs ?_ | refine EvQ.fin1 (fun _ => rfl) rfl ?_)
  · rw [show onlyF l n = none by unfold onlyF; rw [if_neg (by assumption)]]
    exact PQ.of (.s (clo_st _) (.s (clo_bo _) (.nil _)))
  · rw [show onlyF l n = some (allF l n) by unfold onlyF; rw [if_pos (by assumption)]]
    exact PQ.of (.s (clo_st _) (.s (clo_bo _) (.nil _)))
theorem only_len {l : List Fld} (hl : JOK l) (n : List Nat) : ((onlyF l n).getD []).length ≤ 1000000000 := by
  unfold onlyF; split
  · have := allF_len hl n; exact Nat.le_trans this (by decide)
  · exact Nat.zero_le _

/-- requests, responses, entries -/
structure Rq where
  m : List Nat
  s : List Nat
  a : List Nat
  p : List Nat
  fs : List Fld
  n : Int
structure Rs where
  k : Int
  fs : List Fld
  n : Int
structure En where
  q : Rq
  s : Rs
  body : List Nat
  asked : Int
  came : Int
def rowRq (q : Rq) : List V := [.st q.m, .st q.s, .st q.a, .st q.p, .vs 2 (fds q.fs), .it .i64 q.n]
def rowRs (s : Rs) : List V := [.it .i64 s.k, .vs 2 (fds s.fs), .it .i64 s.n]
def rowEn (e : En) : List V := [.st e.q.m, .st e.q.s, .st e.q.a, .st e.q.p, .vs 2 (fds e.q.fs), .it .i64 e.q.n, .it .i64 e.s.k, .vs 2 (fds e.s.fs), .it .i64 e.s.n, .st e.body, .it .i64 e.asked, .it .i64 e.came]
theorem rowRq_clo (q : Rq) : CloL [.one, .one, .one, .one, .sl [.one, .one], .one] (rowRq q) := .cons (clo_st _) (.cons (clo_st _) (.cons (clo_st _) (.cons (clo_st _) (.cons (clo_vs [.one, .one] _) (.cons (clo_it _ _) .nil)))))
theorem rowRs_clo (s : Rs) : CloL [.one, .sl [.one, .one], .one] (rowRs s) := .cons (clo_it _ _) (.cons (clo_vs [.one, .one] _) (.cons (clo_it _ _) .nil))
theorem rowEn_clo (e : En) : CloL [.one, .one, .one, .one, .sl [.one, .one], .one, .one, .sl [.one, .one], .one, .one, .one, .one] (rowEn e) := .cons (clo_st _) (.cons (clo_st _) (.cons (clo_st _) (.cons (clo_st _) (.cons (clo_vs [.one, .one] _) (.cons (clo_it _ _) (.cons (clo_it _ _) (.cons (clo_vs [.one, .one] _) (.cons (clo_it _ _) (.cons (clo_st _) (.cons (clo_it _ _) (.cons (clo_it _ _) .nil)))))))))))

def sInm : List Nat := [105, 102, 45, 110, 111, 110, 101, 45, 109, 97, 116, 99, 104]
def sLast : List Nat := [108, 97, 115, 116, 45, 109, 111, 100, 105, 102, 105, 101, 100]
def sSince : List Nat := [105, 102, 45, 109, 111, 100, 105, 102, 105, 101, 100, 45, 115, 105, 110, 99, 101]
def sEtag : List Nat := [101, 116, 97, 103]
def hitB (tag : Option (List Nat)) (x : List Nat) : Bool := decide (x = [42]) || (tag.isSome && decide (strongS x = strongS (tag.getD [])))
def sameS (a b : List Fld) : Bool :=
  if hasF b sInm then ((splS (allF b sInm)).getD []).any (hitB (onlyF a sEtag))
  else (onlyF a sLast).isSome && ((onlyF b sSince).isSome && decide ((onlyF a sLast).getD [] = (onlyF b sSince).getD []))
theorem putS_le {acc : List (List Nat)} {t : List Nat} {k : Nat} (h : ∀ x, x ∈ acc → x.length ≤ k) (ht : t.length ≤ k) : ∀ x, x ∈ putS acc t → x.length ≤ k := by
  intro x hx
  unfold putS at hx
  split at hx
  · exact h x hx
  · rcases List.mem_append.1 hx with q | q
    · exact h x q
    · rw [List.mem_singleton] at q; subst q
      have h1 : (t.dropWhile blankB).length ≤ t.length := (List.dropWhile_sublist _).length_le
      have h2 : (trimS t).length ≤ (t.dropWhile blankB).length := by
        unfold trimS trimR
        rw [List.length_reverse]
        have := (List.dropWhile_sublist (p := blankB) (l := (t.dropWhile blankB).reverse)).length_le
        rw [List.length_reverse] at this
        exact this
      omega
theorem splGo_le (s : List Nat) : ∀ (n i f : Nat) (acc r : List (List Nat)), (∀ x, x ∈ acc → x.length ≤ s.length) → splGo n s i f acc = some r → ∀ x, x ∈ r → x.length ≤ s.length
  | 0, _, _, _, _, _, h => by simp [splGo] at h
  | n + 1, i, f, acc, r, ha, h => by
    have ht : ∀ k, ((s.drop f).take k).length ≤ s.length := fun k => by rw [List.length_take, List.length_drop]; omega
    unfold splGo at h
    split at h
    · split at h
      · exact splGo_le s n _ _ _ r (putS_le ha (ht _)) h
      · split at h
        · split at h
          · cases h
          · exact splGo_le s n _ _ _ r ha h
        · exact splGo_le s n _ _ _ r ha h
    · cases h; exact putS_le ha (ht _)
theorem splS_le (s : List Nat) : ∀ x, x ∈ (splS s).getD [] → x.length ≤ s.length := by
  cases h : splS s with
  | none => intro x hx; exact absurd hx List.not_mem_nil
  | some r => exact splGo_le s _ _ _ _ r (fun x hx => absurd hx List.not_mem_nil) h
theorem splGo_len (s : List Nat) : ∀ (n i f : Nat) (acc r : List (List Nat)), splGo n s i f acc = some r → r.length ≤ acc.length + n
  | 0, _, _, _, _, h => by simp [splGo] at h
  | n + 1, i, f, acc, r, h => by
    unfold splGo at h
    split at h
    · split at h
      · have := splGo_len s n _ _ _ r h
        have := putS_len acc ((s.drop f).take (i - f)); omega
      · split at h
        · split at h
          · cases h
          · have := splGo_len s n _ _ _ r h; omega
        · have := splGo_len s n _ _ _ r h; omega
    · cases h
      have := putS_len acc ((s.drop f).take (s.length - f)); omega
theorem splS_len (s : List Nat) : ((splS s).getD []).length ≤ s.length + 1 := by
  cases h : splS s with
  | none => exact Nat.zero_le _
  | some r => have := splGo_len s _ _ _ _ r h; simpa using this
set_option maxHeartbeats 8000000 in
theorem same_ok (e : En) (q : Rq) (h1 : JOK e.s.fs) (h2 : JOK q.fs) : EvP F 50 c50 [.ag (rowEn e), .ag (rowRq q)] [.bo (sameS e.s.fs q.fs)] := by
  refine EvP.ofQ d50 rfl rfl rfl ?_
  have hs1 := has_ok q.fs sInm h2
  have hs2 := only_ok e.s.fs sLast h1
  have hs3 := only_ok q.fs sSince h2
  have hs4 := only_ok e.s.fs sEtag h1
  have hs5 := all_ok q.fs sInm h2
  have hln := allF_len h2 sInm
  have htl := only_len h1 sEtag
  repeat' (first | refine EvQ.run ?_ | refine EvQ.lift (fun _ zn => X.pcall (hs1) X.cq rfl X.al rfl zn) ?_ | refine EvQ.lift (fun _ zn => X.pcallG (hs1) rfl X.cq rfl X.al rfl zn) ?_ | refine EvQ.lift (fun _ zn => X.pcallC (hs1) rfl X.cq rfl X.al rfl zn) ?_ | refine EvQ.lift (fun _ zn => X.pcallT (hs1) (by decide) X.cq rfl X.al rfl zn) ?_ | refine EvQ.lift (fun _ zn => X.call rfl X.al (hs1) zn) ?_ | refine EvQ.lift (fun _ zn => X.pcall (hs2) X.cq rfl X.al rfl zn) ?_ | refine EvQ.lift (fun _ zn => X.pcallG (hs2) rfl X.cq rfl X.al rfl zn) ?_ | refine EvQ.lift (fun _ zn => X.pcallC (hs2) rfl X.cq rfl X.al rfl zn) ?_ | refine EvQ.lift (fun _ zn => X.pcallT (hs2) (by decide) X.cq rfl X.al rfl zn) ?_ | refine EvQ.lift (fun _ zn => X.call rfl X.al (hs2) zn) ?_ | refine EvQ.lift (fun _ zn => X.pcall (hs3) X.cq rfl X.al rfl zn) ?_ | refine EvQ.lift (fun _ zn => X.pcallG (hs3) rfl X.cq rfl X.al rfl zn) ?_ | refine EvQ.lift (fun _ zn => X.pcallC (hs3) rfl X.cq rfl X.al rfl zn) ?_ | refine EvQ.lift (fun _ zn => X.pcallT (hs3) (by decide) X.cq rfl X.al rfl zn) ?_ | refine EvQ.lift (fun _ zn => X.call rfl X.al (hs3) zn) ?_ | refine EvQ.lift (fun _ zn => X.pcall (hs4) X.cq rfl X.al rfl zn) ?_ | refine EvQ.lift (fun _ zn => X.pcallG (hs4) rfl X.cq rfl X.al rfl zn) ?_ | refine EvQ.lift (fun _ zn => X.pcallC (hs4) rfl X.cq rfl X.al rfl zn) ?_ | refine EvQ.lift (fun _ zn => X.pcallT (hs4) (by decide) X.cq rfl X.al rfl zn) ?_ | refine EvQ.lift (fun _ zn => X.call rfl X.al (hs4) zn) ?_ | refine EvQ.lift (fun _ zn => X.pcall (hs5) X.cq rfl X.al rfl zn) ?_ | refine EvQ.lift (fun _ zn => X.pcallG (hs5) rfl X.cq rfl X.al rfl zn) ?_ | refine EvQ.lift (fun _ zn => X.pcallC (hs5) rfl X.cq rfl X.al rfl zn) ?_ | refine EvQ.lift (fun _ zn => X.pcallT (hs5) (by decide) X.cq rfl X.al rfl zn) ?_ | refine EvQ.lift (fun _ zn => X.call rfl X.al (hs5) zn) ?_ | (refine EvQ.pickB rfl rfl rfl ?_) | (refine EvQ.cond rfl (fun h => ?_) (fun h => ?_) <;> ((first | replace h := X.nm h | skip); try have hne := ne_len h)) | (refine EvQ.g1 rfl (fun h => ?_) (fun h => ?_) <;> ((first | replace h := X.nm h | skip); try have hne := ne_len h)) | (refine EvQ.pick rfl (fun _ => rfl) (fun _ => rfl) (fun h => ?_) (fun h => ?_) <;> ((first | replace h := X.nm h | skip); try have hne := ne_len h)) | refine EvQ.fin X.rs ?_ | refine EvQ.fin1 (fun _ => rfl) rfl ?_)
  · refine PQ.bo ?_
    rw [beqLD]; unfold sameS; simp [*]
  · refine PQ.bo ?_
    unfold sameS; simp [*]
  · refine PQ.bo ?_
    unfold sameS; simp [*]
  · refine EvQ.call rfl X.al (split_ok _ (by omega) (Nat.le_refl _)) ?_
    intro w hp ⟨v, hw, hO, _, hu⟩
    subst hw
    have hel := hO.lp
    have hvl := lenO hO.len (txs_length _)
    have hS := hO.sl
    have hle := splS_le (allF q.fs sInm)
    have hll := splS_len (allF q.fs sInm)
    generalize hsp : splS (allF q.fs sInm) = sp at *
    have hse : sameS e.s.fs q.fs = (sp.getD []).any (hitB (onlyF e.s.fs sEtag)) := by unfold sameS; rw [h, hsp]; rfl
    rw [hse]
    generalize sp.getD [] = L at *
    generalize onlyF e.s.fs sEtag = tg at *
    generalize ht : L.any (hitB tg) = t
    repeat' (first | refine EvQ.run ?_ | (refine EvQ.pickB rfl rfl rfl ?_) | (refine EvQ.cond rfl (fun h => ?_) (fun h => ?_) <;> ((first | replace h := X.nm h | skip); try have hne := ne_len h)) | (refine EvQ.g1 rfl (fun h => ?_) (fun h => ?_) <;> ((first | replace h := X.nm h | skip); try have hne := ne_len h)) | (refine EvQ.pick rfl (fun _ => rfl) (fun _ => rfl) (fun h => ?_) (fun h => ?_) <;> ((first | replace h := X.nm h | skip); try have hne := ne_len h)) | refine EvQ.fin X.rs ?_ | refine EvQ.fin1 (fun _ => rfl) rfl ?_)
    refine EvQ.loop (QL := fun r => (t = false ∧ XtQ 0 [] (fun _ _ => True) r) ∨ (t = true ∧ RtQ [(4, .bo true)] (fun _ _ => True) r)) ?_ ?_
    · refine EvL.invQ (S := Nat) (fun i => [(9, .st (tg.getD [])), (10, .bo tg.isSome), (61, v), (62, .it .i64 (Int.ofNat L.length)), (63, .it .i64 (Int.ofNat i))]) (fun i _ hp' => hp' = hp ∧ i ≤ L.length ∧ (L.drop i).any (hitB tg) = t) (fun i => L.length - i) _ ?_ 0 _ _ _ ⟨rfl, Nat.zero_le _, ht⟩ X.kv
      intro i lo hp' ⟨e1, e2, e3⟩
      subst e1
      have hx : (L.getD i []).length ≤ 1000000000 := by
        by_cases hi : i < L.length
        · rw [List.getD, List.getElem?_eq_getElem hi]
          have := hle _ (List.getElem_mem hi)
          exact Nat.le_trans this (by omega)
        · rw [List.getD, List.getElem?_eq_none (by omega)]; exact Nat.zero_le _
      have hd : i < L.length → (hitB tg (L.getD i []) || (L.drop (i + 1)).any (hitB tg)) = t := fun hi => by
        rw [← e3, drop_getD hi [], List.any_cons]
      have hw1 := strong_ok (L.getD i []) hx
      have hw2 := strong_ok (tg.getD []) htl
      repeat' (first | refine EvQ.run ?_ | refine EvQ.lift (fun _ zn => X.pcall (hw1) X.cq rfl X.al rfl zn) ?_ | refine EvQ.lift (fun _ zn => X.pcallG (hw1) rfl X.cq rfl X.al rfl zn) ?_ | refine EvQ.lift (fun _ zn => X.pcallC (hw1) rfl X.cq rfl X.al rfl zn) ?_ | refine EvQ.lift (fun _ zn => X.pcallT (hw1) (by decide) X.cq rfl X.al rfl zn) ?_ | refine EvQ.lift (fun _ zn => X.call rfl X.al (hw1) zn) ?_ | refine EvQ.lift (fun _ zn => X.pcall (hw2) X.cq rfl X.al rfl zn) ?_ | refine EvQ.lift (fun _ zn => X.pcallG (hw2) rfl X.cq rfl X.al rfl zn) ?_ | refine EvQ.lift (fun _ zn => X.pcallC (hw2) rfl X.cq rfl X.al rfl zn) ?_ | refine EvQ.lift (fun _ zn => X.pcallT (hw2) (by decide) X.cq rfl X.al rfl zn) ?_ | refine EvQ.lift (fun _ zn => X.call rfl X.al (hw2) zn) ?_ | (refine EvQ.pickB rfl rfl rfl ?_) | (refine EvQ.cond rfl (fun h => ?_) (fun h => ?_) <;> ((first | replace h := X.nm h | skip); try have hne := ne_len h)) | (refine EvQ.g1 rfl (fun h => ?_) (fun h => ?_) <;> ((first | replace h := X.nm h | skip); try have hne := ne_len h)) | (refine EvQ.pick rfl (fun _ => rfl) (fun _ => rfl) (fun h => ?_) (fun h => ?_) <;> ((first | replace h := X.nm h | skip); try have hne := ne_len h)) | refine EvQ.fin X.rs ?_ | refine EvQ.fin1 (fun _ => rfl) rfl ?_)
      all_goals clear hs1 hs2 hs3 hs4 hs5 hw1 hw2 hS hO hu hse hle hvl hsp
      all_goals first
        | (have e : hitB tg (L.getD i []) = true := by (clear hd e3 ht; generalize L.getD i [] = x at *; unfold hitB; simp [*]; done)
           refine EvQ.rt (.inr ⟨?_, .mk' X.kv trivial⟩)
           rw [← hd (by assumption), e]; rfl)
        | (have e : hitB tg (L.getD i []) = false := by (clear hd e3 ht; generalize L.getD i [] = x at *; unfold hitB; simp [*]; done)
           refine EvQ.go (i + 1) X.kv ⟨rfl, by omega, ?_⟩ (by omega)
           rw [← hd (by assumption), e]; rfl)
        | (refine EvQ.xt (.inl ⟨?_, .mk' X.kv trivial⟩)
           rw [← e3, List.drop_of_length_le (by omega)]; rfl)
    · rintro _ (⟨rfl, tm, lo, hp', rfl, -⟩ | ⟨rfl, tm, lo, hp', rfl, -⟩)
      · repeat' (first | refine EvQ.run ?_ | (refine EvQ.pickB rfl rfl rfl ?_) | (refine EvQ.cond rfl (fun h => ?_) (fun h => ?_) <;> ((first | replace h := X.nm h | skip); try have hne := ne_len h)) | (refine EvQ.g1 rfl (fun h => ?_) (fun h => ?_) <;> ((first | replace h := X.nm h | skip); try have hne := ne_len h)) | (refine EvQ.pick rfl (fun _ => rfl) (fun _ => rfl) (fun h => ?_) (fun h => ?_) <;> ((first | replace h := X.nm h | skip); try have hne := ne_len h)) | refine EvQ.fin X.rs ?_ | refine EvQ.fin1 (fun _ => rfl) rfl ?_)
        exact PQ.bo rfl
      · repeat' (first | refine EvQ.run ?_ | (refine EvQ.pickB rfl rfl rfl ?_) | (refine EvQ.cond rfl (fun h => ?_) (fun h => ?_) <;> ((first | replace h := X.nm h | skip); try have hne := ne_len h)) | (refine EvQ.g1 rfl (fun h => ?_) (fun h => ?_) <;> ((first | replace h := X.nm h | skip); try have hne := ne_len h)) | (refine EvQ.pick rfl (fun _ => rfl) (fun _ => rfl) (fun h => ?_) (fun h => ?_) <;> ((first | replace h := X.nm h | skip); try have hne := ne_len h)) | refine EvQ.fin X.rs ?_ | refine EvQ.fin1 (fun _ => rfl) rfl ?_)
        exact PQ.bo rfl
end Go.Proofs.Ytcbiplmgaiipgaa
