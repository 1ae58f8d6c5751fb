import Derived.Test.YtcbiplmgaiipgaaEvE
import Derived.Test.YtcbiplmgaiipgaaEvE
import Derived.Test.YtcbiplmgaiipgaaRen
set_option linter.unusedVariables false
set_option linter.unusedSimpArgs false
-- the document's own answers to chapter 22
namespace Go.Proofs.Ytcbiplmgaiipgaa
open Go hiding Fn
open Ev tab
attribute [local irreducible] EvD EvL EvC evGds evLs C.run sK bK gK pK fK lpB stepD
theorem one85_ok (l : List Fld) (n : List Nat) (hl : JOK l) : EvP F 85 c85 [.vs 2 (fds l), .st n] [.st (allF l n), .bo (decide ((valsF l n).length = 1))] := by
  have h := rall_ok l n hl
  refine EvP.ofQ d85 rfl rfl rfl ?_
  repeat' (first | refine EvQ.run ?_ | refine EvQ.lift (fun _ zn => X.pcall (h) X.cq rfl X.al rfl zn) ?_ | refine EvQ.lift (fun _ zn => X.pcallG (h) rfl X.cq rfl X.al rfl zn) ?_ | refine EvQ.lift (fun _ zn => X.pcallC (h) rfl X.cq rfl X.al rfl zn) ?_ | refine EvQ.lift (fun _ zn => X.pcallT (h) (by decide) X.cq rfl X.al rfl zn) ?_ | refine EvQ.lift (fun _ zn => X.call rfl X.al (h) zn) ?_ | (refine EvQ.pickB rfl rfl rfl ?_) | (refine EvQ.cond rfl (fun h => ?_) (fun h => ?_) <;> ((first | replace h := X.nm h | skip); try have hne := ne_len h)) | (refine EvQ.g1 rfl (fun h => ?_) (fun h => ?_) <;> ((first | replace h := X.nm h | skip); try have hne := ne_len h)) | (refine EvQ.pick rfl (fun _ => rfl) (fun _ => rfl) (fun h => ?_) (fun h => ?_) <;> ((first | replace h := X.nm h | skip); try have hne := ne_len h)) | refine EvQ.fin X.rs ?_ | refine EvQ.fin1 (fun _ => rfl) rfl ?_)
  have e : ieq (Int.ofNat (valsF l n).length) 1 = decide ((valsF l n).length = 1) := by rw [ieqD]; congr 1; simp; omega
  have := PQ.of (rs := d85.rs) (v := .tu [.st (allF l n), .bo (decide ((valsF l n).length = 1))]) (h := h0) (.s (clo_st _) (.s (clo_bo _) (.nil _)))
  rw [← e] at this
  rw [← e]
  exact this
theorem pre2 {s : List Nat} : preB s [87, 47] = decide (s.take 2 = [87, 47]) := rfl
set_option maxHeartbeats 4000000 in
theorem rstrong_ok (s : List Nat) (hs : s.length ≤ 1000000000) : EvP F 88 c88 [.st s] [.st (strongS s)] := by
  refine EvP.ofQ d88 rfl rfl rfl ?_
  repeat' (first | refine EvQ.run ?_ | (refine EvQ.pickB rfl rfl rfl ?_) | (refine EvQ.cond rfl (fun h => ?_) (fun h => ?_) <;> ((first | replace h := X.nm h | skip); try have hne := ne_len h)) | (refine EvQ.g1 rfl (fun h => ?_) (fun h => ?_) <;> ((first | replace h := X.nm h | skip); try have hne := ne_len h)) | (refine EvQ.pick rfl (fun _ => rfl) (fun _ => rfl) (fun h => ?_) (fun h => ?_) <;> ((first | replace h := X.nm h | skip); try have hne := ne_len h)) | refine EvQ.fin X.rs ?_ | refine EvQ.fin1 (fun _ => rfl) rfl ?_)
  · exact PQ.st (by unfold strongS cutS; rw [if_pos (by rw [pre2]; exact decide_eq_true (by assumption))]; rfl)
  · exact PQ.st (by unfold strongS cutS; rw [if_neg (by rw [pre2]; simpa using h)])
  · exact PQ.st (by
      unfold strongS cutS
      rw [if_neg]
      intro e
      have := preB_len e
      simp at this; omega)
def clrB (m : List Nat) (k : Int) : Bool := !(decide (m = [71, 69, 84]) || (decide (m = [72, 69, 65, 68]) || (decide (m = [79, 80, 84, 73, 79, 78, 83]) || decide (m = [84, 82, 65, 67, 69])))) && (decide (200 ≤ k) && decide (k < 400))
set_option maxHeartbeats 8000000 in
theorem clears_ok (q : Rq) (s : Rs) : EvP F 49 c49 [.ag (rowRq q), .ag (rowRs s)] [.bo (clrB q.m s.k)] := by
  refine EvP.ofQ d49 rfl rfl rfl ?_
  repeat' (first | refine EvQ.run ?_ | (refine EvQ.pickB rfl rfl rfl ?_) | (refine EvQ.cond rfl (fun h => ?_) (fun h => ?_) <;> ((first | replace h := X.nm h | skip); try have hne := ne_len h)) | (refine EvQ.g1 rfl (fun h => ?_) (fun h => ?_) <;> ((first | replace h := X.nm h | skip); try have hne := ne_len h)) | (refine EvQ.pick rfl (fun _ => rfl) (fun _ => rfl) (fun h => ?_) (fun h => ?_) <;> ((first | replace h := X.nm h | skip); try have hne := ne_len h)) | refine EvQ.fin X.rs ?_ | refine EvQ.fin1 (fun _ => rfl) rfl ?_)
  all_goals
    refine PQ.bo ?_
    unfold clrB
    first
      | (simp [*]; done)
      | (simp [*, ilt_eq]; omega)
      | trace_state
set_option maxHeartbeats 8000000 in
theorem rclears_ok (q : Rq) (s : Rs) : EvP F 56 c56 [.ag (rowRq q), .ag (rowRs s)] [.bo (clrB q.m s.k)] := by
  refine EvP.ofQ d56 rfl rfl rfl ?_
  repeat' (first | refine EvQ.run ?_ | (refine EvQ.pickB rfl rfl rfl ?_) | (refine EvQ.cond rfl (fun h => ?_) (fun h => ?_) <;> ((first | replace h := X.nm h | skip); try have hne := ne_len h)) | (refine EvQ.g1 rfl (fun h => ?_) (fun h => ?_) <;> ((first | replace h := X.nm h | skip); try have hne := ne_len h)) | (refine EvQ.pick rfl (fun _ => rfl) (fun _ => rfl) (fun h => ?_) (fun h => ?_) <;> ((first | replace h := X.nm h | skip); try have hne := ne_len h)) | refine EvQ.fin X.rs ?_ | refine EvQ.fin1 (fun _ => rfl) rfl ?_)
  all_goals
    refine PQ.bo ?_
    unfold clrB
    first
      | (simp [*]; done)
      | (simp [*, ilt_eq]; omega)
      | trace_state
set_option maxHeartbeats 8000000 in
theorem unch_ok (e : En) (q : Rq) (h1 : JOK e.s.fs) (h2 : JOK q.fs) : EvP F 57 c57 [.ag (rowEn e), .ag (rowRq q)] [.bo (sameS e.s.fs q.fs)] := by
  refine EvP.ofQ d57 rfl rfl rfl ?_
  have hs1 := rall_ok q.fs sInm h2
  have hs2 := one85_ok e.s.fs sLast h1
  have hs3 := one85_ok q.fs sSince h2
  have hs4 := one85_ok e.s.fs sEtag h1
  have hln := allF_len h2 sInm
  have htl : (allF e.s.fs sEtag).length ≤ 1000000000 := Nat.le_trans (allF_len h1 sEtag) (by decide)
  have hs5 := rsplit_ok (allF q.fs sInm) (by omega)
  have hle := splS_le (allF q.fs sInm)
  have hll := splS_len (allF q.fs sInm)
  have hse : 0 < (valsF q.fs sInm).length → sameS e.s.fs q.fs = ((splS (allF q.fs sInm)).getD []).any (hitB (onlyF e.s.fs sEtag)) := fun h => by unfold sameS hasF; rw [decide_eq_true h]; rfl
  have hse0 : (valsF q.fs sInm).length = 0 → sameS e.s.fs q.fs = ((onlyF e.s.fs sLast).isSome && ((onlyF q.fs sSince).isSome && decide ((onlyF e.s.fs sLast).getD [] = (onlyF q.fs sSince).getD []))) := fun h => by unfold sameS hasF; rw [h]; rfl
  generalize ht : sameS e.s.fs q.fs = t at *
  have on : ∀ l n, onlyF l n = if (valsF l n).length = 1 then some (allF l n) else none := fun _ _ => rfl
  simp only [on] at hse hse0
  clear on
  generalize splS (allF q.fs sInm) = sp at *
  generalize sp.getD [] = L at *
  generalize (valsF e.s.fs sEtag).length = ne at *
  generalize allF e.s.fs sEtag = tg at *
  repeat' (first | refine EvQ.run ?_ | refine EvQ.lift (fun _ zn => X.pcall (hs1) X.cq rfl X.al rfl zn) ?_ | refine EvQ.lift (fun _ zn => X.pcallG (hs1) rfl X.cq rfl X.al rfl zn) ?_ | refine EvQ.lift (fun _ zn => X.pcallC (hs1) rfl X.cq rfl X.al rfl zn) ?_ | refine EvQ.lift (fun _ zn => X.pcallT (hs1) (by decide) X.cq rfl X.al rfl zn) ?_ | refine EvQ.lift (fun _ zn => X.call rfl X.al (hs1) zn) ?_ | refine EvQ.lift (fun _ zn => X.pcall (hs2) X.cq rfl X.al rfl zn) ?_ | refine EvQ.lift (fun _ zn => X.pcallG (hs2) rfl X.cq rfl X.al rfl zn) ?_ | refine EvQ.lift (fun _ zn => X.pcallC (hs2) rfl X.cq rfl X.al rfl zn) ?_ | refine EvQ.lift (fun _ zn => X.pcallT (hs2) (by decide) X.cq rfl X.al rfl zn) ?_ | refine EvQ.lift (fun _ zn => X.call rfl X.al (hs2) zn) ?_ | refine EvQ.lift (fun _ zn => X.pcall (hs3) X.cq rfl X.al rfl zn) ?_ | refine EvQ.lift (fun _ zn => X.pcallG (hs3) rfl X.cq rfl X.al rfl zn) ?_ | refine EvQ.lift (fun _ zn => X.pcallC (hs3) rfl X.cq rfl X.al rfl zn) ?_ | refine EvQ.lift (fun _ zn => X.pcallT (hs3) (by decide) X.cq rfl X.al rfl zn) ?_ | refine EvQ.lift (fun _ zn => X.call rfl X.al (hs3) zn) ?_ | refine EvQ.lift (fun _ zn => X.pcall (hs4) X.cq rfl X.al rfl zn) ?_ | refine EvQ.lift (fun _ zn => X.pcallG (hs4) rfl X.cq rfl X.al rfl zn) ?_ | refine EvQ.lift (fun _ zn => X.pcallC (hs4) rfl X.cq rfl X.al rfl zn) ?_ | refine EvQ.lift (fun _ zn => X.pcallT (hs4) (by decide) X.cq rfl X.al rfl zn) ?_ | refine EvQ.lift (fun _ zn => X.call rfl X.al (hs4) zn) ?_ | refine EvQ.lift (fun _ zn => X.pcall (hs5) X.cq rfl X.al rfl zn) ?_ | refine EvQ.lift (fun _ zn => X.pcallG (hs5) rfl X.cq rfl X.al rfl zn) ?_ | refine EvQ.lift (fun _ zn => X.pcallC (hs5) rfl X.cq rfl X.al rfl zn) ?_ | refine EvQ.lift (fun _ zn => X.pcallT (hs5) (by decide) X.cq rfl X.al rfl zn) ?_ | refine EvQ.lift (fun _ zn => X.call rfl X.al (hs5) zn) ?_ | (refine EvQ.pickB rfl rfl rfl ?_) | (refine EvQ.cond rfl (fun h => ?_) (fun h => ?_) <;> ((first | replace h := X.nm h | skip); try have hne := ne_len h)) | (refine EvQ.g1 rfl (fun h => ?_) (fun h => ?_) <;> ((first | replace h := X.nm h | skip); try have hne := ne_len h)) | (refine EvQ.pick rfl (fun _ => rfl) (fun _ => rfl) (fun h => ?_) (fun h => ?_) <;> ((first | replace h := X.nm h | skip); try have hne := ne_len h)) | refine EvQ.fin X.rs ?_ | refine EvQ.fin1 (fun _ => rfl) rfl ?_)
  · refine PQ.bo ?_
    rw [hse0 (by assumption), if_pos (by assumption), if_pos (by assumption), beqLD]
    show _ = (true && (true && decide (allF e.s.fs sLast = allF q.fs sSince)))
    rw [Bool.true_and, Bool.true_and]
    exact decide_eq_decide.2 eq_comm
  · refine PQ.bo ?_
    rw [hse0 (by assumption), if_neg (by assumption)]; rfl
  · refine PQ.bo ?_
    rw [hse0 (by assumption), if_neg (c := (valsF q.fs sSince).length = 1) (by assumption)]
    split <;> rfl
  · have hse := hse (by omega)
    clear hse0 hs1 hs2 hs3 hs4 hs5 ht
    have hc : ∀ x, hitB (if ne = 1 then some tg else none) x = (decide (x = [42]) || (decide (ne = 1) && decide (strongS x = strongS tg))) := fun x => by
      unfold hitB
      by_cases q : ne = 1
      · rw [if_pos q, decide_eq_true q]; rfl
      · rw [if_neg q, decide_eq_false q]; rfl
    generalize hitB (if ne = 1 then some tg else none) = P at *
    refine EvQ.loop (QL := fun r => (t = false ∧ XtQ 0 [] (fun _ _ => True) r) ∨ (t = true ∧ RtQ [(4, .bo true)] (fun _ _ => True) r)) ?_ ?_
    · refine EvL.invQ (S := Nat) (fun i => [(11, .st tg), (12, .bo (decide (ne = 1))), (13, .vs 1 (txs L)), (15, .it .i64 (Int.ofNat i))]) (fun i _ _ => i ≤ L.length ∧ (L.drop i).any P = t) (fun i => L.length - i) _ ?_ 0 _ _ _ ⟨Nat.zero_le _, hse.symm⟩ X.kv
      intro i lo hp ⟨e2, e3⟩
      have hx : (L.getD i []).length ≤ 1000000000 := by
        by_cases hi : i < L.length
        · rw [List.getD, List.getElem?_eq_getElem hi]
          have := hle _ (List.getElem_mem hi)
          exact Nat.le_trans this (by omega)
        · rw [List.getD, List.getElem?_eq_none (by omega)]; exact Nat.zero_le _
      have hd : i < L.length → (P (L.getD i []) || (L.drop (i + 1)).any P) = t := fun hi => by
        rw [← e3, drop_getD hi [], List.any_cons]
      have hw1 := rstrong_ok (L.getD i []) hx
      have hw2 := rstrong_ok tg htl
      have hcx := hc (L.getD i [])
      repeat' (first | refine EvQ.run ?_ | refine EvQ.lift (fun _ zn => X.pcall (hw1) X.cq rfl X.al rfl zn) ?_ | refine EvQ.lift (fun _ zn => X.pcallG (hw1) rfl X.cq rfl X.al rfl zn) ?_ | refine EvQ.lift (fun _ zn => X.pcallC (hw1) rfl X.cq rfl X.al rfl zn) ?_ | refine EvQ.lift (fun _ zn => X.pcallT (hw1) (by decide) X.cq rfl X.al rfl zn) ?_ | refine EvQ.lift (fun _ zn => X.call rfl X.al (hw1) zn) ?_ | refine EvQ.lift (fun _ zn => X.pcall (hw2) X.cq rfl X.al rfl zn) ?_ | refine EvQ.lift (fun _ zn => X.pcallG (hw2) rfl X.cq rfl X.al rfl zn) ?_ | refine EvQ.lift (fun _ zn => X.pcallC (hw2) rfl X.cq rfl X.al rfl zn) ?_ | refine EvQ.lift (fun _ zn => X.pcallT (hw2) (by decide) X.cq rfl X.al rfl zn) ?_ | refine EvQ.lift (fun _ zn => X.call rfl X.al (hw2) zn) ?_ | (refine EvQ.pickB rfl rfl rfl ?_) | (refine EvQ.cond rfl (fun h => ?_) (fun h => ?_) <;> ((first | replace h := X.nm h | skip); try have hne := ne_len h)) | (refine EvQ.g1 rfl (fun h => ?_) (fun h => ?_) <;> ((first | replace h := X.nm h | skip); try have hne := ne_len h)) | (refine EvQ.pick rfl (fun _ => rfl) (fun _ => rfl) (fun h => ?_) (fun h => ?_) <;> ((first | replace h := X.nm h | skip); try have hne := ne_len h)) | refine EvQ.fin X.rs ?_ | refine EvQ.fin1 (fun _ => rfl) rfl ?_)
      all_goals clear hw1 hw2 hse hle hc
      all_goals first
        | (have e : P (L.getD i []) = true := by (rw [hcx]; clear hd e3 hcx; generalize L.getD i [] = x at *; simp [*]; done)
           refine EvQ.rt (.inr ⟨?_, .mk' X.kv trivial⟩)
           rw [← hd (by assumption), e]; rfl)
        | (have e : P (L.getD i []) = false := by (rw [hcx]; clear hd e3 hcx; generalize L.getD i [] = x at *; simp [*]; done)
           refine EvQ.go (i + 1) X.kv ⟨by omega, ?_⟩ (by omega)
           rw [← hd (by assumption), e]; rfl)
        | (refine EvQ.xt (.inl ⟨?_, .mk' X.kv trivial⟩)
           rw [← e3, List.drop_of_length_le (by omega)]; rfl)
        | trace_state
    · rintro _ (⟨rfl, tm, lo, hp', rfl, -⟩ | ⟨rfl, tm, lo, hp', rfl, -⟩)
      · repeat' (first | refine EvQ.run ?_ | (refine EvQ.pickB rfl rfl rfl ?_) | (refine EvQ.cond rfl (fun h => ?_) (fun h => ?_) <;> ((first | replace h := X.nm h | skip); try have hne := ne_len h)) | (refine EvQ.g1 rfl (fun h => ?_) (fun h => ?_) <;> ((first | replace h := X.nm h | skip); try have hne := ne_len h)) | (refine EvQ.pick rfl (fun _ => rfl) (fun _ => rfl) (fun h => ?_) (fun h => ?_) <;> ((first | replace h := X.nm h | skip); try have hne := ne_len h)) | refine EvQ.fin X.rs ?_ | refine EvQ.fin1 (fun _ => rfl) rfl ?_)
        exact PQ.bo rfl
      · repeat' (first | refine EvQ.run ?_ | (refine EvQ.pickB rfl rfl rfl ?_) | (refine EvQ.cond rfl (fun h => ?_) (fun h => ?_) <;> ((first | replace h := X.nm h | skip); try have hne := ne_len h)) | (refine EvQ.g1 rfl (fun h => ?_) (fun h => ?_) <;> ((first | replace h := X.nm h | skip); try have hne := ne_len h)) | (refine EvQ.pick rfl (fun _ => rfl) (fun _ => rfl) (fun h => ?_) (fun h => ?_) <;> ((first | replace h := X.nm h | skip); try have hne := ne_len h)) | refine EvQ.fin X.rs ?_ | refine EvQ.fin1 (fun _ => rfl) rfl ?_)
        exact PQ.bo rfl
end Go.Proofs.Ytcbiplmgaiipgaa
