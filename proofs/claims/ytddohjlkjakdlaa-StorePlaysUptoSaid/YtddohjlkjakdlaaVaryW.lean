import Derived.Test.YtddohjlkjakdlaaEvE
import Derived.Test.YtddohjlkjakdlaaVaryL
import Derived.Test.YtddohjlkjakdlaaVaryN
import Derived.Test.YtddohjlkjakdlaaVaryM
set_option linter.unusedVariables false
set_option linter.unusedSimpArgs false
set_option linter.unusedSectionVars false
set_option linter.unusedVariables false
set_option linter.unusedSimpArgs false
-- requests held against each other, as Vary says
namespace Go.Proofs.Ytddohjlkjakdlaa
open Go hiding Fn
open Ev tab
attribute [local irreducible] EvD EvL EvC evGds evLs C.run sK bK gK pK fK lpB stepD

theorem starsS_some {l : List Fld} {ps : List (List Nat)} (h : splS (allF l sVary) = some ps) : starsS l = if ps.any badN then none else some (ps.map lowL) := by unfold starsS; rw [h]
theorem starsS_none {l : List Fld} (h : splS (allF l sVary) = none) : starsS l = none := by unfold starsS; rw [h]
theorem starsS_zero {l : List Fld} (h : (valsF l sVary).length = 0) : starsS l = some [] := by
  unfold starsS
  rw [allF_nil h]; rfl
set_option maxHeartbeats 16000000 in
theorem rstars_ok (l : List Fld) (hl : JOK l) (ht : TOK l) : EvP F 31 c31 [.vs 2 (fds l)] [.vs 1 (txs ((starsS l).getD [])), .bo (starsS l).isNone] := by
  have ha := rall_ok l sVary hl
  have hlen := allF_len hl sVary
  have hsp := rsplit_ok (allF l sVary) (by omega)
  have hll := splS_len (allF l sVary)
  have hle := splS_le (allF l sVary)
  have htx := splS_txt (allF_txt ht sVary)
  refine EvP.ofQ d31 rfl rfl rfl ?_
  repeat' (first | refine EvQ.run ?_ | refine EvQ.lift (fun _ zn => X.pcall (ha) X.cq rfl X.al rfl zn) ?_ | refine EvQ.lift (fun _ zn => X.pcallG (ha) rfl X.cq rfl X.al rfl zn) ?_ | refine EvQ.lift (fun _ zn => X.pcallC (ha) rfl X.cq rfl X.al rfl zn) ?_ | refine EvQ.lift (fun _ zn => X.pcallT (ha) (by decide) X.cq rfl X.al rfl zn) ?_ | refine EvQ.lift (fun _ zn => X.call rfl X.al (ha) zn) ?_ | refine EvQ.lift (fun _ zn => X.pcall (hsp) X.cq rfl X.al rfl zn) ?_ | refine EvQ.lift (fun _ zn => X.pcallG (hsp) rfl X.cq rfl X.al rfl zn) ?_ | refine EvQ.lift (fun _ zn => X.pcallC (hsp) rfl X.cq rfl X.al rfl zn) ?_ | refine EvQ.lift (fun _ zn => X.pcallT (hsp) (by decide) X.cq rfl X.al rfl zn) ?_ | refine EvQ.lift (fun _ zn => X.call rfl X.al (hsp) zn) ?_ | (refine EvQ.pickB rfl rfl rfl ?_) | (refine EvQ.cond rfl (fun h => ?_) (fun h => ?_) <;> ((first | replace h := X.nm h | skip); try have hne := ne_len h)) | (refine EvQ.g1 rfl (fun h => ?_) (fun h => ?_) <;> ((first | replace h := X.nm h | skip); try have hne := ne_len h)) | (refine EvQ.pick rfl (fun _ => rfl) (fun _ => rfl) (fun h => ?_) (fun h => ?_) <;> ((first | replace h := X.nm h | skip); try have hne := ne_len h)) | refine EvQ.fin X.rs ?_ | refine EvQ.fin1 (fun _ => rfl) rfl ?_)
  · have hz := starsS_zero (l := l) (by omega)
    rw [hz]
    exact PQ.of (.s2 (clo_ns [.one]) (.s (clo_bo _) (.nil _)))
  · have hpx : ∀ i, Txt (((splS (allF l sVary)).getD []).getD i []) ∧ (((splS (allF l sVary)).getD []).getD i []).length ≤ 100000000 := fun i => by
      by_cases hi : i < ((splS (allF l sVary)).getD []).length
      · rw [List.getD, List.getElem?_eq_getElem hi]
        have := hle _ (List.getElem_mem hi)
        exact ⟨htx _ (List.getElem_mem hi), by show (((splS (allF l sVary)).getD [])[i]).length ≤ _; omega⟩
      · rw [List.getD, List.getElem?_eq_none (by omega)]; exact ⟨fun n hn => absurd hn List.not_mem_nil, Nat.zero_le _⟩
    have hkey : ∃ ps ok, (splS (allF l sVary)).getD [] = ps ∧ (splS (allF l sVary)).isSome = ok ∧ (ok = false → ps = []) ∧ starsS l = if ok = true then (if ps.any badN then none else some (ps.map lowL)) else none := by
      cases h : splS (allF l sVary) with
      | none => exact ⟨[], false, rfl, rfl, fun _ => rfl, starsS_none h⟩
      | some ps => exact ⟨ps, true, rfl, rfl, fun h => Bool.noConfusion h, starsS_some h⟩
    obtain ⟨ps, ok, e1, e2, e3, e4⟩ := hkey
    rw [e1] at hll hpx
    rw [e4, e1, e2]
    clear ha hsp hle htx
    clear e4 e1 e2
    refine EvQ.loop (QL := fun r => (ps.any badN = true ∧ RtQ [(2, .ns), (3, .bo true)] (fun _ _ => True) r) ∨ (ps.any badN = false ∧ ∃ v, XtQ 0 [(7, .bo ok), (8, v)] (fun _ hp => Ow hp v 1 (txs (ps.map lowL))) r)) ?_ ?_
    · refine EvL.invQ (S := Nat × V) (fun x => [(6, .vs 1 (txs ps)), (7, .bo ok), (8, x.2), (9, .it .i64 (Int.ofNat x.1))]) (fun x _ hp => x.1 ≤ ps.length ∧ Ow hp x.2 1 (txs ((ps.take x.1).map lowL)) ∧ hp.lim ≤ hp.next ∧ ∀ j, j < x.1 → badN (ps.getD j []) = false) (fun x => ps.length - x.1) _ ?_ (0, .ns) _ _ _ ⟨Nat.zero_le _, .ns, Nat.le_refl _, fun j h => absurd h (Nat.not_lt_zero j)⟩ X.kv
      intro ⟨i, v⟩ lo hp ⟨h1, hO, hlim, h5⟩
      simp only at h1 hO h5
      have hel := hO.lp
      obtain ⟨x1, x2⟩ := hpx i
      have w1 := rtoken_ok (ps.getD i []) (by omega)
      have w2 := rlower_ok (ps.getD i []) x1 x2
      have hml : ((ps.take i).map lowL).length ≤ ps.length := by rw [List.length_map, List.length_take]; omega
      repeat' (first | refine EvQ.run ?_ | refine EvQ.lift (fun _ zn => X.pcall (w1) X.cq rfl X.al rfl zn) ?_ | refine EvQ.lift (fun _ zn => X.pcallG (w1) rfl X.cq rfl X.al rfl zn) ?_ | refine EvQ.lift (fun _ zn => X.pcallC (w1) rfl X.cq rfl X.al rfl zn) ?_ | refine EvQ.lift (fun _ zn => X.pcallT (w1) (by decide) X.cq rfl X.al rfl zn) ?_ | refine EvQ.lift (fun _ zn => X.call rfl X.al (w1) zn) ?_ | refine EvQ.lift (fun _ zn => X.pcall (w2) X.cq rfl X.al rfl zn) ?_ | refine EvQ.lift (fun _ zn => X.pcallG (w2) rfl X.cq rfl X.al rfl zn) ?_ | refine EvQ.lift (fun _ zn => X.pcallC (w2) rfl X.cq rfl X.al rfl zn) ?_ | refine EvQ.lift (fun _ zn => X.pcallT (w2) (by decide) X.cq rfl X.al rfl zn) ?_ | refine EvQ.lift (fun _ zn => X.call rfl X.al (w2) zn) ?_ | (refine EvQ.pickB rfl rfl rfl ?_) | (refine EvQ.cond rfl (fun h => ?_) (fun h => ?_) <;> ((first | replace h := X.nm h | skip); try have hne := ne_len h)) | (refine EvQ.g1 rfl (fun h => ?_) (fun h => ?_) <;> ((first | replace h := X.nm h | skip); try have hne := ne_len h)) | (refine EvQ.pick rfl (fun _ => rfl) (fun _ => rfl) (fun h => ?_) (fun h => ?_) <;> ((first | replace h := X.nm h | skip); try have hne := ne_len h)) | refine EvQ.fin X.rs ?_ | refine EvQ.fin1 (fun _ => rfl) rfl ?_)
      · have hi : i < ps.length := by assumption
        refine EvQ.rt (.inl ⟨any_at [] hi ?_, .mk' X.kv trivial⟩)
        unfold badN
        rw [show tokenB (ps.getD i []) = false by assumption, Bool.not_false, Bool.or_true]
      · have hi : i < ps.length := by assumption
        refine EvQ.go (i + 1, _) X.kv ⟨by show i + 1 ≤ _; omega, ?_, by rw [oah_lim, oah_next]; omega, fun j hj => ?_⟩ (by show ps.length - (i + 1) < ps.length - i; omega)
        · show Ow _ _ 1 (txs ((ps.take (i + 1)).map lowL))
          rw [take_getD hi [], List.map_append, ← txs_append]
          exact hO.put hlim
        · rcases Nat.lt_or_ge j i with q | q
          · exact h5 j q
          · rw [show j = i by have : j < i + 1 := hj
                              omega]
            unfold badN
            rw [show tokenB (ps.getD i []) = true by assumption, decide_eq_false (by assumption)]; rfl
      · have hi : i < ps.length := by assumption
        refine EvQ.rt (.inl ⟨any_at [] hi ?_, .mk' X.kv trivial⟩)
        unfold badN
        rw [decide_eq_true (by assumption)]; rfl
      · have hi : i = ps.length := by omega
        subst hi
        refine EvQ.xt (.inr ⟨any_take [] h5 rfl, v, .mk' X.kv ?_⟩)
        rw [List.take_length] at hO
        exact hO
    · rintro _ (⟨hb, tm, lo, hp, rfl, -⟩ | ⟨hb, v, tm, lo, hp, rfl, hO⟩)
      · rw [hb]
        repeat' (first | refine EvQ.run ?_ | (refine EvQ.pickB rfl rfl rfl ?_) | (refine EvQ.cond rfl (fun h => ?_) (fun h => ?_) <;> ((first | replace h := X.nm h | skip); try have hne := ne_len h)) | (refine EvQ.g1 rfl (fun h => ?_) (fun h => ?_) <;> ((first | replace h := X.nm h | skip); try have hne := ne_len h)) | (refine EvQ.pick rfl (fun _ => rfl) (fun _ => rfl) (fun h => ?_) (fun h => ?_) <;> ((first | replace h := X.nm h | skip); try have hne := ne_len h)) | refine EvQ.fin X.rs ?_ | refine EvQ.fin1 (fun _ => rfl) rfl ?_)
        cases ok
        · exact PQ.of (.s2 (clo_ns [.one]) (.s (clo_bo _) (.nil _)))
        · exact PQ.of (.s2 (clo_ns [.one]) (.s (clo_bo _) (.nil _)))
      · rw [hb]
        have hel := hO.lp
        obtain ⟨hp', hc, hcf⟩ := hO.sl.close (ts := [.one]) (txs_clo _) (by rw [txs_length, List.length_map]; simp [depth]; omega)
        cases ok
        · rw [e3 rfl] at hc
          repeat' (first | refine EvQ.run ?_ | (refine EvQ.pickB rfl rfl rfl ?_) | (refine EvQ.cond rfl (fun h => ?_) (fun h => ?_) <;> ((first | replace h := X.nm h | skip); try have hne := ne_len h)) | (refine EvQ.g1 rfl (fun h => ?_) (fun h => ?_) <;> ((first | replace h := X.nm h | skip); try have hne := ne_len h)) | (refine EvQ.pick rfl (fun _ => rfl) (fun _ => rfl) (fun h => ?_) (fun h => ?_) <;> ((first | replace h := X.nm h | skip); try have hne := ne_len h)) | refine EvQ.fin X.rs ?_ | refine EvQ.fin1 (fun _ => rfl) rfl ?_)
          exact PQ.of (.c hc (.s (clo_bo _) (.nil _)))
        · repeat' (first | refine EvQ.run ?_ | (refine EvQ.pickB rfl rfl rfl ?_) | (refine EvQ.cond rfl (fun h => ?_) (fun h => ?_) <;> ((first | replace h := X.nm h | skip); try have hne := ne_len h)) | (refine EvQ.g1 rfl (fun h => ?_) (fun h => ?_) <;> ((first | replace h := X.nm h | skip); try have hne := ne_len h)) | (refine EvQ.pick rfl (fun _ => rfl) (fun _ => rfl) (fun h => ?_) (fun h => ?_) <;> ((first | replace h := X.nm h | skip); try have hne := ne_len h)) | refine EvQ.fin X.rs ?_ | refine EvQ.fin1 (fun _ => rfl) rfl ?_)
          exact PQ.of (.c hc (.s (clo_bo _) (.nil _)))
/-- has a name of Vary's the same in both? -/
def nmB (a b : List Fld) (n : List Nat) : Bool := (hasF a n == hasF b n) && decide (trimS (allF a n) = trimS (allF b n))
def matchS (e : En) (q : Rq) : Bool := match starsS e.s.fs with
  | none => false
  | some names => names.all (nmB e.q.fs q.fs)
theorem hasF_ilt (l : List Fld) (n : List Nat) : ilt (Int.ofNat 0) (Int.ofNat (valsF l n).length) = hasF l n := by unfold hasF; rw [ilt_eq]; simp
theorem all_take {α : Type} {p : α → Bool} {l : List α} {i : Nat} (d : α) (h : ∀ j, j < i → p (l.getD j d) = true) (hi : i = l.length) : l.all p = true := by
  rw [List.all_eq_true]
  intro x hx
  obtain ⟨j, hj, rfl⟩ := List.mem_iff_getElem.1 hx
  have := h j (by omega)
  rw [List.getD, List.getElem?_eq_getElem hj] at this
  simpa using this
theorem all_at {α : Type} {p : α → Bool} {l : List α} {i : Nat} (d : α) (h : i < l.length) (hp : p (l.getD i d) = false) : l.all p = false := by
  rw [List.all_eq_false]
  refine ⟨l[i], List.getElem_mem h, ?_⟩
  rw [List.getD, List.getElem?_eq_getElem h] at hp
  simpa using hp
theorem starsS_len {l : List Fld} (hl : JOK l) : ((starsS l).getD []).length ≤ 9700001 := by
  have h1 := splS_len (allF l sVary)
  have h2 := allF_len hl sVary
  cases h : splS (allF l sVary) with
  | none => rw [starsS_none h]; exact Nat.zero_le _
  | some ps =>
    rw [starsS_some h]
    rw [h] at h1
    simp only [Option.getD_some] at h1
    split
    · exact Nat.zero_le _
    · rw [Option.getD_some, List.length_map]; omega
set_option maxHeartbeats 16000000 in
theorem match_ok (e : En) (q : Rq) (h1 : JOK e.q.fs) (h2 : JOK e.s.fs) (h3 : JOK q.fs) (ht : TOK e.s.fs) : EvP F 50 c50 [.ag (rowEn e), .ag (rowRq q)] [.bo (matchS e q)] := by
  have hs := stars_ok e.s.fs h2 ht
  have hn := starsS_len h2
  refine EvP.ofQ d50 rfl rfl rfl ?_
  unfold matchS
  cases hst : starsS e.s.fs with
  | none =>
    rw [hst] at hs
    repeat' (first | refine EvQ.run ?_ | refine EvQ.lift (fun _ zn => X.pcall (hs) X.cq rfl X.al rfl zn) ?_ | refine EvQ.lift (fun _ zn => X.pcallG (hs) rfl X.cq rfl X.al rfl zn) ?_ | refine EvQ.lift (fun _ zn => X.pcallC (hs) rfl X.cq rfl X.al rfl zn) ?_ | refine EvQ.lift (fun _ zn => X.pcallT (hs) (by decide) X.cq rfl X.al rfl zn) ?_ | refine EvQ.lift (fun _ zn => X.call rfl X.al (hs) zn) ?_ | (refine EvQ.pickB rfl rfl rfl ?_) | (refine EvQ.cond rfl (fun h => ?_) (fun h => ?_) <;> ((first | replace h := X.nm h | skip); try have hne := ne_len h)) | (refine EvQ.g1 rfl (fun h => ?_) (fun h => ?_) <;> ((first | replace h := X.nm h | skip); try have hne := ne_len h)) | (refine EvQ.pick rfl (fun _ => rfl) (fun _ => rfl) (fun h => ?_) (fun h => ?_) <;> ((first | replace h := X.nm h | skip); try have hne := ne_len h)) | refine EvQ.fin X.rs ?_ | refine EvQ.fin1 (fun _ => rfl) rfl ?_)
    exact PQ.bo rfl
  | some names =>
    rw [hst] at hs hn
    simp only [Option.getD_some] at hn
    repeat' (first | refine EvQ.run ?_ | refine EvQ.lift (fun _ zn => X.pcall (hs) X.cq rfl X.al rfl zn) ?_ | refine EvQ.lift (fun _ zn => X.pcallG (hs) rfl X.cq rfl X.al rfl zn) ?_ | refine EvQ.lift (fun _ zn => X.pcallC (hs) rfl X.cq rfl X.al rfl zn) ?_ | refine EvQ.lift (fun _ zn => X.pcallT (hs) (by decide) X.cq rfl X.al rfl zn) ?_ | refine EvQ.lift (fun _ zn => X.call rfl X.al (hs) zn) ?_ | (refine EvQ.pickB rfl rfl rfl ?_) | (refine EvQ.cond rfl (fun h => ?_) (fun h => ?_) <;> ((first | replace h := X.nm h | skip); try have hne := ne_len h)) | (refine EvQ.g1 rfl (fun h => ?_) (fun h => ?_) <;> ((first | replace h := X.nm h | skip); try have hne := ne_len h)) | (refine EvQ.pick rfl (fun _ => rfl) (fun _ => rfl) (fun h => ?_) (fun h => ?_) <;> ((first | replace h := X.nm h | skip); try have hne := ne_len h)) | refine EvQ.fin X.rs ?_ | refine EvQ.fin1 (fun _ => rfl) rfl ?_)
    refine EvQ.loop (QL := fun r => (names.all (nmB e.q.fs q.fs) = false ∧ RtQ [(4, .bo false)] (fun _ _ => True) r) ∨ (names.all (nmB e.q.fs q.fs) = true ∧ XtQ 0 [] (fun _ _ => True) r)) ?_ ?_
    · refine EvL.invQ (S := Nat) (fun i => [(2, .lp 2 0), (3, .lp 3 0), (21, .vs 1 (txs names)), (22, .it .i64 (Int.ofNat names.length)), (23, .it .i64 (Int.ofNat i))]) (fun i lo _ => lo = lset (lset (fun _ => none) 2 (rowEn e)) 3 (rowRq q) ∧ i ≤ names.length ∧ ∀ j, j < i → nmB e.q.fs q.fs (names.getD j []) = true) (fun i => names.length - i) _ ?_ 0 _ _ _ ⟨rfl, Nat.zero_le _, fun j h => absurd h (Nat.not_lt_zero j)⟩ X.kv
      intro i lo hp ⟨e1, e2, e3⟩
      subst e1
      have a1 := all_ok e.q.fs (names.getD i []) h1
      have a2 := all_ok q.fs (names.getD i []) h3
      have l1 := allF_len h1 (names.getD i [])
      have l2 := allF_len h3 (names.getD i [])
      have t1 := trim_ok (allF e.q.fs (names.getD i [])) (by omega)
      have t2 := trim_ok (allF q.fs (names.getD i [])) (by omega)
      have b1 := hasF_ilt e.q.fs (names.getD i [])
      have b2 := hasF_ilt q.fs (names.getD i [])
      repeat' (first | refine EvQ.run ?_ | refine EvQ.lift (fun _ zn => X.pcall (a1) X.cq rfl X.al rfl zn) ?_ | refine EvQ.lift (fun _ zn => X.pcallG (a1) rfl X.cq rfl X.al rfl zn) ?_ | refine EvQ.lift (fun _ zn => X.pcallC (a1) rfl X.cq rfl X.al rfl zn) ?_ | refine EvQ.lift (fun _ zn => X.pcallT (a1) (by decide) X.cq rfl X.al rfl zn) ?_ | refine EvQ.lift (fun _ zn => X.call rfl X.al (a1) zn) ?_ | refine EvQ.lift (fun _ zn => X.pcall (a2) X.cq rfl X.al rfl zn) ?_ | refine EvQ.lift (fun _ zn => X.pcallG (a2) rfl X.cq rfl X.al rfl zn) ?_ | refine EvQ.lift (fun _ zn => X.pcallC (a2) rfl X.cq rfl X.al rfl zn) ?_ | refine EvQ.lift (fun _ zn => X.pcallT (a2) (by decide) X.cq rfl X.al rfl zn) ?_ | refine EvQ.lift (fun _ zn => X.call rfl X.al (a2) zn) ?_ | refine EvQ.lift (fun _ zn => X.pcall (t1) X.cq rfl X.al rfl zn) ?_ | refine EvQ.lift (fun _ zn => X.pcallG (t1) rfl X.cq rfl X.al rfl zn) ?_ | refine EvQ.lift (fun _ zn => X.pcallC (t1) rfl X.cq rfl X.al rfl zn) ?_ | refine EvQ.lift (fun _ zn => X.pcallT (t1) (by decide) X.cq rfl X.al rfl zn) ?_ | refine EvQ.lift (fun _ zn => X.call rfl X.al (t1) zn) ?_ | refine EvQ.lift (fun _ zn => X.pcall (t2) X.cq rfl X.al rfl zn) ?_ | refine EvQ.lift (fun _ zn => X.pcallG (t2) rfl X.cq rfl X.al rfl zn) ?_ | refine EvQ.lift (fun _ zn => X.pcallC (t2) rfl X.cq rfl X.al rfl zn) ?_ | refine EvQ.lift (fun _ zn => X.pcallT (t2) (by decide) X.cq rfl X.al rfl zn) ?_ | refine EvQ.lift (fun _ zn => X.call rfl X.al (t2) zn) ?_ | (refine EvQ.pickB rfl rfl rfl ?_) | (refine EvQ.cond rfl (fun h => ?_) (fun h => ?_) <;> ((first | replace h := X.nm h | skip); try have hne := ne_len h)) | (refine EvQ.g1 rfl (fun h => ?_) (fun h => ?_) <;> ((first | replace h := X.nm h | skip); try have hne := ne_len h)) | (refine EvQ.pick rfl (fun _ => rfl) (fun _ => rfl) (fun h => ?_) (fun h => ?_) <;> ((first | replace h := X.nm h | skip); try have hne := ne_len h)) | refine EvQ.fin X.rs ?_ | refine EvQ.fin1 (fun _ => rfl) rfl ?_)
      · refine EvQ.rt (.inl ⟨all_at [] (by assumption) ?_, .mk' X.kv trivial⟩)
        unfold nmB
        rw [decide_eq_false (by assumption), Bool.and_false]
      · refine EvQ.go (i + 1) X.kv ⟨rfl, by omega, fun j hj => ?_⟩ (by omega)
        rcases Nat.lt_or_ge j i with p | p
        · exact e3 j p
        · rw [show j = i by omega]
          unfold nmB hasF
          rw [decide_eq_true (show trimS (allF e.q.fs (names.getD i [])) = _ by assumption), Bool.and_true]
          assumption
      · refine EvQ.rt (.inl ⟨all_at [] (by assumption) ?_, .mk' X.kv trivial⟩)
        unfold nmB hasF
        rw [show (decide (0 < (valsF e.q.fs (names.getD i [])).length) == decide (0 < (valsF q.fs (names.getD i [])).length)) = false by assumption]; rfl
      · exact EvQ.xt (.inr ⟨all_take [] e3 (by omega), .mk' X.kv trivial⟩)
    · rintro _ (⟨hb, tm, lo, hp, rfl, -⟩ | ⟨hb, tm, lo, hp, rfl, -⟩)
      · repeat' (first | refine EvQ.run ?_ | (refine EvQ.pickB rfl rfl rfl ?_) | (refine EvQ.cond rfl (fun h => ?_) (fun h => ?_) <;> ((first | replace h := X.nm h | skip); try have hne := ne_len h)) | (refine EvQ.g1 rfl (fun h => ?_) (fun h => ?_) <;> ((first | replace h := X.nm h | skip); try have hne := ne_len h)) | (refine EvQ.pick rfl (fun _ => rfl) (fun _ => rfl) (fun h => ?_) (fun h => ?_) <;> ((first | replace h := X.nm h | skip); try have hne := ne_len h)) | refine EvQ.fin X.rs ?_ | refine EvQ.fin1 (fun _ => rfl) rfl ?_)
        exact PQ.bo hb.symm
      · repeat' (first | refine EvQ.run ?_ | (refine EvQ.pickB rfl rfl rfl ?_) | (refine EvQ.cond rfl (fun h => ?_) (fun h => ?_) <;> ((first | replace h := X.nm h | skip); try have hne := ne_len h)) | (refine EvQ.g1 rfl (fun h => ?_) (fun h => ?_) <;> ((first | replace h := X.nm h | skip); try have hne := ne_len h)) | (refine EvQ.pick rfl (fun _ => rfl) (fun _ => rfl) (fun h => ?_) (fun h => ?_) <;> ((first | replace h := X.nm h | skip); try have hne := ne_len h)) | refine EvQ.fin X.rs ?_ | refine EvQ.fin1 (fun _ => rfl) rfl ?_)
        exact PQ.bo hb.symm
end Go.Proofs.Ytddohjlkjakdlaa
