import Derived.Test.YtcbiplmgaiipgaaEvE
import Derived.Test.YtcbiplmgaiipgaaRefL
set_option linter.unusedVariables false
set_option linter.unusedSimpArgs false
set_option linter.unusedSectionVars false
-- the document's responses, whole
namespace Go.Proofs.Ytcbiplmgaiipgaa
open Go hiding Fn
open Ev tab
theorem resF_else {f : Fld} {r : List Fld} (h : (statB f && restB r) = false) : resF (f :: r) = none := by rw [resF_cons, if_neg (by rw [h]; decide)]
theorem resF_yes {f : Fld} {r : List Fld} (h : (statB f && restB r) = true) : resF (f :: r) = some (numF f.2, restL r, restN r) := by rw [resF_cons, if_pos h]
theorem stat_eq (f : Fld) : statB f = (decide (f.1 = sStatus) && (decide (f.2.length = 3) && (decide (100 ≤ numF f.2) && (decide (numF f.2 ≤ 599) && !decide (numF f.2 = 101))))) := rfl
theorem colon_stat {f : Fld} (h : colonB f = false) : statB f = false := by
  rw [stat_eq]
  have : decide (f.1 = sStatus) = false := decide_eq_false fun e => by
    unfold colonB at h
    rw [e] at h
    cases h
  rw [this, Bool.false_and]
theorem kOf_cons_f {f : Fld} {r : List Fld} (h : colonB f = false) : kOf (f :: r) = 0 := by simp [kOf, List.takeWhile, h]
theorem kOf_cons_t {f : Fld} {r : List Fld} (h : colonB f = true) : kOf (f :: r) = kOf r + 1 := by simp [kOf, List.takeWhile, h]
theorem kOf_none {r : List Fld} (h : r.any colonB = false) : kOf r = 0 := by
  cases r with
  | nil => rfl
  | cons g r =>
    simp only [List.any_cons, Bool.or_eq_false_iff] at h
    exact kOf_cons_f h.1
theorem any_drop {r : List Fld} (h : kOf r = 0) : r.drop (kOf r) = r := by rw [h]; rfl
theorem rest_eq (r : List Fld) : restB r = (!(r.any colonB) && (plainF r && lenB r)) := rfl
attribute [local irreducible] EvP EvD EvL EvC evGds evLs C.run sK bK gK pK fK lpB stepD plainF
set_option maxHeartbeats 16000000 in
set_option maxRecDepth 100000 in
theorem rresponse_ok (l : List Fld) (hl : FOK l) : EvP F 29 c29 [.vs 2 (fds l)] [.ag (rowS (resF l)), .bo (resF l).isSome] := by
  have hlen := fds_length l
  have hll := hl.1
  have ba := bare_ok l hl
  cases l with
  | nil =>
    refine EvP.ofQ d29 rfl rfl rfl ?_
    repeat' (first | refine EvQ.run ?_ | refine EvQ.lift (fun _ zn => X.pcall (ba) X.cq rfl X.al rfl zn) ?_ | refine EvQ.lift (fun _ zn => X.pcallG (ba) rfl X.cq rfl X.al rfl zn) ?_ | refine EvQ.lift (fun _ zn => X.pcallC (ba) rfl X.cq rfl X.al rfl zn) ?_ | refine EvQ.lift (fun _ zn => X.pcallT (ba) (by decide) X.cq rfl X.al rfl zn) ?_ | refine EvQ.lift (fun _ zn => X.call rfl X.al (ba) zn) ?_ | (refine EvQ.pickB rfl rfl rfl ?_) | (refine EvQ.cond rfl (fun h => ?_) (fun h => ?_) <;> ((first | replace h := X.nm h | skip); try have hne := ne_len h)) | (refine EvQ.g1 rfl (fun h => ?_) (fun h => ?_) <;> ((first | replace h := X.nm h | skip); try have hne := ne_len h)) | (refine EvQ.pick rfl (fun _ => rfl) (fun _ => rfl) (fun h => ?_) (fun h => ?_) <;> ((first | replace h := X.nm h | skip); try have hne := ne_len h)) | refine EvQ.fin X.rs ?_ | refine EvQ.fin1 (fun _ => rfl) rfl ?_)
    exact PQ.of (.gs2 zRowS_clo (.s (clo_bo _) (.nil _)))
  | cons f r =>
    obtain ⟨ft1, ft2, fl1, fl2⟩ := hl.2 f List.mem_cons_self
    have hr : FOK r := ⟨by have := hl.1; rw [List.length_cons] at this; omega, fun g hg => hl.2 g (List.mem_cons_of_mem _ hg)⟩
    have hrl := hr.1
    cases hc : colonB f with
    | false =>
      rw [kOf_cons_f hc] at ba
      rw [resF_else (by rw [colon_stat hc, Bool.false_and])]
      refine EvP.ofQ d29 rfl rfl rfl ?_
      refine EvQ.run ?_
      first | refine EvQ.lift (fun _ zn => X.pcall (ba) X.cq rfl X.al rfl zn) ?_ | refine EvQ.lift (fun _ zn => X.pcallG (ba) rfl X.cq rfl X.al rfl zn) ?_ | refine EvQ.lift (fun _ zn => X.pcallC (ba) rfl X.cq rfl X.al rfl zn) ?_ | refine EvQ.lift (fun _ zn => X.pcallT (ba) (by decide) X.cq rfl X.al rfl zn) ?_ | refine EvQ.lift (fun _ zn => X.call rfl X.al (ba) zn) ?_
      try refine EvQ.run ?_
      repeat' (first | refine EvQ.run ?_ | (refine EvQ.pickB rfl rfl rfl ?_) | (refine EvQ.cond rfl (fun h => ?_) (fun h => ?_) <;> ((first | replace h := X.nm h | skip); try have hne := ne_len h)) | (refine EvQ.g1 rfl (fun h => ?_) (fun h => ?_) <;> ((first | replace h := X.nm h | skip); try have hne := ne_len h)) | (refine EvQ.pick rfl (fun _ => rfl) (fun _ => rfl) (fun h => ?_) (fun h => ?_) <;> ((first | replace h := X.nm h | skip); try have hne := ne_len h)) | refine EvQ.fin X.rs ?_ | refine EvQ.fin1 (fun _ => rfl) rfl ?_)
      all_goals exact PQ.of (.gs2 zRowS_clo (.s (clo_bo _) (.nil _)))
    | true =>
      rw [kOf_cons_t hc, List.drop_succ_cons] at ba
      cases ha : r.any colonB with
      | true =>
        rw [resF_else (by rw [rest_eq, ha]; simp)]
        have hk : (!(r.drop (kOf r)).any colonB) = true → ¬ kOf r = 0 := fun q e => by
          rw [any_drop e, ha] at q; cases q
        generalize kOf r = k at *
        generalize (!(r.drop k).any colonB) = t at *
        refine EvP.ofQ d29 rfl rfl rfl ?_
        cases t with
        | false =>
          refine EvQ.run ?_
          first | refine EvQ.lift (fun _ zn => X.pcall (ba) X.cq rfl X.al rfl zn) ?_ | refine EvQ.lift (fun _ zn => X.pcallG (ba) rfl X.cq rfl X.al rfl zn) ?_ | refine EvQ.lift (fun _ zn => X.pcallC (ba) rfl X.cq rfl X.al rfl zn) ?_ | refine EvQ.lift (fun _ zn => X.pcallT (ba) (by decide) X.cq rfl X.al rfl zn) ?_ | refine EvQ.lift (fun _ zn => X.call rfl X.al (ba) zn) ?_
          try refine EvQ.run ?_
          repeat' (first | refine EvQ.run ?_ | (refine EvQ.pickB rfl rfl rfl ?_) | (refine EvQ.cond rfl (fun h => ?_) (fun h => ?_) <;> ((first | replace h := X.nm h | skip); try have hne := ne_len h)) | (refine EvQ.g1 rfl (fun h => ?_) (fun h => ?_) <;> ((first | replace h := X.nm h | skip); try have hne := ne_len h)) | (refine EvQ.pick rfl (fun _ => rfl) (fun _ => rfl) (fun h => ?_) (fun h => ?_) <;> ((first | replace h := X.nm h | skip); try have hne := ne_len h)) | refine EvQ.fin X.rs ?_ | refine EvQ.fin1 (fun _ => rfl) rfl ?_)
          all_goals exact PQ.of (.gs2 zRowS_clo (.s (clo_bo _) (.nil _)))
        | true =>
          have hk := hk rfl
          refine EvQ.run ?_
          first | refine EvQ.lift (fun _ zn => X.pcall (ba) X.cq rfl X.al rfl zn) ?_ | refine EvQ.lift (fun _ zn => X.pcallG (ba) rfl X.cq rfl X.al rfl zn) ?_ | refine EvQ.lift (fun _ zn => X.pcallC (ba) rfl X.cq rfl X.al rfl zn) ?_ | refine EvQ.lift (fun _ zn => X.pcallT (ba) (by decide) X.cq rfl X.al rfl zn) ?_ | refine EvQ.lift (fun _ zn => X.call rfl X.al (ba) zn) ?_
          try refine EvQ.run ?_
          repeat' (first | refine EvQ.run ?_ | (refine EvQ.pickB rfl rfl rfl ?_) | (refine EvQ.cond rfl (fun h => ?_) (fun h => ?_) <;> ((first | replace h := X.nm h | skip); try have hne := ne_len h)) | (refine EvQ.g1 rfl (fun h => ?_) (fun h => ?_) <;> ((first | replace h := X.nm h | skip); try have hne := ne_len h)) | (refine EvQ.pick rfl (fun _ => rfl) (fun _ => rfl) (fun h => ?_) (fun h => ?_) <;> ((first | replace h := X.nm h | skip); try have hne := ne_len h)) | refine EvQ.fin X.rs ?_ | refine EvQ.fin1 (fun _ => rfl) rfl ?_)
          all_goals first | exact PQ.of (.gs2 zRowS_clo (.s (clo_bo _) (.nil _))) | trace_state
      | false =>
        rw [kOf_none ha] at ba
        rw [show r.drop 0 = r from rfl, ha] at ba
        have hst := stat_eq f
        have hre := rest_eq r
        rw [ha] at hre
        have rl := rlength_ok r hr
        have rp := rplain_ok r hr
        obtain ⟨nm, vl⟩ := f
        simp only at ft1 ft2 fl1 fl2 hst
        by_cases hn : nm = [58, 115, 116, 97, 116, 117, 115]
        · by_cases h3 : vl.length = 3
          · have nb := rnumber_ok vl ft2 (by omega)
            subst hn
            have hs2 : statB ([58, 115, 116, 97, 116, 117, 115], vl) = (decide (100 ≤ numF vl) && (decide (numF vl ≤ 599) && !decide (numF vl = 101))) := by
              rw [hst, decide_eq_true (show ([58, 115, 116, 97, 116, 117, 115] : List Nat) = sStatus from rfl), decide_eq_true h3, Bool.true_and, Bool.true_and]
            have hrl2 : restB r = true → restL r = r ∧ restN r = (lenGo (-1) r).getD (-1) := fun q => by
              rw [hre] at q
              simp only [Bool.not_false, Bool.true_and, Bool.and_eq_true, lenB] at q
              obtain ⟨q1, q2⟩ := q
              obtain ⟨n, hn⟩ := Option.isSome_iff_exists.1 q2
              exact ⟨by unfold restL; rw [ha, q1]; rfl, by unfold restN lenN; rw [ha, q1, hn]; rfl⟩
            have hno := fun q => resF_else (f := ([58, 115, 116, 97, 116, 117, 115], vl)) (r := r) q
            have hyes := fun q => resF_yes (f := ([58, 115, 116, 97, 116, 117, 115], vl)) (r := r) q
            rw [hs2, hre] at hno hyes
            rw [hre] at hrl2
            clear hst hs2 hre
            unfold lenB at hno hyes hrl2
            simp only at hyes
            generalize resF (([58, 115, 116, 97, 116, 117, 115], vl) :: r) = Z at *
            generalize restL r = RL at *
            generalize restN r = RN at *
            generalize plainF r = pl at *
            generalize hgo : lenGo (-1) r = go at *
            generalize numF vl = N at *
            refine EvP.ofQ d29 rfl rfl rfl ?_
            refine EvQ.run ?_
            first | refine EvQ.lift (fun _ zn => X.pcall (ba) X.cq rfl X.al rfl zn) ?_ | refine EvQ.lift (fun _ zn => X.pcallG (ba) rfl X.cq rfl X.al rfl zn) ?_ | refine EvQ.lift (fun _ zn => X.pcallC (ba) rfl X.cq rfl X.al rfl zn) ?_ | refine EvQ.lift (fun _ zn => X.pcallT (ba) (by decide) X.cq rfl X.al rfl zn) ?_ | refine EvQ.lift (fun _ zn => X.call rfl X.al (ba) zn) ?_
            try refine EvQ.run ?_
            refine EvQ.cond rfl (fun h => absurd h (by simp [sd, h3])) (fun h => ?_)
            refine EvQ.run ?_
            first | refine EvQ.lift (fun _ zn => X.pcall (nb) X.cq rfl X.al rfl zn) ?_ | refine EvQ.lift (fun _ zn => X.pcallG (nb) rfl X.cq rfl X.al rfl zn) ?_ | refine EvQ.lift (fun _ zn => X.pcallC (nb) rfl X.cq rfl X.al rfl zn) ?_ | refine EvQ.lift (fun _ zn => X.pcallT (nb) (by decide) X.cq rfl X.al rfl zn) ?_ | refine EvQ.lift (fun _ zn => X.call rfl X.al (nb) zn) ?_
            try refine EvQ.run ?_
            first | refine EvQ.lift (fun _ zn => X.pcall (rl) X.cq rfl X.al rfl zn) ?_ | refine EvQ.lift (fun _ zn => X.pcallG (rl) rfl X.cq rfl X.al rfl zn) ?_ | refine EvQ.lift (fun _ zn => X.pcallC (rl) rfl X.cq rfl X.al rfl zn) ?_ | refine EvQ.lift (fun _ zn => X.pcallT (rl) (by decide) X.cq rfl X.al rfl zn) ?_ | refine EvQ.lift (fun _ zn => X.call rfl X.al (rl) zn) ?_
            try refine EvQ.run ?_
            by_cases hN : (decide (100 ≤ N) && (decide (N ≤ 599) && !decide (N = 101)) && (!false && (pl && go.isSome))) = true
            · rw [hyes hN]
              obtain ⟨e1, e2⟩ := hrl2 (by simp only [Bool.and_eq_true] at hN ⊢; exact hN.2)
              subst e1
              simp only [Bool.not_false, Bool.true_and, Bool.and_eq_true, decide_eq_true_eq, Bool.not_eq_true', decide_eq_false_iff_not] at hN
              obtain ⟨⟨n1, n2, n3⟩, n4, n5⟩ := hN
              cases n4
              cases go with
              | none => cases n5
              | some g =>
                have e2 : RN = g := e2
                subst e2
                refine EvQ.run ?_
                first | refine EvQ.lift (fun _ zn => X.pcall (rp) X.cq rfl X.al rfl zn) ?_ | refine EvQ.lift (fun _ zn => X.pcallG (rp) rfl X.cq rfl X.al rfl zn) ?_ | refine EvQ.lift (fun _ zn => X.pcallC (rp) rfl X.cq rfl X.al rfl zn) ?_ | refine EvQ.lift (fun _ zn => X.pcallT (rp) (by decide) X.cq rfl X.al rfl zn) ?_ | refine EvQ.lift (fun _ zn => X.call rfl X.al (rp) zn) ?_
                try refine EvQ.run ?_
                have hO : Ow (hnew (hset (hnew h0 ⟨2, false, []⟩) 0 none) ⟨2, false, [] ++ fds RL⟩) (.hs 1 0 (0 + (fds RL).length)) 2 (fds RL) := .inr ⟨1, by rw [Nat.zero_add], by show 1 < 2; decide, by show 0 ≤ 1; decide, rfl⟩
                obtain ⟨hq, hcl⟩ := closeCs_rsO RL N RN hO (by omega)
                repeat' (first | refine EvQ.run ?_ | (refine EvQ.pickB rfl rfl rfl ?_) | (refine EvQ.cond rfl (fun h => ?_) (fun h => ?_) <;> ((first | replace h := X.nm h | skip); try have hne := ne_len h)) | (refine EvQ.g1 rfl (fun h => ?_) (fun h => ?_) <;> ((first | replace h := X.nm h | skip); try have hne := ne_len h)) | (refine EvQ.pick rfl (fun _ => rfl) (fun _ => rfl) (fun h => ?_) (fun h => ?_) <;> ((first | replace h := X.nm h | skip); try have hne := ne_len h)) | refine EvQ.fin X.rs ?_ | refine EvQ.fin1 (fun _ => rfl) rfl ?_)
                exact PQ.of (.g hcl (.s (clo_bo _) (.nil _)))
            · rw [hno (by simpa using hN)]
              clear hyes hrl2 hno
              cases pl with
              | false =>
                repeat' (first | refine EvQ.run ?_ | refine EvQ.lift (fun _ zn => X.pcall (rp) X.cq rfl X.al rfl zn) ?_ | refine EvQ.lift (fun _ zn => X.pcallG (rp) rfl X.cq rfl X.al rfl zn) ?_ | refine EvQ.lift (fun _ zn => X.pcallC (rp) rfl X.cq rfl X.al rfl zn) ?_ | refine EvQ.lift (fun _ zn => X.pcallT (rp) (by decide) X.cq rfl X.al rfl zn) ?_ | refine EvQ.lift (fun _ zn => X.call rfl X.al (rp) zn) ?_ | (refine EvQ.pickB rfl rfl rfl ?_) | (refine EvQ.cond rfl (fun h => ?_) (fun h => ?_) <;> ((first | replace h := X.nm h | skip); try have hne := ne_len h)) | (refine EvQ.g1 rfl (fun h => ?_) (fun h => ?_) <;> ((first | replace h := X.nm h | skip); try have hne := ne_len h)) | (refine EvQ.pick rfl (fun _ => rfl) (fun _ => rfl) (fun h => ?_) (fun h => ?_) <;> ((first | replace h := X.nm h | skip); try have hne := ne_len h)) | refine EvQ.fin X.rs ?_ | refine EvQ.fin1 (fun _ => rfl) rfl ?_)
                all_goals first | exact PQ.of (.gs2 zRowS_clo (.s (clo_bo _) (.nil _))) | trace_state
              | true =>
                cases go with
                | none =>
                  repeat' (first | refine EvQ.run ?_ | refine EvQ.lift (fun _ zn => X.pcall (rp) X.cq rfl X.al rfl zn) ?_ | refine EvQ.lift (fun _ zn => X.pcallG (rp) rfl X.cq rfl X.al rfl zn) ?_ | refine EvQ.lift (fun _ zn => X.pcallC (rp) rfl X.cq rfl X.al rfl zn) ?_ | refine EvQ.lift (fun _ zn => X.pcallT (rp) (by decide) X.cq rfl X.al rfl zn) ?_ | refine EvQ.lift (fun _ zn => X.call rfl X.al (rp) zn) ?_ | (refine EvQ.pickB rfl rfl rfl ?_) | (refine EvQ.cond rfl (fun h => ?_) (fun h => ?_) <;> ((first | replace h := X.nm h | skip); try have hne := ne_len h)) | (refine EvQ.g1 rfl (fun h => ?_) (fun h => ?_) <;> ((first | replace h := X.nm h | skip); try have hne := ne_len h)) | (refine EvQ.pick rfl (fun _ => rfl) (fun _ => rfl) (fun h => ?_) (fun h => ?_) <;> ((first | replace h := X.nm h | skip); try have hne := ne_len h)) | refine EvQ.fin X.rs ?_ | refine EvQ.fin1 (fun _ => rfl) rfl ?_)
                  all_goals first | exact PQ.of (.gs2 zRowS_clo (.s (clo_bo _) (.nil _))) | trace_state
                | some g =>
                  have hN2 : ¬ (100 ≤ N ∧ N ≤ 599 ∧ ¬ N = 101) := fun ⟨a, b, c⟩ => hN (by simp [a, b, c])
                  clear hN
                  repeat' (first | refine EvQ.run ?_ | refine EvQ.lift (fun _ zn => X.pcall (rp) X.cq rfl X.al rfl zn) ?_ | refine EvQ.lift (fun _ zn => X.pcallG (rp) rfl X.cq rfl X.al rfl zn) ?_ | refine EvQ.lift (fun _ zn => X.pcallC (rp) rfl X.cq rfl X.al rfl zn) ?_ | refine EvQ.lift (fun _ zn => X.pcallT (rp) (by decide) X.cq rfl X.al rfl zn) ?_ | refine EvQ.lift (fun _ zn => X.call rfl X.al (rp) zn) ?_ | (refine EvQ.pickB rfl rfl rfl ?_) | (refine EvQ.cond rfl (fun h => ?_) (fun h => ?_) <;> ((first | replace h := X.nm h | skip); try have hne := ne_len h)) | (refine EvQ.g1 rfl (fun h => ?_) (fun h => ?_) <;> ((first | replace h := X.nm h | skip); try have hne := ne_len h)) | (refine EvQ.pick rfl (fun _ => rfl) (fun _ => rfl) (fun h => ?_) (fun h => ?_) <;> ((first | replace h := X.nm h | skip); try have hne := ne_len h)) | refine EvQ.fin X.rs ?_ | refine EvQ.fin1 (fun _ => rfl) rfl ?_)
                  all_goals first | exact PQ.of (.gs2 zRowS_clo (.s (clo_bo _) (.nil _))) | (exfalso; omega) | trace_state
          · rw [resF_else (by rw [hst, decide_eq_false h3]; simp)]
            refine EvP.ofQ d29 rfl rfl rfl ?_
            subst hn
            refine EvQ.run ?_
            first | refine EvQ.lift (fun _ zn => X.pcall (ba) X.cq rfl X.al rfl zn) ?_ | refine EvQ.lift (fun _ zn => X.pcallG (ba) rfl X.cq rfl X.al rfl zn) ?_ | refine EvQ.lift (fun _ zn => X.pcallC (ba) rfl X.cq rfl X.al rfl zn) ?_ | refine EvQ.lift (fun _ zn => X.pcallT (ba) (by decide) X.cq rfl X.al rfl zn) ?_ | refine EvQ.lift (fun _ zn => X.call rfl X.al (ba) zn) ?_
            try refine EvQ.run ?_
            repeat' (first | refine EvQ.run ?_ | (refine EvQ.pickB rfl rfl rfl ?_) | (refine EvQ.cond rfl (fun h => ?_) (fun h => ?_) <;> ((first | replace h := X.nm h | skip); try have hne := ne_len h)) | (refine EvQ.g1 rfl (fun h => ?_) (fun h => ?_) <;> ((first | replace h := X.nm h | skip); try have hne := ne_len h)) | (refine EvQ.pick rfl (fun _ => rfl) (fun _ => rfl) (fun h => ?_) (fun h => ?_) <;> ((first | replace h := X.nm h | skip); try have hne := ne_len h)) | refine EvQ.fin X.rs ?_ | refine EvQ.fin1 (fun _ => rfl) rfl ?_)
            all_goals simp only [List.getD_cons_zero] at *
            all_goals first | exact PQ.of (.gs2 zRowS_clo (.s (clo_bo _) (.nil _))) | exact absurd (by assumption) h3 | trace_state
        · rw [resF_else (by rw [hst, decide_eq_false (show ¬ nm = sStatus from hn)]; rfl)]
          refine EvP.ofQ d29 rfl rfl rfl ?_
          refine EvQ.run ?_
          first | refine EvQ.lift (fun _ zn => X.pcall (ba) X.cq rfl X.al rfl zn) ?_ | refine EvQ.lift (fun _ zn => X.pcallG (ba) rfl X.cq rfl X.al rfl zn) ?_ | refine EvQ.lift (fun _ zn => X.pcallC (ba) rfl X.cq rfl X.al rfl zn) ?_ | refine EvQ.lift (fun _ zn => X.pcallT (ba) (by decide) X.cq rfl X.al rfl zn) ?_ | refine EvQ.lift (fun _ zn => X.call rfl X.al (ba) zn) ?_
          try refine EvQ.run ?_
          repeat' (first | refine EvQ.run ?_ | (refine EvQ.pickB rfl rfl rfl ?_) | (refine EvQ.cond rfl (fun h => ?_) (fun h => ?_) <;> ((first | replace h := X.nm h | skip); try have hne := ne_len h)) | (refine EvQ.g1 rfl (fun h => ?_) (fun h => ?_) <;> ((first | replace h := X.nm h | skip); try have hne := ne_len h)) | (refine EvQ.pick rfl (fun _ => rfl) (fun _ => rfl) (fun h => ?_) (fun h => ?_) <;> ((first | replace h := X.nm h | skip); try have hne := ne_len h)) | refine EvQ.fin X.rs ?_ | refine EvQ.fin1 (fun _ => rfl) rfl ?_)
          all_goals simp only [List.getD_cons_zero] at *
          all_goals first | exact PQ.of (.gs2 zRowS_clo (.s (clo_bo _) (.nil _))) | exact absurd (by assumption) hn | trace_state
end Go.Proofs.Ytcbiplmgaiipgaa
