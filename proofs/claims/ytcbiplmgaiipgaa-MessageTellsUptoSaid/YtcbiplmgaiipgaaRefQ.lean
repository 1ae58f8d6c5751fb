import Derived.Test.YtcbiplmgaiipgaaEvE
import Derived.Test.YtcbiplmgaiipgaaRefR
import Derived.Test.YtcbiplmgaiipgaaAskM
set_option linter.unusedVariables false
set_option linter.unusedSimpArgs false
set_option linter.unusedSectionVars false
-- the document's requests, whole
namespace Go.Proofs.Ytcbiplmgaiipgaa
open Go hiding Fn
open Ev tab
theorem right_eq (h : Hd) : rightB h = (tokenB h.m && (!decide (h.m = [67, 79, 78, 78, 69, 67, 84]) && ((decide (h.s = [104, 116, 116, 112]) || decide (h.s = [104, 116, 116, 112, 115])) && (!decide (h.a = []) && (!decide (h.p = []) && (decide (h.p.getD 0 0 = 47) || (decide (h.p = [42]) && decide (h.m = [79, 80, 84, 73, 79, 78, 83])))))))) := rfl
attribute [local irreducible] EvP EvD EvL EvC evGds evLs C.run sK bK gK pK fK lpB stepD tokenB plainF rightB
-- the chain of conditions on a head that is whole, and what is built behind it
theorem slimG {F : Nat → Option Ev.Fn} {Q : Ev.R → Prop} {k : Ev.R → D} {clr : List Nat} {tm : Tm} {lo : Lo} {hp : Hp} {gs : List DGr} (l : List (Nat × V)) (h : l.map (fun x => (x.1, tm x.1)) = l) (n : ∀ tm', EvQ F (evGds clr gs ⟨upds l tm', lo, hp⟩ k) Q) : EvQ F (evGds clr gs ⟨tm, lo, hp⟩ k) Q := by
  have := n tm
  rwa [upds_self l h] at this
set_option maxHeartbeats 16000000 in
set_option maxRecDepth 100000 in
theorem rrequest_ok (l : List Fld) (hl : FOK l) : EvP F 28 c28 [.vs 2 (fds l)] [.ag (rowQ (reqF l)), .bo (reqF l).isSome] := by
  have hll := hl.1
  have hkl := kOf_le l
  have ba := bare_ok l hl
  have rl := rlength_ok (l.drop (kOf l)) (hl.drop _)
  have rp := rplain_ok (l.drop (kOf l)) (hl.drop _)
  have hreq : ∀ h, headS (l.take (kOf l)) = some h → reqF l = if (rightB h && restB (l.drop (kOf l))) = true then some (h, restL (l.drop (kOf l)), restN (l.drop (kOf l))) else none := fun h e => by unfold reqF; rw [e]
  have hreq0 : headS (l.take (kOf l)) = none → reqF l = none := fun e => by unfold reqF; rw [e]
  have hrb : restB (l.drop (kOf l)) = (!(l.drop (kOf l)).any colonB && (plainF (l.drop (kOf l)) && (lenGo (-1) (l.drop (kOf l))).isSome)) := rfl
  have htx : ∀ h, headS (l.take (kOf l)) = some h → Txt h.m ∧ h.m.length ≤ 100000000 := fun h hs => headGo_txt _ _ _ h (hl.take _) hs ⟨fun n hn => (List.not_mem_nil hn).elim, Nat.zero_le _⟩
  have hrl : restL (l.drop (kOf l)) = if (l.drop (kOf l)).any colonB || !plainF (l.drop (kOf l)) then [] else l.drop (kOf l) := rfl
  have hrn : restN (l.drop (kOf l)) = if (l.drop (kOf l)).any colonB || !plainF (l.drop (kOf l)) then 0 else (lenGo (-1) (l.drop (kOf l))).getD 0 := rfl
  refine EvP.ofQ d28 rfl rfl rfl ?_
  generalize hK : kOf l = K at *
  generalize hL : l.drop K = L at *
  have hll2 : L.length ≤ 10000000 := by rw [← hL, List.length_drop]; omega
  cases hc : L.any colonB with
  | true =>
    rw [hc] at ba
    have hr : reqF l = none := by
      cases hs : headS (l.take K) with
      | none => exact hreq0 hs
      | some h => rw [hreq h hs, if_neg (by rw [hrb, hc]; simp)]
    rw [hr]
    repeat' (first | refine EvQ.run ?_ | refine EvQ.lift (fun _ zn => X.pcall (ba) X.cq rfl X.al rfl zn) ?_ | refine EvQ.lift (fun _ zn => X.pcallG (ba) rfl X.cq rfl X.al rfl zn) ?_ | refine EvQ.lift (fun _ zn => X.pcallC (ba) rfl X.cq rfl X.al rfl zn) ?_ | refine EvQ.lift (fun _ zn => X.pcallT (ba) (by decide) X.cq rfl X.al rfl zn) ?_ | refine EvQ.lift (fun _ zn => X.call rfl X.al (ba) zn) ?_ | (refine EvQ.pickB rfl rfl rfl ?_) | (refine EvQ.cond rfl (fun h => ?_) (fun h => ?_) <;> ((first | replace h := X.nm h | skip); try have hne := ne_len h)) | (refine EvQ.g1 rfl (fun h => ?_) (fun h => ?_) <;> ((first | replace h := X.nm h | skip); try have hne := ne_len h)) | (refine EvQ.pick rfl (fun _ => rfl) (fun _ => rfl) (fun h => ?_) (fun h => ?_) <;> ((first | replace h := X.nm h | skip); try have hne := ne_len h)) | refine EvQ.fin X.rs ?_ | refine EvQ.fin1 (fun _ => rfl) rfl ?_)
    exact PQ.of (.gs2 zRow_clo (.s (clo_bo _) (.nil _)))
  | false =>
    rw [hc] at ba hrb hrl hrn
    refine EvQ.run ?_
    first | refine EvQ.lift (fun _ zn => X.pcall (ba) X.cq rfl X.al rfl zn) ?_ | refine EvQ.lift (fun _ zn => X.pcallG (ba) rfl X.cq rfl X.al rfl zn) ?_ | refine EvQ.lift (fun _ zn => X.pcallC (ba) rfl X.cq rfl X.al rfl zn) ?_ | refine EvQ.lift (fun _ zn => X.pcallT (ba) (by decide) X.cq rfl X.al rfl zn) ?_ | refine EvQ.lift (fun _ zn => X.call rfl X.al (ba) zn) ?_
    try refine EvQ.run ?_
    refine EvQ.loop (rreq_loop l hl K (by omega) (headS (l.take K)) rfl _ X.lo _ rfl (Nat.le_refl _) _ X.kv) ?_
    rintro _ (⟨h, seen, hs, he, tm, lo, hp, rfl, rfl, hg, hlim, hnx⟩ | ⟨hs, tm, lo, hp, rfl, lo', rfl⟩)
    · have hreq := hreq h hs
      have tk := rtoken_ok h.m (by have := (htx h hs).2; omega)
      have hnx : hp.next = 1 := hnx
      rw [hrb] at hreq
      generalize reqF l = Z at *
      clear hreq0 htx ba hrb hl
      refine EvQ.run ?_
      rw [hL]
      clear hK hkl hs hc hL
      generalize restL L = RL at *
      generalize restN L = RN at *
      generalize lenGo (-1) L = go at *
      have hno : (rightB h && (!false && (plainF L && go.isSome))) = false → Z = none := fun q => by rw [hreq, if_neg (by rw [q]; simp)]
      have hyes : (rightB h && (!false && (plainF L && go.isSome))) = true → Z = some (h, RL, RN) := fun q => by rw [hreq, if_pos q]
      clear hreq
      rw [right_eq] at hno hyes
      cases hpl : plainF L with
      | false =>
        rw [hpl] at rp
        have e := hno (by rw [hpl]; simp)
        rw [e]
        clear hno hyes
        first | refine EvQ.lift (fun _ zn => X.pcall (rl) X.cq rfl X.al rfl zn) ?_ | refine EvQ.lift (fun _ zn => X.pcallG (rl) rfl X.cq rfl X.al rfl zn) ?_ | refine EvQ.lift (fun _ zn => X.pcallC (rl) rfl X.cq rfl X.al rfl zn) ?_ | refine EvQ.lift (fun _ zn => X.pcallT (rl) (by decide) X.cq rfl X.al rfl zn) ?_ | refine EvQ.lift (fun _ zn => X.call rfl X.al (rl) zn) ?_
        try refine EvQ.run ?_
        first | refine EvQ.lift (fun _ zn => X.pcall (rp) X.cq rfl X.al rfl zn) ?_ | refine EvQ.lift (fun _ zn => X.pcallG (rp) rfl X.cq rfl X.al rfl zn) ?_ | refine EvQ.lift (fun _ zn => X.pcallC (rp) rfl X.cq rfl X.al rfl zn) ?_ | refine EvQ.lift (fun _ zn => X.pcallT (rp) (by decide) X.cq rfl X.al rfl zn) ?_ | refine EvQ.lift (fun _ zn => X.call rfl X.al (rp) zn) ?_
        try refine EvQ.run ?_
        repeat' (first | refine EvQ.run ?_ | (refine EvQ.pickB rfl rfl rfl ?_) | (refine EvQ.cond rfl (fun h => ?_) (fun h => ?_) <;> ((first | replace h := X.nm h | skip); try have hne := ne_len h)) | (refine EvQ.g1 rfl (fun h => ?_) (fun h => ?_) <;> ((first | replace h := X.nm h | skip); try have hne := ne_len h)) | (refine EvQ.pick rfl (fun _ => rfl) (fun _ => rfl) (fun h => ?_) (fun h => ?_) <;> ((first | replace h := X.nm h | skip); try have hne := ne_len h)) | refine EvQ.fin X.rs ?_ | refine EvQ.fin1 (fun _ => rfl) rfl ?_)
        exact PQ.of (.gs2 zRow_clo (.s (clo_bo _) (.nil _)))
      | true =>
        rw [hpl] at rp hno hyes hrl hrn
        cases go with
        | none =>
          have e := hno (by simp)
          rw [e]
          clear hno hyes
          first | refine EvQ.lift (fun _ zn => X.pcall (rl) X.cq rfl X.al rfl zn) ?_ | refine EvQ.lift (fun _ zn => X.pcallG (rl) rfl X.cq rfl X.al rfl zn) ?_ | refine EvQ.lift (fun _ zn => X.pcallC (rl) rfl X.cq rfl X.al rfl zn) ?_ | refine EvQ.lift (fun _ zn => X.pcallT (rl) (by decide) X.cq rfl X.al rfl zn) ?_ | refine EvQ.lift (fun _ zn => X.call rfl X.al (rl) zn) ?_
          try refine EvQ.run ?_
          first | refine EvQ.lift (fun _ zn => X.pcall (rp) X.cq rfl X.al rfl zn) ?_ | refine EvQ.lift (fun _ zn => X.pcallG (rp) rfl X.cq rfl X.al rfl zn) ?_ | refine EvQ.lift (fun _ zn => X.pcallC (rp) rfl X.cq rfl X.al rfl zn) ?_ | refine EvQ.lift (fun _ zn => X.pcallT (rp) (by decide) X.cq rfl X.al rfl zn) ?_ | refine EvQ.lift (fun _ zn => X.call rfl X.al (rp) zn) ?_
          try refine EvQ.run ?_
          repeat' (first | refine EvQ.run ?_ | (refine EvQ.pickB rfl rfl rfl ?_) | (refine EvQ.cond rfl (fun h => ?_) (fun h => ?_) <;> ((first | replace h := X.nm h | skip); try have hne := ne_len h)) | (refine EvQ.g1 rfl (fun h => ?_) (fun h => ?_) <;> ((first | replace h := X.nm h | skip); try have hne := ne_len h)) | (refine EvQ.pick rfl (fun _ => rfl) (fun _ => rfl) (fun h => ?_) (fun h => ?_) <;> ((first | replace h := X.nm h | skip); try have hne := ne_len h)) | refine EvQ.fin X.rs ?_ | refine EvQ.fin1 (fun _ => rfl) rfl ?_)
          exact PQ.of (.gs2 zRow_clo (.s (clo_bo _) (.nil _)))
        | some n =>
          have hrl : L = RL := hrl.symm
          have hrn : n = RN := hrn.symm
          subst hrl
          subst hrn
          obtain ⟨m, s, a, p⟩ := h
          simp only at hno hyes tk
          cases htk : tokenB m with
          | false =>
            rw [htk] at tk hno
            have e := hno (by simp)
            rw [e]
            clear hno hyes
            first | refine EvQ.lift (fun _ zn => X.pcall (rl) X.cq rfl X.al rfl zn) ?_ | refine EvQ.lift (fun _ zn => X.pcallG (rl) rfl X.cq rfl X.al rfl zn) ?_ | refine EvQ.lift (fun _ zn => X.pcallC (rl) rfl X.cq rfl X.al rfl zn) ?_ | refine EvQ.lift (fun _ zn => X.pcallT (rl) (by decide) X.cq rfl X.al rfl zn) ?_ | refine EvQ.lift (fun _ zn => X.call rfl X.al (rl) zn) ?_
            try refine EvQ.run ?_
            first | refine EvQ.lift (fun _ zn => X.pcall (rp) X.cq rfl X.al rfl zn) ?_ | refine EvQ.lift (fun _ zn => X.pcallG (rp) rfl X.cq rfl X.al rfl zn) ?_ | refine EvQ.lift (fun _ zn => X.pcallC (rp) rfl X.cq rfl X.al rfl zn) ?_ | refine EvQ.lift (fun _ zn => X.pcallT (rp) (by decide) X.cq rfl X.al rfl zn) ?_ | refine EvQ.lift (fun _ zn => X.call rfl X.al (rp) zn) ?_
            try refine EvQ.run ?_
            first | refine EvQ.lift (fun _ zn => X.pcall (tk) X.cq rfl X.al rfl zn) ?_ | refine EvQ.lift (fun _ zn => X.pcallG (tk) rfl X.cq rfl X.al rfl zn) ?_ | refine EvQ.lift (fun _ zn => X.pcallC (tk) rfl X.cq rfl X.al rfl zn) ?_ | refine EvQ.lift (fun _ zn => X.pcallT (tk) (by decide) X.cq rfl X.al rfl zn) ?_ | refine EvQ.lift (fun _ zn => X.call rfl X.al (tk) zn) ?_
            try refine EvQ.run ?_
            repeat' (first | refine EvQ.run ?_ | (refine EvQ.pickB rfl rfl rfl ?_) | (refine EvQ.cond rfl (fun h => ?_) (fun h => ?_) <;> ((first | replace h := X.nm h | skip); try have hne := ne_len h)) | (refine EvQ.g1 rfl (fun h => ?_) (fun h => ?_) <;> ((first | replace h := X.nm h | skip); try have hne := ne_len h)) | (refine EvQ.pick rfl (fun _ => rfl) (fun _ => rfl) (fun h => ?_) (fun h => ?_) <;> ((first | replace h := X.nm h | skip); try have hne := ne_len h)) | refine EvQ.fin X.rs ?_ | refine EvQ.fin1 (fun _ => rfl) rfl ?_)
            exact PQ.of (.gs2 zRow_clo (.s (clo_bo _) (.nil _)))
          | true =>
            rw [htk] at tk hno hyes
            obtain ⟨he1, he2⟩ := he
            simp only at he1 he2
            first | refine EvQ.lift (fun _ zn => X.pcall (rl) X.cq rfl X.al rfl zn) ?_ | refine EvQ.lift (fun _ zn => X.pcallG (rl) rfl X.cq rfl X.al rfl zn) ?_ | refine EvQ.lift (fun _ zn => X.pcallC (rl) rfl X.cq rfl X.al rfl zn) ?_ | refine EvQ.lift (fun _ zn => X.pcallT (rl) (by decide) X.cq rfl X.al rfl zn) ?_ | refine EvQ.lift (fun _ zn => X.call rfl X.al (rl) zn) ?_
            try refine EvQ.run ?_
            first | refine EvQ.lift (fun _ zn => X.pcall (rp) X.cq rfl X.al rfl zn) ?_ | refine EvQ.lift (fun _ zn => X.pcallG (rp) rfl X.cq rfl X.al rfl zn) ?_ | refine EvQ.lift (fun _ zn => X.pcallC (rp) rfl X.cq rfl X.al rfl zn) ?_ | refine EvQ.lift (fun _ zn => X.pcallT (rp) (by decide) X.cq rfl X.al rfl zn) ?_ | refine EvQ.lift (fun _ zn => X.call rfl X.al (rp) zn) ?_
            try refine EvQ.run ?_
            first | refine EvQ.lift (fun _ zn => X.pcall (tk) X.cq rfl X.al rfl zn) ?_ | refine EvQ.lift (fun _ zn => X.pcallG (tk) rfl X.cq rfl X.al rfl zn) ?_ | refine EvQ.lift (fun _ zn => X.pcallC (tk) rfl X.cq rfl X.al rfl zn) ?_ | refine EvQ.lift (fun _ zn => X.pcallT (tk) (by decide) X.cq rfl X.al rfl zn) ?_ | refine EvQ.lift (fun _ zn => X.call rfl X.al (tk) zn) ?_
            try refine EvQ.run ?_
            clear rl rp tk
            have hZ : Z = if (!beqL m [67, 79, 78, 78, 69, 67, 84] && ((beqL s [104, 116, 116, 112] || beqL s [104, 116, 116, 112, 115]) && (!beqL a [] && (!beqL p [] && (decide (p.getD 0 0 = 47) || (beqL p [42] && beqL m [79, 80, 84, 73, 79, 78, 83])))))) = true then some (⟨m, s, a, p⟩, L, n) else none := by
              simp only [beqLD]
              split
              · rename_i hq
                exact hyes (by rw [Bool.true_and] at *; simpa using hq)
              · rename_i hq
                exact hno (by simpa using hq)
            clear hno hyes
            refine slimG [(2, .lp 2 0), (6, .pt 0 0 0), (7, .lp 7 0), (11, .vs 2 (fds L)), (12, .it .i64 n), (95, .bo (beqL m [67, 79, 78, 78, 69, 67, 84]))] rfl fun tm' => ?_
            generalize beqL m [67, 79, 78, 78, 69, 67, 84] = bC at *
            have h47e : decide (p.getD 0 0 = 47) = ieq (Int.ofNat (p.getD 0 0)) (Int.ofNat 47) := by rw [ieqD]; simp; omega
            rw [h47e] at hZ
            clear h47e
            cases bC with
            | true =>
              have e : Z = none := by rw [hZ]; first | rfl | (simp; done) | (simp [beqLD]; done)
              rw [e]
              repeat' (first | refine EvQ.run ?_ | (refine EvQ.pickB rfl rfl rfl ?_) | (refine EvQ.cond rfl (fun h => ?_) (fun h => ?_) <;> ((first | replace h := X.nm h | skip); try have hne := ne_len h)) | (refine EvQ.g1 rfl (fun h => ?_) (fun h => ?_) <;> ((first | replace h := X.nm h | skip); try have hne := ne_len h)) | (refine EvQ.pick rfl (fun _ => rfl) (fun _ => rfl) (fun h => ?_) (fun h => ?_) <;> ((first | replace h := X.nm h | skip); try have hne := ne_len h)) | refine EvQ.fin X.rs ?_ | refine EvQ.fin1 (fun _ => rfl) rfl ?_)
              exact PQ.of (.gs2 zRow_clo (.s (clo_bo _) (.nil _)))
            | false =>
              refine EvQ.run ?_
              generalize hd1 : decide (sScheme ∈ seen) = d1 at *
              cases d1 with
              | false =>
                have e2 := he1 (of_decide_eq_false hd1)
                subst e2
                have e : Z = none := by rw [hZ]; first | rfl | (simp; done) | (simp [beqLD]; done)
                rw [e]
                repeat' (first | refine EvQ.run ?_ | (refine EvQ.pickB rfl rfl rfl ?_) | (refine EvQ.cond rfl (fun h => ?_) (fun h => ?_) <;> ((first | replace h := X.nm h | skip); try have hne := ne_len h)) | (refine EvQ.g1 rfl (fun h => ?_) (fun h => ?_) <;> ((first | replace h := X.nm h | skip); try have hne := ne_len h)) | (refine EvQ.pick rfl (fun _ => rfl) (fun _ => rfl) (fun h => ?_) (fun h => ?_) <;> ((first | replace h := X.nm h | skip); try have hne := ne_len h)) | refine EvQ.fin X.rs ?_ | refine EvQ.fin1 (fun _ => rfl) rfl ?_)
                exact PQ.of (.gs2 zRow_clo (.s (clo_bo _) (.nil _)))
              | true =>
                refine EvQ.run ?_
                generalize hd2 : decide (sPath ∈ seen) = d2 at *
                cases d2 with
                | false =>
                  have e2 := he2 (of_decide_eq_false hd2)
                  subst e2
                  have e : Z = none := by rw [hZ]; first | rfl | (simp; done) | (simp [beqLD]; done)
                  rw [e]
                  repeat' (first | refine EvQ.run ?_ | (refine EvQ.pickB rfl rfl rfl ?_) | (refine EvQ.cond rfl (fun h => ?_) (fun h => ?_) <;> ((first | replace h := X.nm h | skip); try have hne := ne_len h)) | (refine EvQ.g1 rfl (fun h => ?_) (fun h => ?_) <;> ((first | replace h := X.nm h | skip); try have hne := ne_len h)) | (refine EvQ.pick rfl (fun _ => rfl) (fun _ => rfl) (fun h => ?_) (fun h => ?_) <;> ((first | replace h := X.nm h | skip); try have hne := ne_len h)) | refine EvQ.fin X.rs ?_ | refine EvQ.fin1 (fun _ => rfl) rfl ?_)
                  exact PQ.of (.gs2 zRow_clo (.s (clo_bo _) (.nil _)))
                | true =>
                  clear hd1 hd2 he1 he2
                  refine EvQ.run ?_
                  generalize beqL s [104, 116, 116, 112] = bH at *
                  cases bH with
                  | true =>
                    refine EvQ.run ?_
                    generalize beqL a [] = bA at *
                    cases bA with
                    | true =>
                      have e : Z = none := by rw [hZ]; first | rfl | (simp; done) | (simp [beqLD]; done)
                      rw [e]
                      repeat' (first | refine EvQ.run ?_ | (refine EvQ.pickB rfl rfl rfl ?_) | (refine EvQ.cond rfl (fun h => ?_) (fun h => ?_) <;> ((first | replace h := X.nm h | skip); try have hne := ne_len h)) | (refine EvQ.g1 rfl (fun h => ?_) (fun h => ?_) <;> ((first | replace h := X.nm h | skip); try have hne := ne_len h)) | (refine EvQ.pick rfl (fun _ => rfl) (fun _ => rfl) (fun h => ?_) (fun h => ?_) <;> ((first | replace h := X.nm h | skip); try have hne := ne_len h)) | refine EvQ.fin X.rs ?_ | refine EvQ.fin1 (fun _ => rfl) rfl ?_)
                      exact PQ.of (.gs2 zRow_clo (.s (clo_bo _) (.nil _)))
                    | false =>
                      refine EvQ.run ?_
                      generalize hbP : beqL p [] = bP at *
                      cases bP with
                      | true =>
                        have e : Z = none := by rw [hZ]; first | rfl | (simp; done) | (simp [beqLD]; done)
                        rw [e]
                        repeat' (first | refine EvQ.run ?_ | (refine EvQ.pickB rfl rfl rfl ?_) | (refine EvQ.cond rfl (fun h => ?_) (fun h => ?_) <;> ((first | replace h := X.nm h | skip); try have hne := ne_len h)) | (refine EvQ.g1 rfl (fun h => ?_) (fun h => ?_) <;> ((first | replace h := X.nm h | skip); try have hne := ne_len h)) | (refine EvQ.pick rfl (fun _ => rfl) (fun _ => rfl) (fun h => ?_) (fun h => ?_) <;> ((first | replace h := X.nm h | skip); try have hne := ne_len h)) | refine EvQ.fin X.rs ?_ | refine EvQ.fin1 (fun _ => rfl) rfl ?_)
                        exact PQ.of (.gs2 zRow_clo (.s (clo_bo _) (.nil _)))
                      | false =>
                        have hp0 : 0 < p.length := by
                          rcases p with _ | ⟨c, r⟩
                          · rw [beqLD] at hbP; exact absurd rfl (of_decide_eq_false hbP)
                          · exact Nat.succ_pos _
                        clear hbP
                        refine EvQ.run ?_
                        generalize ieq (Int.ofNat (p.getD 0 0)) (Int.ofNat 47) = b47 at *
                        cases b47 with
                        | true =>
                          have e : Z = some (⟨m, s, a, p⟩, L, n) := by rw [hZ]; rfl
                          rw [e]
                          refine EvQ.run ?_
                          have hOw : Ow (hnew hp ⟨2, false, []⟩) (.hs hp.next 0 0) 2 [] := Ow.mk0 (rows := []) (by omega)
                          refine EvQ.lift (fun R n => X.apg (v := .hs hp.next 0 0) (vy := .vs 2 (fds L)) (rows := []) (new := fds L) (by rw [hnx]; rfl) rfl hOw (Els.vs _) (fun _ => rfl) (by rw [fds_length]; simp; omega) n) ?_
                          have hO2 := hOw.gput (new := fds L) (by rw [hnew_lim, hnew_next]; omega)
                          have hid : ∀ id, idOf (gav (hnew hp ⟨2, false, []⟩) (.hs hp.next 0 0) ([] : List (List V)).length (fds L).length) = some id → 2 ≤ id := fun id h => by
                            have e : gav (hnew hp ⟨2, false, []⟩) (.hs hp.next 0 0) ([] : List (List V)).length (fds L).length = .hs (hp.next + 1) 0 (([] : List (List V)).length + (fds L).length) := rfl
                            rw [e] at h; cases h; omega
                          have hg2 : hget (gah (hnew hp ⟨2, false, []⟩) (.hs hp.next 0 0) 2 [] (fds L)) 0 = some ⟨6, false, [rowH ⟨m, s, a, p⟩]⟩ := by
                            refine (gah_get (fun e => ?_) (by rw [hnew_next]; omega)).trans ((hget_old (by omega)).trans hg)
                            have : hp.next = 0 := by injection e
                            omega
                          have hlim2 : (gah (hnew hp ⟨2, false, []⟩) (.hs hp.next 0 0) 2 [] (fds L)).lim ≤ 0 := by rw [gah_lim]; exact hlim
                          rw [List.nil_append] at hO2
                          have hwl := hO2.lp
                          have hwc := hO2.cells
                          have hwk := hO2.keep
                          clear hOw hg
                          generalize gav (hnew hp ⟨2, false, []⟩) (.hs hp.next 0 0) ([] : List (List V)).length (fds L).length = w at *
                          generalize gah (hnew hp ⟨2, false, []⟩) (.hs hp.next 0 0) 2 [] (fds L) = hp2 at *
                          have hO3 : ∀ b c, Ow (hset (hset hp2 0 b) 0 c) w 2 (fds L) := fun b c => hO2.get (Nat.le_refl _) rfl fun id h => by
                            have := hid id h
                            rw [hget_other (by omega), hget_other (by omega)]
                          obtain ⟨hq, hcl⟩ := closeCs_rqO L m s a p n (hO3 _ _) rfl (by omega)
                          repeat' (first | refine EvQ.run ?_ | (refine EvQ.pickB rfl rfl rfl ?_) | (refine EvQ.cond rfl (fun h => ?_) (fun h => ?_) <;> ((first | replace h := X.nm h | skip); try have hne := ne_len h)) | (refine EvQ.g1 rfl (fun h => ?_) (fun h => ?_) <;> ((first | replace h := X.nm h | skip); try have hne := ne_len h)) | (refine EvQ.pick rfl (fun _ => rfl) (fun _ => rfl) (fun h => ?_) (fun h => ?_) <;> ((first | replace h := X.nm h | skip); try have hne := ne_len h)) | refine EvQ.fin X.rs ?_ | refine EvQ.fin1 (fun _ => rfl) rfl ?_)
                          exact PQ.of (.g hcl (.s (clo_bo _) (.nil _)))
                        | false =>
                          refine EvQ.run ?_
                          generalize beqL p [42] = b42 at *
                          cases b42 with
                          | false =>
                            have e : Z = none := by rw [hZ]; first | rfl | (simp; done) | (simp [beqLD]; done)
                            rw [e]
                            repeat' (first | refine EvQ.run ?_ | (refine EvQ.pickB rfl rfl rfl ?_) | (refine EvQ.cond rfl (fun h => ?_) (fun h => ?_) <;> ((first | replace h := X.nm h | skip); try have hne := ne_len h)) | (refine EvQ.g1 rfl (fun h => ?_) (fun h => ?_) <;> ((first | replace h := X.nm h | skip); try have hne := ne_len h)) | (refine EvQ.pick rfl (fun _ => rfl) (fun _ => rfl) (fun h => ?_) (fun h => ?_) <;> ((first | replace h := X.nm h | skip); try have hne := ne_len h)) | refine EvQ.fin X.rs ?_ | refine EvQ.fin1 (fun _ => rfl) rfl ?_)
                            exact PQ.of (.gs2 zRow_clo (.s (clo_bo _) (.nil _)))
                          | true =>
                            refine EvQ.run ?_
                            generalize beqL m [79, 80, 84, 73, 79, 78, 83] = bO at *
                            cases bO with
                            | false =>
                              have e : Z = none := by rw [hZ]; first | rfl | (simp; done) | (simp [beqLD]; done)
                              rw [e]
                              repeat' (first | refine EvQ.run ?_ | (refine EvQ.pickB rfl rfl rfl ?_) | (refine EvQ.cond rfl (fun h => ?_) (fun h => ?_) <;> ((first | replace h := X.nm h | skip); try have hne := ne_len h)) | (refine EvQ.g1 rfl (fun h => ?_) (fun h => ?_) <;> ((first | replace h := X.nm h | skip); try have hne := ne_len h)) | (refine EvQ.pick rfl (fun _ => rfl) (fun _ => rfl) (fun h => ?_) (fun h => ?_) <;> ((first | replace h := X.nm h | skip); try have hne := ne_len h)) | refine EvQ.fin X.rs ?_ | refine EvQ.fin1 (fun _ => rfl) rfl ?_)
                              exact PQ.of (.gs2 zRow_clo (.s (clo_bo _) (.nil _)))
                            | true =>
                              have e : Z = some (⟨m, s, a, p⟩, L, n) := by rw [hZ]; rfl
                              rw [e]
                              refine EvQ.run ?_
                              have hOw : Ow (hnew hp ⟨2, false, []⟩) (.hs hp.next 0 0) 2 [] := Ow.mk0 (rows := []) (by omega)
                              refine EvQ.lift (fun R n => X.apg (v := .hs hp.next 0 0) (vy := .vs 2 (fds L)) (rows := []) (new := fds L) (by rw [hnx]; rfl) rfl hOw (Els.vs _) (fun _ => rfl) (by rw [fds_length]; simp; omega) n) ?_
                              have hO2 := hOw.gput (new := fds L) (by rw [hnew_lim, hnew_next]; omega)
                              have hid : ∀ id, idOf (gav (hnew hp ⟨2, false, []⟩) (.hs hp.next 0 0) ([] : List (List V)).length (fds L).length) = some id → 2 ≤ id := fun id h => by
                                have e : gav (hnew hp ⟨2, false, []⟩) (.hs hp.next 0 0) ([] : List (List V)).length (fds L).length = .hs (hp.next + 1) 0 (([] : List (List V)).length + (fds L).length) := rfl
                                rw [e] at h; cases h; omega
                              have hg2 : hget (gah (hnew hp ⟨2, false, []⟩) (.hs hp.next 0 0) 2 [] (fds L)) 0 = some ⟨6, false, [rowH ⟨m, s, a, p⟩]⟩ := by
                                refine (gah_get (fun e => ?_) (by rw [hnew_next]; omega)).trans ((hget_old (by omega)).trans hg)
                                have : hp.next = 0 := by injection e
                                omega
                              have hlim2 : (gah (hnew hp ⟨2, false, []⟩) (.hs hp.next 0 0) 2 [] (fds L)).lim ≤ 0 := by rw [gah_lim]; exact hlim
                              rw [List.nil_append] at hO2
                              have hwl := hO2.lp
                              have hwc := hO2.cells
                              have hwk := hO2.keep
                              clear hOw hg
                              generalize gav (hnew hp ⟨2, false, []⟩) (.hs hp.next 0 0) ([] : List (List V)).length (fds L).length = w at *
                              generalize gah (hnew hp ⟨2, false, []⟩) (.hs hp.next 0 0) 2 [] (fds L) = hp2 at *
                              have hO3 : ∀ b c, Ow (hset (hset hp2 0 b) 0 c) w 2 (fds L) := fun b c => hO2.get (Nat.le_refl _) rfl fun id h => by
                                have := hid id h
                                rw [hget_other (by omega), hget_other (by omega)]
                              obtain ⟨hq, hcl⟩ := closeCs_rqO L m s a p n (hO3 _ _) rfl (by omega)
                              repeat' (first | refine EvQ.run ?_ | (refine EvQ.pickB rfl rfl rfl ?_) | (refine EvQ.cond rfl (fun h => ?_) (fun h => ?_) <;> ((first | replace h := X.nm h | skip); try have hne := ne_len h)) | (refine EvQ.g1 rfl (fun h => ?_) (fun h => ?_) <;> ((first | replace h := X.nm h | skip); try have hne := ne_len h)) | (refine EvQ.pick rfl (fun _ => rfl) (fun _ => rfl) (fun h => ?_) (fun h => ?_) <;> ((first | replace h := X.nm h | skip); try have hne := ne_len h)) | refine EvQ.fin X.rs ?_ | refine EvQ.fin1 (fun _ => rfl) rfl ?_)
                              exact PQ.of (.g hcl (.s (clo_bo _) (.nil _)))
                  | false =>
                    refine EvQ.run ?_
                    generalize beqL s [104, 116, 116, 112, 115] = bS at *
                    cases bS with
                    | false =>
                      have e : Z = none := by rw [hZ]; first | rfl | (simp; done) | (simp [beqLD]; done)
                      rw [e]
                      repeat' (first | refine EvQ.run ?_ | (refine EvQ.pickB rfl rfl rfl ?_) | (refine EvQ.cond rfl (fun h => ?_) (fun h => ?_) <;> ((first | replace h := X.nm h | skip); try have hne := ne_len h)) | (refine EvQ.g1 rfl (fun h => ?_) (fun h => ?_) <;> ((first | replace h := X.nm h | skip); try have hne := ne_len h)) | (refine EvQ.pick rfl (fun _ => rfl) (fun _ => rfl) (fun h => ?_) (fun h => ?_) <;> ((first | replace h := X.nm h | skip); try have hne := ne_len h)) | refine EvQ.fin X.rs ?_ | refine EvQ.fin1 (fun _ => rfl) rfl ?_)
                      exact PQ.of (.gs2 zRow_clo (.s (clo_bo _) (.nil _)))
                    | true =>
                      refine EvQ.run ?_
                      generalize beqL a [] = bA at *
                      cases bA with
                      | true =>
                        have e : Z = none := by rw [hZ]; first | rfl | (simp; done) | (simp [beqLD]; done)
                        rw [e]
                        repeat' (first | refine EvQ.run ?_ | (refine EvQ.pickB rfl rfl rfl ?_) | (refine EvQ.cond rfl (fun h => ?_) (fun h => ?_) <;> ((first | replace h := X.nm h | skip); try have hne := ne_len h)) | (refine EvQ.g1 rfl (fun h => ?_) (fun h => ?_) <;> ((first | replace h := X.nm h | skip); try have hne := ne_len h)) | (refine EvQ.pick rfl (fun _ => rfl) (fun _ => rfl) (fun h => ?_) (fun h => ?_) <;> ((first | replace h := X.nm h | skip); try have hne := ne_len h)) | refine EvQ.fin X.rs ?_ | refine EvQ.fin1 (fun _ => rfl) rfl ?_)
                        exact PQ.of (.gs2 zRow_clo (.s (clo_bo _) (.nil _)))
                      | false =>
                        refine EvQ.run ?_
                        generalize hbP : beqL p [] = bP at *
                        cases bP with
                        | true =>
                          have e : Z = none := by rw [hZ]; first | rfl | (simp; done) | (simp [beqLD]; done)
                          rw [e]
                          repeat' (first | refine EvQ.run ?_ | (refine EvQ.pickB rfl rfl rfl ?_) | (refine EvQ.cond rfl (fun h => ?_) (fun h => ?_) <;> ((first | replace h := X.nm h | skip); try have hne := ne_len h)) | (refine EvQ.g1 rfl (fun h => ?_) (fun h => ?_) <;> ((first | replace h := X.nm h | skip); try have hne := ne_len h)) | (refine EvQ.pick rfl (fun _ => rfl) (fun _ => rfl) (fun h => ?_) (fun h => ?_) <;> ((first | replace h := X.nm h | skip); try have hne := ne_len h)) | refine EvQ.fin X.rs ?_ | refine EvQ.fin1 (fun _ => rfl) rfl ?_)
                          exact PQ.of (.gs2 zRow_clo (.s (clo_bo _) (.nil _)))
                        | false =>
                          have hp0 : 0 < p.length := by
                            rcases p with _ | ⟨c, r⟩
                            · rw [beqLD] at hbP; exact absurd rfl (of_decide_eq_false hbP)
                            · exact Nat.succ_pos _
                          clear hbP
                          refine EvQ.run ?_
                          generalize ieq (Int.ofNat (p.getD 0 0)) (Int.ofNat 47) = b47 at *
                          cases b47 with
                          | true =>
                            have e : Z = some (⟨m, s, a, p⟩, L, n) := by rw [hZ]; rfl
                            rw [e]
                            refine EvQ.run ?_
                            have hOw : Ow (hnew hp ⟨2, false, []⟩) (.hs hp.next 0 0) 2 [] := Ow.mk0 (rows := []) (by omega)
                            refine EvQ.lift (fun R n => X.apg (v := .hs hp.next 0 0) (vy := .vs 2 (fds L)) (rows := []) (new := fds L) (by rw [hnx]; rfl) rfl hOw (Els.vs _) (fun _ => rfl) (by rw [fds_length]; simp; omega) n) ?_
                            have hO2 := hOw.gput (new := fds L) (by rw [hnew_lim, hnew_next]; omega)
                            have hid : ∀ id, idOf (gav (hnew hp ⟨2, false, []⟩) (.hs hp.next 0 0) ([] : List (List V)).length (fds L).length) = some id → 2 ≤ id := fun id h => by
                              have e : gav (hnew hp ⟨2, false, []⟩) (.hs hp.next 0 0) ([] : List (List V)).length (fds L).length = .hs (hp.next + 1) 0 (([] : List (List V)).length + (fds L).length) := rfl
                              rw [e] at h; cases h; omega
                            have hg2 : hget (gah (hnew hp ⟨2, false, []⟩) (.hs hp.next 0 0) 2 [] (fds L)) 0 = some ⟨6, false, [rowH ⟨m, s, a, p⟩]⟩ := by
                              refine (gah_get (fun e => ?_) (by rw [hnew_next]; omega)).trans ((hget_old (by omega)).trans hg)
                              have : hp.next = 0 := by injection e
                              omega
                            have hlim2 : (gah (hnew hp ⟨2, false, []⟩) (.hs hp.next 0 0) 2 [] (fds L)).lim ≤ 0 := by rw [gah_lim]; exact hlim
                            rw [List.nil_append] at hO2
                            have hwl := hO2.lp
                            have hwc := hO2.cells
                            have hwk := hO2.keep
                            clear hOw hg
                            generalize gav (hnew hp ⟨2, false, []⟩) (.hs hp.next 0 0) ([] : List (List V)).length (fds L).length = w at *
                            generalize gah (hnew hp ⟨2, false, []⟩) (.hs hp.next 0 0) 2 [] (fds L) = hp2 at *
                            have hO3 : ∀ b c, Ow (hset (hset hp2 0 b) 0 c) w 2 (fds L) := fun b c => hO2.get (Nat.le_refl _) rfl fun id h => by
                              have := hid id h
                              rw [hget_other (by omega), hget_other (by omega)]
                            obtain ⟨hq, hcl⟩ := closeCs_rqO L m s a p n (hO3 _ _) rfl (by omega)
                            repeat' (first | refine EvQ.run ?_ | (refine EvQ.pickB rfl rfl rfl ?_) | (refine EvQ.cond rfl (fun h => ?_) (fun h => ?_) <;> ((first | replace h := X.nm h | skip); try have hne := ne_len h)) | (refine EvQ.g1 rfl (fun h => ?_) (fun h => ?_) <;> ((first | replace h := X.nm h | skip); try have hne := ne_len h)) | (refine EvQ.pick rfl (fun _ => rfl) (fun _ => rfl) (fun h => ?_) (fun h => ?_) <;> ((first | replace h := X.nm h | skip); try have hne := ne_len h)) | refine EvQ.fin X.rs ?_ | refine EvQ.fin1 (fun _ => rfl) rfl ?_)
                            exact PQ.of (.g hcl (.s (clo_bo _) (.nil _)))
                          | false =>
                            refine EvQ.run ?_
                            generalize beqL p [42] = b42 at *
                            cases b42 with
                            | false =>
                              have e : Z = none := by rw [hZ]; first | rfl | (simp; done) | (simp [beqLD]; done)
                              rw [e]
                              repeat' (first | refine EvQ.run ?_ | (refine EvQ.pickB rfl rfl rfl ?_) | (refine EvQ.cond rfl (fun h => ?_) (fun h => ?_) <;> ((first | replace h := X.nm h | skip); try have hne := ne_len h)) | (refine EvQ.g1 rfl (fun h => ?_) (fun h => ?_) <;> ((first | replace h := X.nm h | skip); try have hne := ne_len h)) | (refine EvQ.pick rfl (fun _ => rfl) (fun _ => rfl) (fun h => ?_) (fun h => ?_) <;> ((first | replace h := X.nm h | skip); try have hne := ne_len h)) | refine EvQ.fin X.rs ?_ | refine EvQ.fin1 (fun _ => rfl) rfl ?_)
                              exact PQ.of (.gs2 zRow_clo (.s (clo_bo _) (.nil _)))
                            | true =>
                              refine EvQ.run ?_
                              generalize beqL m [79, 80, 84, 73, 79, 78, 83] = bO at *
                              cases bO with
                              | false =>
                                have e : Z = none := by rw [hZ]; first | rfl | (simp; done) | (simp [beqLD]; done)
                                rw [e]
                                repeat' (first | refine EvQ.run ?_ | (refine EvQ.pickB rfl rfl rfl ?_) | (refine EvQ.cond rfl (fun h => ?_) (fun h => ?_) <;> ((first | replace h := X.nm h | skip); try have hne := ne_len h)) | (refine EvQ.g1 rfl (fun h => ?_) (fun h => ?_) <;> ((first | replace h := X.nm h | skip); try have hne := ne_len h)) | (refine EvQ.pick rfl (fun _ => rfl) (fun _ => rfl) (fun h => ?_) (fun h => ?_) <;> ((first | replace h := X.nm h | skip); try have hne := ne_len h)) | refine EvQ.fin X.rs ?_ | refine EvQ.fin1 (fun _ => rfl) rfl ?_)
                                exact PQ.of (.gs2 zRow_clo (.s (clo_bo _) (.nil _)))
                              | true =>
                                have e : Z = some (⟨m, s, a, p⟩, L, n) := by rw [hZ]; rfl
                                rw [e]
                                refine EvQ.run ?_
                                have hOw : Ow (hnew hp ⟨2, false, []⟩) (.hs hp.next 0 0) 2 [] := Ow.mk0 (rows := []) (by omega)
                                refine EvQ.lift (fun R n => X.apg (v := .hs hp.next 0 0) (vy := .vs 2 (fds L)) (rows := []) (new := fds L) (by rw [hnx]; rfl) rfl hOw (Els.vs _) (fun _ => rfl) (by rw [fds_length]; simp; omega) n) ?_
                                have hO2 := hOw.gput (new := fds L) (by rw [hnew_lim, hnew_next]; omega)
                                have hid : ∀ id, idOf (gav (hnew hp ⟨2, false, []⟩) (.hs hp.next 0 0) ([] : List (List V)).length (fds L).length) = some id → 2 ≤ id := fun id h => by
                                  have e : gav (hnew hp ⟨2, false, []⟩) (.hs hp.next 0 0) ([] : List (List V)).length (fds L).length = .hs (hp.next + 1) 0 (([] : List (List V)).length + (fds L).length) := rfl
                                  rw [e] at h; cases h; omega
                                have hg2 : hget (gah (hnew hp ⟨2, false, []⟩) (.hs hp.next 0 0) 2 [] (fds L)) 0 = some ⟨6, false, [rowH ⟨m, s, a, p⟩]⟩ := by
                                  refine (gah_get (fun e => ?_) (by rw [hnew_next]; omega)).trans ((hget_old (by omega)).trans hg)
                                  have : hp.next = 0 := by injection e
                                  omega
                                have hlim2 : (gah (hnew hp ⟨2, false, []⟩) (.hs hp.next 0 0) 2 [] (fds L)).lim ≤ 0 := by rw [gah_lim]; exact hlim
                                rw [List.nil_append] at hO2
                                have hwl := hO2.lp
                                have hwc := hO2.cells
                                have hwk := hO2.keep
                                clear hOw hg
                                generalize gav (hnew hp ⟨2, false, []⟩) (.hs hp.next 0 0) ([] : List (List V)).length (fds L).length = w at *
                                generalize gah (hnew hp ⟨2, false, []⟩) (.hs hp.next 0 0) 2 [] (fds L) = hp2 at *
                                have hO3 : ∀ b c, Ow (hset (hset hp2 0 b) 0 c) w 2 (fds L) := fun b c => hO2.get (Nat.le_refl _) rfl fun id h => by
                                  have := hid id h
                                  rw [hget_other (by omega), hget_other (by omega)]
                                obtain ⟨hq, hcl⟩ := closeCs_rqO L m s a p n (hO3 _ _) rfl (by omega)
                                repeat' (first | refine EvQ.run ?_ | (refine EvQ.pickB rfl rfl rfl ?_) | (refine EvQ.cond rfl (fun h => ?_) (fun h => ?_) <;> ((first | replace h := X.nm h | skip); try have hne := ne_len h)) | (refine EvQ.g1 rfl (fun h => ?_) (fun h => ?_) <;> ((first | replace h := X.nm h | skip); try have hne := ne_len h)) | (refine EvQ.pick rfl (fun _ => rfl) (fun _ => rfl) (fun h => ?_) (fun h => ?_) <;> ((first | replace h := X.nm h | skip); try have hne := ne_len h)) | refine EvQ.fin X.rs ?_ | refine EvQ.fin1 (fun _ => rfl) rfl ?_)
                                exact PQ.of (.g hcl (.s (clo_bo _) (.nil _)))
    · rw [hreq0 hs]
      repeat' (first | refine EvQ.run ?_ | (refine EvQ.pickB rfl rfl rfl ?_) | (refine EvQ.cond rfl (fun h => ?_) (fun h => ?_) <;> ((first | replace h := X.nm h | skip); try have hne := ne_len h)) | (refine EvQ.g1 rfl (fun h => ?_) (fun h => ?_) <;> ((first | replace h := X.nm h | skip); try have hne := ne_len h)) | (refine EvQ.pick rfl (fun _ => rfl) (fun _ => rfl) (fun h => ?_) (fun h => ?_) <;> ((first | replace h := X.nm h | skip); try have hne := ne_len h)) | refine EvQ.fin X.rs ?_ | refine EvQ.fin1 (fun _ => rfl) rfl ?_)
      exact PQ.of (.gs2 zRow_clo (.s (clo_bo _) (.nil _)))
end Go.Proofs.Ytcbiplmgaiipgaa
