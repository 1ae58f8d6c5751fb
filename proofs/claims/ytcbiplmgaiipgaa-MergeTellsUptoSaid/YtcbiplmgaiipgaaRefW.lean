import Derived.Test.YtcbiplmgaiipgaaEvE
import Derived.Test.YtcbiplmgaiipgaaEvE
import Derived.Test.YtcbiplmgaiipgaaRefM
set_option linter.unusedVariables false
set_option linter.unusedSimpArgs false
-- the document's own Ask and Merge
namespace Go.Proofs.Ytcbiplmgaiipgaa
open Go hiding Fn
open Ev tab
attribute [local irreducible] EvD EvL EvC evGds evLs C.run sK bK gK pK fK lpB stepD
def condN (f : Fld) : Bool := !condB f.1
def zRq : List V := [.st [], .st [], .st [], .st [], .ns, .it .i64 0]
def LSk (q : Rq) : Lo := lset (lset (fun _ => none) 3 (rowRq q)) 4 zRq
set_option maxHeartbeats 16000000 in
theorem rask_loop (q : Rq) (tg ch : List Nat) (a b : Bool) (hl : q.fs.length ≤ 1000000) (lo : Lo) (hlo : shed [2] lo = LSk q) (tm : Tm) (hk : [3, 4, 6, 7, 8, 9, 10, 11].map (fun x => (x, tm x)) = [(3, .lp 3 0), (4, .lp 4 0), (6, .st tg), (7, .bo a), (8, .st ch), (9, .bo b), (10, .ns), (11, .it .i64 (Int.ofNat 0))]) :
    ∃ r, EvL F [3, 4, 6, 7, 8, 9, 10, 11] [2] (lpB (d53.body.lps.getD 0 .skip)) ⟨tm, lo, h0⟩ r ∧ ∃ v, XtQ 0 [(3, .lp 3 0), (4, .lp 4 0), (6, .st tg), (7, .bo a), (8, .st ch), (9, .bo b), (10, v)] (fun lo hp => lo = LSk q ∧ Nw h0 hp v (fds (q.fs.filter condN))) r := by
  refine EvL.invQ (S := Nat × V) (fun x => [(3, .lp 3 0), (4, .lp 4 0), (6, .st tg), (7, .bo a), (8, .st ch), (9, .bo b), (10, x.2), (11, .it .i64 (Int.ofNat x.1))])
    (fun x lo hp => shed [2] lo = LSk q ∧ x.1 ≤ q.fs.length ∧ Nw h0 hp x.2 (fds ((q.fs.take x.1).filter condN))) (fun x => q.fs.length - x.1) _ ?_ (0, .ns) tm lo h0 ⟨hlo, Nat.zero_le _, .ns⟩ hk
  intro ⟨i, v⟩ lo hp ⟨e1, e2, hN⟩
  simp only at e2 hN
  rw [e1]
  have hO := hN.o
  have hel := hO.lp
  have hlm : hp.lim ≤ hp.next := by rw [hN.u.lim]; exact Nat.zero_le _
  have hfd := fun h : i < q.fs.length => filter_getD (p := condN) h
  have hn : ((q.fs.take i).filter condN).length ≤ 1000000 := by
    have := List.length_filter_le condN (q.fs.take i)
    rw [List.length_take] at this; omega
  have hsh : shed [2] (LSk q) = LSk q := shed_eq fun t => ⟨fun h => by rw [hasN1 h]; rfl, fun _ => rfl⟩
  have hcd : ∀ f : Fld, condN f = true ↔ f.1 ∉ conds := fun f => by unfold condN condB; simp
  repeat' (first | refine EvQ.run ?_ | (refine EvQ.pickB rfl rfl rfl ?_) | (refine EvQ.cond rfl (fun h => ?_) (fun h => ?_) <;> ((first | replace h := X.nm h | skip); try have hne := ne_len h)) | (refine EvQ.g1 rfl (fun h => ?_) (fun h => ?_) <;> ((first | replace h := X.nm h | skip); try have hne := ne_len h)) | (refine EvQ.pick rfl (fun _ => rfl) (fun _ => rfl) (fun h => ?_) (fun h => ?_) <;> ((first | replace h := X.nm h | skip); try have hne := ne_len h)) | refine EvQ.fin X.rs ?_ | refine EvQ.fin1 (fun _ => rfl) rfl ?_)
  all_goals first
    | (refine EvQ.go (i + 1, _) X.kv ⟨hsh, by show i + 1 ≤ _; omega, ?_⟩ (by show q.fs.length - (i + 1) < q.fs.length - i; omega)
       show Nw _ _ _ (fds ((q.fs.take (i + 1)).filter condN))
       rw [hfd (by assumption), if_pos (by (rw [hcd]; clear hfd hcd; generalize q.fs.getD i f0 = f at *; unfold conds; simp [*]; done)), ← fds_append]
       exact hN.put (Nat.le_refl _))
    | (refine EvQ.go (i + 1, v) X.kv ⟨hsh, by show i + 1 ≤ _; omega, ?_⟩ (by show q.fs.length - (i + 1) < q.fs.length - i; omega)
       show Nw _ _ _ (fds ((q.fs.take (i + 1)).filter condN))
       rw [hfd (by assumption), if_neg (by (rw [hcd]; clear hfd hcd; generalize q.fs.getD i f0 = f at *; unfold conds; simp [*]; done))]
       exact hN)
    | (refine EvQ.xt ⟨v, XtQ.mk' X.kv ⟨rfl, ?_⟩⟩
       rw [List.take_of_length_le (by omega)] at hN
       exact hN)
    | trace_state
set_option maxHeartbeats 16000000 in
theorem rask_ok (e : En) (q : Rq) (h1 : JOK e.s.fs) (hl : q.fs.length ≤ 1000000) : EvP F 53 c53 [.ag (rowEn e), .ag (rowRq q)]
    [.ag (rowRq (withF2 q (askL (onlyF e.s.fs sEtag) (onlyF e.s.fs sLast) q.fs))), .bo ((onlyF e.s.fs sEtag).isSome || (onlyF e.s.fs sLast).isSome)] := by
  have o1 := one85_ok e.s.fs sEtag h1
  have o2 := one85_ok e.s.fs sLast h1
  have hfl := List.length_filter_le condN q.fs
  refine EvP.ofQ d53 rfl rfl rfl ?_
  have hon : ∀ l n, onlyF l n = if (valsF l n).length = 1 then some (allF l n) else none := fun _ _ => rfl
  have hLn := askL_len (onlyF e.s.fs sEtag) (onlyF e.s.fs sLast) q.fs
  generalize hL : askL (onlyF e.s.fs sEtag) (onlyF e.s.fs sLast) q.fs = L at *
  rw [hon, hon] at hL
  rw [hon, hon]
  clear hon
  unfold askL at hL
  generalize allF e.s.fs sEtag = tg at *
  generalize allF e.s.fs sLast = ch at *
  generalize (valsF e.s.fs sEtag).length = n1 at *
  generalize (valsF e.s.fs sLast).length = n2 at *
  have hfc : ∀ a b, (a || b) = true → q.fs.filter (askP a b) = q.fs.filter condN := fun a b h => by
    congr 1; funext f
    unfold askP condN
    cases a <;> cases b <;> simp at h ⊢
  by_cases q1 : n1 = 1 <;> by_cases q2 : n2 = 1
  all_goals
    simp only [q1, q2, if_true, if_false, Option.isSome_some, Option.isSome_none, Option.getD_some, Option.getD_none, decide_true, decide_false] at hL o1 o2 ⊢
  · rw [hfc true true rfl] at hL
    repeat' (first | refine EvQ.run ?_ | refine EvQ.lift (fun _ zn => X.pcall (o1) X.cq rfl X.al rfl zn) ?_ | refine EvQ.lift (fun _ zn => X.pcallG (o1) rfl X.cq rfl X.al rfl zn) ?_ | refine EvQ.lift (fun _ zn => X.pcallC (o1) rfl X.cq rfl X.al rfl zn) ?_ | refine EvQ.lift (fun _ zn => X.pcallT (o1) (by decide) X.cq rfl X.al rfl zn) ?_ | refine EvQ.lift (fun _ zn => X.call rfl X.al (o1) zn) ?_ | refine EvQ.lift (fun _ zn => X.pcall (o2) X.cq rfl X.al rfl zn) ?_ | refine EvQ.lift (fun _ zn => X.pcallG (o2) rfl X.cq rfl X.al rfl zn) ?_ | refine EvQ.lift (fun _ zn => X.pcallC (o2) rfl X.cq rfl X.al rfl zn) ?_ | refine EvQ.lift (fun _ zn => X.pcallT (o2) (by decide) X.cq rfl X.al rfl zn) ?_ | refine EvQ.lift (fun _ zn => X.call rfl X.al (o2) zn) ?_ | (refine EvQ.pickB rfl rfl rfl ?_) | (refine EvQ.cond rfl (fun h => ?_) (fun h => ?_) <;> ((first | replace h := X.nm h | skip); try have hne := ne_len h)) | (refine EvQ.g1 rfl (fun h => ?_) (fun h => ?_) <;> ((first | replace h := X.nm h | skip); try have hne := ne_len h)) | (refine EvQ.pick rfl (fun _ => rfl) (fun _ => rfl) (fun h => ?_) (fun h => ?_) <;> ((first | replace h := X.nm h | skip); try have hne := ne_len h)) | refine EvQ.fin X.rs ?_ | refine EvQ.fin1 (fun _ => rfl) rfl ?_)
    refine EvQ.loop (rask_loop q tg ch true true (by omega) _ ?_ _ X.kv) ?_
    · exact shed_eq fun t => ⟨fun h => by rw [hasN1 h]; rfl, fun h => by
        have h2 : t ≠ 2 := fun e => by subst e; cases h
        unfold LSk
        by_cases h4 : t = 4
        · subst h4; rfl
        · rw [lset_ne h4, lset_ne h4]
          by_cases h3 : t = 3
          · subst h3; rfl
          · rw [lset_ne h3, lset_ne h3, lset_ne h2]⟩
    rintro _ ⟨v, tm, lo, hp, rfl, rfl, hN⟩
    have hO := hN.o
    have hlim : hp.lim ≤ hp.next := by rw [hN.u.lim]; exact Nat.zero_le _
    generalize q.fs.filter condN = R at *
    have hl1 : ∀ rows, (oah hp v 2 rows).lim ≤ (oah hp v 2 rows).next := fun rows => by rw [oah_lim, oah_next]; omega
    have hel := hO.lp
    have hR : (fds R).length ≤ 1000000 := by rw [fds_length]; omega
    have hR' : R.length ≤ 1000000 := by omega
    have e : R ++ [(sInm, tg)] ++ [(sSince, ch)] = L := hL
    subst e
    have hO1 := hO.put (new := fds [(sInm, tg)]) hlim
    have hO2 := hO1.put (new := fds [(sSince, ch)]) (hl1 _)
    obtain ⟨hq, hcl⟩ := closeCs_rqO (R ++ [(sInm, tg)] ++ [(sSince, ch)]) q.m q.s q.a q.p q.n hO2 (by rw [fds_append, fds_append]) (by omega)
    repeat' (first | refine EvQ.run ?_ | (refine EvQ.pickB rfl rfl rfl ?_) | (refine EvQ.cond rfl (fun h => ?_) (fun h => ?_) <;> ((first | replace h := X.nm h | skip); try have hne := ne_len h)) | (refine EvQ.g1 rfl (fun h => ?_) (fun h => ?_) <;> ((first | replace h := X.nm h | skip); try have hne := ne_len h)) | (refine EvQ.pick rfl (fun _ => rfl) (fun _ => rfl) (fun h => ?_) (fun h => ?_) <;> ((first | replace h := X.nm h | skip); try have hne := ne_len h)) | refine EvQ.fin X.rs ?_ | refine EvQ.fin1 (fun _ => rfl) rfl ?_)
    exact PQ.of (.g hcl (.s (clo_bo _) (.nil _)))
  · rw [hfc true false rfl] at hL
    repeat' (first | refine EvQ.run ?_ | refine EvQ.lift (fun _ zn => X.pcall (o1) X.cq rfl X.al rfl zn) ?_ | refine EvQ.lift (fun _ zn => X.pcallG (o1) rfl X.cq rfl X.al rfl zn) ?_ | refine EvQ.lift (fun _ zn => X.pcallC (o1) rfl X.cq rfl X.al rfl zn) ?_ | refine EvQ.lift (fun _ zn => X.pcallT (o1) (by decide) X.cq rfl X.al rfl zn) ?_ | refine EvQ.lift (fun _ zn => X.call rfl X.al (o1) zn) ?_ | refine EvQ.lift (fun _ zn => X.pcall (o2) X.cq rfl X.al rfl zn) ?_ | refine EvQ.lift (fun _ zn => X.pcallG (o2) rfl X.cq rfl X.al rfl zn) ?_ | refine EvQ.lift (fun _ zn => X.pcallC (o2) rfl X.cq rfl X.al rfl zn) ?_ | refine EvQ.lift (fun _ zn => X.pcallT (o2) (by decide) X.cq rfl X.al rfl zn) ?_ | refine EvQ.lift (fun _ zn => X.call rfl X.al (o2) zn) ?_ | (refine EvQ.pickB rfl rfl rfl ?_) | (refine EvQ.cond rfl (fun h => ?_) (fun h => ?_) <;> ((first | replace h := X.nm h | skip); try have hne := ne_len h)) | (refine EvQ.g1 rfl (fun h => ?_) (fun h => ?_) <;> ((first | replace h := X.nm h | skip); try have hne := ne_len h)) | (refine EvQ.pick rfl (fun _ => rfl) (fun _ => rfl) (fun h => ?_) (fun h => ?_) <;> ((first | replace h := X.nm h | skip); try have hne := ne_len h)) | refine EvQ.fin X.rs ?_ | refine EvQ.fin1 (fun _ => rfl) rfl ?_)
    refine EvQ.loop (rask_loop q tg ch true false (by omega) _ ?_ _ X.kv) ?_
    · exact shed_eq fun t => ⟨fun h => by rw [hasN1 h]; rfl, fun h => by
        have h2 : t ≠ 2 := fun e => by subst e; cases h
        unfold LSk
        by_cases h4 : t = 4
        · subst h4; rfl
        · rw [lset_ne h4, lset_ne h4]
          by_cases h3 : t = 3
          · subst h3; rfl
          · rw [lset_ne h3, lset_ne h3, lset_ne h2]⟩
    rintro _ ⟨v, tm, lo, hp, rfl, rfl, hN⟩
    have hO := hN.o
    have hlim : hp.lim ≤ hp.next := by rw [hN.u.lim]; exact Nat.zero_le _
    generalize q.fs.filter condN = R at *
    have hl1 : ∀ rows, (oah hp v 2 rows).lim ≤ (oah hp v 2 rows).next := fun rows => by rw [oah_lim, oah_next]; omega
    have hel := hO.lp
    have hR : (fds R).length ≤ 1000000 := by rw [fds_length]; omega
    have hR' : R.length ≤ 1000000 := by omega
    have e : R ++ [(sInm, tg)] = L := by rw [← hL]; simp
    subst e
    have hO2 := hO.put (new := fds [(sInm, tg)]) hlim
    obtain ⟨hq, hcl⟩ := closeCs_rqO (R ++ [(sInm, tg)]) q.m q.s q.a q.p q.n hO2 (fds_append _ _) (by omega)
    repeat' (first | refine EvQ.run ?_ | (refine EvQ.pickB rfl rfl rfl ?_) | (refine EvQ.cond rfl (fun h => ?_) (fun h => ?_) <;> ((first | replace h := X.nm h | skip); try have hne := ne_len h)) | (refine EvQ.g1 rfl (fun h => ?_) (fun h => ?_) <;> ((first | replace h := X.nm h | skip); try have hne := ne_len h)) | (refine EvQ.pick rfl (fun _ => rfl) (fun _ => rfl) (fun h => ?_) (fun h => ?_) <;> ((first | replace h := X.nm h | skip); try have hne := ne_len h)) | refine EvQ.fin X.rs ?_ | refine EvQ.fin1 (fun _ => rfl) rfl ?_)
    exact PQ.of (.g hcl (.s (clo_bo _) (.nil _)))
  · rw [hfc false true rfl] at hL
    repeat' (first | refine EvQ.run ?_ | refine EvQ.lift (fun _ zn => X.pcall (o1) X.cq rfl X.al rfl zn) ?_ | refine EvQ.lift (fun _ zn => X.pcallG (o1) rfl X.cq rfl X.al rfl zn) ?_ | refine EvQ.lift (fun _ zn => X.pcallC (o1) rfl X.cq rfl X.al rfl zn) ?_ | refine EvQ.lift (fun _ zn => X.pcallT (o1) (by decide) X.cq rfl X.al rfl zn) ?_ | refine EvQ.lift (fun _ zn => X.call rfl X.al (o1) zn) ?_ | refine EvQ.lift (fun _ zn => X.pcall (o2) X.cq rfl X.al rfl zn) ?_ | refine EvQ.lift (fun _ zn => X.pcallG (o2) rfl X.cq rfl X.al rfl zn) ?_ | refine EvQ.lift (fun _ zn => X.pcallC (o2) rfl X.cq rfl X.al rfl zn) ?_ | refine EvQ.lift (fun _ zn => X.pcallT (o2) (by decide) X.cq rfl X.al rfl zn) ?_ | refine EvQ.lift (fun _ zn => X.call rfl X.al (o2) zn) ?_ | (refine EvQ.pickB rfl rfl rfl ?_) | (refine EvQ.cond rfl (fun h => ?_) (fun h => ?_) <;> ((first | replace h := X.nm h | skip); try have hne := ne_len h)) | (refine EvQ.g1 rfl (fun h => ?_) (fun h => ?_) <;> ((first | replace h := X.nm h | skip); try have hne := ne_len h)) | (refine EvQ.pick rfl (fun _ => rfl) (fun _ => rfl) (fun h => ?_) (fun h => ?_) <;> ((first | replace h := X.nm h | skip); try have hne := ne_len h)) | refine EvQ.fin X.rs ?_ | refine EvQ.fin1 (fun _ => rfl) rfl ?_)
    refine EvQ.loop (rask_loop q tg ch false true (by omega) _ ?_ _ X.kv) ?_
    · exact shed_eq fun t => ⟨fun h => by rw [hasN1 h]; rfl, fun h => by
        have h2 : t ≠ 2 := fun e => by subst e; cases h
        unfold LSk
        by_cases h4 : t = 4
        · subst h4; rfl
        · rw [lset_ne h4, lset_ne h4]
          by_cases h3 : t = 3
          · subst h3; rfl
          · rw [lset_ne h3, lset_ne h3, lset_ne h2]⟩
    rintro _ ⟨v, tm, lo, hp, rfl, rfl, hN⟩
    have hO := hN.o
    have hlim : hp.lim ≤ hp.next := by rw [hN.u.lim]; exact Nat.zero_le _
    generalize q.fs.filter condN = R at *
    have hl1 : ∀ rows, (oah hp v 2 rows).lim ≤ (oah hp v 2 rows).next := fun rows => by rw [oah_lim, oah_next]; omega
    have hel := hO.lp
    have hR : (fds R).length ≤ 1000000 := by rw [fds_length]; omega
    have hR' : R.length ≤ 1000000 := by omega
    have e : R ++ [(sSince, ch)] = L := by rw [← hL]; simp
    subst e
    have hO2 := hO.put (new := fds [(sSince, ch)]) hlim
    obtain ⟨hq, hcl⟩ := closeCs_rqO (R ++ [(sSince, ch)]) q.m q.s q.a q.p q.n hO2 (fds_append _ _) (by omega)
    repeat' (first | refine EvQ.run ?_ | (refine EvQ.pickB rfl rfl rfl ?_) | (refine EvQ.cond rfl (fun h => ?_) (fun h => ?_) <;> ((first | replace h := X.nm h | skip); try have hne := ne_len h)) | (refine EvQ.g1 rfl (fun h => ?_) (fun h => ?_) <;> ((first | replace h := X.nm h | skip); try have hne := ne_len h)) | (refine EvQ.pick rfl (fun _ => rfl) (fun _ => rfl) (fun h => ?_) (fun h => ?_) <;> ((first | replace h := X.nm h | skip); try have hne := ne_len h)) | refine EvQ.fin X.rs ?_ | refine EvQ.fin1 (fun _ => rfl) rfl ?_)
    exact PQ.of (.g hcl (.s (clo_bo _) (.nil _)))
  · have e : q.fs = L := by
      rw [← hL]
      simp
      exact (List.filter_eq_self.2 fun f _ => rfl).symm
    subst e
    have hr := rowRq_clo q
    repeat' (first | refine EvQ.run ?_ | refine EvQ.lift (fun _ zn => X.pcall (o1) X.cq rfl X.al rfl zn) ?_ | refine EvQ.lift (fun _ zn => X.pcallG (o1) rfl X.cq rfl X.al rfl zn) ?_ | refine EvQ.lift (fun _ zn => X.pcallC (o1) rfl X.cq rfl X.al rfl zn) ?_ | refine EvQ.lift (fun _ zn => X.pcallT (o1) (by decide) X.cq rfl X.al rfl zn) ?_ | refine EvQ.lift (fun _ zn => X.call rfl X.al (o1) zn) ?_ | refine EvQ.lift (fun _ zn => X.pcall (o2) X.cq rfl X.al rfl zn) ?_ | refine EvQ.lift (fun _ zn => X.pcallG (o2) rfl X.cq rfl X.al rfl zn) ?_ | refine EvQ.lift (fun _ zn => X.pcallC (o2) rfl X.cq rfl X.al rfl zn) ?_ | refine EvQ.lift (fun _ zn => X.pcallT (o2) (by decide) X.cq rfl X.al rfl zn) ?_ | refine EvQ.lift (fun _ zn => X.call rfl X.al (o2) zn) ?_ | (refine EvQ.pickB rfl rfl rfl ?_) | (refine EvQ.cond rfl (fun h => ?_) (fun h => ?_) <;> ((first | replace h := X.nm h | skip); try have hne := ne_len h)) | (refine EvQ.g1 rfl (fun h => ?_) (fun h => ?_) <;> ((first | replace h := X.nm h | skip); try have hne := ne_len h)) | (refine EvQ.pick rfl (fun _ => rfl) (fun _ => rfl) (fun h => ?_) (fun h => ?_) <;> ((first | replace h := X.nm h | skip); try have hne := ne_len h)) | refine EvQ.fin X.rs ?_ | refine EvQ.fin1 (fun _ => rfl) rfl ?_)
    exact PQ.of (.gs hr (.s (clo_bo _) (.nil _)))
end Go.Proofs.Ytcbiplmgaiipgaa
