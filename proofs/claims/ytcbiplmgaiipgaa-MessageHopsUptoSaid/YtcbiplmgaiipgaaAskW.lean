import Derived.Test.YtcbiplmgaiipgaaEvE
import Derived.Test.YtcbiplmgaiipgaaEvE
import Derived.Test.YtcbiplmgaiipgaaAskM
set_option linter.unusedVariables false
set_option linter.unusedSimpArgs false
-- merge.Ask
namespace Go.Proofs.Ytcbiplmgaiipgaa
open Go hiding Fn
open Ev tab
attribute [local irreducible] EvD EvL EvC evGds evLs C.run sK bK gK pK fK lpB stepD

theorem shed_eq {drop : List Nat} {lo LS : Lo} (h : ∀ t, (hasN drop t = true → LS t = none) ∧ (hasN drop t = false → lo t = LS t)) : shed drop lo = LS := by
  funext t
  unfold shed
  cases hh : hasN drop t with
  | true => exact ((h t).1 hh).symm
  | false => exact (h t).2 hh
theorem hasN2 {a b t : Nat} (h : hasN [a, b] t = true) : t = a ∨ t = b := by
  have e : hasN [a, b] t = (bif Nat.beq a t then true else bif Nat.beq b t then true else false) := rfl
  rw [e, beqD, beqD] at h
  by_cases q : a = t
  · exact .inl q.symm
  · by_cases r : b = t
    · exact .inr r.symm
    · rw [decide_eq_false q, decide_eq_false r] at h; cases h
theorem lset_ne {lo : Lo} {d j : Nat} {cs : List V} (h : j ≠ d) : lset lo d cs j = lo j := by
  unfold lset; rw [beqD, decide_eq_false h]; rfl
def askP (a b : Bool) (f : Fld) : Bool := (!a && !b) || !condB f.1
def askL (a b : Option (List Nat)) (l : List Fld) : List Fld := l.filter (askP a.isSome b.isSome) ++ (if a.isSome then [(sInm, a.getD [])] else []) ++ (if b.isSome then [(sSince, b.getD [])] else [])
theorem filter_getD {p : Fld → Bool} {l : List Fld} {i : Nat} (h : i < l.length) : (l.take (i + 1)).filter p = if p (l.getD i f0) then (l.take i).filter p ++ [l.getD i f0] else (l.take i).filter p := by
  rw [take_getD h f0, List.filter_append]
  cases hp : p (l.getD i f0) with
  | true => rw [List.filter_cons_of_pos (by exact hp)]; rfl
  | false => rw [List.filter_cons_of_neg (by rw [hp]; exact Bool.noConfusion)]; simp
def LSa (q : Rq) : Lo := lset (lset (fun _ => none) 3 (rowRq q)) 4 [.st [], .st [], .st [], .st [], .ns, .it .i64 0]
set_option maxHeartbeats 16000000 in
theorem ask_loop (q : Rq) (tg ch : List Nat) (a b : Bool) (hl : q.fs.length ≤ 10000000) (lo : Lo) (hlo : shed [2, 12] lo = LSa q) (tm : Tm) (hk : [3, 4, 6, 7, 8, 9, 10, 28, 29, 30].map (fun x => (x, tm x)) = [(3, .lp 3 0), (4, .lp 4 0), (6, .st tg), (7, .bo a), (8, .st ch), (9, .bo b), (10, .ns), (28, .vs 2 (fds q.fs)), (29, .it .i64 (Int.ofNat q.fs.length)), (30, .it .i64 (Int.ofNat 0))]) :
    ∃ r, EvL F [3, 4, 6, 7, 8, 9, 10, 28, 29, 30] [2, 12] (lpB (d45.body.lps.getD 0 .skip)) ⟨tm, lo, h0⟩ r ∧ ∃ v, XtQ 0 [(3, .lp 3 0), (4, .lp 4 0), (6, .st tg), (7, .bo a), (8, .st ch), (9, .bo b), (10, v)] (fun lo hp => lo = LSa q ∧ Ow hp v 2 (fds (q.fs.filter (askP a b))) ∧ hp.lim ≤ hp.next) r := by
  refine EvL.invQ (S := Nat × V) (fun x => [(3, .lp 3 0), (4, .lp 4 0), (6, .st tg), (7, .bo a), (8, .st ch), (9, .bo b), (10, x.2), (28, .vs 2 (fds q.fs)), (29, .it .i64 (Int.ofNat q.fs.length)), (30, .it .i64 (Int.ofNat x.1))])
    (fun x lo hp => shed [2, 12] lo = LSa q ∧ x.1 ≤ q.fs.length ∧ Ow hp x.2 2 (fds ((q.fs.take x.1).filter (askP a b))) ∧ hp.lim ≤ hp.next) (fun x => q.fs.length - x.1) _ ?_ (0, .ns) tm lo h0 ⟨hlo, Nat.zero_le _, .ns, Nat.le_refl _⟩ hk
  intro ⟨i, v⟩ lo hp ⟨e1, e2, hO, hlim⟩
  simp only at e2 hO
  rw [e1]
  have hel := hO.lp
  have hc := cond_ok (q.fs.getD i f0).1
  have hf := fun h : i < q.fs.length => filter_getD (p := askP a b) h
  have hn : ((q.fs.take i).filter (askP a b)).length ≤ 10000000 := by
    have := List.length_filter_le (askP a b) (q.fs.take i)
    rw [List.length_take] at this; omega
  have hsh : ∀ r1 r2, shed [2, 12] (lset (lset (LSa q) 12 r1) 12 r2) = LSa q := fun r1 r2 => shed_eq fun t => ⟨fun h => by rcases hasN2 h with rfl | rfl <;> rfl, fun h => by
    have : t ≠ 12 := fun e => by subst e; cases h
    rw [lset_ne this, lset_ne this]⟩
  repeat' (first | refine EvQ.run ?_ | refine EvQ.lift (fun _ zn => X.pcall (hc) X.cq rfl X.al rfl zn) ?_ | refine EvQ.lift (fun _ zn => X.pcallG (hc) rfl X.cq rfl X.al rfl zn) ?_ | refine EvQ.lift (fun _ zn => X.pcallC (hc) rfl X.cq rfl X.al rfl zn) ?_ | refine EvQ.lift (fun _ zn => X.pcallT (hc) (by decide) X.cq rfl X.al rfl zn) ?_ | refine EvQ.lift (fun _ zn => X.call rfl X.al (hc) zn) ?_ | (refine EvQ.pickB rfl rfl rfl ?_) | (refine EvQ.cond rfl (fun h => ?_) (fun h => ?_) <;> ((first | replace h := X.nm h | skip); try have hne := ne_len h)) | (refine EvQ.g1 rfl (fun h => ?_) (fun h => ?_) <;> ((first | replace h := X.nm h | skip); try have hne := ne_len h)) | (refine EvQ.pick rfl (fun _ => rfl) (fun _ => rfl) (fun h => ?_) (fun h => ?_) <;> ((first | replace h := X.nm h | skip); try have hne := ne_len h)) | refine EvQ.fin X.rs ?_ | refine EvQ.fin1 (fun _ => rfl) rfl ?_)
  all_goals first
    | (refine EvQ.go (i + 1, _) X.kv ⟨hsh _ _, by show i + 1 ≤ _; omega, ?_, by rw [oah_lim, oah_next]; omega⟩ (by show q.fs.length - (i + 1) < q.fs.length - i; omega)
       show Ow _ _ 2 (fds ((q.fs.take (i + 1)).filter (askP a b)))
       rw [hf (by assumption), if_pos (by (clear hf; generalize q.fs.getD i f0 = f at *; unfold askP; simp [*])), ← fds_append]
       exact hO.put hlim)
    | (refine EvQ.go (i + 1, v) X.kv ⟨hsh _ _, by show i + 1 ≤ _; omega, ?_, hlim⟩ (by show q.fs.length - (i + 1) < q.fs.length - i; omega)
       show Ow _ _ 2 (fds ((q.fs.take (i + 1)).filter (askP a b)))
       rw [hf (by assumption), if_neg (by (clear hf; generalize q.fs.getD i f0 = f at *; unfold askP; simp [*]))]
       exact hO)
    | (refine EvQ.xt ⟨v, XtQ.mk' X.kv ⟨rfl, ?_, hlim⟩⟩
       rw [List.take_of_length_le (by omega)] at hO
       exact hO)
    | trace_state
theorem askL_len (a b : Option (List Nat)) (l : List Fld) : (askL a b l).length ≤ l.length + 2 := by
  unfold askL
  have := List.length_filter_le (askP a.isSome b.isSome) l
  simp only [List.length_append]
  split <;> split <;> simp <;> omega
def withF2 (q : Rq) (l : List Fld) : Rq := { q with fs := l }
set_option maxHeartbeats 16000000 in
theorem ask_ok (e : En) (q : Rq) (h1 : JOK e.s.fs) (hl : q.fs.length ≤ 1000000) : EvP F 45 c45 [.ag (rowEn e), .ag (rowRq q)]
    [.ag (rowRq (withF2 q (askL (onlyF e.s.fs sEtag) (onlyF e.s.fs sLast) q.fs))), .bo ((onlyF e.s.fs sEtag).isSome || (onlyF e.s.fs sLast).isSome)] := by
  have o1 := only_ok e.s.fs sEtag h1
  have o2 := only_ok e.s.fs sLast h1
  have hfl := List.length_filter_le (askP (onlyF e.s.fs sEtag).isSome (onlyF e.s.fs sLast).isSome) q.fs
  refine EvP.ofQ d45 rfl rfl rfl ?_
  have hLn := askL_len (onlyF e.s.fs sEtag) (onlyF e.s.fs sLast) q.fs
  generalize hL : askL (onlyF e.s.fs sEtag) (onlyF e.s.fs sLast) q.fs = L at *
  unfold askL at hL
  generalize onlyF e.s.fs sEtag = ta at *
  generalize onlyF e.s.fs sLast = tb at *
  repeat' (first | refine EvQ.run ?_ | refine EvQ.lift (fun _ zn => X.pcall (o1) X.cq rfl X.al rfl zn) ?_ | refine EvQ.lift (fun _ zn => X.pcallG (o1) rfl X.cq rfl X.al rfl zn) ?_ | refine EvQ.lift (fun _ zn => X.pcallC (o1) rfl X.cq rfl X.al rfl zn) ?_ | refine EvQ.lift (fun _ zn => X.pcallT (o1) (by decide) X.cq rfl X.al rfl zn) ?_ | refine EvQ.lift (fun _ zn => X.call rfl X.al (o1) zn) ?_ | refine EvQ.lift (fun _ zn => X.pcall (o2) X.cq rfl X.al rfl zn) ?_ | refine EvQ.lift (fun _ zn => X.pcallG (o2) rfl X.cq rfl X.al rfl zn) ?_ | refine EvQ.lift (fun _ zn => X.pcallC (o2) rfl X.cq rfl X.al rfl zn) ?_ | refine EvQ.lift (fun _ zn => X.pcallT (o2) (by decide) X.cq rfl X.al rfl zn) ?_ | refine EvQ.lift (fun _ zn => X.call rfl X.al (o2) zn) ?_ | (refine EvQ.pickB rfl rfl rfl ?_) | (refine EvQ.cond rfl (fun h => ?_) (fun h => ?_) <;> ((first | replace h := X.nm h | skip); try have hne := ne_len h)) | (refine EvQ.g1 rfl (fun h => ?_) (fun h => ?_) <;> ((first | replace h := X.nm h | skip); try have hne := ne_len h)) | (refine EvQ.pick rfl (fun _ => rfl) (fun _ => rfl) (fun h => ?_) (fun h => ?_) <;> ((first | replace h := X.nm h | skip); try have hne := ne_len h)) | refine EvQ.fin X.rs ?_ | refine EvQ.fin1 (fun _ => rfl) rfl ?_)
  refine EvQ.loop (ask_loop q (ta.getD []) (tb.getD []) ta.isSome tb.isSome (by omega) _ ?_ _ X.kv) ?_
  · exact shed_eq fun t => ⟨fun h => by rcases hasN2 h with rfl | rfl <;> rfl, fun h => by
      have h2 : t ≠ 2 := fun e => by subst e; cases h
      unfold LSa
      by_cases h4 : t = 4
      · subst h4; rfl
      · rw [lset_ne h4, lset_ne h4]
        by_cases h3 : t = 3
        · subst h3; rfl
        · rw [lset_ne h3, lset_ne h3, lset_ne h2]⟩
  · rintro _ ⟨v, tm, lo, hp, rfl, rfl, hO, hlim⟩
    generalize q.fs.filter (askP ta.isSome tb.isSome) = R at *
    have hO1 := hO.put (new := fds [(sInm, ta.getD [])]) hlim
    have hl1 : ∀ rows, (oah hp v 2 rows).lim ≤ (oah hp v 2 rows).next := fun rows => by rw [oah_lim, oah_next]; omega
    have hel := hO.lp
    have hR : (fds R).length ≤ 1000000 := by rw [fds_length]; omega
    have hR' : R.length ≤ 1000000 := by omega
    cases ta with
    | none =>
      cases tb with
      | none =>
        have e : R = L := by rw [← hL]; simp
        subst e
        obtain ⟨hq, hcl⟩ := closeCs_rqO R q.m q.s q.a q.p q.n hO rfl (by omega)
        clear hO1
        rcases hO with ⟨rfl, hr⟩ | ⟨id, rfl, q1, q2, q3⟩
        · repeat' (first | refine EvQ.run ?_ | (refine EvQ.pickB rfl rfl rfl ?_) | (refine EvQ.cond rfl (fun h => ?_) (fun h => ?_) <;> ((first | replace h := X.nm h | skip); try have hne := ne_len h)) | (refine EvQ.g1 rfl (fun h => ?_) (fun h => ?_) <;> ((first | replace h := X.nm h | skip); try have hne := ne_len h)) | (refine EvQ.pick rfl (fun _ => rfl) (fun _ => rfl) (fun h => ?_) (fun h => ?_) <;> ((first | replace h := X.nm h | skip); try have hne := ne_len h)) | refine EvQ.fin X.rs ?_ | refine EvQ.fin1 (fun _ => rfl) rfl ?_)
          exact PQ.of (.g hcl (.s (clo_bo _) (.nil _)))
        · repeat' (first | refine EvQ.run ?_ | (refine EvQ.pickB rfl rfl rfl ?_) | (refine EvQ.cond rfl (fun h => ?_) (fun h => ?_) <;> ((first | replace h := X.nm h | skip); try have hne := ne_len h)) | (refine EvQ.g1 rfl (fun h => ?_) (fun h => ?_) <;> ((first | replace h := X.nm h | skip); try have hne := ne_len h)) | (refine EvQ.pick rfl (fun _ => rfl) (fun _ => rfl) (fun h => ?_) (fun h => ?_) <;> ((first | replace h := X.nm h | skip); try have hne := ne_len h)) | refine EvQ.fin X.rs ?_ | refine EvQ.fin1 (fun _ => rfl) rfl ?_)
          exact PQ.of (.g hcl (.s (clo_bo _) (.nil _)))
      | some y =>
        have e : R ++ [(sSince, y)] = L := by rw [← hL]; simp
        subst e
        have hO2 := hO.put (new := fds [(sSince, y)]) hlim
        obtain ⟨hq, hcl⟩ := closeCs_rqO (R ++ [(sSince, y)]) q.m q.s q.a q.p q.n hO2 (fds_append _ _) (by rw [List.length_append]; simp; omega)
        clear hO1 hO2
        repeat' (first | refine EvQ.run ?_ | (refine EvQ.pickB rfl rfl rfl ?_) | (refine EvQ.cond rfl (fun h => ?_) (fun h => ?_) <;> ((first | replace h := X.nm h | skip); try have hne := ne_len h)) | (refine EvQ.g1 rfl (fun h => ?_) (fun h => ?_) <;> ((first | replace h := X.nm h | skip); try have hne := ne_len h)) | (refine EvQ.pick rfl (fun _ => rfl) (fun _ => rfl) (fun h => ?_) (fun h => ?_) <;> ((first | replace h := X.nm h | skip); try have hne := ne_len h)) | refine EvQ.fin X.rs ?_ | refine EvQ.fin1 (fun _ => rfl) rfl ?_)
        exact PQ.of (.g hcl (.s (clo_bo _) (.nil _)))
    | some x =>
      cases tb with
      | none =>
        have e : R ++ [(sInm, x)] = L := by rw [← hL]; simp
        subst e
        have hO2 := hO.put (new := fds [(sInm, x)]) hlim
        obtain ⟨hq, hcl⟩ := closeCs_rqO (R ++ [(sInm, x)]) q.m q.s q.a q.p q.n hO2 (fds_append _ _) (by rw [List.length_append]; simp; omega)
        clear hO1 hO2
        repeat' (first | refine EvQ.run ?_ | (refine EvQ.pickB rfl rfl rfl ?_) | (refine EvQ.cond rfl (fun h => ?_) (fun h => ?_) <;> ((first | replace h := X.nm h | skip); try have hne := ne_len h)) | (refine EvQ.g1 rfl (fun h => ?_) (fun h => ?_) <;> ((first | replace h := X.nm h | skip); try have hne := ne_len h)) | (refine EvQ.pick rfl (fun _ => rfl) (fun _ => rfl) (fun h => ?_) (fun h => ?_) <;> ((first | replace h := X.nm h | skip); try have hne := ne_len h)) | refine EvQ.fin X.rs ?_ | refine EvQ.fin1 (fun _ => rfl) rfl ?_)
        exact PQ.of (.g hcl (.s (clo_bo _) (.nil _)))
      | some y =>
        have e : R ++ [(sInm, x)] ++ [(sSince, y)] = L := by rw [← hL]; simp
        subst e
        have hO1 := hO.put (new := fds [(sInm, x)]) hlim
        have hO2 := hO1.put (new := fds [(sSince, y)]) (hl1 _)
        obtain ⟨hq, hcl⟩ := closeCs_rqO (R ++ [(sInm, x)] ++ [(sSince, y)]) q.m q.s q.a q.p q.n hO2 (by rw [fds_append, fds_append]) (by rw [List.length_append, List.length_append]; simp; omega)
        repeat' (first | refine EvQ.run ?_ | (refine EvQ.pickB rfl rfl rfl ?_) | (refine EvQ.cond rfl (fun h => ?_) (fun h => ?_) <;> ((first | replace h := X.nm h | skip); try have hne := ne_len h)) | (refine EvQ.g1 rfl (fun h => ?_) (fun h => ?_) <;> ((first | replace h := X.nm h | skip); try have hne := ne_len h)) | (refine EvQ.pick rfl (fun _ => rfl) (fun _ => rfl) (fun h => ?_) (fun h => ?_) <;> ((first | replace h := X.nm h | skip); try have hne := ne_len h)) | refine EvQ.fin X.rs ?_ | refine EvQ.fin1 (fun _ => rfl) rfl ?_)
        exact PQ.of (.g hcl (.s (clo_bo _) (.nil _)))
end Go.Proofs.Ytcbiplmgaiipgaa
