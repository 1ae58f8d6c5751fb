import Derived.Test.YtcbiplmgaiipgaaEvE
import Derived.Test.YtcbiplmgaiipgaaEvE
import Derived.Test.YtcbiplmgaiipgaaRenM
import Derived.Test.YtcbiplmgaiipgaaAskW
set_option linter.unusedVariables false
set_option linter.unusedSimpArgs false
-- merge.Renew
namespace Go.Proofs.Ytcbiplmgaiipgaa
open Go hiding Fn
open Ev tab
attribute [local irreducible] EvD EvL EvC evGds evLs C.run sK bK gK pK fK lpB stepD

theorem hasN1 {a t : Nat} (h : hasN [a] t = true) : t = a := by
  have e : hasN [a] t = (bif Nat.beq a t then true else false) := rfl
  rw [e, beqD] at h
  by_cases q : a = t
  · exact q.symm
  · rw [decide_eq_false q] at h; cases h
/-- fields that close without a change of the heap -/
structure Cl (v : V) (l : List Fld) : Prop where
  c : ∀ hp, closeC depth (.sl [.one, .one]) v hp = some (.vs 2 (fds l), hp)
  s : ∀ hp, Sl hp v 2 (fds l)
theorem Cl.vs (l : List Fld) : Cl (.vs 2 (fds l)) l := ⟨fun hp => clo_depth (clo_vs [.one, .one] _) hp, fun _ => .vs⟩
theorem Cl.ns : Cl .ns [] := ⟨fun hp => by rw [depth_succ]; rfl, fun _ => .inl ⟨rfl, rfl⟩⟩
def rowRqV (q : Rq) (v : V) : List V := [.st q.m, .st q.s, .st q.a, .st q.p, v, .it .i64 q.n]
def rowRsV (s : Rs) (v : V) : List V := [.it .i64 s.k, v, .it .i64 s.n]
def rowEnV (e : En) (v w : V) : List V := [.st e.q.m, .st e.q.s, .st e.q.a, .st e.q.p, v, .it .i64 e.q.n, .it .i64 e.s.k, w, .it .i64 e.s.n, .st e.body, .it .i64 e.asked, .it .i64 e.came]
/-- what a call made of its own -/
structure Nw (h0' hp : Hp) (v : V) (rows : List (List V)) : Prop where
  o : Ow hp v 2 rows
  u : Up h0'.next h0' hp
  f : ∀ id, idOf v = some id → h0'.next ≤ id
theorem Nw.put {h0' hp : Hp} {v : V} {rows new : List (List V)} (h : Nw h0' hp v rows) (hl : h0'.lim ≤ h0'.next) : Nw h0' (oah hp v 2 (rows ++ new)) (.hs hp.next 0 (rows.length + new.length)) (rows ++ new) :=
  ⟨h.o.put (by rw [h.u.lim]; have := h.u.next; omega), h.u.oah h.u.next h.f, fun id e => by cases e; exact h.u.next⟩
theorem Nw.ns {h0' : Hp} : Nw h0' h0' .ns [] := ⟨.ns, .refl _ _, fun id e => by cases e⟩
def zEn : List V := [.st [], .st [], .st [], .st [], .ns, .it .i64 0, .it .i64 0, .ns, .it .i64 0, .st [], .it .i64 0, .it .i64 0]
def LSr (e : En) (s : Rs) (vq vf u : V) : Lo := lset (lset (lset (fun _ => none) 4 (rowEnV e vq vf)) 5 (rowRsV s u)) 8 zEn
def LSr2 (e : En) (vq vf : V) : Lo := lset (lset (fun _ => none) 4 (rowEnV e vq vf)) 8 zEn
set_option maxHeartbeats 16000000 in
theorem renew_loop1 (hp0 : Hp) (e : En) (s : Rs) (a c : Int) (vq vf u : V) (hlim : hp0.lim ≤ hp0.next) (hf : Sl hp0 vf 2 (fds e.s.fs)) (hu : Cl u s.fs) (hs : JOK s.fs) (hl : e.s.fs.length ≤ 1000000)
    (lo : Lo) (hlo : shed [12, 14] lo = LSr e s vq vf u) (tm : Tm) (hk : [2, 3, 4, 5, 8, 9, 10, 20, 21, 22].map (fun x => (x, tm x)) = [(2, .it .i64 a), (3, .it .i64 c), (4, .lp 4 0), (5, .lp 5 0), (8, .lp 8 0), (9, .ns), (10, .bo (hasF s.fs sAge)), (20, vf), (21, .it .i64 (Int.ofNat e.s.fs.length)), (22, .it .i64 (Int.ofNat 0))]) :
    ∃ r, EvL F [2, 3, 4, 5, 8, 9, 10, 20, 21, 22] [12, 14] (lpB (d48.body.lps.getD 0 .skip)) ⟨tm, lo, hp0⟩ r ∧ ∃ v, XtQ 0 [(2, .it .i64 a), (3, .it .i64 c), (4, .lp 4 0), (5, .lp 5 0), (8, .lp 8 0), (9, v)] (fun lo hp => lo = LSr e s vq vf u ∧ Nw hp0 hp v (fds (e.s.fs.filter (renP s.fs)))) r := by
  refine EvL.invQ (S := Nat × V) (fun x => [(2, .it .i64 a), (3, .it .i64 c), (4, .lp 4 0), (5, .lp 5 0), (8, .lp 8 0), (9, x.2), (10, .bo (hasF s.fs sAge)), (20, vf), (21, .it .i64 (Int.ofNat e.s.fs.length)), (22, .it .i64 (Int.ofNat x.1))])
    (fun x lo hp => shed [12, 14] lo = LSr e s vq vf u ∧ x.1 ≤ e.s.fs.length ∧ Nw hp0 hp x.2 (fds ((e.s.fs.take x.1).filter (renP s.fs)))) (fun x => e.s.fs.length - x.1) _ ?_ (0, .ns) tm lo hp0 ⟨hlo, Nat.zero_le _, .ns⟩ hk
  intro ⟨i, v⟩ lo hp ⟨e1, e2, hN⟩
  simp only at e2 hN
  rw [e1]
  have hO := hN.o
  have hel := hO.lp
  have hS := hf.up hN.u hf.lt
  have hfl := hf.lp
  have hul := (hu.s hp).lp
  have hcu := hu.c hp
  have hlm : hp.lim ≤ hp.next := by rw [hN.u.lim]; have := hN.u.next; omega
  have hc := cont_ok (e.s.fs.getD i f0).1
  have hh := has_ok s.fs (e.s.fs.getD i f0).1 hs
  have hfd := fun h : i < e.s.fs.length => filter_getD (p := renP s.fs) h
  have hn : ((e.s.fs.take i).filter (renP s.fs)).length ≤ 1000000 := by
    have := List.length_filter_le (renP s.fs) (e.s.fs.take i)
    rw [List.length_take] at this; omega
  have hsh : ∀ r1 r2, shed [12, 14] (lset (lset (LSr e s vq vf u) 12 r1) 12 r2) = LSr e s vq vf u := fun r1 r2 => shed_eq fun t => ⟨fun h => by rcases hasN2 h with rfl | rfl <;> rfl, fun h => by
    have : t ≠ 12 := fun e => by subst e; cases h
    rw [lset_ne this, lset_ne this]⟩
  clear hf hu
  repeat' (first | refine EvQ.run ?_ | refine EvQ.lift (fun _ zn => X.pcall (hc) X.cq rfl X.al rfl zn) ?_ | refine EvQ.lift (fun _ zn => X.pcallG (hc) rfl X.cq rfl X.al rfl zn) ?_ | refine EvQ.lift (fun _ zn => X.pcallC (hc) rfl X.cq rfl X.al rfl zn) ?_ | refine EvQ.lift (fun _ zn => X.pcallT (hc) (by decide) X.cq rfl X.al rfl zn) ?_ | refine EvQ.lift (fun _ zn => X.call rfl X.al (hc) zn) ?_ | refine EvQ.lift (fun _ zn => X.pcall (hh) X.cq rfl X.al rfl zn) ?_ | refine EvQ.lift (fun _ zn => X.pcallG (hh) rfl X.cq rfl X.al rfl zn) ?_ | refine EvQ.lift (fun _ zn => X.pcallC (hh) rfl X.cq rfl X.al rfl zn) ?_ | refine EvQ.lift (fun _ zn => X.pcallT (hh) (by decide) X.cq rfl X.al rfl zn) ?_ | refine EvQ.lift (fun _ zn => X.call rfl X.al (hh) zn) ?_ | (refine EvQ.pickB rfl rfl rfl ?_) | (refine EvQ.cond rfl (fun h => ?_) (fun h => ?_) <;> ((first | replace h := X.nm h | skip); try have hne := ne_len h)) | (refine EvQ.g1 rfl (fun h => ?_) (fun h => ?_) <;> ((first | replace h := X.nm h | skip); try have hne := ne_len h)) | (refine EvQ.pick rfl (fun _ => rfl) (fun _ => rfl) (fun h => ?_) (fun h => ?_) <;> ((first | replace h := X.nm h | skip); try have hne := ne_len h)) | refine EvQ.fin X.rs ?_ | refine EvQ.fin1 (fun _ => rfl) rfl ?_)
  all_goals first
    | (refine EvQ.go (i + 1, _) X.kv ⟨hsh _ _, by show i + 1 ≤ _; omega, ?_⟩ (by show e.s.fs.length - (i + 1) < e.s.fs.length - i; omega)
       show Nw _ _ _ (fds ((e.s.fs.take (i + 1)).filter (renP s.fs)))
       rw [hfd (by assumption), if_pos (by (clear hfd; generalize e.s.fs.getD i f0 = f at *; unfold renP; first | (simp [*]; done) | (simp [*]; assumption) | (simp [*]; intros; rfl))), ← fds_append]
       exact hN.put hlim)
    | (refine EvQ.go (i + 1, v) X.kv ⟨hsh _ _, by show i + 1 ≤ _; omega, ?_⟩ (by show e.s.fs.length - (i + 1) < e.s.fs.length - i; omega)
       show Nw _ _ _ (fds ((e.s.fs.take (i + 1)).filter (renP s.fs)))
       rw [hfd (by assumption), if_neg (by (clear hfd; generalize e.s.fs.getD i f0 = f at *; unfold renP; first | (simp [*]; done) | (simp [*]; assumption) | (simp [*]; intros; rfl)))]
       exact hN)
    | (refine EvQ.xt ⟨v, XtQ.mk' X.kv ⟨rfl, ?_⟩⟩
       rw [List.take_of_length_le (by omega)] at hN
       exact hN)
    | trace_state
set_option maxHeartbeats 16000000 in
theorem renew_loop2 (hp0 hp1 : Hp) (e : En) (s : Rs) (a c : Int) (vq vf u v1 : V) (A : List Fld) (hlim : hp0.lim ≤ hp0.next) (hN1 : Nw hp0 hp1 v1 (fds A)) (hA : A.length ≤ 1000000) (hu : Cl u s.fs) (hl : s.fs.length ≤ 1000000)
    (lo : Lo) (hlo : shed [5, 12, 14] lo = LSr2 e vq vf) (tm : Tm) (hk : [2, 3, 4, 8, 9, 51, 52, 53].map (fun x => (x, tm x)) = [(2, .it .i64 a), (3, .it .i64 c), (4, .lp 4 0), (8, .lp 8 0), (9, v1), (51, u), (52, .it .i64 (Int.ofNat s.fs.length)), (53, .it .i64 (Int.ofNat 0))]) :
    ∃ r, EvL F [2, 3, 4, 8, 9, 51, 52, 53] [5, 12, 14] (lpB (d48.body.lps.getD 1 .skip)) ⟨tm, lo, hp1⟩ r ∧ ∃ v, XtQ 2 [(2, .it .i64 a), (3, .it .i64 c), (4, .lp 4 0), (8, .lp 8 0), (9, v)] (fun lo hp => lo = LSr2 e vq vf ∧ Nw hp0 hp v (fds (A ++ s.fs.filter renQ))) r := by
  refine EvL.invQ (S := Nat × V) (fun x => [(2, .it .i64 a), (3, .it .i64 c), (4, .lp 4 0), (8, .lp 8 0), (9, x.2), (51, u), (52, .it .i64 (Int.ofNat s.fs.length)), (53, .it .i64 (Int.ofNat x.1))])
    (fun x lo hp => shed [5, 12, 14] lo = LSr2 e vq vf ∧ x.1 ≤ s.fs.length ∧ Nw hp0 hp x.2 (fds (A ++ (s.fs.take x.1).filter renQ))) (fun x => s.fs.length - x.1) _ ?_ (0, v1) tm lo hp1 ⟨hlo, Nat.zero_le _, by simpa using hN1⟩ hk
  intro ⟨i, v⟩ lo hp ⟨e1, e2, hN⟩
  simp only at e2 hN
  rw [e1]
  have hO := hN.o
  have hel := hO.lp
  have hS := hu.s hp
  have hul := (hu.s hp).lp
  have hlm : hp.lim ≤ hp.next := by rw [hN.u.lim]; have := hN.u.next; omega
  have hc := cont_ok (s.fs.getD i f0).1
  have hfd := fun h : i < s.fs.length => filter_getD (p := renQ) h
  have hn : ((s.fs.take i).filter renQ).length ≤ 1000000 := by
    have := List.length_filter_le renQ (s.fs.take i)
    rw [List.length_take] at this
    omega
  have hsh : ∀ r1 r2, shed [5, 12, 14] (lset (lset (LSr2 e vq vf) 14 r1) 14 r2) = LSr2 e vq vf := fun r1 r2 => shed_eq fun t => ⟨fun h => by
    have e : hasN [5, 12, 14] t = (bif Nat.beq 5 t then true else hasN [12, 14] t) := rfl
    rw [e, beqD] at h
    by_cases q : 5 = t
    · subst q; rfl
    · rw [decide_eq_false q] at h
      rcases hasN2 h with rfl | rfl <;> rfl, fun h => by
    have : t ≠ 14 := fun e => by subst e; cases h
    rw [lset_ne this, lset_ne this]⟩
  clear hu
  repeat' (first | refine EvQ.run ?_ | refine EvQ.lift (fun _ zn => X.pcall (hc) X.cq rfl X.al rfl zn) ?_ | refine EvQ.lift (fun _ zn => X.pcallG (hc) rfl X.cq rfl X.al rfl zn) ?_ | refine EvQ.lift (fun _ zn => X.pcallC (hc) rfl X.cq rfl X.al rfl zn) ?_ | refine EvQ.lift (fun _ zn => X.pcallT (hc) (by decide) X.cq rfl X.al rfl zn) ?_ | refine EvQ.lift (fun _ zn => X.call rfl X.al (hc) zn) ?_ | (refine EvQ.pickB rfl rfl rfl ?_) | (refine EvQ.cond rfl (fun h => ?_) (fun h => ?_) <;> ((first | replace h := X.nm h | skip); try have hne := ne_len h)) | (refine EvQ.g1 rfl (fun h => ?_) (fun h => ?_) <;> ((first | replace h := X.nm h | skip); try have hne := ne_len h)) | (refine EvQ.pick rfl (fun _ => rfl) (fun _ => rfl) (fun h => ?_) (fun h => ?_) <;> ((first | replace h := X.nm h | skip); try have hne := ne_len h)) | refine EvQ.fin X.rs ?_ | refine EvQ.fin1 (fun _ => rfl) rfl ?_)
  all_goals first
    | (refine EvQ.go (i + 1, _) X.kv ⟨hsh _ _, by show i + 1 ≤ _; omega, ?_⟩ (by show s.fs.length - (i + 1) < s.fs.length - i; omega)
       show Nw _ _ _ (fds (A ++ (s.fs.take (i + 1)).filter renQ))
       rw [hfd (by assumption), if_pos (by (clear hfd; generalize s.fs.getD i f0 = f at *; unfold renQ; simp [*])), ← List.append_assoc, ← fds_append (A ++ _) [_]]
       exact hN.put hlim)
    | (refine EvQ.go (i + 1, v) X.kv ⟨hsh _ _, by show i + 1 ≤ _; omega, ?_⟩ (by show s.fs.length - (i + 1) < s.fs.length - i; omega)
       show Nw _ _ _ (fds (A ++ (s.fs.take (i + 1)).filter renQ))
       rw [hfd (by assumption), if_neg (by (clear hfd; generalize s.fs.getD i f0 = f at *; unfold renQ; simp [*]))]
       exact hN)
    | (refine EvQ.xt ⟨v, XtQ.mk' X.kv ⟨rfl, ?_⟩⟩
       rw [List.take_of_length_le (by omega)] at hN
       exact hN)
    | trace_state
/-- what a renewed entry is -/
structure Rnw (hp : Hp) (E : En) (v : V) (hp' : Hp) : Prop where
  un : ∃ vq vf, v = .ag (rowEnV E vq vf) ∧ Nw hp hp' vq (fds E.q.fs) ∧ Nw hp hp' vf (fds E.s.fs) ∧ ∀ id, idOf vq = some id → idOf vf ≠ some id
set_option maxHeartbeats 16000000 in
theorem renew_ok {own : Bool} (hp0 : Hp) (e : En) (s : Rs) (a c : Int) (vq vf u : V) (hlim : hp0.lim ≤ hp0.next) (hq : Sl hp0 vq 2 (fds e.q.fs)) (hf : Sl hp0 vf 2 (fds e.s.fs)) (hu : Cl u s.fs) (hs : JOK s.fs) (hl : e.s.fs.length ≤ 1000000) (hql : e.q.fs.length ≤ 1000000) :
    ∃ v hp', EvC F own 48 [.ag (rowEnV e vq vf), .ag (rowRsV s u), .it .i64 a, .it .i64 c] hp0 (.ret v hp') ∧ Rnw hp0 (renE e s a c) v hp' := by
  refine EvC.ofQ d48 rfl rfl rfl ?_
  have hh := has_ok s.fs sAge hs
  have hqk := hq.keep
  have hfk := hf.keep
  have huk := (hu.s hp0).keep
  have hul := (hu.s hp0).lp
  have hcu := hu.c hp0
  have hfl := hf.lp
  have hvl := lenO hf.len (fds_length _)
  have hvu := lenO (hu.s hp0).len (fds_length _)
  repeat' (first | refine EvQ.run ?_ | refine EvQ.lift (fun _ zn => X.pcall (hh) X.cq rfl X.al rfl zn) ?_ | refine EvQ.lift (fun _ zn => X.pcallG (hh) rfl X.cq rfl X.al rfl zn) ?_ | refine EvQ.lift (fun _ zn => X.pcallC (hh) rfl X.cq rfl X.al rfl zn) ?_ | refine EvQ.lift (fun _ zn => X.pcallT (hh) (by decide) X.cq rfl X.al rfl zn) ?_ | refine EvQ.lift (fun _ zn => X.call rfl X.al (hh) zn) ?_ | (refine EvQ.pickB rfl rfl rfl ?_) | (refine EvQ.cond rfl (fun h => ?_) (fun h => ?_) <;> ((first | replace h := X.nm h | skip); try have hne := ne_len h)) | (refine EvQ.g1 rfl (fun h => ?_) (fun h => ?_) <;> ((first | replace h := X.nm h | skip); try have hne := ne_len h)) | (refine EvQ.pick rfl (fun _ => rfl) (fun _ => rfl) (fun h => ?_) (fun h => ?_) <;> ((first | replace h := X.nm h | skip); try have hne := ne_len h)) | refine EvQ.fin X.rs ?_ | refine EvQ.fin1 (fun _ => rfl) rfl ?_)
  refine EvQ.loop (renew_loop1 hp0 e s a c vq vf u hlim hf hu hs hl _ ?_ _ X.kv) ?_
  · exact shed_eq fun t => ⟨fun h => by rcases hasN2 h with rfl | rfl <;> rfl, fun h => rfl⟩
  · rintro _ ⟨v1, tm, lo, hp1, rfl, rfl, hN1⟩
    have hel := hN1.o.lp
    have hvu := lenO (hu.s hp1).len (fds_length _)
    generalize hA : e.s.fs.filter (renP s.fs) = A at hN1
    have hAl : A.length ≤ 1000000 := by rw [← hA]; have := List.length_filter_le (renP s.fs) e.s.fs; omega
    repeat' (first | refine EvQ.run ?_ | (refine EvQ.pickB rfl rfl rfl ?_) | (refine EvQ.cond rfl (fun h => ?_) (fun h => ?_) <;> ((first | replace h := X.nm h | skip); try have hne := ne_len h)) | (refine EvQ.g1 rfl (fun h => ?_) (fun h => ?_) <;> ((first | replace h := X.nm h | skip); try have hne := ne_len h)) | (refine EvQ.pick rfl (fun _ => rfl) (fun _ => rfl) (fun h => ?_) (fun h => ?_) <;> ((first | replace h := X.nm h | skip); try have hne := ne_len h)) | refine EvQ.fin X.rs ?_ | refine EvQ.fin1 (fun _ => rfl) rfl ?_)
    refine EvQ.loop (renew_loop2 hp0 hp1 e s a c vq vf u v1 A hlim hN1 hAl hu (by have := hs.1; omega) _ ?_ _ X.kv) ?_
    · exact shed_eq fun t => ⟨fun h => by
        have e : hasN [5, 12, 14] t = (bif Nat.beq 5 t then true else hasN [12, 14] t) := rfl
        rw [e, beqD] at h
        by_cases q : 5 = t
        · subst q; rfl
        · rw [decide_eq_false q] at h
          rcases hasN2 h with rfl | rfl <;> rfl, fun h => by
        unfold LSr LSr2
        have h5 : t ≠ 5 := fun e => by subst e; cases h
        by_cases h8 : t = 8
        · subst h8; rfl
        · rw [lset_ne h8, lset_ne h8, lset_ne h5]⟩
    · rintro _ ⟨v2, tm, lo, hp2, rfl, rfl, hN2⟩
      have hfl2 := hN2.o.lp
      have hfc := hN2.o.cells
      have hfk2 := hN2.o.keep
      have hqs := hq.up hN2.u hq.lt
      have hqe := hqs.els
      have hlm : hp2.lim ≤ hp2.next := by rw [hN2.u.lim]; have := hN2.u.next; omega
      have h0s : Ow hp2 .ns 2 [] := .ns
      have hG := Ow.gput (new := fds e.q.fs) h0s hlm
      have hGl := hG.lp
      have hGc := hG.cells
      have hGk := hG.keep
      have hO2 : Ow (gah hp2 .ns 2 [] (fds e.q.fs)) v2 2 (fds (A ++ s.fs.filter renQ)) := hN2.o.gah' fun id _ h => by cases h
      have hU : Up hp0.next hp0 (gah hp2 .ns 2 [] (fds e.q.fs)) := by
        refine ⟨Nat.le_trans hN2.u.next gah_next, by rw [gah_lim, hN2.u.lim], fun j hj => ?_⟩
        rw [gah_get (fun h => by cases h) (by have := hN2.u.next; omega)]
        exact hN2.u.get j hj
      have hid : ∀ id, idOf (gav hp2 .ns ([] : List (List V)).length (fds e.q.fs).length) = some id → id = hp2.next := by
        intro id h
        unfold gav at h
        simp only at h
        split at h <;> cases h
        rfl
      have hv2 := hN2.o.lt
      repeat' (first | refine EvQ.run ?_ | (refine EvQ.pickB rfl rfl rfl ?_) | (refine EvQ.cond rfl (fun h => ?_) (fun h => ?_) <;> ((first | replace h := X.nm h | skip); try have hne := ne_len h)) | (refine EvQ.g1 rfl (fun h => ?_) (fun h => ?_) <;> ((first | replace h := X.nm h | skip); try have hne := ne_len h)) | (refine EvQ.pick rfl (fun _ => rfl) (fun _ => rfl) (fun h => ?_) (fun h => ?_) <;> ((first | replace h := X.nm h | skip); try have hne := ne_len h)) | refine EvQ.fin X.rs ?_ | refine EvQ.fin1 (fun _ => rfl) rfl ?_)
      refine EvQ.lift (fun R n => X.apg (v := .ns) (vy := vq) (rows := []) (new := fds e.q.fs) rfl rfl h0s hqe (fun _ => rfl) ?_ n) ?_
      · rw [fds_length]; simp; omega
      generalize gav hp2 .ns ([] : List (List V)).length (fds e.q.fs).length = w at *
      generalize gah hp2 .ns 2 [] (fds e.q.fs) = hp3 at *
      repeat' (first | refine EvQ.run ?_ | (refine EvQ.pickB rfl rfl rfl ?_) | (refine EvQ.cond rfl (fun h => ?_) (fun h => ?_) <;> ((first | replace h := X.nm h | skip); try have hne := ne_len h)) | (refine EvQ.g1 rfl (fun h => ?_) (fun h => ?_) <;> ((first | replace h := X.nm h | skip); try have hne := ne_len h)) | (refine EvQ.pick rfl (fun _ => rfl) (fun _ => rfl) (fun h => ?_) (fun h => ?_) <;> ((first | replace h := X.nm h | skip); try have hne := ne_len h)) | refine EvQ.fin X.rs ?_ | refine EvQ.fin1 (fun _ => rfl) rfl ?_)
      refine ⟨_, _, rfl, w, v2, ?_, ⟨by rw [List.nil_append] at hG; exact hG, hU, fun id h => by have := hid id h; have := hN2.u.next; omega⟩, ⟨?_, hU, hN2.f⟩, fun id h h2 => ?_⟩
      · rfl
      · rw [← hA] at hO2; exact hO2
      · have := hid id h; have := hv2 id h2; omega
end Go.Proofs.Ytcbiplmgaiipgaa
