import Derived.Test.YtcbiplmgaiipgaaEvE
import Derived.Test.YtcbiplmgaiipgaaEvE
import Derived.Test.YtcbiplmgaiipgaaRoom
import Derived.Test.YtcbiplmgaiipgaaRefW
import Derived.Test.YtcbiplmgaiipgaaRefG
import Derived.Test.YtcbiplmgaiipgaaMrgB
import Derived.Test.YtcbiplmgaiipgaaTwice
set_option linter.unusedVariables false
set_option linter.unusedSimpArgs false
-- MergeTells
namespace Go.Proofs.Ytcbiplmgaiipgaa
open Go hiding Fn
open Ev tab
attribute [local irreducible] EvD EvL EvC evGds evLs C.run sK bK gK pK fK lpB stepD renL lkB smB sameS clrB askL roomy
def sM : Fld := ([109], [])
def LSw (r5 r17 : List V) : Lo := lset (lset (fun _ => none) 5 r5) 17 r17
set_option maxHeartbeats 16000000 in
theorem turned_loop (hp0 : Hp) (e E : En) (vq vf : V) (L0 : List Fld) (full : List Fld) (hO0 : Ow hp0 vf 2 (fds L0)) (hl : L0.length ≤ 1000000) (lo : Lo) (hlo : shed [6, 7, 12, 13, 15] lo = LSw (rowEn e) (rowEnV E vq vf))
    (tm : Tm) (hk : [5, 11, 17, 18].map (fun x => (x, tm x)) = [(5, .lp 5 0), (11, .vs 2 (fds full)), (17, .lp 17 0), (18, .it .i64 (Int.ofNat 0))]) :
    ∃ r, EvL F [5, 11, 17, 18] [6, 7, 12, 13, 15] (lpB (d14.body.lps.getD 0 .skip)) ⟨tm, lo, hp0⟩ r ∧ XtQ 0 [(5, .lp 5 0), (11, .vs 2 (fds full))] (fun lo hp => ∃ r17, lo = LSw (rowEn e) r17) r := by
  refine EvL.invQ (S := Nat × List Fld) (fun x => [(5, .lp 5 0), (11, .vs 2 (fds full)), (17, .lp 17 0), (18, .it .i64 (Int.ofNat x.1))])
    (fun x lo hp => shed [6, 7, 12, 13, 15] lo = LSw (rowEn e) (rowEnV E vq vf) ∧ x.1 ≤ L0.length ∧ x.2.length = L0.length ∧ Ow hp vf 2 (fds x.2)) (fun x => L0.length - x.1) _ ?_ (0, L0) tm lo hp0 ⟨hlo, Nat.zero_le _, rfl, hO0⟩ hk
  intro ⟨i, L⟩ lo hp ⟨e1, e2, e3, hO⟩
  simp only at e2 e3 hO
  rw [e1]
  have of := of47_ok [116, 117, 114, 110, 101, 100] []
  rcases hO with ⟨rfl, hr⟩ | ⟨id, rfl, q1, q2, q3⟩
  · have h0 : L.length = 0 := by have := congrArg List.length hr; rw [fds_length] at this; exact this
    repeat' (first | refine EvQ.run ?_ | refine EvQ.lift (fun _ zn => X.pcall (of) X.cq rfl X.al rfl zn) ?_ | refine EvQ.lift (fun _ zn => X.pcallG (of) rfl X.cq rfl X.al rfl zn) ?_ | refine EvQ.lift (fun _ zn => X.pcallC (of) rfl X.cq rfl X.al rfl zn) ?_ | refine EvQ.lift (fun _ zn => X.pcallT (of) (by decide) X.cq rfl X.al rfl zn) ?_ | refine EvQ.lift (fun _ zn => X.call rfl X.al (of) zn) ?_ | (refine EvQ.pickB rfl rfl rfl ?_) | (refine EvQ.cond rfl (fun h => ?_) (fun h => ?_) <;> ((first | replace h := X.nm h | skip); try have hne := ne_len h)) | (refine EvQ.g1 rfl (fun h => ?_) (fun h => ?_) <;> ((first | replace h := X.nm h | skip); try have hne := ne_len h)) | (refine EvQ.pick rfl (fun _ => rfl) (fun _ => rfl) (fun h => ?_) (fun h => ?_) <;> ((first | replace h := X.nm h | skip); try have hne := ne_len h)) | refine EvQ.fin X.rs ?_ | refine EvQ.fin1 (fun _ => rfl) rfl ?_)
    exact EvQ.xt (XtQ.mk' X.kv ⟨_, rfl⟩)
  · repeat' (first | refine EvQ.run ?_ | refine EvQ.lift (fun _ zn => X.pcall (of) X.cq rfl X.al rfl zn) ?_ | refine EvQ.lift (fun _ zn => X.pcallG (of) rfl X.cq rfl X.al rfl zn) ?_ | refine EvQ.lift (fun _ zn => X.pcallC (of) rfl X.cq rfl X.al rfl zn) ?_ | refine EvQ.lift (fun _ zn => X.pcallT (of) (by decide) X.cq rfl X.al rfl zn) ?_ | refine EvQ.lift (fun _ zn => X.call rfl X.al (of) zn) ?_ | (refine EvQ.pickB rfl rfl rfl ?_) | (refine EvQ.cond rfl (fun h => ?_) (fun h => ?_) <;> ((first | replace h := X.nm h | skip); try have hne := ne_len h)) | (refine EvQ.g1 rfl (fun h => ?_) (fun h => ?_) <;> ((first | replace h := X.nm h | skip); try have hne := ne_len h)) | (refine EvQ.pick rfl (fun _ => rfl) (fun _ => rfl) (fun h => ?_) (fun h => ?_) <;> ((first | replace h := X.nm h | skip); try have hne := ne_len h)) | refine EvQ.fin X.rs ?_ | refine EvQ.fin1 (fun _ => rfl) rfl ?_)
    · refine EvQ.go (i + 1, L.set i ([116, 117, 114, 110, 101, 100], [])) X.kv ⟨?_, by show i + 1 ≤ _; omega, by show (L.set i _).length = _; rw [List.length_set]; exact e3, .inr ⟨id, ?_, q1, q2, ?_⟩⟩ (by show L0.length - (i + 1) < L0.length - i; omega)
      · exact shed_eq fun t => ⟨fun h => by
          unfold LSw
          have h5 : t ≠ 5 := fun e => by subst e; cases h
          have h17 : t ≠ 17 := fun e => by subst e; cases h
          rw [lset_ne h17, lset_ne h5], fun h => rfl⟩
      · rw [fds_length, fds_length, List.length_set]
      · rw [hget_set, ← fds_set]
        show some (Bk.mk 2 false ((fds L).set (0 + i) _)) = _
        rw [Nat.zero_add]; rfl
    · exact EvQ.xt (XtQ.mk' X.kv ⟨_, rfl⟩)
theorem eqEn_self (e : En) : eqEn e e = true := by
  unfold eqEn
  rw [eqRq_self]
  have h1 : eqRs e.s e.s = true := decide_eq_true ⟨rfl, rfl, rfl⟩
  rw [h1]
  exact decide_eq_true ⟨rfl, rfl, rfl⟩
theorem beq_no (b : Bool) : (!(b == b)) = false := by cases b <;> rfl
set_option maxHeartbeats 16000000 in
theorem tells_run (e : En) (q : Rq) (s : Rs) (a c : Int) (h1 : FB e.q.fs 1100000) (h2 : FB e.s.fs 1100000) (h3 : FB q.fs 1100000) (h4 : FB s.fs 1100000) : ∃ h, EvD F (stepD d14 [.ag (rowEn e), .ag (rowRq q), .ag (rowRs s), .it .i64 a, .it .i64 c] h0) (Rt (.bo true) h) := by
  have lg := lg_ok e q s.fs (h1.bok (by decide)) (h2.bok (by decide)) (h3.bok (by decide)) (h4.bok (by decide))
  have c1 := rowEn_clo e
  have c2 := rowRs_clo s
  have c3 := rowRq_clo q
  refine EvQ.law ?_
  cases hb : (smB e && (lkB q.fs && lkB s.fs)) with
  | false =>
    rw [hb] at lg
    repeat' (first | refine EvQ.run ?_ | refine EvQ.lift (fun _ zn => X.pcall (lg) X.cq rfl X.al rfl zn) ?_ | refine EvQ.lift (fun _ zn => X.pcallG (lg) rfl X.cq rfl X.al rfl zn) ?_ | refine EvQ.lift (fun _ zn => X.pcallC (lg) rfl X.cq rfl X.al rfl zn) ?_ | refine EvQ.lift (fun _ zn => X.pcallT (lg) (by decide) X.cq rfl X.al rfl zn) ?_ | refine EvQ.lift (fun _ zn => X.call rfl X.al (lg) zn) ?_ | refine EvQ.lift (fun _ zn => X.pcall (mergeruns_ok) X.cq rfl X.al rfl zn) ?_ | refine EvQ.lift (fun _ zn => X.pcallG (mergeruns_ok) rfl X.cq rfl X.al rfl zn) ?_ | refine EvQ.lift (fun _ zn => X.pcallC (mergeruns_ok) rfl X.cq rfl X.al rfl zn) ?_ | refine EvQ.lift (fun _ zn => X.pcallT (mergeruns_ok) (by decide) X.cq rfl X.al rfl zn) ?_ | refine EvQ.lift (fun _ zn => X.call rfl X.al (mergeruns_ok) zn) ?_ | (refine EvQ.pickB rfl rfl rfl ?_) | (refine EvQ.cond rfl (fun h => ?_) (fun h => ?_) <;> ((first | replace h := X.nm h | skip); try have hne := ne_len h)) | (refine EvQ.g1 rfl (fun h => ?_) (fun h => ?_) <;> ((first | replace h := X.nm h | skip); try have hne := ne_len h)) | (refine EvQ.pick rfl (fun _ => rfl) (fun _ => rfl) (fun h => ?_) (fun h => ?_) <;> ((first | replace h := X.nm h | skip); try have hne := ne_len h)) | refine EvQ.fin X.rs ?_ | refine EvQ.fin1 (fun _ => rfl) rfl ?_)
    exact ⟨_, rfl⟩
  | true =>
    rw [hb] at lg
    simp only [Bool.and_eq_true] at hb
    obtain ⟨hb, hlq, hls⟩ := hb
    simp only [smB, Bool.and_eq_true, decide_eq_true_eq] at hb
    have j1 := lkB_jok hb.1
    have j2 := lkB_jok hb.2.1
    have j3 := lkB_jok hlq
    have j4 := lkB_jok hls
    have l1 := j1.1
    have l2 := j2.1
    have l3 := j3.1
    have l4 := j4.1
    have l5 := renL_len e.s.fs s.fs
    have of := of47_ok [109] []
    have rm := room_ok e.s.fs sM (by omega)
    have hrl := roomy_len e.s.fs sM
    have ht : (roomy e.s.fs sM).take e.s.fs.length = e.s.fs := by unfold roomy; rw [List.take_left]
    refine EvQ.run ?_
    first | refine EvQ.lift (fun _ zn => X.pcall (lg) X.cq rfl X.al rfl zn) ?_ | refine EvQ.lift (fun _ zn => X.pcallG (lg) rfl X.cq rfl X.al rfl zn) ?_ | refine EvQ.lift (fun _ zn => X.pcallC (lg) rfl X.cq rfl X.al rfl zn) ?_ | refine EvQ.lift (fun _ zn => X.pcallT (lg) (by decide) X.cq rfl X.al rfl zn) ?_ | refine EvQ.lift (fun _ zn => X.call rfl X.al (lg) zn) ?_
    try refine EvQ.run ?_
    first | refine EvQ.lift (fun _ zn => X.pcall (of) X.cq rfl X.al rfl zn) ?_ | refine EvQ.lift (fun _ zn => X.pcallG (of) rfl X.cq rfl X.al rfl zn) ?_ | refine EvQ.lift (fun _ zn => X.pcallC (of) rfl X.cq rfl X.al rfl zn) ?_ | refine EvQ.lift (fun _ zn => X.pcallT (of) (by decide) X.cq rfl X.al rfl zn) ?_ | refine EvQ.lift (fun _ zn => X.call rfl X.al (of) zn) ?_
    try refine EvQ.run ?_
    first | refine EvQ.lift (fun _ zn => X.pcall (rm) X.cq rfl X.al rfl zn) ?_ | refine EvQ.lift (fun _ zn => X.pcallG (rm) rfl X.cq rfl X.al rfl zn) ?_ | refine EvQ.lift (fun _ zn => X.pcallC (rm) rfl X.cq rfl X.al rfl zn) ?_ | refine EvQ.lift (fun _ zn => X.pcallT (rm) (by decide) X.cq rfl X.al rfl zn) ?_ | refine EvQ.lift (fun _ zn => X.call rfl X.al (rm) zn) ?_
    try refine EvQ.run ?_
    rw [ht]
    have ak := ask_ok e q j2 (by omega)
    have rk := rask_ok e q j2 (by omega)
    have ic := intact_ok e.s.fs sM (by omega)
    have lA := askL_len (onlyF e.s.fs sEtag) (onlyF e.s.fs sLast) q.fs
    generalize ((onlyF e.s.fs sEtag).isSome || (onlyF e.s.fs sLast).isSome) = B at *
    generalize askL (onlyF e.s.fs sEtag) (onlyF e.s.fs sLast) q.fs = qa at *
    have c4 := rowRq_clo (withF2 q qa)
    have cl := clears_ok q s
    have rl := rclears_ok q s
    have sm := same_ok e q j2 j3
    have un := unch_ok e q j2 j3
    generalize clrB q.m s.k = C at *
    generalize sameS e.s.fs q.fs = D at *
    have nB := beq_no B
    have nC := beq_no C
    have nD := beq_no D
    have rg := rmerge_ok e s a c j4 (by omega)
    first | refine EvQ.lift (fun _ zn => X.pcall (ak) X.cq rfl X.al rfl zn) ?_ | refine EvQ.lift (fun _ zn => X.pcallG (ak) rfl X.cq rfl X.al rfl zn) ?_ | refine EvQ.lift (fun _ zn => X.pcallC (ak) rfl X.cq rfl X.al rfl zn) ?_ | refine EvQ.lift (fun _ zn => X.pcallT (ak) (by decide) X.cq rfl X.al rfl zn) ?_ | refine EvQ.lift (fun _ zn => X.call rfl X.al (ak) zn) ?_
    try refine EvQ.run ?_
    first | refine EvQ.lift (fun _ zn => X.pcall (rk) X.cq rfl X.al rfl zn) ?_ | refine EvQ.lift (fun _ zn => X.pcallG (rk) rfl X.cq rfl X.al rfl zn) ?_ | refine EvQ.lift (fun _ zn => X.pcallC (rk) rfl X.cq rfl X.al rfl zn) ?_ | refine EvQ.lift (fun _ zn => X.pcallT (rk) (by decide) X.cq rfl X.al rfl zn) ?_ | refine EvQ.lift (fun _ zn => X.call rfl X.al (rk) zn) ?_
    try refine EvQ.run ?_
    refine EvQ.call rfl X.al (renew_ok h0 e s a c (.vs 2 (fds e.q.fs)) (.vs 2 (fds e.s.fs)) (.vs 2 (fds s.fs)) (Nat.le_refl _) .vs .vs (.vs _) j4 (by omega) (by omega)) ?_
    rintro _ hp1 ⟨vq1, vf1, rfl, nq1, nf1, d1⟩
    have hO := nf1.o
    have rq1 := nq1.o.sl.rd
    have rf1 := nf1.o.sl.rd
    have kq1 := nq1.o.keep
    have kf1 := nf1.o.keep
    have pq1 := nq1.o.lp
    have pf1 := nf1.o.lp
    have sr := reqR_ok (own := false) hp1 (withF2 q qa) (withF2 q qa) (.vs 2 (fds qa)) (.vs 2 (fds qa)) .vs .vs (by show qa.length ≤ _; omega) (by show qa.length ≤ _; omega)
    rw [eqRq_self] at sr
    have er := entR_ok (own := false) hp1 (renE e s a c) (renE e s a c) vq1 (.vs 2 (fds e.q.fs)) vf1 (.vs 2 (fds (renL e.s.fs s.fs))) rq1 .vs rf1 .vs (by show e.q.fs.length ≤ _; omega) (by show e.q.fs.length ≤ _; omega) (by show (renL e.s.fs s.fs).length ≤ _; omega) (by show (renL e.s.fs s.fs).length ≤ _; omega)
    rw [eqEn_self] at er
    clear nq1 nf1 d1 h1 h2 h3 h4 rq1 rf1
    refine EvQ.run ?_
    first | refine EvQ.lift (fun _ zn => X.pcall (sr) X.cq rfl X.al rfl zn) ?_ | refine EvQ.lift (fun _ zn => X.pcallG (sr) rfl X.cq rfl X.al rfl zn) ?_ | refine EvQ.lift (fun _ zn => X.pcallC (sr) rfl X.cq rfl X.al rfl zn) ?_ | refine EvQ.lift (fun _ zn => X.pcallT (sr) (by decide) X.cq rfl X.al rfl zn) ?_ | refine EvQ.lift (fun _ zn => X.call rfl X.al (sr) zn) ?_
    try refine EvQ.run ?_
    first | refine EvQ.lift (fun _ zn => X.pcall (rg) X.cq rfl X.al rfl zn) ?_ | refine EvQ.lift (fun _ zn => X.pcallG (rg) rfl X.cq rfl X.al rfl zn) ?_ | refine EvQ.lift (fun _ zn => X.pcallC (rg) rfl X.cq rfl X.al rfl zn) ?_ | refine EvQ.lift (fun _ zn => X.pcallT (rg) (by decide) X.cq rfl X.al rfl zn) ?_ | refine EvQ.lift (fun _ zn => X.call rfl X.al (rg) zn) ?_
    try refine EvQ.run ?_
    first | refine EvQ.lift (fun _ zn => X.pcall (er) X.cq rfl X.al rfl zn) ?_ | refine EvQ.lift (fun _ zn => X.pcallG (er) rfl X.cq rfl X.al rfl zn) ?_ | refine EvQ.lift (fun _ zn => X.pcallC (er) rfl X.cq rfl X.al rfl zn) ?_ | refine EvQ.lift (fun _ zn => X.pcallT (er) (by decide) X.cq rfl X.al rfl zn) ?_ | refine EvQ.lift (fun _ zn => X.call rfl X.al (er) zn) ?_
    try refine EvQ.run ?_
    first | refine EvQ.lift (fun _ zn => X.pcall (cl) X.cq rfl X.al rfl zn) ?_ | refine EvQ.lift (fun _ zn => X.pcallG (cl) rfl X.cq rfl X.al rfl zn) ?_ | refine EvQ.lift (fun _ zn => X.pcallC (cl) rfl X.cq rfl X.al rfl zn) ?_ | refine EvQ.lift (fun _ zn => X.pcallT (cl) (by decide) X.cq rfl X.al rfl zn) ?_ | refine EvQ.lift (fun _ zn => X.call rfl X.al (cl) zn) ?_
    try refine EvQ.run ?_
    first | refine EvQ.lift (fun _ zn => X.pcall (rl) X.cq rfl X.al rfl zn) ?_ | refine EvQ.lift (fun _ zn => X.pcallG (rl) rfl X.cq rfl X.al rfl zn) ?_ | refine EvQ.lift (fun _ zn => X.pcallC (rl) rfl X.cq rfl X.al rfl zn) ?_ | refine EvQ.lift (fun _ zn => X.pcallT (rl) (by decide) X.cq rfl X.al rfl zn) ?_ | refine EvQ.lift (fun _ zn => X.call rfl X.al (rl) zn) ?_
    try refine EvQ.run ?_
    first | refine EvQ.lift (fun _ zn => X.pcall (sm) X.cq rfl X.al rfl zn) ?_ | refine EvQ.lift (fun _ zn => X.pcallG (sm) rfl X.cq rfl X.al rfl zn) ?_ | refine EvQ.lift (fun _ zn => X.pcallC (sm) rfl X.cq rfl X.al rfl zn) ?_ | refine EvQ.lift (fun _ zn => X.pcallT (sm) (by decide) X.cq rfl X.al rfl zn) ?_ | refine EvQ.lift (fun _ zn => X.call rfl X.al (sm) zn) ?_
    try refine EvQ.run ?_
    first | refine EvQ.lift (fun _ zn => X.pcall (un) X.cq rfl X.al rfl zn) ?_ | refine EvQ.lift (fun _ zn => X.pcallG (un) rfl X.cq rfl X.al rfl zn) ?_ | refine EvQ.lift (fun _ zn => X.pcallC (un) rfl X.cq rfl X.al rfl zn) ?_ | refine EvQ.lift (fun _ zn => X.pcallT (un) (by decide) X.cq rfl X.al rfl zn) ?_ | refine EvQ.lift (fun _ zn => X.call rfl X.al (un) zn) ?_
    try refine EvQ.run ?_
    refine EvQ.loop (turned_loop hp1 e (renE e s a c) vq1 vf1 (renL e.s.fs s.fs) (roomy e.s.fs sM) hO (by omega) _ ?_ _ X.kv) ?_
    · exact X.lo
    rintro _ ⟨tm, lo, hp2, rfl, r17, rfl⟩
    clear sr er cl rl sm un rg ak rk
    refine EvQ.run ?_
    first | refine EvQ.lift (fun _ zn => X.pcall (of) X.cq rfl X.al rfl zn) ?_ | refine EvQ.lift (fun _ zn => X.pcallG (of) rfl X.cq rfl X.al rfl zn) ?_ | refine EvQ.lift (fun _ zn => X.pcallC (of) rfl X.cq rfl X.al rfl zn) ?_ | refine EvQ.lift (fun _ zn => X.pcallT (of) (by decide) X.cq rfl X.al rfl zn) ?_ | refine EvQ.lift (fun _ zn => X.call rfl X.al (of) zn) ?_
    try refine EvQ.run ?_
    first | refine EvQ.lift (fun _ zn => X.pcall (ic) X.cq rfl X.al rfl zn) ?_ | refine EvQ.lift (fun _ zn => X.pcallG (ic) rfl X.cq rfl X.al rfl zn) ?_ | refine EvQ.lift (fun _ zn => X.pcallC (ic) rfl X.cq rfl X.al rfl zn) ?_ | refine EvQ.lift (fun _ zn => X.pcallT (ic) (by decide) X.cq rfl X.al rfl zn) ?_ | refine EvQ.lift (fun _ zn => X.call rfl X.al (ic) zn) ?_
    try refine EvQ.run ?_
    first | refine EvQ.lift (fun _ zn => X.pcall (mergeruns_ok) X.cq rfl X.al rfl zn) ?_ | refine EvQ.lift (fun _ zn => X.pcallG (mergeruns_ok) rfl X.cq rfl X.al rfl zn) ?_ | refine EvQ.lift (fun _ zn => X.pcallC (mergeruns_ok) rfl X.cq rfl X.al rfl zn) ?_ | refine EvQ.lift (fun _ zn => X.pcallT (mergeruns_ok) (by decide) X.cq rfl X.al rfl zn) ?_ | refine EvQ.lift (fun _ zn => X.call rfl X.al (mergeruns_ok) zn) ?_
    try refine EvQ.run ?_
    refine EvQ.fin X.rs ?_
    exact ⟨_, rfl⟩
theorem tells_law (xs : List V) (h : ShP [(true, [.st, .st, .st, .st, .sl [.st, .st], .it .i64, .it .i64, .sl [.st, .st], .it .i64, .st, .it .i64, .it .i64]), (true, [.st, .st, .st, .st, .sl [.st, .st], .it .i64]), (true, [.it .i64, .sl [.st, .st], .it .i64]), (false, [.it .i64]), (false, [.it .i64])] xs) (hb : sizP xs ≤ 1048576) : ∃ L k hp', runF (callF F L k) L c14 xs h0 = .ret (.bo true) hp' := by
  obtain ⟨v, r, rfl, h1, h, e1⟩ := h.grp'
  obtain ⟨u, r, rfl, h5, h, e5⟩ := h.grp'
  obtain ⟨w, r, rfl, h2, h, e2⟩ := h.grp'
  obtain ⟨y, r, rfl, h3, h, e3⟩ := h.one'
  obtain ⟨z, r, rfl, h4, h, e4⟩ := h.one'
  cases h.nil'
  obtain ⟨e, rfl, f1, f2, t⟩ := en_of h1
  obtain ⟨q, rfl, f4, t2⟩ := rq_of h5
  obtain ⟨s, rfl, f3⟩ := rs_of h2
  obtain ⟨a, rfl, _⟩ := int_of h3
  obtain ⟨c, rfl, _⟩ := int_of h4
  have fb : ∀ {l : List Fld} {m : Nat}, FB l m → m ≤ 1100000 → FB l 1100000 := fun {l} {m} z hz => ⟨z.t, by have := z.n; omega, fun f hf => by have := z.s f hf; omega⟩
  exact law_of d14 rfl (tells_run e q s a c (fb f1 (by omega)) (fb f2 (by omega)) (fb f4 (by omega)) (fb f3 (by omega)))
end Go.Proofs.Ytcbiplmgaiipgaa
