import Derived.Test.YtcbiplmgaiipgaaEvE
import Derived.Test.YtcbiplmgaiipgaaEvE
import Derived.Test.YtcbiplmgaiipgaaRdr
import Derived.Test.YtcbiplmgaiipgaaMrgB
set_option linter.unusedVariables false
set_option linter.unusedSimpArgs false
-- MergeTwice: the walk
namespace Go.Proofs.Ytcbiplmgaiipgaa
open Go hiding Fn
open Ev tab
attribute [local irreducible] EvD EvL EvC evGds evLs C.run sK bK gK pK fK lpB stepD renL lkB smB
set_option maxHeartbeats 4000000 in
theorem lg_ok (e : En) (q : Rq) (l : List Fld) (h1 : BOK e.q.fs) (h2 : BOK e.s.fs) (h3 : BOK q.fs) (h4 : BOK l) : EvP F 52 c52 [.ag (rowEn e), .ag (rowRq q), .vs 2 (fds l)] [.bo (smB e && (lkB q.fs && lkB l))] := by
  have s1 := small_ok e h1 h2
  have s2 := lk_ok q.fs h3
  have s3 := lk_ok l h4
  have c1 := rowEn_clo e
  refine EvP.ofQ d52 rfl rfl rfl ?_
  repeat' (first | refine EvQ.run ?_ | refine EvQ.lift (fun _ zn => X.pcall (s1) X.cq rfl X.al rfl zn) ?_ | refine EvQ.lift (fun _ zn => X.pcallG (s1) rfl X.cq rfl X.al rfl zn) ?_ | refine EvQ.lift (fun _ zn => X.pcallC (s1) rfl X.cq rfl X.al rfl zn) ?_ | refine EvQ.lift (fun _ zn => X.pcallT (s1) (by decide) X.cq rfl X.al rfl zn) ?_ | refine EvQ.lift (fun _ zn => X.call rfl X.al (s1) zn) ?_ | refine EvQ.lift (fun _ zn => X.pcall (s2) X.cq rfl X.al rfl zn) ?_ | refine EvQ.lift (fun _ zn => X.pcallG (s2) rfl X.cq rfl X.al rfl zn) ?_ | refine EvQ.lift (fun _ zn => X.pcallC (s2) rfl X.cq rfl X.al rfl zn) ?_ | refine EvQ.lift (fun _ zn => X.pcallT (s2) (by decide) X.cq rfl X.al rfl zn) ?_ | refine EvQ.lift (fun _ zn => X.call rfl X.al (s2) zn) ?_ | refine EvQ.lift (fun _ zn => X.pcall (s3) X.cq rfl X.al rfl zn) ?_ | refine EvQ.lift (fun _ zn => X.pcallG (s3) rfl X.cq rfl X.al rfl zn) ?_ | refine EvQ.lift (fun _ zn => X.pcallC (s3) rfl X.cq rfl X.al rfl zn) ?_ | refine EvQ.lift (fun _ zn => X.pcallT (s3) (by decide) X.cq rfl X.al rfl zn) ?_ | refine EvQ.lift (fun _ zn => X.call rfl X.al (s3) zn) ?_ | (refine EvQ.pickB rfl rfl rfl ?_) | (refine EvQ.cond rfl (fun h => ?_) (fun h => ?_) <;> ((first | replace h := X.nm h | skip); try have hne := ne_len h)) | (refine EvQ.g1 rfl (fun h => ?_) (fun h => ?_) <;> ((first | replace h := X.nm h | skip); try have hne := ne_len h)) | (refine EvQ.pick rfl (fun _ => rfl) (fun _ => rfl) (fun h => ?_) (fun h => ?_) <;> ((first | replace h := X.nm h | skip); try have hne := ne_len h)) | refine EvQ.fin X.rs ?_ | refine EvQ.fin1 (fun _ => rfl) rfl ?_)
  all_goals
    refine PQ.bo ?_
    simp [*]
set_option maxHeartbeats 8000000 in
theorem same58_ok (a : List Fld) (hB : BOK a) (hA : ∀ i n, (allF (a.take i) n).length ≤ 1000000000) : EvP F 58 c58 [.vs 2 (fds a), .vs 2 (fds a)] [.bo true] := by
  have hl := hB.1
  refine EvP.ofQ d58 rfl rfl rfl ?_
  repeat' (first | refine EvQ.run ?_ | (refine EvQ.pickB rfl rfl rfl ?_) | (refine EvQ.cond rfl (fun h => ?_) (fun h => ?_) <;> ((first | replace h := X.nm h | skip); try have hne := ne_len h)) | (refine EvQ.g1 rfl (fun h => ?_) (fun h => ?_) <;> ((first | replace h := X.nm h | skip); try have hne := ne_len h)) | (refine EvQ.pick rfl (fun _ => rfl) (fun _ => rfl) (fun h => ?_) (fun h => ?_) <;> ((first | replace h := X.nm h | skip); try have hne := ne_len h)) | refine EvQ.fin X.rs ?_ | refine EvQ.fin1 (fun _ => rfl) rfl ?_)
  refine EvQ.loop (QL := XtQ 0 [] (fun _ _ => True)) ?_ ?_
  · refine EvL.invQ (S := Nat) (fun i => [(0, .vs 2 (fds a)), (1, .vs 2 (fds a)), (5, .it .i64 (Int.ofNat i))]) (fun i _ _ => i ≤ a.length) (fun i => a.length - i) _ ?_ 0 _ _ _ (Nat.zero_le _) X.kv
    intro i lo hp h1
    have hal := rall_ok2 a (a.getD i f0).1 hB (fun i => hA i _)
    repeat' (first | refine EvQ.run ?_ | refine EvQ.lift (fun _ zn => X.pcall (hal) X.cq rfl X.al rfl zn) ?_ | refine EvQ.lift (fun _ zn => X.pcallG (hal) rfl X.cq rfl X.al rfl zn) ?_ | refine EvQ.lift (fun _ zn => X.pcallC (hal) rfl X.cq rfl X.al rfl zn) ?_ | refine EvQ.lift (fun _ zn => X.pcallT (hal) (by decide) X.cq rfl X.al rfl zn) ?_ | refine EvQ.lift (fun _ zn => X.call rfl X.al (hal) zn) ?_ | (refine EvQ.pickB rfl rfl rfl ?_) | (refine EvQ.cond rfl (fun h => ?_) (fun h => ?_) <;> ((first | replace h := X.nm h | skip); try have hne := ne_len h)) | (refine EvQ.g1 rfl (fun h => ?_) (fun h => ?_) <;> ((first | replace h := X.nm h | skip); try have hne := ne_len h)) | (refine EvQ.pick rfl (fun _ => rfl) (fun _ => rfl) (fun h => ?_) (fun h => ?_) <;> ((first | replace h := X.nm h | skip); try have hne := ne_len h)) | refine EvQ.fin X.rs ?_ | refine EvQ.fin1 (fun _ => rfl) rfl ?_)
    all_goals first
      | exact EvQ.go (i + 1) X.kv (by omega) (by omega)
      | exact EvQ.xt (.mk' X.kv trivial)
      | (exfalso; simp at *; done)
      | trace_state
  · rintro _ ⟨tm, lo, hp, rfl, -⟩
    repeat' (first | refine EvQ.run ?_ | (refine EvQ.pickB rfl rfl rfl ?_) | (refine EvQ.cond rfl (fun h => ?_) (fun h => ?_) <;> ((first | replace h := X.nm h | skip); try have hne := ne_len h)) | (refine EvQ.g1 rfl (fun h => ?_) (fun h => ?_) <;> ((first | replace h := X.nm h | skip); try have hne := ne_len h)) | (refine EvQ.pick rfl (fun _ => rfl) (fun _ => rfl) (fun h => ?_) (fun h => ?_) <;> ((first | replace h := X.nm h | skip); try have hne := ne_len h)) | refine EvQ.fin X.rs ?_ | refine EvQ.fin1 (fun _ => rfl) rfl ?_)
    exact PQ.bo rfl
def wantP (f : Fld) : Bool := !decide (f.1 = sAge)
def LSt (r4 r9 r10 r11 : List V) : Lo := lset (lset (lset (lset (fun _ => none) 4 r4) 9 r9) 10 r10) 11 r11
set_option maxHeartbeats 16000000 in
theorem twice_loop (hp0 : Hp) (e : En) (r9 r10 r11 : List V) (hlim : hp0.lim ≤ hp0.next) (hl : e.s.fs.length ≤ 1000000) (lo : Lo) (hlo : shed [5] lo = LSt (rowEn e) r9 r10 r11)
    (tm : Tm) (hk : [4, 9, 10, 11, 12, 13].map (fun x => (x, tm x)) = [(4, .lp 4 0), (9, .lp 9 0), (10, .lp 10 0), (11, .lp 11 0), (12, .ns), (13, .it .i64 (Int.ofNat 0))]) :
    ∃ r, EvL F [4, 9, 10, 11, 12, 13] [5] (lpB (d15.body.lps.getD 0 .skip)) ⟨tm, lo, hp0⟩ r ∧ ∃ v, XtQ 0 [(4, .lp 4 0), (9, .lp 9 0), (10, .lp 10 0), (11, .lp 11 0), (12, v)] (fun lo hp => lo = LSt (rowEn e) r9 r10 r11 ∧ Nw hp0 hp v (fds (e.s.fs.filter wantP))) r := by
  refine EvL.invQ (S := Nat × V) (fun x => [(4, .lp 4 0), (9, .lp 9 0), (10, .lp 10 0), (11, .lp 11 0), (12, x.2), (13, .it .i64 (Int.ofNat x.1))])
    (fun x lo hp => shed [5] lo = LSt (rowEn e) r9 r10 r11 ∧ x.1 ≤ e.s.fs.length ∧ Nw hp0 hp x.2 (fds ((e.s.fs.take x.1).filter wantP))) (fun x => e.s.fs.length - x.1) _ ?_ (0, .ns) tm lo hp0 ⟨hlo, Nat.zero_le _, .ns⟩ hk
  intro ⟨i, v⟩ lo hp ⟨e1, e2, hN⟩
  simp only at e2 hN
  rw [e1]
  have hO := hN.o
  have hel := hO.lp
  have hlm : hp.lim ≤ hp.next := by rw [hN.u.lim]; have := hN.u.next; omega
  have hfd := fun h : i < e.s.fs.length => filter_getD (p := wantP) h
  have hn : ((e.s.fs.take i).filter wantP).length ≤ 1000000 := by
    have := List.length_filter_le wantP (e.s.fs.take i)
    rw [List.length_take] at this; omega
  have hsh : shed [5] (LSt (rowEn e) r9 r10 r11) = LSt (rowEn e) r9 r10 r11 := shed_eq fun t => ⟨fun h => by rw [hasN1 h]; rfl, fun h => rfl⟩
  repeat' (first | refine EvQ.run ?_ | (refine EvQ.pickB rfl rfl rfl ?_) | (refine EvQ.cond rfl (fun h => ?_) (fun h => ?_) <;> ((first | replace h := X.nm h | skip); try have hne := ne_len h)) | (refine EvQ.g1 rfl (fun h => ?_) (fun h => ?_) <;> ((first | replace h := X.nm h | skip); try have hne := ne_len h)) | (refine EvQ.pick rfl (fun _ => rfl) (fun _ => rfl) (fun h => ?_) (fun h => ?_) <;> ((first | replace h := X.nm h | skip); try have hne := ne_len h)) | refine EvQ.fin X.rs ?_ | refine EvQ.fin1 (fun _ => rfl) rfl ?_)
  all_goals first
    | (refine EvQ.go (i + 1, _) X.kv ⟨hsh, by show i + 1 ≤ _; omega, ?_⟩ (by show e.s.fs.length - (i + 1) < e.s.fs.length - i; omega)
       show Nw _ _ _ (fds ((e.s.fs.take (i + 1)).filter wantP))
       rw [hfd (by assumption), if_pos (by (clear hfd; generalize e.s.fs.getD i f0 = f at *; unfold wantP; first | (simp [*]; done) | (simp [*]; assumption) | (simp [*]; intros; rfl))), ← fds_append]
       exact hN.put hlim)
    | (refine EvQ.go (i + 1, v) X.kv ⟨hsh, by show i + 1 ≤ _; omega, ?_⟩ (by show e.s.fs.length - (i + 1) < e.s.fs.length - i; omega)
       show Nw _ _ _ (fds ((e.s.fs.take (i + 1)).filter wantP))
       rw [hfd (by assumption), if_neg (by (clear hfd; generalize e.s.fs.getD i f0 = f at *; unfold wantP; first | (simp [*]; done) | (simp [*]; assumption) | (simp [*]; rfl)))]
       exact hN)
    | (refine EvQ.xt ⟨v, XtQ.mk' X.kv ⟨rfl, ?_⟩⟩
       rw [List.take_of_length_le (by omega)] at hN
       exact hN)
    | trace_state
theorem eqRq_self (q : Rq) : eqRq q q = true := decide_eq_true ⟨rfl, rfl, rfl, rfl, rfl, rfl⟩
set_option maxHeartbeats 16000000 in
theorem twice_run (e : En) (s : Rs) (a c : Int) (h1 : FB e.q.fs 1100000) (h2 : FB e.s.fs 1100000) (h3 : FB s.fs 1100000) : ∃ h, EvD F (stepD d15 [.ag (rowEn e), .ag (rowRs s), .it .i64 a, .it .i64 c] h0) (Rt (.bo true) h) := by
  have lg := lg_ok e ⟨[], [], [], [], [], 0⟩ s.fs (h1.bok (by decide)) (h2.bok (by decide)) ⟨Nat.zero_le _, fun f hf => absurd hf List.not_mem_nil⟩ (h3.bok (by decide))
  have c1 := rowEn_clo e
  have c2 := rowRs_clo s
  have hz : lkB [] = true := by unfold lkB; rfl
  rw [show (Rq.mk [] [] [] [] [] 0).fs = [] from rfl, hz, Bool.true_and] at lg
  have zc : CloL2 [.one, .one, .one, .one, .sl [.one, .one], .one] [.st [], .st [], .st [], .st [], .ns, .it .i64 0] (rowRq ⟨[], [], [], [], [], 0⟩) := .cons (fun _ _ => rfl) (.cons (fun _ _ => rfl) (.cons (fun _ _ => rfl) (.cons (fun _ _ => rfl) (.cons (clo_ns [.one, .one]) (.cons (fun _ _ => rfl) .nil)))))
  refine EvQ.law ?_
  refine EvQ.run ?_
  refine EvQ.lift (fun _ zn => X.pcall lg (.gs c1 (.gs2 zc (.s (clo_vs [.one, .one] _) (.nil _)))) rfl X.al rfl zn) ?_
  cases hb : (smB e && lkB s.fs) with
  | false =>
    clear lg
    repeat' (first | refine EvQ.run ?_ | refine EvQ.lift (fun _ zn => X.pcall (mergeruns_ok) X.cq rfl X.al rfl zn) ?_ | refine EvQ.lift (fun _ zn => X.pcallG (mergeruns_ok) rfl X.cq rfl X.al rfl zn) ?_ | refine EvQ.lift (fun _ zn => X.pcallC (mergeruns_ok) rfl X.cq rfl X.al rfl zn) ?_ | refine EvQ.lift (fun _ zn => X.pcallT (mergeruns_ok) (by decide) X.cq rfl X.al rfl zn) ?_ | refine EvQ.lift (fun _ zn => X.call rfl X.al (mergeruns_ok) zn) ?_ | (refine EvQ.pickB rfl rfl rfl ?_) | (refine EvQ.cond rfl (fun h => ?_) (fun h => ?_) <;> ((first | replace h := X.nm h | skip); try have hne := ne_len h)) | (refine EvQ.g1 rfl (fun h => ?_) (fun h => ?_) <;> ((first | replace h := X.nm h | skip); try have hne := ne_len h)) | (refine EvQ.pick rfl (fun _ => rfl) (fun _ => rfl) (fun h => ?_) (fun h => ?_) <;> ((first | replace h := X.nm h | skip); try have hne := ne_len h)) | refine EvQ.fin X.rs ?_ | refine EvQ.fin1 (fun _ => rfl) rfl ?_)
    exact ⟨_, rfl⟩
  | true =>
    simp only [Bool.and_eq_true] at hb
    obtain ⟨hb, hls⟩ := hb
    simp only [smB, Bool.and_eq_true, decide_eq_true_eq] at hb
    have j1 := lkB_jok hb.1
    have j2 := lkB_jok hb.2.1
    have j3 := lkB_jok hls
    have l1 := j1.1
    have l2 := j2.1
    have l3 := j3.1
    have l4 := renL_len e.s.fs s.fs
    clear lg
    refine EvQ.run ?_
    refine EvQ.call rfl X.al (renew_ok h0 e s a c (.vs 2 (fds e.q.fs)) (.vs 2 (fds e.s.fs)) (.vs 2 (fds s.fs)) (Nat.le_refl _) .vs .vs (.vs _) j3 (by omega) (by omega)) ?_
    rintro _ hp1 ⟨vq1, vf1, rfl, nq1, nf1, d1⟩
    have u1 := nq1.u
    have lim1 : hp1.lim ≤ hp1.next := by rw [u1.lim]; exact Nat.zero_le _
    have kq1 := nq1.o.keep
    have kf1 := nf1.o.keep
    have pq1 := nq1.o.lp
    have pf1 := nf1.o.lp
    refine EvQ.run ?_
    refine EvQ.call rfl X.al (renew_ok hp1 (renE e s a c) s a c vq1 vf1 (.vs 2 (fds s.fs)) lim1 nq1.o.sl nf1.o.sl (.vs _) j3 (by show (renL e.s.fs s.fs).length ≤ _; omega) (by show e.q.fs.length ≤ _; omega)) ?_
    rintro _ hp2 ⟨vq2, vf2, rfl, nq2, nf2, d2⟩
    have u2 := nq2.u
    have lim2 : hp2.lim ≤ hp2.next := by rw [u2.lim]; have := u2.next; omega
    have kq2 := nq2.o.keep
    have kf2 := nf2.o.keep
    have pq2 := nq2.o.lp
    have pf2 := nf2.o.lp
    refine EvQ.run ?_
    refine EvQ.call rfl X.al (renew_ok hp2 e ⟨304, [], 0⟩ a c (.vs 2 (fds e.q.fs)) (.vs 2 (fds e.s.fs)) .ns lim2 .vs .vs .ns ⟨by decide, fun f hf => absurd hf List.not_mem_nil⟩ (by omega) (by omega)) ?_
    rintro _ hp3 ⟨vq3, vf3, rfl, nq3, nf3, d3⟩
    have u3 := nq3.u
    have lim3 : hp3.lim ≤ hp3.next := by rw [u3.lim]; have := u3.next; omega
    have kq3 := nq3.o.keep
    have kf3 := nf3.o.keep
    have pq3 := nq3.o.lp
    have pf3 := nf3.o.lp
    refine EvQ.run ?_
    refine EvQ.loop (twice_loop hp3 e (rowEnV (renE e s a c) vq1 vf1) (rowEnV (renE (renE e s a c) s a c) vq2 vf2) (rowEnV (renE e ⟨304, [], 0⟩ a c) vq3 vf3) lim3 (by omega) _ ?_ _ X.kv) ?_
    · refine shed_eq fun t => ⟨fun h => by rw [hasN1 h]; rfl, fun h => ?_⟩
      unfold LSt
      have h5 : t ≠ 5 := fun e => by subst e; cases h
      by_cases h4 : t = 4
      · subst h4; rfl
      by_cases h9 : t = 9
      · subst h9; rfl
      by_cases h10 : t = 10
      · subst h10; rfl
      by_cases h11 : t = 11
      · subst h11; rfl
      simp only [lset_ne h4, lset_ne h5, lset_ne h9, lset_ne h10, lset_ne h11]
    · rintro _ ⟨vw, tm, lo, hp4, rfl, rfl, nw⟩
      have u4 := nw.u
      have sf1 : Sl hp4 vf1 2 (fds (renL e.s.fs s.fs)) := ((nf1.o.sl.up u2 nf1.o.sl.lt).up u3 (fun id h => by have := nf1.o.lt id h; have := u2.next; omega)).up u4 (fun id h => by have := nf1.o.lt id h; have := u2.next; have := u3.next; omega)
      have sf2 : Sl hp4 vf2 2 (fds (renL (renL e.s.fs s.fs) s.fs)) := (nf2.o.sl.up u3 nf2.o.sl.lt).up u4 (fun id h => by have := nf2.o.lt id h; have := u3.next; omega)
      have sf3 : Sl hp4 vf3 2 (fds (renL e.s.fs [])) := nf3.o.sl.up u4 nf3.o.sl.lt
      have sq1 : Sl hp4 vq1 2 (fds e.q.fs) := ((nq1.o.sl.up u2 nq1.o.sl.lt).up u3 (fun id h => by have := nq1.o.lt id h; have := u2.next; omega)).up u4 (fun id h => by have := nq1.o.lt id h; have := u2.next; have := u3.next; omega)
      have sw : Sl hp4 vw 2 (fds (e.s.fs.filter wantP)) := nw.o.sl
      rw [ren_twice] at sf2
      rw [ren_nil] at sf3
      have hwn : (e.s.fs.filter wantP).length ≤ e.s.fs.length := List.length_filter_le _ _
      obtain ⟨hp5, k5, z5⟩ := sf1.close (ts := [.one, .one]) (fds_clo _) (by rw [fds_length]; simp [depth]; omega)
      obtain ⟨hp6, k6, z6⟩ := (sf2.fz z5).close (ts := [.one, .one]) (fds_clo _) (by rw [fds_length]; simp [depth]; omega)
      have rf3 := ((sf3.fz z5).fz z6).rd
      have rw' := ((sw.fz z5).fz z6).rd
      have rq1 := ((sq1.fz z5).fz z6).rd
      have hwp : (e.s.fs.filter fun f => !decide (f.1 = sAge)) = e.s.fs.filter wantP := rfl
      have pw := nw.o.lp
      have sm := same58_ok (renL e.s.fs s.fs) (renL_bok j2 j3) (renL_all j2 j3)
      have sa := sameR_ok (own := false) hp6 vf3 vw _ _ rf3 rw' (by rw [hwp]; omega) (by omega)
      rw [hwp, decide_eq_true rfl] at sa
      have sr := reqR_ok (own := false) hp6 e.q e.q vq1 (.vs 2 (fds e.q.fs)) rq1 .vs (by omega) (by omega)
      rw [eqRq_self] at sr
      have b1 : beqL e.body e.body = true := by rw [beqLD]; exact decide_eq_true rfl
      have b2 : ieq e.s.k e.s.k = true := by rw [ieqD]; exact decide_eq_true rfl
      clear sf1 sf2 sf3 sq1 sw rf3 rw' rq1 z5 z6 nq1 nf1 nq2 nf2 nq3 nf3 nw d1 d2 d3 u1 u2 u3 u4
      repeat' (first | refine EvQ.run ?_ | refine EvQ.lift (fun _ zn => X.pcall (sm) X.cq rfl X.al rfl zn) ?_ | refine EvQ.lift (fun _ zn => X.pcallG (sm) rfl X.cq rfl X.al rfl zn) ?_ | refine EvQ.lift (fun _ zn => X.pcallC (sm) rfl X.cq rfl X.al rfl zn) ?_ | refine EvQ.lift (fun _ zn => X.pcallT (sm) (by decide) X.cq rfl X.al rfl zn) ?_ | refine EvQ.lift (fun _ zn => X.call rfl X.al (sm) zn) ?_ | refine EvQ.lift (fun _ zn => X.pcall (sa) X.cq rfl X.al rfl zn) ?_ | refine EvQ.lift (fun _ zn => X.pcallG (sa) rfl X.cq rfl X.al rfl zn) ?_ | refine EvQ.lift (fun _ zn => X.pcallC (sa) rfl X.cq rfl X.al rfl zn) ?_ | refine EvQ.lift (fun _ zn => X.pcallT (sa) (by decide) X.cq rfl X.al rfl zn) ?_ | refine EvQ.lift (fun _ zn => X.call rfl X.al (sa) zn) ?_ | refine EvQ.lift (fun _ zn => X.pcall (sr) X.cq rfl X.al rfl zn) ?_ | refine EvQ.lift (fun _ zn => X.pcallG (sr) rfl X.cq rfl X.al rfl zn) ?_ | refine EvQ.lift (fun _ zn => X.pcallC (sr) rfl X.cq rfl X.al rfl zn) ?_ | refine EvQ.lift (fun _ zn => X.pcallT (sr) (by decide) X.cq rfl X.al rfl zn) ?_ | refine EvQ.lift (fun _ zn => X.call rfl X.al (sr) zn) ?_ | refine EvQ.lift (fun _ zn => X.pcall (mergeruns_ok) X.cq rfl X.al rfl zn) ?_ | refine EvQ.lift (fun _ zn => X.pcallG (mergeruns_ok) rfl X.cq rfl X.al rfl zn) ?_ | refine EvQ.lift (fun _ zn => X.pcallC (mergeruns_ok) rfl X.cq rfl X.al rfl zn) ?_ | refine EvQ.lift (fun _ zn => X.pcallT (mergeruns_ok) (by decide) X.cq rfl X.al rfl zn) ?_ | refine EvQ.lift (fun _ zn => X.call rfl X.al (mergeruns_ok) zn) ?_ | (refine EvQ.pickB rfl rfl rfl ?_) | (refine EvQ.cond rfl (fun h => ?_) (fun h => ?_) <;> ((first | replace h := X.nm h | skip); try have hne := ne_len h)) | (refine EvQ.g1 rfl (fun h => ?_) (fun h => ?_) <;> ((first | replace h := X.nm h | skip); try have hne := ne_len h)) | (refine EvQ.pick rfl (fun _ => rfl) (fun _ => rfl) (fun h => ?_) (fun h => ?_) <;> ((first | replace h := X.nm h | skip); try have hne := ne_len h)) | refine EvQ.fin X.rs ?_ | refine EvQ.fin1 (fun _ => rfl) rfl ?_)
      exact ⟨_, rfl⟩
theorem twice_law (xs : List V) (h : ShP [(true, [.st, .st, .st, .st, .sl [.st, .st], .it .i64, .it .i64, .sl [.st, .st], .it .i64, .st, .it .i64, .it .i64]), (true, [.it .i64, .sl [.st, .st], .it .i64]), (false, [.it .i64]), (false, [.it .i64])] xs) (hb : sizP xs ≤ 1048576) : ∃ L k hp', runF (callF F L k) L c15 xs h0 = .ret (.bo true) hp' := by
  obtain ⟨v, r, rfl, h1, h, e1⟩ := h.grp'
  obtain ⟨w, r, rfl, h2, h, e2⟩ := h.grp'
  obtain ⟨y, r, rfl, h3, h, e3⟩ := h.one'
  obtain ⟨z, r, rfl, h4, h, e4⟩ := h.one'
  cases h.nil'
  obtain ⟨e, rfl, f1, f2, t⟩ := en_of h1
  obtain ⟨s, rfl, f3⟩ := rs_of h2
  obtain ⟨a, rfl, _⟩ := int_of h3
  obtain ⟨c, rfl, _⟩ := int_of h4
  have fb : ∀ {l : List Fld} {m : Nat}, FB l m → m ≤ 1100000 → FB l 1100000 := fun {l} {m} z hz => ⟨z.t, by have := z.n; omega, fun f hf => by have := z.s f hf; omega⟩
  exact law_of d15 rfl (twice_run e s a c (fb f1 (by omega)) (fb f2 (by omega)) (fb f3 (by omega)))
end Go.Proofs.Ytcbiplmgaiipgaa
