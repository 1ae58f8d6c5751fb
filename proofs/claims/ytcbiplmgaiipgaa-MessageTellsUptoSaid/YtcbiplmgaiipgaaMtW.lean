import Derived.Test.YtcbiplmgaiipgaaEvE
import Derived.Test.YtcbiplmgaiipgaaRefS
import Derived.Test.YtcbiplmgaiipgaaRefQ
import Derived.Test.YtcbiplmgaiipgaaRefN
import Derived.Test.YtcbiplmgaiipgaaRoom
import Derived.Test.YtcbiplmgaiipgaaRdr
import Derived.Test.YtcbiplmgaiipgaaHelp
import Derived.Test.YtcbiplmgaiipgaaEnt
set_option linter.unusedVariables false
set_option linter.unusedSimpArgs false
set_option linter.unusedSectionVars false
-- MessageTells: the walk
namespace Go.Proofs.Ytcbiplmgaiipgaa
open Go hiding Fn
open Ev tab
def sM : Fld := ([109], [])
theorem eqRq_self' (q : Rq) : eqRq q q = true := decide_eq_true ⟨rfl, rfl, rfl, rfl, rfl, rfl⟩
theorem eqRs_self' (s : Rs) : eqRs s s = true := decide_eq_true ⟨rfl, rfl, rfl⟩
theorem beq_no (b : Bool) : (!(b == b)) = false := by cases b <;> rfl
theorem colon_named {f : Fld} (h : colonB f = true) : namedB f.1 = false := by
  obtain ⟨nm, vl⟩ := f
  simp only [colonB, Bool.and_eq_true, decide_eq_true_eq] at h
  obtain ⟨h1, h2⟩ := h
  cases nm with
  | nil => exact absurd h1 (by simp)
  | cons c r =>
    simp only [List.getD_cons_zero] at h2
    subst h2
    have : signB 58 = false := by decide
    unfold namedB tokenB
    rw [List.all_cons, this]
    rfl
theorem colon_plain {l : List Fld} (h : l.any colonB = true) : plainF l = false := by
  obtain ⟨f, hf, hc⟩ := List.any_eq_true.1 h
  unfold plainF
  rw [List.all_eq_false]
  refine ⟨f, hf, ?_⟩
  unfold fplB
  rw [colon_named hc]
  simp
attribute [local irreducible] EvP EvD EvL EvC evGds evLs C.run sK bK gK pK fK lpB stepD lightB plainF reqF resF roomy
def LSm (r : List V) : Lo := lset (fun _ => none) 5 r
set_option maxHeartbeats 16000000 in
theorem mt_loop (hp0 : Hp) (m s a p : List Nat) (n : Int) (vf : V) (L0 l full : List Fld) (hO0 : Ow hp0 vf 2 (fds L0)) (hl : L0.length ≤ 1000000) (lo : Lo) (hlo : shed [7, 9, 11] lo = LSm [.st m, .st s, .st a, .st p, vf, .it .i64 n])
    (tm : Tm) (hk : [0, 3, 5, 15].map (fun x => (x, tm x)) = [(0, .vs 2 (fds l)), (3, .vs 2 (fds full)), (5, .lp 5 0), (15, .it .i64 (Int.ofNat 0))]) :
    ∃ r, EvL F [0, 3, 5, 15] [7, 9, 11] (lpB (d7.body.lps.getD 0 .skip)) ⟨tm, lo, hp0⟩ r ∧ XtQ 0 [(0, .vs 2 (fds l)), (3, .vs 2 (fds full))] (fun lo hp => True) r := by
  refine EvL.invQ (S := Nat × List Fld) (fun x => [(0, .vs 2 (fds l)), (3, .vs 2 (fds full)), (5, .lp 5 0), (15, .it .i64 (Int.ofNat x.1))])
    (fun x lo hp => shed [7, 9, 11] lo = LSm [.st m, .st s, .st a, .st p, vf, .it .i64 n] ∧ x.1 ≤ L0.length ∧ x.2.length = L0.length ∧ Ow hp vf 2 (fds x.2)) (fun x => L0.length - x.1) _ ?_ (0, L0) tm lo hp0 ⟨hlo, Nat.zero_le _, rfl, hO0⟩ hk
  intro ⟨i, L⟩ lo hp ⟨e1, e2, e3, hO⟩
  simp only at e2 e3 hO
  rw [e1]
  have of := of_ok [116, 117, 114, 110, 101, 100] []
  rcases hO with ⟨rfl, hr⟩ | ⟨id, rfl, q1, q2, q3⟩
  · have h0 : L.length = 0 := by have := congrArg List.length hr; rw [fds_length] at this; exact this
    repeat' (first | refine EvQ.run ?_ | refine EvQ.lift (fun _ zn => X.pcall (of) X.cq rfl X.al rfl zn) ?_ | refine EvQ.lift (fun _ zn => X.pcallG (of) rfl X.cq rfl X.al rfl zn) ?_ | refine EvQ.lift (fun _ zn => X.pcallC (of) rfl X.cq rfl X.al rfl zn) ?_ | refine EvQ.lift (fun _ zn => X.pcallT (of) (by decide) X.cq rfl X.al rfl zn) ?_ | refine EvQ.lift (fun _ zn => X.call rfl X.al (of) zn) ?_ | (refine EvQ.pickB rfl rfl rfl ?_) | (refine EvQ.cond rfl (fun h => ?_) (fun h => ?_) <;> ((first | replace h := X.nm h | skip); try have hne := ne_len h)) | (refine EvQ.g1 rfl (fun h => ?_) (fun h => ?_) <;> ((first | replace h := X.nm h | skip); try have hne := ne_len h)) | (refine EvQ.pick rfl (fun _ => rfl) (fun _ => rfl) (fun h => ?_) (fun h => ?_) <;> ((first | replace h := X.nm h | skip); try have hne := ne_len h)) | refine EvQ.fin X.rs ?_ | refine EvQ.fin1 (fun _ => rfl) rfl ?_)
    exact EvQ.xt (XtQ.mk' X.kv trivial)
  · repeat' (first | refine EvQ.run ?_ | refine EvQ.lift (fun _ zn => X.pcall (of) X.cq rfl X.al rfl zn) ?_ | refine EvQ.lift (fun _ zn => X.pcallG (of) rfl X.cq rfl X.al rfl zn) ?_ | refine EvQ.lift (fun _ zn => X.pcallC (of) rfl X.cq rfl X.al rfl zn) ?_ | refine EvQ.lift (fun _ zn => X.pcallT (of) (by decide) X.cq rfl X.al rfl zn) ?_ | refine EvQ.lift (fun _ zn => X.call rfl X.al (of) zn) ?_ | (refine EvQ.pickB rfl rfl rfl ?_) | (refine EvQ.cond rfl (fun h => ?_) (fun h => ?_) <;> ((first | replace h := X.nm h | skip); try have hne := ne_len h)) | (refine EvQ.g1 rfl (fun h => ?_) (fun h => ?_) <;> ((first | replace h := X.nm h | skip); try have hne := ne_len h)) | (refine EvQ.pick rfl (fun _ => rfl) (fun _ => rfl) (fun h => ?_) (fun h => ?_) <;> ((first | replace h := X.nm h | skip); try have hne := ne_len h)) | refine EvQ.fin X.rs ?_ | refine EvQ.fin1 (fun _ => rfl) rfl ?_)
    · refine EvQ.go (i + 1, L.set i ([116, 117, 114, 110, 101, 100], [])) X.kv ⟨?_, by show i + 1 ≤ _; omega, by show (L.set i _).length = _; rw [List.length_set]; exact e3, .inr ⟨id, ?_, q1, q2, ?_⟩⟩ (by show L0.length - (i + 1) < L0.length - i; omega)
      · exact shed_eq fun t => ⟨fun h => by
          unfold LSm
          have h5 : t ≠ 5 := fun e => by subst e; cases h
          rw [lset_ne h5], fun h => rfl⟩
      · rw [fds_length, fds_length, List.length_set]
      · rw [hget_set, ← fds_set]
        show some (Bk.mk 2 false ((fds L).set (0 + i) _)) = _
        rw [Nat.zero_add]; rfl
    · exact EvQ.xt (XtQ.mk' X.kv trivial)
theorem flds_le (l : List Fld) : (fldsQ (reqF l)).length ≤ l.length := by
  unfold reqF
  split
  · exact Nat.zero_le _
  · split
    · show (restL (l.drop (kOf l))).length ≤ _
      unfold restL
      split
      · exact Nat.zero_le _
      · rw [List.length_drop]; omega
    · exact Nat.zero_le _
theorem rowS_le (l : List Fld) : ∃ k fs n, rowS (resF l) = [.it .i64 k, .vs 2 (fds fs), .it .i64 n] ∧ fs.length ≤ l.length := by
  unfold resF
  cases l with
  | nil => exact ⟨0, [], 0, rfl, Nat.le_refl _⟩
  | cons f r =>
    simp only
    split
    · refine ⟨_, restL r, _, rfl, ?_⟩
      unfold restL
      split
      · exact Nat.zero_le _
      · rw [List.length_cons]; omega
    · exact ⟨0, [], 0, rfl, Nat.zero_le _⟩
set_option maxHeartbeats 32000000 in
theorem mt_run (l : List Fld) (hl : FB l 1100000) : ∃ h, EvD F (stepD d7 [.vs 2 (fds l)] h0) (Rt (.bo true) h) := by
  have lg := mlight_ok l (by have := hl.n; omega) (fun f hf => by have := hl.s f hf; omega)
  refine EvQ.law ?_
  cases hb : lightB l with
  | false =>
    rw [hb] at lg
    repeat' (first | refine EvQ.run ?_ | refine EvQ.lift (fun _ zn => X.pcall (lg) X.cq rfl X.al rfl zn) ?_ | refine EvQ.lift (fun _ zn => X.pcallG (lg) rfl X.cq rfl X.al rfl zn) ?_ | refine EvQ.lift (fun _ zn => X.pcallC (lg) rfl X.cq rfl X.al rfl zn) ?_ | refine EvQ.lift (fun _ zn => X.pcallT (lg) (by decide) X.cq rfl X.al rfl zn) ?_ | refine EvQ.lift (fun _ zn => X.call rfl X.al (lg) zn) ?_ | refine EvQ.lift (fun _ zn => X.pcall (mruns_ok) X.cq rfl X.al rfl zn) ?_ | refine EvQ.lift (fun _ zn => X.pcallG (mruns_ok) rfl X.cq rfl X.al rfl zn) ?_ | refine EvQ.lift (fun _ zn => X.pcallC (mruns_ok) rfl X.cq rfl X.al rfl zn) ?_ | refine EvQ.lift (fun _ zn => X.pcallT (mruns_ok) (by decide) X.cq rfl X.al rfl zn) ?_ | refine EvQ.lift (fun _ zn => X.call rfl X.al (mruns_ok) zn) ?_ | (refine EvQ.pickB rfl rfl rfl ?_) | (refine EvQ.cond rfl (fun h => ?_) (fun h => ?_) <;> ((first | replace h := X.nm h | skip); try have hne := ne_len h)) | (refine EvQ.g1 rfl (fun h => ?_) (fun h => ?_) <;> ((first | replace h := X.nm h | skip); try have hne := ne_len h)) | (refine EvQ.pick rfl (fun _ => rfl) (fun _ => rfl) (fun h => ?_) (fun h => ?_) <;> ((first | replace h := X.nm h | skip); try have hne := ne_len h)) | refine EvQ.fin X.rs ?_ | refine EvQ.fin1 (fun _ => rfl) rfl ?_)
    exact ⟨_, rfl⟩
  | true =>
    rw [hb] at lg
    obtain ⟨fok, n1, n2⟩ := light_fok hl.t hb
    have of := of_ok [109] []
    have rm := room_ok l sM (by omega)
    have hrl := roomy_len l sM
    have hll := fds_length l
    have ht : (roomy l sM).take l.length = l := by unfold roomy; rw [List.take_left]
    have ic := intact_ok l sM (by omega)
    obtain ⟨v1, hp1, rq, ⟨w, ev, hO, hlim⟩⟩ := request_rw (own := false) l fok
    have hfl := flds_le l
    obtain ⟨m, s, a, p, n, e1, e2⟩ : ∃ m s a p n, rowQV (reqF l) w = [.st m, .st s, .st a, .st p, w, .it .i64 n] ∧ rowQ (reqF l) = [.st m, .st s, .st a, .st p, .vs 2 (fds (fldsQ (reqF l))), .it .i64 n] := by
      cases reqF l with
      | none => exact ⟨_, _, _, _, _, rfl, rfl⟩
      | some q => obtain ⟨h, fs, n⟩ := q; exact ⟨_, _, _, _, _, rfl, rfl⟩
    obtain ⟨k, fs2, n3, e3, hl2⟩ := rowS_le l
    have rs := response_ok l fok
    have rrq := rrequest_ok l fok
    have rrs := rresponse_ok l fok
    have ba := bare_ok l fok
    have tr := trail_ok l fok
    have rp := rplain_ok l fok
    rw [e1] at ev
    subst ev
    rw [e2] at rrq
    rw [e3] at rs rrs
    have hcp := colon_plain (l := l)
    have hk0 : l.any colonB = false → kOf l = 0 := kOf_none
    generalize reqF l = Q1 at *
    generalize hL0 : fldsQ Q1 = L0 at *
    generalize Q1.isSome = b1 at *
    generalize (resF l).isSome = b2 at *
    have nb1 := beq_no b1
    have nb2 := beq_no b2
    have wl := hO.lp
    have wk := hO.keep
    have wc := hO.cells
    have sr := reqR_ok (own := false) hp1 ⟨m, s, a, p, L0, n⟩ ⟨m, s, a, p, L0, n⟩ w (.vs 2 (fds L0)) hO.sl.rd .vs (by show L0.length ≤ _; omega) (by show L0.length ≤ _; omega)
    have ss := resR_ok (own := false) hp1 ⟨k, fs2, n3⟩ ⟨k, fs2, n3⟩ (.vs 2 (fds fs2)) (.vs 2 (fds fs2)) .vs .vs (by show fs2.length ≤ _; omega) (by show fs2.length ≤ _; omega)
    rw [eqRq_self'] at sr
    rw [eqRs_self'] at ss
    clear e1 e2 e3
    have wd := fun (lo : Lo) hlo tm hk => mt_loop hp1 m s a p n w L0 l (roomy l sM) hO (by omega) lo hlo tm hk
    refine EvQ.run ?_
    first | refine EvQ.lift (fun _ zn => X.pcall (lg) X.cq rfl X.al rfl zn) ?_ | refine EvQ.lift (fun _ zn => X.pcallG (lg) rfl X.cq rfl X.al rfl zn) ?_ | refine EvQ.lift (fun _ zn => X.pcallC (lg) rfl X.cq rfl X.al rfl zn) ?_ | refine EvQ.lift (fun _ zn => X.pcallT (lg) (by decide) X.cq rfl X.al rfl zn) ?_ | refine EvQ.lift (fun _ zn => X.call rfl X.al (lg) zn) ?_
    try refine EvQ.run ?_
    first | refine EvQ.lift (fun _ zn => X.pcall (of) X.cq rfl X.al rfl zn) ?_ | refine EvQ.lift (fun _ zn => X.pcallG (of) rfl X.cq rfl X.al rfl zn) ?_ | refine EvQ.lift (fun _ zn => X.pcallC (of) rfl X.cq rfl X.al rfl zn) ?_ | refine EvQ.lift (fun _ zn => X.pcallT (of) (by decide) X.cq rfl X.al rfl zn) ?_ | refine EvQ.lift (fun _ zn => X.call rfl X.al (of) zn) ?_
    try refine EvQ.run ?_
    first | refine EvQ.lift (fun _ zn => X.pcall (rm) X.cq rfl X.al rfl zn) ?_ | refine EvQ.lift (fun _ zn => X.pcallG (rm) rfl X.cq rfl X.al rfl zn) ?_ | refine EvQ.lift (fun _ zn => X.pcallC (rm) rfl X.cq rfl X.al rfl zn) ?_ | refine EvQ.lift (fun _ zn => X.pcallT (rm) (by decide) X.cq rfl X.al rfl zn) ?_ | refine EvQ.lift (fun _ zn => X.call rfl X.al (rm) zn) ?_
    try refine EvQ.run ?_
    rw [ht]
    first | refine EvQ.lift (fun _ zn => X.pcall (rq) X.cq rfl X.al rfl zn) ?_ | refine EvQ.lift (fun _ zn => X.pcallG (rq) rfl X.cq rfl X.al rfl zn) ?_ | refine EvQ.lift (fun _ zn => X.pcallC (rq) rfl X.cq rfl X.al rfl zn) ?_ | refine EvQ.lift (fun _ zn => X.pcallT (rq) (by decide) X.cq rfl X.al rfl zn) ?_ | refine EvQ.lift (fun _ zn => X.call rfl X.al (rq) zn) ?_
    try refine EvQ.run ?_
    first | refine EvQ.lift (fun _ zn => X.pcall (rs) X.cq rfl X.al rfl zn) ?_ | refine EvQ.lift (fun _ zn => X.pcallG (rs) rfl X.cq rfl X.al rfl zn) ?_ | refine EvQ.lift (fun _ zn => X.pcallC (rs) rfl X.cq rfl X.al rfl zn) ?_ | refine EvQ.lift (fun _ zn => X.pcallT (rs) (by decide) X.cq rfl X.al rfl zn) ?_ | refine EvQ.lift (fun _ zn => X.call rfl X.al (rs) zn) ?_
    try refine EvQ.run ?_
    first | refine EvQ.lift (fun _ zn => X.pcall (rrq) X.cq rfl X.al rfl zn) ?_ | refine EvQ.lift (fun _ zn => X.pcallG (rrq) rfl X.cq rfl X.al rfl zn) ?_ | refine EvQ.lift (fun _ zn => X.pcallC (rrq) rfl X.cq rfl X.al rfl zn) ?_ | refine EvQ.lift (fun _ zn => X.pcallT (rrq) (by decide) X.cq rfl X.al rfl zn) ?_ | refine EvQ.lift (fun _ zn => X.call rfl X.al (rrq) zn) ?_
    try refine EvQ.run ?_
    first | refine EvQ.lift (fun _ zn => X.pcall (rrs) X.cq rfl X.al rfl zn) ?_ | refine EvQ.lift (fun _ zn => X.pcallG (rrs) rfl X.cq rfl X.al rfl zn) ?_ | refine EvQ.lift (fun _ zn => X.pcallC (rrs) rfl X.cq rfl X.al rfl zn) ?_ | refine EvQ.lift (fun _ zn => X.pcallT (rrs) (by decide) X.cq rfl X.al rfl zn) ?_ | refine EvQ.lift (fun _ zn => X.call rfl X.al (rrs) zn) ?_
    try refine EvQ.run ?_
    first | refine EvQ.lift (fun _ zn => X.pcall (ba) X.cq rfl X.al rfl zn) ?_ | refine EvQ.lift (fun _ zn => X.pcallG (ba) rfl X.cq rfl X.al rfl zn) ?_ | refine EvQ.lift (fun _ zn => X.pcallC (ba) rfl X.cq rfl X.al rfl zn) ?_ | refine EvQ.lift (fun _ zn => X.pcallT (ba) (by decide) X.cq rfl X.al rfl zn) ?_ | refine EvQ.lift (fun _ zn => X.call rfl X.al (ba) zn) ?_
    try refine EvQ.run ?_
    first | refine EvQ.lift (fun _ zn => X.pcall (sr) X.cq rfl X.al rfl zn) ?_ | refine EvQ.lift (fun _ zn => X.pcallG (sr) rfl X.cq rfl X.al rfl zn) ?_ | refine EvQ.lift (fun _ zn => X.pcallC (sr) rfl X.cq rfl X.al rfl zn) ?_ | refine EvQ.lift (fun _ zn => X.pcallT (sr) (by decide) X.cq rfl X.al rfl zn) ?_ | refine EvQ.lift (fun _ zn => X.call rfl X.al (sr) zn) ?_
    try refine EvQ.run ?_
    first | refine EvQ.lift (fun _ zn => X.pcall (ss) X.cq rfl X.al rfl zn) ?_ | refine EvQ.lift (fun _ zn => X.pcallG (ss) rfl X.cq rfl X.al rfl zn) ?_ | refine EvQ.lift (fun _ zn => X.pcallC (ss) rfl X.cq rfl X.al rfl zn) ?_ | refine EvQ.lift (fun _ zn => X.pcallT (ss) (by decide) X.cq rfl X.al rfl zn) ?_ | refine EvQ.lift (fun _ zn => X.call rfl X.al (ss) zn) ?_
    try refine EvQ.run ?_
    cases hc : l.any colonB with
    | true =>
      rw [hc, hcp hc] at tr
      rw [hcp hc] at rp
      first | refine EvQ.lift (fun _ zn => X.pcall (tr) X.cq rfl X.al rfl zn) ?_ | refine EvQ.lift (fun _ zn => X.pcallG (tr) rfl X.cq rfl X.al rfl zn) ?_ | refine EvQ.lift (fun _ zn => X.pcallC (tr) rfl X.cq rfl X.al rfl zn) ?_ | refine EvQ.lift (fun _ zn => X.pcallT (tr) (by decide) X.cq rfl X.al rfl zn) ?_ | refine EvQ.lift (fun _ zn => X.call rfl X.al (tr) zn) ?_
      try refine EvQ.run ?_
      generalize kOf l = K at *
      repeat' (first | refine EvQ.run ?_ | refine EvQ.lift (fun _ zn => X.pcall (rp) X.cq rfl X.al rfl zn) ?_ | refine EvQ.lift (fun _ zn => X.pcallG (rp) rfl X.cq rfl X.al rfl zn) ?_ | refine EvQ.lift (fun _ zn => X.pcallC (rp) rfl X.cq rfl X.al rfl zn) ?_ | refine EvQ.lift (fun _ zn => X.pcallT (rp) (by decide) X.cq rfl X.al rfl zn) ?_ | refine EvQ.lift (fun _ zn => X.call rfl X.al (rp) zn) ?_ | (refine EvQ.pickB rfl rfl rfl ?_) | (refine EvQ.cond rfl (fun h => ?_) (fun h => ?_) <;> ((first | replace h := X.nm h | skip); try have hne := ne_len h)) | (refine EvQ.g1 rfl (fun h => ?_) (fun h => ?_) <;> ((first | replace h := X.nm h | skip); try have hne := ne_len h)) | (refine EvQ.pick rfl (fun _ => rfl) (fun _ => rfl) (fun h => ?_) (fun h => ?_) <;> ((first | replace h := X.nm h | skip); try have hne := ne_len h)) | refine EvQ.fin X.rs ?_ | refine EvQ.fin1 (fun _ => rfl) rfl ?_)
      · skip
        refine EvQ.loop (wd _ ?_ _ X.kv) ?_
        · exact X.lo
        rintro _ ⟨tm, lo, hp2, rfl, -⟩
        clear sr ss
        refine EvQ.run ?_
        first | refine EvQ.lift (fun _ zn => X.pcall (of) X.cq rfl X.al rfl zn) ?_ | refine EvQ.lift (fun _ zn => X.pcallG (of) rfl X.cq rfl X.al rfl zn) ?_ | refine EvQ.lift (fun _ zn => X.pcallC (of) rfl X.cq rfl X.al rfl zn) ?_ | refine EvQ.lift (fun _ zn => X.pcallT (of) (by decide) X.cq rfl X.al rfl zn) ?_ | refine EvQ.lift (fun _ zn => X.call rfl X.al (of) zn) ?_
        try refine EvQ.run ?_
        first | refine EvQ.lift (fun _ zn => X.pcall (ic) X.cq rfl X.al rfl zn) ?_ | refine EvQ.lift (fun _ zn => X.pcallG (ic) rfl X.cq rfl X.al rfl zn) ?_ | refine EvQ.lift (fun _ zn => X.pcallC (ic) rfl X.cq rfl X.al rfl zn) ?_ | refine EvQ.lift (fun _ zn => X.pcallT (ic) (by decide) X.cq rfl X.al rfl zn) ?_ | refine EvQ.lift (fun _ zn => X.call rfl X.al (ic) zn) ?_
        try refine EvQ.run ?_
        first | refine EvQ.lift (fun _ zn => X.pcall (mruns_ok) X.cq rfl X.al rfl zn) ?_ | refine EvQ.lift (fun _ zn => X.pcallG (mruns_ok) rfl X.cq rfl X.al rfl zn) ?_ | refine EvQ.lift (fun _ zn => X.pcallC (mruns_ok) rfl X.cq rfl X.al rfl zn) ?_ | refine EvQ.lift (fun _ zn => X.pcallT (mruns_ok) (by decide) X.cq rfl X.al rfl zn) ?_ | refine EvQ.lift (fun _ zn => X.call rfl X.al (mruns_ok) zn) ?_
        try refine EvQ.run ?_
        refine EvQ.fin X.rs ?_
        exact ⟨_, rfl⟩
      · skip
        refine EvQ.loop (wd _ ?_ _ X.kv) ?_
        · exact X.lo
        rintro _ ⟨tm, lo, hp2, rfl, -⟩
        clear sr ss
        refine EvQ.run ?_
        first | refine EvQ.lift (fun _ zn => X.pcall (of) X.cq rfl X.al rfl zn) ?_ | refine EvQ.lift (fun _ zn => X.pcallG (of) rfl X.cq rfl X.al rfl zn) ?_ | refine EvQ.lift (fun _ zn => X.pcallC (of) rfl X.cq rfl X.al rfl zn) ?_ | refine EvQ.lift (fun _ zn => X.pcallT (of) (by decide) X.cq rfl X.al rfl zn) ?_ | refine EvQ.lift (fun _ zn => X.call rfl X.al (of) zn) ?_
        try refine EvQ.run ?_
        first | refine EvQ.lift (fun _ zn => X.pcall (ic) X.cq rfl X.al rfl zn) ?_ | refine EvQ.lift (fun _ zn => X.pcallG (ic) rfl X.cq rfl X.al rfl zn) ?_ | refine EvQ.lift (fun _ zn => X.pcallC (ic) rfl X.cq rfl X.al rfl zn) ?_ | refine EvQ.lift (fun _ zn => X.pcallT (ic) (by decide) X.cq rfl X.al rfl zn) ?_ | refine EvQ.lift (fun _ zn => X.call rfl X.al (ic) zn) ?_
        try refine EvQ.run ?_
        first | refine EvQ.lift (fun _ zn => X.pcall (mruns_ok) X.cq rfl X.al rfl zn) ?_ | refine EvQ.lift (fun _ zn => X.pcallG (mruns_ok) rfl X.cq rfl X.al rfl zn) ?_ | refine EvQ.lift (fun _ zn => X.pcallC (mruns_ok) rfl X.cq rfl X.al rfl zn) ?_ | refine EvQ.lift (fun _ zn => X.pcallT (mruns_ok) (by decide) X.cq rfl X.al rfl zn) ?_ | refine EvQ.lift (fun _ zn => X.call rfl X.al (mruns_ok) zn) ?_
        try refine EvQ.run ?_
        refine EvQ.fin X.rs ?_
        exact ⟨_, rfl⟩
    | false =>
      rw [hc] at tr
      rw [hk0 hc]
      first | refine EvQ.lift (fun _ zn => X.pcall (tr) X.cq rfl X.al rfl zn) ?_ | refine EvQ.lift (fun _ zn => X.pcallG (tr) rfl X.cq rfl X.al rfl zn) ?_ | refine EvQ.lift (fun _ zn => X.pcallC (tr) rfl X.cq rfl X.al rfl zn) ?_ | refine EvQ.lift (fun _ zn => X.pcallT (tr) (by decide) X.cq rfl X.al rfl zn) ?_ | refine EvQ.lift (fun _ zn => X.call rfl X.al (tr) zn) ?_
      try refine EvQ.run ?_
      generalize plainF l = b3 at *
      have nb3 := beq_no b3
      repeat' (first | refine EvQ.run ?_ | refine EvQ.lift (fun _ zn => X.pcall (rp) X.cq rfl X.al rfl zn) ?_ | refine EvQ.lift (fun _ zn => X.pcallG (rp) rfl X.cq rfl X.al rfl zn) ?_ | refine EvQ.lift (fun _ zn => X.pcallC (rp) rfl X.cq rfl X.al rfl zn) ?_ | refine EvQ.lift (fun _ zn => X.pcallT (rp) (by decide) X.cq rfl X.al rfl zn) ?_ | refine EvQ.lift (fun _ zn => X.call rfl X.al (rp) zn) ?_ | (refine EvQ.pickB rfl rfl rfl ?_) | (refine EvQ.cond rfl (fun h => ?_) (fun h => ?_) <;> ((first | replace h := X.nm h | skip); try have hne := ne_len h)) | (refine EvQ.g1 rfl (fun h => ?_) (fun h => ?_) <;> ((first | replace h := X.nm h | skip); try have hne := ne_len h)) | (refine EvQ.pick rfl (fun _ => rfl) (fun _ => rfl) (fun h => ?_) (fun h => ?_) <;> ((first | replace h := X.nm h | skip); try have hne := ne_len h)) | refine EvQ.fin X.rs ?_ | refine EvQ.fin1 (fun _ => rfl) rfl ?_)
      refine EvQ.loop (wd _ ?_ _ X.kv) ?_
      · exact X.lo
      rintro _ ⟨tm, lo, hp2, rfl, -⟩
      clear sr ss
      refine EvQ.run ?_
      first | refine EvQ.lift (fun _ zn => X.pcall (of) X.cq rfl X.al rfl zn) ?_ | refine EvQ.lift (fun _ zn => X.pcallG (of) rfl X.cq rfl X.al rfl zn) ?_ | refine EvQ.lift (fun _ zn => X.pcallC (of) rfl X.cq rfl X.al rfl zn) ?_ | refine EvQ.lift (fun _ zn => X.pcallT (of) (by decide) X.cq rfl X.al rfl zn) ?_ | refine EvQ.lift (fun _ zn => X.call rfl X.al (of) zn) ?_
      try refine EvQ.run ?_
      first | refine EvQ.lift (fun _ zn => X.pcall (ic) X.cq rfl X.al rfl zn) ?_ | refine EvQ.lift (fun _ zn => X.pcallG (ic) rfl X.cq rfl X.al rfl zn) ?_ | refine EvQ.lift (fun _ zn => X.pcallC (ic) rfl X.cq rfl X.al rfl zn) ?_ | refine EvQ.lift (fun _ zn => X.pcallT (ic) (by decide) X.cq rfl X.al rfl zn) ?_ | refine EvQ.lift (fun _ zn => X.call rfl X.al (ic) zn) ?_
      try refine EvQ.run ?_
      first | refine EvQ.lift (fun _ zn => X.pcall (mruns_ok) X.cq rfl X.al rfl zn) ?_ | refine EvQ.lift (fun _ zn => X.pcallG (mruns_ok) rfl X.cq rfl X.al rfl zn) ?_ | refine EvQ.lift (fun _ zn => X.pcallC (mruns_ok) rfl X.cq rfl X.al rfl zn) ?_ | refine EvQ.lift (fun _ zn => X.pcallT (mruns_ok) (by decide) X.cq rfl X.al rfl zn) ?_ | refine EvQ.lift (fun _ zn => X.call rfl X.al (mruns_ok) zn) ?_
      try refine EvQ.run ?_
      refine EvQ.fin X.rs ?_
      exact ⟨_, rfl⟩
theorem mt_law (xs : List V) (h : ShP [(false, [.sl [.st, .st]])] xs) (hb : sizP xs ≤ 1048576) : ∃ L k hp', runF (callF F L k) L c7 xs h0 = .ret (.bo true) hp' := by
  obtain ⟨v, r, rfl, h1, h, e1⟩ := h.one'
  cases h.nil'
  obtain ⟨l, rfl, hl⟩ := fb_of h1
  exact law_of d7 rfl (mt_run l ⟨hl.t, by have := hl.n; omega, fun f hf => by have := hl.s f hf; omega⟩)
end Go.Proofs.Ytcbiplmgaiipgaa
