import Derived.Test.YtcbiplmgaiipgaaEvE
import Derived.Test.YtcbiplmgaiipgaaEvE
import Derived.Test.YtcbiplmgaiipgaaRefM
set_option linter.unusedVariables false
set_option linter.unusedSimpArgs false
-- the document's own Merge
namespace Go.Proofs.Ytcbiplmgaiipgaa
open Go hiding Fn
open Ev tab
attribute [local irreducible] EvD EvL EvC evGds evLs C.run sK bK gK pK fK lpB stepD
def LSm (e : En) (s : Rs) : Lo := lset (lset (lset (fun _ => none) 4 (rowEn e)) 5 (rowRs s)) 8 zEn
def LSm2 (e : En) : Lo := lset (lset (fun _ => none) 4 (rowEn e)) 8 zEn
theorem LSm_shed (e : En) (s : Rs) (r1 r2 : List V) : shed [11] (lset (lset (LSm e s) 11 r1) 11 r2) = LSm e s := shed_eq fun t => ⟨fun h => by rw [hasN1 h]; rfl, fun h => by
    have : t ≠ 11 := fun e => by subst e; cases h
    rw [lset_ne this, lset_ne this]⟩
set_option maxHeartbeats 16000000 in
theorem rmrg_loop1 (e : En) (s : Rs) (a c : Int) (hs : JOK s.fs) (hl : e.s.fs.length ≤ 1000000) (lo : Lo) (hlo : shed [11] lo = LSm e s) (tm : Tm) (hk : [2, 3, 4, 5, 8, 9, 10].map (fun x => (x, tm x)) = [(2, .it .i64 a), (3, .it .i64 c), (4, .lp 4 0), (5, .lp 5 0), (8, .lp 8 0), (9, .ns), (10, .it .i64 (Int.ofNat 0))]) :
    ∃ r, EvL F [2, 3, 4, 5, 8, 9, 10] [11] (lpB (d55.body.lps.getD 0 .skip)) ⟨tm, lo, h0⟩ r ∧ ∃ v, XtQ 0 [(2, .it .i64 a), (3, .it .i64 c), (4, .lp 4 0), (5, .lp 5 0), (8, .lp 8 0), (9, v)] (fun lo hp => lo = LSm e s ∧ Nw h0 hp v (fds (e.s.fs.filter (mrgP s.fs)))) r := by
  refine EvL.invQ (S := Nat × V) (fun x => [(2, .it .i64 a), (3, .it .i64 c), (4, .lp 4 0), (5, .lp 5 0), (8, .lp 8 0), (9, x.2), (10, .it .i64 (Int.ofNat x.1))])
    (fun x lo hp => shed [11] lo = LSm e s ∧ x.1 ≤ e.s.fs.length ∧ Nw h0 hp x.2 (fds ((e.s.fs.take x.1).filter (mrgP s.fs)))) (fun x => e.s.fs.length - x.1) _ ?_ (0, .ns) tm lo h0 ⟨hlo, Nat.zero_le _, .ns⟩ hk
  intro ⟨i, v⟩ lo hp ⟨e1, e2, hN⟩
  simp only at e2 hN
  rw [e1]
  have hO := hN.o
  have hel := hO.lp
  have hlm : hp.lim ≤ hp.next := by rw [hN.u.lim]; exact Nat.zero_le _
  have hc := kept_ok (e.s.fs.getD i f0).1
  have hh := rhas_ok s.fs (e.s.fs.getD i f0).1 hs
  have hfd := fun h : i < e.s.fs.length => filter_getD (p := mrgP s.fs) h
  have hn : ((e.s.fs.take i).filter (mrgP s.fs)).length ≤ 1000000 := by
    have := List.length_filter_le (mrgP s.fs) (e.s.fs.take i)
    rw [List.length_take] at this; omega
  have hs0 : shed [11] (LSm e s) = LSm e s := shed_eq fun t => ⟨fun h => by rw [hasN1 h]; rfl, fun _ => rfl⟩
  repeat' (first | refine EvQ.run ?_ | refine EvQ.lift (fun _ zn => X.pcall (hc) X.cq rfl X.al rfl zn) ?_ | refine EvQ.lift (fun _ zn => X.pcallG (hc) rfl X.cq rfl X.al rfl zn) ?_ | refine EvQ.lift (fun _ zn => X.pcallC (hc) rfl X.cq rfl X.al rfl zn) ?_ | refine EvQ.lift (fun _ zn => X.pcallT (hc) (by decide) X.cq rfl X.al rfl zn) ?_ | refine EvQ.lift (fun _ zn => X.call rfl X.al (hc) zn) ?_ | refine EvQ.lift (fun _ zn => X.pcall (hh) X.cq rfl X.al rfl zn) ?_ | refine EvQ.lift (fun _ zn => X.pcallG (hh) rfl X.cq rfl X.al rfl zn) ?_ | refine EvQ.lift (fun _ zn => X.pcallC (hh) rfl X.cq rfl X.al rfl zn) ?_ | refine EvQ.lift (fun _ zn => X.pcallT (hh) (by decide) X.cq rfl X.al rfl zn) ?_ | refine EvQ.lift (fun _ zn => X.call rfl X.al (hh) zn) ?_ | (refine EvQ.pickB rfl rfl rfl ?_) | (refine EvQ.cond rfl (fun h => ?_) (fun h => ?_) <;> ((first | replace h := X.nm h | skip); try have hne := ne_len h)) | (refine EvQ.g1 rfl (fun h => ?_) (fun h => ?_) <;> ((first | replace h := X.nm h | skip); try have hne := ne_len h)) | (refine EvQ.pick rfl (fun _ => rfl) (fun _ => rfl) (fun h => ?_) (fun h => ?_) <;> ((first | replace h := X.nm h | skip); try have hne := ne_len h)) | refine EvQ.fin X.rs ?_ | refine EvQ.fin1 (fun _ => rfl) rfl ?_)
  all_goals first
    | (refine EvQ.go (i + 1, _) X.kv ⟨LSm_shed _ _ _ _, by show i + 1 ≤ _; omega, ?_⟩ (by show e.s.fs.length - (i + 1) < e.s.fs.length - i; omega)
       show Nw _ _ _ (fds ((e.s.fs.take (i + 1)).filter (mrgP s.fs)))
       rw [hfd (by assumption), if_pos (by (clear hfd; generalize e.s.fs.getD i f0 = f at *; unfold mrgP; simp [*]; done)), ← fds_append]
       exact hN.put (Nat.le_refl _))
    | (refine EvQ.go (i + 1, v) X.kv ⟨LSm_shed _ _ _ _, by show i + 1 ≤ _; omega, ?_⟩ (by show e.s.fs.length - (i + 1) < e.s.fs.length - i; omega)
       show Nw _ _ _ (fds ((e.s.fs.take (i + 1)).filter (mrgP s.fs)))
       rw [hfd (by assumption), if_neg (by (clear hfd; generalize e.s.fs.getD i f0 = f at *; unfold mrgP; simp [*]; done))]
       exact hN)
    | (refine EvQ.xt ⟨v, XtQ.mk' X.kv ⟨hs0, ?_⟩⟩
       rw [List.take_of_length_le (by omega)] at hN
       exact hN)
    | (refine EvQ.xt ⟨v, XtQ.mk' X.kv ⟨rfl, ?_⟩⟩
       rw [List.take_of_length_le (by omega)] at hN
       exact hN)
    | trace_state
set_option maxHeartbeats 16000000 in
theorem rmrg_loop2 (hp1 : Hp) (e : En) (s : Rs) (a c : Int) (v1 : V) (A : List Fld) (hN1 : Nw h0 hp1 v1 (fds A)) (hA : A.length ≤ 1000000) (hl : s.fs.length ≤ 1000000) (lo : Lo) (hlo : shed [11] lo = LSm e s) (tm : Tm) (hk : [2, 3, 4, 5, 8, 9, 12].map (fun x => (x, tm x)) = [(2, .it .i64 a), (3, .it .i64 c), (4, .lp 4 0), (5, .lp 5 0), (8, .lp 8 0), (9, v1), (12, .it .i64 (Int.ofNat 0))]) :
    ∃ r, EvL F [2, 3, 4, 5, 8, 9, 12] [11] (lpB (d55.body.lps.getD 1 .skip)) ⟨tm, lo, hp1⟩ r ∧ ∃ v, XtQ 2 [(2, .it .i64 a), (3, .it .i64 c), (4, .lp 4 0), (5, .lp 5 0), (8, .lp 8 0), (9, v)] (fun lo hp => lo = LSm e s ∧ Nw h0 hp v (fds (A ++ s.fs.filter renQ))) r := by
  refine EvL.invQ (S := Nat × V) (fun x => [(2, .it .i64 a), (3, .it .i64 c), (4, .lp 4 0), (5, .lp 5 0), (8, .lp 8 0), (9, x.2), (12, .it .i64 (Int.ofNat x.1))])
    (fun x lo hp => shed [11] lo = LSm e s ∧ x.1 ≤ s.fs.length ∧ Nw h0 hp x.2 (fds (A ++ (s.fs.take x.1).filter renQ))) (fun x => s.fs.length - x.1) _ ?_ (0, v1) tm lo hp1 ⟨hlo, Nat.zero_le _, by simpa using hN1⟩ hk
  intro ⟨i, v⟩ lo hp ⟨e1, e2, hN⟩
  simp only at e2 hN
  rw [e1]
  have hO := hN.o
  have hel := hO.lp
  have hlm : hp.lim ≤ hp.next := by rw [hN.u.lim]; exact Nat.zero_le _
  have hc := kept_ok (s.fs.getD i f0).1
  have hfd := fun h : i < s.fs.length => filter_getD (p := renQ) h
  have hn : ((s.fs.take i).filter renQ).length ≤ 1000000 := by
    have := List.length_filter_le renQ (s.fs.take i)
    rw [List.length_take] at this
    omega
  have hs0 : shed [11] (LSm e s) = LSm e s := shed_eq fun t => ⟨fun h => by rw [hasN1 h]; rfl, fun _ => rfl⟩
  repeat' (first | refine EvQ.run ?_ | refine EvQ.lift (fun _ zn => X.pcall (hc) X.cq rfl X.al rfl zn) ?_ | refine EvQ.lift (fun _ zn => X.pcallG (hc) rfl X.cq rfl X.al rfl zn) ?_ | refine EvQ.lift (fun _ zn => X.pcallC (hc) rfl X.cq rfl X.al rfl zn) ?_ | refine EvQ.lift (fun _ zn => X.pcallT (hc) (by decide) X.cq rfl X.al rfl zn) ?_ | refine EvQ.lift (fun _ zn => X.call rfl X.al (hc) zn) ?_ | (refine EvQ.pickB rfl rfl rfl ?_) | (refine EvQ.cond rfl (fun h => ?_) (fun h => ?_) <;> ((first | replace h := X.nm h | skip); try have hne := ne_len h)) | (refine EvQ.g1 rfl (fun h => ?_) (fun h => ?_) <;> ((first | replace h := X.nm h | skip); try have hne := ne_len h)) | (refine EvQ.pick rfl (fun _ => rfl) (fun _ => rfl) (fun h => ?_) (fun h => ?_) <;> ((first | replace h := X.nm h | skip); try have hne := ne_len h)) | refine EvQ.fin X.rs ?_ | refine EvQ.fin1 (fun _ => rfl) rfl ?_)
  all_goals first
    | (refine EvQ.go (i + 1, _) X.kv ⟨hs0, by show i + 1 ≤ _; omega, ?_⟩ (by show s.fs.length - (i + 1) < s.fs.length - i; omega)
       show Nw _ _ _ (fds (A ++ (s.fs.take (i + 1)).filter renQ))
       rw [hfd (by assumption), if_pos (by (clear hfd; generalize s.fs.getD i f0 = f at *; unfold renQ; simp [*]; done)), ← List.append_assoc, ← fds_append (A ++ _) [_]]
       exact hN.put (Nat.le_refl _))
    | (refine EvQ.go (i + 1, v) X.kv ⟨hs0, by show i + 1 ≤ _; omega, ?_⟩ (by show s.fs.length - (i + 1) < s.fs.length - i; omega)
       show Nw _ _ _ (fds (A ++ (s.fs.take (i + 1)).filter renQ))
       rw [hfd (by assumption), if_neg (by (clear hfd; generalize s.fs.getD i f0 = f at *; unfold renQ; simp [*]; done))]
       exact hN)
    | (refine EvQ.xt ⟨v, XtQ.mk' X.kv ⟨rfl, ?_⟩⟩
       rw [List.take_of_length_le (by omega)] at hN
       exact hN)
    | trace_state
def ageN (f : Fld) : Bool := !decide (f.1 = sAge)
set_option maxHeartbeats 16000000 in
theorem rmrg_loop3 (hp1 : Hp) (e : En) (s : Rs) (a c : Int) (v1 : V) (A : List Fld) (hS1 : Ow hp1 v1 2 (fds A)) (hA : A.length ≤ 1000000) (hlm1 : hp1.lim ≤ hp1.next) (lo : Lo) (hlo : shed [5, 11] lo = LSm2 e) (tm : Tm) (hk : [2, 3, 4, 8, 9, 13, 14].map (fun x => (x, tm x)) = [(2, .it .i64 a), (3, .it .i64 c), (4, .lp 4 0), (8, .lp 8 0), (9, v1), (13, .ns), (14, .it .i64 (Int.ofNat 0))]) :
    ∃ r, EvL F [2, 3, 4, 8, 9, 13, 14] [5, 11] (lpB (d55.body.lps.getD 2 .skip)) ⟨tm, lo, hp1⟩ r ∧ ∃ v, XtQ 4 [(2, .it .i64 a), (3, .it .i64 c), (4, .lp 4 0), (8, .lp 8 0), (13, v)] (fun lo hp => lo = LSm2 e ∧ Nw hp1 hp v (fds (A.filter ageN))) r := by
  refine EvL.invQ (S := Nat × V) (fun x => [(2, .it .i64 a), (3, .it .i64 c), (4, .lp 4 0), (8, .lp 8 0), (9, v1), (13, x.2), (14, .it .i64 (Int.ofNat x.1))])
    (fun x lo hp => shed [5, 11] lo = LSm2 e ∧ x.1 ≤ A.length ∧ Nw hp1 hp x.2 (fds ((A.take x.1).filter ageN))) (fun x => A.length - x.1) _ ?_ (0, .ns) tm lo hp1 ⟨hlo, Nat.zero_le _, .ns⟩ hk
  intro ⟨i, v⟩ lo hp ⟨e1, e2, hN⟩
  simp only at e2 hN
  rw [e1]
  have hO := hN.o
  have hel := hO.lp
  have hS := hS1.sl.up hN.u hS1.lt
  have hv1 := hS.lp
  have hvl := lenO hS.len (fds_length _)
  have hlm : hp.lim ≤ hp.next := by rw [hN.u.lim]; have := hN.u.next; omega
  have hfd := fun h : i < A.length => filter_getD (p := ageN) h
  have hn : ((A.take i).filter ageN).length ≤ 1000000 := by
    have := List.length_filter_le ageN (A.take i)
    rw [List.length_take] at this
    omega
  have hs0 : shed [5, 11] (LSm2 e) = LSm2 e := shed_eq fun t => ⟨fun h => by rcases hasN2 h with rfl | rfl <;> rfl, fun _ => rfl⟩
  clear hS1
  repeat' (first | refine EvQ.run ?_ | (refine EvQ.pickB rfl rfl rfl ?_) | (refine EvQ.cond rfl (fun h => ?_) (fun h => ?_) <;> ((first | replace h := X.nm h | skip); try have hne := ne_len h)) | (refine EvQ.g1 rfl (fun h => ?_) (fun h => ?_) <;> ((first | replace h := X.nm h | skip); try have hne := ne_len h)) | (refine EvQ.pick rfl (fun _ => rfl) (fun _ => rfl) (fun h => ?_) (fun h => ?_) <;> ((first | replace h := X.nm h | skip); try have hne := ne_len h)) | refine EvQ.fin X.rs ?_ | refine EvQ.fin1 (fun _ => rfl) rfl ?_)
  all_goals first
    | (refine EvQ.go (i + 1, _) X.kv ⟨hs0, by show i + 1 ≤ _; omega, ?_⟩ (by show A.length - (i + 1) < A.length - i; omega)
       show Nw _ _ _ (fds ((A.take (i + 1)).filter ageN))
       rw [hfd (by assumption), if_pos (by (clear hfd; generalize A.getD i f0 = f at *; unfold ageN; first | (simp [*]; done) | (simp [*]; assumption) | (simp [*]; intros; rfl))), ← fds_append]
       exact hN.put hlm1)
    | (refine EvQ.go (i + 1, v) X.kv ⟨hs0, by show i + 1 ≤ _; omega, ?_⟩ (by show A.length - (i + 1) < A.length - i; omega)
       show Nw _ _ _ (fds ((A.take (i + 1)).filter ageN))
       rw [hfd (by assumption), if_neg (by (clear hfd; generalize A.getD i f0 = f at *; unfold ageN; first | (simp [*]; done) | (simp [*]; assumption) | (simp [*]; rfl)))]
       exact hN)
    | (refine EvQ.xt ⟨v, XtQ.mk' X.kv ⟨rfl, ?_⟩⟩
       rw [List.take_of_length_le (by omega)] at hN
       exact hN)
    | trace_state
theorem closeCs_enO {hp : Hp} {v : V} (L : List Fld) (e : En) (hO : Ow hp v 2 (fds L)) (hn : L.length ≤ 10000000) :
    ∃ hp', closeCs depth [.one, .one, .one, .one, .sl [.one, .one], .one, .one, .sl [.one, .one], .one, .one, .one, .one] (rowEnV e (.vs 2 (fds e.q.fs)) v) hp = some (rowEn { e with s := { e.s with fs := L } }, hp') := by
  have h5 : ∃ hp', closeC (99999987 + 5) (.sl [.one, .one]) v hp = some (.vs 2 (fds L), hp') := by
    rcases hO with ⟨rfl, hr⟩ | ⟨id, rfl, q1, q2, q3⟩
    · exact ⟨hp, by rw [hr]; rfl⟩
    · have e : ((fds L).drop 0).take (fds L).length = fds L := by rw [List.drop_zero, List.take_length]
      have := closeC_hs (n := 99999987 + 5) (ts := [.one, .one]) (i := 0) (len := (fds L).length) q3 q2 rfl (by omega) (by rw [e]; exact fds_clo L) (by rw [fds_length]; simp; omega)
      rw [e] at this
      exact ⟨_, this⟩
  obtain ⟨hp', h5⟩ := h5
  have gen : ∀ k, closeC (k + 5) (.sl [.one, .one]) v hp = some (.vs 2 (fds L), hp') →
      closeCs (k + 13) [.one, .one, .one, .one, .sl [.one, .one], .one, .one, .sl [.one, .one], .one, .one, .one, .one] (rowEnV e (.vs 2 (fds e.q.fs)) v) hp = some (rowEn { e with s := { e.s with fs := L } }, hp') := by
    intro k h5
    have c1 : ∀ (j : Nat) (x : List Nat) (h : Hp), closeC (j + 1) .one (.st x) h = some (.st x, h) := fun _ _ _ => rfl
    have c2 : ∀ (j : Nat) (kk : IntKind) (x : Int) (h : Hp), closeC (j + 1) .one (.it kk x) h = some (.it kk x, h) := fun _ _ _ _ => rfl
    have c3 : ∀ (j : Nat) (es : List (List V)) (h : Hp), closeC (j + 1) (.sl [.one, .one]) (.vs 2 es) h = some (.vs 2 es, h) := fun _ _ _ => rfl
    unfold rowEnV
    simp only [closeCs, c1, c2, c3, h5]
    rfl
  exact ⟨hp', gen 99999987 h5⟩
set_option maxHeartbeats 16000000 in
theorem rmerge_ok (e : En) (s : Rs) (a c : Int) (hs : JOK s.fs) (hl : e.s.fs.length ≤ 100000) : EvP F 55 c55 [.ag (rowEn e), .ag (rowRs s), .it .i64 a, .it .i64 c] [.ag (rowEn (renE e s a c))] := by
  have hh := rhas_ok s.fs sAge hs
  have hsl := hs.1
  refine EvP.ofQ d55 rfl rfl rfl ?_
  have hrn : renE e s a c = { e with s := { e.s with fs := renL e.s.fs s.fs }, asked := a, came := c } := rfl
  rw [hrn, mrg_eq]
  refine EvQ.run ?_
  refine EvQ.loop (rmrg_loop1 e s a c hs (by omega) _ ?_ _ X.kv) ?_
  · exact shed_eq fun t => ⟨fun h => by rw [hasN1 h]; rfl, fun h => rfl⟩
  rintro _ ⟨v1, tm, lo, hp1, rfl, rfl, hN1⟩
  have hel1 := hN1.o.lp
  have hA := List.length_filter_le (mrgP s.fs) e.s.fs
  generalize e.s.fs.filter (mrgP s.fs) = A at *
  refine EvQ.run ?_
  refine EvQ.loop (rmrg_loop2 hp1 e s a c v1 A hN1 (by omega) (by omega) _ ?_ _ X.kv) ?_
  · exact shed_eq fun t => ⟨fun h => by rw [hasN1 h]; rfl, fun h => rfl⟩
  rintro _ ⟨v2, tm, lo, hp2, rfl, rfl, hN2⟩
  have hel2 := hN2.o.lp
  have hc2 := hN2.o.cells
  have hk2 := hN2.o.keep
  have hB := List.length_filter_le renQ s.fs
  have hBl : (A ++ s.fs.filter renQ).length ≤ 1000000 := by rw [List.length_append]; omega
  generalize A ++ s.fs.filter renQ = B at *
  have hlm2 : hp2.lim ≤ hp2.next := by rw [hN2.u.lim]; exact Nat.zero_le _
  cases ha : hasF s.fs sAge with
  | true =>
    rw [ha] at hh
    obtain ⟨hq, hcl⟩ := closeCs_enO B { e with asked := a, came := c } hN2.o (by omega)
    repeat' (first | refine EvQ.run ?_ | refine EvQ.lift (fun _ zn => X.pcall (hh) X.cq rfl X.al rfl zn) ?_ | refine EvQ.lift (fun _ zn => X.pcallG (hh) rfl X.cq rfl X.al rfl zn) ?_ | refine EvQ.lift (fun _ zn => X.pcallC (hh) rfl X.cq rfl X.al rfl zn) ?_ | refine EvQ.lift (fun _ zn => X.pcallT (hh) (by decide) X.cq rfl X.al rfl zn) ?_ | refine EvQ.lift (fun _ zn => X.call rfl X.al (hh) zn) ?_ | (refine EvQ.pickB rfl rfl rfl ?_) | (refine EvQ.cond rfl (fun h => ?_) (fun h => ?_) <;> ((first | replace h := X.nm h | skip); try have hne := ne_len h)) | (refine EvQ.g1 rfl (fun h => ?_) (fun h => ?_) <;> ((first | replace h := X.nm h | skip); try have hne := ne_len h)) | (refine EvQ.pick rfl (fun _ => rfl) (fun _ => rfl) (fun h => ?_) (fun h => ?_) <;> ((first | replace h := X.nm h | skip); try have hne := ne_len h)) | refine EvQ.fin X.rs ?_ | refine EvQ.fin1 (fun _ => rfl) rfl ?_)
    exact PQ.of (.g hcl (.nil _))
  | false =>
    rw [ha] at hh
    refine EvQ.run ?_
    first | refine EvQ.lift (fun _ zn => X.pcall (hh) X.cq rfl X.al rfl zn) ?_ | refine EvQ.lift (fun _ zn => X.pcallG (hh) rfl X.cq rfl X.al rfl zn) ?_ | refine EvQ.lift (fun _ zn => X.pcallC (hh) rfl X.cq rfl X.al rfl zn) ?_ | refine EvQ.lift (fun _ zn => X.pcallT (hh) (by decide) X.cq rfl X.al rfl zn) ?_ | refine EvQ.lift (fun _ zn => X.call rfl X.al (hh) zn) ?_
    try refine EvQ.run ?_
    refine EvQ.loop (rmrg_loop3 hp2 e s a c v2 B hN2.o hBl hlm2 _ ?_ _ X.kv) ?_
    · exact shed_eq fun t => ⟨fun h => by rcases hasN2 h with rfl | rfl <;> rfl, fun h => by
        unfold LSm LSm2
        have h5 : t ≠ 5 := fun e => by subst e; cases h
        by_cases h8 : t = 8
        · subst h8; rfl
        · rw [lset_ne h8, lset_ne h8, lset_ne h5]⟩
    rintro _ ⟨v3, tm, lo, hp3, rfl, rfl, hN3⟩
    have hel3 := hN3.o.lp
    have hc3 := hN3.o.cells
    have hk3 := hN3.o.keep
    have hCl := List.length_filter_le ageN B
    obtain ⟨hq, hcl⟩ := closeCs_enO (B.filter ageN) { e with asked := a, came := c } hN3.o (by omega)
    repeat' (first | refine EvQ.run ?_ | (refine EvQ.pickB rfl rfl rfl ?_) | (refine EvQ.cond rfl (fun h => ?_) (fun h => ?_) <;> ((first | replace h := X.nm h | skip); try have hne := ne_len h)) | (refine EvQ.g1 rfl (fun h => ?_) (fun h => ?_) <;> ((first | replace h := X.nm h | skip); try have hne := ne_len h)) | (refine EvQ.pick rfl (fun _ => rfl) (fun _ => rfl) (fun h => ?_) (fun h => ?_) <;> ((first | replace h := X.nm h | skip); try have hne := ne_len h)) | refine EvQ.fin X.rs ?_ | refine EvQ.fin1 (fun _ => rfl) rfl ?_)
    exact PQ.of (.g hcl (.nil _))
end Go.Proofs.Ytcbiplmgaiipgaa
