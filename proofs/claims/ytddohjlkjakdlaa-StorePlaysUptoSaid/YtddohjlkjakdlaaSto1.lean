import Derived.Test.YtddohjlkjakdlaaEvE
import Derived.Test.YtddohjlkjakdlaaVaryX
import Derived.Test.YtddohjlkjakdlaaEnt
set_option linter.unusedVariables false
set_option linter.unusedSimpArgs false
set_option linter.unusedSectionVars false
set_option linter.unusedVariables false
set_option linter.unusedSimpArgs false
-- the store's plain parts: bytes, cost, what fits, copies
namespace Go.Proofs.Ytddohjlkjakdlaa
open Go hiding Fn
open Ev tab
attribute [local irreducible] EvP EvD EvL EvC evGds evLs C.run sK bK gK pK fK lpB stepD
def sumS : List Fld → Nat
  | [] => 0
  | f :: r => f.1.length + f.2.length + sumS r
theorem sumS_append : ∀ (a b : List Fld), sumS (a ++ b) = sumS a + sumS b
  | [], b => by simp [sumS]
  | f :: r, b => by simp only [List.cons_append, sumS, sumS_append r b]; omega
theorem sumS_take {l : List Fld} {i : Nat} (h : i < l.length) : sumS (l.take (i + 1)) = sumS (l.take i) + ((l.getD i f0).1.length + (l.getD i f0).2.length) := by
  rw [take_getD h f0, sumS_append]; simp only [sumS, Nat.add_zero]
theorem sumS_le : ∀ {l : List Fld}, (∀ f, f ∈ l → f.1.length ≤ 3100 ∧ f.2.length ≤ 3100) → sumS l ≤ 6200 * l.length
  | [], _ => by simp [sumS]
  | f :: r, h => by
    have h1 := h f List.mem_cons_self
    have h2 := sumS_le (l := r) fun g hg => h g (List.mem_cons_of_mem _ hg)
    simp only [sumS, List.length_cons]; omega
theorem JOK.sum {l : List Fld} (h : JOK l) (i : Nat) : sumS (l.take i) ≤ 20000000 := by
  have h1 := sumS_le (l := l.take i) fun f hf => h.2 f (List.mem_of_mem_take hf)
  have h2 := h.1
  rw [List.length_take] at h1
  have : 6200 * min i l.length ≤ 6200 * 3100 := Nat.mul_le_mul_left _ (by omega)
  omega
theorem JOK.sum' {l : List Fld} (h : JOK l) : sumS l ≤ 20000000 := by
  have := h.sum l.length
  rwa [List.take_length] at this
set_option maxHeartbeats 8000000 in
theorem bytes_ok (l : List Fld) (hl : JOK l) : EvP F 37 c37 [.vs 2 (fds l)] [.it .i64 (Int.ofNat (sumS l))] := by
  have hl1 := hl.1
  refine EvP.ofQ d37 rfl rfl rfl ?_
  repeat' (first | refine EvQ.run ?_ | (refine EvQ.pickB rfl rfl rfl ?_) | (refine EvQ.cond rfl (fun h => ?_) (fun h => ?_) <;> ((first | replace h := X.nm h | skip); try have hne := ne_len h)) | (refine EvQ.g1 rfl (fun h => ?_) (fun h => ?_) <;> ((first | replace h := X.nm h | skip); try have hne := ne_len h)) | (refine EvQ.pick rfl (fun _ => rfl) (fun _ => rfl) (fun h => ?_) (fun h => ?_) <;> ((first | replace h := X.nm h | skip); try have hne := ne_len h)) | refine EvQ.fin X.rs ?_ | refine EvQ.fin1 (fun _ => rfl) rfl ?_)
  refine EvQ.loop (QL := XtQ 0 [(3, .it .i64 (Int.ofNat (sumS l)))] (fun _ _ => True)) ?_ ?_
  · refine EvL.invQ (S := Nat × Nat) (fun x => [(3, .it .i64 (Int.ofNat x.2)), (6, .vs 2 (fds l)), (7, .it .i64 (Int.ofNat l.length)), (8, .it .i64 (Int.ofNat x.1))]) (fun x lo _ => shed [5] lo = (fun _ => none) ∧ x.1 ≤ l.length ∧ x.2 = sumS (l.take x.1)) (fun x => l.length - x.1) _ ?_ (0, 0) _ _ _ ⟨X.lo, Nat.zero_le _, by simp [sumS]⟩ X.kv
    intro ⟨i, n⟩ lo hp ⟨e1, h1, h2⟩
    simp only at h1 h2
    rw [e1]
    have hb := hl.sum i
    have hb2 : i < l.length → (l.getD i f0).1.length ≤ 3100 ∧ (l.getD i f0).2.length ≤ 3100 := fun h => hl.2 _ (by rw [List.getD, List.getElem?_eq_getElem h]; exact List.getElem_mem _)
    have hs := fun h : i < l.length => sumS_take h
    by_cases hi : i < l.length
    · obtain ⟨b1, b2⟩ := hb2 hi
      repeat' (first | refine EvQ.run ?_ | (refine EvQ.pickB rfl rfl rfl ?_) | (refine EvQ.cond rfl (fun h => ?_) (fun h => ?_) <;> ((first | replace h := X.nm h | skip); try have hne := ne_len h)) | (refine EvQ.g1 rfl (fun h => ?_) (fun h => ?_) <;> ((first | replace h := X.nm h | skip); try have hne := ne_len h)) | (refine EvQ.pick rfl (fun _ => rfl) (fun _ => rfl) (fun h => ?_) (fun h => ?_) <;> ((first | replace h := X.nm h | skip); try have hne := ne_len h)) | refine EvQ.fin X.rs ?_ | refine EvQ.fin1 (fun _ => rfl) rfl ?_)
      refine EvQ.go (i + 1, _) X.kv ⟨X.lo, by show i + 1 ≤ _; omega, ?_⟩ (by show l.length - (i + 1) < l.length - i; omega)
      show _ = sumS (l.take (i + 1))
      rw [hs hi, ← h2]
    · obtain rfl : i = l.length := by omega
      repeat' (first | refine EvQ.run ?_ | (refine EvQ.pickB rfl rfl rfl ?_) | (refine EvQ.cond rfl (fun h => ?_) (fun h => ?_) <;> ((first | replace h := X.nm h | skip); try have hne := ne_len h)) | (refine EvQ.g1 rfl (fun h => ?_) (fun h => ?_) <;> ((first | replace h := X.nm h | skip); try have hne := ne_len h)) | (refine EvQ.pick rfl (fun _ => rfl) (fun _ => rfl) (fun h => ?_) (fun h => ?_) <;> ((first | replace h := X.nm h | skip); try have hne := ne_len h)) | refine EvQ.fin X.rs ?_ | refine EvQ.fin1 (fun _ => rfl) rfl ?_)
      rw [List.take_length] at h2
      subst h2
      exact EvQ.xt (.mk' X.kv trivial)
  · rintro _ ⟨tm, lo, hp, rfl, -⟩
    repeat' (first | refine EvQ.run ?_ | (refine EvQ.pickB rfl rfl rfl ?_) | (refine EvQ.cond rfl (fun h => ?_) (fun h => ?_) <;> ((first | replace h := X.nm h | skip); try have hne := ne_len h)) | (refine EvQ.g1 rfl (fun h => ?_) (fun h => ?_) <;> ((first | replace h := X.nm h | skip); try have hne := ne_len h)) | (refine EvQ.pick rfl (fun _ => rfl) (fun _ => rfl) (fun h => ?_) (fun h => ?_) <;> ((first | replace h := X.nm h | skip); try have hne := ne_len h)) | refine EvQ.fin X.rs ?_ | refine EvQ.fin1 (fun _ => rfl) rfl ?_)
    exact PQ.it rfl
/-- an entry, a request that are not too large -/
structure QOK (q : Rq) : Prop where
  f : JOK q.fs
  k1 : q.s.length ≤ 10000000
  k2 : q.a.length ≤ 10000000
  k3 : q.p.length ≤ 10000000
structure EOK (e : En) : Prop where
  q : QOK e.q
  s : JOK e.s.fs
  t : TOK e.s.fs
  b : e.body.length ≤ 10000000
def costS (e : En) : Nat := 100 + (keyS e.q).length + sumS e.q.fs + sumS e.s.fs + e.body.length
theorem QOK.key {q : Rq} (h : QOK q) : (keyS q).length ≤ 30000003 := by
  have := h.k1; have := h.k2; have := h.k3
  simp only [keyS, List.length_append, List.length_cons, List.length_nil]; omega
theorem EOK.cost {e : En} (h : EOK e) : costS e ≤ 90000000 := by
  have := h.q.key; have := h.q.f.sum'; have := h.s.sum'; have := h.b
  unfold costS; omega
set_option maxHeartbeats 8000000 in
theorem cost_ok (e : En) (h : EOK e) : EvP F 15 c15 [.ag (rowEn e)] [.it .i64 (Int.ofNat (costS e))] := by
  have k := key_ok e.q h.q.k1 h.q.k2 h.q.k3
  have b1 := bytes_ok e.q.fs h.q.f
  have b2 := bytes_ok e.s.fs h.s
  have c := rowRq_clo e.q
  have l1 := h.q.key
  have l2 := h.q.f.sum'
  have l3 := h.s.sum'
  have l4 := h.b
  refine EvP.ofQ d15 rfl rfl rfl ?_
  unfold costS
  generalize keyS e.q = K at *
  generalize sumS e.q.fs = S1 at *
  generalize sumS e.s.fs = S2 at *
  repeat' (first | refine EvQ.run ?_ | refine EvQ.lift (fun _ zn => X.pcall (k) X.cq rfl X.al rfl zn) ?_ | refine EvQ.lift (fun _ zn => X.pcallG (k) rfl X.cq rfl X.al rfl zn) ?_ | refine EvQ.lift (fun _ zn => X.pcallC (k) rfl X.cq rfl X.al rfl zn) ?_ | refine EvQ.lift (fun _ zn => X.pcallT (k) (by decide) X.cq rfl X.al rfl zn) ?_ | refine EvQ.lift (fun _ zn => X.call rfl X.al (k) zn) ?_ | refine EvQ.lift (fun _ zn => X.pcall (b1) X.cq rfl X.al rfl zn) ?_ | refine EvQ.lift (fun _ zn => X.pcallG (b1) rfl X.cq rfl X.al rfl zn) ?_ | refine EvQ.lift (fun _ zn => X.pcallC (b1) rfl X.cq rfl X.al rfl zn) ?_ | refine EvQ.lift (fun _ zn => X.pcallT (b1) (by decide) X.cq rfl X.al rfl zn) ?_ | refine EvQ.lift (fun _ zn => X.call rfl X.al (b1) zn) ?_ | refine EvQ.lift (fun _ zn => X.pcall (b2) X.cq rfl X.al rfl zn) ?_ | refine EvQ.lift (fun _ zn => X.pcallG (b2) rfl X.cq rfl X.al rfl zn) ?_ | refine EvQ.lift (fun _ zn => X.pcallC (b2) rfl X.cq rfl X.al rfl zn) ?_ | refine EvQ.lift (fun _ zn => X.pcallT (b2) (by decide) X.cq rfl X.al rfl zn) ?_ | refine EvQ.lift (fun _ zn => X.call rfl X.al (b2) zn) ?_ | (refine EvQ.pickB rfl rfl rfl ?_) | (refine EvQ.cond rfl (fun h => ?_) (fun h => ?_) <;> ((first | replace h := X.nm h | skip); try have hne := ne_len h)) | (refine EvQ.g1 rfl (fun h => ?_) (fun h => ?_) <;> ((first | replace h := X.nm h | skip); try have hne := ne_len h)) | (refine EvQ.pick rfl (fun _ => rfl) (fun _ => rfl) (fun h => ?_) (fun h => ?_) <;> ((first | replace h := X.nm h | skip); try have hne := ne_len h)) | refine EvQ.fin X.rs ?_ | refine EvQ.fin1 (fun _ => rfl) rfl ?_)
  exact PQ.it rfl
def fitB (e : En) (q : Rq) : Bool := decide (keyS e.q = keyS q) && matchS e q
set_option maxHeartbeats 8000000 in
theorem fits_ok (e : En) (q : Rq) (h : EOK e) (hq : QOK q) : EvP F 32 c32 [.ag (rowEn e), .ag (rowRq q)] [.bo (fitB e q)] := by
  have k1 := key_ok e.q h.q.k1 h.q.k2 h.q.k3
  have k2 := key_ok q hq.k1 hq.k2 hq.k3
  have m := match_ok e q h.q.f h.s hq.f h.t
  have c1 := rowRq_clo e.q
  have c2 := rowRq_clo q
  have c3 := rowEn_clo e
  refine EvP.ofQ d32 rfl rfl rfl ?_
  unfold fitB
  generalize keyS e.q = K1 at *
  generalize keyS q = K2 at *
  generalize matchS e q = B at *
  repeat' (first | refine EvQ.run ?_ | refine EvQ.lift (fun _ zn => X.pcall (k1) X.cq rfl X.al rfl zn) ?_ | refine EvQ.lift (fun _ zn => X.pcallG (k1) rfl X.cq rfl X.al rfl zn) ?_ | refine EvQ.lift (fun _ zn => X.pcallC (k1) rfl X.cq rfl X.al rfl zn) ?_ | refine EvQ.lift (fun _ zn => X.pcallT (k1) (by decide) X.cq rfl X.al rfl zn) ?_ | refine EvQ.lift (fun _ zn => X.call rfl X.al (k1) zn) ?_ | refine EvQ.lift (fun _ zn => X.pcall (k2) X.cq rfl X.al rfl zn) ?_ | refine EvQ.lift (fun _ zn => X.pcallG (k2) rfl X.cq rfl X.al rfl zn) ?_ | refine EvQ.lift (fun _ zn => X.pcallC (k2) rfl X.cq rfl X.al rfl zn) ?_ | refine EvQ.lift (fun _ zn => X.pcallT (k2) (by decide) X.cq rfl X.al rfl zn) ?_ | refine EvQ.lift (fun _ zn => X.call rfl X.al (k2) zn) ?_ | refine EvQ.lift (fun _ zn => X.pcall (m) X.cq rfl X.al rfl zn) ?_ | refine EvQ.lift (fun _ zn => X.pcallG (m) rfl X.cq rfl X.al rfl zn) ?_ | refine EvQ.lift (fun _ zn => X.pcallC (m) rfl X.cq rfl X.al rfl zn) ?_ | refine EvQ.lift (fun _ zn => X.pcallT (m) (by decide) X.cq rfl X.al rfl zn) ?_ | refine EvQ.lift (fun _ zn => X.call rfl X.al (m) zn) ?_ | (refine EvQ.pickB rfl rfl rfl ?_) | (refine EvQ.cond rfl (fun h => ?_) (fun h => ?_) <;> ((first | replace h := X.nm h | skip); try have hne := ne_len h)) | (refine EvQ.g1 rfl (fun h => ?_) (fun h => ?_) <;> ((first | replace h := X.nm h | skip); try have hne := ne_len h)) | (refine EvQ.pick rfl (fun _ => rfl) (fun _ => rfl) (fun h => ?_) (fun h => ?_) <;> ((first | replace h := X.nm h | skip); try have hne := ne_len h)) | refine EvQ.fin X.rs ?_ | refine EvQ.fin1 (fun _ => rfl) rfl ?_)
  · exact PQ.bo (by rw [decide_eq_true (show K1 = K2 by assumption)]; rfl)
  · exact PQ.bo (by rw [decide_eq_false (show ¬ K1 = K2 by assumption)]; rfl)
def rowEnV (e : En) (v w : V) : List V := [.st e.q.m, .st e.q.s, .st e.q.a, .st e.q.p, v, .it .i64 e.q.n, .it .i64 e.s.k, w, .it .i64 e.s.n, .st e.body, .it .i64 e.asked, .it .i64 e.came]
theorem closeCs_enO {hp : Hp} {v w : V} (e : En) (hv : Ow hp v 2 (fds e.q.fs)) (hw : Ow hp w 2 (fds e.s.fs)) (hd : ∀ id, idOf v = some id → idOf w ≠ some id) (hn : e.q.fs.length ≤ 10000000) (hm : e.s.fs.length ≤ 10000000) :
    ∃ hp', closeCs depth [.one, .one, .one, .one, .sl [.one, .one], .one, .one, .sl [.one, .one], .one, .one, .one, .one] (rowEnV e v w) hp = some (rowEn e, hp') := by
  have one : ∀ {hp : Hp} {v : V} {l : List Fld} (n : Nat), 50000000 ≤ n → l.length ≤ 10000000 → Ow hp v 2 (fds l) → ∃ hp', closeC n (.sl [.one, .one]) v hp = some (.vs 2 (fds l), hp') ∧ ∀ id b, idOf v ≠ some id → hget hp id = some b → hget hp' id = some b ∧ hp'.lim = hp.lim ∧ hp'.next = hp.next := by
    intro hp v l n hn hl hO
    rcases hO with ⟨rfl, hr⟩ | ⟨id, rfl, q1, q2, q3⟩
    · refine ⟨hp, ?_, fun _ _ _ h => ⟨h, rfl, rfl⟩⟩
      rw [hr]
      cases n with
      | zero => omega
      | succ n => rfl
    · have e : ((fds l).drop 0).take (fds l).length = fds l := by rw [List.drop_zero, List.take_length]
      have := closeC_hs (n := n) (ts := [.one, .one]) (i := 0) (len := (fds l).length) q3 q2 rfl (by omega) (by rw [e]; exact fds_clo l) (by rw [fds_length]; simp; omega)
      rw [e] at this
      exact ⟨_, this, fun j b hj hb => ⟨by rw [hget_other (fun e => hj (by rw [e]; rfl))]; exact hb, rfl, rfl⟩⟩
  obtain ⟨h1, c5, k1⟩ := one (99999987 + 8) (by omega) hn hv
  have hw1 : Ow h1 w 2 (fds e.s.fs) := by
    rcases hw with h | ⟨id, rfl, q1, q2, q3⟩
    · exact .inl h
    · obtain ⟨a, b, c⟩ := k1 id _ (fun q => hd id q rfl) q3
      exact .inr ⟨id, rfl, by omega, by omega, a⟩
  obtain ⟨h2, c6, -⟩ := one (99999987 + 5) (by omega) hm hw1
  have gen : ∀ k, closeC (k + 8) (.sl [.one, .one]) v hp = some (.vs 2 (fds e.q.fs), h1) → closeC (k + 5) (.sl [.one, .one]) w h1 = some (.vs 2 (fds e.s.fs), h2) →
      closeCs (k + 13) [.one, .one, .one, .one, .sl [.one, .one], .one, .one, .sl [.one, .one], .one, .one, .one, .one] (rowEnV e v w) hp = some (rowEn e, h2) := by
    intro k a5 a6
    have x1 : ∀ (j : Nat) (x : List Nat) (h : Hp), closeC (j + 1) .one (.st x) h = some (.st x, h) := fun _ _ _ => rfl
    have x2 : ∀ (j : Nat) (kk : IntKind) (x : Int) (h : Hp), closeC (j + 1) .one (.it kk x) h = some (.it kk x, h) := fun _ _ _ _ => rfl
    simp only [rowEnV, rowEn, closeCs, x1, x2, a5, a6]
  exact ⟨h2, gen 99999987 c5 c6⟩
set_option maxHeartbeats 8000000 in
theorem copied_ok (e : En) (h : EOK e) : EvP F 35 c35 [.ag (rowEn e)] [.ag (rowEn e)] := by
  have l1 := h.q.f.1
  have l2 := h.s.1
  refine EvP.ofQ d35 rfl rfl rfl ?_
  refine EvQ.run ?_
  refine EvQ.lift (fun R n => X.apg (v := .ns) (vy := .vs 2 (fds e.q.fs)) (rows := []) (new := fds e.q.fs) rfl rfl Ow.ns (Els.vs _) (fun _ => rfl) (by rw [fds_length]; simp; omega) n) ?_
  have hO := (Ow.ns (hp := h0) (sz := 2)).gput (new := fds e.q.fs) (Nat.le_refl _)
  have hd : ∀ id, idOf (gav h0 .ns ([] : List (List V)).length (fds e.q.fs).length) = some id → id < (gah h0 .ns 2 [] (fds e.q.fs)).next := hO.lt
  have hlm : (gah h0 .ns 2 [] (fds e.q.fs)).lim ≤ (gah h0 .ns 2 [] (fds e.q.fs)).next := by rw [gah_lim]; exact Nat.le_trans (Nat.zero_le _) (Nat.zero_le _)
  rw [List.nil_append] at hO
  have vl := hO.lp
  have vc := hO.cells
  have vk := hO.keep
  generalize gav h0 .ns ([] : List (List V)).length (fds e.q.fs).length = v at *
  generalize gah h0 .ns 2 [] (fds e.q.fs) = hp1 at *
  refine EvQ.run ?_
  refine EvQ.lift (fun R n => X.apg (v := .ns) (vy := .vs 2 (fds e.s.fs)) (rows := []) (new := fds e.s.fs) rfl rfl Ow.ns (Els.vs _) (fun _ => rfl) (by rw [fds_length]; simp; omega) n) ?_
  have hO2 := (Ow.ns (hp := hp1) (sz := 2)).gput (new := fds e.s.fs) hlm
  have hO1 : Ow (gah hp1 .ns 2 [] (fds e.s.fs)) v 2 (fds e.q.fs) := hO.gah' (fun id _ q => by cases q)
  have hd2 : ∀ id, idOf v = some id → idOf (gav hp1 .ns ([] : List (List V)).length (fds e.s.fs).length) ≠ some id := fun id q q2 => by
    have := hd id q
    unfold gav at q2
    simp only at q2
    split at q2
    · cases q2
    · cases q2; omega
  rw [List.nil_append] at hO2
  have wl := hO2.lp
  have wc := hO2.cells
  have wk := hO2.keep
  generalize gav hp1 .ns ([] : List (List V)).length (fds e.s.fs).length = w at *
  generalize gah hp1 .ns 2 [] (fds e.s.fs) = hp2 at *
  obtain ⟨hq, hcl⟩ := closeCs_enO e hO1 hO2 hd2 (by omega) (by omega)
  repeat' (first | refine EvQ.run ?_ | (refine EvQ.pickB rfl rfl rfl ?_) | (refine EvQ.cond rfl (fun h => ?_) (fun h => ?_) <;> ((first | replace h := X.nm h | skip); try have hne := ne_len h)) | (refine EvQ.g1 rfl (fun h => ?_) (fun h => ?_) <;> ((first | replace h := X.nm h | skip); try have hne := ne_len h)) | (refine EvQ.pick rfl (fun _ => rfl) (fun _ => rfl) (fun h => ?_) (fun h => ?_) <;> ((first | replace h := X.nm h | skip); try have hne := ne_len h)) | refine EvQ.fin X.rs ?_ | refine EvQ.fin1 (fun _ => rfl) rfl ?_)
  exact PQ.of (.g hcl (.nil _))
end Go.Proofs.Ytddohjlkjakdlaa
