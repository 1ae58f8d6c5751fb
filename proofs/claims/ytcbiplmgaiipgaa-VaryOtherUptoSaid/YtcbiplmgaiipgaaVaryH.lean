import Derived.Test.YtcbiplmgaiipgaaEvE
import Derived.Test.YtcbiplmgaiipgaaVaryT
import Derived.Test.YtcbiplmgaiipgaaVaryR
set_option linter.unusedVariables false
set_option linter.unusedSimpArgs false
-- VaryOther
namespace Go.Proofs.Ytcbiplmgaiipgaa
open Go hiding Fn
open Ev tab
def putI (l : List Fld) (k : Nat) (f : Fld) : List Fld := l.take k ++ [f] ++ l.drop k
theorem pinI (l : List Fld) (k : Nat) (f : Fld) : [] ++ fds (l.take k) ++ [fd f] ++ fds (l.drop k) = fds (putI l k f) := by
  unfold putI
  rw [List.nil_append, ← fds_append, ← fds_append]; rfl
theorem lkB_n {l : List Fld} (h : lkB l = true) : l.length ≤ 2000 ∧ ∀ f, f ∈ l → f.1.length ≤ 2000 ∧ f.2.length ≤ 2000 := by
  obtain ⟨h1, h2⟩ := lkGo_ok l 0 h
  refine ⟨?_, h2⟩
  rcases h1 with rfl | h1
  · exact Nat.zero_le _
  · omega
theorem putI_jok {l : List Fld} (h : lkB l = true) (k : Nat) {f : Fld} (hf : f.1.length ≤ 60 ∧ f.2.length ≤ 60) : JOK (putI l k f) := by
  obtain ⟨h1, h2⟩ := lkB_n h
  refine ⟨?_, fun g hg => ?_⟩
  · simp only [putI, List.length_append, List.length_take, List.length_drop, List.length_cons, List.length_nil]; omega
  · simp only [putI, List.mem_append, List.mem_singleton] at hg
    rcases hg with (hg | hg) | hg
    · have := h2 g (List.mem_of_mem_take hg); omega
    · subst hg; omega
    · have := h2 g (List.mem_of_mem_drop hg); omega
theorem vals_putI (l : List Fld) (k : Nat) (f : Fld) (m : List Nat) : valsF (putI l k f) m = valsF (l.take k) m ++ valsF [f] m ++ valsF (l.drop k) m := by unfold putI; rw [valsF_append, valsF_append]
theorem vals_split (l : List Fld) (k : Nat) (m : List Nat) : valsF l m = valsF (l.take k) m ++ valsF (l.drop k) m := by rw [← valsF_append, List.take_append_drop]
theorem vals_other {l : List Fld} {k : Nat} {f : Fld} {m : List Nat} (h : f.1 ≠ m) : valsF (putI l k f) m = valsF l m := by
  rw [vals_putI, vals_split l k, show valsF [f] m = [] by simp [valsF, h], List.append_nil]
theorem vals_own (l : List Fld) (k : Nat) (f : Fld) : 0 < (valsF (putI l k f) f.1).length := by
  rw [vals_putI, show valsF [f] f.1 = [f.2] by simp [valsF]]
  simp only [List.length_append, List.length_cons, List.length_nil]; omega
def withQ (q : Rq) (l : List Fld) : Rq := { q with fs := l }
theorem other_same {e : En} {q : Rq} {k : Nat} {f : Fld} {names : List (List Nat)} (hs : starsS e.s.fs = some names) (h : names.any (fun x => decide (x = f.1)) = false) : matchS e (withQ q (putI q.fs k f)) = matchS e q := by
  unfold matchS
  rw [hs]
  show names.all (nmB e.q.fs (putI q.fs k f)) = names.all (nmB e.q.fs q.fs)
  rw [Bool.eq_iff_iff, List.all_eq_true, List.all_eq_true]
  rw [List.any_eq_false] at h
  have hn : ∀ x, x ∈ names → nmB e.q.fs (putI q.fs k f) x = nmB e.q.fs q.fs x := fun x hx => by
    have hne : f.1 ≠ x := fun e => h x hx (by simp [e])
    unfold nmB hasF allF
    rw [vals_other hne]
  exact ⟨fun a x hx => by rw [← hn x hx]; exact a x hx, fun a x hx => by rw [hn x hx]; exact a x hx⟩
theorem other_new {e : En} {q : Rq} {k : Nat} {f : Fld} {names : List (List Nat)} (hs : starsS e.s.fs = some names) (h : names.any (fun x => decide (x = f.1)) = true) (h0' : ¬ 0 < (valsF q.fs f.1).length) : (matchS e q && matchS e (withQ q (putI q.fs k f))) = false := by
  cases ha : matchS e q with
  | false => rfl
  | true =>
    cases hb : matchS e (withQ q (putI q.fs k f)) with
    | false => rfl
    | true =>
      exfalso
      unfold matchS at ha hb
      rw [hs] at ha hb
      obtain ⟨x, hx, hx2⟩ := List.any_eq_true.1 h
      have hx3 : x = f.1 := of_decide_eq_true hx2
      subst hx3
      have a := List.all_eq_true.1 (show names.all (nmB e.q.fs q.fs) = true from ha) _ hx
      have b := List.all_eq_true.1 (show names.all (nmB e.q.fs (putI q.fs k f)) = true from hb) _ hx
      unfold nmB at a b
      rw [Bool.and_eq_true, beq_iff_eq] at a b
      have z := a.1.symm.trans b.1
      unfold hasF at z
      rw [decide_eq_false h0', decide_eq_true (vals_own q.fs k f)] at z
      cases z
theorem shed16 (a b : List V) : shed [16] (lset (lset (fun _ => none) 5 a) 6 b) = lset (lset (fun _ => none) 5 a) 6 b := by
  funext t
  unfold shed
  cases h : hasN [16] t with
  | false => rfl
  | true =>
    have : t = 16 := by
      by_cases q : t = 16
      · exact q
      · exfalso
        have e : hasN [16] t = (bif Nat.beq 16 t then true else false) := rfl
        rw [e, show Nat.beq 16 t = false by rw [beqD]; exact decide_eq_false (fun z => q z.symm)] at h
        cases h
    subst this; rfl
theorem closeCs_rq {hp : Hp} {id len : Nat} {fr : Bool} {rows : List (List V)} (L : List Fld) (m s a p : List Nat) (n : Int) (hg : hget hp id = some ⟨2, fr, rows⟩) (hl : hp.lim ≤ id) (hr : rows = fds L) (hlen : len = rows.length) (hn : L.length ≤ 10000000) :
    closeCs depth [.one, .one, .one, .one, .sl [.one, .one], .one] [.st m, .st s, .st a, .st p, .hs id 0 len, .it .i64 n] hp = some ([.st m, .st s, .st a, .st p, .vs 2 (fds L), .it .i64 n], hset hp id (some ⟨2, true, fds L⟩)) := by
  subst hr hlen
  have e : ((fds L).drop 0).take (fds L).length = fds L := by rw [List.drop_zero, List.take_length]
  have h5 : closeC (99999993 + 2) (.sl [.one, .one]) (.hs id 0 (fds L).length) hp = some (.vs 2 (fds L), hset hp id (some ⟨2, true, fds L⟩)) := by
    have := closeC_hs (n := 99999993 + 2) (ts := [.one, .one]) (i := 0) (len := (fds L).length) hg hl rfl (by omega) (by rw [e]; exact fds_clo L) (by rw [fds_length]; simp; omega)
    rw [e] at this
    exact this
  have gen : ∀ k, closeC (k + 2) (.sl [.one, .one]) (.hs id 0 (fds L).length) hp = some (.vs 2 (fds L), hset hp id (some ⟨2, true, fds L⟩)) →
      closeCs (k + 7) [.one, .one, .one, .one, .sl [.one, .one], .one] [.st m, .st s, .st a, .st p, .hs id 0 (fds L).length, .it .i64 n] hp = some ([.st m, .st s, .st a, .st p, .vs 2 (fds L), .it .i64 n], hset hp id (some ⟨2, true, fds L⟩)) := by
    intro k h5
    have c1 : ∀ (j : Nat) (x : List Nat) (h : Hp), closeC (j + 1) .one (.st x) h = some (.st x, h) := fun _ _ _ => rfl
    have c2 : ∀ (j : Nat) (kk : IntKind) (x : Int) (h : Hp), closeC (j + 1) .one (.it kk x) h = some (.it kk x, h) := fun _ _ _ _ => rfl
    simp only [closeCs, c1, c2, h5]
  exact gen 99999993 h5
end Go.Proofs.Ytcbiplmgaiipgaa
