import Derived.Test.YtcbiplmgaiipgaaEvE
import Derived.Test.YtcbiplmgaiipgaaOrderM
set_option linter.unusedVariables false
set_option linter.unusedSimpArgs false
-- MessageOrder: the walk
namespace Go.Proofs.Ytcbiplmgaiipgaa
open Go hiding Fn
open Ev tab
section
variable {F : Nat → Option Ev.Fn} {R : Ev.R} {k : Ev.R → D} {clr : List Nat} {tm : Tm} {lo : Lo} {hp : Hp} {r : List DOp} {us : List Nat} {g : Option (Nat × Bool)} {d : Nat}
/-- a literal by value -/
theorem X_bsv {ts : List Ty} {sz : Nat} {es0 es : List (List V)} {ps : List (Nat × A)} (hf : fillE sz (ps.map fun q => (q.1, get tm q.2)) es0 = some es) (hc : ∀ e, e ∈ es → CloL ts e) (hn : es.length + ts.length + 2 ≤ depth)
    (nx : EvD F (evLs clr r ⟨upd tm d (.vs sz es), lo, hp⟩ k) R) : EvD F (evLs clr (⟨some d, g, us, .bsv ts sz es0 ps⟩ :: r) ⟨tm, lo, hp⟩ k) R := by
  have e : evLs clr (⟨some d, g, us, .bsv ts sz es0 ps⟩ :: r) ⟨tm, lo, hp⟩ k = match fillE sz (ps.map fun q => (q.1, get tm q.2)) es0 with
    | some es => (match closeEs depth ts es Ev.h0 with
      | some (es, _) => forceV (fun v => evLs clr r ⟨upd tm d v, lo, hp⟩ k) (.vs sz es)
      | none => .bad)
    | none => .bad := rfl
  have e3 : closeEs depth ts es Ev.h0 = some (es, Ev.h0) := closeEs_clo depth Ev.h0 hc (by omega)
  rw [e, hf]
  simp only [e3]
  exact nx
end
attribute [local irreducible] EvD EvL EvC evGds evLs C.run sK bK gK pK fK lpB stepD

set_option maxHeartbeats 8000000 in
theorem within_p (n lo hi : Int) (h0' : 0 ≤ lo) (h1 : lo ≤ hi) (h2 : hi ≤ 1000000000) : ∃ k, lo ≤ k ∧ k ≤ hi ∧ EvP F 26 c26 [.it .i64 n, .it .i64 lo, .it .i64 hi] [.it .i64 k] := by
  have e1 : wr .i64 (hi - lo) = hi - lo := wr64 (by omega) (by omega)
  have e2 : wr .i64 (hi - lo + 1) = hi - lo + 1 := wr64 (by omega) (by omega)
  have b1 := Int.tmod_lt_of_pos n (b := hi - lo + 1) (by omega)
  have b2 : -(hi - lo + 1) < n.tmod (hi - lo + 1) := by
    rcases Int.le_total 0 n with q | q
    · have := Int.tmod_nonneg (hi - lo + 1) q; omega
    · have := Int.tmod_lt_of_pos (-n) (b := hi - lo + 1) (by omega)
      rw [Int.neg_tmod] at this; omega
  by_cases hn : n.tmod (hi - lo + 1) < 0
  · refine ⟨lo + (n.tmod (hi - lo + 1) + hi - lo + 1), by omega, by omega, ?_⟩
    refine EvP.of d26 rfl rfl rfl (v := .it .i64 _) (h := Ev.h0) (h' := Ev.h0) ?_ (.s (clo_it _ _) (.nil _))
    refine X.fn ?_
    refine X.run ?_
    refine X.fin (fun _ => rfl) (congrArg (V.it .i64) ?_) rfl
    simp only [Int.ofNat_eq_natCast, Int.cast_ofNat_Int, e1, e2]
    simp (disch := omega) only [wr64]
    try omega
  · refine ⟨lo + n.tmod (hi - lo + 1), by omega, by omega, ?_⟩
    refine EvP.of d26 rfl rfl rfl (v := .it .i64 _) (h := Ev.h0) (h' := Ev.h0) ?_ (.s (clo_it _ _) (.nil _))
    refine X.fn ?_
    refine X.run ?_
    refine X.fin (fun _ => rfl) (congrArg (V.it .i64) ?_) rfl
    simp only [Int.ofNat_eq_natCast, Int.cast_ofNat_Int, e1, e2]
    simp (disch := omega) only [wr64]

/-- one's own fields, closed as the argument of a call -/
theorem clo_own {hp : Hp} {id len : Nat} {rows : List (List V)} (L : List Fld) (hg : hget hp id = some ⟨2, false, rows⟩) (hl : hp.lim ≤ id) (hr : rows = fds L) (hlen : len = rows.length) (hn : L.length ≤ 10000000) :
    ClP [.c (.sl [.one, .one])] [.hs id 0 len] hp [.vs 2 (fds L)] (hset hp id (some ⟨2, true, fds L⟩)) := by
  subst hr hlen
  have e : ((fds L).drop 0).take (fds L).length = fds L := by rw [List.drop_zero, List.take_length]
  have := closeC_hs (n := depth) (ts := [.one, .one]) (i := 0) (len := (fds L).length) hg hl rfl (by omega) (by rw [e]; exact fds_clo L) (by rw [fds_length]; simp [depth]; omega)
  rw [e] at this
  exact .c this (.nil _)
end Go.Proofs.Ytcbiplmgaiipgaa
