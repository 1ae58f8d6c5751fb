import Derived.Test.YtcbiplmgaiipgaaEvE
import Derived.Test.YtcbiplmgaiipgaaReqW
set_option linter.unusedVariables false
set_option linter.unusedSimpArgs false
set_option linter.unusedSectionVars false
-- responses (where message.rest runs in its caller's heap)
namespace Go.Proofs.Ytcbiplmgaiipgaa
open Go hiding Fn
open Ev tab
attribute [local irreducible] EvD EvL EvC evGds evLs C.run sK bK gK pK fK lpB stepD

def sStatus : List Nat := [58, 115, 116, 97, 116, 117, 115]
def statB (f : Fld) : Bool := decide (f.1 = sStatus) && (decide (f.2.length = 3) && (decide (100 ≤ numF f.2) && (decide (numF f.2 ≤ 599) && !decide (numF f.2 = 101))))
def resF : List Fld → Option (Int × List Fld × Int)
  | [] => none
  | f :: r => if statB f && restB r then some (numF f.2, restL r, restN r) else none
theorem tf {b : Bool} (h : b = true) (h' : b = false) : False := by rw [h] at h'; cases h'
theorem resF_cons (f : Fld) (r : List Fld) : resF (f :: r) = if (statB f && restB r) = true then some (numF f.2, restL r, restN r) else none := rfl
def rowS : Option (Int × List Fld × Int) → List V
  | none => [.it .i64 0, .vs 2 [], .it .i64 0]
  | some (k, fs, n) => [.it .i64 k, .vs 2 (fds fs), .it .i64 n]
def zRowS : List V := [.it .i64 0, .ns, .it .i64 0]
theorem zRowS_clo : CloL2 [.one, .sl [.one, .one], .one] zRowS (rowS none) := .cons (fun _ _ => rfl) (.cons (clo_ns [.one, .one]) (.cons (fun _ _ => rfl) .nil))
theorem closeCs_rsO {hp : Hp} {v : V} (L : List Fld) (k n : Int) (hO : Ow hp v 2 (fds L)) (hn : L.length ≤ 10000000) :
    ∃ hp', closeCs depth [.one, .sl [.one, .one], .one] [.it .i64 k, v, .it .i64 n] hp = some ([.it .i64 k, .vs 2 (fds L), .it .i64 n], hp') := by
  have h5 : ∃ hp', closeC (99999993 + 5) (.sl [.one, .one]) v hp = some (.vs 2 (fds L), hp') := by
    rcases hO with ⟨rfl, hr⟩ | ⟨id, rfl, q1, q2, q3⟩
    · exact ⟨hp, by rw [hr]; rfl⟩
    · have e : ((fds L).drop 0).take (fds L).length = fds L := by rw [List.drop_zero, List.take_length]
      have := closeC_hs (n := 99999993 + 5) (ts := [.one, .one]) (i := 0) (len := (fds L).length) q3 q2 rfl (by omega) (by rw [e]; exact fds_clo L) (by rw [fds_length]; simp; omega)
      rw [e] at this
      exact ⟨_, this⟩
  obtain ⟨hp', h5⟩ := h5
  have gen : ∀ k', closeC (k' + 5) (.sl [.one, .one]) v hp = some (.vs 2 (fds L), hp') →
      closeCs (k' + 7) [.one, .sl [.one, .one], .one] [.it .i64 k, v, .it .i64 n] hp = some ([.it .i64 k, .vs 2 (fds L), .it .i64 n], hp') := by
    intro k' h5
    have c2 : ∀ (j : Nat) (kk : IntKind) (x : Int) (h : Hp), closeC (j + 1) .one (.it kk x) h = some (.it kk x, h) := fun _ _ _ _ => rfl
    simp only [closeCs, c2, h5]
  exact ⟨hp', gen 99999993 h5⟩
set_option maxHeartbeats 16000000 in
theorem response_ok (l : List Fld) (hl : FOK l) : EvP F 22 c22 [.vs 2 (fds l)] [.ag (rowS (resF l)), .bo (resF l).isSome] := by
  have hlen := fds_length l
  have hll := hl.1
  cases l with
  | nil =>
    refine EvP.ofQ d22 rfl rfl rfl ?_
    repeat' (first | refine EvQ.run ?_ | (refine EvQ.pickB rfl rfl rfl ?_) | (refine EvQ.cond rfl (fun h => ?_) (fun h => ?_) <;> ((first | replace h := X.nm h | skip); try have hne := ne_len h)) | (refine EvQ.g1 rfl (fun h => ?_) (fun h => ?_) <;> ((first | replace h := X.nm h | skip); try have hne := ne_len h)) | (refine EvQ.pick rfl (fun _ => rfl) (fun _ => rfl) (fun h => ?_) (fun h => ?_) <;> ((first | replace h := X.nm h | skip); try have hne := ne_len h)) | refine EvQ.fin X.rs ?_ | refine EvQ.fin1 (fun _ => rfl) rfl ?_)
    exact PQ.of (.gs2 zRowS_clo (.s (clo_bo _) (.nil _)))
  | cons f r =>
    obtain ⟨ft1, ft2, fl1, fl2⟩ := hl.2 f List.mem_cons_self
    have hr : FOK r := ⟨by have := hl.1; rw [List.length_cons] at this; omega, fun g hg => hl.2 g (List.mem_cons_of_mem _ hg)⟩
    have hrest := rest_rw (own := false) h0 r hr (Nat.le_refl _)
    have hnum := number_ok f.2 ft2 fl2
    obtain ⟨nm, vl⟩ := f
    simp only at hnum ft1 ft2 fl1 fl2
    refine EvP.ofQ d22 rfl rfl rfl ?_
    repeat' (first | refine EvQ.run ?_ | refine EvQ.lift (fun _ zn => X.pcall (hnum) X.cq rfl X.al rfl zn) ?_ | refine EvQ.lift (fun _ zn => X.pcallG (hnum) rfl X.cq rfl X.al rfl zn) ?_ | refine EvQ.lift (fun _ zn => X.pcallC (hnum) rfl X.cq rfl X.al rfl zn) ?_ | refine EvQ.lift (fun _ zn => X.pcallT (hnum) (by decide) X.cq rfl X.al rfl zn) ?_ | refine EvQ.lift (fun _ zn => X.call rfl X.al (hnum) zn) ?_ | (refine EvQ.pickB rfl rfl rfl ?_) | (refine EvQ.cond rfl (fun h => ?_) (fun h => ?_) <;> ((first | replace h := X.nm h | skip); try have hne := ne_len h)) | (refine EvQ.g1 rfl (fun h => ?_) (fun h => ?_) <;> ((first | replace h := X.nm h | skip); try have hne := ne_len h)) | (refine EvQ.pick rfl (fun _ => rfl) (fun _ => rfl) (fun h => ?_) (fun h => ?_) <;> ((first | replace h := X.nm h | skip); try have hne := ne_len h)) | refine EvQ.fin X.rs ?_ | refine EvQ.fin1 (fun _ => rfl) rfl ?_)
    all_goals clear hnum
    all_goals simp only [List.getD_cons_zero] at *
    any_goals
      have e : resF ((nm, vl) :: r) = none := by
        rw [resF_cons, if_neg]
        intro hc
        simp only [statB, Bool.and_eq_true, decide_eq_true_eq, Bool.not_eq_true', decide_eq_false_iff_not] at hc
        obtain ⟨⟨a1, a2, a3, a4, a5⟩, a6⟩ := hc
        first | exact absurd a1 (by assumption) | omega | exact tf a6 (by assumption)
      rw [e]
      exact PQ.of (.gs2 zRowS_clo (.s (clo_bo _) (.nil _)))
    refine EvQ.call rfl X.al hrest ?_
    rintro _ hp' ⟨w, rfl, hN⟩
    have hwl := hN.o.lp
    have hwc := hN.o.cells
    have hwk := hN.o.keep
    have hrl : (restL r).length ≤ r.length := by unfold restL; split <;> simp
    cases hq : restB r with
    | false =>
      have e : resF ((nm, vl) :: r) = none := by
        rw [resF_cons, if_neg]
        intro hc
        rw [hq, Bool.and_false] at hc
        cases hc
      rw [e]
      repeat' (first | refine EvQ.run ?_ | (refine EvQ.pickB rfl rfl rfl ?_) | (refine EvQ.cond rfl (fun h => ?_) (fun h => ?_) <;> ((first | replace h := X.nm h | skip); try have hne := ne_len h)) | (refine EvQ.g1 rfl (fun h => ?_) (fun h => ?_) <;> ((first | replace h := X.nm h | skip); try have hne := ne_len h)) | (refine EvQ.pick rfl (fun _ => rfl) (fun _ => rfl) (fun h => ?_) (fun h => ?_) <;> ((first | replace h := X.nm h | skip); try have hne := ne_len h)) | refine EvQ.fin X.rs ?_ | refine EvQ.fin1 (fun _ => rfl) rfl ?_)
      exact PQ.of (.gs2 zRowS_clo (.s (clo_bo _) (.nil _)))
    | true =>
      have e : resF ((nm, vl) :: r) = some (numF vl, restL r, restN r) := by
        rw [resF_cons, if_pos]
        simp only [statB, Bool.and_eq_true, decide_eq_true_eq, Bool.not_eq_true', decide_eq_false_iff_not]
        exact ⟨⟨by assumption, by assumption, by omega, by omega, by omega⟩, by assumption⟩
      rw [e]
      obtain ⟨hp2, hcl⟩ := closeCs_rsO (restL r) (numF vl) (restN r) hN.o (by rw [List.length_cons] at hll; omega)
      repeat' (first | refine EvQ.run ?_ | (refine EvQ.pickB rfl rfl rfl ?_) | (refine EvQ.cond rfl (fun h => ?_) (fun h => ?_) <;> ((first | replace h := X.nm h | skip); try have hne := ne_len h)) | (refine EvQ.g1 rfl (fun h => ?_) (fun h => ?_) <;> ((first | replace h := X.nm h | skip); try have hne := ne_len h)) | (refine EvQ.pick rfl (fun _ => rfl) (fun _ => rfl) (fun h => ?_) (fun h => ?_) <;> ((first | replace h := X.nm h | skip); try have hne := ne_len h)) | refine EvQ.fin X.rs ?_ | refine EvQ.fin1 (fun _ => rfl) rfl ?_)
      trace_state
      exact PQ.of (.g hcl (.s (clo_bo _) (.nil _)))
end Go.Proofs.Ytcbiplmgaiipgaa
