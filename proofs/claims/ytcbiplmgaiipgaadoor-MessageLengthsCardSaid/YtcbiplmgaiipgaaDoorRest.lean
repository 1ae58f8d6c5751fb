import Derived.Test.YtcbiplmgaiipgaaDoorEvE
import Derived.Test.YtcbiplmgaiipgaaDoorMsg2
set_option linter.unusedVariables false
set_option linter.unusedSimpArgs false
set_option linter.unusedSectionVars false
-- the fields behind a head (where message.rest runs apart)
namespace Go.Proofs.YtcbiplmgaiipgaaDoor
open Go hiding Fn
open Ev tab
attribute [local irreducible] EvD EvL EvC evGds evLs C.run sK bK gK pK fK lpB stepD
set_option maxHeartbeats 8000000 in
theorem rest_ok (l : List Fld) (hl : FOK l) : EvP F 10 c10 [.vs 2 (fds l)] [.vs 2 (fds (restL l)), .it .i64 (restN l), .bo (restB l)] := by
  have hc := contains_ok l (by have := hl.1; omega) h0
  have hp := plain_ok l hl
  have hn := length_ok l hl
  have hlen := fds_length l
  have hll := hl.1
  cases ha : l.any colonB with
  | true =>
    rw [ha] at hc
    rw [show restL l = [] by simp [restL, ha], show restN l = 0 by simp [restN, ha], show restB l = false by simp [restB, ha]]
    refine EvP.of d10 rfl rfl rfl (v := .tu [.ns, .it .i64 0, .bo false]) (h := h0) (h' := h0) ?_ (.s2 (clo_ns [.one, .one]) (.s (clo_it _ _) (.s (clo_bo _) (.nil _))))
    refine X.fn ?_
    refine X.run ?_
    refine X.call rfl rfl hc ?_
    refine X.run ?_
    exact X.fin (fun _ => rfl) rfl rfl
  | false =>
    rw [ha] at hc
    cases hb : plainF l with
    | false =>
      rw [hb] at hp
      rw [show restL l = [] by simp [restL, ha, hb], show restN l = 0 by simp [restN, ha, hb], show restB l = false by simp [restB, ha, hb]]
      refine EvP.of d10 rfl rfl rfl (v := .tu [.ns, .it .i64 0, .bo false]) (h := h0) (h' := h0) ?_ (.s2 (clo_ns [.one, .one]) (.s (clo_it _ _) (.s (clo_bo _) (.nil _))))
      refine X.fn ?_
      refine X.run ?_
      refine X.call rfl rfl hc ?_
      refine X.run ?_
      refine X.pcall (hp) X.c rfl rfl rfl ?_
      refine X.run ?_
      exact X.fin (fun _ => rfl) rfl rfl
    | true =>
      rw [hb] at hp
      rw [show restL l = l by simp [restL, ha, hb], show restN l = lenN l by simp [restN, ha, hb], show restB l = lenB l by simp [restB, ha, hb]]
      by_cases he : l = []
      · subst he
        refine EvP.of d10 rfl rfl rfl (v := .tu [.ns, .it .i64 (lenN []), .bo (lenB [])]) (h := h0) (h' := h0) ?_ (.s2 (clo_ns [.one, .one]) (.s (clo_it _ _) (.s (clo_bo _) (.nil _))))
        refine X.fn ?_
        refine X.run ?_
        refine X.call rfl rfl hc ?_
        refine X.run ?_
        refine X.pcall (hp) X.c rfl rfl rfl ?_
        refine X.run ?_
        refine X.pcall (hn) X.c rfl rfl rfl ?_
        refine X.run ?_
        exact X.fin (fun _ => rfl) rfl rfl
      · have hne : fds l ≠ [] := fun e => he (by simpa [fds] using e)
        have hcl := closeC_hs (n := depth) (ts := [.one, .one]) (id := 0) (i := 0) (len := (fds l).length) (sz := 2) (fr := false) (es := fds l) (hp := hnew h0 ⟨2, false, fds l⟩) rfl (Nat.le_refl 0) rfl (by omega)
          (by rw [List.drop_zero, List.take_length]; exact fds_clo l) (by simp [depth]; omega)
        rw [List.drop_zero, List.take_length] at hcl
        refine EvP.of d10 rfl rfl rfl (v := .tu [.hs 0 0 (fds l).length, .it .i64 (lenN l), .bo (lenB l)]) (h := hnew h0 ⟨2, false, fds l⟩) (h' := hset (hnew h0 ⟨2, false, fds l⟩) 0 (some ⟨2, true, fds l⟩)) ?_ (.c hcl (.s (clo_it _ _) (.s (clo_bo _) (.nil _))))
        refine X.fn ?_
        refine X.run ?_
        refine X.call rfl rfl hc ?_
        refine X.run ?_
        refine X.pcall (hp) X.c rfl rfl rfl ?_
        refine X.run ?_
        refine X.pcall (hn) X.c rfl rfl rfl ?_
        refine X.run ?_
        refine X.apn X.w X.w (Els.vs _) hne (by rw [bleD, hlen]; exact decide_eq_true (by show l.length * 32 ≤ maxB; unfold maxB; omega)) (id' := 0) rfl ?_
        refine X.run ?_
        exact X.fin (fun _ => rfl) rfl rfl
end Go.Proofs.YtcbiplmgaiipgaaDoor
