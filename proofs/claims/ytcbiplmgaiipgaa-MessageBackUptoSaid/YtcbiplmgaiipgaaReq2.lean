import Derived.Test.YtcbiplmgaiipgaaEvE
import Derived.Test.YtcbiplmgaiipgaaRest
import Derived.Test.YtcbiplmgaiipgaaReq
set_option linter.unusedVariables false
set_option linter.unusedSimpArgs false
set_option linter.unusedSectionVars false
-- requests, whole
namespace Go.Proofs.Ytcbiplmgaiipgaa
open Go hiding Fn
open Ev tab
attribute [local irreducible] EvD EvL EvC evGds evLs C.run sK bK gK pK fK lpB stepD

set_option maxHeartbeats 16000000 in
theorem request_ok (l : List Fld) (hl : FOK l) : EvP F 21 c21 [.vs 2 (fds l)] [.ag (rowQ (reqF l)), .bo (reqF l).isSome] := by
  have hlen := fds_length l
  have hll := hl.1
  have hkl := kOf_le l
  obtain ⟨tm, lo, hL, el, e0, e2, e4⟩ := req_loop l hl
  have hL := ((hL.pe e0).pe (d := 2) (v := .lp 2 0) e2).pe (d := 4) (v := .it .i64 (Int.ofNat (kOf l))) e4
  have hL : EvL F [0, 2, 4] [] (lpB L21) ⟨tmOf [(0, .vs 2 (fds l)), (2, .lp 2 0), (4, .it .i64 (Int.ofNat 0))], lset (fun _ => none) 2 zRow, h0⟩ (.exit 0 ⟨upd (upd (upd tm 0 (.vs 2 (fds l))) 2 (.lp 2 0)) 4 (.it .i64 (Int.ofNat (kOf l))), lset lo 2 zRow, h0⟩) := by rw [lset_self el]; exact hL
  let hpA : Hp := hnew h0 ⟨6, false, [rowH hd0]⟩
  obtain ⟨hp', hh, hlim, hnx, hgo⟩ := head_ok (l.take (kOf l)) (hl.take _) hpA rfl rfl rfl
  cases hs : headS (l.take (kOf l)) with
  | none =>
    rw [hs] at hh
    have hr : reqF l = none := by unfold reqF; rw [hs]
    rw [hr]
    refine EvP.of d21 rfl rfl rfl (v := .tu [.ag zRow, .bo false]) (h := hp') (h' := hp') ?_ (.gs2 zRow_clo (.s (clo_bo _) (.nil _)))
    refine X.fn ?_
    refine X.run ?_
    refine X.loop (hL.congr rfl rfl rfl) ?_
    refine X.run ?_
    rw [show List.take ((Int.ofNat (kOf l)).toNat - 0) (List.drop 0 (fds l)) = fds (l.take (kOf l)) by rw [List.drop_zero, ← fds_take]; rfl]
    refine X.run ?_
    refine X.call rfl rfl hh ?_
    refine X.run ?_
    exact X.fin1 (fun _ => rfl) rfl rfl rfl
  | some h =>
    rw [hs] at hh
    have hg := hgo h hs
    obtain ⟨tm1, tm2⟩ := headGo_txt _ _ _ h (hl.take _) hs ⟨fun n hn => (List.not_mem_nil hn).elim, Nat.zero_le _⟩
    have hrt := right_ok h tm1 tm2
    have hrest := rest_ok (l.drop (kOf l)) (hl.drop _)
    cases hb : rightB h with
    | false =>
      rw [hb] at hrt
      have hr : reqF l = none := by unfold reqF; rw [hs]; simp [hb]
      rw [hr]
      refine EvP.of d21 rfl rfl rfl (v := .tu [.ag zRow, .bo false]) (h := hp') (h' := hp') ?_ (.gs2 zRow_clo (.s (clo_bo _) (.nil _)))
      refine X.fn ?_
      refine X.run ?_
      refine X.loop (hL.congr rfl rfl rfl) ?_
      refine X.run ?_
      rw [show List.take ((Int.ofNat (kOf l)).toNat - 0) (List.drop 0 (fds l)) = fds (l.take (kOf l)) by rw [List.drop_zero, ← fds_take]; rfl]
      refine X.run ?_
      refine X.call rfl rfl hh ?_
      refine X.run ?_
      refine X.pcall hrt (.gs2 (rowH_clo h) (.nil _)) rfl rfl rfl ?_
      refine X.run ?_
      exact X.fin1 (fun _ => rfl) rfl rfl rfl
    | true =>
      rw [hb] at hrt
      cases hq : restB (l.drop (kOf l)) with
      | false =>
        rw [hq] at hrest
        have hr : reqF l = none := by unfold reqF; rw [hs]; simp [hb, hq]
        rw [hr]
        refine EvP.of d21 rfl rfl rfl (v := .tu [.ag zRow, .bo false]) (h := hp') (h' := hp') ?_ (.gs2 zRow_clo (.s (clo_bo _) (.nil _)))
        refine X.fn ?_
        refine X.run ?_
        refine X.loop (hL.congr rfl rfl rfl) ?_
        refine X.run ?_
        rw [show List.take ((Int.ofNat (kOf l)).toNat - 0) (List.drop 0 (fds l)) = fds (l.take (kOf l)) by rw [List.drop_zero, ← fds_take]; rfl]
        refine X.run ?_
        refine X.call rfl rfl hh ?_
        refine X.run ?_
        refine X.pcall hrt (.gs2 (rowH_clo h) (.nil _)) rfl rfl rfl ?_
        refine X.run ?_
        rw [show List.take ((fds l).length - (Int.ofNat (kOf l)).toNat) (List.drop (Int.ofNat (kOf l)).toNat (fds l)) = fds (l.drop (kOf l)) by
          rw [← fds_drop]; exact List.take_of_length_le (by rw [List.length_drop]; exact Nat.le_refl _)]
        refine X.run ?_
        refine X.pcallT hrest (by decide) X.c rfl rfl rfl ?_
        refine X.run ?_
        exact X.fin1 (fun _ => rfl) rfl rfl rfl
      | true =>
        rw [hq] at hrest
        have hr : reqF l = some (h, restL (l.drop (kOf l)), restN (l.drop (kOf l))) := by unfold reqF; rw [hs]; simp [hb, hq]
        rw [hr]
        have hAl : hp'.lim ≤ 0 := by omega
        let row1 : List V := [.st h.m, .st h.s, .st h.a, .st h.p, .vs 2 (fds (restL (l.drop (kOf l)))), .it .i64 0]
        let hpZ : Hp := hset (hset hp' 0 (some ⟨6, false, [row1]⟩)) 0 (some ⟨6, false, [rowQ (some (h, restL (l.drop (kOf l)), restN (l.drop (kOf l))))]⟩)
        have hg2 : hget (hset hp' 0 (some ⟨6, false, [row1]⟩)) 0 = some ⟨6, false, [row1]⟩ := hget_set _ _ _
        have hg3 : hget hpZ 0 = some ⟨6, false, [rowQ (some (h, restL (l.drop (kOf l)), restN (l.drop (kOf l))))]⟩ := hget_set _ _ _
        have hAl2 : (hset hp' 0 (some ⟨6, false, [row1]⟩)).lim ≤ 0 := hAl
        refine EvP.of d21 rfl rfl rfl (v := .tu [.ag (rowQ (some (h, restL (l.drop (kOf l)), restN (l.drop (kOf l))))), .bo true]) (h := hpZ) (h' := hpZ) ?_ (.gs (rowQ_clo _) (.s (clo_bo _) (.nil _)))
        refine X.fn ?_
        refine X.run ?_
        refine X.loop (hL.congr rfl rfl rfl) ?_
        refine X.run ?_
        rw [show List.take ((Int.ofNat (kOf l)).toNat - 0) (List.drop 0 (fds l)) = fds (l.take (kOf l)) by rw [List.drop_zero, ← fds_take]; rfl]
        refine X.run ?_
        refine X.call rfl rfl hh ?_
        refine X.run ?_
        refine X.pcall hrt (.gs2 (rowH_clo h) (.nil _)) rfl rfl rfl ?_
        refine X.run ?_
        rw [show List.take ((fds l).length - (Int.ofNat (kOf l)).toNat) (List.drop (Int.ofNat (kOf l)).toNat (fds l)) = fds (l.drop (kOf l)) by
          rw [← fds_drop]; exact List.take_of_length_le (by rw [List.length_drop]; exact Nat.le_refl _)]
        refine X.run ?_
        refine X.pcallT hrest (by decide) X.c rfl rfl rfl ?_
        refine X.run ?_
        exact X.fin1 (fun _ => rfl) rfl rfl rfl
end Go.Proofs.Ytcbiplmgaiipgaa
