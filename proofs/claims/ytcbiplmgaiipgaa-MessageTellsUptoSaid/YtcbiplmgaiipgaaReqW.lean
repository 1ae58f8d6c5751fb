import Derived.Test.YtcbiplmgaiipgaaEvE
import Derived.Test.YtcbiplmgaiipgaaReq
import Derived.Test.YtcbiplmgaiipgaaRestW
set_option linter.unusedVariables false
set_option linter.unusedSimpArgs false
set_option linter.unusedSectionVars false
-- requests, whole (where message.Request runs in its caller's heap)
namespace Go.Proofs.Ytcbiplmgaiipgaa
open Go hiding Fn
open Ev tab
attribute [local irreducible] EvD EvL EvC evGds evLs C.run sK bK gK pK fK lpB stepD

def rowQV (q : Option (Hd × List Fld × Int)) (w : V) : List V := match q with
  | none => [.st [], .st [], .st [], .st [], w, .it .i64 0]
  | some (h, _, n) => [.st h.m, .st h.s, .st h.a, .st h.p, w, .it .i64 n]
def fldsQ (q : Option (Hd × List Fld × Int)) : List Fld := match q with
  | none => []
  | some (_, fs, _) => fs
/-- what a request's call brings: its row, its fields of its own -/
structure ReqJ (q : Option (Hd × List Fld × Int)) (v : V) (hp' : Hp) : Prop where
  un : ∃ w, v = .tu [.ag (rowQV q w), .bo q.isSome] ∧ Ow hp' w 2 (fds (fldsQ q)) ∧ hp'.lim = 0
set_option maxHeartbeats 16000000 in
theorem request_rw {own : Bool} (l : List Fld) (hl : FOK l) : ∃ v hp', EvC F own 21 [.vs 2 (fds l)] h0 (.ret v hp') ∧ ReqJ (reqF l) v hp' := by
  have hlen := fds_length l
  have hll := hl.1
  have hkl := kOf_le l
  obtain ⟨tm, lo, hL, el, e0, e2, e4⟩ := req_loop l hl
  have hL := ((hL.pe e0).pe (d := 2) (v := .lp 2 0) e2).pe (d := 4) (v := .it .i64 (Int.ofNat (kOf l))) e4
  have hL : EvL F [0, 2, 4] [] (lpB L21) ⟨tmOf [(0, .vs 2 (fds l)), (2, .lp 2 0), (4, .it .i64 (Int.ofNat 0))], lset (fun _ => none) 2 zRow, h0⟩ (.exit 0 ⟨upd (upd (upd tm 0 (.vs 2 (fds l))) 2 (.lp 2 0)) 4 (.it .i64 (Int.ofNat (kOf l))), lset lo 2 zRow, h0⟩) := by rw [lset_self el]; exact hL
  let hpA : Hp := hnew h0 ⟨6, false, [rowH hd0]⟩
  obtain ⟨hp', hh, hlim, hnx, hgo⟩ := head_ok (l.take (kOf l)) (hl.take _) hpA rfl rfl rfl
  refine EvC.ofQ d21 rfl rfl rfl ?_
  refine EvQ.run ?_
  refine EvQ.loop ⟨_, hL.congr rfl rfl rfl, rfl⟩ ?_
  rintro _ rfl
  repeat' (first | refine EvQ.run ?_ | (refine EvQ.pickB rfl rfl rfl ?_) | (refine EvQ.cond rfl (fun h => ?_) (fun h => ?_) <;> ((first | replace h := X.nm h | skip); try have hne := ne_len h)) | (refine EvQ.g1 rfl (fun h => ?_) (fun h => ?_) <;> ((first | replace h := X.nm h | skip); try have hne := ne_len h)) | (refine EvQ.pick rfl (fun _ => rfl) (fun _ => rfl) (fun h => ?_) (fun h => ?_) <;> ((first | replace h := X.nm h | skip); try have hne := ne_len h)) | refine EvQ.fin X.rs ?_ | refine EvQ.fin1 (fun _ => rfl) rfl ?_)
  cases hs : headS (l.take (kOf l)) with
  | none =>
    rw [hs] at hh
    have hr : reqF l = none := by unfold reqF; rw [hs]
    rw [hr]
    repeat' (first | refine EvQ.run ?_ | refine EvQ.lift (fun _ zn => X.pcall (hh) X.cq rfl X.al rfl zn) ?_ | refine EvQ.lift (fun _ zn => X.pcallG (hh) rfl X.cq rfl X.al rfl zn) ?_ | refine EvQ.lift (fun _ zn => X.pcallC (hh) rfl X.cq rfl X.al rfl zn) ?_ | refine EvQ.lift (fun _ zn => X.pcallT (hh) (by decide) X.cq rfl X.al rfl zn) ?_ | refine EvQ.lift (fun _ zn => X.call rfl X.al (hh) zn) ?_ | (refine EvQ.pickB rfl rfl rfl ?_) | (refine EvQ.cond rfl (fun h => ?_) (fun h => ?_) <;> ((first | replace h := X.nm h | skip); try have hne := ne_len h)) | (refine EvQ.g1 rfl (fun h => ?_) (fun h => ?_) <;> ((first | replace h := X.nm h | skip); try have hne := ne_len h)) | (refine EvQ.pick rfl (fun _ => rfl) (fun _ => rfl) (fun h => ?_) (fun h => ?_) <;> ((first | replace h := X.nm h | skip); try have hne := ne_len h)) | refine EvQ.fin X.rs ?_ | refine EvQ.fin1 (fun _ => rfl) rfl ?_)
    exact ⟨_, _, rfl, .ns, rfl, .ns, hlim⟩
  | some h =>
    rw [hs] at hh
    have hg := hgo h hs
    obtain ⟨tm1, tm2⟩ := headGo_txt _ _ _ h (hl.take _) hs ⟨fun n hn => (List.not_mem_nil hn).elim, Nat.zero_le _⟩
    have hrt := right_ok h tm1 tm2
    first | refine EvQ.lift (fun _ zn => X.pcall (hh) X.cq rfl X.al rfl zn) ?_ | refine EvQ.lift (fun _ zn => X.pcallG (hh) rfl X.cq rfl X.al rfl zn) ?_ | refine EvQ.lift (fun _ zn => X.pcallC (hh) rfl X.cq rfl X.al rfl zn) ?_ | refine EvQ.lift (fun _ zn => X.pcallT (hh) (by decide) X.cq rfl X.al rfl zn) ?_ | refine EvQ.lift (fun _ zn => X.call rfl X.al (hh) zn) ?_
    try refine EvQ.run ?_
    refine EvQ.lift (fun _ zn => X.pcall hrt (.gs2 (rowH_clo h) (.nil _)) rfl rfl rfl zn) ?_
    cases hb : rightB h with
    | false =>
      have hr : reqF l = none := by unfold reqF; rw [hs]; simp [hb]
      rw [hr]
      repeat' (first | refine EvQ.run ?_ | (refine EvQ.pickB rfl rfl rfl ?_) | (refine EvQ.cond rfl (fun h => ?_) (fun h => ?_) <;> ((first | replace h := X.nm h | skip); try have hne := ne_len h)) | (refine EvQ.g1 rfl (fun h => ?_) (fun h => ?_) <;> ((first | replace h := X.nm h | skip); try have hne := ne_len h)) | (refine EvQ.pick rfl (fun _ => rfl) (fun _ => rfl) (fun h => ?_) (fun h => ?_) <;> ((first | replace h := X.nm h | skip); try have hne := ne_len h)) | refine EvQ.fin X.rs ?_ | refine EvQ.fin1 (fun _ => rfl) rfl ?_)
      exact ⟨_, _, rfl, .ns, rfl, .ns, hlim⟩
    | true =>
      refine EvQ.run ?_
      refine EvQ.call rfl X.al (rest_rw hp' (l.drop (kOf l)) (hl.drop _) (by omega)) ?_
      rintro _ hp2 ⟨w, rfl, hN⟩
      have hwl := hN.o.lp
      have hwc := hN.o.cells
      have hwk := hN.o.keep
      have hg2 : hget hp2 0 = some ⟨6, false, [rowH h]⟩ := (hN.u.get 0 (by omega)).trans hg
      have hlim2 : hp2.lim = 0 := hN.u.lim.trans hlim
      have hlim3 : hp2.lim ≤ 0 := by omega
      cases hq : restB (l.drop (kOf l)) with
      | false =>
        have hr : reqF l = none := by unfold reqF; rw [hs]; simp [hb, hq]
        rw [hr]
        repeat' (first | refine EvQ.run ?_ | (refine EvQ.pickB rfl rfl rfl ?_) | (refine EvQ.cond rfl (fun h => ?_) (fun h => ?_) <;> ((first | replace h := X.nm h | skip); try have hne := ne_len h)) | (refine EvQ.g1 rfl (fun h => ?_) (fun h => ?_) <;> ((first | replace h := X.nm h | skip); try have hne := ne_len h)) | (refine EvQ.pick rfl (fun _ => rfl) (fun _ => rfl) (fun h => ?_) (fun h => ?_) <;> ((first | replace h := X.nm h | skip); try have hne := ne_len h)) | refine EvQ.fin X.rs ?_ | refine EvQ.fin1 (fun _ => rfl) rfl ?_)
        exact ⟨_, _, rfl, .ns, rfl, .ns, hlim2⟩
      | true =>
        have hr : reqF l = some (h, restL (l.drop (kOf l)), restN (l.drop (kOf l))) := by unfold reqF; rw [hs]; simp [hb, hq]
        rw [hr]
        repeat' (first | refine EvQ.run ?_ | (refine EvQ.pickB rfl rfl rfl ?_) | (refine EvQ.cond rfl (fun h => ?_) (fun h => ?_) <;> ((first | replace h := X.nm h | skip); try have hne := ne_len h)) | (refine EvQ.g1 rfl (fun h => ?_) (fun h => ?_) <;> ((first | replace h := X.nm h | skip); try have hne := ne_len h)) | (refine EvQ.pick rfl (fun _ => rfl) (fun _ => rfl) (fun h => ?_) (fun h => ?_) <;> ((first | replace h := X.nm h | skip); try have hne := ne_len h)) | refine EvQ.fin X.rs ?_ | refine EvQ.fin1 (fun _ => rfl) rfl ?_)
        refine ⟨_, _, rfl, w, rfl, ?_, hlim2⟩
        refine hN.o.get (Nat.le_refl _) rfl fun id hid => ?_
        have := hN.f id hid
        rw [hget_other (by omega), hget_other (by omega)]
end Go.Proofs.Ytcbiplmgaiipgaa
