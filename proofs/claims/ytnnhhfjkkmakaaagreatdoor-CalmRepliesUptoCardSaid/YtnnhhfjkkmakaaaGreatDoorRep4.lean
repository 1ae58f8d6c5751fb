import Derived.Test.YtnnhhfjkkmakaaaGreatDoorEvE
import Derived.Test.YtnnhhfjkkmakaaaGreatDoorRep2
import Derived.Test.YtnnhhfjkkmakaaaGreatDoorRep3
set_option linter.unusedSectionVars false
set_option linter.unusedVariables false
set_option linter.unusedSimpArgs false
-- CalmReplies: the program's Reply (EvHp EvOwn)
namespace Go.Proofs.YtnnhhfjkkmakaaaGreatDoor.rep
open Go hiding Fn
open Ev tab
attribute [local irreducible] EvP EvD EvL EvC evGds evLs C.run sK bK gK pK fK lpB stepD hp6 itoaL valF
abbrev sInm : List Nat := [105, 102, 45, 110, 111, 110, 101, 45, 109, 97, 116, 99, 104]
abbrev sMet : List Nat := [58, 109, 101, 116, 104, 111, 100]
abbrev sHEAD : List Nat := [72, 69, 65, 68]
abbrev sSt : List Nat := [58, 115, 116, 97, 116, 117, 115]
abbrev sCC : List Nat := [99, 97, 99, 104, 101, 45, 99, 111, 110, 116, 114, 111, 108]
abbrev sEt : List Nat := [101, 116, 97, 103]
def hitP (r : Rl) (t : Tk) : Prop := r.tag ≠ [] ∧ (valF t.fs sInm).getD [] = r.tag
instance (r : Rl) (t : Tk) : Decidable (hitP r t) := by unfold hitP; infer_instance
def stR (r : Rl) (t : Tk) : Int := if hitP r t then 304 else r.st
def bdR (r : Rl) (t : Tk) : List Nat := if (valF t.fs sMet).getD [] = sHEAD ∨ stR r t = 204 then [] else if hitP r t then [] else r.body
def hdR (r : Rl) (st : Int) : List Fld := (sSt, dig3 st.toNat) :: ((if r.ctl = [] then [] else [(sCC, r.ctl)]) ++ (if r.tag = [] then [] else [(sEt, r.tag)]))
def flR (r : Rl) (st : Int) : List Fld := hdR r st ++ r.ex
theorem rws_append (a b : List Fld) : rws a ++ rws b = rws (a ++ b) := by simp [rws]
theorem hd_len (r : Rl) (st : Int) : (hdR r st).length ≤ 3 := by
  unfold hdR
  split <;> split <;> simp
/-- what is left behind the status: the rows, and the end -/
def tail30 : C := match d30.body with
  | .seq _ (.seq _ (.seq _ (.seq _ r))) => r
  | _ => .skip
theorem oah_lims {hp : Hp} {v : V} (h : hp.lim ≤ hp.next) (rows : List (List V)) : (oah hp v 3 rows).lim ≤ (oah hp v 3 rows).next := by rw [oah_lim, oah_next]; omega
set_option maxHeartbeats 16000000 in
theorem reply_loop (ex H : List Fld) (bd : List Nat) (hx : ex.length ≤ 10000000) (hH : H.length ≤ 3) (v0 : V) (tm : Tm) (lo : Lo) (hp : Hp) (hlo : shed [2, 3, 14] lo = fun _ => none) (hlim : hp.lim ≤ hp.next) (hO : Ow hp v0 3 (rws H))
    (hk : [7, 12, 72, 73, 74].map (fun x => (x, tm x)) = [(7, .st bd), (12, v0), (72, .vs 2 (fds ex)), (73, .it .i64 (Int.ofNat ex.length)), (74, .it .i64 (Int.ofNat 0))]) :
    ∃ r, EvL Fq [7, 12, 72, 73, 74] [2, 3, 14] (lpB (d30.body.lps.getD 0 .skip)) ⟨tm, lo, hp⟩ r ∧ (∃ v, XtQ 0 [(7, .st bd), (12, v)] (fun lo hp => Ow hp v 3 (rws (H ++ ex))) r) := by
  refine EvL.invQ (S := Nat × V) (fun x => [(7, .st bd), (12, x.2), (72, .vs 2 (fds ex)), (73, .it .i64 (Int.ofNat ex.length)), (74, .it .i64 (Int.ofNat x.1))])
    (fun x lo hp => shed [2, 3, 14] lo = (fun _ => none) ∧ hp.lim ≤ hp.next ∧ x.1 ≤ ex.length ∧ Ow hp x.2 3 (rws (H ++ ex.take x.1))) (fun x => ex.length - x.1) _ ?_ (0, v0) tm lo hp ⟨hlo, hlim, Nat.zero_le _, by simpa using hO⟩ hk
  intro ⟨i, v⟩ lo hp ⟨e1, e2, e3, e4⟩
  simp only at e2 e3 e4
  rw [e1]
  by_cases hi : i < ex.length
  · have ht := take_getD hi f0
    have ro := row_ok (ex.getD i f0).1 (ex.getD i f0).2
    have hl : (rws (H ++ ex.take i)).length ≤ 10000003 := by rw [rws_length, List.length_append, List.length_take]; omega
    have hO' := e4.put (new := [rw1 (ex.getD i f0)]) e2
    have hlim' := fun rows => oah_lims (v := v) e2 rows
    have vl := e4.lp
    generalize hR : rws (H ++ ex.take i) = rows at *
    have hR2 : rws (H ++ ex.take (i + 1)) = rows ++ [rw1 (ex.getD i f0)] := by rw [ht, ← List.append_assoc, ← rws_append, hR]; rfl
    repeat' (first | refine EvQ.run ?_ | refine EvQ.lift (fun _ zn => X.pcall (ro) X.cq rfl X.al rfl zn) ?_ | refine EvQ.lift (fun _ zn => X.pcallG (ro) rfl X.cq rfl X.al rfl zn) ?_ | refine EvQ.lift (fun _ zn => X.pcallC (ro) rfl X.cq rfl X.al rfl zn) ?_ | refine EvQ.lift (fun _ zn => X.pcallT (ro) (by decide) X.cq rfl X.al rfl zn) ?_ | refine EvQ.lift (fun _ zn => X.call rfl X.al (ro) zn) ?_ | (refine EvQ.pickB rfl rfl rfl ?_) | (refine EvQ.cond rfl (fun h => ?_) (fun h => ?_) <;> ((first | replace h := X.nm h | skip); try have hne := ne_len h)) | (refine EvQ.g1 rfl (fun h => ?_) (fun h => ?_) <;> ((first | replace h := X.nm h | skip); try have hne := ne_len h)) | (refine EvQ.pick rfl (fun _ => rfl) (fun _ => rfl) (fun h => ?_) (fun h => ?_) <;> ((first | replace h := X.nm h | skip); try have hne := ne_len h)) | refine EvQ.fin X.rs ?_ | refine EvQ.fin1 (fun _ => rfl) rfl ?_)
    exact EvQ.go (i + 1, _) X.kv ⟨X.lo, hlim' _, hi, by rw [hR2]; exact hO'⟩ (by show ex.length - (i + 1) < ex.length - i; omega)
  · repeat' (first | refine EvQ.run ?_ | (refine EvQ.pickB rfl rfl rfl ?_) | (refine EvQ.cond rfl (fun h => ?_) (fun h => ?_) <;> ((first | replace h := X.nm h | skip); try have hne := ne_len h)) | (refine EvQ.g1 rfl (fun h => ?_) (fun h => ?_) <;> ((first | replace h := X.nm h | skip); try have hne := ne_len h)) | (refine EvQ.pick rfl (fun _ => rfl) (fun _ => rfl) (fun h => ?_) (fun h => ?_) <;> ((first | replace h := X.nm h | skip); try have hne := ne_len h)) | refine EvQ.fin X.rs ?_ | refine EvQ.fin1 (fun _ => rfl) rfl ?_)
    rw [List.take_of_length_le (by omega)] at e4
    exact EvQ.xt ⟨v, .mk' X.kv e4⟩
set_option maxHeartbeats 64000000 in
theorem reply_tail (r : Rl) (t : Tk) (st : Int) (bd : List Nat) (h : ROK r) (hs : st < 9223372036854775808) (tm : Tm) :
    EvQ Fq (tail30.run ⟨upds [(2, .lp 2 0), (6, .it .i64 st), (7, .st bd)] tm, lset (lset (fun _ => none) 2 (rowRl r)) 3 (rowTk t), h0⟩ (fK d30)) (PQ d30.rs [.vs 3 (rws (flR r st)), .st bd]) := by
  have dg := digits_ok st hs
  have ro := row_ok sSt (dig3 st.toNat)
  have r2 := row_ok sCC r.ctl
  have r3 := row_ok sEt r.tag
  have hx := h.x.1
  have hO0 : Ow (hnew h0 ⟨3, false, [(V.ag (rw1 (sSt, dig3 st.toNat))).cells]⟩) (.hs 0 0 1) 3 [rw1 (sSt, dig3 st.toNat)] := Ow.mk0 (Nat.le_refl _)
  have L0 : (hnew h0 ⟨3, false, [(V.ag (rw1 (sSt, dig3 st.toNat))).cells]⟩).lim ≤ (hnew h0 ⟨3, false, [(V.ag (rw1 (sSt, dig3 st.toNat))).cells]⟩).next := Nat.zero_le _
  have hO1 := hO0.put (new := [rw1 (sCC, r.ctl)]) L0
  have hO2 := hO0.put (new := [rw1 (sEt, r.tag)]) L0
  have hO3 := hO1.put (new := [rw1 (sEt, r.tag)]) (oah_lims L0 _)
  unfold tail30
  refine EvQ.run ?_
  first | refine EvQ.lift (fun _ zn => X.pcall (dg) X.cq rfl X.al rfl zn) ?_ | refine EvQ.lift (fun _ zn => X.pcallG (dg) rfl X.cq rfl X.al rfl zn) ?_ | refine EvQ.lift (fun _ zn => X.pcallC (dg) rfl X.cq rfl X.al rfl zn) ?_ | refine EvQ.lift (fun _ zn => X.pcallT (dg) (by decide) X.cq rfl X.al rfl zn) ?_ | refine EvQ.lift (fun _ zn => X.call rfl X.al (dg) zn) ?_
  try refine EvQ.run ?_
  first | refine EvQ.lift (fun _ zn => X.pcall (ro) X.cq rfl X.al rfl zn) ?_ | refine EvQ.lift (fun _ zn => X.pcallG (ro) rfl X.cq rfl X.al rfl zn) ?_ | refine EvQ.lift (fun _ zn => X.pcallC (ro) rfl X.cq rfl X.al rfl zn) ?_ | refine EvQ.lift (fun _ zn => X.pcallT (ro) (by decide) X.cq rfl X.al rfl zn) ?_ | refine EvQ.lift (fun _ zn => X.call rfl X.al (ro) zn) ?_
  try refine EvQ.run ?_
  repeat' (first | refine EvQ.run ?_ | refine EvQ.lift (fun _ zn => X.pcall (r2) X.cq rfl X.al rfl zn) ?_ | refine EvQ.lift (fun _ zn => X.pcallG (r2) rfl X.cq rfl X.al rfl zn) ?_ | refine EvQ.lift (fun _ zn => X.pcallC (r2) rfl X.cq rfl X.al rfl zn) ?_ | refine EvQ.lift (fun _ zn => X.pcallT (r2) (by decide) X.cq rfl X.al rfl zn) ?_ | refine EvQ.lift (fun _ zn => X.call rfl X.al (r2) zn) ?_ | refine EvQ.lift (fun _ zn => X.pcall (r3) X.cq rfl X.al rfl zn) ?_ | refine EvQ.lift (fun _ zn => X.pcallG (r3) rfl X.cq rfl X.al rfl zn) ?_ | refine EvQ.lift (fun _ zn => X.pcallC (r3) rfl X.cq rfl X.al rfl zn) ?_ | refine EvQ.lift (fun _ zn => X.pcallT (r3) (by decide) X.cq rfl X.al rfl zn) ?_ | refine EvQ.lift (fun _ zn => X.call rfl X.al (r3) zn) ?_ | (refine EvQ.pickB rfl rfl rfl ?_) | (refine EvQ.cond rfl (fun h => ?_) (fun h => ?_) <;> ((first | replace h := X.nm h | skip); try have hne := ne_len h)) | (refine EvQ.g1 rfl (fun h => ?_) (fun h => ?_) <;> ((first | replace h := X.nm h | skip); try have hne := ne_len h)) | (refine EvQ.pick rfl (fun _ => rfl) (fun _ => rfl) (fun h => ?_) (fun h => ?_) <;> ((first | replace h := X.nm h | skip); try have hne := ne_len h)) | refine EvQ.fin X.rs ?_ | refine EvQ.fin1 (fun _ => rfl) rfl ?_)
  all_goals
    refine EvQ.loop (reply_loop r.ex (hdR r st) bd hx (hd_len r st) _ _ _ _ X.lo ?_ ?_ X.kv) ?_
    · first
        | exact L0
        | exact oah_lims L0 _
        | exact oah_lims (oah_lims L0 _) _
    · unfold hdR
      first
        | (rw [if_neg (by assumption), if_neg (by assumption)]; exact hO3)
        | (rw [if_neg (by assumption), if_pos (by assumption)]; exact hO1)
        | (rw [if_pos (by assumption), if_neg (by assumption)]; exact hO2)
        | (rw [if_pos (by assumption), if_pos (by assumption)]; exact hO0)
    · rintro _ ⟨v, tm, lo, hp, rfl, hO⟩
      have vl := hO.lp
      obtain ⟨hp', hc, hcf⟩ := hO.sl.close (ts := [.one, .one, .one]) (rws_clo _) (by rw [rws_length, List.length_append]; have := hd_len r st; show _ + 3 + 3 ≤ 100000000; omega)
      repeat' (first | refine EvQ.run ?_ | (refine EvQ.pickB rfl rfl rfl ?_) | (refine EvQ.cond rfl (fun h => ?_) (fun h => ?_) <;> ((first | replace h := X.nm h | skip); try have hne := ne_len h)) | (refine EvQ.g1 rfl (fun h => ?_) (fun h => ?_) <;> ((first | replace h := X.nm h | skip); try have hne := ne_len h)) | (refine EvQ.pick rfl (fun _ => rfl) (fun _ => rfl) (fun h => ?_) (fun h => ?_) <;> ((first | replace h := X.nm h | skip); try have hne := ne_len h)) | refine EvQ.fin X.rs ?_ | refine EvQ.fin1 (fun _ => rfl) rfl ?_)
      exact PQ.of (.c hc (.s (clo_st _) (.nil _)))
def head30 : C := match d30.body with
  | .seq a (.seq b (.seq c (.seq d _))) => .seq a (.seq b (.seq c (.seq d tail30)))
  | _ => .skip
theorem head30_eq : d30.body = head30 := rfl
theorem upds3 {tm : Tm} {a b c : V} (h : [(2, a), (6, b), (7, c)].map (fun x : Nat × V => (x.1, tm x.1)) = [(2, a), (6, b), (7, c)]) : tm = upds [(2, a), (6, b), (7, c)] tm := (upds_self _ h).symm
end Go.Proofs.YtnnhhfjkkmakaaaGreatDoor.rep
namespace Go.Proofs.YtnnhhfjkkmakaaaGreatDoor.rep
open Go hiding Fn
open Ev tab
attribute [local irreducible] EvP EvD EvL EvC evGds evLs C.run sK bK gK pK fK lpB stepD hp6 itoaL valF tail30
theorem no_tag {r : Rl} {t : Tk} (h : r.tag = []) : ¬ hitP r t := fun q => q.1 h
theorem no_ne {r : Rl} {t : Tk} (h : ¬ (valF t.fs sInm).getD [] = r.tag) : ¬ hitP r t := fun q => h q.2
theorem no_none {r : Rl} {t : Tk} (h : (valF t.fs sInm).isSome = false) : ¬ hitP r t := fun q => q.1 (by
  have q2 := q.2
  cases e : valF t.fs sInm with
  | none => rw [e] at q2; exact q2.symm
  | some v => rw [e] at h; cases h)
theorem fin1 {r : Rl} {t : Tk} (h : hitP r t) : Int.ofNat 304 = stR r t ∧ [] = bdR r t := ⟨(if_pos h).symm, by unfold bdR; rw [if_pos h]; split <;> rfl⟩
theorem fin2 {r : Rl} {t : Tk} (h : ¬ hitP r t) : r.st = stR r t := (if_neg h).symm
theorem fin3 {r : Rl} {t : Tk} (q : (valF t.fs sMet).getD [] = sHEAD) : [] = bdR r t := (if_pos (.inl q)).symm
theorem fin4 {r : Rl} {t : Tk} (h : ¬ hitP r t) (q : r.st = Int.ofNat 204) : [] = bdR r t := (if_pos (.inr ((if_neg h).trans q))).symm
theorem fin5 {r : Rl} {t : Tk} (h : ¬ hitP r t) (q : ¬ (valF t.fs sMet).getD [] = sHEAD) (q2 : ¬ r.st = Int.ofNat 204) : r.body = bdR r t := by
  unfold bdR
  rw [if_neg (fun e => e.elim q fun e => q2 ((if_neg h).symm.trans e)), if_neg h]
theorem tail_at {r : Rl} {t : Tk} (h : ROK r) (st : Int) (bd : List Nat) (hs : st < 9223372036854775808) {tm : Tm} {lo : Lo} (hlo : lo = lset (lset (fun _ => none) 2 (rowRl r)) 3 (rowTk t))
    (hk : [(2, V.lp 2 0), (6, V.it .i64 st), (7, V.st bd)].map (fun x : Nat × V => (x.1, tm x.1)) = [(2, V.lp 2 0), (6, V.it .i64 st), (7, V.st bd)]) (e1 : st = stR r t) (e2 : bd = bdR r t) :
    EvQ Fq (tail30.run ⟨tm, lo, h0⟩ (fK d30)) (PQ d30.rs [.vs 3 (rws (flR r (stR r t))), .st (bdR r t)]) := by
  rw [upds3 hk, hlo, ← e1, ← e2]
  exact reply_tail r t st bd h hs tm
set_option maxHeartbeats 64000000 in
theorem reply_ok (r : Rl) (t : Tk) (hR : ROK r) (hf : t.fs.length ≤ 10000000) : EvP Fq 30 c30 [.ag (rowRl r), .ag (rowTk t)] [.vs 3 (rws (flR r (stR r t))), .st (bdR r t)] := by
  have v1 := val_ok t.fs sInm hf
  have v2 := val_ok t.fs sMet hf
  have hs := hR.s
  refine EvP.ofQ d30 rfl rfl rfl ?_
  rw [head30_eq]
  unfold head30
  refine EvQ.run ?_
  first | refine EvQ.lift (fun _ zn => X.pcall (v1) X.cq rfl X.al rfl zn) ?_ | refine EvQ.lift (fun _ zn => X.pcallG (v1) rfl X.cq rfl X.al rfl zn) ?_ | refine EvQ.lift (fun _ zn => X.pcallC (v1) rfl X.cq rfl X.al rfl zn) ?_ | refine EvQ.lift (fun _ zn => X.pcallT (v1) (by decide) X.cq rfl X.al rfl zn) ?_ | refine EvQ.lift (fun _ zn => X.call rfl X.al (v1) zn) ?_
  try refine EvQ.run ?_
  repeat' (first | refine EvQ.run ?_ | refine EvQ.lift (fun _ zn => X.pcall (v2) X.cq rfl X.al rfl zn) ?_ | refine EvQ.lift (fun _ zn => X.pcallG (v2) rfl X.cq rfl X.al rfl zn) ?_ | refine EvQ.lift (fun _ zn => X.pcallC (v2) rfl X.cq rfl X.al rfl zn) ?_ | refine EvQ.lift (fun _ zn => X.pcallT (v2) (by decide) X.cq rfl X.al rfl zn) ?_ | refine EvQ.lift (fun _ zn => X.call rfl X.al (v2) zn) ?_ | (refine EvQ.pickB rfl rfl rfl ?_) | (refine EvQ.cond rfl (fun h => ?_) (fun h => ?_) <;> ((first | replace h := X.nm h | skip); try have hne := ne_len h)) | (refine EvQ.g1 rfl (fun h => ?_) (fun h => ?_) <;> ((first | replace h := X.nm h | skip); try have hne := ne_len h)) | (refine EvQ.pick rfl (fun _ => rfl) (fun _ => rfl) (fun h => ?_) (fun h => ?_) <;> ((first | replace h := X.nm h | skip); try have hne := ne_len h)) | refine EvQ.fin X.rs ?_ | refine EvQ.fin1 (fun _ => rfl) rfl ?_)
  all_goals
    clear v1 v2
    refine tail_at hR _ _ ?_ rfl X.kv ?_ ?_
  all_goals
    first
      | exact hs
      | exact (by decide : (304 : Int) < 9223372036854775808)
      | exact (fin1 ⟨by assumption, by assumption⟩).1
      | exact (fin1 ⟨by assumption, by assumption⟩).2
      | exact fin2 (no_tag (by assumption))
      | exact fin4 (no_tag (by assumption)) (by assumption)
      | exact fin5 (no_tag (by assumption)) (by assumption) (by assumption)
      | exact fin2 (no_ne (by assumption))
      | exact fin4 (no_ne (by assumption)) (by assumption)
      | exact fin5 (no_ne (by assumption)) (by assumption) (by assumption)
      | exact fin2 (no_none (by assumption))
      | exact fin4 (no_none (by assumption)) (by assumption)
      | exact fin5 (no_none (by assumption)) (by assumption) (by assumption)
      | exact fin3 (by assumption)
end Go.Proofs.YtnnhhfjkkmakaaaGreatDoor.rep
