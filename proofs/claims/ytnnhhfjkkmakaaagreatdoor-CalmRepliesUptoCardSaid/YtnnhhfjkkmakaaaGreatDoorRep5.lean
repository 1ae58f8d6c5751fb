import Derived.Test.YtnnhhfjkkmakaaaGreatDoorEvE
import Derived.Test.YtnnhhfjkkmakaaaGreatDoorRep4
set_option linter.unusedSectionVars false
set_option linter.unusedVariables false
set_option linter.unusedSimpArgs false
-- CalmReplies: the document's digits (EvHp EvOwn)
namespace Go.Proofs.YtnnhhfjkkmakaaaGreatDoor.rep
open Go hiding Fn
open Ev tab
attribute [local irreducible] EvP EvD EvL EvC evGds evLs C.run sK bK gK pK fK lpB stepD hp6 itoaL valF
theorem dg1 {k : Nat} (h : k < 10) : (wr .u8 (wr .i64 (Int.ofNat 48 + Int.ofNat k))).toNat % 256 = 48 + k := by
  rw [wr64 (by simp only [Int.ofNat_eq_natCast]; omega) (by simp only [Int.ofNat_eq_natCast]; omega), wr8 (by simp only [Int.ofNat_eq_natCast]; omega) (by simp only [Int.ofNat_eq_natCast]; omega)]
  simp only [Int.ofNat_eq_natCast]
  omega
theorem dg2 {m d : Nat} (h : m < 9223372036854775808) : (wr .i64 ((Int.ofNat m).tdiv (Int.ofNat d))).tmod (Int.ofNat 10) = Int.ofNat (m / d % 10) := by
  have hle : m / d ≤ m := Nat.div_le_self m d
  rw [show (Int.ofNat m).tdiv (Int.ofNat d) = Int.ofNat (m / d) from rfl]
  generalize m / d = q at *
  rw [wr64 (by simp only [Int.ofNat_eq_natCast]; omega) (by simp only [Int.ofNat_eq_natCast]; omega)]
  rfl
set_option maxHeartbeats 8000000 in
theorem rdigits_ok (n : Int) (h1 : n < 9223372036854775808) : EvP Fq 87 c87 [.it .i64 n] [.st (dig3 n.toNat)] := by
  have hm : (bif true then (bif ilt n (Int.ofNat 0) then Int.ofNat 0 else n) else (bif ilt (Int.ofNat 0) n then Int.ofNat 0 else n)) = Int.ofNat n.toNat := mx_nat n
  have hn : n.toNat < 9223372036854775808 := by omega
  refine EvP.ofQ d87 rfl rfl rfl ?_
  refine EvQ.run ?_
  refine EvQ.fin X.rs ?_
  refine PQ.st ?_
  rw [hm]
  generalize n.toNat = m at *
  rw [dg2 hn, dg2 hn, show (Int.ofNat m).tmod (Int.ofNat 10) = Int.ofNat (m % 10) from rfl, dg1 (Nat.mod_lt _ (by decide)), dg1 (Nat.mod_lt _ (by decide)), dg1 (Nat.mod_lt _ (by decide))]
  rfl
theorem oah_lims2 {hp : Hp} {v : V} {sz : Nat} (h : hp.lim ≤ hp.next) (rows : List (List V)) : (oah hp v sz rows).lim ≤ (oah hp v sz rows).next := by rw [oah_lim, oah_next]; omega
/-- what is left behind the status -/
def tail41 : C := match d41.body with
  | .seq _ (.seq _ (.seq _ (.seq _ r))) => r
  | _ => .skip
def head41 : C := match d41.body with
  | .seq a (.seq b (.seq c (.seq d _))) => .seq a (.seq b (.seq c (.seq d tail41)))
  | _ => .skip
theorem head41_eq : d41.body = head41 := rfl
set_option maxHeartbeats 16000000 in
theorem rrep_loop (l : List Fld) (bd : List Nat) (hx : l.length ≤ 20000000) (x : V) (tm : Tm) (lo : Lo) (hp0 : Hp) (hlo : shed [2, 3] lo = fun _ => none) (hlim : hp0.lim ≤ hp0.next) (hO : Ow hp0 x 2 (fds l))
    (hk : [7, 8, 9, 10].map (fun x => (x, tm x)) = [(7, .st bd), (8, x), (9, .ns), (10, .it .i64 (Int.ofNat 0))]) :
    ∃ r, EvL Fq [7, 8, 9, 10] [2, 3] (lpB (d41.body.lps.getD 0 .skip)) ⟨tm, lo, hp0⟩ r ∧ (∃ v, XtQ 0 [(7, .st bd), (9, v)] (fun lo hp => Ow hp v 3 (rws l)) r) := by
  have xl := hO.lp
  refine EvL.invQ (S := Nat × V) (fun y => [(7, .st bd), (8, x), (9, y.2), (10, .it .i64 (Int.ofNat y.1))])
    (fun y lo hp => shed [2, 3] lo = (fun _ => none) ∧ hp.lim ≤ hp.next ∧ y.1 ≤ l.length ∧ Ow hp y.2 3 (rws (l.take y.1)) ∧ Ow hp x 2 (fds l)) (fun y => l.length - y.1) _ ?_ (0, .ns) tm lo hp0 ⟨hlo, hlim, Nat.zero_le _, .ns, hO⟩ hk
  intro ⟨i, v⟩ lo hp ⟨e1, e2, e3, e4, e5⟩
  simp only at e2 e3 e4
  rw [e1]
  have xn := e5.len
  have xs := e5.sl
  have xr := e5.sl.rd
  rw [fds_length] at xn
  by_cases hi : i < l.length
  · have ht := take_getD hi f0
    have hl : (rws (l.take i)).length ≤ 20000000 := by rw [rws_length, List.length_take]; omega
    have hg := fds_getD' hi
    have hO' := e4.put (new := [rw1 (l.getD i f0)]) e2
    have hX' := e5.oah (w := v) (sz2 := 3) (r2 := rws (l.take i) ++ [rw1 (l.getD i f0)]) (e5.apart e4 (by decide))
    have hlim' := fun rows => oah_lims2 (v := v) (sz := 3) e2 rows
    have vl := e4.lp
    generalize hR : rws (l.take i) = rows at *
    have hR2 : rws (l.take (i + 1)) = rows ++ [rw1 (l.getD i f0)] := by rw [ht, ← rws_append, hR]; rfl
    repeat' (first | refine EvQ.run ?_ | (refine EvQ.pickB rfl rfl rfl ?_) | (refine EvQ.cond rfl (fun h => ?_) (fun h => ?_) <;> ((first | replace h := X.nm h | skip); try have hne := ne_len h)) | (refine EvQ.g1 rfl (fun h => ?_) (fun h => ?_) <;> ((first | replace h := X.nm h | skip); try have hne := ne_len h)) | (refine EvQ.pick rfl (fun _ => rfl) (fun _ => rfl) (fun h => ?_) (fun h => ?_) <;> ((first | replace h := X.nm h | skip); try have hne := ne_len h)) | refine EvQ.fin X.rs ?_ | refine EvQ.fin1 (fun _ => rfl) rfl ?_)
    exact EvQ.go (i + 1, _) X.kv ⟨X.lo, hlim' _, hi, by rw [hR2]; exact hO', hX'⟩ (by show l.length - (i + 1) < l.length - i; omega)
  · repeat' (first | refine EvQ.run ?_ | (refine EvQ.pickB rfl rfl rfl ?_) | (refine EvQ.cond rfl (fun h => ?_) (fun h => ?_) <;> ((first | replace h := X.nm h | skip); try have hne := ne_len h)) | (refine EvQ.g1 rfl (fun h => ?_) (fun h => ?_) <;> ((first | replace h := X.nm h | skip); try have hne := ne_len h)) | (refine EvQ.pick rfl (fun _ => rfl) (fun _ => rfl) (fun h => ?_) (fun h => ?_) <;> ((first | replace h := X.nm h | skip); try have hne := ne_len h)) | refine EvQ.fin X.rs ?_ | refine EvQ.fin1 (fun _ => rfl) rfl ?_)
    rw [List.take_of_length_le (by omega)] at e4
    exact EvQ.xt ⟨v, .mk' X.kv e4⟩
theorem gah_lims {hp : Hp} {v : V} {sz : Nat} {rows new : List (List V)} (h : hp.lim ≤ hp.next) : (gah hp v sz rows new).lim ≤ (gah hp v sz rows new).next := by
  unfold gah
  split
  · split
    · exact h
    · exact oah_lims2 h _
  · exact oah_lims2 h _
set_option maxHeartbeats 64000000 in
theorem rreply_tail (r : Rl) (t : Tk) (st : Int) (bd : List Nat) (h : ROK r) (hs : st < 9223372036854775808) (tm : Tm) :
    EvQ Fq (tail41.run ⟨upds [(2, .lp 2 0), (6, .it .i64 st), (7, .st bd)] tm, lset (lset (fun _ => none) 2 (rowRl r)) 3 (rowTk t), h0⟩ (fK d41)) (PQ d41.rs [.vs 3 (rws (flR r st)), .st bd]) := by
  have dg := rdigits_ok st hs
  have hx := h.x.1
  have hO0 : Ow (hnew h0 ⟨2, false, [(V.ag (fd (sSt, dig3 st.toNat))).cells]⟩) (.hs 0 0 1) 2 [fd (sSt, dig3 st.toNat)] := Ow.mk0 (Nat.le_refl _)
  have L0 : (hnew h0 ⟨2, false, [(V.ag (fd (sSt, dig3 st.toNat))).cells]⟩).lim ≤ (hnew h0 ⟨2, false, [(V.ag (fd (sSt, dig3 st.toNat))).cells]⟩).next := Nat.zero_le _
  have hO1 := hO0.put (new := [fd (sCC, r.ctl)]) L0
  have hO2 := hO0.put (new := [fd (sEt, r.tag)]) L0
  have hO3 := hO1.put (new := [fd (sEt, r.tag)]) (oah_lims2 L0 _)
  have hxl := fds_length r.ex
  unfold tail41
  refine EvQ.run ?_
  first | refine EvQ.lift (fun _ zn => X.pcall (dg) X.cq rfl X.al rfl zn) ?_ | refine EvQ.lift (fun _ zn => X.pcallG (dg) rfl X.cq rfl X.al rfl zn) ?_ | refine EvQ.lift (fun _ zn => X.pcallC (dg) rfl X.cq rfl X.al rfl zn) ?_ | refine EvQ.lift (fun _ zn => X.pcallT (dg) (by decide) X.cq rfl X.al rfl zn) ?_ | refine EvQ.lift (fun _ zn => X.call rfl X.al (dg) zn) ?_
  try refine EvQ.run ?_
  have L1 := oah_lims2 (v := .hs 0 0 1) (sz := 2) L0 ([fd (sSt, dig3 st.toNat)] ++ [fd (sCC, r.ctl)])
  have L2 := oah_lims2 (v := .hs 0 0 1) (sz := 2) L0 ([fd (sSt, dig3 st.toNat)] ++ [fd (sEt, r.tag)])
  have L3 := oah_lims2 (v := .hs (hnew h0 ⟨2, false, [(V.ag (fd (sSt, dig3 st.toNat))).cells]⟩).next 0 ([fd (sSt, dig3 st.toNat)].length + [fd (sCC, r.ctl)].length)) (sz := 2) L1 ([fd (sSt, dig3 st.toNat)] ++ [fd (sCC, r.ctl)] ++ [fd (sEt, r.tag)])
  repeat' (first | refine EvQ.run ?_ | (refine EvQ.pickB rfl rfl rfl ?_) | (refine EvQ.cond rfl (fun h => ?_) (fun h => ?_) <;> ((first | replace h := X.nm h | skip); try have hne := ne_len h)) | (refine EvQ.g1 rfl (fun h => ?_) (fun h => ?_) <;> ((first | replace h := X.nm h | skip); try have hne := ne_len h)) | (refine EvQ.pick rfl (fun _ => rfl) (fun _ => rfl) (fun h => ?_) (fun h => ?_) <;> ((first | replace h := X.nm h | skip); try have hne := ne_len h)) | refine EvQ.fin X.rs ?_ | refine EvQ.fin1 (fun _ => rfl) rfl ?_)
  all_goals
    refine EvQ.loop (rrep_loop (flR r st) bd (by have := hd_len r st; unfold flR; rw [List.length_append]; omega) _ _ _ _ X.lo ?_ ?_ X.kv) ?_
    · first
        | exact gah_lims L0
        | exact gah_lims L1
        | exact gah_lims L2
        | exact gah_lims L3
    · unfold flR hdR
      first
        | (rw [if_neg (by assumption), if_neg (by assumption)]; exact hO3.gput L3)
        | (rw [if_neg (by assumption), if_pos (by assumption)]; exact hO1.gput L1)
        | (rw [if_pos (by assumption), if_neg (by assumption)]; exact hO2.gput L2)
        | (rw [if_pos (by assumption), if_pos (by assumption)]; exact hO0.gput L0)
    · rintro _ ⟨v, tm, lo, hp, rfl, hO⟩
      have vl := hO.lp
      obtain ⟨hp', hc, hcf⟩ := hO.sl.close (ts := [.one, .one, .one]) (rws_clo _) (by rw [rws_length]; have := hd_len r st; unfold flR; rw [List.length_append]; show _ + 3 + 3 ≤ 100000000; omega)
      repeat' (first | refine EvQ.run ?_ | (refine EvQ.pickB rfl rfl rfl ?_) | (refine EvQ.cond rfl (fun h => ?_) (fun h => ?_) <;> ((first | replace h := X.nm h | skip); try have hne := ne_len h)) | (refine EvQ.g1 rfl (fun h => ?_) (fun h => ?_) <;> ((first | replace h := X.nm h | skip); try have hne := ne_len h)) | (refine EvQ.pick rfl (fun _ => rfl) (fun _ => rfl) (fun h => ?_) (fun h => ?_) <;> ((first | replace h := X.nm h | skip); try have hne := ne_len h)) | refine EvQ.fin X.rs ?_ | refine EvQ.fin1 (fun _ => rfl) rfl ?_)
      exact PQ.of (.c hc (.s (clo_st _) (.nil _)))
theorem tail_at2 {r : Rl} {t : Tk} (h : ROK r) (st : Int) (bd : List Nat) (hs : st < 9223372036854775808) {tm : Tm} {lo : Lo} (hlo : lo = lset (lset (fun _ => none) 2 (rowRl r)) 3 (rowTk t))
    (hk : [(2, V.lp 2 0), (6, V.it .i64 st), (7, V.st bd)].map (fun x : Nat × V => (x.1, tm x.1)) = [(2, V.lp 2 0), (6, V.it .i64 st), (7, V.st bd)]) (e1 : st = stR r t) (e2 : bd = bdR r t) :
    EvQ Fq (tail41.run ⟨tm, lo, h0⟩ (fK d41)) (PQ d41.rs [.vs 3 (rws (flR r (stR r t))), .st (bdR r t)]) := by
  rw [upds3 hk, hlo, ← e1, ← e2]
  exact rreply_tail r t st bd h hs tm
end Go.Proofs.YtnnhhfjkkmakaaaGreatDoor.rep
namespace Go.Proofs.YtnnhhfjkkmakaaaGreatDoor.rep
open Go hiding Fn
open Ev tab
attribute [local irreducible] EvP EvD EvL EvC evGds evLs C.run sK bK gK pK fK lpB stepD hp6 itoaL valF tail41
set_option maxHeartbeats 64000000 in
theorem rreply_ok (r : Rl) (t : Tk) (hR : ROK r) (hf : t.fs.length ≤ 10000000) : EvP Fq 41 c41 [.ag (rowRl r), .ag (rowTk t)] [.vs 3 (rws (flR r (stR r t))), .st (bdR r t)] := by
  have v1 := rval_ok t sInm hf
  have v2 := rval_ok t sMet hf
  have hs := hR.s
  have cl := rowTk_clo t
  refine EvP.ofQ d41 rfl rfl rfl ?_
  rw [head41_eq]
  unfold head41
  repeat' (first | refine EvQ.run ?_ | refine EvQ.lift (fun _ zn => X.pcall (v1) X.cq rfl X.al rfl zn) ?_ | refine EvQ.lift (fun _ zn => X.pcallG (v1) rfl X.cq rfl X.al rfl zn) ?_ | refine EvQ.lift (fun _ zn => X.pcallC (v1) rfl X.cq rfl X.al rfl zn) ?_ | refine EvQ.lift (fun _ zn => X.pcallT (v1) (by decide) X.cq rfl X.al rfl zn) ?_ | refine EvQ.lift (fun _ zn => X.call rfl X.al (v1) zn) ?_ | refine EvQ.lift (fun _ zn => X.pcall (v2) X.cq rfl X.al rfl zn) ?_ | refine EvQ.lift (fun _ zn => X.pcallG (v2) rfl X.cq rfl X.al rfl zn) ?_ | refine EvQ.lift (fun _ zn => X.pcallC (v2) rfl X.cq rfl X.al rfl zn) ?_ | refine EvQ.lift (fun _ zn => X.pcallT (v2) (by decide) X.cq rfl X.al rfl zn) ?_ | refine EvQ.lift (fun _ zn => X.call rfl X.al (v2) zn) ?_ | (refine EvQ.pickB rfl rfl rfl ?_) | (refine EvQ.cond rfl (fun h => ?_) (fun h => ?_) <;> ((first | replace h := X.nm h | skip); try have hne := ne_len h)) | (refine EvQ.g1 rfl (fun h => ?_) (fun h => ?_) <;> ((first | replace h := X.nm h | skip); try have hne := ne_len h)) | (refine EvQ.pick rfl (fun _ => rfl) (fun _ => rfl) (fun h => ?_) (fun h => ?_) <;> ((first | replace h := X.nm h | skip); try have hne := ne_len h)) | refine EvQ.fin X.rs ?_ | refine EvQ.fin1 (fun _ => rfl) rfl ?_)
  all_goals
    clear v1 v2
    refine tail_at2 hR _ _ ?_ rfl X.kv ?_ ?_
  all_goals
    first
      | exact hs
      | exact (by decide : (304 : Int) < 9223372036854775808)
      | exact (fin1 ⟨by assumption, by assumption⟩).1
      | exact (fin1 ⟨by assumption, by assumption⟩).2
      | exact fin2 (no_tag (by assumption))
      | exact fin4 (no_tag (by assumption)) (by assumption)
      | exact fin5 (no_tag (by assumption)) (by assumption) (by assumption)
      | exact fin2 (no_ne (by assumption))
      | exact fin4 (no_ne (by assumption)) (by assumption)
      | exact fin5 (no_ne (by assumption)) (by assumption) (by assumption)
      | exact fin3 (by assumption)
end Go.Proofs.YtnnhhfjkkmakaaaGreatDoor.rep
