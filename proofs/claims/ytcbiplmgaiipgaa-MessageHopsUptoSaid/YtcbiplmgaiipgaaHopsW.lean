import Derived.Test.YtcbiplmgaiipgaaEvE
import Derived.Test.YtcbiplmgaiipgaaEvE
import Derived.Test.YtcbiplmgaiipgaaHopsM
import Derived.Test.YtcbiplmgaiipgaaVaryL
import Derived.Test.YtcbiplmgaiipgaaHelp
import Derived.Test.YtcbiplmgaiipgaaRdr
import Derived.Test.YtcbiplmgaiipgaaEnt
set_option linter.unusedVariables false
set_option linter.unusedSimpArgs false
-- MessageHops: the walk
namespace Go.Proofs.Ytcbiplmgaiipgaa
open Go hiding Fn
open Ev tab
attribute [local irreducible] EvD EvL EvC evGds evLs C.run sK bK gK pK fK lpB stepD lightB hopL
set_option maxHeartbeats 16000000 in
theorem hopw_named (l : List Fld) (ps : List (List Nat)) (id : Nat) (hp0 : Hp) (hlim : hp0.lim ≤ hp0.next) (hO0 : Ow hp0 (.hs id 0 6) 1 (txs sixL)) (hps : ps.length ≤ 100000000) (hpx : ∀ i, Txt (ps.getD i []) ∧ (ps.getD i []).length ≤ 100000000) (lo : Lo)
    (tm : Tm) (hk : [0, 3, 6, 8].map (fun x => (x, tm x)) = [(0, .vs 2 (fds l)), (3, .hs id 0 6), (6, .vs 1 (txs ps)), (8, .it .i64 (Int.ofNat 0))]) :
    ∃ r, EvL F [0, 3, 6, 8] [] (lpB (d19.body.lps.getD 0 .skip)) ⟨tm, lo, hp0⟩ r ∧ ∃ v, XtQ 0 [(0, .vs 2 (fds l)), (3, v)] (fun lo hp => Ow hp v 1 (txs (sixL ++ ps.map lowL)) ∧ hp.lim ≤ hp.next) r := by
  refine EvL.invQ (S := Nat × V) (fun x => [(0, .vs 2 (fds l)), (3, x.2), (6, .vs 1 (txs ps)), (8, .it .i64 (Int.ofNat x.1))])
    (fun x lo hp => x.1 ≤ ps.length ∧ Ow hp x.2 1 (txs (sixL ++ (ps.take x.1).map lowL)) ∧ hp.lim ≤ hp.next) (fun x => ps.length - x.1) _ ?_ (0, .hs id 0 6) tm lo hp0 ⟨Nat.zero_le _, by simpa using hO0, hlim⟩ hk
  intro ⟨i, v⟩ lo hp ⟨e2, hO, hlm⟩
  simp only at e2 hO
  have hel := hO.lp
  have hw := rlower_ok _ (hpx i).1 (hpx i).2
  have hn : ((ps.take i).map lowL).length ≤ 100000000 := by rw [List.length_map, List.length_take]; omega
  have h6 : sixL.length = 6 := rfl
  have htk := fun h : i < ps.length => take_getD h ([] : List Nat)
  clear hO0
  repeat' (first | refine EvQ.run ?_ | refine EvQ.lift (fun _ zn => X.pcall (hw) X.cq rfl X.al rfl zn) ?_ | refine EvQ.lift (fun _ zn => X.pcallG (hw) rfl X.cq rfl X.al rfl zn) ?_ | refine EvQ.lift (fun _ zn => X.pcallC (hw) rfl X.cq rfl X.al rfl zn) ?_ | refine EvQ.lift (fun _ zn => X.pcallT (hw) (by decide) X.cq rfl X.al rfl zn) ?_ | refine EvQ.lift (fun _ zn => X.call rfl X.al (hw) zn) ?_ | (refine EvQ.pickB rfl rfl rfl ?_) | (refine EvQ.cond rfl (fun h => ?_) (fun h => ?_) <;> ((first | replace h := X.nm h | skip); try have hne := ne_len h)) | (refine EvQ.g1 rfl (fun h => ?_) (fun h => ?_) <;> ((first | replace h := X.nm h | skip); try have hne := ne_len h)) | (refine EvQ.pick rfl (fun _ => rfl) (fun _ => rfl) (fun h => ?_) (fun h => ?_) <;> ((first | replace h := X.nm h | skip); try have hne := ne_len h)) | refine EvQ.fin X.rs ?_ | refine EvQ.fin1 (fun _ => rfl) rfl ?_)
  · refine EvQ.go (i + 1, _) X.kv ⟨by show i + 1 ≤ _; omega, ?_, by rw [oah_lim, oah_next]; omega⟩ (by show ps.length - (i + 1) < ps.length - i; omega)
    show Ow _ _ 1 (txs (sixL ++ (ps.take (i + 1)).map lowL))
    rw [htk (by assumption), List.map_append, ← List.append_assoc]
    show Ow _ _ 1 (txs ((sixL ++ (ps.take i).map lowL) ++ [lowL (ps.getD i [])]))
    rw [← txs_append (sixL ++ _) [_]]
    exact hO.put hlm
  · refine EvQ.xt ⟨v, XtQ.mk' X.kv ⟨?_, hlm⟩⟩
    rw [List.take_of_length_le (by omega)] at hO
    exact hO
set_option maxHeartbeats 16000000 in
theorem hopw_want (l : List Fld) (N : List (List Nat)) (vn : V) (hp0 : Hp) (hlim : hp0.lim ≤ hp0.next) (hO0 : Ow hp0 vn 1 (txs N)) (hN : N.length ≤ 200000000) (hl : l.length ≤ 1000000) (lo : Lo)
    (tm : Tm) (hk : [0, 3, 9, 10].map (fun x => (x, tm x)) = [(0, .vs 2 (fds l)), (3, vn), (9, .ns), (10, .it .i64 (Int.ofNat 0))]) :
    ∃ r, EvL F [0, 3, 9, 10] [] (lpB (d19.body.lps.getD 1 .skip)) ⟨tm, lo, hp0⟩ r ∧ ∃ v, XtQ 2 [(0, .vs 2 (fds l)), (9, v)] (fun lo hp => Nw hp0 hp v (fds (l.filter (nmP N)))) r := by
  refine EvL.invQ (S := Nat × V) (fun x => [(0, .vs 2 (fds l)), (3, vn), (9, x.2), (10, .it .i64 (Int.ofNat x.1))])
    (fun x lo hp => x.1 ≤ l.length ∧ Nw hp0 hp x.2 (fds ((l.take x.1).filter (nmP N)))) (fun x => l.length - x.1) _ ?_ (0, .ns) tm lo hp0 ⟨Nat.zero_le _, .ns⟩ hk
  intro ⟨i, v⟩ lo hp ⟨e2, hW⟩
  simp only at e2 hW
  have hO := hW.o
  have hel := hO.lp
  have hOn := hO0.up hW.u hO0.lt
  have hSn := hOn.sl
  have hvn := hOn.lp
  have hvl := lenO hOn.len (txs_length _)
  have hlm : hp.lim ≤ hp.next := by rw [hW.u.lim]; have := hW.u.next; omega
  have hfd := fun h : i < l.length => filter_getD (p := nmP N) h
  have hn : ((l.take i).filter (nmP N)).length ≤ 1000000 := by
    have := List.length_filter_le (nmP N) (l.take i)
    rw [List.length_take] at this; omega
  by_cases hi : i < l.length
  · clear hO0 hOn
    refine EvQ.run ?_
    refine EvQ.loop (QL := XtQ 4 [(0, .vs 2 (fds l)), (3, vn), (9, v), (10, .it .i64 (Int.ofNat i)), (11, .bo (N.any fun n => decide (n = (l.getD i f0).1)))] (fun _ h' => h' = hp)) ?_ ?_
    · refine EvL.invQ (S := Nat × Bool) (fun x => [(0, .vs 2 (fds l)), (3, vn), (9, v), (10, .it .i64 (Int.ofNat i)), (11, .bo x.2), (12, .it .i64 (Int.ofNat x.1))]) (fun x _ h' => h' = hp ∧ x.1 ≤ N.length ∧ x.2 = (N.take x.1).any fun n => decide (n = (l.getD i f0).1)) (fun x => N.length - x.1) _ ?_ (0, false) _ _ _ ⟨rfl, Nat.zero_le _, rfl⟩ X.kv
      intro ⟨k, b⟩ lo h' ⟨e3, e4, e5⟩
      simp only at e4 e5
      subst e3
      have ha : k < N.length → ((N.take (k + 1)).any fun n => decide (n = (l.getD i f0).1)) = (b || decide (N.getD k [] = (l.getD i f0).1)) := fun h => by
        rw [take_getD h [], List.any_append, ← e5]; simp
      clear hO hW hfd
      cases b
      · repeat' (first | refine EvQ.run ?_ | (refine EvQ.pickB rfl rfl rfl ?_) | (refine EvQ.cond rfl (fun h => ?_) (fun h => ?_) <;> ((first | replace h := X.nm h | skip); try have hne := ne_len h)) | (refine EvQ.g1 rfl (fun h => ?_) (fun h => ?_) <;> ((first | replace h := X.nm h | skip); try have hne := ne_len h)) | (refine EvQ.pick rfl (fun _ => rfl) (fun _ => rfl) (fun h => ?_) (fun h => ?_) <;> ((first | replace h := X.nm h | skip); try have hne := ne_len h)) | refine EvQ.fin X.rs ?_ | refine EvQ.fin1 (fun _ => rfl) rfl ?_)
        · refine EvQ.go (k + 1, _) X.kv ⟨rfl, by show k + 1 ≤ _; omega, ?_⟩ (by show N.length - (k + 1) < N.length - k; omega)
          show beqL _ _ = _
          rw [ha (by assumption), beqLD]; rfl
        · have hk : k = N.length := by omega
          subst hk
          rw [List.take_length] at e5
          exact EvQ.xt (XtQ.mk' (kvc rfl (kvc rfl (kvc rfl (kvc rfl (kvc (congrArg V.bo e5) rfl))))) rfl)
      · repeat' (first | refine EvQ.run ?_ | (refine EvQ.pickB rfl rfl rfl ?_) | (refine EvQ.cond rfl (fun h => ?_) (fun h => ?_) <;> ((first | replace h := X.nm h | skip); try have hne := ne_len h)) | (refine EvQ.g1 rfl (fun h => ?_) (fun h => ?_) <;> ((first | replace h := X.nm h | skip); try have hne := ne_len h)) | (refine EvQ.pick rfl (fun _ => rfl) (fun _ => rfl) (fun h => ?_) (fun h => ?_) <;> ((first | replace h := X.nm h | skip); try have hne := ne_len h)) | refine EvQ.fin X.rs ?_ | refine EvQ.fin1 (fun _ => rfl) rfl ?_)
        · refine EvQ.go (k + 1, _) X.kv ⟨rfl, by show k + 1 ≤ _; omega, ?_⟩ (by show N.length - (k + 1) < N.length - k; omega)
          show true = _
          rw [ha (by assumption)]; rfl
        · have hk : k = N.length := by omega
          subst hk
          rw [List.take_length] at e5
          exact EvQ.xt (XtQ.mk' (kvc rfl (kvc rfl (kvc rfl (kvc rfl (kvc (congrArg V.bo e5) rfl))))) rfl)
    · rintro _ ⟨tm, lo, h', rfl, rfl⟩
      repeat' (first | refine EvQ.run ?_ | (refine EvQ.pickB rfl rfl rfl ?_) | (refine EvQ.cond rfl (fun h => ?_) (fun h => ?_) <;> ((first | replace h := X.nm h | skip); try have hne := ne_len h)) | (refine EvQ.g1 rfl (fun h => ?_) (fun h => ?_) <;> ((first | replace h := X.nm h | skip); try have hne := ne_len h)) | (refine EvQ.pick rfl (fun _ => rfl) (fun _ => rfl) (fun h => ?_) (fun h => ?_) <;> ((first | replace h := X.nm h | skip); try have hne := ne_len h)) | refine EvQ.fin X.rs ?_ | refine EvQ.fin1 (fun _ => rfl) rfl ?_)
      · refine EvQ.go (i + 1, _) X.kv ⟨by show i + 1 ≤ _; omega, ?_⟩ (by show l.length - (i + 1) < l.length - i; omega)
        show Nw _ _ _ (fds ((l.take (i + 1)).filter (nmP N)))
        rw [hfd hi, if_pos (by unfold nmP; rw [h]; rfl), ← fds_append]
        exact hW.put hlim
      · refine EvQ.go (i + 1, v) X.kv ⟨by show i + 1 ≤ _; omega, ?_⟩ (by show l.length - (i + 1) < l.length - i; omega)
        show Nw _ _ _ (fds ((l.take (i + 1)).filter (nmP N)))
        rw [hfd hi, if_neg (by unfold nmP; rw [h]; simp)]
        exact hW
  · repeat' (first | refine EvQ.run ?_ | (refine EvQ.pickB rfl rfl rfl ?_) | (refine EvQ.cond rfl (fun h => ?_) (fun h => ?_) <;> ((first | replace h := X.nm h | skip); try have hne := ne_len h)) | (refine EvQ.g1 rfl (fun h => ?_) (fun h => ?_) <;> ((first | replace h := X.nm h | skip); try have hne := ne_len h)) | (refine EvQ.pick rfl (fun _ => rfl) (fun _ => rfl) (fun h => ?_) (fun h => ?_) <;> ((first | replace h := X.nm h | skip); try have hne := ne_len h)) | refine EvQ.fin X.rs ?_ | refine EvQ.fin1 (fun _ => rfl) rfl ?_)
    refine EvQ.xt ⟨v, XtQ.mk' X.kv ?_⟩
    rw [List.take_of_length_le (by omega)] at hW
    exact hW
set_option maxHeartbeats 16000000 in
theorem hops_run (l : List Fld) (hl : FB l 1100000) : ∃ h, EvD F (stepD d19 [.vs 2 (fds l)] h0) (Rt (.bo true) h) := by
  have lg := mlight_ok l (by have := hl.n; omega) (fun f hf => by have := hl.s f hf; omega)
  refine EvQ.law ?_
  cases hb : lightB l with
  | false =>
    rw [hb] at lg
    repeat' (first | refine EvQ.run ?_ | refine EvQ.lift (fun _ zn => X.pcall (lg) X.cq rfl X.al rfl zn) ?_ | refine EvQ.lift (fun _ zn => X.pcallG (lg) rfl X.cq rfl X.al rfl zn) ?_ | refine EvQ.lift (fun _ zn => X.pcallC (lg) rfl X.cq rfl X.al rfl zn) ?_ | refine EvQ.lift (fun _ zn => X.pcallT (lg) (by decide) X.cq rfl X.al rfl zn) ?_ | refine EvQ.lift (fun _ zn => X.call rfl X.al (lg) zn) ?_ | refine EvQ.lift (fun _ zn => X.pcall (mruns_ok) X.cq rfl X.al rfl zn) ?_ | refine EvQ.lift (fun _ zn => X.pcallG (mruns_ok) rfl X.cq rfl X.al rfl zn) ?_ | refine EvQ.lift (fun _ zn => X.pcallC (mruns_ok) rfl X.cq rfl X.al rfl zn) ?_ | refine EvQ.lift (fun _ zn => X.pcallT (mruns_ok) (by decide) X.cq rfl X.al rfl zn) ?_ | refine EvQ.lift (fun _ zn => X.call rfl X.al (mruns_ok) zn) ?_ | (refine EvQ.pickB rfl rfl rfl ?_) | (refine EvQ.cond rfl (fun h => ?_) (fun h => ?_) <;> ((first | replace h := X.nm h | skip); try have hne := ne_len h)) | (refine EvQ.g1 rfl (fun h => ?_) (fun h => ?_) <;> ((first | replace h := X.nm h | skip); try have hne := ne_len h)) | (refine EvQ.pick rfl (fun _ => rfl) (fun _ => rfl) (fun h => ?_) (fun h => ?_) <;> ((first | replace h := X.nm h | skip); try have hne := ne_len h)) | refine EvQ.fin X.rs ?_ | refine EvQ.fin1 (fun _ => rfl) rfl ?_)
    exact ⟨_, rfl⟩
  | true =>
    rw [hb] at lg
    obtain ⟨_, n1, n2⟩ := light_fok hl.t hb
    have hj : JOK l := ⟨by omega, fun f hf => by have := n2 f hf; omega⟩
    have ra := rall_ok l sConn hj
    have hlen := allF_len hj sConn
    have rs := rsplit_ok (allF l sConn) (by omega)
    have hle := splS_le (allF l sConn)
    have hll := splS_len (allF l sConn)
    have htx := splS_txt (allF_txt hl.t sConn)
    have hq := hops_law l
    unfold partsL at hq
    have k1 := hop62_ok l hj hl.t
    have k2 := hop62_ok (hopL l) (hopL_jok hj) (hopL_tok hl.t)
    rw [hop_twice] at k2
    have hjl := (hopL_jok hj).1
    generalize hopL l = m at *
    generalize splS (allF l sConn) = sp at *
    generalize sp.getD [] = ps at *
    have hpx : ∀ i, Txt (ps.getD i []) ∧ (ps.getD i []).length ≤ 100000000 := fun i => by
      by_cases hi : i < ps.length
      · rw [List.getD, List.getElem?_eq_getElem hi]
        have := hle _ (List.getElem_mem hi)
        exact ⟨htx _ (List.getElem_mem hi), by show ps[i].length ≤ _; omega⟩
      · rw [List.getD, List.getElem?_eq_none (by omega)]; exact ⟨fun n hn => absurd hn List.not_mem_nil, Nat.zero_le _⟩
    refine EvQ.run ?_
    first | refine EvQ.lift (fun _ zn => X.pcall (lg) X.cq rfl X.al rfl zn) ?_ | refine EvQ.lift (fun _ zn => X.pcallG (lg) rfl X.cq rfl X.al rfl zn) ?_ | refine EvQ.lift (fun _ zn => X.pcallC (lg) rfl X.cq rfl X.al rfl zn) ?_ | refine EvQ.lift (fun _ zn => X.pcallT (lg) (by decide) X.cq rfl X.al rfl zn) ?_ | refine EvQ.lift (fun _ zn => X.call rfl X.al (lg) zn) ?_
    try refine EvQ.run ?_
    first | refine EvQ.lift (fun _ zn => X.pcall (ra) X.cq rfl X.al rfl zn) ?_ | refine EvQ.lift (fun _ zn => X.pcallG (ra) rfl X.cq rfl X.al rfl zn) ?_ | refine EvQ.lift (fun _ zn => X.pcallC (ra) rfl X.cq rfl X.al rfl zn) ?_ | refine EvQ.lift (fun _ zn => X.pcallT (ra) (by decide) X.cq rfl X.al rfl zn) ?_ | refine EvQ.lift (fun _ zn => X.call rfl X.al (ra) zn) ?_
    try refine EvQ.run ?_
    first | refine EvQ.lift (fun _ zn => X.pcall (rs) X.cq rfl X.al rfl zn) ?_ | refine EvQ.lift (fun _ zn => X.pcallG (rs) rfl X.cq rfl X.al rfl zn) ?_ | refine EvQ.lift (fun _ zn => X.pcallC (rs) rfl X.cq rfl X.al rfl zn) ?_ | refine EvQ.lift (fun _ zn => X.pcallT (rs) (by decide) X.cq rfl X.al rfl zn) ?_ | refine EvQ.lift (fun _ zn => X.call rfl X.al (rs) zn) ?_
    try refine EvQ.run ?_
    refine EvQ.loop (hopw_named l ps 0 _ (Nat.zero_le _) ?_ (by omega) hpx _ _ X.kv) ?_
    · exact Ow.mk0 (rows := txs sixL) (Nat.le_refl _)
    rintro _ ⟨vn, tm, lo, hp1, rfl, hOn, hlm1⟩
    have hen := hOn.lp
    refine EvQ.run ?_
    refine EvQ.loop (hopw_want l _ vn hp1 hlm1 hOn (by rw [List.length_append, List.length_map]; show 6 + _ ≤ _; omega) (by omega) _ _ X.kv) ?_
    rintro _ ⟨vw, tm, lo, hp2, rfl, hW⟩
    rw [hq] at hW
    have sa := sameR_ok (own := false) hp2 (.vs 2 (fds m)) vw m m .vs hW.o.sl.rd (by omega) (by omega)
    have sb := sameR_ok (own := false) hp2 (.vs 2 (fds m)) (.vs 2 (fds m)) m m .vs .vs (by omega) (by omega)
    rw [decide_eq_true rfl] at sa sb
    have hew := hW.o.lp
    clear hOn hW hen
    refine EvQ.run ?_
    first | refine EvQ.lift (fun _ zn => X.pcall (k1) X.cq rfl X.al rfl zn) ?_ | refine EvQ.lift (fun _ zn => X.pcallG (k1) rfl X.cq rfl X.al rfl zn) ?_ | refine EvQ.lift (fun _ zn => X.pcallC (k1) rfl X.cq rfl X.al rfl zn) ?_ | refine EvQ.lift (fun _ zn => X.pcallT (k1) (by decide) X.cq rfl X.al rfl zn) ?_ | refine EvQ.lift (fun _ zn => X.call rfl X.al (k1) zn) ?_
    try refine EvQ.run ?_
    first | refine EvQ.lift (fun _ zn => X.pcall (sa) X.cq rfl X.al rfl zn) ?_ | refine EvQ.lift (fun _ zn => X.pcallG (sa) rfl X.cq rfl X.al rfl zn) ?_ | refine EvQ.lift (fun _ zn => X.pcallC (sa) rfl X.cq rfl X.al rfl zn) ?_ | refine EvQ.lift (fun _ zn => X.pcallT (sa) (by decide) X.cq rfl X.al rfl zn) ?_ | refine EvQ.lift (fun _ zn => X.call rfl X.al (sa) zn) ?_
    try refine EvQ.run ?_
    first | refine EvQ.lift (fun _ zn => X.pcall (k2) X.cq rfl X.al rfl zn) ?_ | refine EvQ.lift (fun _ zn => X.pcallG (k2) rfl X.cq rfl X.al rfl zn) ?_ | refine EvQ.lift (fun _ zn => X.pcallC (k2) rfl X.cq rfl X.al rfl zn) ?_ | refine EvQ.lift (fun _ zn => X.pcallT (k2) (by decide) X.cq rfl X.al rfl zn) ?_ | refine EvQ.lift (fun _ zn => X.call rfl X.al (k2) zn) ?_
    try refine EvQ.run ?_
    first | refine EvQ.lift (fun _ zn => X.pcall (sb) X.cq rfl X.al rfl zn) ?_ | refine EvQ.lift (fun _ zn => X.pcallG (sb) rfl X.cq rfl X.al rfl zn) ?_ | refine EvQ.lift (fun _ zn => X.pcallC (sb) rfl X.cq rfl X.al rfl zn) ?_ | refine EvQ.lift (fun _ zn => X.pcallT (sb) (by decide) X.cq rfl X.al rfl zn) ?_ | refine EvQ.lift (fun _ zn => X.call rfl X.al (sb) zn) ?_
    try refine EvQ.run ?_
    first | refine EvQ.lift (fun _ zn => X.pcall (mruns_ok) X.cq rfl X.al rfl zn) ?_ | refine EvQ.lift (fun _ zn => X.pcallG (mruns_ok) rfl X.cq rfl X.al rfl zn) ?_ | refine EvQ.lift (fun _ zn => X.pcallC (mruns_ok) rfl X.cq rfl X.al rfl zn) ?_ | refine EvQ.lift (fun _ zn => X.pcallT (mruns_ok) (by decide) X.cq rfl X.al rfl zn) ?_ | refine EvQ.lift (fun _ zn => X.call rfl X.al (mruns_ok) zn) ?_
    try refine EvQ.run ?_
    refine EvQ.fin X.rs ?_
    exact ⟨_, rfl⟩
theorem hops_law19 (xs : List V) (h : ShP [(false, [.sl [.st, .st]])] xs) (hb : sizP xs ≤ 1048576) : ∃ L k hp', runF (callF F L k) L c19 xs h0 = .ret (.bo true) hp' := by
  obtain ⟨v, r, rfl, h1, h, e1⟩ := h.one'
  cases h.nil'
  obtain ⟨l, rfl, hl⟩ := fb_of h1
  exact law_of d19 rfl (hops_run l ⟨hl.t, by have := hl.n; omega, fun f hf => by have := hl.s f hf; omega⟩)
end Go.Proofs.Ytcbiplmgaiipgaa
