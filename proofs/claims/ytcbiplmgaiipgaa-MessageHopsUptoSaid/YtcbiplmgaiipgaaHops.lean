import Derived.Test.YtcbiplmgaiipgaaEvE
import Derived.Test.YtcbiplmgaiipgaaEvE
import Derived.Test.YtcbiplmgaiipgaaLow
import Derived.Test.YtcbiplmgaiipgaaMsg
import Derived.Test.YtcbiplmgaiipgaaRen
set_option linter.unusedVariables false
set_option linter.unusedSimpArgs false
-- fields without those of a connection alone
namespace Go.Proofs.Ytcbiplmgaiipgaa
open Go hiding Fn
open Ev tab
attribute [local irreducible] EvD EvL EvC evGds evLs C.run sK bK gK pK fK lpB stepD
def idxGo (x : List Nat) : List (List Nat) → Nat → Int
  | [], _ => -1
  | y :: r, k => if x = y then Int.ofNat k else idxGo x r (k + 1)
theorem idxGo_mem (x : List Nat) : ∀ (l : List (List Nat)) (k : Nat), decide (0 ≤ idxGo x l k) = decide (x ∈ l)
  | [], _ => rfl
  | y :: r, k => by
    unfold idxGo
    by_cases h : x = y
    · rw [if_pos h, decide_eq_true (show x ∈ y :: r by rw [h]; simp)]; exact decide_eq_true (Int.natCast_nonneg k)
    · rw [if_neg h, idxGo_mem x r (k + 1)]; simp [h]
set_option maxHeartbeats 8000000 in
theorem idx_ok {own : Bool} (hp : Hp) (v : V) (L : List (List Nat)) (x : List Nat) (hR : Rd hp v 1 (txs L)) (hl : L.length ≤ 100000000) : EvC F own 104 [v, .st x] hp (.ret (.it .i64 (idxGo x L 0)) hp) := by
  refine EvC.ofRoQ d104 rfl rfl rfl ?_ rfl
  have hR := hR.ro
  generalize (⟨hp.next, hp.next, hp.tr⟩ : Hp) = hq at *
  have hvl := hR.lp
  have hv2 := lenO hR.len (txs_length _)
  generalize ht : idxGo x L 0 = t
  repeat' (first | refine EvQ.run ?_ | (refine EvQ.pickB rfl rfl rfl ?_) | (refine EvQ.cond rfl (fun h => ?_) (fun h => ?_) <;> ((first | replace h := X.nm h | skip); try have hne := ne_len h)) | (refine EvQ.g1 rfl (fun h => ?_) (fun h => ?_) <;> ((first | replace h := X.nm h | skip); try have hne := ne_len h)) | (refine EvQ.pick rfl (fun _ => rfl) (fun _ => rfl) (fun h => ?_) (fun h => ?_) <;> ((first | replace h := X.nm h | skip); try have hne := ne_len h)) | refine EvQ.fin X.rs ?_ | refine EvQ.fin1 (fun _ => rfl) rfl ?_)
  refine EvQ.loop (QL := fun r => (t = -1 ∧ XtQ 0 [] (fun _ _ => True) r) ∨ RtQ [(4, .it .i64 t)] (fun _ _ => True) r) ?_ ?_
  · refine EvL.invQ (S := Nat) (fun i => [(0, v), (1, .st x), (7, .it .i64 (Int.ofNat L.length)), (8, .it .i64 (Int.ofNat i))]) (fun i _ h' => h' = hq ∧ i ≤ L.length ∧ idxGo x (L.drop i) i = t) (fun i => L.length - i) _ ?_ 0 _ _ _ ⟨rfl, Nat.zero_le _, ht⟩ X.kv
    intro i lo h' ⟨e0, e1, e2⟩
    subst e0
    have hd : i < L.length → (if x = L.getD i [] then Int.ofNat i else idxGo x (L.drop (i + 1)) (i + 1)) = t := fun h => by
      rw [drop_getD h []] at e2; exact e2
    repeat' (first | refine EvQ.run ?_ | (refine EvQ.pickB rfl rfl rfl ?_) | (refine EvQ.cond rfl (fun h => ?_) (fun h => ?_) <;> ((first | replace h := X.nm h | skip); try have hne := ne_len h)) | (refine EvQ.g1 rfl (fun h => ?_) (fun h => ?_) <;> ((first | replace h := X.nm h | skip); try have hne := ne_len h)) | (refine EvQ.pick rfl (fun _ => rfl) (fun _ => rfl) (fun h => ?_) (fun h => ?_) <;> ((first | replace h := X.nm h | skip); try have hne := ne_len h)) | refine EvQ.fin X.rs ?_ | refine EvQ.fin1 (fun _ => rfl) rfl ?_)
    · have := hd (by assumption)
      rw [if_pos (by assumption)] at this
      subst this
      exact EvQ.rt (.inr (RtQ.mk' X.kv trivial))
    · have := hd (by assumption)
      rw [if_neg (by assumption)] at this
      exact EvQ.go (i + 1) X.kv ⟨rfl, by omega, this⟩ (by omega)
    · rw [List.drop_of_length_le (by omega)] at e2
      exact EvQ.xt (.inl ⟨e2.symm, XtQ.mk' X.kv trivial⟩)
  · rintro _ (⟨rfl, tm, lo, h', rfl, -⟩ | ⟨tm, lo, h', rfl, -⟩)
    · repeat' (first | refine EvQ.run ?_ | (refine EvQ.pickB rfl rfl rfl ?_) | (refine EvQ.cond rfl (fun h => ?_) (fun h => ?_) <;> ((first | replace h := X.nm h | skip); try have hne := ne_len h)) | (refine EvQ.g1 rfl (fun h => ?_) (fun h => ?_) <;> ((first | replace h := X.nm h | skip); try have hne := ne_len h)) | (refine EvQ.pick rfl (fun _ => rfl) (fun _ => rfl) (fun h => ?_) (fun h => ?_) <;> ((first | replace h := X.nm h | skip); try have hne := ne_len h)) | refine EvQ.fin X.rs ?_ | refine EvQ.fin1 (fun _ => rfl) rfl ?_)
      exact ⟨_, rfl⟩
    · repeat' (first | refine EvQ.run ?_ | (refine EvQ.pickB rfl rfl rfl ?_) | (refine EvQ.cond rfl (fun h => ?_) (fun h => ?_) <;> ((first | replace h := X.nm h | skip); try have hne := ne_len h)) | (refine EvQ.g1 rfl (fun h => ?_) (fun h => ?_) <;> ((first | replace h := X.nm h | skip); try have hne := ne_len h)) | (refine EvQ.pick rfl (fun _ => rfl) (fun _ => rfl) (fun h => ?_) (fun h => ?_) <;> ((first | replace h := X.nm h | skip); try have hne := ne_len h)) | refine EvQ.fin X.rs ?_ | refine EvQ.fin1 (fun _ => rfl) rfl ?_)
      exact ⟨_, rfl⟩
theorem cont91_ok {own : Bool} (hp : Hp) (v : V) (L : List (List Nat)) (x : List Nat) (hR : Rd hp v 1 (txs L)) (hl : L.length ≤ 100000000) : EvC F own 91 [v, .st x] hp (.ret (.bo (decide (x ∈ L))) hp) := by
  refine EvC.ofRoQ d91 rfl rfl rfl ?_ rfl
  have hR := hR.ro
  generalize (⟨hp.next, hp.next, hp.tr⟩ : Hp) = hq at *
  have hvl := hR.lp
  have sp := idx_ok (own := false) hq v L x hR hl
  have hm := idxGo_mem x L 0
  generalize idxGo x L 0 = n at *
  repeat' (first | refine EvQ.run ?_ | refine EvQ.lift (fun _ zn => X.pcall (sp) X.cq rfl X.al rfl zn) ?_ | refine EvQ.lift (fun _ zn => X.pcallG (sp) rfl X.cq rfl X.al rfl zn) ?_ | refine EvQ.lift (fun _ zn => X.pcallC (sp) rfl X.cq rfl X.al rfl zn) ?_ | refine EvQ.lift (fun _ zn => X.pcallT (sp) (by decide) X.cq rfl X.al rfl zn) ?_ | refine EvQ.lift (fun _ zn => X.call rfl X.al (sp) zn) ?_ | (refine EvQ.pickB rfl rfl rfl ?_) | (refine EvQ.cond rfl (fun h => ?_) (fun h => ?_) <;> ((first | replace h := X.nm h | skip); try have hne := ne_len h)) | (refine EvQ.g1 rfl (fun h => ?_) (fun h => ?_) <;> ((first | replace h := X.nm h | skip); try have hne := ne_len h)) | (refine EvQ.pick rfl (fun _ => rfl) (fun _ => rfl) (fun h => ?_) (fun h => ?_) <;> ((first | replace h := X.nm h | skip); try have hne := ne_len h)) | refine EvQ.fin X.rs ?_ | refine EvQ.fin1 (fun _ => rfl) rfl ?_)
  refine ⟨_, congrArg (fun b => Rt (.bo b) _) ?_⟩
  rw [← hm, ilt_eq, Bool.eq_iff_iff]
  simp
def sConn : List Nat := [99, 111, 110, 110, 101, 99, 116, 105, 111, 110]
def partsL (l : List Fld) : List (List Nat) := ((splS (allF l sConn)).getD []).map lowL
def hopP (P : List (List Nat)) (f : Fld) : Bool := !hopB f.1 && (!decide (f.1 = sTe) && !decide (f.1 ∈ P))
def hopL (l : List Fld) : List Fld := l.filter (hopP (partsL l))
set_option maxHeartbeats 16000000 in
theorem hop_loop2 (hp0 : Hp) (l : List Fld) (P : List (List Nat)) (v0 : V) (hO0 : Ow hp0 v0 1 (txs P)) (hP : P.length ≤ 100000000) (hlim : hp0.lim ≤ hp0.next) (hl : l.length ≤ 1000000) (lo : Lo) (hlo : shed [10] lo = fun _ => none)
    (tm : Tm) (hk : [5, 8, 35, 36, 37].map (fun x => (x, tm x)) = [(5, v0), (8, .ns), (35, .vs 2 (fds l)), (36, .it .i64 (Int.ofNat l.length)), (37, .it .i64 (Int.ofNat 0))]) :
    ∃ r, EvL F [5, 8, 35, 36, 37] [10] (lpB (d62.body.lps.getD 1 .skip)) ⟨tm, lo, hp0⟩ r ∧ ∃ v, XtQ 2 [(8, v)] (fun lo hp => Nw hp0 hp v (fds (l.filter (hopP P)))) r := by
  refine EvL.invQ (S := Nat × V) (fun x => [(5, v0), (8, x.2), (35, .vs 2 (fds l)), (36, .it .i64 (Int.ofNat l.length)), (37, .it .i64 (Int.ofNat x.1))])
    (fun x lo hp => shed [10] lo = (fun _ => none) ∧ x.1 ≤ l.length ∧ Nw hp0 hp x.2 (fds ((l.take x.1).filter (hopP P)))) (fun x => l.length - x.1) _ ?_ (0, .ns) tm lo hp0 ⟨hlo, Nat.zero_le _, .ns⟩ hk
  intro ⟨i, v⟩ lo hp ⟨e1, e2, hN⟩
  simp only at e2 hN
  rw [e1]
  have hO := hN.o
  have hel := hO.lp
  have hS := (hO0.up hN.u hO0.lt).sl.rd
  have hv0 := hS.lp
  have hlm : hp.lim ≤ hp.next := by rw [hN.u.lim]; have := hN.u.next; omega
  have hc := hop_ok (l.getD i f0).1
  have ct := cont91_ok (own := false) hp v0 P (l.getD i f0).1 hS hP
  have hfd := fun h : i < l.length => filter_getD (p := hopP P) h
  have hn : ((l.take i).filter (hopP P)).length ≤ 1000000 := by
    have := List.length_filter_le (hopP P) (l.take i)
    rw [List.length_take] at this; omega
  clear hO0
  generalize hD : decide ((l.getD i f0).1 ∈ P) = D at *
  have hpf : hopP P (l.getD i f0) = (!hopB (l.getD i f0).1 && (!decide ((l.getD i f0).1 = [116, 101]) && !D)) := by unfold hopP; rw [hD]; rfl
  repeat' (first | refine EvQ.run ?_ | refine EvQ.lift (fun _ zn => X.pcall (hc) X.cq rfl X.al rfl zn) ?_ | refine EvQ.lift (fun _ zn => X.pcallG (hc) rfl X.cq rfl X.al rfl zn) ?_ | refine EvQ.lift (fun _ zn => X.pcallC (hc) rfl X.cq rfl X.al rfl zn) ?_ | refine EvQ.lift (fun _ zn => X.pcallT (hc) (by decide) X.cq rfl X.al rfl zn) ?_ | refine EvQ.lift (fun _ zn => X.call rfl X.al (hc) zn) ?_ | refine EvQ.lift (fun _ zn => X.pcall (ct) X.cq rfl X.al rfl zn) ?_ | refine EvQ.lift (fun _ zn => X.pcallG (ct) rfl X.cq rfl X.al rfl zn) ?_ | refine EvQ.lift (fun _ zn => X.pcallC (ct) rfl X.cq rfl X.al rfl zn) ?_ | refine EvQ.lift (fun _ zn => X.pcallT (ct) (by decide) X.cq rfl X.al rfl zn) ?_ | refine EvQ.lift (fun _ zn => X.call rfl X.al (ct) zn) ?_ | (refine EvQ.pickB rfl rfl rfl ?_) | (refine EvQ.cond rfl (fun h => ?_) (fun h => ?_) <;> ((first | replace h := X.nm h | skip); try have hne := ne_len h)) | (refine EvQ.g1 rfl (fun h => ?_) (fun h => ?_) <;> ((first | replace h := X.nm h | skip); try have hne := ne_len h)) | (refine EvQ.pick rfl (fun _ => rfl) (fun _ => rfl) (fun h => ?_) (fun h => ?_) <;> ((first | replace h := X.nm h | skip); try have hne := ne_len h)) | refine EvQ.fin X.rs ?_ | refine EvQ.fin1 (fun _ => rfl) rfl ?_)
  all_goals first
    | (refine EvQ.go (i + 1, _) X.kv ⟨X.lo, by show i + 1 ≤ _; omega, ?_⟩ (by show l.length - (i + 1) < l.length - i; omega)
       show Nw _ _ _ (fds ((l.take (i + 1)).filter (hopP P)))
       rw [hfd (by assumption), if_pos (by (rw [hpf]; clear hfd hD hpf hc ct; generalize l.getD i f0 = f at *; simp [*]; done)), ← fds_append]
       exact hN.put hlim)
    | (refine EvQ.go (i + 1, v) X.kv ⟨X.lo, by show i + 1 ≤ _; omega, ?_⟩ (by show l.length - (i + 1) < l.length - i; omega)
       show Nw _ _ _ (fds ((l.take (i + 1)).filter (hopP P)))
       rw [hfd (by assumption), if_neg (by (rw [hpf]; clear hfd hD hpf hc ct; generalize l.getD i f0 = f at *; simp [*]; done))]
       exact hN)
    | (refine EvQ.xt ⟨v, XtQ.mk' X.kv ?_⟩
       rw [List.take_of_length_le (by omega)] at hN
       exact hN)
    | trace_state
set_option maxHeartbeats 16000000 in
theorem hop62_ok (l : List Fld) (hl : JOK l) (ht : TOK l) : EvP F 62 c62 [.vs 2 (fds l)] [.vs 2 (fds (hopL l))] := by
  have ha := all_ok l sConn hl
  have hlen := allF_len hl sConn
  have hll0 := hl.1
  have hfl := List.length_filter_le (hopP (partsL l)) l
  refine EvP.ofQ d62 rfl rfl rfl ?_
  repeat' (first | refine EvQ.run ?_ | refine EvQ.lift (fun _ zn => X.pcall (ha) X.cq rfl X.al rfl zn) ?_ | refine EvQ.lift (fun _ zn => X.pcallG (ha) rfl X.cq rfl X.al rfl zn) ?_ | refine EvQ.lift (fun _ zn => X.pcallC (ha) rfl X.cq rfl X.al rfl zn) ?_ | refine EvQ.lift (fun _ zn => X.pcallT (ha) (by decide) X.cq rfl X.al rfl zn) ?_ | refine EvQ.lift (fun _ zn => X.call rfl X.al (ha) zn) ?_ | (refine EvQ.pickB rfl rfl rfl ?_) | (refine EvQ.cond rfl (fun h => ?_) (fun h => ?_) <;> ((first | replace h := X.nm h | skip); try have hne := ne_len h)) | (refine EvQ.g1 rfl (fun h => ?_) (fun h => ?_) <;> ((first | replace h := X.nm h | skip); try have hne := ne_len h)) | (refine EvQ.pick rfl (fun _ => rfl) (fun _ => rfl) (fun h => ?_) (fun h => ?_) <;> ((first | replace h := X.nm h | skip); try have hne := ne_len h)) | refine EvQ.fin X.rs ?_ | refine EvQ.fin1 (fun _ => rfl) rfl ?_)
  refine EvQ.call rfl X.al (split_ok _ (by omega) (Nat.le_refl _)) ?_
  intro w hp ⟨v, hw, hO, _, hu⟩
  subst hw
  have hlm : hp.lim ≤ hp.next := by rw [hu.lim]; exact Nat.zero_le _
  have hel := hO.lp
  have hvl := lenO hO.len (txs_length _)
  have hle := splS_le (allF l sConn)
  have hll := splS_len (allF l sConn)
  have htx := splS_txt (allF_txt ht sConn)
  unfold hopL partsL at *
  generalize splS (allF l sConn) = sp at *
  generalize sp.getD [] = ps at *
  have hpx : ∀ i, Txt (ps.getD i []) ∧ (ps.getD i []).length ≤ 100000000 := fun i => by
    by_cases hi : i < ps.length
    · rw [List.getD, List.getElem?_eq_getElem hi]
      have := hle _ (List.getElem_mem hi)
      exact ⟨htx _ (List.getElem_mem hi), by show ps[i].length ≤ _; omega⟩
    · rw [List.getD, List.getElem?_eq_none (by omega)]; exact ⟨fun n hn => absurd hn List.not_mem_nil, Nat.zero_le _⟩
  refine EvQ.run ?_
  refine EvQ.loop (QL := XtQ 0 [(0, .vs 2 (fds l)), (5, v)] (fun lo hp => Ow hp v 1 (txs (ps.map lowL)) ∧ hp.lim ≤ hp.next ∧ shed [10] lo = fun _ => none)) ?_ ?_
  · rcases hO with ⟨rfl, hr⟩ | ⟨id, rfl, q1, q2, q3⟩
    · have hps : ps = [] := by
        cases ps with
        | nil => rfl
        | cons a b => cases hr
      subst hps
      refine EvL.invQ (S := Unit) (fun _ => [(0, .vs 2 (fds l)), (5, .ns), (22, .it .i64 (Int.ofNat 0)), (23, .it .i64 (Int.ofNat 0))]) (fun _ lo hp => hp.lim ≤ hp.next ∧ shed [10] lo = fun _ => none) (fun _ => 0) _ ?_ () _ _ _ ⟨hlm, X.lo⟩ X.kv
      intro _ lo hp' ⟨e0, e1⟩
      rw [e1]
      repeat' (first | refine EvQ.run ?_ | (refine EvQ.pickB rfl rfl rfl ?_) | (refine EvQ.cond rfl (fun h => ?_) (fun h => ?_) <;> ((first | replace h := X.nm h | skip); try have hne := ne_len h)) | (refine EvQ.g1 rfl (fun h => ?_) (fun h => ?_) <;> ((first | replace h := X.nm h | skip); try have hne := ne_len h)) | (refine EvQ.pick rfl (fun _ => rfl) (fun _ => rfl) (fun h => ?_) (fun h => ?_) <;> ((first | replace h := X.nm h | skip); try have hne := ne_len h)) | refine EvQ.fin X.rs ?_ | refine EvQ.fin1 (fun _ => rfl) rfl ?_)
      exact EvQ.xt (.mk' X.kv ⟨.ns, e0, X.lo⟩)
    · rw [txs_length] at *
      refine EvL.invQ (S := Nat) (fun i => [(0, .vs 2 (fds l)), (5, .hs id 0 ps.length), (22, .it .i64 (Int.ofNat ps.length)), (23, .it .i64 (Int.ofNat i))]) (fun i lo hp => i ≤ ps.length ∧ id < hp.next ∧ hp.lim ≤ id ∧ hget hp id = some ⟨1, false, txs (lowP ps i)⟩ ∧ hp.lim ≤ hp.next ∧ shed [10] lo = fun _ => none) (fun i => ps.length - i) _ ?_ 0 _ _ _ ⟨Nat.zero_le _, q1, q2, by rw [q3]; simp [lowP], hlm, X.lo⟩ X.kv
      intro i lo hp' ⟨h1, h2, h3, h4, h5, h6⟩
      rw [h6]
      have hpl := lowP_length ps i
      have hg := fun h : i < ps.length => lowP_get h
      have hx := hpx i
      have w2 := fun h : i < ps.length => lower_ok _ ((hg h).symm ▸ hx.1) ((hg h).symm ▸ hx.2)
      repeat' (first | refine EvQ.run ?_ | refine EvQ.lift (fun _ zn => X.pcall (w2 (by omega)) X.cq rfl X.al rfl zn) ?_ | refine EvQ.lift (fun _ zn => X.pcallG (w2 (by omega)) rfl X.cq rfl X.al rfl zn) ?_ | refine EvQ.lift (fun _ zn => X.pcallC (w2 (by omega)) rfl X.cq rfl X.al rfl zn) ?_ | refine EvQ.lift (fun _ zn => X.pcallT (w2 (by omega)) (by decide) X.cq rfl X.al rfl zn) ?_ | refine EvQ.lift (fun _ zn => X.call rfl X.al (w2 (by omega)) zn) ?_ | (refine EvQ.pickB rfl rfl rfl ?_) | (refine EvQ.cond rfl (fun h => ?_) (fun h => ?_) <;> ((first | replace h := X.nm h | skip); try have hne := ne_len h)) | (refine EvQ.g1 rfl (fun h => ?_) (fun h => ?_) <;> ((first | replace h := X.nm h | skip); try have hne := ne_len h)) | (refine EvQ.pick rfl (fun _ => rfl) (fun _ => rfl) (fun h => ?_) (fun h => ?_) <;> ((first | replace h := X.nm h | skip); try have hne := ne_len h)) | refine EvQ.fin X.rs ?_ | refine EvQ.fin1 (fun _ => rfl) rfl ?_)
      · have hi : i < ps.length := by assumption
        refine EvQ.go (i + 1) X.kv ⟨by omega, h2, h3, ?_, h5, X.lo⟩ (by omega)
        refine (hget_set _ _ _).trans (congrArg (fun z => some (Bk.mk 1 false z)) ?_)
        show (txs (lowP ps i)).set (0 + i) [.st (lowL ((lowP ps i).getD (0 + i) []))] = txs (lowP ps (i + 1))
        rw [txs_set, hg hi, lowP_set hi]
      · have hi : i = ps.length := by omega
        subst hi
        refine EvQ.xt (.mk' X.kv ⟨.inr ⟨id, ?_, h2, h3, ?_⟩, h5, X.lo⟩)
        · rw [txs_length, List.length_map]
        · rw [h4]; unfold lowP; simp
  · rintro _ ⟨tm, lo, hp1, rfl, hO1, hlm1, hs1⟩
    have hP : (ps.map lowL).length ≤ 100000000 := by rw [List.length_map]; omega
    generalize ps.map lowL = P at *
    refine EvQ.run ?_
    refine EvQ.loop (hop_loop2 hp1 l P v hO1 hP hlm1 (by omega) lo hs1 _ X.kv) ?_
    rintro _ ⟨v2, tm, lo, hp2, rfl, hN⟩
    have hel2 := hN.o.lp
    obtain ⟨hp3, hcl, hcf⟩ := hN.o.sl.close (ts := [.one, .one]) (fds_clo _) (by rw [fds_length]; simp [depth]; omega)
    repeat' (first | refine EvQ.run ?_ | (refine EvQ.pickB rfl rfl rfl ?_) | (refine EvQ.cond rfl (fun h => ?_) (fun h => ?_) <;> ((first | replace h := X.nm h | skip); try have hne := ne_len h)) | (refine EvQ.g1 rfl (fun h => ?_) (fun h => ?_) <;> ((first | replace h := X.nm h | skip); try have hne := ne_len h)) | (refine EvQ.pick rfl (fun _ => rfl) (fun _ => rfl) (fun h => ?_) (fun h => ?_) <;> ((first | replace h := X.nm h | skip); try have hne := ne_len h)) | refine EvQ.fin X.rs ?_ | refine EvQ.fin1 (fun _ => rfl) rfl ?_)
    exact PQ.of (.c hcl (.nil _))
end Go.Proofs.Ytcbiplmgaiipgaa
