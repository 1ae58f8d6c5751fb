import Derived.Test.YtcbiplmgaiipgaaEvE
import Derived.Test.YtcbiplmgaiipgaaEvE
import Derived.Test.YtcbiplmgaiipgaaKeep1
set_option linter.unusedVariables false
set_option linter.unusedSimpArgs false
-- requests held against each other as Vary says
namespace Go.Proofs.Ytcbiplmgaiipgaa
open Go hiding Fn
open Ev tab
attribute [local irreducible] EvD EvL EvC evGds evLs C.run sK bK gK pK fK lpB stepD

/-- fields of bytes -/
def TOK (l : List Fld) : Prop := ∀ f, f ∈ l → Txt f.1 ∧ Txt f.2
theorem joinL_txt {ls : List (List Nat)} (h : ∀ s, s ∈ ls → Txt s) : Txt (joinL ls sSep) := by
  induction ls with
  | nil => intro n hn; exact absurd hn List.not_mem_nil
  | cons x r ih =>
    cases r with
    | nil => exact h x (by simp)
    | cons y r =>
      intro n hn
      simp only [joinL, List.mem_append] at hn
      rcases hn with hn | hn | hn
      · exact h x (by simp) n hn
      · revert n; decide
      · exact ih (fun s hs => h s (by simp [hs])) n hn
theorem allF_txt {l : List Fld} (h : TOK l) (n : List Nat) : Txt (allF l n) := by
  refine joinL_txt fun s hs => ?_
  simp only [valsF, List.mem_map, List.mem_filter] at hs
  obtain ⟨f, ⟨hf, _⟩, rfl⟩ := hs
  exact (h f hf).2
theorem trimS_mem {s : List Nat} {c : Nat} (h : c ∈ trimS s) : c ∈ s := by
  unfold trimS trimR at h
  rw [List.mem_reverse] at h
  have h := (List.dropWhile_sublist _).mem h
  rw [List.mem_reverse] at h
  exact (List.dropWhile_sublist _).mem h
theorem putS_txt {acc : List (List Nat)} {t : List Nat} (h : ∀ x, x ∈ acc → Txt x) (ht : Txt t) : ∀ x, x ∈ putS acc t → Txt x := by
  intro x hx
  unfold putS at hx
  split at hx
  · exact h x hx
  · rcases List.mem_append.1 hx with q | q
    · exact h x q
    · rw [List.mem_singleton] at q; subst q
      exact fun c hc => ht c (trimS_mem hc)
theorem splGo_txt {s : List Nat} (hs : Txt s) : ∀ (n i f : Nat) (acc r : List (List Nat)), (∀ x, x ∈ acc → Txt x) → splGo n s i f acc = some r → ∀ x, x ∈ r → Txt x
  | 0, _, _, _, _, _, h => by simp [splGo] at h
  | n + 1, i, f, acc, r, ha, h => by
    have ht : ∀ k, Txt ((s.drop f).take k) := fun k c hc => hs c (List.mem_of_mem_drop (List.mem_of_mem_take hc))
    unfold splGo at h
    split at h
    · split at h
      · exact splGo_txt hs n _ _ _ r (putS_txt ha (ht _)) h
      · split at h
        · split at h
          · cases h
          · exact splGo_txt hs n _ _ _ r ha h
        · exact splGo_txt hs n _ _ _ r ha h
    · cases h; exact putS_txt ha (ht _)
theorem splS_txt {s : List Nat} (hs : Txt s) : ∀ x, x ∈ (splS s).getD [] → Txt x := by
  cases h : splS s with
  | none => intro x hx; exact absurd hx List.not_mem_nil
  | some r => exact splGo_txt hs _ _ _ _ r (fun x hx => absurd hx List.not_mem_nil) h

def sVary : List Nat := [118, 97, 114, 121]
def badN (x : List Nat) : Bool := decide (x = [42]) || !tokenB x
/-- the names that Vary tells; none: they can't be told -/
def starsS (l : List Fld) : Option (List (List Nat)) := match splS (allF l sVary) with
  | none => none
  | some ps => if ps.any badN then none else some (ps.map lowL)
/-- the first ones made small -/
def lowP (ps : List (List Nat)) (i : Nat) : List (List Nat) := (ps.take i).map lowL ++ ps.drop i
theorem lowP_length (ps : List (List Nat)) (i : Nat) : (lowP ps i).length = ps.length := by simp [lowP]; omega
theorem lowP_get {ps : List (List Nat)} {i : Nat} (h : i < ps.length) : (lowP ps i).getD (0 + i) [] = ps.getD i [] := by
  have h1 : ((ps.take i).map lowL).length = i := by simp; omega
  unfold lowP
  rw [Nat.zero_add, List.getD, List.getElem?_append_right (by omega), h1, Nat.sub_self, List.drop_eq_getElem_cons h]
  simp [List.getD, h]
theorem lowP_set {ps : List (List Nat)} {i : Nat} (h : i < ps.length) : (lowP ps i).set (0 + i) (lowL (ps.getD i [])) = lowP ps (i + 1) := by
  have h1 : ((ps.take i).map lowL).length = i := by simp; omega
  unfold lowP
  rw [Nat.zero_add, List.set_append_right _ _ (by omega), h1, Nat.sub_self, drop_getD h [], List.set_cons_zero, take_getD h []]
  simp
theorem txs_set (l : List (List Nat)) (i : Nat) (s : List Nat) : (txs l).set i [.st s] = txs (l.set i s) := by simp [txs, List.map_set]
theorem any_take {α : Type} {p : α → Bool} {l : List α} {i : Nat} (d : α) (h : ∀ j, j < i → p (l.getD j d) = false) (hi : i = l.length) : l.any p = false := by
  rw [List.any_eq_false]
  intro x hx
  obtain ⟨j, hj, rfl⟩ := List.mem_iff_getElem.1 hx
  have := h j (by omega)
  rw [List.getD, List.getElem?_eq_getElem hj] at this
  simpa using this
theorem any_at {α : Type} {p : α → Bool} {l : List α} {i : Nat} (d : α) (h : i < l.length) (hp : p (l.getD i d) = true) : l.any p = true := by
  rw [List.any_eq_true]
  refine ⟨l[i], List.getElem_mem h, ?_⟩
  rw [List.getD, List.getElem?_eq_getElem h] at hp
  exact hp
set_option maxHeartbeats 16000000 in
theorem stars_ok (l : List Fld) (hl : JOK l) (ht : TOK l) : EvP F 75 c75 [.vs 2 (fds l)] [.vs 1 (txs ((starsS l).getD [])), .bo (starsS l).isNone] := by
  have ha := all_ok l sVary hl
  have hlen := allF_len hl sVary
  refine EvP.ofQ d75 rfl rfl rfl ?_
  repeat' (first | refine EvQ.run ?_ | refine EvQ.lift (fun _ zn => X.pcall (ha) X.cq rfl X.al rfl zn) ?_ | refine EvQ.lift (fun _ zn => X.pcallG (ha) rfl X.cq rfl X.al rfl zn) ?_ | refine EvQ.lift (fun _ zn => X.pcallC (ha) rfl X.cq rfl X.al rfl zn) ?_ | refine EvQ.lift (fun _ zn => X.pcallT (ha) (by decide) X.cq rfl X.al rfl zn) ?_ | (refine EvQ.pickB rfl rfl rfl ?_) | (refine EvQ.cond rfl (fun h => ?_) (fun h => ?_) <;> ((first | replace h := X.nm h | skip); try have hne := ne_len h)) | (refine EvQ.g1 rfl (fun h => ?_) (fun h => ?_) <;> ((first | replace h := X.nm h | skip); try have hne := ne_len h)) | (refine EvQ.pick rfl (fun _ => rfl) (fun _ => rfl) (fun h => ?_) (fun h => ?_) <;> ((first | replace h := X.nm h | skip); try have hne := ne_len h)) | refine EvQ.fin X.rs ?_ | refine EvQ.fin1 (fun _ => rfl) rfl ?_)
  refine EvQ.call rfl X.al (split_ok _ (by omega) (Nat.le_refl _)) ?_
  intro w hp ⟨v, hw, hO, _, hu⟩
  subst hw
  have hel := hO.lp
  have hvl := lenO hO.len (txs_length _)
  have hle := splS_le (allF l sVary)
  have hll := splS_len (allF l sVary)
  have htx := splS_txt (allF_txt ht sVary)
  cases hsp : splS (allF l sVary) with
  | none =>
    have hst : starsS l = none := by unfold starsS; rw [hsp]
    rw [hst]
    rw [hsp] at hvl
    repeat' (first | refine EvQ.run ?_ | (refine EvQ.pickB rfl rfl rfl ?_) | (refine EvQ.cond rfl (fun h => ?_) (fun h => ?_) <;> ((first | replace h := X.nm h | skip); try have hne := ne_len h)) | (refine EvQ.g1 rfl (fun h => ?_) (fun h => ?_) <;> ((first | replace h := X.nm h | skip); try have hne := ne_len h)) | (refine EvQ.pick rfl (fun _ => rfl) (fun _ => rfl) (fun h => ?_) (fun h => ?_) <;> ((first | replace h := X.nm h | skip); try have hne := ne_len h)) | refine EvQ.fin X.rs ?_ | refine EvQ.fin1 (fun _ => rfl) rfl ?_)
    exact PQ.of (.s2 (clo_ns [.one]) (.s (clo_bo _) (.nil _)))
  | some ps =>
    rw [hsp] at hO hvl hle hll htx
    simp only [Option.getD_some] at hO hvl hle hll htx
    have hst : starsS l = if ps.any badN then none else some (ps.map lowL) := by unfold starsS; rw [hsp]
    rw [hst]
    have hpx : ∀ i, Txt (ps.getD i []) ∧ (ps.getD i []).length ≤ 100000000 := fun i => by
      by_cases hi : i < ps.length
      · rw [List.getD, List.getElem?_eq_getElem hi]
        have := hle _ (List.getElem_mem hi)
        exact ⟨htx _ (List.getElem_mem hi), by show ps[i].length ≤ _; omega⟩
      · rw [List.getD, List.getElem?_eq_none (by omega)]; exact ⟨fun n hn => absurd hn List.not_mem_nil, Nat.zero_le _⟩
    repeat' (first | refine EvQ.run ?_ | (refine EvQ.pickB rfl rfl rfl ?_) | (refine EvQ.cond rfl (fun h => ?_) (fun h => ?_) <;> ((first | replace h := X.nm h | skip); try have hne := ne_len h)) | (refine EvQ.g1 rfl (fun h => ?_) (fun h => ?_) <;> ((first | replace h := X.nm h | skip); try have hne := ne_len h)) | (refine EvQ.pick rfl (fun _ => rfl) (fun _ => rfl) (fun h => ?_) (fun h => ?_) <;> ((first | replace h := X.nm h | skip); try have hne := ne_len h)) | refine EvQ.fin X.rs ?_ | refine EvQ.fin1 (fun _ => rfl) rfl ?_)
    refine EvQ.loop (QL := fun r => (ps.any badN = true ∧ RtQ [(2, .ns), (3, .bo true)] (fun _ _ => True) r) ∨ (ps.any badN = false ∧ XtQ 0 [(6, v)] (fun _ hp => Ow hp v 1 (txs (ps.map lowL))) r)) ?_ ?_
    · rcases hO with ⟨rfl, hr⟩ | ⟨id, rfl, q1, q2, q3⟩
      · have hps : ps = [] := by
          cases ps with
          | nil => rfl
          | cons a b => cases hr
        subst hps
        refine EvL.invQ (S := Unit) (fun _ => [(6, .ns), (22, .ns), (23, .it .i64 (Int.ofNat 0)), (24, .it .i64 (Int.ofNat 0))]) (fun _ _ _ => True) (fun _ => 0) _ ?_ () _ _ _ trivial X.kv
        intro _ lo hp' _
        repeat' (first | refine EvQ.run ?_ | (refine EvQ.pickB rfl rfl rfl ?_) | (refine EvQ.cond rfl (fun h => ?_) (fun h => ?_) <;> ((first | replace h := X.nm h | skip); try have hne := ne_len h)) | (refine EvQ.g1 rfl (fun h => ?_) (fun h => ?_) <;> ((first | replace h := X.nm h | skip); try have hne := ne_len h)) | (refine EvQ.pick rfl (fun _ => rfl) (fun _ => rfl) (fun h => ?_) (fun h => ?_) <;> ((first | replace h := X.nm h | skip); try have hne := ne_len h)) | refine EvQ.fin X.rs ?_ | refine EvQ.fin1 (fun _ => rfl) rfl ?_)
        exact EvQ.xt (.inr ⟨rfl, .mk' X.kv .ns⟩)
      · rw [txs_length] at *
        refine EvL.invQ (S := Nat) (fun i => [(6, .hs id 0 ps.length), (22, .hs id 0 ps.length), (23, .it .i64 (Int.ofNat ps.length)), (24, .it .i64 (Int.ofNat i))]) (fun i _ hp => i ≤ ps.length ∧ id < hp.next ∧ hp.lim ≤ id ∧ hget hp id = some ⟨1, false, txs (lowP ps i)⟩ ∧ ∀ j, j < i → badN (ps.getD j []) = false) (fun i => ps.length - i) _ ?_ 0 _ _ _ ⟨Nat.zero_le _, q1, q2, by rw [q3]; simp [lowP], fun j h => by omega⟩ X.kv
        intro i lo hp' ⟨h1, h2, h3, h4, h5⟩
        have hpl := lowP_length ps i
        have hg := fun h : i < ps.length => lowP_get h
        have hx := hpx i
        have w1 := fun h : i < ps.length => token_ok _ ((hg h).symm ▸ hx.1) ((hg h).symm ▸ hx.2)
        have w2 := fun h : i < ps.length => lower_ok _ ((hg h).symm ▸ hx.1) ((hg h).symm ▸ hx.2)
        repeat' (first | refine EvQ.run ?_ | refine EvQ.lift (fun _ zn => X.pcall (w1 (by omega)) X.cq rfl X.al rfl zn) ?_ | refine EvQ.lift (fun _ zn => X.pcallG (w1 (by omega)) rfl X.cq rfl X.al rfl zn) ?_ | refine EvQ.lift (fun _ zn => X.pcallC (w1 (by omega)) rfl X.cq rfl X.al rfl zn) ?_ | refine EvQ.lift (fun _ zn => X.pcallT (w1 (by omega)) (by decide) X.cq rfl X.al rfl zn) ?_ | refine EvQ.lift (fun _ zn => X.pcall (w2 (by omega)) X.cq rfl X.al rfl zn) ?_ | refine EvQ.lift (fun _ zn => X.pcallG (w2 (by omega)) rfl X.cq rfl X.al rfl zn) ?_ | refine EvQ.lift (fun _ zn => X.pcallC (w2 (by omega)) rfl X.cq rfl X.al rfl zn) ?_ | refine EvQ.lift (fun _ zn => X.pcallT (w2 (by omega)) (by decide) X.cq rfl X.al rfl zn) ?_ | (refine EvQ.pickB rfl rfl rfl ?_) | (refine EvQ.cond rfl (fun h => ?_) (fun h => ?_) <;> ((first | replace h := X.nm h | skip); try have hne := ne_len h)) | (refine EvQ.g1 rfl (fun h => ?_) (fun h => ?_) <;> ((first | replace h := X.nm h | skip); try have hne := ne_len h)) | (refine EvQ.pick rfl (fun _ => rfl) (fun _ => rfl) (fun h => ?_) (fun h => ?_) <;> ((first | replace h := X.nm h | skip); try have hne := ne_len h)) | refine EvQ.fin X.rs ?_ | refine EvQ.fin1 (fun _ => rfl) rfl ?_)
        · have hi : i < ps.length := by assumption
          refine EvQ.rt (.inl ⟨any_at [] hi ?_, .mk' X.kv trivial⟩)
          rw [← hg hi]
          unfold badN
          rw [show tokenB ((lowP ps i).getD (0 + i) []) = false by assumption, Bool.not_false, Bool.or_true]
        · have hi : i < ps.length := by assumption
          refine EvQ.go (i + 1) X.kv ⟨by omega, h2, h3, ?_, fun j hj => ?_⟩ (by omega)
          · refine (hget_set _ _ _).trans (congrArg (fun z => some (Bk.mk 1 false z)) ?_)
            show (txs (lowP ps i)).set (0 + i) [.st (lowL ((lowP ps i).getD (0 + i) []))] = txs (lowP ps (i + 1))
            rw [txs_set, hg hi, lowP_set hi]
          · rcases Nat.lt_or_ge j i with q | q
            · exact h5 j q
            · rw [show j = i by omega, ← hg hi]
              unfold badN
              rw [show tokenB ((lowP ps i).getD (0 + i) []) = true by assumption, decide_eq_false (by assumption)]; rfl
        · have hi : i < ps.length := by assumption
          refine EvQ.rt (.inl ⟨any_at [] hi ?_, .mk' X.kv trivial⟩)
          rw [← hg hi]
          unfold badN
          rw [decide_eq_true (by assumption)]; rfl
        · have hi : i = ps.length := by omega
          subst hi
          refine EvQ.xt (.inr ⟨any_take [] h5 rfl, .mk' X.kv (.inr ⟨id, by rw [txs_length, List.length_map], h2, h3, ?_⟩)⟩)
          rw [h4]; simp [lowP]
    · rintro _ (⟨hb, tm, lo, hp, rfl, -⟩ | ⟨hb, tm, lo, hp, rfl, hO⟩)
      · rw [hb]
        repeat' (first | refine EvQ.run ?_ | (refine EvQ.pickB rfl rfl rfl ?_) | (refine EvQ.cond rfl (fun h => ?_) (fun h => ?_) <;> ((first | replace h := X.nm h | skip); try have hne := ne_len h)) | (refine EvQ.g1 rfl (fun h => ?_) (fun h => ?_) <;> ((first | replace h := X.nm h | skip); try have hne := ne_len h)) | (refine EvQ.pick rfl (fun _ => rfl) (fun _ => rfl) (fun h => ?_) (fun h => ?_) <;> ((first | replace h := X.nm h | skip); try have hne := ne_len h)) | refine EvQ.fin X.rs ?_ | refine EvQ.fin1 (fun _ => rfl) rfl ?_)
        exact PQ.of (.s2 (clo_ns [.one]) (.s (clo_bo _) (.nil _)))
      · rw [hb]
        have hel := hO.lp
        obtain ⟨hp', hc, hcf⟩ := hO.sl.close (ts := [.one]) (txs_clo _) (by rw [txs_length, List.length_map]; simp [depth]; omega)
        repeat' (first | refine EvQ.run ?_ | (refine EvQ.pickB rfl rfl rfl ?_) | (refine EvQ.cond rfl (fun h => ?_) (fun h => ?_) <;> ((first | replace h := X.nm h | skip); try have hne := ne_len h)) | (refine EvQ.g1 rfl (fun h => ?_) (fun h => ?_) <;> ((first | replace h := X.nm h | skip); try have hne := ne_len h)) | (refine EvQ.pick rfl (fun _ => rfl) (fun _ => rfl) (fun h => ?_) (fun h => ?_) <;> ((first | replace h := X.nm h | skip); try have hne := ne_len h)) | refine EvQ.fin X.rs ?_ | refine EvQ.fin1 (fun _ => rfl) rfl ?_)
        exact PQ.of (.c hc (.s (clo_bo _) (.nil _)))
end Go.Proofs.Ytcbiplmgaiipgaa
