import Derived.Test.YtddohjlkjakdlaaEvE
import Derived.Test.YtddohjlkjakdlaaLow
set_option linter.unusedVariables false
set_option linter.unusedSimpArgs false
set_option linter.unusedSectionVars false
set_option linter.unusedVariables false
set_option linter.unusedSimpArgs false
-- requests held against each other as Vary says
namespace Go.Proofs.Ytddohjlkjakdlaa
open Go hiding Fn
open Ev tab
attribute [local irreducible] EvD EvL EvC evGds evLs C.run sK bK gK pK fK lpB stepD

def sVary : List Nat := [118, 97, 114, 121]
def badN (x : List Nat) : Bool := decide (x = [42]) || !tokenB x
/-- the names that Vary tells; none: they can't be told -/
def starsS (l : List Fld) : Option (List (List Nat)) := match splS (allF l sVary) with
  | none => none
  | some ps => if ps.any badN then none else some (ps.map lowL)
set_option maxHeartbeats 16000000 in
theorem stars_ok (l : List Fld) (hl : JOK l) (ht : TOK l) : EvP F 58 c58 [.vs 2 (fds l)] [.vs 1 (txs ((starsS l).getD [])), .bo (starsS l).isNone] := by
  have ha := all_ok l sVary hl
  have hlen := allF_len hl sVary
  refine EvP.ofQ d58 rfl rfl rfl ?_
  repeat' (first | refine EvQ.run ?_ | refine EvQ.lift (fun _ zn => X.pcall (ha) X.cq rfl X.al rfl zn) ?_ | refine EvQ.lift (fun _ zn => X.pcallG (ha) rfl X.cq rfl X.al rfl zn) ?_ | refine EvQ.lift (fun _ zn => X.pcallC (ha) rfl X.cq rfl X.al rfl zn) ?_ | refine EvQ.lift (fun _ zn => X.pcallT (ha) (by decide) X.cq rfl X.al rfl zn) ?_ | refine EvQ.lift (fun _ zn => X.call rfl X.al (ha) zn) ?_ | (refine EvQ.pickB rfl rfl rfl ?_) | (refine EvQ.cond rfl (fun h => ?_) (fun h => ?_) <;> ((first | replace h := X.nm h | skip); try have hne := ne_len h)) | (refine EvQ.g1 rfl (fun h => ?_) (fun h => ?_) <;> ((first | replace h := X.nm h | skip); try have hne := ne_len h)) | (refine EvQ.pick rfl (fun _ => rfl) (fun _ => rfl) (fun h => ?_) (fun h => ?_) <;> ((first | replace h := X.nm h | skip); try have hne := ne_len h)) | refine EvQ.fin X.rs ?_ | refine EvQ.fin1 (fun _ => rfl) rfl ?_)
  refine EvQ.call rfl X.al (split_ok _ (by omega) (Nat.le_refl _)) ?_
  intro w hp ⟨v, hw, hO, _, hu⟩
  subst hw
  have hel := hO.lp
  have hvl := lenO hO.len (txs_length _)
  have hle := splS_le (allF l sVary)
  have hll := splS_len (allF l sVary)
  have htx := splS_txt (allF_txt ht sVary)
  cases hsp : splS (allF l sVary) with
  | none =>
    have hst : starsS l = none := by unfold starsS; rw [hsp]
    rw [hst]
    rw [hsp] at hvl
    repeat' (first | refine EvQ.run ?_ | (refine EvQ.pickB rfl rfl rfl ?_) | (refine EvQ.cond rfl (fun h => ?_) (fun h => ?_) <;> ((first | replace h := X.nm h | skip); try have hne := ne_len h)) | (refine EvQ.g1 rfl (fun h => ?_) (fun h => ?_) <;> ((first | replace h := X.nm h | skip); try have hne := ne_len h)) | (refine EvQ.pick rfl (fun _ => rfl) (fun _ => rfl) (fun h => ?_) (fun h => ?_) <;> ((first | replace h := X.nm h | skip); try have hne := ne_len h)) | refine EvQ.fin X.rs ?_ | refine EvQ.fin1 (fun _ => rfl) rfl ?_)
    exact PQ.of (.s2 (clo_ns [.one]) (.s (clo_bo _) (.nil _)))
  | some ps =>
    rw [hsp] at hO hvl hle hll htx
    simp only [Option.getD_some] at hO hvl hle hll htx
    have hst : starsS l = if ps.any badN then none else some (ps.map lowL) := by unfold starsS; rw [hsp]
    rw [hst]
    have hpx : ∀ i, Txt (ps.getD i []) ∧ (ps.getD i []).length ≤ 100000000 := fun i => by
      by_cases hi : i < ps.length
      · rw [List.getD, List.getElem?_eq_getElem hi]
        have := hle _ (List.getElem_mem hi)
        exact ⟨htx _ (List.getElem_mem hi), by show ps[i].length ≤ _; omega⟩
      · rw [List.getD, List.getElem?_eq_none (by omega)]; exact ⟨fun n hn => absurd hn List.not_mem_nil, Nat.zero_le _⟩
    repeat' (first | refine EvQ.run ?_ | (refine EvQ.pickB rfl rfl rfl ?_) | (refine EvQ.cond rfl (fun h => ?_) (fun h => ?_) <;> ((first | replace h := X.nm h | skip); try have hne := ne_len h)) | (refine EvQ.g1 rfl (fun h => ?_) (fun h => ?_) <;> ((first | replace h := X.nm h | skip); try have hne := ne_len h)) | (refine EvQ.pick rfl (fun _ => rfl) (fun _ => rfl) (fun h => ?_) (fun h => ?_) <;> ((first | replace h := X.nm h | skip); try have hne := ne_len h)) | refine EvQ.fin X.rs ?_ | refine EvQ.fin1 (fun _ => rfl) rfl ?_)
    refine EvQ.loop (QL := fun r => (ps.any badN = true ∧ RtQ [(2, .ns), (3, .bo true)] (fun _ _ => True) r) ∨ (ps.any badN = false ∧ XtQ 0 [(6, v)] (fun _ hp => Ow hp v 1 (txs (ps.map lowL))) r)) ?_ ?_
    · rcases hO with ⟨rfl, hr⟩ | ⟨id, rfl, q1, q2, q3⟩
      · have hps : ps = [] := by
          cases ps with
          | nil => rfl
          | cons a b => cases hr
        subst hps
        refine EvL.invQ (S := Unit) (fun _ => [(6, .ns), (22, .ns), (23, .it .i64 (Int.ofNat 0)), (24, .it .i64 (Int.ofNat 0))]) (fun _ _ _ => True) (fun _ => 0) _ ?_ () _ _ _ trivial X.kv
        intro _ lo hp' _
        repeat' (first | refine EvQ.run ?_ | (refine EvQ.pickB rfl rfl rfl ?_) | (refine EvQ.cond rfl (fun h => ?_) (fun h => ?_) <;> ((first | replace h := X.nm h | skip); try have hne := ne_len h)) | (refine EvQ.g1 rfl (fun h => ?_) (fun h => ?_) <;> ((first | replace h := X.nm h | skip); try have hne := ne_len h)) | (refine EvQ.pick rfl (fun _ => rfl) (fun _ => rfl) (fun h => ?_) (fun h => ?_) <;> ((first | replace h := X.nm h | skip); try have hne := ne_len h)) | refine EvQ.fin X.rs ?_ | refine EvQ.fin1 (fun _ => rfl) rfl ?_)
        exact EvQ.xt (.inr ⟨rfl, .mk' X.kv .ns⟩)
      · rw [txs_length] at *
        refine EvL.invQ (S := Nat) (fun i => [(6, .hs id 0 ps.length), (22, .hs id 0 ps.length), (23, .it .i64 (Int.ofNat ps.length)), (24, .it .i64 (Int.ofNat i))]) (fun i _ hp => i ≤ ps.length ∧ id < hp.next ∧ hp.lim ≤ id ∧ hget hp id = some ⟨1, false, txs (lowP ps i)⟩ ∧ ∀ j, j < i → badN (ps.getD j []) = false) (fun i => ps.length - i) _ ?_ 0 _ _ _ ⟨Nat.zero_le _, q1, q2, by rw [q3]; simp [lowP], fun j h => by omega⟩ X.kv
        intro i lo hp' ⟨h1, h2, h3, h4, h5⟩
        have hpl := lowP_length ps i
        have hg := fun h : i < ps.length => lowP_get h
        have hx := hpx i
        have w1 := fun h : i < ps.length => token_ok _ ((hg h).symm ▸ hx.1) ((hg h).symm ▸ hx.2)
        have w2 := fun h : i < ps.length => lower_ok _ ((hg h).symm ▸ hx.1) ((hg h).symm ▸ hx.2)
        repeat' (first | refine EvQ.run ?_ | refine EvQ.lift (fun _ zn => X.pcall (w1 (by omega)) X.cq rfl X.al rfl zn) ?_ | refine EvQ.lift (fun _ zn => X.pcallG (w1 (by omega)) rfl X.cq rfl X.al rfl zn) ?_ | refine EvQ.lift (fun _ zn => X.pcallC (w1 (by omega)) rfl X.cq rfl X.al rfl zn) ?_ | refine EvQ.lift (fun _ zn => X.pcallT (w1 (by omega)) (by decide) X.cq rfl X.al rfl zn) ?_ | refine EvQ.lift (fun _ zn => X.call rfl X.al (w1 (by omega)) zn) ?_ | refine EvQ.lift (fun _ zn => X.pcall (w2 (by omega)) X.cq rfl X.al rfl zn) ?_ | refine EvQ.lift (fun _ zn => X.pcallG (w2 (by omega)) rfl X.cq rfl X.al rfl zn) ?_ | refine EvQ.lift (fun _ zn => X.pcallC (w2 (by omega)) rfl X.cq rfl X.al rfl zn) ?_ | refine EvQ.lift (fun _ zn => X.pcallT (w2 (by omega)) (by decide) X.cq rfl X.al rfl zn) ?_ | refine EvQ.lift (fun _ zn => X.call rfl X.al (w2 (by omega)) zn) ?_ | (refine EvQ.pickB rfl rfl rfl ?_) | (refine EvQ.cond rfl (fun h => ?_) (fun h => ?_) <;> ((first | replace h := X.nm h | skip); try have hne := ne_len h)) | (refine EvQ.g1 rfl (fun h => ?_) (fun h => ?_) <;> ((first | replace h := X.nm h | skip); try have hne := ne_len h)) | (refine EvQ.pick rfl (fun _ => rfl) (fun _ => rfl) (fun h => ?_) (fun h => ?_) <;> ((first | replace h := X.nm h | skip); try have hne := ne_len h)) | refine EvQ.fin X.rs ?_ | refine EvQ.fin1 (fun _ => rfl) rfl ?_)
        · have hi : i < ps.length := by assumption
          refine EvQ.rt (.inl ⟨any_at [] hi ?_, .mk' X.kv trivial⟩)
          rw [← hg hi]
          unfold badN
          rw [show tokenB ((lowP ps i).getD (0 + i) []) = false by assumption, Bool.not_false, Bool.or_true]
        · have hi : i < ps.length := by assumption
          refine EvQ.go (i + 1) X.kv ⟨by omega, h2, h3, ?_, fun j hj => ?_⟩ (by omega)
          · refine (hget_set _ _ _).trans (congrArg (fun z => some (Bk.mk 1 false z)) ?_)
            show (txs (lowP ps i)).set (0 + i) [.st (lowL ((lowP ps i).getD (0 + i) []))] = txs (lowP ps (i + 1))
            rw [txs_set, hg hi, lowP_set hi]
          · rcases Nat.lt_or_ge j i with q | q
            · exact h5 j q
            · rw [show j = i by omega, ← hg hi]
              unfold badN
              rw [show tokenB ((lowP ps i).getD (0 + i) []) = true by assumption, decide_eq_false (by assumption)]; rfl
        · have hi : i < ps.length := by assumption
          refine EvQ.rt (.inl ⟨any_at [] hi ?_, .mk' X.kv trivial⟩)
          rw [← hg hi]
          unfold badN
          rw [decide_eq_true (by assumption)]; rfl
        · have hi : i = ps.length := by omega
          subst hi
          refine EvQ.xt (.inr ⟨any_take [] h5 rfl, .mk' X.kv (.inr ⟨id, by rw [txs_length, List.length_map], h2, h3, ?_⟩)⟩)
          rw [h4]; simp [lowP]
    · rintro _ (⟨hb, tm, lo, hp, rfl, -⟩ | ⟨hb, tm, lo, hp, rfl, hO⟩)
      · rw [hb]
        repeat' (first | refine EvQ.run ?_ | (refine EvQ.pickB rfl rfl rfl ?_) | (refine EvQ.cond rfl (fun h => ?_) (fun h => ?_) <;> ((first | replace h := X.nm h | skip); try have hne := ne_len h)) | (refine EvQ.g1 rfl (fun h => ?_) (fun h => ?_) <;> ((first | replace h := X.nm h | skip); try have hne := ne_len h)) | (refine EvQ.pick rfl (fun _ => rfl) (fun _ => rfl) (fun h => ?_) (fun h => ?_) <;> ((first | replace h := X.nm h | skip); try have hne := ne_len h)) | refine EvQ.fin X.rs ?_ | refine EvQ.fin1 (fun _ => rfl) rfl ?_)
        exact PQ.of (.s2 (clo_ns [.one]) (.s (clo_bo _) (.nil _)))
      · rw [hb]
        have hel := hO.lp
        obtain ⟨hp', hc, hcf⟩ := hO.sl.close (ts := [.one]) (txs_clo _) (by rw [txs_length, List.length_map]; simp [depth]; omega)
        repeat' (first | refine EvQ.run ?_ | (refine EvQ.pickB rfl rfl rfl ?_) | (refine EvQ.cond rfl (fun h => ?_) (fun h => ?_) <;> ((first | replace h := X.nm h | skip); try have hne := ne_len h)) | (refine EvQ.g1 rfl (fun h => ?_) (fun h => ?_) <;> ((first | replace h := X.nm h | skip); try have hne := ne_len h)) | (refine EvQ.pick rfl (fun _ => rfl) (fun _ => rfl) (fun h => ?_) (fun h => ?_) <;> ((first | replace h := X.nm h | skip); try have hne := ne_len h)) | refine EvQ.fin X.rs ?_ | refine EvQ.fin1 (fun _ => rfl) rfl ?_)
        exact PQ.of (.c hc (.s (clo_bo _) (.nil _)))
end Go.Proofs.Ytddohjlkjakdlaa
