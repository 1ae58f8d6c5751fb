import Derived.Test.YtcbiplmgaiipgaaEvE
import Derived.Test.YtcbiplmgaiipgaaRefP
set_option linter.unusedVariables false
set_option linter.unusedSimpArgs false
set_option linter.unusedSectionVars false
-- the document's numbers, lengths, heads
namespace Go.Proofs.Ytcbiplmgaiipgaa
open Go hiding Fn
open Ev tab
attribute [local irreducible] EvP EvD EvL EvC evGds evLs C.run sK bK gK pK fK lpB stepD
theorem num_step {n c : Nat} (h1 : n < 100000000) (h2 : 48 ≤ c) (h3 : c ≤ 57) : (bif ilt (Int.ofNat 2147483647) (wr .i64 (wr .i64 (Int.ofNat n * Int.ofNat 10) + wr .i64 (wr .u8 (Int.ofNat c - Int.ofNat 48)))) then Int.ofNat 2147483647 else wr .i64 (wr .i64 (Int.ofNat n * Int.ofNat 10) + wr .i64 (wr .u8 (Int.ofNat c - Int.ofNat 48)))) = Int.ofNat (10 * n + (c - 48)) := by
  have e : wr .i64 (wr .i64 (Int.ofNat n * Int.ofNat 10) + wr .i64 (wr .u8 (Int.ofNat c - Int.ofNat 48))) = Int.ofNat (10 * n + (c - 48)) := by
    have a1 : wr .u8 (Int.ofNat c - Int.ofNat 48) = Int.ofNat (c - 48) := by rw [wr8 (by simp only [Int.ofNat_eq_natCast]; omega) (by simp only [Int.ofNat_eq_natCast]; omega)]; simp only [Int.ofNat_eq_natCast]; omega
    have a2 : wr .i64 (Int.ofNat (c - 48)) = Int.ofNat (c - 48) := wr64 (by simp only [Int.ofNat_eq_natCast]; omega) (by simp only [Int.ofNat_eq_natCast]; omega)
    have a3 : wr .i64 (Int.ofNat n * Int.ofNat 10) = Int.ofNat (10 * n) := by rw [wr64 (by simp only [Int.ofNat_eq_natCast]; omega) (by simp only [Int.ofNat_eq_natCast]; omega)]; simp only [Int.ofNat_eq_natCast]; omega
    rw [a1, a2, a3, wr64 (by simp only [Int.ofNat_eq_natCast]; omega) (by simp only [Int.ofNat_eq_natCast]; omega)]; rfl
  rw [e, ilt_eq, decide_eq_false (by simp only [Int.ofNat_eq_natCast]; omega)]; rfl
set_option maxHeartbeats 8000000 in
theorem rnumber_ok (s : List Nat) (hs : Txt s) (h9 : s.length ≤ 9) : EvP F 71 c71 [.st s] [.it .i64 (numF s)] := by
  refine EvP.ofQ d71 rfl rfl rfl ?_
  repeat' (first | refine EvQ.run ?_ | (refine EvQ.pickB rfl rfl rfl ?_) | (refine EvQ.cond rfl (fun h => ?_) (fun h => ?_) <;> ((first | replace h := X.nm h | skip); try have hne := ne_len h)) | (refine EvQ.g1 rfl (fun h => ?_) (fun h => ?_) <;> ((first | replace h := X.nm h | skip); try have hne := ne_len h)) | (refine EvQ.pick rfl (fun _ => rfl) (fun _ => rfl) (fun h => ?_) (fun h => ?_) <;> ((first | replace h := X.nm h | skip); try have hne := ne_len h)) | refine EvQ.fin X.rs ?_ | refine EvQ.fin1 (fun _ => rfl) rfl ?_)
  · have e : s = [] := by assumption
    subst e
    exact PQ.it rfl
  · have hn : numF s = if s.all digB then (numAcc 0 s : Int) else -1 := by unfold numF; rw [if_neg (by omega)]
    refine EvQ.loop (QL := fun r => (numF s = (numAcc 0 s : Int) ∧ XtQ 0 [(3, .it .i64 (Int.ofNat (numAcc 0 s)))] (fun _ hp => True) r) ∨ (numF s = -1 ∧ RtQ [(2, .it .i64 (-1))] (fun _ _ => True) r)) ?_ ?_
    · refine EvL.invQ (S := Nat) (fun i => [(0, .st s), (3, .it .i64 (Int.ofNat (numAcc 0 (s.take i)))), (4, .it .i64 (Int.ofNat i))]) (fun i _ hp => i ≤ s.length ∧ ∀ j, j < i → digB (s.getD j 0) = true) (fun i => s.length - i) _ ?_ 0 _ _ _ ⟨Nat.zero_le _, fun j h => absurd h (Nat.not_lt_zero j)⟩ X.kv
      intro i lo hp ⟨e1, e2⟩
      have ht := hs.get i
      have hd := fun h : i < s.length => numAcc_take h 0
      have hall : (s.take i).all digB = true := by
        refine all_of fun j hj => ?_
        rw [List.length_take] at hj
        rw [List.getD, List.getElem?_take_of_lt (by omega)]
        exact e2 j (by omega)
      have hlt : i < s.length → numAcc 0 (s.take i) < 100000000 := fun h => numAcc8 hall (by rw [List.length_take]; omega)
      repeat' (first | refine EvQ.run ?_ | (refine EvQ.pickB rfl rfl rfl ?_) | (refine EvQ.cond rfl (fun h => ?_) (fun h => ?_) <;> ((first | replace h := X.nm h | skip); try have hne := ne_len h)) | (refine EvQ.g1 rfl (fun h => ?_) (fun h => ?_) <;> ((first | replace h := X.nm h | skip); try have hne := ne_len h)) | (refine EvQ.pick rfl (fun _ => rfl) (fun _ => rfl) (fun h => ?_) (fun h => ?_) <;> ((first | replace h := X.nm h | skip); try have hne := ne_len h)) | refine EvQ.fin X.rs ?_ | refine EvQ.fin1 (fun _ => rfl) rfl ?_)
      · refine EvQ.rt (.inr ⟨?_, .mk' X.kv trivial⟩)
        rw [hn, if_neg]
        rw [all_not (by assumption) (show digB (s.getD i 0) = false from decide_eq_false (by omega))]; simp
      · have e := hd (by assumption)
        refine EvQ.go (i + 1) (kvc rfl (kvc (congrArg (V.it .i64) ?_) (kvc rfl rfl))) ⟨by omega, fun j hj => ?_⟩ (by omega)
        · rw [e]
          exact num_step (hlt (by assumption)) (by omega) (by omega)
        · rcases Nat.lt_or_ge j i with q | q
          · exact e2 j q
          · rw [show j = i by omega]; exact decide_eq_true (by omega)
      · refine EvQ.rt (.inr ⟨?_, .mk' X.kv trivial⟩)
        rw [hn, if_neg]
        rw [all_not (by assumption) (show digB (s.getD i 0) = false from decide_eq_false (by omega))]; simp
      · have hi : i = s.length := by omega
        subst hi
        rw [List.take_length] at hall
        refine EvQ.xt (.inl ⟨by rw [hn, if_pos hall], .mk' (kvc (congrArg (fun l => V.it .i64 (Int.ofNat (numAcc 0 l))) (List.take_length)) rfl) trivial⟩)
    · rintro _ (⟨e, tm, lo, hp, rfl, -⟩ | ⟨e, tm, lo, hp, rfl, -⟩)
      · repeat' (first | refine EvQ.run ?_ | (refine EvQ.pickB rfl rfl rfl ?_) | (refine EvQ.cond rfl (fun h => ?_) (fun h => ?_) <;> ((first | replace h := X.nm h | skip); try have hne := ne_len h)) | (refine EvQ.g1 rfl (fun h => ?_) (fun h => ?_) <;> ((first | replace h := X.nm h | skip); try have hne := ne_len h)) | (refine EvQ.pick rfl (fun _ => rfl) (fun _ => rfl) (fun h => ?_) (fun h => ?_) <;> ((first | replace h := X.nm h | skip); try have hne := ne_len h)) | refine EvQ.fin X.rs ?_ | refine EvQ.fin1 (fun _ => rfl) rfl ?_)
        exact PQ.it e.symm
      · repeat' (first | refine EvQ.run ?_ | (refine EvQ.pickB rfl rfl rfl ?_) | (refine EvQ.cond rfl (fun h => ?_) (fun h => ?_) <;> ((first | replace h := X.nm h | skip); try have hne := ne_len h)) | (refine EvQ.g1 rfl (fun h => ?_) (fun h => ?_) <;> ((first | replace h := X.nm h | skip); try have hne := ne_len h)) | (refine EvQ.pick rfl (fun _ => rfl) (fun _ => rfl) (fun h => ?_) (fun h => ?_) <;> ((first | replace h := X.nm h | skip); try have hne := ne_len h)) | refine EvQ.fin X.rs ?_ | refine EvQ.fin1 (fun _ => rfl) rfl ?_)
        exact PQ.it e.symm
set_option maxHeartbeats 16000000 in
theorem rlength_ok (l : List Fld) (hl : FOK l) : EvP F 69 c69 [.vs 2 (fds l)] [.it .i64 ((lenGo (-1) l).getD (-1)), .bo (lenGo (-1) l).isSome] := by
  have hll := hl.1
  refine EvP.ofQ d69 rfl rfl rfl ?_
  generalize ht : lenGo (-1) l = t at *
  repeat' (first | refine EvQ.run ?_ | (refine EvQ.pickB rfl rfl rfl ?_) | (refine EvQ.cond rfl (fun h => ?_) (fun h => ?_) <;> ((first | replace h := X.nm h | skip); try have hne := ne_len h)) | (refine EvQ.g1 rfl (fun h => ?_) (fun h => ?_) <;> ((first | replace h := X.nm h | skip); try have hne := ne_len h)) | (refine EvQ.pick rfl (fun _ => rfl) (fun _ => rfl) (fun h => ?_) (fun h => ?_) <;> ((first | replace h := X.nm h | skip); try have hne := ne_len h)) | refine EvQ.fin X.rs ?_ | refine EvQ.fin1 (fun _ => rfl) rfl ?_)
  refine EvQ.loop (QL := fun r => (∃ n, t = some n ∧ XtQ 0 [(4, .it .i64 n)] (fun _ hp => True) r) ∨ (t = none ∧ RtQ [(2, .it .i64 (-1)), (3, .bo false)] (fun _ _ => True) r)) ?_ ?_
  · refine EvL.invQ (S := Nat × Int) (fun x => [(0, .vs 2 (fds l)), (4, .it .i64 x.2), (5, .it .i64 (Int.ofNat x.1))]) (fun x lo hp => x.1 ≤ l.length ∧ lenGo x.2 (l.drop x.1) = t) (fun x => l.length - x.1) _ ?_ (0, -1) _ _ _ ⟨Nat.zero_le _, ht⟩ X.kv
    intro ⟨i, out⟩ lo hp ⟨e1, e2⟩
    simp only at e1 e2
    have hd : i < l.length → (if (l.getD i f0).1 = sCl then (if numF (l.getD i f0).2 < 0 ∨ (0 ≤ out ∧ numF (l.getD i f0).2 ≠ out) then none else lenGo (numF (l.getD i f0).2) (l.drop (i + 1))) else lenGo out (l.drop (i + 1))) = t := fun h => by rw [drop_getD h f0] at e2; exact e2
    have h9 : 9 < (l.getD i f0).2.length → numF (l.getD i f0).2 = -1 := fun h => by unfold numF; rw [if_pos (.inr h)]
    have hx : Txt (l.getD i f0).2 := by
      by_cases hi : i < l.length
      · rw [List.getD, List.getElem?_eq_getElem hi]; exact (hl.get hi).2.1
      · rw [List.getD, List.getElem?_eq_none (by omega)]; exact fun n hn => absurd hn List.not_mem_nil
    by_cases q9 : (l.getD i f0).2.length ≤ 9
    · have nb := rnumber_ok (l.getD i f0).2 hx q9
      repeat' (first | refine EvQ.run ?_ | refine EvQ.lift (fun _ zn => X.pcall (nb) X.cq rfl X.al rfl zn) ?_ | refine EvQ.lift (fun _ zn => X.pcallG (nb) rfl X.cq rfl X.al rfl zn) ?_ | refine EvQ.lift (fun _ zn => X.pcallC (nb) rfl X.cq rfl X.al rfl zn) ?_ | refine EvQ.lift (fun _ zn => X.pcallT (nb) (by decide) X.cq rfl X.al rfl zn) ?_ | refine EvQ.lift (fun _ zn => X.call rfl X.al (nb) zn) ?_ | (refine EvQ.pickB rfl rfl rfl ?_) | (refine EvQ.cond rfl (fun h => ?_) (fun h => ?_) <;> ((first | replace h := X.nm h | skip); try have hne := ne_len h)) | (refine EvQ.g1 rfl (fun h => ?_) (fun h => ?_) <;> ((first | replace h := X.nm h | skip); try have hne := ne_len h)) | (refine EvQ.pick rfl (fun _ => rfl) (fun _ => rfl) (fun h => ?_) (fun h => ?_) <;> ((first | replace h := X.nm h | skip); try have hne := ne_len h)) | refine EvQ.fin X.rs ?_ | refine EvQ.fin1 (fun _ => rfl) rfl ?_)
      all_goals first
        | (have e := hd (by assumption)
           rw [if_neg (by assumption)] at e
           exact EvQ.go (i + 1, out) X.kv ⟨by show i + 1 ≤ _; omega, e⟩ (by show l.length - (i + 1) < l.length - i; omega))
        | (have e := hd (by assumption)
           rw [if_pos (by assumption), if_pos (by first | omega | (have := h9 (by omega); omega))] at e
           exact EvQ.rt (.inr ⟨e.symm, .mk' X.kv trivial⟩))
        | (have e := hd (by assumption)
           rw [if_pos (by assumption), if_neg (by omega)] at e
           exact EvQ.go (i + 1, _) X.kv ⟨by show i + 1 ≤ _; omega, e⟩ (by show l.length - (i + 1) < l.length - i; omega))
        | (rw [List.drop_of_length_le (by omega)] at e2
           exact EvQ.xt (.inl ⟨out, e2.symm, .mk' X.kv trivial⟩))
        | trace_state
    · repeat' (first | refine EvQ.run ?_ | (refine EvQ.pickB rfl rfl rfl ?_) | (refine EvQ.cond rfl (fun h => ?_) (fun h => ?_) <;> ((first | replace h := X.nm h | skip); try have hne := ne_len h)) | (refine EvQ.g1 rfl (fun h => ?_) (fun h => ?_) <;> ((first | replace h := X.nm h | skip); try have hne := ne_len h)) | (refine EvQ.pick rfl (fun _ => rfl) (fun _ => rfl) (fun h => ?_) (fun h => ?_) <;> ((first | replace h := X.nm h | skip); try have hne := ne_len h)) | refine EvQ.fin X.rs ?_ | refine EvQ.fin1 (fun _ => rfl) rfl ?_)
      all_goals first
        | (have e := hd (by assumption)
           rw [if_neg (by assumption)] at e
           exact EvQ.go (i + 1, out) X.kv ⟨by show i + 1 ≤ _; omega, e⟩ (by show l.length - (i + 1) < l.length - i; omega))
        | (have e := hd (by assumption)
           rw [if_pos (by assumption), if_pos (by first | omega | (have := h9 (by omega); omega))] at e
           exact EvQ.rt (.inr ⟨e.symm, .mk' X.kv trivial⟩))
        | (have e := hd (by assumption)
           rw [if_pos (by assumption), if_neg (by omega)] at e
           exact EvQ.go (i + 1, _) X.kv ⟨by show i + 1 ≤ _; omega, e⟩ (by show l.length - (i + 1) < l.length - i; omega))
        | (rw [List.drop_of_length_le (by omega)] at e2
           exact EvQ.xt (.inl ⟨out, e2.symm, .mk' X.kv trivial⟩))
        | trace_state
  · rintro _ (⟨n, rfl, tm, lo, hp, rfl, -⟩ | ⟨rfl, tm, lo, hp, rfl, -⟩)
    · repeat' (first | refine EvQ.run ?_ | (refine EvQ.pickB rfl rfl rfl ?_) | (refine EvQ.cond rfl (fun h => ?_) (fun h => ?_) <;> ((first | replace h := X.nm h | skip); try have hne := ne_len h)) | (refine EvQ.g1 rfl (fun h => ?_) (fun h => ?_) <;> ((first | replace h := X.nm h | skip); try have hne := ne_len h)) | (refine EvQ.pick rfl (fun _ => rfl) (fun _ => rfl) (fun h => ?_) (fun h => ?_) <;> ((first | replace h := X.nm h | skip); try have hne := ne_len h)) | refine EvQ.fin X.rs ?_ | refine EvQ.fin1 (fun _ => rfl) rfl ?_)
      exact PQ.of (.s (clo_it _ _) (.s (clo_bo _) (.nil _)))
    · repeat' (first | refine EvQ.run ?_ | (refine EvQ.pickB rfl rfl rfl ?_) | (refine EvQ.cond rfl (fun h => ?_) (fun h => ?_) <;> ((first | replace h := X.nm h | skip); try have hne := ne_len h)) | (refine EvQ.g1 rfl (fun h => ?_) (fun h => ?_) <;> ((first | replace h := X.nm h | skip); try have hne := ne_len h)) | (refine EvQ.pick rfl (fun _ => rfl) (fun _ => rfl) (fun h => ?_) (fun h => ?_) <;> ((first | replace h := X.nm h | skip); try have hne := ne_len h)) | refine EvQ.fin X.rs ?_ | refine EvQ.fin1 (fun _ => rfl) rfl ?_)
      exact PQ.of (.s (clo_it _ _) (.s (clo_bo _) (.nil _)))
set_option maxHeartbeats 16000000 in
theorem bare_ok (l : List Fld) (hl : FOK l) : EvP F 30 c30 [.vs 2 (fds l)] [.it .i64 (Int.ofNat (kOf l)), .bo (!(l.drop (kOf l)).any colonB)] := by
  have hll := hl.1
  refine EvP.ofQ d30 rfl rfl rfl ?_
  have hk := fun k h1 h2 h3 => kOf_is l k h1 h2 h3
  generalize ht : (l.drop (kOf l)).any colonB = t at *
  repeat' (first | refine EvQ.run ?_ | (refine EvQ.pickB rfl rfl rfl ?_) | (refine EvQ.cond rfl (fun h => ?_) (fun h => ?_) <;> ((first | replace h := X.nm h | skip); try have hne := ne_len h)) | (refine EvQ.g1 rfl (fun h => ?_) (fun h => ?_) <;> ((first | replace h := X.nm h | skip); try have hne := ne_len h)) | (refine EvQ.pick rfl (fun _ => rfl) (fun _ => rfl) (fun h => ?_) (fun h => ?_) <;> ((first | replace h := X.nm h | skip); try have hne := ne_len h)) | refine EvQ.fin X.rs ?_ | refine EvQ.fin1 (fun _ => rfl) rfl ?_)
  refine EvQ.loop (QL := fun r => (t = false ∧ XtQ 0 [(4, .it .i64 (Int.ofNat (kOf l)))] (fun _ hp => True) r) ∨ (t = true ∧ RtQ [(2, .it .i64 (Int.ofNat (kOf l))), (3, .bo false)] (fun _ _ => True) r)) ?_ ?_
  · refine EvL.invQ (S := Nat × Nat) (fun x => [(0, .vs 2 (fds l)), (4, .it .i64 (Int.ofNat x.2)), (5, .it .i64 (Int.ofNat x.1))]) (fun x lo hp => x.1 ≤ l.length ∧ x.2 ≤ x.1 ∧ (x.2 = x.1 → ∀ j, j < x.1 → colonB (l.getD j f0) = true) ∧ (x.2 < x.1 → x.2 = kOf l ∧ (l.drop x.1).any colonB = t)) (fun x => l.length - x.1) _ ?_ (0, 0) _ _ _ ⟨Nat.zero_le _, Nat.le_refl _, fun _ j h => absurd h (Nat.not_lt_zero j), fun h => absurd h (Nat.lt_irrefl 0)⟩ X.kv
    intro ⟨i, n⟩ lo hp ⟨e1, e2, e3, e4⟩
    simp only at e1 e2 e3 e4
    have hc : colonB (l.getD i f0) = (decide (0 < (l.getD i f0).1.length) && decide ((l.getD i f0).1.getD 0 0 = 58)) := rfl
    repeat' (first | refine EvQ.run ?_ | (refine EvQ.pickB rfl rfl rfl ?_) | (refine EvQ.cond rfl (fun h => ?_) (fun h => ?_) <;> ((first | replace h := X.nm h | skip); try have hne := ne_len h)) | (refine EvQ.g1 rfl (fun h => ?_) (fun h => ?_) <;> ((first | replace h := X.nm h | skip); try have hne := ne_len h)) | (refine EvQ.pick rfl (fun _ => rfl) (fun _ => rfl) (fun h => ?_) (fun h => ?_) <;> ((first | replace h := X.nm h | skip); try have hne := ne_len h)) | refine EvQ.fin X.rs ?_ | refine EvQ.fin1 (fun _ => rfl) rfl ?_)
    all_goals first
      | (have hi : n < i := by omega
         have := e4 hi
         refine EvQ.rt (.inr ⟨?_, .mk' (kvc (congrArg (fun n : Nat => V.it .i64 (Int.ofNat n)) this.1) (kvc rfl rfl)) trivial⟩)
         rw [← this.2, drop_getD (by assumption) f0, List.any_cons, hc]; simp only [*, decide_true, Bool.and_self, Bool.true_or]; done)
      | (have hi : n = i := by omega
         subst hi
         have e3 := e3 rfl
         refine EvQ.go (n + 1, n + 1) X.kv ⟨by show n + 1 ≤ _; omega, Nat.le_refl _, fun _ j hj => ?_, fun h => absurd h (Nat.lt_irrefl _)⟩ (by show l.length - (n + 1) < l.length - n; omega)
         rcases Nat.lt_or_ge j n with q | q
         · exact e3 j q
         · have hj : j < n + 1 := hj
           rw [show j = n by omega, hc]; simp only [*, decide_true, Bool.and_self]; done)
      | (have hcf : colonB (l.getD i f0) = false := by
           rw [hc]
           first | rw [decide_eq_false h, Bool.and_false] | rw [decide_eq_false h, Bool.false_and]
         refine EvQ.go (i + 1, n) X.kv ⟨by show i + 1 ≤ _; omega, by show n ≤ i + 1; omega, fun h => absurd h (by show ¬ n = i + 1; omega), fun _ => ?_⟩ (by show l.length - (i + 1) < l.length - i; omega)
         rcases Nat.lt_or_ge n i with q | q
         · have := e4 q
           rw [drop_getD (by assumption) f0, List.any_cons, hcf, Bool.false_or] at this
           exact this
         · have hn : n = i := by omega
           subst hn
           have hkk : n = kOf l := hk n e1 (fun j hj hjn => by have := e3 rfl j hjn; rw [List.getD, List.getElem?_eq_getElem hj] at this; exact this) (fun h => by rw [List.getD, List.getElem?_eq_getElem h] at hcf; exact hcf)
           refine ⟨hkk, ?_⟩
           have hx := drop_getD (show n < l.length by assumption) f0
           show (l.drop (n + 1)).any colonB = t
           rw [← ht, ← hkk, hx, List.any_cons, hcf, Bool.false_or])
      | (rcases Nat.lt_or_ge n i with q | q
         · have := e4 q
           rw [List.drop_of_length_le (by omega)] at this
           exact EvQ.xt (.inl ⟨this.2.symm, .mk' (kvc (congrArg (fun n : Nat => V.it .i64 (Int.ofNat n)) this.1) rfl) trivial⟩)
         · have hn : n = i := by omega
           subst hn
           have hkk : n = kOf l := hk n e1 (fun j hj hjn => by have := e3 rfl j hjn; rw [List.getD, List.getElem?_eq_getElem hj] at this; exact this) (fun h => absurd h (by omega))
           refine EvQ.xt (.inl ⟨?_, .mk' (kvc (congrArg (fun n : Nat => V.it .i64 (Int.ofNat n)) hkk) rfl) trivial⟩)
           rw [← ht, ← hkk, List.drop_of_length_le (by omega)]; rfl)
      | trace_state
  · rintro _ (⟨rfl, tm, lo, hp, rfl, -⟩ | ⟨rfl, tm, lo, hp, rfl, -⟩)
    · repeat' (first | refine EvQ.run ?_ | (refine EvQ.pickB rfl rfl rfl ?_) | (refine EvQ.cond rfl (fun h => ?_) (fun h => ?_) <;> ((first | replace h := X.nm h | skip); try have hne := ne_len h)) | (refine EvQ.g1 rfl (fun h => ?_) (fun h => ?_) <;> ((first | replace h := X.nm h | skip); try have hne := ne_len h)) | (refine EvQ.pick rfl (fun _ => rfl) (fun _ => rfl) (fun h => ?_) (fun h => ?_) <;> ((first | replace h := X.nm h | skip); try have hne := ne_len h)) | refine EvQ.fin X.rs ?_ | refine EvQ.fin1 (fun _ => rfl) rfl ?_)
      exact PQ.of (.s (clo_it _ _) (.s (clo_bo _) (.nil _)))
    · repeat' (first | refine EvQ.run ?_ | (refine EvQ.pickB rfl rfl rfl ?_) | (refine EvQ.cond rfl (fun h => ?_) (fun h => ?_) <;> ((first | replace h := X.nm h | skip); try have hne := ne_len h)) | (refine EvQ.g1 rfl (fun h => ?_) (fun h => ?_) <;> ((first | replace h := X.nm h | skip); try have hne := ne_len h)) | (refine EvQ.pick rfl (fun _ => rfl) (fun _ => rfl) (fun h => ?_) (fun h => ?_) <;> ((first | replace h := X.nm h | skip); try have hne := ne_len h)) | refine EvQ.fin X.rs ?_ | refine EvQ.fin1 (fun _ => rfl) rfl ?_)
      exact PQ.of (.s (clo_it _ _) (.s (clo_bo _) (.nil _)))
end Go.Proofs.Ytcbiplmgaiipgaa
