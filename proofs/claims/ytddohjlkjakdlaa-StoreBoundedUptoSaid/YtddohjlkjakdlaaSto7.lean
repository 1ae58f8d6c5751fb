import Derived.Test.YtddohjlkjakdlaaEvE
import Derived.Test.YtddohjlkjakdlaaEvE
import Derived.Test.YtddohjlkjakdlaaSto6
set_option linter.unusedVariables false
set_option linter.unusedSimpArgs false
-- texts held against each other; pages
namespace Go.Proofs.Ytddohjlkjakdlaa
open Go hiding Fn
open Ev tab
attribute [local irreducible] EvP EvD EvL EvC evGds evLs C.run sK bK gK pK fK lpB stepD
def eqT : List (List Nat) → List (List Nat) → Bool
  | [], [] => true
  | a :: x, b :: y => decide (a = b) && eqT x y
  | _, _ => false
theorem eqT_eq : ∀ (x y : List (List Nat)), eqT x y = decide (x = y)
  | [], [] => rfl
  | [], _ :: _ => by simp [eqT]
  | _ :: _, [] => by simp [eqT]
  | a :: x, b :: y => by
    simp only [eqT, eqT_eq x y, List.cons.injEq, Bool.decide_and]
theorem eqT_len : ∀ {x y : List (List Nat)}, x.length ≠ y.length → eqT x y = false
  | [], [], h => absurd rfl h
  | [], _ :: _, _ => rfl
  | _ :: _, [], _ => rfl
  | a :: x, b :: y, h => by
    simp only [eqT, eqT_len (x := x) (y := y) (by simpa using h), Bool.and_false]
set_option maxHeartbeats 8000000 in
theorem sameT_ok (x y : List (List Nat)) (hx : x.length ≤ 1000000) (hy : y.length ≤ 1000000) : EvP F 16 c16 [.vs 1 (txs x), .vs 1 (txs y)] [.bo (eqT x y)] := by
  generalize ht : eqT x y = t
  refine EvP.ofQ d16 rfl rfl rfl ?_
  by_cases hl : x.length = y.length
  · have hn : Int.ofNat x.length = Int.ofNat y.length := by rw [hl]
    repeat (first | refine EvQ.run ?_ | refine EvQ.fin X.rs ?_ | refine EvQ.fin1 (fun _ => rfl) rfl ?_)
    refine EvQ.loop (QL := fun r => (t = true ∧ XtQ 0 [] (fun _ _ => True) r) ∨ (t = false ∧ RtQ [(4, .bo false)] (fun _ _ => True) r)) ?_ ?_
    · refine EvL.invQ (S := Nat) (fun i => [(0, .vs 1 (txs x)), (1, .vs 1 (txs y)), (5, .it .i64 (Int.ofNat i))]) (fun i _ _ => i ≤ x.length ∧ eqT (x.drop i) (y.drop i) = t) (fun i => x.length - i) _ ?_ 0 _ _ _ ⟨Nat.zero_le _, ht⟩ X.kv
      intro i lo hp ⟨h1, h2⟩
      by_cases hi : i < x.length
      · rw [drop_getD hi [], drop_getD (show i < y.length by omega) []] at h2
        simp only [eqT] at h2
        have hiy : i < y.length := by omega
        repeat' (first | refine EvQ.run ?_ | (refine EvQ.pickB rfl rfl rfl ?_) | (refine EvQ.cond rfl (fun h => ?_) (fun h => ?_) <;> ((first | replace h := X.nm h | skip); try have hne := ne_len h)) | (refine EvQ.g1 rfl (fun h => ?_) (fun h => ?_) <;> ((first | replace h := X.nm h | skip); try have hne := ne_len h)) | (refine EvQ.pick rfl (fun _ => rfl) (fun _ => rfl) (fun h => ?_) (fun h => ?_) <;> ((first | replace h := X.nm h | skip); try have hne := ne_len h)) | refine EvQ.fin X.rs ?_ | refine EvQ.fin1 (fun _ => rfl) rfl ?_)
        · rw [decide_eq_false (by assumption), Bool.false_and] at h2
          exact EvQ.rt (.inr ⟨h2.symm, .mk' X.kv trivial⟩)
        · rw [decide_eq_true (by assumption), Bool.true_and] at h2
          exact EvQ.go (i + 1) X.kv ⟨by omega, h2⟩ (by omega)
      · repeat' (first | refine EvQ.run ?_ | (refine EvQ.pickB rfl rfl rfl ?_) | (refine EvQ.cond rfl (fun h => ?_) (fun h => ?_) <;> ((first | replace h := X.nm h | skip); try have hne := ne_len h)) | (refine EvQ.g1 rfl (fun h => ?_) (fun h => ?_) <;> ((first | replace h := X.nm h | skip); try have hne := ne_len h)) | (refine EvQ.pick rfl (fun _ => rfl) (fun _ => rfl) (fun h => ?_) (fun h => ?_) <;> ((first | replace h := X.nm h | skip); try have hne := ne_len h)) | refine EvQ.fin X.rs ?_ | refine EvQ.fin1 (fun _ => rfl) rfl ?_)
        rw [List.drop_of_length_le (by omega), List.drop_of_length_le (by omega)] at h2
        exact EvQ.xt (.inl ⟨h2.symm, .mk' X.kv trivial⟩)
    · rintro _ (⟨rfl, tm, lo, hp, rfl, -⟩ | ⟨rfl, tm, lo, hp, rfl, -⟩)
      · repeat' (first | refine EvQ.run ?_ | (refine EvQ.pickB rfl rfl rfl ?_) | (refine EvQ.cond rfl (fun h => ?_) (fun h => ?_) <;> ((first | replace h := X.nm h | skip); try have hne := ne_len h)) | (refine EvQ.g1 rfl (fun h => ?_) (fun h => ?_) <;> ((first | replace h := X.nm h | skip); try have hne := ne_len h)) | (refine EvQ.pick rfl (fun _ => rfl) (fun _ => rfl) (fun h => ?_) (fun h => ?_) <;> ((first | replace h := X.nm h | skip); try have hne := ne_len h)) | refine EvQ.fin X.rs ?_ | refine EvQ.fin1 (fun _ => rfl) rfl ?_)
        exact PQ.bo rfl
      · repeat' (first | refine EvQ.run ?_ | (refine EvQ.pickB rfl rfl rfl ?_) | (refine EvQ.cond rfl (fun h => ?_) (fun h => ?_) <;> ((first | replace h := X.nm h | skip); try have hne := ne_len h)) | (refine EvQ.g1 rfl (fun h => ?_) (fun h => ?_) <;> ((first | replace h := X.nm h | skip); try have hne := ne_len h)) | (refine EvQ.pick rfl (fun _ => rfl) (fun _ => rfl) (fun h => ?_) (fun h => ?_) <;> ((first | replace h := X.nm h | skip); try have hne := ne_len h)) | refine EvQ.fin X.rs ?_ | refine EvQ.fin1 (fun _ => rfl) rfl ?_)
        exact PQ.bo rfl
  · rw [eqT_len hl] at ht
    subst ht
    repeat (first | refine EvQ.run ?_ | refine EvQ.fin X.rs ?_ | refine EvQ.fin1 (fun _ => rfl) rfl ?_)
    exact PQ.bo rfl
/-- a page: an entry without fields -/
def pageE (a : List Nat) (n : Nat) : En := ⟨⟨[71, 69, 84], [104, 116, 116, 112], a, [47], [], 0⟩, ⟨0, [], 0⟩, List.replicate n 0, 0, 0⟩
theorem page_clo (a b : List Nat) : CloL2 [.one, .one, .one, .one, .sl [.one, .one], .one, .one, .sl [.one, .one], .one, .one, .one, .one] [.st [71, 69, 84], .st [104, 116, 116, 112], .st a, .st [47], .ns, .it .i64 (Int.ofNat 0), .it .i64 (Int.ofNat 0), .ns, .it .i64 (Int.ofNat 0), .st b, .it .i64 (Int.ofNat 0), .it .i64 (Int.ofNat 0)] [.st [71, 69, 84], .st [104, 116, 116, 112], .st a, .st [47], .vs 2 [], .it .i64 (Int.ofNat 0), .it .i64 (Int.ofNat 0), .vs 2 [], .it .i64 (Int.ofNat 0), .st b, .it .i64 (Int.ofNat 0), .it .i64 (Int.ofNat 0)] :=
  .cons (fun _ _ => rfl) (.cons (fun _ _ => rfl) (.cons (fun _ _ => rfl) (.cons (fun _ _ => rfl) (.cons (clo_ns [.one, .one]) (.cons (fun _ _ => rfl) (.cons (fun _ _ => rfl) (.cons (clo_ns [.one, .one]) (.cons (fun _ _ => rfl) (.cons (fun _ _ => rfl) (.cons (fun _ _ => rfl) (.cons (fun _ _ => rfl) .nil)))))))))))
set_option maxHeartbeats 8000000 in
theorem page_ok (a : List Nat) (n : Nat) (hn : n ≤ 1000) : EvP F 11 c11 [.st a, .it .i64 (Int.ofNat n)] [.ag (rowEn (pageE a n))] := by
  refine EvP.ofQ d11 rfl rfl rfl ?_
  have hS : ∀ hp, hget hp 0 = some ⟨1, false, List.replicate n [V.it .u8 (Int.ofNat 0)]⟩ → hp.lim ≤ 0 → 0 < hp.next → Sl hp (.hs 0 0 n) 1 (bs ((List.replicate n 0).map Int.ofNat)) := fun hp q1 q2 q3 => by
    have e : bs ((List.replicate n 0).map Int.ofNat) = List.replicate n [V.it .u8 (Int.ofNat 0)] := by
      rw [List.map_replicate]; unfold bs; rw [List.map_replicate]
    rw [e]
    exact .inr (.inr ⟨0, 0, false, _, by rw [List.length_replicate], q3, q2, q1, by simp, by rw [List.drop_zero, List.take_length]⟩)
  have ht : ∀ m, m ∈ List.replicate n 0 → m < 256 := fun m hm => by rw [List.eq_of_mem_replicate hm]; decide
  repeat' (first | refine EvQ.run ?_ | (refine EvQ.pickB rfl rfl rfl ?_) | (refine EvQ.cond rfl (fun h => ?_) (fun h => ?_) <;> ((first | replace h := X.nm h | skip); try have hne := ne_len h)) | (refine EvQ.g1 rfl (fun h => ?_) (fun h => ?_) <;> ((first | replace h := X.nm h | skip); try have hne := ne_len h)) | (refine EvQ.pick rfl (fun _ => rfl) (fun _ => rfl) (fun h => ?_) (fun h => ?_) <;> ((first | replace h := X.nm h | skip); try have hne := ne_len h)) | refine EvQ.fin X.rs ?_ | refine EvQ.fin1 (fun _ => rfl) rfl ?_)
  refine EvQ.lift (fun _ zn => X.b2s X.w (hS _ (hget_new _ _) (Nat.zero_le _) (Nat.zero_lt_succ _)) ht zn) ?_
  repeat' (first | refine EvQ.run ?_ | (refine EvQ.pickB rfl rfl rfl ?_) | (refine EvQ.cond rfl (fun h => ?_) (fun h => ?_) <;> ((first | replace h := X.nm h | skip); try have hne := ne_len h)) | (refine EvQ.g1 rfl (fun h => ?_) (fun h => ?_) <;> ((first | replace h := X.nm h | skip); try have hne := ne_len h)) | (refine EvQ.pick rfl (fun _ => rfl) (fun _ => rfl) (fun h => ?_) (fun h => ?_) <;> ((first | replace h := X.nm h | skip); try have hne := ne_len h)) | refine EvQ.fin X.rs ?_ | refine EvQ.fin1 (fun _ => rfl) rfl ?_)
  exact PQ.of (.gs2 (page_clo a (List.replicate n 0)) (.nil _))
end Go.Proofs.Ytddohjlkjakdlaa
