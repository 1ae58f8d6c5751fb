import Derived.Test.YtcbiplmgaiipgaaEvE
import Derived.Test.YtcbiplmgaiipgaaHead
set_option linter.unusedVariables false
set_option linter.unusedSimpArgs false
set_option linter.unusedSectionVars false
-- requests
namespace Go.Proofs.Ytcbiplmgaiipgaa
open Go hiding Fn
open Ev tab
attribute [local irreducible] EvD EvL EvC evGds evLs C.run sK bK gK pK fK lpB stepD

def sConnect : List Nat := [67, 79, 78, 78, 69, 67, 84]
def sHttp : List Nat := [104, 116, 116, 112]
def sHttps : List Nat := [104, 116, 116, 112, 115]
def sOptions : List Nat := [79, 80, 84, 73, 79, 78, 83]
def rightB (h : Hd) : Bool := tokenB h.m && (!decide (h.m = sConnect) && ((decide (h.s = sHttp) || decide (h.s = sHttps)) && (!decide (h.a = []) && (!decide (h.p = []) && (decide (h.p.getD 0 0 = 47) || (decide (h.p = [42]) && decide (h.m = sOptions)))))))
def rowR (h : Hd) : List V := [.st h.m, .st h.s, .st h.a, .st h.p, .vs 2 [], .it .i64 0]
set_option maxHeartbeats 16000000 in
theorem right_ok (h : Hd) (hm : Txt h.m) (hml : h.m.length ≤ 100000000) : EvP F 65 c65 [.ag (rowR h)] [.bo (rightB h)] := by
  obtain ⟨m, s, a, p⟩ := h
  have ct := token_ok m hm hml
  show EvP F 65 c65 [.ag [.st m, .st s, .st a, .st p, .vs 2 [], .it .i64 0]] _
  refine EvP.of d65 rfl rfl rfl (v := .bo _) (h := h0) (h' := h0) ?_ (.s (clo_bo _) (.nil _))
  refine X.fn ?_
  cases ht : tokenB m with
  | false =>
    rw [ht] at ct
    rw [show rightB ⟨m, s, a, p⟩ = false by simp [rightB, ht]]
    refine X.run ?_
    refine X.pcall (ct) X.c rfl rfl rfl ?_
    refine X.run ?_
    exact X.fin (fun _ => rfl) rfl rfl
  | true =>
    rw [ht] at ct
    by_cases e1 : m = sConnect
    · have b1 : beqL m [67, 79, 78, 78, 69, 67, 84] = true := by rw [beqLD]; exact decide_eq_true e1
      rw [show rightB ⟨m, s, a, p⟩ = false by simp [rightB, e1]]
      refine X.run ?_
      refine X.pcall (ct) X.c rfl rfl rfl ?_
      refine X.run ?_
      exact X.fin (fun _ => rfl) rfl rfl
    · have b1 : beqL m [67, 79, 78, 78, 69, 67, 84] = false := by rw [beqLD]; exact decide_eq_false e1
      by_cases e2 : s = sHttp ∨ s = sHttps
      · by_cases e3 : a = []
        · have b3 : beqL a [] = true := by rw [beqLD]; exact decide_eq_true e3
          rw [show rightB ⟨m, s, a, p⟩ = false by simp [rightB, e3]]
          rcases e2 with rfl | rfl
          all_goals
            refine X.run ?_
            refine X.pcall (ct) X.c rfl rfl rfl ?_
            refine X.run ?_
            exact X.fin (fun _ => rfl) rfl rfl
        · have b3 : beqL a [] = false := by rw [beqLD]; exact decide_eq_false e3
          by_cases e4 : p = []
          · have b4 : beqL p [] = true := by rw [beqLD]; exact decide_eq_true e4
            rw [show rightB ⟨m, s, a, p⟩ = false by simp [rightB, e4]]
            rcases e2 with rfl | rfl
            all_goals
              refine X.run ?_
              refine X.pcall (ct) X.c rfl rfl rfl ?_
              refine X.run ?_
              exact X.fin (fun _ => rfl) rfl rfl
          · have b4 : beqL p [] = false := by rw [beqLD]; exact decide_eq_false e4
            have hp0 : 0 < p.length := List.length_pos_iff.2 e4
            obtain ⟨c, hc⟩ : ∃ c, p.getD 0 0 = c := ⟨_, rfl⟩
            have hr : rightB ⟨m, s, a, p⟩ = (decide (c = 47) || (decide (p = [42]) && decide (m = sOptions))) := by
              simp only [rightB, ht, e1, e3, e4, hc, decide_false, Bool.not_false, Bool.true_and]
              rcases e2 with h | h <;> simp [h]
            rw [hr]
            by_cases e5 : c = 47
            · subst e5
              rcases e2 with rfl | rfl
              all_goals
                refine X.run ?_
                refine X.pcall (ct) X.c rfl rfl rfl ?_
                refine X.run ?_
                exact X.fin (fun _ => rfl) rfl rfl
            · have b5 : ieq (Int.ofNat c) (Int.ofNat 47) = false := by rw [ieqD]; exact decide_eq_false (by simp; omega)
              by_cases e6 : p = [42]
              · have b6 : beqL p [42] = true := by rw [beqLD]; exact decide_eq_true e6
                rcases e2 with rfl | rfl
                all_goals
                  refine X.run ?_
                  refine X.pcall (ct) X.c rfl rfl rfl ?_
                  refine X.run ?_
                  refine X.fin (fun _ => rfl) (congrArg V.bo ?_) rfl
                  show beqL m [79, 80, 84, 73, 79, 78, 83] = _
                  rw [beqLD, Bool.eq_iff_iff]; simp [e5, e6, sOptions]
                  exact decide_eq_true_iff.symm
              · have b6 : beqL p [42] = false := by rw [beqLD]; exact decide_eq_false e6
                rcases e2 with rfl | rfl
                all_goals
                  refine X.run ?_
                  refine X.pcall (ct) X.c rfl rfl rfl ?_
                  refine X.run ?_
                  refine X.fin (fun _ => rfl) (congrArg V.bo ?_) rfl
                  simp [e5, e6]
      · have b2 : (!(beqL s [104, 116, 116, 112])) = true := by rw [beqLD, decide_eq_false (show ¬ s = [104, 116, 116, 112] from fun q => e2 (.inl q))]; rfl
        have b2' : (!(beqL s [104, 116, 116, 112, 115])) = true := by rw [beqLD, decide_eq_false (show ¬ s = [104, 116, 116, 112, 115] from fun q => e2 (.inr q))]; rfl
        rw [show rightB ⟨m, s, a, p⟩ = false by
          simp only [not_or] at e2
          simp [rightB, e2.1, e2.2]]
        refine X.run ?_
        refine X.pcall (ct) X.c rfl rfl rfl ?_
        refine X.run ?_
        exact X.fin (fun _ => rfl) rfl rfl

theorem putH_txt {h h' : Hd} {f : Fld} (hp : putH h f = some h') (h1 : Txt h.m ∧ h.m.length ≤ 100000000) (h2 : Txt f.2 ∧ f.2.length ≤ 100000000) : Txt h'.m ∧ h'.m.length ≤ 100000000 := by
  unfold putH at hp
  split at hp
  · cases hp; exact h2
  · split at hp
    · cases hp; exact h1
    · split at hp
      · cases hp; exact h1
      · split at hp
        · cases hp; exact h1
        · cases hp
theorem headGo_txt : ∀ (l : List Fld) (seen : List (List Nat)) (h h' : Hd), FOK l → headGo seen h l = some h' → (Txt h.m ∧ h.m.length ≤ 100000000) → Txt h'.m ∧ h'.m.length ≤ 100000000
  | [], seen, h, h', _, e, ht => by simp only [headGo, Option.some.injEq] at e; subst e; exact ht
  | f :: r, seen, h, h', hl, e, ht => by
    simp only [headGo] at e
    split at e
    · cases e
    · split at e
      · rename_i h1 hp
        have q := hl.2 f (by simp)
        exact headGo_txt r _ h1 h' ⟨by have := hl.1; simp at this; omega, fun g hg => hl.2 g (by simp [hg])⟩ e (putH_txt hp ht ⟨q.2.1, q.2.2.2⟩)
      · cases e

def kOf (l : List Fld) : Nat := (l.takeWhile colonB).length
theorem kOf_is (l : List Fld) : ∀ k, k ≤ l.length → (∀ j (hj : j < l.length), j < k → colonB l[j] = true) → (∀ hk : k < l.length, colonB l[k] = false) → k = kOf l := by
  induction l with
  | nil => intro k h _ _; simp at h; subst h; rfl
  | cons f r ih =>
    intro k h h1 h2
    cases k with
    | zero =>
      have := h2 (by simp)
      simp only [List.getElem_cons_zero] at this
      simp [kOf, List.takeWhile, this]
    | succ k =>
      have hf := h1 0 (by simp) (by omega)
      simp only [List.getElem_cons_zero] at hf
      have := ih k (by simp at h; omega) (fun j hj hjk => by have := h1 (j + 1) (by simp; omega) (by omega); simpa using this) (fun hk => by have := h2 (by simp; omega); simpa using this)
      simp only [kOf, List.takeWhile, hf, List.length_cons]
      rw [this]; rfl
theorem kOf_le (l : List Fld) : kOf l ≤ l.length := (List.takeWhile_prefix colonB).length_le

/-- what a request is told of -/
def reqF (l : List Fld) : Option (Hd × List Fld × Int) :=
  match headS (l.take (kOf l)) with
  | none => none
  | some h => if rightB h && restB (l.drop (kOf l)) then some (h, restL (l.drop (kOf l)), restN (l.drop (kOf l))) else none
def rowQ : Option (Hd × List Fld × Int) → List V
  | none => [.st [], .st [], .st [], .st [], .vs 2 [], .it .i64 0]
  | some (h, fs, n) => [.st h.m, .st h.s, .st h.a, .st h.p, .vs 2 (fds fs), .it .i64 n]
def zRow : List V := [.st [], .st [], .st [], .st [], .ns, .it .i64 0]
theorem zRow_clo : CloL2 [.one, .one, .one, .one, .sl [.one, .one], .one] zRow (rowQ none) := .cons (fun _ _ => rfl) (.cons (fun _ _ => rfl) (.cons (fun _ _ => rfl) (.cons (fun _ _ => rfl) (.cons (clo_ns [.one, .one]) (.cons (fun _ _ => rfl) .nil)))))
theorem rowH_clo (h : Hd) : CloL2 [.one, .one, .one, .one, .sl [.one, .one], .one] (rowH h) (rowR h) := .cons (fun _ _ => rfl) (.cons (fun _ _ => rfl) (.cons (fun _ _ => rfl) (.cons (fun _ _ => rfl) (.cons (clo_ns [.one, .one]) (.cons (fun _ _ => rfl) .nil)))))
def L21 : C := d21.body.lps.getD 0 .skip
set_option maxHeartbeats 4000000 in
theorem req_loop (l : List Fld) (hl : FOK l) : ∃ tm lo, EvL F [0, 2, 4] [] (lpB L21) ⟨tmOf [(0, .vs 2 (fds l)), (2, .lp 2 0), (4, .it .i64 (Int.ofNat 0))], lset (fun _ => none) 2 zRow, h0⟩ (.exit 0 ⟨tm, lo, h0⟩) ∧ lo 2 = some zRow ∧ tm 0 = .vs 2 (fds l) ∧ tm 2 = .lp 2 0 ∧ tm 4 = .it .i64 (Int.ofNat (kOf l)) := by
  have hlen := fds_length l
  have hll := hl.1
  have loop : ∃ r, EvL F [0, 2, 4] [] (lpB L21) ⟨tmOf [(0, .vs 2 (fds l)), (2, .lp 2 0), (4, .it .i64 (Int.ofNat 0))], lset (fun _ => none) 2 zRow, h0⟩ r ∧
      (∃ tm lo, r = .exit 0 ⟨tm, lo, h0⟩ ∧ lo 2 = some zRow ∧ tm 0 = .vs 2 (fds l) ∧ tm 2 = .lp 2 0 ∧ tm 4 = .it .i64 (Int.ofNat (kOf l))) := by
    refine EvL.inv (S := Nat) (fun i => [(0, .vs 2 (fds l)), (2, .lp 2 0), (4, .it .i64 (Int.ofNat i))]) (fun i lo hp => hp = h0 ∧ lo 2 = some zRow ∧ i ≤ l.length ∧ ∀ j (hj : j < l.length), j < i → colonB l[j] = true) (fun i => l.length - i) _ ?_ 0 _ _ h0 ⟨rfl, rfl, by omega, fun j _ h => by omega⟩ rfl
    intro i lo hp ⟨e, e2, h1, h2⟩
    subst e
    have e2' : shed [] lo 2 = some zRow := e2
    by_cases h : i < l.length
    · have hg := fds_getD h
      have hc := colon_ok l[i]
      cases hb : colonB l[i] with
      | true =>
        rw [hb] at hc
        left
        iterate 3 apply Exists.intro
        refine ⟨i + 1, ?_, ?_, ⟨?_, ?_, h, fun j hj hji => ?_⟩, by omega⟩
        · refine X.run ?_
          refine X.pcall (hc) X.c rfl rfl rfl ?_
          refine X.run ?_
          exact EvD.done _
        · exact X.kv
        · rfl
        · exact e2
        · rcases Nat.lt_or_ge j i with q | q
          · exact h2 j hj q
          · have : j = i := by omega
            subst this; exact hb
      | false =>
        rw [hb] at hc
        have hk := kOf_is l i h1 h2 (fun _ => hb)
        right
        apply EvL.endE
        · refine X.run ?_
          refine X.pcall (hc) X.c rfl rfl rfl ?_
          refine X.run ?_
          exact EvD.done _
        · exact ⟨_, _, rfl, e2, rfl, rfl, by rw [← hk]; rfl⟩
    · have hk := kOf_is l i h1 h2 (fun q => absurd q h)
      right
      apply EvL.endE
      · refine X.run ?_
        exact EvD.done _
      · exact ⟨_, _, rfl, e2, rfl, rfl, by rw [← hk]; rfl⟩
  obtain ⟨r, hL, tm, lo, rfl, a, b, c, d⟩ := loop
  exact ⟨tm, lo, hL, a, b, c, d⟩
end Go.Proofs.Ytcbiplmgaiipgaa
