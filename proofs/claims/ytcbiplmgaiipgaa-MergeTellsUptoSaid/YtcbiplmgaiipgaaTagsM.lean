import Derived.Test.YtcbiplmgaiipgaaEvE
import Derived.Test.YtcbiplmgaiipgaaSameM
set_option linter.unusedVariables false
set_option linter.unusedSimpArgs false
-- MergeTags: the plain law
namespace Go.Proofs.Ytcbiplmgaiipgaa
open Go hiding Fn
open Ev tab

/-- a byte that a tag may have -/
def tagC (c : Nat) : Bool := decide (33 ≤ c) && (decide (c ≤ 126) && (!decide (c = 34) && !decide (c = 92)))
def tagOK (s : List Nat) : Prop := ∀ c, c ∈ s → tagC c = true
theorem tagC_ne {c : Nat} (h : tagC c = true) : 33 ≤ c ∧ c ≤ 126 ∧ c ≠ 34 ∧ c ≠ 92 := by
  simp [tagC] at h; omega
theorem quo_clean : ∀ (a r : List Nat) (i : Nat), (∀ c, c ∈ a → c ≠ 34 ∧ c ≠ 92) → quoGo (a ++ 34 :: r) i = some (i + a.length + 1)
  | [], r, i, _ => by rw [List.nil_append, quoGo.eq_def]; simp
  | c :: a, r, i, h => by
    obtain ⟨h1, h2⟩ := h c (by simp)
    have := quo_clean a r (i + 1) (fun d hd => h d (by simp [hd]))
    rw [List.cons_append]
    unfold quoGo
    rw [if_neg h2, if_neg h1, this, List.length_cons]
    congr 1; omega
theorem getD_mid (p r : List Nat) (c : Nat) : (p ++ c :: r).getD p.length 0 = c := by simp [List.getD]
theorem drop_mid (p r : List Nat) (c : Nat) : (p ++ c :: r).drop (p.length + 1) = r := by
  rw [show p ++ c :: r = (p ++ [c]) ++ r by simp, show p.length + 1 = (p ++ [c]).length by simp, List.drop_left]
/-- past a quoted text -/
theorem spl_quo {s p a r : List Nat} {n i f : Nat} {acc : List (List Nat)} (hs : s = p ++ 34 :: (a ++ 34 :: r)) (hi : i = p.length) (ha : ∀ c, c ∈ a → c ≠ 34 ∧ c ≠ 92) (hn : s.length - i < n) : splGo n s i f acc = splGo (n - 1) s (i + a.length + 2) f acc := by
  have hl : i < s.length := by rw [hs, hi]; simp
  rw [splGo_at hl hn, hs, hi, getD_mid, if_neg (by decide), if_pos rfl, drop_mid, quo_clean a r _ ha]
  have e : p.length + 1 + a.length + 1 = p.length + a.length + 2 := by omega
  simp only [e]
/-- past a byte of no meaning -/
theorem spl_one {s p r : List Nat} {c n i f : Nat} {acc : List (List Nat)} (hs : s = p ++ c :: r) (hi : i = p.length) (h1 : c ≠ 34) (h2 : c ≠ 44) (hn : s.length - i < n) : splGo n s i f acc = splGo (n - 1) s (i + 1) f acc := by
  have hl : i < s.length := by rw [hs, hi]; simp
  rw [splGo_at hl hn, hs, hi, getD_mid, if_neg h2, if_neg h1]
/-- past a comma -/
theorem spl_com {s p r : List Nat} {n i f : Nat} {acc : List (List Nat)} (hs : s = p ++ 44 :: r) (hi : i = p.length) (hn : s.length - i < n) : splGo n s i f acc = splGo (n - 1) s (i + 1) (i + 1) (putS acc ((s.drop f).take (i - f))) := by
  have hl : i < s.length := by rw [hs, hi]; simp
  rw [splGo_at hl hn, hs, hi, getD_mid, if_pos rfl]
theorem trim_id {s : List Nat} (h1 : blankB (s.getD 0 0) = false) (h2 : blankB (s.getD (s.length - 1) 0) = false) : trimS s = s := by
  by_cases h : s = []
  · subst h; rfl
  · unfold trimS
    have e : s.dropWhile blankB = s := by
      cases s with
      | nil => rfl
      | cons c r => rw [List.dropWhile_cons]; simp at h1; simp [h1]
    rw [e]
    have := snoc_of h
    rw [← this, trimR_stop h2, this]
/-- an element of its own: what begins and ends with no blank -/
theorem put_id {acc : List (List Nat)} {s : List Nat} (h : s ≠ []) (h1 : blankB (s.getD 0 0) = false) (h2 : blankB (s.getD (s.length - 1) 0) = false) : putS acc s = acc ++ [s] := by
  unfold putS
  rw [trim_id h1 h2, if_neg h]

/-- a tag in quotes, a W/ ahead of it or not -/
def qt (a : List Nat) : List Nat := 34 :: (a ++ [34])
def wq (w : Bool) (a : List Nat) : List Nat := if w then [87, 47] ++ qt a else qt a
def noneS : List Nat := [34, 110, 111, 110, 101, 32, 111, 102, 32, 116, 104, 101, 115, 101, 32, 34, 44, 32]
theorem wq_ne (w : Bool) (a : List Nat) : wq w a ≠ [] := by unfold wq qt; cases w <;> simp
theorem wq_first (w : Bool) (a : List Nat) : blankB ((wq w a).getD 0 0) = false := by unfold wq qt; cases w <;> rfl
theorem last_snoc (l : List Nat) (c : Nat) : (l ++ [c]).getD ((l ++ [c]).length - 1) 0 = c := by simp [List.getD]
theorem wq_last (w : Bool) (a : List Nat) : blankB ((wq w a).getD ((wq w a).length - 1) 0) = false := by
  have e : wq w a = (if w then 87 :: 47 :: 34 :: a else 34 :: a) ++ [34] := by unfold wq qt; cases w <;> simp
  rw [e, last_snoc]; rfl
/-- the text of a tag is passed whole -/
theorem spl_wq {s p r a : List Nat} {w : Bool} {n i f : Nat} {acc : List (List Nat)} (hs : s = p ++ (wq w a ++ r)) (hi : i = p.length) (ha : ∀ c, c ∈ a → c ≠ 34 ∧ c ≠ 92) (hn : s.length - i < n) : ∃ m, splGo n s i f acc = splGo m s (i + (wq w a).length) f acc ∧ s.length - (i + (wq w a).length) < m := by
  cases w with
  | false =>
    refine ⟨n - 1, ?_, ?_⟩
    · rw [spl_quo (p := p) (a := a) (r := r) (by rw [hs]; simp [wq, qt]) hi ha hn]
      congr 1
      simp [wq, qt]; omega
    · simp [wq, qt]
      have : s.length = p.length + (a.length + 2 + r.length) := by rw [hs]; simp [wq, qt]; omega
      omega
  | true =>
    have hl : s.length = p.length + (a.length + 4 + r.length) := by rw [hs]; simp [wq, qt]; omega
    refine ⟨n - 1 - 1 - 1, ?_, ?_⟩
    · rw [spl_one (p := p) (c := 87) (r := 47 :: (qt a ++ r)) (by rw [hs]; simp [wq]) hi (by decide) (by decide) hn,
        spl_one (p := p ++ [87]) (c := 47) (r := qt a ++ r) (by rw [hs]; simp [wq]) (by simp [hi]) (by decide) (by decide) (by omega),
        spl_quo (p := p ++ [87, 47]) (a := a) (r := r) (by rw [hs]; simp [wq, qt]) (by simp [hi]) ha (by omega)]
      congr 1
      simp [wq, qt]; omega
    · simp [wq, qt]; omega
theorem spl_tag (w : Bool) (a : List Nat) (ha : ∀ c, c ∈ a → c ≠ 34 ∧ c ≠ 92) : splS (wq w a) = some [wq w a] := by
  unfold splS
  obtain ⟨m, h1, h2⟩ := spl_wq (s := wq w a) (p := []) (r := []) (w := w) (a := a) (n := (wq w a).length + 1) (i := 0) (f := 0) (acc := []) (by simp) rfl ha (by omega)
  rw [h1, splGo_end (by omega) (by omega)]
  simp only [List.drop_zero, Nat.sub_zero, List.take_length]
  rw [put_id (wq_ne w a) (wq_first w a) (wq_last w a)]; rfl
theorem spl_none (w : Bool) (a : List Nat) (ha : ∀ c, c ∈ a → c ≠ 34 ∧ c ≠ 92) : splS (noneS ++ wq w a) = some [noneS.take 16, wq w a] := by
  unfold splS
  have hl : (noneS ++ wq w a).length = 18 + (wq w a).length := by rw [List.length_append]; rfl
  rw [spl_quo (i := 0) (p := []) (a := (noneS.drop 1).take 14) (r := [44, 32] ++ wq w a) (by rfl) rfl (by decide) (by omega)]
  show splGo _ _ 16 0 [] = _
  rw [spl_com (i := 16) (p := noneS.take 16) (r := 32 :: wq w a) (by rfl) (by rfl) (by omega)]
  have e1 : putS [] (((noneS ++ wq w a).drop 0).take (16 - 0)) = [noneS.take 16] := by
    rw [List.drop_zero, List.take_append_of_le_length (by decide)]; decide
  rw [e1, spl_one (i := 17) (p := noneS.take 17) (c := 32) (r := wq w a) (by rfl) (by rfl) (by decide) (by decide) (by omega)]
  obtain ⟨m, h1, h2⟩ := spl_wq (s := noneS ++ wq w a) (p := noneS) (r := []) (w := w) (a := a) (n := (noneS ++ wq w a).length + 1 - 1 - 1 - 1) (i := 18) (f := 17) (acc := [noneS.take 16]) (by simp) rfl ha (by omega)
  rw [h1, splGo_end (by omega) (by omega)]
  have e2 : ((noneS ++ wq w a).drop 17).take ((noneS ++ wq w a).length - 17) = 32 :: wq w a := by
    rw [List.take_of_length_le (by rw [List.length_drop]; exact Nat.le_refl _)]; rfl
  rw [e2]
  have e3 : trimS (32 :: wq w a) = wq w a := by
    have := trim_id (wq_first w a) (wq_last w a)
    unfold trimS at this ⊢
    exact this
  unfold putS
  rw [e3, if_neg (wq_ne w a)]; rfl
theorem strong_wq (w : Bool) (a : List Nat) : strongS (wq w a) = qt a := by
  unfold strongS cutS preB wq qt
  cases w <;> simp
theorem qt_inj {a b : List Nat} : qt a = qt b ↔ a = b := by simp [qt]
theorem all_one (n v : List Nat) : allF [(n, v)] n = v ∧ valsF [(n, v)] n = [v] := by
  have : valsF [(n, v)] n = [v] := by simp [valsF]
  exact ⟨by unfold allF; rw [this]; rfl, this⟩
theorem sameS_one (x s : List Nat) : sameS [(sEtag, x)] [(sInm, s)] = ((splS s).getD []).any (hitB (some x)) := by
  obtain ⟨h1, h2⟩ := all_one sInm s
  obtain ⟨h3, h4⟩ := all_one sEtag x
  have hh : hasF [(sInm, s)] sInm = true := by unfold hasF; rw [h2]; rfl
  have ho : onlyF [(sEtag, x)] sEtag = some x := by unfold onlyF; rw [h4, h3]; rfl
  unfold sameS
  rw [hh, if_pos rfl, h1, ho]
theorem hit_wq (v w : Bool) (a b : List Nat) : hitB (some (wq v a)) (wq w b) = decide (a = b) := by
  unfold hitB
  rw [show decide (wq w b = [42]) = false from decide_eq_false (by unfold wq qt; cases w <;> simp), strong_wq]
  show (false || (true && decide (qt b = strongS (wq v a)))) = _
  rw [strong_wq, Bool.false_or, Bool.true_and]
  by_cases h : a = b
  · subst h; simp
  · rw [decide_eq_false h, decide_eq_false]; intro e; exact h (qt_inj.1 e).symm
theorem tags_law (v w : Bool) (a b : List Nat) (ha : tagOK a) (hb : tagOK b) : sameS [(sEtag, wq v a)] [(sInm, wq w b)] = decide (a = b) ∧ sameS [(sEtag, wq v a)] [(sInm, noneS ++ wq w b)] = decide (a = b) ∧
    sameS [(sEtag, wq v a)] [(sInm, [42])] = true ∧ sameS [(sEtag, wq v a)] [(sInm, [])] = false := by
  have hb' : ∀ c, c ∈ b → c ≠ 34 ∧ c ≠ 92 := fun c hc => by have := tagC_ne (hb c hc); omega
  refine ⟨?_, ?_, ?_, ?_⟩
  · rw [sameS_one, spl_tag w b hb']
    show (hitB _ _ || false) = _
    rw [hit_wq, Bool.or_false]
  · rw [sameS_one, spl_none w b hb']
    show (hitB _ _ || (hitB _ _ || false)) = _
    rw [hit_wq, Bool.or_false]
    have : hitB (some (wq v a)) (noneS.take 16) = false := by
      unfold hitB
      show (false || (true && decide (strongS (noneS.take 16) = strongS (wq v a)))) = _
      rw [strong_wq, Bool.false_or, Bool.true_and]
      refine decide_eq_false fun e => ?_
      have e2 : qt ((noneS.drop 1).take 14) = qt a := e
      have := ha 32 (by rw [← qt_inj.1 e2]; decide)
      exact absurd this (by decide)
    rw [this, Bool.false_or]
  · rw [sameS_one]
    show (hitB _ [42] || false) = true
    rfl
  · rw [sameS_one]; rfl
end Go.Proofs.Ytcbiplmgaiipgaa
