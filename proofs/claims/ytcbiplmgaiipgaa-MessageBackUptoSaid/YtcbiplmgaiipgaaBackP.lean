import Derived.Test.YtcbiplmgaiipgaaEvE
import Derived.Test.YtcbiplmgaiipgaaResp
set_option linter.unusedVariables false
set_option linter.unusedSimpArgs false
set_option linter.unusedSectionVars false
-- MessageBack: the plain law
namespace Go.Proofs.Ytcbiplmgaiipgaa
open Go hiding Fn
open Ev tab
def ValH (h : Hd) : Prop := valueB h.m = true ∧ valueB h.s = true ∧ valueB h.a = true ∧ valueB h.p = true
theorem putH_val {h h' : Hd} {f : Fld} (hp : putH h f = some h') (hv : ValH h) (hf : valueB f.2 = true) : ValH h' := by
  unfold putH at hp
  obtain ⟨a, b, c, d⟩ := hv
  split at hp
  · cases hp; exact ⟨hf, b, c, d⟩
  · split at hp
    · cases hp; exact ⟨a, hf, c, d⟩
    · split at hp
      · cases hp; exact ⟨a, b, hf, d⟩
      · split at hp
        · cases hp; exact ⟨a, b, c, hf⟩
        · cases hp
theorem headGo_val : ∀ (l : List Fld) (seen : List (List Nat)) (h h' : Hd), headGo seen h l = some h' → ValH h → ValH h'
  | [], _, h, h', e, hv => by simp only [headGo] at e; cases e; exact hv
  | f :: r, seen, h, h', e, hv => by
    simp only [headGo] at e
    split at e
    · cases e
    · rename_i hn
      have hf : valueB f.2 = true := by
        cases hq : valueB f.2 with
        | true => rfl
        | false => exact absurd (.inr hq) hn
      cases hq : putH h f with
      | none => rw [hq] at e; cases e
      | some h2 => rw [hq] at e; exact headGo_val r _ h2 h' e (putH_val hq hv hf)
def frB (h : Hd) : List Fld := [(sPath, h.p), (sMethod, h.m), (sAuth, h.a), (sScheme, h.s)]
theorem head_frB (h : Hd) (hv : ValH h) : headS (frB h) = some h := by
  have d1 : (sScheme = sMethod) = False := by simp [sScheme, sMethod]
  have d2 : (sAuth = sMethod) = False := by simp [sAuth, sMethod]
  have d3 : (sAuth = sScheme) = False := by simp [sAuth, sScheme]
  have d4 : (sPath = sMethod) = False := by simp [sPath, sMethod]
  have d5 : (sPath = sScheme) = False := by simp [sPath, sScheme]
  have d6 : (sPath = sAuth) = False := by simp [sPath, sAuth]
  have c1 : (sMethod = sScheme) = False := by simp [sScheme, sMethod]
  have c2 : (sMethod = sAuth) = False := by simp [sAuth, sMethod]
  have c3 : (sScheme = sAuth) = False := by simp [sAuth, sScheme]
  have c4 : (sMethod = sPath) = False := by simp [sPath, sMethod]
  have c5 : (sScheme = sPath) = False := by simp [sPath, sScheme]
  have c6 : (sAuth = sPath) = False := by simp [sPath, sAuth]
  obtain ⟨a, b, c, d⟩ := hv
  obtain ⟨m, s, au, p⟩ := h
  simp only at a b c d
  simp [headS, frB, headGo, putH, a, b, c, d, d1, d2, d3, d4, d5, d6, c1, c2, c3, c4, c5, c6, hd0]
theorem kOf_zero {r : List Fld} (h : r.any colonB = false) : kOf r = 0 := by
  cases r with
  | nil => rfl
  | cons g r =>
    simp only [List.any_cons, Bool.or_eq_false_iff] at h
    simp [kOf, List.takeWhile, h.1]
theorem rest_parts {L : List Fld} (h : restB L = true) : restL L = L ∧ L.any colonB = false := by
  simp only [restB, Bool.and_eq_true, Bool.not_eq_true'] at h
  obtain ⟨h1, h2, h3⟩ := h
  exact ⟨by unfold restL; rw [h1, h2]; rfl, h1⟩
theorem reqF_some {l : List Fld} {h : Hd} {fs : List Fld} {n : Int} (e : reqF l = some (h, fs, n)) : ValH h ∧ rightB h = true ∧ restB fs = true ∧ restL fs = fs ∧ restN fs = n ∧ fs.any colonB = false := by
  unfold reqF at e
  cases hs : headS (l.take (kOf l)) with
  | none => rw [hs] at e; cases e
  | some h' =>
    rw [hs] at e
    simp only at e
    split at e
    · rename_i hb
      simp only [Bool.and_eq_true] at hb
      obtain ⟨hb1, hb2⟩ := hb
      obtain ⟨r1, r2⟩ := rest_parts hb2
      rw [r1] at e
      cases e
      exact ⟨headGo_val _ _ _ _ hs ⟨by decide, by decide, by decide, by decide⟩, hb1, hb2, r1, rfl, r2⟩
    · cases e
theorem back_req {l : List Fld} {h : Hd} {fs : List Fld} {n : Int} (e : reqF l = some (h, fs, n)) : reqF (frB h ++ fs) = some (h, fs, n) := by
  obtain ⟨hv, hr, hb, hl, hn, hc⟩ := reqF_some e
  have e1 : kOf (frB h ++ fs) = 4 := by
    rw [kOf_append (show (frB h).all colonB = true by simp [frB, colonB, sPath, sMethod, sAuth, sScheme]), kOf_zero hc]; simp [frB]
  have e2 : (frB h ++ fs).take 4 = frB h := by simp [frB]
  have e3 : (frB h ++ fs).drop 4 = fs := by simp [frB]
  unfold reqF
  rw [e1, e2, e3, head_frB h hv]
  simp only [hr, hb, hl, hn, Bool.and_self, if_true]
/-- a status' three digits -/
def dg (k : Int) : List Nat := [48 + k.toNat / 100, 48 + k.toNat / 10 % 10, 48 + k.toNat % 10]
theorem numF_dg {k : Int} (h1 : 100 ≤ k) (h2 : k ≤ 599) : numF (dg k) = k := by
  obtain ⟨m, rfl⟩ : ∃ m : Nat, k = (m : Int) := ⟨k.toNat, by omega⟩
  have hm1 : 100 ≤ m := by omega
  have hm2 : m ≤ 599 := by omega
  unfold dg
  rw [Int.toNat_natCast]
  have e : numAcc 0 [48 + m / 100, 48 + m / 10 % 10, 48 + m % 10] = m := by
    show 10 * (10 * (10 * 0 + (48 + m / 100 - 48)) + (48 + m / 10 % 10 - 48)) + (48 + m % 10 - 48) = m
    omega
  have d1 : digB (48 + m / 100) = true := decide_eq_true (by omega)
  have d2 : digB (48 + m / 10 % 10) = true := decide_eq_true (by omega)
  have d3 : digB (48 + m % 10) = true := decide_eq_true (by omega)
  have d : ([48 + m / 100, 48 + m / 10 % 10, 48 + m % 10] : List Nat).all digB = true := by
    rw [List.all_cons, List.all_cons, List.all_cons, d1, d2, d3]; rfl
  have hl : ¬ (([48 + m / 100, 48 + m / 10 % 10, 48 + m % 10] : List Nat).length < 1 ∨ 9 < ([48 + m / 100, 48 + m / 10 % 10, 48 + m % 10] : List Nat).length) := by
    show ¬ (3 < 1 ∨ 9 < 3)
    omega
  unfold numF
  rw [if_neg hl, if_pos d, e]
theorem resF_some {l : List Fld} {k : Int} {fs : List Fld} {n : Int} (e : resF l = some (k, fs, n)) : 100 ≤ k ∧ k ≤ 599 ∧ k ≠ 101 ∧ restB fs = true ∧ restL fs = fs ∧ restN fs = n := by
  cases l with
  | nil => cases e
  | cons f r =>
    rw [resF_cons] at e
    split at e
    · rename_i hb
      simp only [Bool.and_eq_true, statB, decide_eq_true_eq, Bool.not_eq_true', decide_eq_false_iff_not] at hb
      obtain ⟨⟨a1, a2, a3, a4, a5⟩, hb2⟩ := hb
      obtain ⟨r1, r2⟩ := rest_parts hb2
      rw [r1] at e
      cases e
      exact ⟨a3, a4, a5, hb2, r1, rfl⟩
    · cases e
theorem back_res {l : List Fld} {k : Int} {fs : List Fld} {n : Int} (e : resF l = some (k, fs, n)) : resF ((sStatus, dg k) :: fs) = some (k, fs, n) := by
  obtain ⟨h1, h2, h3, hb, hl, hn⟩ := resF_some e
  rw [resF_cons, if_pos]
  · rw [numF_dg h1 h2, hl, hn]
  · rw [hb, Bool.and_true]
    simp only [statB, numF_dg h1 h2, Bool.and_eq_true, decide_eq_true_eq, Bool.not_eq_true', decide_eq_false_iff_not]
    exact ⟨trivial, rfl, h1, h2, h3⟩
end Go.Proofs.Ytcbiplmgaiipgaa
