import Derived.Test.YtgofadnggipkpaaEvE
import Derived.Test.YtgofadnggipkpaaRdE
set_option linter.unusedVariables false
set_option linter.unusedSimpArgs false
set_option linter.unusedSectionVars false
-- (EvHp)
namespace Go.Proofs.Ytgofadnggipkpaa
open Go hiding Fn
open Ev tab
attribute [local irreducible] EvP EvD EvL EvC evGds evLs C.run sK bK gK pK fK lpB stepD

def L12 : C := d12.body.lps.getD 0 .skip

theorem same_loop (a b : List Int) (hl : a.length = b.length) (hb : a.length ≤ 10000000) : ∀ (m i : Nat) (st : St), i + m = a.length → (∀ j : Nat, j < i → a[j]?.getD 0 = b[j]?.getD 0) →
    [0, 1, 5].map (fun s => (s, st.tm s)) = [(0, .vs 1 (bs a)), (1, .vs 1 (bs b)), (5, .it .i64 (Int.ofNat i))] →
    (a = b → ∃ tm lo hp, EvL F [0, 1, 5] [] (lpB L12) st (.exit 0 ⟨tm, lo, hp⟩)) ∧ (a ≠ b → ∃ tm lo hp, EvL F [0, 1, 5] [] (lpB L12) st (.ret ⟨upd tm 4 (.bo false), lo, hp⟩)) := by
  intro m
  induction m with
  | zero =>
    intro i st hi hj hk
    have hab : a = b := by
      apply List.ext_getElem hl
      intro n h1 h2
      have := hj n (by omega)
      simpa [h1, h2] using this
    refine ⟨fun _ => ?_, fun h => absurd hab h⟩
    iterate 3 apply Exists.intro
    refine EvL.stop _ hk ?_ (fun s h => by cases h)
    refine X.run ?_
    exact EvD.done _
  | succ m ih =>
    intro i st hi hj hk
    by_cases he : a[i]?.getD 0 = b[i]?.getD 0
    · have step : ∃ tm lo hp, tm 0 = .vs 1 (bs a) ∧ tm 1 = .vs 1 (bs b) ∧ tm 5 = .it .i64 (Int.ofNat (i + 1)) ∧ ∀ r, EvL F [0, 1, 5] [] (lpB L12) ⟨tm, lo, hp⟩ r → EvL F [0, 1, 5] [] (lpB L12) st r := by
        iterate 3 apply Exists.intro
        refine ⟨?_, ?_, ?_, fun r h => EvL.go _ hk ?_ h⟩
        rotate_left 3
        · refine X.run ?_
          exact EvD.done _
        · rfl
        · rfl
        · exact wr_inc (by omega)
      obtain ⟨tm, lo, hp, e0, e1, e5, go⟩ := step
      obtain ⟨h1, h2⟩ := ih (i + 1) ⟨tm, lo, hp⟩ (by omega) (fun j hj' => by
        rcases Nat.lt_or_ge j i with q | q
        · exact hj j q
        · have : j = i := by omega
          subst this; exact he) (by simp [e0, e1, e5])
      refine ⟨fun h => ?_, fun h => ?_⟩
      · obtain ⟨t, l, p, q⟩ := h1 h
        exact ⟨t, l, p, go _ q⟩
      · obtain ⟨t, l, p, q⟩ := h2 h
        exact ⟨t, l, p, go _ q⟩
    · refine ⟨fun h => absurd (by rw [h]) he, fun _ => ?_⟩
      iterate 3 apply Exists.intro
      refine EvL.stop _ hk ?_ (fun s h => by cases h)
      refine X.run ?_
      exact EvD.done _

theorem same_ok (a b : List Int) (hb : a.length ≤ 10000000) : EvP F 12 c12 [.vs 1 (bs a), .vs 1 (bs b)] [.bo (decide (a = b))] := by
  by_cases hl : a.length = b.length
  · obtain ⟨h1, h2⟩ := same_loop a b hl hb a.length 0 ⟨tmOf [(0, .vs 1 (bs a)), (1, .vs 1 (bs b)), (5, .it .i64 (Int.ofNat 0))], fun _ => none, h0⟩ (by omega) (fun j h => by omega) (by rfl)
    by_cases hab : a = b
    · obtain ⟨tm, lo, hp, h⟩ := h1 hab
      rw [decide_eq_true hab]
      refine EvP.of d12 rfl rfl rfl (v := .bo _) (h := hp) (h' := hp) ?_ (.s (clo_bo _) (.nil _))
      refine X.fn ?_
      refine X.run ?_
      refine X.loop (h.congr rfl rfl rfl) ?_
      refine X.run ?_
      exact X.fin (fun _ => rfl) rfl rfl
    · obtain ⟨tm, lo, hp, h⟩ := h2 hab
      rw [decide_eq_false hab]
      refine EvP.of d12 rfl rfl rfl (v := .bo _) (h := hp) (h' := hp) ?_ (.s (clo_bo _) (.nil _))
      refine X.fn ?_
      refine X.run ?_
      refine X.loop (h.congr rfl rfl rfl) ?_
      refine X.run ?_
      exact X.fin (fun _ => rfl) rfl rfl
  · rw [decide_eq_false (fun h => hl (by rw [h]))]
    refine EvP.of d12 rfl rfl rfl (v := .bo _) (h := h0) (h' := h0) ?_ (.s (clo_bo _) (.nil _))
    refine X.fn ?_
    refine X.run ?_
    exact X.fin (fun _ => rfl) rfl rfl

def L18 : C := d18.body.lps.getD 0 .skip

theorem set_take {L : List Int} {i : Nat} {m : Int} (h : i < L.length) : (L.set i m).take (i + 1) = L.take i ++ [m] := by
  apply List.ext_getElem
  · simp; omega
  · intro n h1 h2
    simp only [List.length_append, List.length_take, List.length_cons, List.length_nil] at h2
    rcases Nat.lt_or_ge n i with q | q
    · rw [List.getElem_append_left (by simp; omega)]
      simp [List.getElem_set, Nat.ne_of_gt q]
    · have : n = i := by omega
      subst this
      rw [List.getElem_append_right (by simp; omega)]
      simp

theorem roomy_loop (N : Nat) (hN : N ≤ 20000000) (m : Int) : ∀ (k i : Nat) (L : List Int) (tm : Tm) (lo : Lo) (hp : Hp), i + k = N → L.length = N → hget hp 0 = some ⟨1, false, bs L⟩ → hp.lim = 0 →
    [1, 5, 6].map (fun s => (s, tm s)) = [(1, .it .u8 m), (5, .hs 0 0 N), (6, .it .i64 (Int.ofNat i))] →
    ∃ tm' lo' hp', EvL F [1, 5, 6] [] (lpB L18) ⟨tm, lo, hp⟩ (.exit 0 ⟨upd tm' 5 (.hs 0 0 N), lo', hp'⟩) ∧ hget hp' 0 = some ⟨1, false, bs (L.take i ++ List.replicate k m)⟩ ∧ hp'.lim = 0 := by
  intro k
  induction k with
  | zero =>
    intro i L tm lo hp hi hL hg hlim hk
    have go : ∃ tm' lo', tm' 5 = .hs 0 0 N ∧ EvL F [1, 5, 6] [] (lpB L18) ⟨tm, lo, hp⟩ (.exit 0 ⟨tm', lo', hp⟩) := by
      iterate 2 apply Exists.intro
      refine ⟨?_, EvL.stop _ hk ?_ (fun s h => by cases h)⟩
      rotate_left
      · refine X.run ?_
        exact EvD.done _
      · rfl
    obtain ⟨tm', lo', e5, h⟩ := go
    refine ⟨tm', lo', hp, by rw [upd_self e5]; exact h, ?_, hlim⟩
    rw [hg, List.take_of_length_le (by omega)]; simp
  | succ k ih =>
    intro i L tm lo hp hi hL hg hlim hk
    have hiL : i < L.length := by omega
    have step : ∃ tm' lo' hp', tm' 1 = .it .u8 m ∧ tm' 5 = .hs 0 0 N ∧ tm' 6 = .it .i64 (Int.ofNat (i + 1)) ∧ hget hp' 0 = some ⟨1, false, bs (L.set i m)⟩ ∧ hp'.lim = 0 ∧
        ∀ r, EvL F [1, 5, 6] [] (lpB L18) ⟨tm', lo', hp'⟩ r → EvL F [1, 5, 6] [] (lpB L18) ⟨tm, lo, hp⟩ r := by
      iterate 3 apply Exists.intro
      refine ⟨?_, ?_, ?_, ?_, ?_, fun r h => EvL.go _ hk ?_ h⟩
      rotate_left 5
      · refine X.run ?_
        exact EvD.done _
      · rfl
      · rfl
      · exact wr_inc (by omega)
      · rw [hget_set]
        simp [bs, List.map_set, over]
        rfl
      · exact hlim
    obtain ⟨tm', lo', hp', e1, e5, e6, hg', hlim', go⟩ := step
    obtain ⟨t, l, p, q1, q2, q3⟩ := ih (i + 1) (L.set i m) tm' lo' hp' (by omega) (by simp [hL]) hg' hlim' (by simp [e1, e5, e6])
    refine ⟨t, l, p, go _ q1, ?_, q3⟩
    rw [q2, set_take hiL]
    simp [List.replicate_succ]

theorem roomy_ok (l : List Int) (m : Int) (hl : l.length ≤ 10000000) : EvO F 18 c18 [.vs 1 (bs l), .it .u8 m] 1 (bs (l ++ List.replicate 80 m)) := by
  let L0 : List Int := l ++ List.replicate 80 0
  let hpa : Hp := hset (hnew h0 ⟨1, false, List.replicate ((bs l).length + 80) [.it .u8 0]⟩) 0 (some ⟨1, false, bs l ++ (List.replicate ((bs l).length + 80) [.it .u8 0]).drop (bs l).length⟩)
  have e0 : bs l ++ (List.replicate ((bs l).length + 80) [V.it .u8 0]).drop (bs l).length = bs L0 := by
    simp only [L0, bs, List.map_append, List.length_map, List.drop_replicate, List.map_replicate]
    congr 2; omega
  have hga : hget hpa 0 = some ⟨1, false, bs L0⟩ := by
    simp only [hpa, hget_set, e0]
  obtain ⟨tm, lo, hp, h, hg, hlim⟩ := roomy_loop ((bs l).length + 80) (by rw [bs_length]; omega) m 80 l.length L0 (tmOf [(1, .it .u8 m), (5, .hs 0 0 ((bs l).length + 80)), (6, .it .i64 (Int.ofNat (bs l).length))]) (fun _ => none) hpa
    (by rw [bs_length]) (by simp [L0, bs_length]) hga rfl (by simp only [bs_length]; rfl)
  have ef : L0.take l.length ++ List.replicate 80 m = l ++ List.replicate 80 m := by simp [L0]
  rw [ef] at hg
  refine EvO.of d18 (ts := [.one]) rfl rfl rfl rfl (id := 0) (i := 0) (len := (bs l).length + 80) (h := hp) (es := bs (l ++ List.replicate 80 m)) ?_ hg (by omega) (by simp [bs_length]) (by rw [List.drop_zero]; apply List.take_of_length_le; simp [bs_length]) (bs_clo _) (by simp [depth, bs_length]; omega)
  refine X.fn ?_
  refine X.run ?_
  refine X.loop (h.congr rfl rfl rfl) ?_
  refine X.run ?_
  exact X.fin (fun _ => rfl) rfl rfl

def L22 : C := d22.body.lps.getD 0 .skip

theorem intact_loop (l : List Int) (m : Int) (hN : l.length ≤ 20000000) : ∀ (k i : Nat) (tm : Tm) (lo : Lo) (hp : Hp), i + k = l.length → (∀ j : Nat, i ≤ j → j < l.length → l[j]?.getD 0 = m) →
    [0, 2, 7].map (fun s => (s, tm s)) = [(0, .vs 1 (bs l)), (2, .it .u8 m), (7, .it .i64 (Int.ofNat i))] →
    ∃ tm' lo' hp', EvL F [0, 2, 7] [] (lpB L22) ⟨tm, lo, hp⟩ (.exit 0 ⟨tm', lo', hp'⟩) := by
  intro k
  induction k with
  | zero =>
    intro i tm lo hp hi hL hk
    iterate 3 apply Exists.intro
    refine EvL.stop _ hk ?_ (fun s h => by cases h)
    refine X.run ?_
    exact EvD.done _
  | succ k ih =>
    intro i tm lo hp hi hL hk
    have he := hL i (Nat.le_refl _) (by omega)
    have step : ∃ tm' lo' hp', tm' 0 = .vs 1 (bs l) ∧ tm' 2 = .it .u8 m ∧ tm' 7 = .it .i64 (Int.ofNat (i + 1)) ∧
        ∀ r, EvL F [0, 2, 7] [] (lpB L22) ⟨tm', lo', hp'⟩ r → EvL F [0, 2, 7] [] (lpB L22) ⟨tm, lo, hp⟩ r := by
      iterate 3 apply Exists.intro
      refine ⟨?_, ?_, ?_, fun r h => EvL.go _ hk ?_ h⟩
      rotate_left 3
      · refine X.run ?_
        exact EvD.done _
      · rfl
      · rfl
      · exact wr_inc (by omega)
    obtain ⟨tm', lo', hp', e1, e5, e6, go⟩ := step
    obtain ⟨t, l', p, q1⟩ := ih (i + 1) tm' lo' hp' (by omega) (fun j h1 h2 => hL j (by omega) h2) (by simp [e1, e5, e6])
    exact ⟨t, l', p, go _ q1⟩

theorem intact_ok (l : List Int) (m : Int) (hl : l.length ≤ 10000000) : EvP F 22 c22 [.vs 1 (bs (l ++ List.replicate 80 m)), .vs 1 (bs l), .it .u8 m] [.bo true] := by
  obtain ⟨tm, lo, hp, h⟩ := intact_loop (l ++ List.replicate 80 m) m (by simp; omega) 80 (bs l).length (tmOf [(0, .vs 1 (bs (l ++ List.replicate 80 m))), (2, .it .u8 m), (7, .it .i64 (Int.ofNat (bs l).length))]) (fun _ => none) h0
    (by simp [bs_length]) (fun j h1 h2 => by
      rw [bs_length] at h1
      rw [List.getElem?_append_right h1, List.getElem?_replicate]
      simp at h2
      rw [if_pos (by omega)]; rfl) (by rfl)
  refine EvP.of d22 rfl rfl rfl (v := .bo _) (h := hp) (h' := hp) ?_ (.s (clo_bo _) (.nil _))
  have es : ((bs (l ++ List.replicate 80 m)).drop 0).take (bs l).length = bs l := by
    rw [List.drop_zero, bs_take, bs_length, List.take_left]
  refine X.fn ?_
  refine X.run ?_
  refine X.pcall (same_ok l l (by omega)) (.s (clo_vs [.one] _) (.s (clo_vs [.one] _) (.nil _))) (by show [V.vs 1 (((bs (l ++ List.replicate 80 m)).drop 0).take (bs l).length), V.vs 1 (bs l)] = _; rw [es]) rfl rfl ?_
  rw [decide_eq_true (Eq.refl l)]
  refine X.run ?_
  refine X.loop (h.congr rfl rfl rfl) ?_
  refine X.run ?_
  exact X.fin (fun _ => rfl) rfl rfl

end Go.Proofs.Ytgofadnggipkpaa
