import Derived.Test.YtcbiplmgaiipgaaEvE
import Derived.Test.YtcbiplmgaiipgaaMsg
set_option linter.unusedVariables false
set_option linter.unusedSimpArgs false
set_option linter.unusedSectionVars false
-- lengths, and the fields behind a head
namespace Go.Proofs.Ytcbiplmgaiipgaa
open Go hiding Fn
open Ev tab
attribute [local irreducible] EvD EvL EvC evGds evLs C.run sK bK gK pK fK lpB stepD

def digB (c : Nat) : Bool := decide (48 ≤ c ∧ c ≤ 57)
def numAcc (n : Nat) : List Nat → Nat
  | [] => n
  | c :: r => numAcc (10 * n + (c - 48)) r
def numF (s : List Nat) : Int := if s.length < 1 ∨ 9 < s.length then -1 else if s.all digB then (numAcc 0 s : Int) else -1
theorem numAcc_lt (s : List Nat) : ∀ (n k : Nat), s.all digB = true → n < 10 ^ k → numAcc n s < 10 ^ (k + s.length) := by
  induction s with
  | nil =>
    intro n k _ h
    rw [List.length_nil, Nat.add_zero]
    exact h
  | cons c r ih =>
    intro n k h hn
    rw [List.all_cons, Bool.and_eq_true] at h
    have hc : 48 ≤ c ∧ c ≤ 57 := of_decide_eq_true h.1
    have h1 : 10 * n + (c - 48) < 10 ^ (k + 1) := by
      rw [Nat.pow_succ]
      generalize 10 ^ k = p at hn
      omega
    have := ih (10 * n + (c - 48)) (k + 1) h.2 h1
    rw [List.length_cons, show k + (r.length + 1) = k + 1 + r.length by omega]
    exact this
theorem numAcc_take {s : List Nat} {i : Nat} (h : i < s.length) (n : Nat) : numAcc n (s.take (i + 1)) = 10 * numAcc n (s.take i) + (s.getD i 0 - 48) := by
  induction s generalizing n i with
  | nil => simp at h
  | cons c r ih =>
    cases i with
    | zero => rfl
    | succ i => exact ih (i := i) (Nat.lt_of_succ_lt_succ h) (10 * n + (c - 48))
theorem ten8 : ∀ k, k ≤ 8 → 10 ^ k ≤ 100000000
  | 0, _ | 1, _ | 2, _ | 3, _ | 4, _ | 5, _ | 6, _ | 7, _ | 8, _ => Nat.le_of_ble_eq_true rfl
  | k + 9, h => by omega
theorem numAcc8 {s : List Nat} (h : s.all digB = true) (hl : s.length ≤ 8) : numAcc 0 s < 100000000 := by
  have h1 := numAcc_lt s 0 0 h Nat.one_pos
  rw [Nat.zero_add] at h1
  exact Nat.lt_of_lt_of_le h1 (ten8 _ hl)
def L67 : C := d67.body.lps.getD 0 .skip
set_option maxHeartbeats 8000000 in
theorem number_ok (s : List Nat) (hs : Txt s) (hl : s.length ≤ 100000000) : EvP F 67 c67 [.st s] [.it .i64 (numF s)] := by
  by_cases h9 : s.length < 1 ∨ 9 < s.length
  · have e : numF s = -1 := by unfold numF; rw [if_pos h9]
    rw [e]
    refine EvP.of d67 rfl rfl rfl (v := .it .i64 _) (h := h0) (h' := h0) ?_ (.s (clo_it _ _) (.nil _))
    refine X.fn ?_
    rcases h9 with h9 | h9
    all_goals
      refine X.run ?_
      exact X.fin (fun _ => rfl) rfl rfl
  · have e : numF s = if s.all digB then (numAcc 0 s : Int) else -1 := by unfold numF; rw [if_neg h9]
    rw [e]
    have hle : s.length ≤ 9 := by omega
    have loop : ∀ (tm : Tm) (lo : Lo) (hp : Hp), [0, 3, 14, 15].map (fun s => (s, tm s)) = [(0, .st s), (3, .it .i64 0), (14, .it .i64 (Int.ofNat s.length)), (15, .it .i64 (Int.ofNat 0))] → ∃ r, EvL F [0, 3, 14, 15] [] (lpB L67) ⟨tm, lo, hp⟩ r ∧
        ((s.all digB = true ∧ ∃ tm lo hp, r = .exit 0 ⟨tm, lo, hp⟩ ∧ tm 3 = .it .i64 (Int.ofNat (numAcc 0 s))) ∨ (s.all digB = false ∧ ∃ tm lo hp, r = .ret ⟨tm, lo, hp⟩ ∧ tm 2 = .it .i64 (-1))) := by
      refine fun tm lo hp hk => EvL.inv (S := Nat) (fun i => [(0, .st s), (3, .it .i64 (Int.ofNat (numAcc 0 (s.take i)))), (14, .it .i64 (Int.ofNat s.length)), (15, .it .i64 (Int.ofNat i))]) (fun i _ _ => i ≤ s.length ∧ ∀ j, j < i → digB (s.getD j 0) = true) (fun i => s.length - i) _ ?_ 0 tm lo hp ⟨by omega, fun j h => by omega⟩ hk
      intro i lo hp ⟨h1, h2⟩
      by_cases h : i < s.length
      · have hta := numAcc_take h 0
        have hall : (s.take i).all digB = true := all_of fun j hj => by
          have hj' : j < i := by simp at hj; omega
          have := h2 j hj'
          have e : (s.take i).getD j 0 = s.getD j 0 := by simp [List.getD, List.getElem?_take_of_lt hj']
          rw [e]; exact this
        have hlt := numAcc8 hall (by simp; omega)
        have hno : ∀ b, digB (s.getD i 0) = b → b = false → s.all digB = false := fun b e e' => all_not h (e.trans e')
        have hyes : digB (s.getD i 0) = true → ∀ j, j < i + 1 → digB (s.getD j 0) = true := by
          intro hb j hji
          rcases Nat.lt_or_ge j i with q | q
          · exact h2 j q
          · rw [show j = i by omega]; exact hb
        have hc256 := hs.get i
        obtain ⟨n, hn⟩ : ∃ n, n = numAcc 0 (s.take i) := ⟨_, rfl⟩
        rw [← hn] at hta hlt
        show (∃ tm' lo' hp' s', EvD F (lpB L67 ⟨tmOf [(0, .st s), (3, .it .i64 (Int.ofNat (numAcc 0 (s.take i)))), (14, .it .i64 (Int.ofNat s.length)), (15, .it .i64 (Int.ofNat i))], shed [] lo, hp⟩) (.norm ⟨tm', lo', hp'⟩) ∧ _) ∨ (∃ r, EvD F (lpB L67 ⟨tmOf [(0, .st s), (3, .it .i64 (Int.ofNat (numAcc 0 (s.take i)))), (14, .it .i64 (Int.ofNat s.length)), (15, .it .i64 (Int.ofNat i))], shed [] lo, hp⟩) r ∧ _)
        rw [← hn]
        obtain ⟨c, hc⟩ : ∃ c, s.getD i 0 = c := ⟨_, rfl⟩
        rw [hc] at hta hno hyes hc256
        by_cases hd : 48 ≤ c ∧ c ≤ 57
        · have hd' : digB c = true := decide_eq_true hd
          obtain ⟨hd1, hd2⟩ := hd
          left
          iterate 3 apply Exists.intro
          refine ⟨i + 1, ?_, ?_, ⟨h, hyes hd'⟩, by omega⟩
          · refine X.run ?_
            exact EvD.done _
          · refine kvc rfl (kvc ?_ (kvc rfl (kvc (wr_inc (by omega)) rfl)))
            show V.it .i64 (wr .i64 (wr .i64 (10 * Int.ofNat n) + wr .i64 (wr .u8 (Int.ofNat c - Int.ofNat 48)))) = V.it .i64 (Int.ofNat (numAcc 0 (s.take (i + 1))))
            rw [hta, wr8 (by simp; omega) (by simp; omega), wr64 (n := 10 * Int.ofNat n) (by simp; omega) (by simp; omega), wr64 (n := Int.ofNat c - Int.ofNat 48) (by simp; omega) (by simp; omega), wr64 (by simp; omega) (by simp; omega)]
            congr 1
            simp; omega
        · have hd' : digB c = false := decide_eq_false hd
          rcases (by omega : c < 48 ∨ 57 < c ∧ 48 ≤ c) with q | q
          all_goals
            right
            apply EvL.endR
            · refine X.run ?_
              exact EvD.done _
            · exact .inr ⟨hno _ rfl hd', _, _, _, rfl, rfl⟩
      · right
        apply EvL.endE
        · refine X.run ?_
          exact EvD.done _
        · refine .inl ⟨all_of fun j hj => h2 j (by omega), _, _, _, rfl, ?_⟩
          show V.it .i64 (Int.ofNat (numAcc 0 (s.take i))) = _
          rw [List.take_of_length_le (by omega)]
    obtain ⟨r, hL, h | h⟩ := loop (tmOf [(0, .st s), (3, .it .i64 0), (14, .it .i64 (Int.ofNat s.length)), (15, .it .i64 (Int.ofNat 0))]) (fun _ => none) h0 rfl
    · obtain ⟨ha, tm, lo, hp, rfl, e0⟩ := h
      have hL := hL.pe e0
      rw [ha]
      refine EvP.of d67 rfl rfl rfl (v := .it .i64 _) (h := hp) (h' := hp) ?_ (.s (clo_it _ _) (.nil _))
      refine X.fn ?_
      refine X.run ?_
      refine X.loop (hL.congr rfl rfl rfl) ?_
      refine X.run ?_
      exact X.fin (fun _ => rfl) rfl rfl
    · obtain ⟨ha, tm, lo, hp, rfl, e0⟩ := h
      have hL := hL.pr e0
      rw [ha]
      refine EvP.of d67 rfl rfl rfl (v := .it .i64 _) (h := hp) (h' := hp) ?_ (.s (clo_it _ _) (.nil _))
      refine X.fn ?_
      refine X.run ?_
      refine X.loop (hL.congr rfl rfl rfl) ?_
      refine X.run ?_
      exact X.fin (fun _ => rfl) rfl rfl

def sCl : List Nat := [99, 111, 110, 116, 101, 110, 116, 45, 108, 101, 110, 103, 116, 104]
/-- what length fields say behind others -/
def lenGo (out : Int) : List Fld → Option Int
  | [] => some out
  | f :: r => if f.1 = sCl then (if numF f.2 < 0 ∨ (0 ≤ out ∧ numF f.2 ≠ out) then none else lenGo (numF f.2) r) else lenGo out r
def lenN (l : List Fld) : Int := (lenGo (-1) l).getD 0
def lenB (l : List Fld) : Bool := (lenGo (-1) l).isSome
def L94 : C := d94.body.lps.getD 0 .skip
set_option maxHeartbeats 16000000 in
theorem length_ok (l : List Fld) (hl : FOK l) : EvP F 94 c94 [.vs 2 (fds l)] [.it .i64 (lenN l), .bo (lenB l)] := by
  have hlen := fds_length l
  have hll := hl.1
  have loop : ∀ (tm : Tm) (lo : Lo) (hp : Hp), [4, 8, 9, 10].map (fun s => (s, tm s)) = [(4, .it .i64 (-1)), (8, .vs 2 (fds l)), (9, .it .i64 (Int.ofNat (fds l).length)), (10, .it .i64 (Int.ofNat 0))] → ∃ r, EvL F [4, 8, 9, 10] [6] (lpB L94) ⟨tm, lo, hp⟩ r ∧
      ((∃ n, lenGo (-1) l = some n ∧ ∃ tm lo hp, r = .exit 0 ⟨tm, lo, hp⟩ ∧ tm 4 = .it .i64 n) ∨ (lenGo (-1) l = none ∧ ∃ tm lo hp, r = .ret ⟨tm, lo, hp⟩ ∧ tm 2 = .it .i64 0 ∧ tm 3 = .bo false)) := by
    refine fun tm lo hp hk => EvL.inv (S := Nat × Int) (fun s => [(4, .it .i64 s.2), (8, .vs 2 (fds l)), (9, .it .i64 (Int.ofNat (fds l).length)), (10, .it .i64 (Int.ofNat s.1))]) (fun s _ _ => s.1 ≤ l.length ∧ lenGo s.2 (l.drop s.1) = lenGo (-1) l) (fun s => l.length - s.1) _ ?_ (0, -1) tm lo hp ⟨by simp, rfl⟩ hk
    intro ⟨i, out⟩ lo hp ⟨h1, h2⟩
    simp only at h1 h2
    by_cases h : i < l.length
    · have hg := fds_getD h
      obtain ⟨ft1, ft2, fl1, fl2⟩ := hl.get h
      rw [List.drop_eq_getElem_cons h] at h2
      revert hg ft1 ft2 fl1 fl2 h2
      generalize l[i] = f
      obtain ⟨nm, vl⟩ := f
      intro h2 hg ft1 ft2 fl1 fl2
      have cn := number_ok vl ft2 fl2
      by_cases hn : nm = sCl
      · subst hn
        simp only [lenGo, if_true] at h2
        obtain ⟨n, hne⟩ : ∃ n, numF vl = n := ⟨_, rfl⟩
        rw [hne] at h2 cn
        by_cases hlt : n < 0
        · right
          apply EvL.endR
          · refine X.run ?_
            refine X.pcall (cn) X.c rfl rfl rfl ?_
            refine X.run ?_
            exact EvD.done _
          · rw [if_pos (.inl hlt)] at h2
            exact .inr ⟨h2.symm, _, _, _, rfl, rfl, rfl⟩
        · by_cases ho : 0 ≤ out
          · by_cases hne2 : n = out
            · rw [if_neg (by omega)] at h2
              left
              iterate 3 apply Exists.intro
              refine ⟨(i + 1, n), ?_, ?_, ⟨h, h2⟩, by simp; omega⟩
              · refine X.run ?_
                refine X.pcall (cn) X.c rfl rfl rfl ?_
                refine X.run ?_
                exact EvD.done _
              · exact X.kv
            · rw [if_pos (.inr ⟨ho, hne2⟩)] at h2
              have hq : (!(ieq n out)) = true := by rw [ieqD, decide_eq_false hne2]; rfl
              right
              apply EvL.endR
              · refine X.run ?_
                refine X.pcall (cn) X.c rfl rfl rfl ?_
                refine X.run ?_
                exact EvD.done _
              · exact .inr ⟨h2.symm, _, _, _, rfl, rfl, rfl⟩
          · rw [if_neg (by omega)] at h2
            left
            iterate 3 apply Exists.intro
            refine ⟨(i + 1, n), ?_, ?_, ⟨h, h2⟩, by simp; omega⟩
            · refine X.run ?_
              refine X.pcall (cn) X.c rfl rfl rfl ?_
              refine X.run ?_
              exact EvD.done _
            · exact X.kv
      · simp only [lenGo, hn, if_false] at h2
        have hq : (!(beqL nm [99, 111, 110, 116, 101, 110, 116, 45, 108, 101, 110, 103, 116, 104])) = true := by
          rw [beqLD, decide_eq_false (show ¬ nm = [99, 111, 110, 116, 101, 110, 116, 45, 108, 101, 110, 103, 116, 104] from hn)]; rfl
        left
        iterate 3 apply Exists.intro
        refine ⟨(i + 1, out), ?_, ?_, ⟨h, h2⟩, by simp; omega⟩
        · refine X.run ?_
          exact EvD.done _
        · exact X.kv
    · right
      rw [List.drop_of_length_le (by omega)] at h2
      apply EvL.endE
      · refine X.run ?_
        exact EvD.done _
      · exact .inl ⟨out, h2.symm, _, _, _, rfl, rfl⟩
  obtain ⟨r, hL, h | h⟩ := loop (tmOf [(4, .it .i64 (-1)), (8, .vs 2 (fds l)), (9, .it .i64 (Int.ofNat (fds l).length)), (10, .it .i64 (Int.ofNat 0))]) (fun _ => none) h0 rfl
  · obtain ⟨n, ha, tm, lo, hp, rfl, e0⟩ := h
    have hL := hL.pe e0
    rw [show lenN l = n by rw [lenN, ha]; rfl, show lenB l = true by rw [lenB, ha]; rfl]
    refine EvP.of d94 rfl rfl rfl (v := .tu [.it .i64 n, .bo true]) (h := hp) (h' := hp) ?_ (.s (clo_it _ _) (.s (clo_bo _) (.nil _)))
    refine X.fn ?_
    refine X.run ?_
    refine X.loop (hL.congr rfl rfl rfl) ?_
    refine X.run ?_
    exact X.fin (fun _ => rfl) rfl rfl
  · obtain ⟨ha, tm, lo, hp, rfl, e0, e1⟩ := h
    have hL := (hL.pr e0).pr (d := 3) (v := .bo false) e1
    rw [show lenN l = 0 by rw [lenN, ha]; rfl, show lenB l = false by rw [lenB, ha]; rfl]
    refine EvP.of d94 rfl rfl rfl (v := .tu [.it .i64 0, .bo false]) (h := hp) (h' := hp) ?_ (.s (clo_it _ _) (.s (clo_bo _) (.nil _)))
    refine X.fn ?_
    refine X.run ?_
    refine X.loop (hL.congr rfl rfl rfl) ?_
    refine X.run ?_
    exact X.fin (fun _ => rfl) rfl rfl

/-- the fields behind a head -/
def restB (l : List Fld) : Bool := !(l.any colonB) && (plainF l && lenB l)
def restL (l : List Fld) : List Fld := if l.any colonB || !plainF l then [] else l
def restN (l : List Fld) : Int := if l.any colonB || !plainF l then 0 else lenN l
end Go.Proofs.Ytcbiplmgaiipgaa
