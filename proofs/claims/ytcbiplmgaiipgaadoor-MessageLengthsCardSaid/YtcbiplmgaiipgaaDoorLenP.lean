import Derived.Test.YtcbiplmgaiipgaaDoorEvE
import Derived.Test.YtcbiplmgaiipgaaDoorResp
import Derived.Test.YtcbiplmgaiipgaaDoorEvF
set_option linter.unusedVariables false
set_option linter.unusedSimpArgs false
set_option linter.unusedSectionVars false
-- MessageLengths: the plain law
namespace Go.Proofs.YtcbiplmgaiipgaaDoor
open Go hiding Fn
open Ev tab
theorem numAcc_app (a : List Nat) (c : Nat) : ∀ n, numAcc n (a ++ [c]) = 10 * numAcc n a + (c - 48) := by
  induction a with
  | nil => intro n; rfl
  | cons x a ih => intro n; exact ih _
def decN (u : Nat) : List Nat := (Lib.decDigits u).map UInt8.toNat
theorem decN_small {u : Nat} (h : u < 10) : decN u = [48 + u] := by
  unfold decN
  rw [Lib.decDigits, dif_pos h]
  simp only [List.map_cons, List.map_nil, List.cons.injEq, and_true]
  rw [UInt8.toNat_ofNat_of_lt' (by show 48 + u < 256; omega)]
theorem decN_big {u : Nat} (h : ¬ u < 10) : decN u = decN (u / 10) ++ [48 + u % 10] := by
  unfold decN
  conv => lhs; rw [Lib.decDigits, dif_neg h]
  rw [List.map_append]
  congr 1
  simp only [List.map_cons, List.map_nil, List.cons.injEq, and_true]
  rw [UInt8.toNat_ofNat_of_lt' (by show 48 + u % 10 < 256; omega)]
theorem decN_all (u : Nat) : (decN u).all digB = true := by
  induction u using Nat.strongRecOn with
  | _ u ih =>
    by_cases h : u < 10
    · rw [decN_small h]
      simp only [List.all_cons, List.all_nil, Bool.and_true, digB, decide_eq_true_eq]
      omega
    · rw [decN_big h, List.all_append, ih (u / 10) (by omega)]
      simp only [List.all_cons, List.all_nil, Bool.and_true, Bool.true_and, digB, decide_eq_true_eq]
      omega
theorem decN_acc (u : Nat) : numAcc 0 (decN u) = u := by
  induction u using Nat.strongRecOn with
  | _ u ih =>
    by_cases h : u < 10
    · rw [decN_small h]
      show 10 * 0 + (48 + u - 48) = u
      omega
    · rw [decN_big h, numAcc_app, ih (u / 10) (by omega)]
      omega
theorem decN_len (u k : Nat) : u < 10 ^ (k + 1) → 1 ≤ (decN u).length ∧ (decN u).length ≤ k + 1 := by
  induction k generalizing u with
  | zero =>
    intro h
    rw [decN_small (by simpa using h)]
    exact ⟨Nat.le_refl _, Nat.le_refl _⟩
  | succ k ih =>
    intro h
    by_cases h2 : u < 10
    · rw [decN_small h2]
      exact ⟨Nat.le_refl _, by simp⟩
    · have := ih (u / 10) (by rw [Nat.pow_succ] at h; omega)
      rw [decN_big h2, List.length_append]
      simp only [List.length_cons, List.length_nil]
      omega
theorem numF_dec {u : Nat} (h : u < 1000000000) : numF (decN u) = u := by
  have := decN_len u 8 (by simpa using h)
  unfold numF
  rw [if_neg (by omega), if_pos (decN_all u), decN_acc]
theorem itoaL_nat {u : Nat} (h : u < 1000000000) : itoaL (u : Int) = decN u := by
  rw [itoaL_eq _ (by show u ≤ _; omega)]
  unfold Lib.itoa decN
  rw [if_neg (by omega), Int.toNat_natCast]
theorem dig_plain {c : Nat} (h : digB c = true) : plainB c = true ∧ blankB c = false := by
  simp only [digB, decide_eq_true_eq] at h
  have h1 : ¬ c = 127 := by omega
  have h2 : ¬ c = 32 := by omega
  have h3 : ¬ c = 9 := by omega
  have h4 : 32 ≤ c := by omega
  simp [plainB, blankB, h1, h2, h3, h4]
theorem value_dig {s : List Nat} (h : s.all digB = true) : valueB s = true := by
  rw [List.all_eq_true] at h
  cases s with
  | nil => rfl
  | cons x r =>
    have hp : (x :: r).all plainB = true := List.all_eq_true.2 fun c hc => (dig_plain (h c hc)).1
    have hm : ∀ i, i < (x :: r).length → blankB ((x :: r).getD i 0) = false := fun i hi => by
      rw [List.getD, List.getElem?_eq_getElem hi]
      exact (dig_plain (h _ (List.getElem_mem hi))).2
    unfold valueB
    rw [hp, hm 0 (by simp), hm _ (by simp)]
    rfl
def fX : Fld := ([120], [121])
def v200 : List Nat := [50, 48, 48]
theorem fpl_cl {v : List Nat} (hv : valueB v = true) : fplB (sCl, v) = true := by
  have h1 : namedB sCl = true := by decide
  have h2 : hopB sCl = false := by decide
  have h3 : decide (sCl = sTe) = false := by decide
  show (namedB sCl && (valueB v && (!hopB sCl && (!decide (sCl = sTe) || decide (v = sTrailers))))) = true
  rw [h1, hv, h2, h3]; rfl
theorem fpl_x : fplB fX = true := by decide
theorem col_cl (v : List Nat) : colonB (sCl, v) = false := by
  show (decide (0 < sCl.length) && decide (sCl.getD 0 0 = 58)) = false
  decide
theorem col_x : colonB fX = false := by decide
theorem stat_200 : statB (sStatus, v200) = true := by decide
theorem num_200 : numF v200 = 200 := by decide
theorem res_200 (r : List Fld) : resF ((sStatus, v200) :: r) = if restB r = true then some (200, restL r, restN r) else none := by
  rw [resF_cons, stat_200, Bool.true_and, num_200]
section
variable {a b : List Nat} {m n : Nat} (ha : numF a = m) (hb : numF b = n) (va : valueB a = true) (vb : valueB b = true)
include ha hb in
theorem len_3 : lenGo (-1) [(sCl, a), fX, (sCl, b)] = if m = n then some (n : Int) else none := by
  have hx : ¬ (fX.1 = sCl) := by decide
  simp only [lenGo, if_true, ha, hb, hx, if_false]
  rw [if_neg (by omega)]
  by_cases h : m = n
  · rw [if_neg (by omega), if_pos h]
  · rw [if_pos (by omega), if_neg h]
include ha in
theorem len_2 : lenGo (-1) [(sCl, a), fX] = some (m : Int) := by
  have hx : ¬ (fX.1 = sCl) := by decide
  simp only [lenGo, if_true, ha, hx, if_false]
  rw [if_neg (by omega)]
include va vb ha hb in
theorem res_4 : resF [(sStatus, v200), (sCl, a), fX, (sCl, b)] = if m = n then some (200, [(sCl, a), fX, (sCl, b)], (m : Int)) else none := by
  have hc : ([(sCl, a), fX, (sCl, b)] : List Fld).any colonB = false := by
    rw [List.any_cons, List.any_cons, List.any_cons, col_cl, col_x, col_cl]; rfl
  have hp : plainF [(sCl, a), fX, (sCl, b)] = true := by
    unfold plainF
    rw [List.all_cons, List.all_cons, List.all_cons, fpl_cl va, fpl_x, fpl_cl vb]; rfl
  rw [res_200]
  unfold restB restL restN lenB lenN
  rw [hc, hp, len_3 ha hb]
  by_cases h : m = n
  · subst h; simp
  · simp [h]
include va ha in
theorem res_3 : resF [(sStatus, v200), (sCl, a), fX] = some (200, [(sCl, a), fX], (m : Int)) := by
  have hc : ([(sCl, a), fX] : List Fld).any colonB = false := by
    rw [List.any_cons, List.any_cons, col_cl, col_x]; rfl
  have hp : plainF [(sCl, a), fX] = true := by
    unfold plainF
    rw [List.all_cons, List.all_cons, fpl_cl va, fpl_x]; rfl
  rw [res_200]
  unfold restB restL restN lenB lenN
  rw [hc, hp, len_2 ha]
  simp
end
theorem res_1 : resF [(sStatus, v200)] = some (200, [], -1) := by
  rw [res_200]; rfl
theorem res_2 {c : List Nat} (h : 9 < c.length) : resF [(sStatus, v200), (sCl, c)] = none := by
  have hn : numF c = -1 := by unfold numF; rw [if_pos (.inr h)]
  have hl : lenGo (-1) [(sCl, c)] = none := by
    simp only [lenGo, if_true, hn]
    rw [if_pos (by omega)]
  rw [res_200, if_neg]
  unfold restB lenB
  rw [hl]
  simp
theorem itoa5_ok (n : Int) (h : n.natAbs ≤ 9000000000000000000) : EvP F 5 itoaFn [.it .i64 n] [.st (itoaL n)] := by
  refine ⟨rfl, rfl, rfl, .st (itoaL n), h0, h0, ⟨0, fun L k _ _ => ?_⟩, .s (clo_st _) (.nil _)⟩
  show run (callF F L k) L (.chk (Nat.ble n.natAbs 9000000000000000000) (.done (.ret ⟨fun _ => .st (itoaL n), fun _ => none, h0⟩))) = _
  rw [show Nat.ble n.natAbs 9000000000000000000 = true from Nat.ble_eq_true_of_le h]
  rfl
theorem decN_txt (u : Nat) : Txt (decN u) := fun c hc => by
  have := List.all_eq_true.1 (decN_all u) c hc
  simp only [digB, decide_eq_true_eq] at this
  omega
end Go.Proofs.YtcbiplmgaiipgaaDoor
