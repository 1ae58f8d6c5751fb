import Derived.Test.YtgofadnggipkpaaEvE
import Derived.Test.YtgofadnggipkpaaRlC
import Derived.Test.YtgofadnggipkpaaRsA
set_option linter.unusedVariables false
set_option linter.unusedSimpArgs false
set_option linter.unusedSectionVars false
-- FrameReads: what the loop calls (EvHp EvOwn)
namespace Go.Proofs.Ytgofadnggipkpaa.rf
open Go hiding Fn
open Ev tab rl
attribute [local irreducible] EvP EvD EvL EvC evGds evLs C.run sK bK gK pK fK lpB stepD
theorem closeCs_fr {hp hp1 : Hp} {a b c : Int} {pv : V} {p : List Int} (h : ∀ n, p.length + 5 ≤ n → closeC n (.sl [.one]) pv hp = some (.vs 1 (bs p), hp1)) : ∀ n, p.length + 10 ≤ n →
    closeCs n [.one, .one, .one, .sl [.one]] [.it .i64 a, .it .i64 b, .it .i64 c, pv] hp = some (fr a b c p, hp1) := by
  intro n hn
  obtain ⟨m, rfl⟩ : ∃ m, n = m + 1 + 1 + 1 + 1 + 1 := ⟨n - 5, by omega⟩
  have i1 : ∀ (k : Nat) (x : Int) (hp : Hp), closeC (k + 1) .one (.it .i64 x) hp = some (.it .i64 x, hp) := fun _ _ _ => rfl
  simp only [closeCs, i1, h (m + 1) (by omega)]
  rfl
theorem closeEs_fr : ∀ (rows : List (List V)) (fs : List Frm) (hp : Hp), FrR hp 0 rows fs → ∃ hp', Ez hp hp' ∧ ∀ n, frsz fs + 10 ≤ n → closeEs n [.one, .one, .one, .sl [.one]] rows hp = some (frs fs, hp') := by
  intro rows
  induction rows with
  | nil =>
    intro fs hp h
    cases h
    refine ⟨hp, .refl _, fun n hn => ?_⟩
    cases n with
    | zero => omega
    | succ n => rfl
  | cons row rows ih =>
    intro fs hp h
    cases h with
    | cons hb _ hr =>
      obtain ⟨hp1, z1, -, c1⟩ := close_byk hb
      obtain ⟨hp2, z2, c2⟩ := ih _ hp1 (hr.mono1 z1.to1)
      refine ⟨hp2, z1.trans z2, fun n hn => ?_⟩
      simp only [frsz] at hn
      cases n with
      | zero => omega
      | succ n =>
        simp only [closeEs, closeCs_fr c1 n (by omega), c2 n (by omega)]
        rfl
theorem close_frc {hp : Hp} {v : V} {fs : List Frm} (h : FrC hp v fs) : ∃ hp', Ez hp hp' ∧ ∀ n, frsz fs + 12 ≤ n → closeC n (.sl [.one, .one, .one, .sl [.one]]) v hp = some (.vs 4 (frs fs), hp') := by
  rcases h with ⟨rfl, rfl⟩ | ⟨id, f, rows, rfl, q2, q3, q4⟩
  · refine ⟨hp, .refl _, fun n hn => ?_⟩
    cases n with
    | zero => omega
    | succ n => rfl
  · have hl := q4.length
    have z0 : Ez hp (hset hp id (some ⟨4, true, rows⟩)) := .freeze q3 (by decide)
    obtain ⟨hp2, z2, c2⟩ := closeEs_fr rows fs _ (q4.mono1 z0.to1)
    refine ⟨hp2, z0.trans z2, fun n hn => ?_⟩
    cases n with
    | zero => omega
    | succ n =>
      have hlt : Nat.blt id hp.lim = false := by rw [bltD]; simp; omega
      have hq2 : Nat.ble (0 + fs.length) rows.length = true := by rw [bleD]; simp [hl]
      have hfz : Ev.freeze hp id = hset hp id (some ⟨4, true, rows⟩) := by unfold Ev.freeze; rw [q3]
      have ht : (rows.drop 0).take fs.length = rows := by rw [List.drop_zero]; apply List.take_of_length_le; omega
      simp only [closeC, q3, hlt, cond_false, hq2, hfz, cond_true, ht, c2 n (by omega)]
      rfl
theorem left_ok {hp : Hp} {Q : Nat} {most sc co : Int} {pre : List Nat} {bv : V} {buf : List Int} (hg : RdO hp Q most pre bv sc co) (hB : By hp bv buf) : EvC F false 15 [.pt Q 0 0] hp (.ret (.it .i64 (Int.ofNat buf.length)) hp) := by
  have hg : hget (⟨hp.next, hp.next, hp.tr⟩ : Hp) Q = some ⟨6, false, [rowR most pre bv sc co]⟩ := hg
  have hlen := hB.len
  have hlp := hB.lp
  refine EvC.ofRoQ d15 rfl rfl rfl ?_ rfl
  repeat (first | refine EvQ.run ?_ | refine EvQ.fin X.rs ?_ | refine EvQ.fin1 (fun _ => rfl) rfl ?_)
  exact ⟨_, rfl⟩
def L16 : C := d16.body.lps.getD 0 .skip
theorem frs_length (l : List Frm) : (frs l).length = l.length := by simp [frs]
theorem frs_getD {l : List Frm} {j : Nat} (h : j < l.length) : (frs l).getD j [] = fr (l[j]).1 (l[j]).2.1 (l[j]).2.2.1 (l[j]).2.2.2 := by
  simp [frs, List.getD, h]
theorem sameF_loop (a : List Frm) (hb : a.length ≤ 10000000) (hp : ∀ f, f ∈ a → f.2.2.2.length ≤ 10000000) : ∀ (m i : Nat) (tm : Tm) (lo : Lo) (hp : Hp), i + m = a.length →
    [0, 1, 5].map (fun s => (s, tm s)) = [(0, .vs 4 (frs a)), (1, .vs 4 (frs a)), (5, .it .i64 (Int.ofNat i))] →
    ∃ tm' lo' hp', EvL F [0, 1, 5] [] (lpB L16) ⟨tm, lo, hp⟩ (.exit 0 ⟨tm', lo', hp'⟩) := by
  intro m
  induction m with
  | zero =>
    intro i tm lo hpp hi hk
    have hfl := frs_length a
    iterate 3 apply Exists.intro
    refine EvL.stop _ hk ?_ (fun s h => by cases h)
    refine X.run ?_
    exact EvD.done _
  | succ m ih =>
    intro i tm lo hpp hi hk
    have hfl := frs_length a
    have hia : i < a.length := by omega
    have hg : (frs a).getD i [] = fr (a[i]).1 (a[i]).2.1 (a[i]).2.2.1 (a[i]).2.2.2 := frs_getD hia
    have hpl := hp a[i] (List.getElem_mem hia)
    generalize a[i] = f at hg hpl
    obtain ⟨ty, fl, s, p⟩ := f
    simp only at hg hpl
    have step : ∃ tm' lo' hp', tm' 0 = .vs 4 (frs a) ∧ tm' 1 = .vs 4 (frs a) ∧ tm' 5 = .it .i64 (Int.ofNat (i + 1)) ∧ ∀ r, EvL F [0, 1, 5] [] (lpB L16) ⟨tm', lo', hp'⟩ r → EvL F [0, 1, 5] [] (lpB L16) ⟨tm, lo, hpp⟩ r := by
      iterate 3 apply Exists.intro
      refine ⟨?_, ?_, ?_, fun r h => EvL.go _ hk ?_ h⟩
      rotate_left 3
      · refine X.run ?_
        refine X.pcall (same_ok p p hpl) (.s (clo_vs [.one] _) (.s (clo_vs [.one] _) (.nil _))) rfl rfl rfl ?_
        rw [decide_eq_true (Eq.refl p)]
        refine X.run ?_
        exact EvD.done _
      · rfl
      · rfl
      · exact wr_inc (by omega)
    obtain ⟨tm', lo', hp', e0, e1, e5, go⟩ := step
    obtain ⟨t, l, p, q⟩ := ih (i + 1) tm' lo' hp' (by omega) (by simp [e0, e1, e5])
    exact ⟨t, l, p, go _ q⟩
theorem sameF_ok (a : List Frm) (hb : a.length ≤ 10000000) (hp : ∀ f, f ∈ a → f.2.2.2.length ≤ 10000000) : EvP F 16 d16.den [.vs 4 (frs a), .vs 4 (frs a)] [.bo true] := by
  obtain ⟨tm, lo, hpp, h⟩ := sameF_loop a hb hp a.length 0 (tmOf [(0, .vs 4 (frs a)), (1, .vs 4 (frs a)), (5, .it .i64 (Int.ofNat 0))]) (fun _ => none) h0 (by omega) rfl
  refine EvP.of d16 rfl rfl rfl (v := .bo _) (h := hpp) (h' := hpp) ?_ (.s (clo_bo _) (.nil _))
  refine X.fn ?_
  refine X.run ?_
  refine X.loop (h.congr rfl rfl rfl) ?_
  refine X.run ?_
  exact X.fin (fun _ => rfl) rfl rfl
theorem feedM_frsz (most : Int) : ∀ (n : Nat) (b : List Int), frsz (feedM most n b).1 ≤ 2 * b.length ∧ (feedM most n b).1.length ≤ b.length ∧ ∀ f, f ∈ (feedM most n b).1 → f.2.2.2.length ≤ b.length := by
  intro n
  induction n with
  | zero => intro b; simp [feedM, frsz]
  | succ n ih =>
    intro b
    by_cases c1 : b.length < 9
    · simp [feedM, c1, frsz]
    by_cases c2 : most < nOf b
    · simp [feedM, c1, c2, frsz]
    by_cases c3 : (b.length : Int) < 9 + nOf b
    · simp [feedM, c1, c2, c3, frsz]
    have h := ih (b.drop (9 + (nOf b).toNat))
    simp only [List.length_drop] at h
    have hd : ((b.drop 9).take (nOf b).toNat).length ≤ (nOf b).toNat ∧ ((b.drop 9).take (nOf b).toNat).length ≤ b.length - 9 := by simp; omega
    simp only [feedM, c1, c2, c3, if_false, frsz, List.mem_cons, List.length_cons]
    refine ⟨by omega, by omega, ?_⟩
    intro f hf
    rcases hf with rfl | hf
    · show ((b.drop 9).take (nOf b).toNat).length ≤ b.length
      omega
    · have := h.2.2 f hf
      omega
theorem cl : CL F where
  cf := { bad := feed_bad, gen := feed_gen, rf := rfl }
  roomy := fun l hl => (roomy_ok l 5 (by omega)).toP
  intact := fun l hl => intact_ok l 5 (by omega)
  same := sameF_ok
  left := left_ok
  close := close_frc
  fsz := fun most l => feedM_frsz most _ l
end Go.Proofs.Ytgofadnggipkpaa.rf
