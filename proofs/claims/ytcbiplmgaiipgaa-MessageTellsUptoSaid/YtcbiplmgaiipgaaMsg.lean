import Derived.Test.YtcbiplmgaiipgaaEvE
import Derived.Test.YtcbiplmgaiipgaaTok2
set_option linter.unusedVariables false
set_option linter.unusedSimpArgs false
set_option linter.unusedSectionVars false
-- fields that may be told
namespace Go.Proofs.Ytcbiplmgaiipgaa
open Go hiding Fn
open Ev tab
attribute [local irreducible] EvD EvL EvC evGds evLs C.run sK bK gK pK fK lpB stepD

/-- fields of bytes, not too long -/
def FOK (l : List Fld) : Prop := l.length ≤ 10000000 ∧ ∀ f, f ∈ l → Txt f.1 ∧ Txt f.2 ∧ f.1.length ≤ 100000000 ∧ f.2.length ≤ 100000000
theorem FOK.take {l : List Fld} (h : FOK l) (n : Nat) : FOK (l.take n) := ⟨by have := h.1; simp; omega, fun f hf => h.2 f (List.mem_of_mem_take hf)⟩
theorem FOK.drop {l : List Fld} (h : FOK l) (n : Nat) : FOK (l.drop n) := ⟨by have := h.1; simp; omega, fun f hf => h.2 f (List.mem_of_mem_drop hf)⟩
theorem FOK.get {l : List Fld} (h : FOK l) {i : Nat} (hi : i < l.length) : Txt l[i].1 ∧ Txt l[i].2 ∧ l[i].1.length ≤ 100000000 ∧ l[i].2.length ≤ 100000000 := h.2 _ (List.getElem_mem hi)

def sTe : List Nat := [116, 101]
def sTrailers : List Nat := [116, 114, 97, 105, 108, 101, 114, 115]
def fplB (f : Fld) : Bool := namedB f.1 && (valueB f.2 && (!hopB f.1 && (!decide (f.1 = sTe) || decide (f.2 = sTrailers))))
def plainF (l : List Fld) : Bool := l.all fplB
def L73 : C := d73.body.lps.getD 0 .skip
theorem allF_of {l : List Fld} {p : Fld → Bool} (h : ∀ j (hj : j < l.length), p l[j] = true) : l.all p = true := by
  rw [List.all_eq_true]
  intro x hx
  obtain ⟨i, hi, rfl⟩ := List.mem_iff_getElem.1 hx
  exact h i hi
theorem allF_not {l : List Fld} {p : Fld → Bool} {j : Nat} (hj : j < l.length) (h : p l[j] = false) : l.all p = false := by
  rw [List.all_eq_false]
  exact ⟨l[j], List.getElem_mem hj, by simp [h]⟩
set_option maxHeartbeats 16000000 in
theorem plain_ok (l : List Fld) (hl : FOK l) : EvP F 73 c73 [.vs 2 (fds l)] [.bo (plainF l)] := by
  have hlen := fds_length l
  have hll := hl.1
  have loop : ∀ (tm : Tm) (lo : Lo) (hp : Hp), [5, 6, 7].map (fun s => (s, tm s)) = [(5, .vs 2 (fds l)), (6, .it .i64 (Int.ofNat (fds l).length)), (7, .it .i64 (Int.ofNat 0))] → ∃ r, EvL F [5, 6, 7] [4] (lpB L73) ⟨tm, lo, hp⟩ r ∧
      ((plainF l = true ∧ ∃ tm lo hp, r = .exit 0 ⟨tm, lo, hp⟩) ∨ (plainF l = false ∧ ∃ tm lo hp, r = .ret ⟨tm, lo, hp⟩ ∧ tm 2 = .bo false)) := by
    refine fun tm lo hp hk => EvL.inv (S := Nat) (fun i => [(5, .vs 2 (fds l)), (6, .it .i64 (Int.ofNat (fds l).length)), (7, .it .i64 (Int.ofNat i))]) (fun i _ _ => i ≤ l.length ∧ ∀ j (hj : j < l.length), j < i → fplB l[j] = true) (fun i => l.length - i) _ ?_ 0 tm lo hp ⟨by omega, fun j _ h => by omega⟩ hk
    intro i lo hp ⟨h1, h2⟩
    by_cases h : i < l.length
    · have hg := fds_getD h
      obtain ⟨ft1, ft2, fl1, fl2⟩ := hl.get h
      have hno : ∀ b, fplB l[i] = b → b = false → plainF l = false := fun b e e' => allF_not h (e.trans e')
      have hyes : fplB l[i] = true → ∀ j (hj : j < l.length), j < i + 1 → fplB l[j] = true := by
        intro hb j hj hji
        rcases Nat.lt_or_ge j i with q | q
        · exact h2 j hj q
        · have : j = i := by omega
          subst this; exact hb
      revert hg ft1 ft2 fl1 fl2 hno hyes
      generalize l[i] = f
      obtain ⟨nm, vl⟩ := f
      intro hg ft1 ft2 fl1 fl2 hno hyes
      have cn := named_ok nm ft1 fl1
      have cv := value_ok vl fl2
      have ch := hop_ok nm
      cases hn : namedB nm with
      | false =>
        rw [hn] at cn
        right
        apply EvL.endR
        · refine X.run ?_
          refine X.pcall (cn) X.c rfl rfl rfl ?_
          refine X.run ?_
          exact EvD.done _
        · exact .inr ⟨hno _ rfl (by simp [fplB, hn]), _, _, _, rfl, rfl⟩
      | true =>
        rw [hn] at cn
        cases hv : valueB vl with
        | false =>
          rw [hv] at cv
          right
          apply EvL.endR
          · refine X.run ?_
            refine X.pcall (cn) X.c rfl rfl rfl ?_
            refine X.run ?_
            refine X.pcall (cv) X.c rfl rfl rfl ?_
            refine X.run ?_
            exact EvD.done _
          · exact .inr ⟨hno _ rfl (by simp [fplB, hn, hv]), _, _, _, rfl, rfl⟩
        | true =>
          rw [hv] at cv
          cases hh : hopB nm with
          | true =>
            rw [hh] at ch
            right
            apply EvL.endR
            · refine X.run ?_
              refine X.pcall (cn) X.c rfl rfl rfl ?_
              refine X.run ?_
              refine X.pcall (cv) X.c rfl rfl rfl ?_
              refine X.run ?_
              refine X.pcall (ch) X.c rfl rfl rfl ?_
              refine X.run ?_
              exact EvD.done _
            · exact .inr ⟨hno _ rfl (by simp [fplB, hn, hv, hh]), _, _, _, rfl, rfl⟩
          | false =>
            rw [hh] at ch
            by_cases ht : nm = sTe
            · subst ht
              by_cases hr : vl = sTrailers
              · subst hr
                left
                iterate 3 apply Exists.intro
                refine ⟨i + 1, ?_, ?_, ⟨h, hyes (by simp [fplB, hn, hv, hh])⟩, by omega⟩
                · refine X.run ?_
                  refine X.pcall (cn) X.c rfl rfl rfl ?_
                  refine X.run ?_
                  refine X.pcall (cv) X.c rfl rfl rfl ?_
                  refine X.run ?_
                  refine X.pcall (ch) X.c rfl rfl rfl ?_
                  refine X.run ?_
                  exact EvD.done _
                · exact X.kv
              · have br : (!(beqL vl [116, 114, 97, 105, 108, 101, 114, 115])) = true := by rw [beqLD, decide_eq_false (show ¬ vl = [116, 114, 97, 105, 108, 101, 114, 115] from hr)]; rfl
                right
                apply EvL.endR
                · refine X.run ?_
                  refine X.pcall (cn) X.c rfl rfl rfl ?_
                  refine X.run ?_
                  refine X.pcall (cv) X.c rfl rfl rfl ?_
                  refine X.run ?_
                  refine X.pcall (ch) X.c rfl rfl rfl ?_
                  refine X.run ?_
                  exact EvD.done _
                · exact .inr ⟨hno _ rfl (by simp [fplB, hn, hv, hh, hr]), _, _, _, rfl, rfl⟩
            · have bt : beqL nm [116, 101] = false := by rw [beqLD]; exact decide_eq_false ht
              left
              iterate 3 apply Exists.intro
              refine ⟨i + 1, ?_, ?_, ⟨h, hyes (by simp [fplB, hn, hv, hh, ht])⟩, by omega⟩
              · refine X.run ?_
                refine X.pcall (cn) X.c rfl rfl rfl ?_
                refine X.run ?_
                refine X.pcall (cv) X.c rfl rfl rfl ?_
                refine X.run ?_
                refine X.pcall (ch) X.c rfl rfl rfl ?_
                refine X.run ?_
                exact EvD.done _
              · exact X.kv
    · right
      apply EvL.endE
      · refine X.run ?_
        exact EvD.done _
      · exact .inl ⟨allF_of fun j hj => h2 j hj (by omega), _, _, _, rfl⟩
  obtain ⟨r, hL, h | h⟩ := loop (tmOf [(5, .vs 2 (fds l)), (6, .it .i64 (Int.ofNat (fds l).length)), (7, .it .i64 (Int.ofNat 0))]) (fun _ => none) h0 rfl
  · obtain ⟨ha, tm, lo, hp, rfl⟩ := h
    rw [ha]
    refine EvP.of d73 rfl rfl rfl (v := .bo _) (h := hp) (h' := hp) ?_ (.s (clo_bo _) (.nil _))
    refine X.fn ?_
    refine X.run ?_
    refine X.loop (hL.congr rfl rfl rfl) ?_
    refine X.run ?_
    exact X.fin (fun _ => rfl) rfl rfl
  · obtain ⟨ha, tm, lo, hp, rfl, e0⟩ := h
    have hL := hL.pr e0
    rw [ha]
    refine EvP.of d73 rfl rfl rfl (v := .bo _) (h := hp) (h' := hp) ?_ (.s (clo_bo _) (.nil _))
    refine X.fn ?_
    refine X.run ?_
    refine X.loop (hL.congr rfl rfl rfl) ?_
    refine X.run ?_
    exact X.fin (fun _ => rfl) rfl rfl

def colonB (f : Fld) : Bool := decide (0 < f.1.length) && decide (f.1.getD 0 0 = 58)
set_option maxHeartbeats 4000000 in
theorem colon_ok (f : Fld) : EvP F 63 c63 [.ag (fd f)] [.bo (colonB f)] := by
  obtain ⟨nm, vl⟩ := f
  show EvP F 63 c63 [.ag [.st nm, .st vl]] _
  refine EvP.of d63 rfl rfl rfl (v := .bo _) (h := h0) (h' := h0) ?_ (.s (clo_bo _) (.nil _))
  refine X.fn ?_
  by_cases h : 0 < nm.length
  · refine X.run ?_
    refine X.fin (fun _ => rfl) (congrArg V.bo ?_) rfl
    show ieq (Int.ofNat (nm.getD 0 0)) (Int.ofNat 58) = _
    rw [ieqD]
    simp only [colonB, h, decide_true, Bool.true_and]
    rw [Bool.eq_iff_iff]; simp; omega
  · refine X.run ?_
    refine X.fin (fun _ => rfl) (congrArg V.bo ?_) rfl
    simp [colonB, h]

def L97 : C := d97.body.lps.getD 0 .skip
set_option maxHeartbeats 8000000 in
theorem index_ok (l : List Fld) (hl : l.length ≤ 100000000) (hp : Hp) : ∃ n : Int, EvC F false 97 [.vs 2 (fds l), .fn 63 [] []] hp (.ret (.it .i64 n) hp) ∧ (decide (0 ≤ n) = l.any colonB) := by
  have hlen := fds_length l
  have loop : ∀ (tm : Tm) (lo : Lo), [0, 1, 7, 8].map (fun s => (s, tm s)) = [(0, .vs 2 (fds l)), (1, .fn 63 [] []), (7, .it .i64 (Int.ofNat (fds l).length)), (8, .it .i64 (Int.ofNat 0))] → ∃ r, EvL F [0, 1, 7, 8] [] (lpB L97) ⟨tm, lo, hp⟩ r ∧
      ((l.any colonB = false ∧ ∃ tm lo, r = .exit 0 ⟨tm, lo, hp⟩) ∨ (l.any colonB = true ∧ ∃ (j : Nat) (tm : Tm) (lo : Lo), r = .ret ⟨tm, lo, hp⟩ ∧ tm 4 = .it .i64 (Int.ofNat j))) := by
    refine fun tm lo hk => EvL.inv (S := Nat) (fun i => [(0, .vs 2 (fds l)), (1, .fn 63 [] []), (7, .it .i64 (Int.ofNat (fds l).length)), (8, .it .i64 (Int.ofNat i))]) (fun i _ hp' => hp' = hp ∧ i ≤ l.length ∧ ∀ j (hj : j < l.length), j < i → colonB l[j] = false) (fun i => l.length - i) _ ?_ 0 tm lo hp ⟨rfl, by omega, fun j _ h => by omega⟩ hk
    intro i lo hp' ⟨e, h1, h2⟩
    subst e
    by_cases h : i < l.length
    · have hg := fds_getD h
      have hc := colon_ok l[i]
      cases hb : colonB l[i] with
      | false =>
        rw [hb] at hc
        left
        iterate 3 apply Exists.intro
        refine ⟨i + 1, ?_, ?_, ⟨?_, h, fun j hj hji => ?_⟩, by omega⟩
        · refine X.run ?_
          refine X.calv X.w rfl rfl rfl (EvC.of hc X.c) ?_
          refine X.run ?_
          exact EvD.done _
        · exact X.kv
        · rfl
        · rcases Nat.lt_or_ge j i with q | q
          · exact h2 j hj q
          · have : j = i := by omega
            subst this; exact hb
      | true =>
        rw [hb] at hc
        right
        apply EvL.endR
        · refine X.run ?_
          refine X.calv X.w rfl rfl rfl (EvC.of hc X.c) ?_
          refine X.run ?_
          exact EvD.done _
        · exact .inr ⟨by rw [List.any_eq_true]; exact ⟨l[i], List.getElem_mem h, hb⟩, i, _, _, rfl, rfl⟩
    · right
      apply EvL.endE
      · refine X.run ?_
        exact EvD.done _
      · refine .inl ⟨?_, _, _, rfl⟩
        rw [List.any_eq_false]
        intro x hx
        obtain ⟨j, hj, rfl⟩ := List.mem_iff_getElem.1 hx
        rw [h2 j hj (by omega)]; simp
  obtain ⟨r, hL, h | h⟩ := loop (tmOf [(0, .vs 2 (fds l)), (1, .fn 63 [] []), (7, .it .i64 (Int.ofNat (fds l).length)), (8, .it .i64 (Int.ofNat 0))]) (fun _ => none) rfl
  · obtain ⟨ha, tm, lo, rfl⟩ := h
    refine ⟨-1, ?_, by rw [ha]; rfl⟩
    refine EvC.ofRw d97 rfl rfl rfl ?_
    refine X.fn ?_
    refine X.run ?_
    refine X.loop (hL.congr rfl rfl rfl) ?_
    refine X.run ?_
    exact X.fin (fun _ => rfl) rfl rfl
  · obtain ⟨ha, j, tm, lo, rfl, e0⟩ := h
    have hL := hL.pr e0
    refine ⟨Int.ofNat j, ?_, by rw [ha]; simp⟩
    refine EvC.ofRw d97 rfl rfl rfl ?_
    refine X.fn ?_
    refine X.run ?_
    refine X.loop (hL.congr rfl rfl rfl) ?_
    refine X.run ?_
    exact X.fin (fun _ => rfl) rfl rfl
theorem contains_ok (l : List Fld) (hl : l.length ≤ 100000000) (hp : Hp) : EvC F false 72 [.vs 2 (fds l), .fn 63 [] []] hp (.ret (.bo (l.any colonB)) hp) := by
  obtain ⟨n, h, e⟩ := index_ok l hl hp
  refine EvC.ofRw d72 rfl rfl rfl ?_
  refine X.fn ?_
  refine X.run ?_
  refine X.call rfl rfl h ?_
  refine X.run ?_
  refine X.fin (fun _ => rfl) (congrArg V.bo ?_) rfl
  show (!(ilt n (Int.ofNat 0))) = _
  rw [← e, ilt_eq, Bool.eq_iff_iff]; simp
end Go.Proofs.Ytcbiplmgaiipgaa
