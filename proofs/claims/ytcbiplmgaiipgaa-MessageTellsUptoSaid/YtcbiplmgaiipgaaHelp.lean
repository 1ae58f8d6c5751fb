import Derived.Test.YtcbiplmgaiipgaaEvE
import Derived.Test.YtcbiplmgaiipgaaMsg
set_option linter.unusedVariables false
set_option linter.unusedSimpArgs false
set_option linter.unusedSectionVars false
-- what the laws of layer 15 lean on
namespace Go.Proofs.Ytcbiplmgaiipgaa
open Go hiding Fn
open Ev tab
theorem mruns_go : ∀ N M, run (callF F (N + 2000) (M + 60)) (N + 2000) (bodyD c3 [] h0) = Rt (.bo true) (hpOf (run (callF F 2000 60) 2000 (bodyD c3 [] h0))) := by
  intro N M; kernel_rfl
theorem mruns_ok : EvP F 3 c3 [] [.bo true] := .closed 2000 60 rfl rfl rfl rfl mruns_go
attribute [local irreducible] EvD EvL EvC evGds evLs C.run sK bK gK pK fK lpB stepD

theorem of_ok (a b : List Nat) : EvP F 20 c20 [.st a, .st b] [.ag (fd (a, b))] := by
  refine EvP.of d20 rfl rfl rfl (v := .ag _) (h := h0) (h' := h0) ?_ (.gs (fd_clo _) (.nil _))
  refine X.fn ?_
  refine X.run ?_
  exact X.fin1 (fun _ => rfl) rfl rfl rfl

def lightGo (n : Nat) : List Fld → Bool
  | [] => true
  | f :: r => if 3000 < n + f.1.length + f.2.length + 1 then false else lightGo (n + f.1.length + f.2.length + 1) r
def lightB (l : List Fld) : Bool := lightGo 0 l
theorem lightGo_fok : ∀ (l : List Fld) (n : Nat), (∀ f, f ∈ l → Txt f.1 ∧ Txt f.2) → lightGo n l = true → n + l.length ≤ max n 3000 ∧ ∀ f, f ∈ l → f.1.length ≤ 3000 ∧ f.2.length ≤ 3000
  | [], n, _, _ => ⟨by simp; omega, by simp⟩
  | f :: r, n, ht, h => by
    simp only [lightGo] at h
    split at h
    · cases h
    · rename_i hn
      obtain ⟨h1, h2⟩ := lightGo_fok r _ (fun g hg => ht g (by simp [hg])) h
      refine ⟨by simp only [List.length_cons]; omega, fun g hg => ?_⟩
      rcases List.mem_cons.1 hg with rfl | hg
      · exact ⟨by omega, by omega⟩
      · exact h2 g hg
theorem light_fok {l : List Fld} (ht : ∀ f, f ∈ l → Txt f.1 ∧ Txt f.2) (h : lightB l = true) : FOK l ∧ l.length ≤ 3000 ∧ ∀ f, f ∈ l → f.1.length ≤ 3000 ∧ f.2.length ≤ 3000 := by
  obtain ⟨h1, h2⟩ := lightGo_fok l 0 ht h
  have h3 : l.length ≤ 3000 := by omega
  exact ⟨⟨by omega, fun f hf => ⟨(ht f hf).1, (ht f hf).2, by have := (h2 f hf).1; omega, by have := (h2 f hf).2; omega⟩⟩, h3, h2⟩
def L24 : C := d24.body.lps.getD 0 .skip
set_option maxHeartbeats 8000000 in
theorem mlight_ok (l : List Fld) (hl : l.length ≤ 10000000) (hb : ∀ f, f ∈ l → f.1.length ≤ 10000000 ∧ f.2.length ≤ 10000000) : EvP F 24 c24 [.vs 2 (fds l)] [.bo (lightB l)] := by
  have hlen := fds_length l
  have loop : ∀ (tm : Tm) (lo : Lo) (hp : Hp), [0, 3, 4].map (fun s => (s, tm s)) = [(0, .vs 2 (fds l)), (3, .it .i64 (Int.ofNat 0)), (4, .it .i64 (Int.ofNat 0))] → ∃ r, EvL F [0, 3, 4] [] (lpB L24) ⟨tm, lo, hp⟩ r ∧
      ((lightB l = true ∧ ∃ tm lo hp, r = .exit 0 ⟨tm, lo, hp⟩) ∨ (lightB l = false ∧ ∃ tm lo hp, r = .ret ⟨tm, lo, hp⟩ ∧ tm 2 = .bo false)) := by
    refine fun tm lo hp hk => EvL.inv (S := Nat × Nat) (fun s => [(0, .vs 2 (fds l)), (3, .it .i64 (Int.ofNat s.2)), (4, .it .i64 (Int.ofNat s.1))]) (fun s _ _ => s.1 ≤ l.length ∧ s.2 ≤ 3000 ∧ lightGo s.2 (l.drop s.1) = lightB l) (fun s => l.length - s.1) _ ?_ (0, 0) tm lo hp ⟨by simp, by simp, rfl⟩ hk
    intro ⟨i, n⟩ lo hp ⟨h1, h2, h3⟩
    simp only at h1 h2 h3
    by_cases h : i < l.length
    · have hg := fds_getD h
      have hb1 := hb _ (List.getElem_mem h)
      rw [List.drop_eq_getElem_cons h] at h3
      revert hg hb1 h3
      generalize l[i] = f
      obtain ⟨nm, vl⟩ := f
      intro h3 hg hb1
      simp only [lightGo] at h3 hb1
      obtain ⟨ba, bb⟩ := hb1
      have w1 : wr .i64 (Int.ofNat n + Int.ofNat nm.length) = Int.ofNat (n + nm.length) := by rw [wr64 (by simp; omega) (by simp; omega)]; rfl
      have w2 : wr .i64 (Int.ofNat (n + nm.length) + Int.ofNat vl.length) = Int.ofNat (n + nm.length + vl.length) := by rw [wr64 (by simp; omega) (by simp; omega)]; rfl
      have w3 : wr .i64 (Int.ofNat (n + nm.length + vl.length) + Int.ofNat 1) = Int.ofNat (n + nm.length + vl.length + 1) := by rw [wr64 (by simp; omega) (by simp; omega)]; rfl
      have w : wr .i64 (wr .i64 (wr .i64 (Int.ofNat n + Int.ofNat nm.length) + Int.ofNat vl.length) + Int.ofNat 1) = Int.ofNat (n + nm.length + vl.length + 1) := by rw [w1, w2, w3]
      by_cases hx : 3000 < n + nm.length + vl.length + 1
      · rw [if_pos hx] at h3
        have hq : ilt (Int.ofNat 3000) (wr .i64 (wr .i64 (wr .i64 (Int.ofNat n + Int.ofNat nm.length) + Int.ofNat vl.length) + Int.ofNat 1)) = true := by rw [w, ilt_eq]; exact decide_eq_true (by simp; omega)
        right
        apply EvL.endR
        · refine X.run ?_
          exact EvD.done _
        · exact .inr ⟨h3.symm, _, _, _, rfl, rfl⟩
      · rw [if_neg hx] at h3
        have hq : ilt (Int.ofNat 3000) (wr .i64 (wr .i64 (wr .i64 (Int.ofNat n + Int.ofNat nm.length) + Int.ofNat vl.length) + Int.ofNat 1)) = false := by rw [w, ilt_eq]; exact decide_eq_false (by simp; omega)
        left
        iterate 3 apply Exists.intro
        refine ⟨(i + 1, n + nm.length + vl.length + 1), ?_, ?_, ⟨h, by show n + nm.length + vl.length + 1 ≤ 3000; omega, h3⟩, by simp; omega⟩
        · refine X.run ?_
          exact EvD.done _
        · exact kvc rfl (kvc (congrArg (V.it .i64) w) (kvc (wr_inc (by omega)) rfl))
    · right
      rw [List.drop_of_length_le (by omega)] at h3
      apply EvL.endE
      · refine X.run ?_
        exact EvD.done _
      · exact .inl ⟨h3.symm, _, _, _, rfl⟩
  obtain ⟨r, hL, h | h⟩ := loop (tmOf [(0, .vs 2 (fds l)), (3, .it .i64 (Int.ofNat 0)), (4, .it .i64 (Int.ofNat 0))]) (fun _ => none) h0 rfl
  · obtain ⟨ha, tm, lo, hp, rfl⟩ := h
    rw [ha]
    refine EvP.of d24 rfl rfl rfl (v := .bo _) (h := hp) (h' := hp) ?_ (.s (clo_bo _) (.nil _))
    refine X.fn ?_
    refine X.run ?_
    refine X.loop (hL.congr rfl rfl rfl) ?_
    refine X.run ?_
    exact X.fin (fun _ => rfl) rfl rfl
  · obtain ⟨ha, tm, lo, hp, rfl, e0⟩ := h
    have hL := hL.pr e0
    rw [ha]
    refine EvP.of d24 rfl rfl rfl (v := .bo _) (h := hp) (h' := hp) ?_ (.s (clo_bo _) (.nil _))
    refine X.fn ?_
    refine X.run ?_
    refine X.loop (hL.congr rfl rfl rfl) ?_
    refine X.run ?_
    exact X.fin (fun _ => rfl) rfl rfl

/-- fields the same as themselves -/
def L51 : C := d51.body.lps.getD 0 .skip
end Go.Proofs.Ytcbiplmgaiipgaa
