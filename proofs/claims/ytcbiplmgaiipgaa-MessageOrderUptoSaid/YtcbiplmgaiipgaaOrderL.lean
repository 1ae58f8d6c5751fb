import Derived.Test.YtcbiplmgaiipgaaEvE
import Derived.Test.YtcbiplmgaiipgaaOrderW
import Derived.Test.YtcbiplmgaiipgaaFlds
set_option linter.unusedVariables false
set_option linter.unusedSimpArgs false
-- MessageOrder: the law
namespace Go.Proofs.Ytcbiplmgaiipgaa
open Go hiding Fn
open Ev tab
attribute [local irreducible] EvD EvL EvC evGds evLs C.run sK bK gK pK fK lpB stepD

theorem four_fok {a p : List Nat} (ha : Txt a) (hp : Txt p) (hal : a.length ≤ 100) (hpl : p.length ≤ 100) : ∀ f, f ∈ four a p → Txt f.1 ∧ Txt f.2 ∧ f.1.length ≤ 100000000 ∧ f.2.length ≤ 100000000 := by
  intro f hf
  simp only [four, List.mem_cons, List.not_mem_nil, or_false] at hf
  have t1 : Txt sMethod ∧ Txt sGet ∧ Txt sScheme ∧ Txt sHttps ∧ Txt sAuth ∧ Txt sPath := by simp [Txt, sMethod, sGet, sScheme, sHttps, sAuth, sPath]
  have t2 : sMethod.length ≤ 100 ∧ sGet.length ≤ 100 ∧ sScheme.length ≤ 100 ∧ sHttps.length ≤ 100 ∧ sAuth.length ≤ 100 ∧ sPath.length ≤ 100 := by simp [sMethod, sGet, sScheme, sHttps, sAuth, sPath]
  rcases hf with rfl | rfl | rfl | rfl
  · exact ⟨t1.1, t1.2.1, by show sMethod.length ≤ _; omega, by show sGet.length ≤ _; omega⟩
  · exact ⟨t1.2.2.1, t1.2.2.2.1, by show sScheme.length ≤ _; omega, by show sHttps.length ≤ _; omega⟩
  · exact ⟨t1.2.2.2.2.1, ha, by show sAuth.length ≤ _; omega, by show a.length ≤ _; omega⟩
  · exact ⟨t1.2.2.2.2.2, hp, by show sPath.length ≤ _; omega, by show p.length ≤ _; omega⟩
theorem turned_fok {a p : List Nat} (ha : Txt a) (hp : Txt p) (hal : a.length ≤ 100) (hpl : p.length ≤ 100) {more : List Fld} (hm : FOK more) (hn : more.length ≤ 3000) (k : Nat) (hk : k ≤ 3) : FOK (turned a p k ++ more) := by
  refine ⟨by rw [List.length_append, turned_length a p k hk]; omega, fun f hf => ?_⟩
  rcases List.mem_append.1 hf with h | h
  · refine four_fok ha hp hal hpl f ?_
    rcases List.mem_append.1 h with h | h
    · exact List.mem_of_mem_drop h
    · exact List.mem_of_mem_take h
  · exact hm.2 f h
theorem reqF_len {l : List Fld} {h : Hd} {fs : List Fld} {n : Int} (e : reqF l = some (h, fs, n)) : fs.length ≤ l.length := by
  unfold reqF at e
  split at e
  · cases e
  · split at e
    · cases e
      unfold restL
      split
      · exact Nat.zero_le _
      · rw [List.length_drop]; omega
    · cases e

set_option maxHeartbeats 8000000 in
theorem order_run (a p : List Nat) (n : Int) (more : List Fld) (ha : Txt a) (hp : Txt p) (hm : ∀ f, f ∈ more → Txt f.1 ∧ Txt f.2) (hal : a.length ≤ 10000000) (hpl : p.length ≤ 10000000) (hq : ∀ f, f ∈ more → f.1.length ≤ 10000000 ∧ f.2.length ≤ 10000000) (hn : more.length ≤ 10000000) :
    ∃ h, EvD F (stepD d6 [.st a, .st p, .it .i64 n, .vs 2 (fds more)] h0) (Rt (.bo true) h) := by
  by_cases h1 : 100 < a.length
  · apply Exists.intro
    refine X.fn ?_
    refine X.run ?_
    refine X.pcall (mruns_ok) X.c rfl rfl rfl ?_
    refine X.run ?_
    exact X.fin (fun _ => rfl) rfl rfl
  by_cases h2 : 100 < p.length
  · apply Exists.intro
    refine X.fn ?_
    refine X.run ?_
    refine X.pcall (mruns_ok) X.c rfl rfl rfl ?_
    refine X.run ?_
    exact X.fin (fun _ => rfl) rfl rfl
  have hlen := fds_length more
  cases hl : lightB more with
  | false =>
    have h3 := mlight_ok more hn hq
    rw [hl] at h3
    apply Exists.intro
    refine X.fn ?_
    refine X.run ?_
    refine X.pcall (h3) X.c rfl rfl rfl ?_
    refine X.run ?_
    refine X.pcall (mruns_ok) X.c rfl rfl rfl ?_
    refine X.run ?_
    exact X.fin (fun _ => rfl) rfl rfl
  | true =>
    obtain ⟨f1, f2, f3⟩ := light_fok hm hl
    have t0 := turned_fok ha hp (by omega) (by omega) f1 f2
    refine order_go a p n more (by omega) (by omega) hl hm hq (by omega) (t0 0 (by omega)) t0 ?_ ?_
    · have := t0 0 (by omega)
      refine ⟨by have := (t0 0 (by omega)); rw [List.length_cons]; have h4 : (four a p ++ more).length = 4 + more.length := by rw [List.length_append]; rfl
                 omega, fun f hf => ?_⟩
      rcases List.mem_cons.1 hf with rfl | hf
      · exact ⟨by simp [Txt], by simp [Txt], by simp, by simp⟩
      · exact (t0 0 (by omega)).2 f hf
    · intro h fs k e
      have := reqF_len e
      have h4 : (four a p ++ more).length = 4 + more.length := by rw [List.length_append]; rfl
      omega

theorem order_law (xs : List V) (h : ShP [(false, [.st]), (false, [.st]), (false, [.it .i64]), (false, [.sl [.st, .st]])] xs) (hb : sizP xs ≤ 1048576) : ∃ L k hp', runF (callF F L k) L c6 xs h0 = .ret (.bo true) hp' := by
  obtain ⟨v, r, rfl, h1, h, e1⟩ := h.one'
  obtain ⟨w, r, rfl, h2, h, e2⟩ := h.one'
  obtain ⟨x, r, rfl, h3, h, e3⟩ := h.one'
  obtain ⟨y, r, rfl, h4, h, e4⟩ := h.one'
  cases h.nil'
  obtain ⟨a, rfl, ta, la⟩ := text_of h1
  obtain ⟨p, rfl, tp, lp⟩ := text_of h2
  obtain ⟨n, rfl, _⟩ := int_of h3
  obtain ⟨es, rfl, he, ze⟩ := slice_of h4
  obtain ⟨more, rfl, tm, lm, lq⟩ := fields_of he
  refine law_of d6 rfl (order_run a p n more ta tp tm ?_ ?_ ?_ ?_)
  · omega
  · omega
  · intro f hf; have := lq f hf; omega
  · omega
end Go.Proofs.Ytcbiplmgaiipgaa
