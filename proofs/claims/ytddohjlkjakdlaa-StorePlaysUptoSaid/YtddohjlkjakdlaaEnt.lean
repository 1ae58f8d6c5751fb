import Derived.Test.YtddohjlkjakdlaaEvE
import Derived.Test.YtddohjlkjakdlaaKeep1
import Derived.Test.YtddohjlkjakdlaaFlds
set_option linter.unusedVariables false
set_option linter.unusedSimpArgs false
set_option linter.unusedSectionVars false
set_option linter.unusedVariables false
set_option linter.unusedSimpArgs false
-- fields, requests, responses, entries as arguments
namespace Go.Proofs.Ytddohjlkjakdlaa
open Go hiding Fn
open Ev tab
attribute [local irreducible] EvD EvL EvC evGds evLs C.run sK bK gK pK fK lpB stepD

/-- how much fields may hold -/
structure FB (l : List Fld) (m : Nat) : Prop where
  t : TOK l
  n : l.length ≤ m
  s : ∀ f, f ∈ l → f.1.length ≤ m ∧ f.2.length ≤ m
theorem FB.bok {l : List Fld} {m : Nat} (h : FB l m) (hm : m ≤ 10000000) : BOK l := ⟨by have := h.n; omega, fun f hf => by have := h.s f hf; omega⟩
theorem fb_of {v : V} (h : Sh1 (.sl [.st, .st]) v) : ∃ l, v = .vs 2 (fds l) ∧ FB l (siz v) := by
  obtain ⟨es, rfl, he, ze⟩ := slice_of h
  obtain ⟨l, rfl, tm, lm, lq⟩ := fields_of he
  refine ⟨l, rfl, tm, by omega, fun f hf => by have := lq f hf; omega⟩
theorem rq_of {vs : List V} (h : ShL [.st, .st, .st, .st, .sl [.st, .st], .it .i64] vs) : ∃ q : Rq, vs = rowRq q ∧ FB q.fs (sizL vs) ∧ (Txt q.m ∧ Txt q.s ∧ Txt q.a ∧ Txt q.p) ∧ q.m.length ≤ sizL vs ∧ q.s.length ≤ sizL vs ∧ q.a.length ≤ sizL vs ∧ q.p.length ≤ sizL vs := by
  obtain ⟨v, r, rfl, a1, h, e1⟩ := h.cons'
  obtain ⟨w, r, rfl, a2, h, e2⟩ := h.cons'
  obtain ⟨x, r, rfl, a3, h, e3⟩ := h.cons'
  obtain ⟨y, r, rfl, a4, h, e4⟩ := h.cons'
  obtain ⟨z, r, rfl, a5, h, e5⟩ := h.cons'
  obtain ⟨u, r, rfl, a6, h, e6⟩ := h.cons'
  cases h.nil'
  obtain ⟨m, rfl, m1, m2⟩ := text_of a1
  obtain ⟨s, rfl, s1, s2⟩ := text_of a2
  obtain ⟨a, rfl, b1, b2⟩ := text_of a3
  obtain ⟨p, rfl, p1, p2⟩ := text_of a4
  obtain ⟨l, rfl, hl⟩ := fb_of a5
  obtain ⟨n, rfl, _⟩ := int_of a6
  refine ⟨⟨m, s, a, p, l, n⟩, rfl, ⟨hl.t, ?_, fun f hf => ?_⟩, ⟨m1, s1, b1, p1⟩, ?_, ?_, ?_, ?_⟩
  · have := hl.n; show l.length ≤ _; omega
  · have := hl.s f hf; omega
  · show m.length ≤ _; omega
  · show s.length ≤ _; omega
  · show a.length ≤ _; omega
  · show p.length ≤ _; omega
theorem en_of {vs : List V} (h : ShL [.st, .st, .st, .st, .sl [.st, .st], .it .i64, .it .i64, .sl [.st, .st], .it .i64, .st, .it .i64, .it .i64] vs) : ∃ e : En, vs = rowEn e ∧ FB e.q.fs (sizL vs) ∧ FB e.s.fs (sizL vs) ∧ Txt e.q.m ∧ Txt e.q.s ∧ Txt e.q.a ∧ Txt e.q.p ∧ Txt e.body ∧
    e.q.m.length ≤ sizL vs ∧ e.q.s.length ≤ sizL vs ∧ e.q.a.length ≤ sizL vs ∧ e.q.p.length ≤ sizL vs ∧ e.body.length ≤ sizL vs := by
  obtain ⟨v, r, rfl, a1, h, e1⟩ := h.cons'
  obtain ⟨w, r, rfl, a2, h, e2⟩ := h.cons'
  obtain ⟨x, r, rfl, a3, h, e3⟩ := h.cons'
  obtain ⟨y, r, rfl, a4, h, e4⟩ := h.cons'
  obtain ⟨z, r, rfl, a5, h, e5⟩ := h.cons'
  obtain ⟨u, r, rfl, a6, h, e6⟩ := h.cons'
  obtain ⟨k, r, rfl, a7, h, e7⟩ := h.cons'
  obtain ⟨g, r, rfl, a8, h, e8⟩ := h.cons'
  obtain ⟨i, r, rfl, a9, h, e9⟩ := h.cons'
  obtain ⟨b, r, rfl, a10, h, e10⟩ := h.cons'
  obtain ⟨c, r, rfl, a11, h, e11⟩ := h.cons'
  obtain ⟨d, r, rfl, a12, h, e12⟩ := h.cons'
  cases h.nil'
  obtain ⟨m, rfl, m1, m2⟩ := text_of a1
  obtain ⟨s, rfl, s1, s2⟩ := text_of a2
  obtain ⟨a, rfl, b1, b2⟩ := text_of a3
  obtain ⟨p, rfl, p1, p2⟩ := text_of a4
  obtain ⟨l, rfl, hl⟩ := fb_of a5
  obtain ⟨n, rfl, _⟩ := int_of a6
  obtain ⟨k, rfl, _⟩ := int_of a7
  obtain ⟨l2, rfl, hl2⟩ := fb_of a8
  obtain ⟨n2, rfl, _⟩ := int_of a9
  obtain ⟨bd, rfl, t1, t2⟩ := text_of a10
  obtain ⟨ak, rfl, _⟩ := int_of a11
  obtain ⟨cm, rfl, _⟩ := int_of a12
  refine ⟨⟨⟨m, s, a, p, l, n⟩, ⟨k, l2, n2⟩, bd, ak, cm⟩, rfl, ⟨hl.t, ?_, fun f hf => ?_⟩, ⟨hl2.t, ?_, fun f hf => ?_⟩, m1, s1, b1, p1, t1, ?_, ?_, ?_, ?_, ?_⟩
  · have := hl.n; show l.length ≤ _; omega
  · have := hl.s f hf; omega
  · have := hl2.n; show l2.length ≤ _; omega
  · have := hl2.s f hf; omega
  · show m.length ≤ _; omega
  · show s.length ≤ _; omega
  · show a.length ≤ _; omega
  · show p.length ≤ _; omega
  · show bd.length ≤ _; omega
end Go.Proofs.Ytddohjlkjakdlaa
