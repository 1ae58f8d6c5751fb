import Derived.Test.YtnnhhfjkkmakaaaGreatDoorEvE
import Derived.Test.YtnnhhfjkkmakaaaGreatDoorRep5
import Derived.Test.YtnnhhfjkkmakaaaGreatDoorRun6
set_option linter.unusedSectionVars false
set_option linter.unusedVariables false
set_option linter.unusedSimpArgs false
-- CalmReplies: the law (EvHp EvOwn)
namespace Go.Proofs.YtnnhhfjkkmakaaaGreatDoor.rep
open Go hiding Fn
open Ev tab
attribute [local irreducible] EvP EvD EvL EvC evGds evLs C.run sK bK gK pK fK lpB stepD hp6 itoaL valF
set_option maxHeartbeats 64000000 in
theorem rep_run (r : Rl) (t : Tk) (hR : ROK r) (hx2 : r.ex.length ≤ 2000000) (hf : BOK t.fs) : ∃ h, EvD Fq (stepD d7 [.ag (rowRl r), .ag (rowTk t)] h0) (Rt (.bo true) h) := by
  obtain ⟨b, lg⟩ := light_ok r hR
  have lk := lk_ok t.fs hf
  have r1 := reply_ok r t hR hf.1
  have r2 := rreply_ok r t hR hf.1
  have hl : (flR r (stR r t)).length ≤ 10000000 := by
    have h1 := hd_len r (stR r t)
    unfold flR; rw [List.length_append]
    omega
  have sm := same_ok (flR r (stR r t)) hl
  have c1 := rowRl_clo r
  have c2 := rowTk_clo t
  generalize flR r (stR r t) = L at *
  generalize bdR r t = B at *
  generalize lkB t.fs = b2 at *
  refine EvQ.law ?_
  have hBB : beqL B B = true := by rw [beqLD]; exact decide_eq_true rfl
  repeat' (first | refine EvQ.run ?_ | refine EvQ.lift (fun _ zn => X.pcall (lg) X.cq rfl X.al rfl zn) ?_ | refine EvQ.lift (fun _ zn => X.pcallG (lg) rfl X.cq rfl X.al rfl zn) ?_ | refine EvQ.lift (fun _ zn => X.pcallC (lg) rfl X.cq rfl X.al rfl zn) ?_ | refine EvQ.lift (fun _ zn => X.pcallT (lg) (by decide) X.cq rfl X.al rfl zn) ?_ | refine EvQ.lift (fun _ zn => X.call rfl X.al (lg) zn) ?_ | refine EvQ.lift (fun _ zn => X.pcall (lk) X.cq rfl X.al rfl zn) ?_ | refine EvQ.lift (fun _ zn => X.pcallG (lk) rfl X.cq rfl X.al rfl zn) ?_ | refine EvQ.lift (fun _ zn => X.pcallC (lk) rfl X.cq rfl X.al rfl zn) ?_ | refine EvQ.lift (fun _ zn => X.pcallT (lk) (by decide) X.cq rfl X.al rfl zn) ?_ | refine EvQ.lift (fun _ zn => X.call rfl X.al (lk) zn) ?_ | refine EvQ.lift (fun _ zn => X.pcall (r1) X.cq rfl X.al rfl zn) ?_ | refine EvQ.lift (fun _ zn => X.pcallG (r1) rfl X.cq rfl X.al rfl zn) ?_ | refine EvQ.lift (fun _ zn => X.pcallC (r1) rfl X.cq rfl X.al rfl zn) ?_ | refine EvQ.lift (fun _ zn => X.pcallT (r1) (by decide) X.cq rfl X.al rfl zn) ?_ | refine EvQ.lift (fun _ zn => X.call rfl X.al (r1) zn) ?_ | refine EvQ.lift (fun _ zn => X.pcall (r2) X.cq rfl X.al rfl zn) ?_ | refine EvQ.lift (fun _ zn => X.pcallG (r2) rfl X.cq rfl X.al rfl zn) ?_ | refine EvQ.lift (fun _ zn => X.pcallC (r2) rfl X.cq rfl X.al rfl zn) ?_ | refine EvQ.lift (fun _ zn => X.pcallT (r2) (by decide) X.cq rfl X.al rfl zn) ?_ | refine EvQ.lift (fun _ zn => X.call rfl X.al (r2) zn) ?_ | refine EvQ.lift (fun _ zn => X.pcall (cr_ok _) X.cq rfl X.al rfl zn) ?_ | refine EvQ.lift (fun _ zn => X.pcallG (cr_ok _) rfl X.cq rfl X.al rfl zn) ?_ | refine EvQ.lift (fun _ zn => X.pcallC (cr_ok _) rfl X.cq rfl X.al rfl zn) ?_ | refine EvQ.lift (fun _ zn => X.pcallT (cr_ok _) (by decide) X.cq rfl X.al rfl zn) ?_ | refine EvQ.lift (fun _ zn => X.call rfl X.al (cr_ok _) zn) ?_ | (refine EvQ.pickB rfl rfl rfl ?_) | (refine EvQ.cond rfl (fun h => ?_) (fun h => ?_) <;> ((first | replace h := X.nm h | skip); try have hne := ne_len h)) | (refine EvQ.g1 rfl (fun h => ?_) (fun h => ?_) <;> ((first | replace h := X.nm h | skip); try have hne := ne_len h)) | (refine EvQ.pick rfl (fun _ => rfl) (fun _ => rfl) (fun h => ?_) (fun h => ?_) <;> ((first | replace h := X.nm h | skip); try have hne := ne_len h)) | refine EvQ.fin X.rs ?_ | refine EvQ.fin1 (fun _ => rfl) rfl ?_)
  · exact ⟨_, rfl⟩
  · refine EvQ.lift (fun _ zn => X.pcall sm (.s (clo_vs [.one, .one, .one] _) (.s (clo_vs [.one, .one, .one] _) (.nil _))) rfl X.al rfl zn) ?_
    repeat' (first | refine EvQ.run ?_ | refine EvQ.lift (fun _ zn => X.pcall (cr_ok _) X.cq rfl X.al rfl zn) ?_ | refine EvQ.lift (fun _ zn => X.pcallG (cr_ok _) rfl X.cq rfl X.al rfl zn) ?_ | refine EvQ.lift (fun _ zn => X.pcallC (cr_ok _) rfl X.cq rfl X.al rfl zn) ?_ | refine EvQ.lift (fun _ zn => X.pcallT (cr_ok _) (by decide) X.cq rfl X.al rfl zn) ?_ | refine EvQ.lift (fun _ zn => X.call rfl X.al (cr_ok _) zn) ?_ | (refine EvQ.pickB rfl rfl rfl ?_) | (refine EvQ.cond rfl (fun h => ?_) (fun h => ?_) <;> ((first | replace h := X.nm h | skip); try have hne := ne_len h)) | (refine EvQ.g1 rfl (fun h => ?_) (fun h => ?_) <;> ((first | replace h := X.nm h | skip); try have hne := ne_len h)) | (refine EvQ.pick rfl (fun _ => rfl) (fun _ => rfl) (fun h => ?_) (fun h => ?_) <;> ((first | replace h := X.nm h | skip); try have hne := ne_len h)) | refine EvQ.fin X.rs ?_ | refine EvQ.fin1 (fun _ => rfl) rfl ?_)
    all_goals exact ⟨_, rfl⟩
  all_goals exact ⟨_, rfl⟩
theorem field_of {e : List V} (h : ShL [.st, .st] e) : ∃ f : Fld, e = fd f ∧ sizL e = f.1.length + f.2.length + 2 := by
  obtain ⟨v, r, rfl, h1, h, e1⟩ := h.cons'
  obtain ⟨w, r, rfl, h2, h, e2⟩ := h.cons'
  cases h.nil'
  obtain ⟨a, rfl, ha, ea⟩ := text_of h1
  obtain ⟨b, rfl, hb, eb⟩ := text_of h2
  refine ⟨(a, b), rfl, ?_⟩
  rw [e1, e2, ea, eb]
  simp only [sizL]; omega
theorem fields_of {es : List (List V)} (h : ShE [.st, .st] es) : ∃ l : List Fld, es = fds l ∧ l.length ≤ sizE es ∧ ∀ f, f ∈ l → f.1.length ≤ sizE es ∧ f.2.length ≤ sizE es := by
  induction es with
  | nil => exact ⟨[], rfl, Nat.zero_le _, fun _ h => (List.not_mem_nil h).elim⟩
  | cons e es ih =>
    cases h with
    | cons a r =>
      obtain ⟨f, rfl, h3⟩ := field_of a
      obtain ⟨l, rfl, h5, h6⟩ := ih r
      refine ⟨f :: l, rfl, ?_, ?_⟩
      · simp only [sizE, List.length_cons]; omega
      · intro g hg
        simp only [sizE]
        rcases List.mem_cons.1 hg with rfl | hg
        · omega
        · have := h6 g hg; omega
theorem fb_of {v : V} (h : Sh1 (.sl [.st, .st]) v) : ∃ l, v = .vs 2 (fds l) ∧ l.length ≤ siz v ∧ ∀ f, f ∈ l → f.1.length ≤ siz v ∧ f.2.length ≤ siz v := by
  obtain ⟨es, rfl, he, ze⟩ := slice_of h
  obtain ⟨l, rfl, lm, lq⟩ := fields_of he
  exact ⟨l, rfl, by omega, fun f hf => by have := lq f hf; omega⟩
theorem lt_of {n : Int} (h : (Lit.int .i64 n).wf = true) : n < 9223372036854775808 := by
  simp [Lit.wf] at h
  omega
theorem rl_of {vs : List V} (h : ShL [.it .i64, .st, .st, .st, .sl [.st, .st]] vs) (hs : sizL vs ≤ 1048576) : ∃ r : Rl, vs = rowRl r ∧ ROK r ∧ r.ex.length ≤ 2000000 := by
  obtain ⟨v, r, rfl, a1, h, e1⟩ := h.cons'
  obtain ⟨w, r, rfl, a2, h, e2⟩ := h.cons'
  obtain ⟨x, r, rfl, a3, h, e3⟩ := h.cons'
  obtain ⟨y, r, rfl, a4, h, e4⟩ := h.cons'
  obtain ⟨z, r, rfl, a5, h, e5⟩ := h.cons'
  cases h.nil'
  obtain ⟨n, rfl, hn⟩ := int_of a1
  obtain ⟨c, rfl, _, c2⟩ := text_of a2
  obtain ⟨t, rfl, _, t2⟩ := text_of a3
  obtain ⟨b, rfl, _, b2⟩ := text_of a4
  obtain ⟨l, rfl, l1, l2⟩ := fb_of a5
  refine ⟨⟨n, c, t, b, l⟩, rfl, ⟨⟨?_, fun f hf => ?_⟩, ?_, ?_, ?_, lt_of hn⟩, ?_⟩
  · show l.length ≤ _; omega
  · have := l2 f hf; omega
  · show c.length ≤ _; omega
  · show t.length ≤ _; omega
  · show b.length ≤ _; omega
  · show l.length ≤ _; omega
theorem tk_of {vs : List V} (h : ShL [.it .i64, .it .i64, .it .i64, .sl [.st, .st], .st, .bo, .bo, .it .i64, .it .i64] vs) (hs : sizL vs ≤ 1048576) : ∃ t : Tk, vs = rowTk t ∧ BOK t.fs := by
  obtain ⟨v1, r, rfl, a1, h, e1⟩ := h.cons'
  obtain ⟨v2, r, rfl, a2, h, e2⟩ := h.cons'
  obtain ⟨v3, r, rfl, a3, h, e3⟩ := h.cons'
  obtain ⟨v4, r, rfl, a4, h, e4⟩ := h.cons'
  obtain ⟨v5, r, rfl, a5, h, e5⟩ := h.cons'
  obtain ⟨v6, r, rfl, a6, h, e6⟩ := h.cons'
  obtain ⟨v7, r, rfl, a7, h, e7⟩ := h.cons'
  obtain ⟨v8, r, rfl, a8, h, e8⟩ := h.cons'
  obtain ⟨v9, r, rfl, a9, h, e9⟩ := h.cons'
  cases h.nil'
  obtain ⟨n1, rfl, _⟩ := int_of a1
  obtain ⟨n2, rfl, _⟩ := int_of a2
  obtain ⟨n3, rfl, _⟩ := int_of a3
  obtain ⟨l, rfl, l1, l2⟩ := fb_of a4
  obtain ⟨b, rfl, _, _⟩ := text_of a5
  obtain ⟨p, rfl⟩ := bool_of a6
  obtain ⟨q, rfl⟩ := bool_of a7
  obtain ⟨n8, rfl, _⟩ := int_of a8
  obtain ⟨n9, rfl, _⟩ := int_of a9
  refine ⟨⟨n1, n2, n3, l, b, p, q, n8, n9⟩, rfl, ?_, fun f hf => ?_⟩
  · show l.length ≤ _; omega
  · have := l2 f hf; omega
theorem law (xs : List V) (hx : ShP [(true, [.it .i64, .st, .st, .st, .sl [.st, .st]]), (true, [.it .i64, .it .i64, .it .i64, .sl [.st, .st], .st, .bo, .bo, .it .i64, .it .i64])] xs) (hb : sizP xs ≤ 1048576) : ∃ L k hp', runF (callF Fq L k) L c7 xs h0 = .ret (.bo true) hp' := by
  obtain ⟨y, r, rfl, h3, h, e3⟩ := hx.grp'
  obtain ⟨z, r, rfl, h4, h, e4⟩ := h.grp'
  cases h.nil'
  obtain ⟨rl, rfl, h5, h6⟩ := rl_of h3 (by omega)
  obtain ⟨tk, rfl, h7⟩ := tk_of h4 (by omega)
  exact law_of d7 rfl (rep_run rl tk h5 h6 h7)
theorem yes_hp {r : CR} (h : yes r = true) : r = .ret (.bo true) (crHp r) := by
  obtain ⟨hp, e⟩ := yes_ret h
  rw [e]; rfl
theorem tableQ : Table Tryz.prog Fq mds := Table.memo table2 table (f := 6) (fn := c6) (by rfl) rfl (by unfold hp6; exact yes_hp runs6)
end Go.Proofs.YtnnhhfjkkmakaaaGreatDoor.rep
