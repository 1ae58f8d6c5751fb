import Derived.Test.YtfnoiklmcmboeaaGreatDoorEvE
import Derived.Test.YtfnoiklmcmboeaaGreatDoorNbA
set_option linter.unusedSectionVars false
set_option linter.unusedVariables false
set_option linter.unusedSimpArgs false
-- ScriptNobody: the law (EvHp EvOwn)
namespace Go.Proofs.YtfnoiklmcmboeaaGreatDoor.cnw
open Go hiding Fn
open Ev tab
attribute [local irreducible] EvP EvD EvL EvC EvO evGds evLs C.run sK bK gK pK fK lpB stepD stat hp11
set_option maxHeartbeats 8000000 in
theorem wdN_bad {own : Bool} (hp : Hp) (c : Cfg) (h : ¬ okP c) (hl : hp.lim ≤ hp.next) : ∃ z hp', EvC Fq own 10 [.ag (rowCf c)] hp (.ret z hp') ∧ (z = .tu [.np, .it .i64 1]) := by
  have px := pxN_bad (own := false) hp c h hl
  obtain ⟨bud, sh, st, wn, ls, tr, ups⟩ := c
  refine EvC.ofQ d10 rfl rfl rfl ?_
  repeat (first | refine EvQ.run ?_ | refine EvQ.fin X.rs ?_ | refine EvQ.fin1 (fun _ => rfl) rfl ?_)
  refine EvQ.call rfl X.al px ?_
  rintro _ hp1 ⟨rfl, u1⟩
  repeat' (first | refine EvQ.run ?_ | (refine EvQ.pickB rfl rfl rfl ?_) | (refine EvQ.cond rfl (fun h => ?_) (fun h => ?_) <;> ((first | replace h := X.nm h | skip); try have hne := ne_len h)) | (refine EvQ.g1 rfl (fun h => ?_) (fun h => ?_) <;> ((first | replace h := X.nm h | skip); try have hne := ne_len h)) | (refine EvQ.pick rfl (fun _ => rfl) (fun _ => rfl) (fun h => ?_) (fun h => ?_) <;> ((first | replace h := X.nm h | skip); try have hne := ne_len h)) | refine EvQ.fin X.rs ?_ | refine EvQ.fin1 (fun _ => rfl) rfl ?_)
  all_goals exact ⟨_, _, rfl, rfl⟩
set_option maxHeartbeats 32000000 in
theorem nob_loop (hp1 : Hp) (c : Cfg) (w p : Nat) (a b : V) (x y : List Nat) (hW : WdJ hp1 c w p a b x y) (hx : x.length = 8) (hy : y.length = 8) (l : List StpV) (hl : l.length ≤ 2000000) (hr : ∀ a, a ∈ l → a.rows.length ≤ 1000000000)
    (lo : Lo) (hlo : shed [2] lo = fun _ => none) (tm : Tm) (hk : [1, 5, 7].map (fun x => (x, tm x)) = [(1, .vs 7 (steps l)), (5, .pt w 0 0), (7, .it .i64 (Int.ofNat 0))]) :
    ∃ r, EvL Fq [1, 5, 7] [2] (lpB (d4.body.lps.getD 0 .skip)) ⟨tm, lo, hp1⟩ r ∧ XtQ 0 [(5, .pt w 0 0)] (fun lo hp => lo = (fun _ => none) ∧ hp = hp1) r := by
  have hsl := steps_length l
  refine EvL.invQ (S := Nat) (fun i => [(1, .vs 7 (steps l)), (5, .pt w 0 0), (7, .it .i64 (Int.ofNat i))]) (fun i lo hp => shed [2] lo = (fun _ => none) ∧ i ≤ l.length ∧ hp = hp1) (fun i => l.length - i) _ ?_ 0 tm lo hp1 ⟨hlo, Nat.zero_le _, rfl⟩ hk
  intro i lo hp ⟨e1, e2, e3⟩
  rw [e1]
  subst e3
  by_cases hi : i < l.length
  · by_cases h60 : i < 60
    · have hge := steps_getD hi
      have hra : (l.getD i sv0).rows.length ≤ 1000000000 := hr _ (by rw [List.getD, List.getElem?_eq_getElem hi]; exact List.getElem_mem hi)
      generalize l.getD i sv0 = s at *
      obtain ⟨bb, st⟩ := step_ok s hra
      have do1 := fun h1 h14 => do_ok (own := false) hW hx hy s.stp h1 h14
      have cl := s.clo
      obtain ⟨k, n, sz, sm, rows, tx, en⟩ := s
      repeat (first | refine EvQ.run ?_ | refine EvQ.fin X.rs ?_ | refine EvQ.fin1 (fun _ => rfl) rfl ?_)
      refine EvQ.lift (fun _ zn => X.pcall st (.gs cl (.nil _)) rfl X.al rfl zn) ?_
      cases bb with
      | false =>
        repeat' (first | refine EvQ.run ?_ | (refine EvQ.pickB rfl rfl rfl ?_) | (refine EvQ.cond rfl (fun h => ?_) (fun h => ?_) <;> ((first | replace h := X.nm h | skip); try have hne := ne_len h)) | (refine EvQ.g1 rfl (fun h => ?_) (fun h => ?_) <;> ((first | replace h := X.nm h | skip); try have hne := ne_len h)) | (refine EvQ.pick rfl (fun _ => rfl) (fun _ => rfl) (fun h => ?_) (fun h => ?_) <;> ((first | replace h := X.nm h | skip); try have hne := ne_len h)) | refine EvQ.fin X.rs ?_ | refine EvQ.fin1 (fun _ => rfl) rfl ?_)
        exact EvQ.go (i + 1) X.kv ⟨X.lo, by omega, rfl⟩ (by omega)
      | true =>
        by_cases h1 : k = 1
        · have z1 : ieq k (Int.ofNat 1) = true := by rw [ieqD]; exact decide_eq_true h1
          repeat' (first | refine EvQ.run ?_ | (refine EvQ.pickB rfl rfl rfl ?_) | (refine EvQ.cond rfl (fun h => ?_) (fun h => ?_) <;> ((first | replace h := X.nm h | skip); try have hne := ne_len h)) | (refine EvQ.g1 rfl (fun h => ?_) (fun h => ?_) <;> ((first | replace h := X.nm h | skip); try have hne := ne_len h)) | (refine EvQ.pick rfl (fun _ => rfl) (fun _ => rfl) (fun h => ?_) (fun h => ?_) <;> ((first | replace h := X.nm h | skip); try have hne := ne_len h)) | refine EvQ.fin X.rs ?_ | refine EvQ.fin1 (fun _ => rfl) rfl ?_)
          exact EvQ.go (i + 1) X.kv ⟨X.lo, by omega, rfl⟩ (by omega)
        · have z1 : ieq k (Int.ofNat 1) = false := by rw [ieqD]; exact decide_eq_false h1
          by_cases h14 : k = 14
          · have z2 : ieq k (Int.ofNat 14) = true := by rw [ieqD]; exact decide_eq_true h14
            repeat' (first | refine EvQ.run ?_ | (refine EvQ.pickB rfl rfl rfl ?_) | (refine EvQ.cond rfl (fun h => ?_) (fun h => ?_) <;> ((first | replace h := X.nm h | skip); try have hne := ne_len h)) | (refine EvQ.g1 rfl (fun h => ?_) (fun h => ?_) <;> ((first | replace h := X.nm h | skip); try have hne := ne_len h)) | (refine EvQ.pick rfl (fun _ => rfl) (fun _ => rfl) (fun h => ?_) (fun h => ?_) <;> ((first | replace h := X.nm h | skip); try have hne := ne_len h)) | refine EvQ.fin X.rs ?_ | refine EvQ.fin1 (fun _ => rfl) rfl ?_)
            exact EvQ.go (i + 1) X.kv ⟨X.lo, by omega, rfl⟩ (by omega)
          · have z2 : ieq k (Int.ofNat 14) = false := by rw [ieqD]; exact decide_eq_false h14
            repeat (first | refine EvQ.run ?_ | refine EvQ.fin X.rs ?_ | refine EvQ.fin1 (fun _ => rfl) rfl ?_)
            refine EvQ.call rfl X.al (do1 h1 h14) ?_
            rintro _ _ ⟨rfl, q⟩
            rw [q]
            repeat' (first | refine EvQ.run ?_ | (refine EvQ.pickB rfl rfl rfl ?_) | (refine EvQ.cond rfl (fun h => ?_) (fun h => ?_) <;> ((first | replace h := X.nm h | skip); try have hne := ne_len h)) | (refine EvQ.g1 rfl (fun h => ?_) (fun h => ?_) <;> ((first | replace h := X.nm h | skip); try have hne := ne_len h)) | (refine EvQ.pick rfl (fun _ => rfl) (fun _ => rfl) (fun h => ?_) (fun h => ?_) <;> ((first | replace h := X.nm h | skip); try have hne := ne_len h)) | refine EvQ.fin X.rs ?_ | refine EvQ.fin1 (fun _ => rfl) rfl ?_)
            exact EvQ.go (i + 1) X.kv ⟨X.lo, by omega, rfl⟩ (by omega)
    · repeat' (first | refine EvQ.run ?_ | (refine EvQ.pickB rfl rfl rfl ?_) | (refine EvQ.cond rfl (fun h => ?_) (fun h => ?_) <;> ((first | replace h := X.nm h | skip); try have hne := ne_len h)) | (refine EvQ.g1 rfl (fun h => ?_) (fun h => ?_) <;> ((first | replace h := X.nm h | skip); try have hne := ne_len h)) | (refine EvQ.pick rfl (fun _ => rfl) (fun _ => rfl) (fun h => ?_) (fun h => ?_) <;> ((first | replace h := X.nm h | skip); try have hne := ne_len h)) | refine EvQ.fin X.rs ?_ | refine EvQ.fin1 (fun _ => rfl) rfl ?_)
      exact EvQ.xt (.mk' X.kv ⟨rfl, rfl⟩)
  · repeat' (first | refine EvQ.run ?_ | (refine EvQ.pickB rfl rfl rfl ?_) | (refine EvQ.cond rfl (fun h => ?_) (fun h => ?_) <;> ((first | replace h := X.nm h | skip); try have hne := ne_len h)) | (refine EvQ.g1 rfl (fun h => ?_) (fun h => ?_) <;> ((first | replace h := X.nm h | skip); try have hne := ne_len h)) | (refine EvQ.pick rfl (fun _ => rfl) (fun _ => rfl) (fun h => ?_) (fun h => ?_) <;> ((first | replace h := X.nm h | skip); try have hne := ne_len h)) | refine EvQ.fin X.rs ?_ | refine EvQ.fin1 (fun _ => rfl) rfl ?_)
    exact EvQ.xt (.mk' X.kv ⟨rfl, rfl⟩)
set_option maxHeartbeats 32000000 in
theorem nob_run (c : Cfg) (l : List StpV) (hl : l.length ≤ 2000000) (hr : ∀ a, a ∈ l → a.rows.length ≤ 1000000000) : ∃ h, EvD Fq (stepD d4 [.ag (rowCf c), .vs 7 (steps l)] h0) (Rt (.bo true) h) := by
  have hsl := steps_length l
  by_cases hc : okP c
  · have wn := wdN_ok (own := false) h0 c hc (Nat.le_refl _)
    obtain ⟨bud, sh, st, wnn, ls, tr, ups⟩ := c
    refine EvQ.law ?_
    repeat (first | refine EvQ.run ?_ | refine EvQ.fin X.rs ?_ | refine EvQ.fin1 (fun _ => rfl) rfl ?_)
    refine EvQ.call rfl X.al wn ?_
    rintro _ hp1 ⟨w, p, s, a, b, x, y, rfl, hW, hx, hy, hp, -, -, -⟩
    have he := heard_ok (own := false) hW
    have to := told_ok (own := false) hW
    have li := life_ok (own := false) hW hx hy
    have pr := proxy_ok (own := false) hW
    have un := under_ok (own := false) hp
    repeat (first | refine EvQ.run ?_ | refine EvQ.fin X.rs ?_ | refine EvQ.fin1 (fun _ => rfl) rfl ?_)
    refine EvQ.loop (nob_loop hp1 _ w p a b x y hW hx hy l hl hr _ ?_ _ ?_) ?_
    · exact X.lo
    · exact X.kv
    rintro _ ⟨tm, lo, hp3, rfl, rfl, rfl⟩
    repeat (first | refine EvQ.run ?_ | refine EvQ.fin X.rs ?_ | refine EvQ.fin1 (fun _ => rfl) rfl ?_)
    refine EvQ.call rfl X.al he ?_
    rintro _ _ ⟨rfl, q⟩
    rw [q]
    repeat (first | refine EvQ.run ?_ | refine EvQ.fin X.rs ?_ | refine EvQ.fin1 (fun _ => rfl) rfl ?_)
    refine EvQ.call rfl X.al to ?_
    rintro _ _ ⟨rfl, q⟩
    rw [q]
    repeat (first | refine EvQ.run ?_ | refine EvQ.fin X.rs ?_ | refine EvQ.fin1 (fun _ => rfl) rfl ?_)
    refine EvQ.call rfl X.al li ?_
    rintro _ _ ⟨rfl, q⟩
    rw [q]
    repeat (first | refine EvQ.run ?_ | refine EvQ.fin X.rs ?_ | refine EvQ.fin1 (fun _ => rfl) rfl ?_)
    refine EvQ.call rfl X.al pr ?_
    rintro _ _ ⟨rfl, q⟩
    rw [q]
    repeat (first | refine EvQ.run ?_ | refine EvQ.fin X.rs ?_ | refine EvQ.fin1 (fun _ => rfl) rfl ?_)
    refine EvQ.call rfl X.al pr ?_
    rintro _ _ ⟨rfl, q⟩
    rw [q]
    repeat (first | refine EvQ.run ?_ | refine EvQ.fin X.rs ?_ | refine EvQ.fin1 (fun _ => rfl) rfl ?_)
    refine EvQ.call rfl X.al un ?_
    rintro _ _ ⟨rfl, q⟩
    rw [q]
    repeat' (first | refine EvQ.run ?_ | refine EvQ.lift (fun _ zn => X.pcall (cr_ok _) X.cq rfl X.al rfl zn) ?_ | refine EvQ.lift (fun _ zn => X.pcallG (cr_ok _) rfl X.cq rfl X.al rfl zn) ?_ | refine EvQ.lift (fun _ zn => X.pcallC (cr_ok _) rfl X.cq rfl X.al rfl zn) ?_ | refine EvQ.lift (fun _ zn => X.pcallT (cr_ok _) (by decide) X.cq rfl X.al rfl zn) ?_ | refine EvQ.lift (fun _ zn => X.call rfl X.al (cr_ok _) zn) ?_ | (refine EvQ.pickB rfl rfl rfl ?_) | (refine EvQ.cond rfl (fun h => ?_) (fun h => ?_) <;> ((first | replace h := X.nm h | skip); try have hne := ne_len h)) | (refine EvQ.g1 rfl (fun h => ?_) (fun h => ?_) <;> ((first | replace h := X.nm h | skip); try have hne := ne_len h)) | (refine EvQ.pick rfl (fun _ => rfl) (fun _ => rfl) (fun h => ?_) (fun h => ?_) <;> ((first | replace h := X.nm h | skip); try have hne := ne_len h)) | refine EvQ.fin X.rs ?_ | refine EvQ.fin1 (fun _ => rfl) rfl ?_)
    all_goals exact ⟨_, rfl⟩
  · have wn := wdN_bad (own := false) h0 c hc (Nat.le_refl _)
    obtain ⟨bud, sh, st, wnn, ls, tr, ups⟩ := c
    refine EvQ.law ?_
    repeat (first | refine EvQ.run ?_ | refine EvQ.fin X.rs ?_ | refine EvQ.fin1 (fun _ => rfl) rfl ?_)
    refine EvQ.call rfl X.al wn ?_
    rintro _ hp1 rfl
    repeat' (first | refine EvQ.run ?_ | refine EvQ.lift (fun _ zn => X.pcall (cr_ok _) X.cq rfl X.al rfl zn) ?_ | refine EvQ.lift (fun _ zn => X.pcallG (cr_ok _) rfl X.cq rfl X.al rfl zn) ?_ | refine EvQ.lift (fun _ zn => X.pcallC (cr_ok _) rfl X.cq rfl X.al rfl zn) ?_ | refine EvQ.lift (fun _ zn => X.pcallT (cr_ok _) (by decide) X.cq rfl X.al rfl zn) ?_ | refine EvQ.lift (fun _ zn => X.call rfl X.al (cr_ok _) zn) ?_ | (refine EvQ.pickB rfl rfl rfl ?_) | (refine EvQ.cond rfl (fun h => ?_) (fun h => ?_) <;> ((first | replace h := X.nm h | skip); try have hne := ne_len h)) | (refine EvQ.g1 rfl (fun h => ?_) (fun h => ?_) <;> ((first | replace h := X.nm h | skip); try have hne := ne_len h)) | (refine EvQ.pick rfl (fun _ => rfl) (fun _ => rfl) (fun h => ?_) (fun h => ?_) <;> ((first | replace h := X.nm h | skip); try have hne := ne_len h)) | refine EvQ.fin X.rs ?_ | refine EvQ.fin1 (fun _ => rfl) rfl ?_)
    all_goals exact ⟨_, rfl⟩
theorem cf_of {vs : List V} (h : ShL [.it .i64, .fl .f64, .it .i64, .it .i64, .it .i64, .it .i64, .it .i64] vs) : ∃ c : Cfg, vs = rowCf c := by
  obtain ⟨v1, q1, rfl, a1, h, z1⟩ := h.cons'
  obtain ⟨v2, q2, rfl, a2, h, z2⟩ := h.cons'
  obtain ⟨v3, q3, rfl, a3, h, z3⟩ := h.cons'
  obtain ⟨v4, q4, rfl, a4, h, z4⟩ := h.cons'
  obtain ⟨v5, q5, rfl, a5, h, z5⟩ := h.cons'
  obtain ⟨v6, q6, rfl, a6, h, z6⟩ := h.cons'
  obtain ⟨v7, q7, rfl, a7, h, z7⟩ := h.cons'
  cases h.nil'
  obtain ⟨k1, rfl, _⟩ := int_of a1
  obtain ⟨k2, rfl⟩ : ∃ b, v2 = .fl .f64 b := by cases a2 with | fl k b => exact ⟨b, rfl⟩
  obtain ⟨k3, rfl, _⟩ := int_of a3
  obtain ⟨k4, rfl, _⟩ := int_of a4
  obtain ⟨k5, rfl, _⟩ := int_of a5
  obtain ⟨k6, rfl, _⟩ := int_of a6
  obtain ⟨k7, rfl, _⟩ := int_of a7
  exact ⟨⟨k1, k2, k3, k4, k5, k6, k7⟩, rfl⟩
theorem law (xs : List V) (hx : ShP [(true, [.it .i64, .fl .f64, .it .i64, .it .i64, .it .i64, .it .i64, .it .i64]), (false, [.sl [.it .i64, .it .i64, .it .i64, .it .i64, .sl [.st, .st, .it .i64], .st, .bo]])] xs) (hb : sizP xs ≤ 1048576) :
    ∃ L k hp', runF (callF Fq L k) L c4 xs h0 = .ret (.bo true) hp' := by
  obtain ⟨y, r, rfl, h3, h, e3⟩ := hx.grp'
  obtain ⟨z, r, rfl, h4, h, e4⟩ := h.one'
  cases h.nil'
  obtain ⟨c, rfl⟩ := cf_of h3
  obtain ⟨es, rfl, h5, e5⟩ := slice_of h4
  obtain ⟨l, rfl, h6, h7⟩ := steps_of h5
  exact law_of d4 rfl (nob_run c l (by omega) (fun a ha => by have := h7 a ha; omega))
theorem yes_hp {r : CR} (h : yes r = true) : r = .ret (.bo true) (crHp r) := by
  obtain ⟨hp, e⟩ := yes_ret h
  rw [e]; rfl
end Go.Proofs.YtfnoiklmcmboeaaGreatDoor.cnw
