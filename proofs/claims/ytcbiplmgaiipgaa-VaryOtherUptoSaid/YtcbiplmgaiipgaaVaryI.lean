import Derived.Test.YtcbiplmgaiipgaaEvE
import Derived.Test.YtcbiplmgaiipgaaEvE
import Derived.Test.YtcbiplmgaiipgaaVaryH
import Derived.Test.YtcbiplmgaiipgaaWith
set_option linter.unusedVariables false
set_option linter.unusedSimpArgs false
-- VaryOther: the walk
namespace Go.Proofs.Ytcbiplmgaiipgaa
open Go hiding Fn
open Ev tab
attribute [local irreducible] EvD EvL EvC evGds evLs C.run sK bK gK pK fK lpB stepD matchS keyS starsS
theorem any_snoc {p : List Nat → Bool} {l : List (List Nat)} {i : Nat} (h : i < l.length) : (l.take (i + 1)).any p = ((l.take i).any p || p (l.getD i [])) := by
  rw [take_getD h []]; simp
set_option maxHeartbeats 8000000 in
theorem other_go (e : En) (q : Rq) (name value : List Nat) (n : Int) (h1 : FB e.q.fs 1100000) (h2 : FB e.s.fs 1100000) (h3 : FB q.fs 1100000) (hb : smB e = true) (hl : lkB q.fs = true) (hnm : name.length ≤ 60) (hv : value.length ≤ 60) (tn : Txt name) (tv : Txt value) :
    ∃ h, EvD F (stepD d11 [.ag (rowEn e), .ag (rowRq q), .st name, .st value, .it .i64 n] h0) (Rt (.bo true) h) := by
  have s1 := small_ok e (h1.bok (by decide)) (h2.bok (by decide))
  have s2 := lk_ok q.fs (h3.bok (by decide))
  rw [hb] at s1
  rw [hl] at s2
  simp only [smB, Bool.and_eq_true, decide_eq_true_eq] at hb
  have j1 := lkB_jok hb.1
  have j2 := lkB_jok hb.2.1
  have j3 := lkB_jok hl
  obtain ⟨k, k1, k2, hw⟩ := within_p n 0 q.fs.length (by omega) (by omega) (by have := h3.n; omega)
  obtain ⟨k, rfl⟩ := Int.eq_ofNat_of_zero_le k1
  have hw : EvP F 26 c26 [.it .i64 n, .it .i64 0, .it .i64 (Int.ofNat q.fs.length)] [.it .i64 (Int.ofNat k)] := hw
  have hk : k ≤ q.fs.length := by omega
  have hqn := h3.n
  have j4 := putI_jok hl k (f := (name, value)) ⟨hnm, hv⟩
  have r1 := rstars_ok e.s.fs j2 h2.t
  have r2 := rall_ok q.fs name j3
  have m1 := match_ok e q j1 j2 j3 h2.t
  have m2 := match_ok e (withQ q (putI q.fs k (name, value))) j1 j2 j4 h2.t
  have hsl := starsS_len j2
  have o1 := fun names hs h => other_same (e := e) (q := q) (k := k) (f := (name, value)) (names := names) hs h
  have o2 := fun names hs h h0' => other_new (e := e) (q := q) (k := k) (f := (name, value)) (names := names) hs h h0'
  have o3 : starsS e.s.fs = none → matchS e q = false ∧ matchS e (withQ q (putI q.fs k (name, value))) = false := fun h => by
    unfold matchS; rw [h]; exact ⟨rfl, rfl⟩
  have c1 := rowEn_clo e
  have c2 := rowRq_clo q
  have hp := pinI q.fs k (name, value)
  refine EvQ.law ?_
  repeat' (first | refine EvQ.run ?_ | refine EvQ.lift (fun _ zn => X.pcall (s1) X.cq rfl X.al rfl zn) ?_ | refine EvQ.lift (fun _ zn => X.pcallG (s1) rfl X.cq rfl X.al rfl zn) ?_ | refine EvQ.lift (fun _ zn => X.pcallC (s1) rfl X.cq rfl X.al rfl zn) ?_ | refine EvQ.lift (fun _ zn => X.pcallT (s1) (by decide) X.cq rfl X.al rfl zn) ?_ | refine EvQ.lift (fun _ zn => X.pcall (s2) X.cq rfl X.al rfl zn) ?_ | refine EvQ.lift (fun _ zn => X.pcallG (s2) rfl X.cq rfl X.al rfl zn) ?_ | refine EvQ.lift (fun _ zn => X.pcallC (s2) rfl X.cq rfl X.al rfl zn) ?_ | refine EvQ.lift (fun _ zn => X.pcallT (s2) (by decide) X.cq rfl X.al rfl zn) ?_ | (refine EvQ.pickB rfl rfl rfl ?_) | (refine EvQ.cond rfl (fun h => ?_) (fun h => ?_) <;> ((first | replace h := X.nm h | skip); try have hne := ne_len h)) | (refine EvQ.g1 rfl (fun h => ?_) (fun h => ?_) <;> ((first | replace h := X.nm h | skip); try have hne := ne_len h)) | (refine EvQ.pick rfl (fun _ => rfl) (fun _ => rfl) (fun h => ?_) (fun h => ?_) <;> ((first | replace h := X.nm h | skip); try have hne := ne_len h)) | refine EvQ.fin X.rs ?_ | refine EvQ.fin1 (fun _ => rfl) rfl ?_)
  first | refine EvQ.lift (fun _ zn => X.pcall (r1) X.cq rfl X.al rfl zn) ?_ | refine EvQ.lift (fun _ zn => X.pcallG (r1) rfl X.cq rfl X.al rfl zn) ?_ | refine EvQ.lift (fun _ zn => X.pcallC (r1) rfl X.cq rfl X.al rfl zn) ?_ | refine EvQ.lift (fun _ zn => X.pcallT (r1) (by decide) X.cq rfl X.al rfl zn) ?_
  try refine EvQ.run ?_
  generalize hst : starsS e.s.fs = st at *
  generalize hnam : st.getD [] = names at *
  refine EvQ.loop (QL := XtQ 0 [(2, .st name), (3, .st value), (4, .it .i64 n), (5, .lp 5 0), (6, .lp 6 0), (12, .bo st.isNone), (13, .bo (names.any fun x => decide (x = name)))] (fun lo hp => lo = lset (lset (fun _ => none) 5 (rowEn e)) 6 (rowRq q) ∧ hp = h0)) ?_ ?_
  · refine EvL.invQ (S := Nat × Bool) (fun x => [(2, .st name), (3, .st value), (4, .it .i64 n), (5, .lp 5 0), (6, .lp 6 0), (11, .vs 1 (txs names)), (12, .bo st.isNone), (13, .bo x.2), (14, .it .i64 (Int.ofNat x.1))]) (fun x lo hp => lo = lset (lset (fun _ => none) 5 (rowEn e)) 6 (rowRq q) ∧ hp = h0 ∧ x.1 ≤ names.length ∧ x.2 = (names.take x.1).any fun x => decide (x = name)) (fun x => names.length - x.1) _ ?_ (0, false) _ _ _ ⟨rfl, rfl, Nat.zero_le _, rfl⟩ X.kv
    intro ⟨i, b⟩ lo hp' ⟨e1, e2, e3, e4⟩
    simp only at e3 e4
    subst e1
    subst e2
    have ha := fun h : i < names.length => any_snoc (p := fun x => decide (x = name)) h
    rw [← e4] at ha
    clear s1 s2 r1 r2 m1 m2 o1 o2 o3 hw c1 c2 hp j1 j2 j3 j4
    cases b
    all_goals
      repeat' (first | refine EvQ.run ?_ | (refine EvQ.pickB rfl rfl rfl ?_) | (refine EvQ.cond rfl (fun h => ?_) (fun h => ?_) <;> ((first | replace h := X.nm h | skip); try have hne := ne_len h)) | (refine EvQ.g1 rfl (fun h => ?_) (fun h => ?_) <;> ((first | replace h := X.nm h | skip); try have hne := ne_len h)) | (refine EvQ.pick rfl (fun _ => rfl) (fun _ => rfl) (fun h => ?_) (fun h => ?_) <;> ((first | replace h := X.nm h | skip); try have hne := ne_len h)) | refine EvQ.fin X.rs ?_ | refine EvQ.fin1 (fun _ => rfl) rfl ?_)
    all_goals first
      | (refine EvQ.go (i + 1, _) X.kv ⟨shed16 _ _, rfl, by show i + 1 ≤ _; omega, ?_⟩ (by show names.length - (i + 1) < names.length - i; omega)
         show _ = (names.take (i + 1)).any _
         rw [ha (by assumption)]
         first | rfl | exact beqLD _ _)
      | (refine EvQ.xt (XtQ.mk' (kvc rfl (kvc rfl (kvc rfl (kvc rfl (kvc rfl (kvc rfl (kvc (congrArg V.bo ?_) rfl))))))) ⟨shed16 _ _, rfl⟩)
         rw [List.take_of_length_le (by omega)] at e4
         exact e4)
      | trace_state
  · rintro _ ⟨tm, lo, hp', rfl, rfl, rfl⟩
    have hln : 0 + (fds (q.fs.take k)).length + 1 + (fds (q.fs.drop k)).length = ([] ++ fds (q.fs.take k) ++ [fd (name, value)] ++ fds (q.fs.drop k)).length := by simp; omega
    have key : ∃ A B I, matchS e q = A ∧ matchS e (withQ q (putI q.fs k (name, value))) = B ∧ (names.any fun x => decide (x = name)) = I ∧
        ((st = none ∧ A = false ∧ B = false) ∨ (∃ nn, st = some nn ∧ I = false ∧ B = A) ∨ (∃ nn, st = some nn ∧ I = true ∧ 0 < (valsF q.fs name).length) ∨ (∃ nn, st = some nn ∧ I = true ∧ (¬ 0 < (valsF q.fs name).length) ∧ (A && B) = false)) := by
      refine ⟨_, _, _, rfl, rfl, rfl, ?_⟩
      cases st with
      | none => exact .inl ⟨rfl, o3 rfl⟩
      | some nn =>
        have hnn : nn = names := hnam
        subst hnn
        cases hi : nn.any fun x => decide (x = name) with
        | false => exact .inr (.inl ⟨nn, rfl, rfl, o1 nn rfl hi⟩)
        | true =>
          by_cases hn : 0 < (valsF q.fs name).length
          · exact .inr (.inr (.inl ⟨nn, rfl, rfl, hn⟩))
          · exact .inr (.inr (.inr ⟨nn, rfl, rfl, hn, o2 nn rfl hi hn⟩))
    obtain ⟨A, B, I, eA, eB, eI, hcase⟩ := key
    rw [eA] at m1
    rw [eB] at m2
    rw [eI]
    clear o1 o2 o3 eA eB eI hnam hst r1 hsl
    rcases hcase with ⟨rfl, rfl, rfl⟩ | ⟨nn, rfl, rfl, rfl⟩ | ⟨nn, rfl, rfl, hn⟩ | ⟨nn, rfl, rfl, hn, hAB⟩
    ·
      refine EvQ.run ?_
      first | refine EvQ.lift (fun _ zn => X.pcall (hw) X.cq rfl X.al rfl zn) ?_ | refine EvQ.lift (fun _ zn => X.pcallG (hw) rfl X.cq rfl X.al rfl zn) ?_ | refine EvQ.lift (fun _ zn => X.pcallC (hw) rfl X.cq rfl X.al rfl zn) ?_ | refine EvQ.lift (fun _ zn => X.pcallT (hw) (by decide) X.cq rfl X.al rfl zn) ?_
      try refine EvQ.run ?_
      first | refine EvQ.lift (fun _ zn => X.pcall (of38_ok name value) X.cq rfl X.al rfl zn) ?_ | refine EvQ.lift (fun _ zn => X.pcallG (of38_ok name value) rfl X.cq rfl X.al rfl zn) ?_ | refine EvQ.lift (fun _ zn => X.pcallC (of38_ok name value) rfl X.cq rfl X.al rfl zn) ?_ | refine EvQ.lift (fun _ zn => X.pcallT (of38_ok name value) (by decide) X.cq rfl X.al rfl zn) ?_
      try refine EvQ.run ?_
      first | refine EvQ.lift (fun _ zn => X.pcall (r2) X.cq rfl X.al rfl zn) ?_ | refine EvQ.lift (fun _ zn => X.pcallG (r2) rfl X.cq rfl X.al rfl zn) ?_ | refine EvQ.lift (fun _ zn => X.pcallC (r2) rfl X.cq rfl X.al rfl zn) ?_ | refine EvQ.lift (fun _ zn => X.pcallT (r2) (by decide) X.cq rfl X.al rfl zn) ?_
      try refine EvQ.run ?_
      first | refine EvQ.lift (fun _ zn => X.pcall (m1) X.cq rfl X.al rfl zn) ?_ | refine EvQ.lift (fun _ zn => X.pcallG (m1) rfl X.cq rfl X.al rfl zn) ?_ | refine EvQ.lift (fun _ zn => X.pcallC (m1) rfl X.cq rfl X.al rfl zn) ?_ | refine EvQ.lift (fun _ zn => X.pcallT (m1) (by decide) X.cq rfl X.al rfl zn) ?_
      try refine EvQ.run ?_
      refine EvQ.lift (fun _ zn => X.pcall m2 (.gs c1 (.g (closeCs_rq (putI q.fs k (name, value)) _ _ _ _ _ X.hq X.hl hp hln (Nat.le_trans j4.1 (by decide))) (.nil _))) rfl X.al rfl zn) ?_
      refine EvQ.run ?_
      first | refine EvQ.lift (fun _ zn => X.pcall (varyruns_ok) X.cq rfl X.al rfl zn) ?_ | refine EvQ.lift (fun _ zn => X.pcallG (varyruns_ok) rfl X.cq rfl X.al rfl zn) ?_ | refine EvQ.lift (fun _ zn => X.pcallC (varyruns_ok) rfl X.cq rfl X.al rfl zn) ?_ | refine EvQ.lift (fun _ zn => X.pcallT (varyruns_ok) (by decide) X.cq rfl X.al rfl zn) ?_
      try refine EvQ.run ?_
      refine EvQ.fin X.rs ?_
      exact ⟨_, rfl⟩
    · cases B
      ·
        refine EvQ.run ?_
        first | refine EvQ.lift (fun _ zn => X.pcall (hw) X.cq rfl X.al rfl zn) ?_ | refine EvQ.lift (fun _ zn => X.pcallG (hw) rfl X.cq rfl X.al rfl zn) ?_ | refine EvQ.lift (fun _ zn => X.pcallC (hw) rfl X.cq rfl X.al rfl zn) ?_ | refine EvQ.lift (fun _ zn => X.pcallT (hw) (by decide) X.cq rfl X.al rfl zn) ?_
        try refine EvQ.run ?_
        first | refine EvQ.lift (fun _ zn => X.pcall (of38_ok name value) X.cq rfl X.al rfl zn) ?_ | refine EvQ.lift (fun _ zn => X.pcallG (of38_ok name value) rfl X.cq rfl X.al rfl zn) ?_ | refine EvQ.lift (fun _ zn => X.pcallC (of38_ok name value) rfl X.cq rfl X.al rfl zn) ?_ | refine EvQ.lift (fun _ zn => X.pcallT (of38_ok name value) (by decide) X.cq rfl X.al rfl zn) ?_
        try refine EvQ.run ?_
        first | refine EvQ.lift (fun _ zn => X.pcall (r2) X.cq rfl X.al rfl zn) ?_ | refine EvQ.lift (fun _ zn => X.pcallG (r2) rfl X.cq rfl X.al rfl zn) ?_ | refine EvQ.lift (fun _ zn => X.pcallC (r2) rfl X.cq rfl X.al rfl zn) ?_ | refine EvQ.lift (fun _ zn => X.pcallT (r2) (by decide) X.cq rfl X.al rfl zn) ?_
        try refine EvQ.run ?_
        first | refine EvQ.lift (fun _ zn => X.pcall (m1) X.cq rfl X.al rfl zn) ?_ | refine EvQ.lift (fun _ zn => X.pcallG (m1) rfl X.cq rfl X.al rfl zn) ?_ | refine EvQ.lift (fun _ zn => X.pcallC (m1) rfl X.cq rfl X.al rfl zn) ?_ | refine EvQ.lift (fun _ zn => X.pcallT (m1) (by decide) X.cq rfl X.al rfl zn) ?_
        try refine EvQ.run ?_
        refine EvQ.lift (fun _ zn => X.pcall m2 (.gs c1 (.g (closeCs_rq (putI q.fs k (name, value)) _ _ _ _ _ X.hq X.hl hp hln (Nat.le_trans j4.1 (by decide))) (.nil _))) rfl X.al rfl zn) ?_
        refine EvQ.run ?_
        first | refine EvQ.lift (fun _ zn => X.pcall (varyruns_ok) X.cq rfl X.al rfl zn) ?_ | refine EvQ.lift (fun _ zn => X.pcallG (varyruns_ok) rfl X.cq rfl X.al rfl zn) ?_ | refine EvQ.lift (fun _ zn => X.pcallC (varyruns_ok) rfl X.cq rfl X.al rfl zn) ?_ | refine EvQ.lift (fun _ zn => X.pcallT (varyruns_ok) (by decide) X.cq rfl X.al rfl zn) ?_
        try refine EvQ.run ?_
        refine EvQ.fin X.rs ?_
        exact ⟨_, rfl⟩
      ·
        refine EvQ.run ?_
        first | refine EvQ.lift (fun _ zn => X.pcall (hw) X.cq rfl X.al rfl zn) ?_ | refine EvQ.lift (fun _ zn => X.pcallG (hw) rfl X.cq rfl X.al rfl zn) ?_ | refine EvQ.lift (fun _ zn => X.pcallC (hw) rfl X.cq rfl X.al rfl zn) ?_ | refine EvQ.lift (fun _ zn => X.pcallT (hw) (by decide) X.cq rfl X.al rfl zn) ?_
        try refine EvQ.run ?_
        first | refine EvQ.lift (fun _ zn => X.pcall (of38_ok name value) X.cq rfl X.al rfl zn) ?_ | refine EvQ.lift (fun _ zn => X.pcallG (of38_ok name value) rfl X.cq rfl X.al rfl zn) ?_ | refine EvQ.lift (fun _ zn => X.pcallC (of38_ok name value) rfl X.cq rfl X.al rfl zn) ?_ | refine EvQ.lift (fun _ zn => X.pcallT (of38_ok name value) (by decide) X.cq rfl X.al rfl zn) ?_
        try refine EvQ.run ?_
        first | refine EvQ.lift (fun _ zn => X.pcall (r2) X.cq rfl X.al rfl zn) ?_ | refine EvQ.lift (fun _ zn => X.pcallG (r2) rfl X.cq rfl X.al rfl zn) ?_ | refine EvQ.lift (fun _ zn => X.pcallC (r2) rfl X.cq rfl X.al rfl zn) ?_ | refine EvQ.lift (fun _ zn => X.pcallT (r2) (by decide) X.cq rfl X.al rfl zn) ?_
        try refine EvQ.run ?_
        first | refine EvQ.lift (fun _ zn => X.pcall (m1) X.cq rfl X.al rfl zn) ?_ | refine EvQ.lift (fun _ zn => X.pcallG (m1) rfl X.cq rfl X.al rfl zn) ?_ | refine EvQ.lift (fun _ zn => X.pcallC (m1) rfl X.cq rfl X.al rfl zn) ?_ | refine EvQ.lift (fun _ zn => X.pcallT (m1) (by decide) X.cq rfl X.al rfl zn) ?_
        try refine EvQ.run ?_
        refine EvQ.lift (fun _ zn => X.pcall m2 (.gs c1 (.g (closeCs_rq (putI q.fs k (name, value)) _ _ _ _ _ X.hq X.hl hp hln (Nat.le_trans j4.1 (by decide))) (.nil _))) rfl X.al rfl zn) ?_
        refine EvQ.run ?_
        first | refine EvQ.lift (fun _ zn => X.pcall (varyruns_ok) X.cq rfl X.al rfl zn) ?_ | refine EvQ.lift (fun _ zn => X.pcallG (varyruns_ok) rfl X.cq rfl X.al rfl zn) ?_ | refine EvQ.lift (fun _ zn => X.pcallC (varyruns_ok) rfl X.cq rfl X.al rfl zn) ?_ | refine EvQ.lift (fun _ zn => X.pcallT (varyruns_ok) (by decide) X.cq rfl X.al rfl zn) ?_
        try refine EvQ.run ?_
        refine EvQ.fin X.rs ?_
        exact ⟨_, rfl⟩
    · cases A <;> cases B
      ·
        refine EvQ.run ?_
        first | refine EvQ.lift (fun _ zn => X.pcall (hw) X.cq rfl X.al rfl zn) ?_ | refine EvQ.lift (fun _ zn => X.pcallG (hw) rfl X.cq rfl X.al rfl zn) ?_ | refine EvQ.lift (fun _ zn => X.pcallC (hw) rfl X.cq rfl X.al rfl zn) ?_ | refine EvQ.lift (fun _ zn => X.pcallT (hw) (by decide) X.cq rfl X.al rfl zn) ?_
        try refine EvQ.run ?_
        first | refine EvQ.lift (fun _ zn => X.pcall (of38_ok name value) X.cq rfl X.al rfl zn) ?_ | refine EvQ.lift (fun _ zn => X.pcallG (of38_ok name value) rfl X.cq rfl X.al rfl zn) ?_ | refine EvQ.lift (fun _ zn => X.pcallC (of38_ok name value) rfl X.cq rfl X.al rfl zn) ?_ | refine EvQ.lift (fun _ zn => X.pcallT (of38_ok name value) (by decide) X.cq rfl X.al rfl zn) ?_
        try refine EvQ.run ?_
        first | refine EvQ.lift (fun _ zn => X.pcall (r2) X.cq rfl X.al rfl zn) ?_ | refine EvQ.lift (fun _ zn => X.pcallG (r2) rfl X.cq rfl X.al rfl zn) ?_ | refine EvQ.lift (fun _ zn => X.pcallC (r2) rfl X.cq rfl X.al rfl zn) ?_ | refine EvQ.lift (fun _ zn => X.pcallT (r2) (by decide) X.cq rfl X.al rfl zn) ?_
        try refine EvQ.run ?_
        first | refine EvQ.lift (fun _ zn => X.pcall (m1) X.cq rfl X.al rfl zn) ?_ | refine EvQ.lift (fun _ zn => X.pcallG (m1) rfl X.cq rfl X.al rfl zn) ?_ | refine EvQ.lift (fun _ zn => X.pcallC (m1) rfl X.cq rfl X.al rfl zn) ?_ | refine EvQ.lift (fun _ zn => X.pcallT (m1) (by decide) X.cq rfl X.al rfl zn) ?_
        try refine EvQ.run ?_
        refine EvQ.lift (fun _ zn => X.pcall m2 (.gs c1 (.g (closeCs_rq (putI q.fs k (name, value)) _ _ _ _ _ X.hq X.hl hp hln (Nat.le_trans j4.1 (by decide))) (.nil _))) rfl X.al rfl zn) ?_
        refine EvQ.run ?_
        first | refine EvQ.lift (fun _ zn => X.pcall (varyruns_ok) X.cq rfl X.al rfl zn) ?_ | refine EvQ.lift (fun _ zn => X.pcallG (varyruns_ok) rfl X.cq rfl X.al rfl zn) ?_ | refine EvQ.lift (fun _ zn => X.pcallC (varyruns_ok) rfl X.cq rfl X.al rfl zn) ?_ | refine EvQ.lift (fun _ zn => X.pcallT (varyruns_ok) (by decide) X.cq rfl X.al rfl zn) ?_
        try refine EvQ.run ?_
        refine EvQ.fin X.rs ?_
        exact ⟨_, rfl⟩
      ·
        refine EvQ.run ?_
        first | refine EvQ.lift (fun _ zn => X.pcall (hw) X.cq rfl X.al rfl zn) ?_ | refine EvQ.lift (fun _ zn => X.pcallG (hw) rfl X.cq rfl X.al rfl zn) ?_ | refine EvQ.lift (fun _ zn => X.pcallC (hw) rfl X.cq rfl X.al rfl zn) ?_ | refine EvQ.lift (fun _ zn => X.pcallT (hw) (by decide) X.cq rfl X.al rfl zn) ?_
        try refine EvQ.run ?_
        first | refine EvQ.lift (fun _ zn => X.pcall (of38_ok name value) X.cq rfl X.al rfl zn) ?_ | refine EvQ.lift (fun _ zn => X.pcallG (of38_ok name value) rfl X.cq rfl X.al rfl zn) ?_ | refine EvQ.lift (fun _ zn => X.pcallC (of38_ok name value) rfl X.cq rfl X.al rfl zn) ?_ | refine EvQ.lift (fun _ zn => X.pcallT (of38_ok name value) (by decide) X.cq rfl X.al rfl zn) ?_
        try refine EvQ.run ?_
        first | refine EvQ.lift (fun _ zn => X.pcall (r2) X.cq rfl X.al rfl zn) ?_ | refine EvQ.lift (fun _ zn => X.pcallG (r2) rfl X.cq rfl X.al rfl zn) ?_ | refine EvQ.lift (fun _ zn => X.pcallC (r2) rfl X.cq rfl X.al rfl zn) ?_ | refine EvQ.lift (fun _ zn => X.pcallT (r2) (by decide) X.cq rfl X.al rfl zn) ?_
        try refine EvQ.run ?_
        first | refine EvQ.lift (fun _ zn => X.pcall (m1) X.cq rfl X.al rfl zn) ?_ | refine EvQ.lift (fun _ zn => X.pcallG (m1) rfl X.cq rfl X.al rfl zn) ?_ | refine EvQ.lift (fun _ zn => X.pcallC (m1) rfl X.cq rfl X.al rfl zn) ?_ | refine EvQ.lift (fun _ zn => X.pcallT (m1) (by decide) X.cq rfl X.al rfl zn) ?_
        try refine EvQ.run ?_
        refine EvQ.lift (fun _ zn => X.pcall m2 (.gs c1 (.g (closeCs_rq (putI q.fs k (name, value)) _ _ _ _ _ X.hq X.hl hp hln (Nat.le_trans j4.1 (by decide))) (.nil _))) rfl X.al rfl zn) ?_
        refine EvQ.run ?_
        first | refine EvQ.lift (fun _ zn => X.pcall (varyruns_ok) X.cq rfl X.al rfl zn) ?_ | refine EvQ.lift (fun _ zn => X.pcallG (varyruns_ok) rfl X.cq rfl X.al rfl zn) ?_ | refine EvQ.lift (fun _ zn => X.pcallC (varyruns_ok) rfl X.cq rfl X.al rfl zn) ?_ | refine EvQ.lift (fun _ zn => X.pcallT (varyruns_ok) (by decide) X.cq rfl X.al rfl zn) ?_
        try refine EvQ.run ?_
        refine EvQ.fin X.rs ?_
        exact ⟨_, rfl⟩
      ·
        refine EvQ.run ?_
        first | refine EvQ.lift (fun _ zn => X.pcall (hw) X.cq rfl X.al rfl zn) ?_ | refine EvQ.lift (fun _ zn => X.pcallG (hw) rfl X.cq rfl X.al rfl zn) ?_ | refine EvQ.lift (fun _ zn => X.pcallC (hw) rfl X.cq rfl X.al rfl zn) ?_ | refine EvQ.lift (fun _ zn => X.pcallT (hw) (by decide) X.cq rfl X.al rfl zn) ?_
        try refine EvQ.run ?_
        first | refine EvQ.lift (fun _ zn => X.pcall (of38_ok name value) X.cq rfl X.al rfl zn) ?_ | refine EvQ.lift (fun _ zn => X.pcallG (of38_ok name value) rfl X.cq rfl X.al rfl zn) ?_ | refine EvQ.lift (fun _ zn => X.pcallC (of38_ok name value) rfl X.cq rfl X.al rfl zn) ?_ | refine EvQ.lift (fun _ zn => X.pcallT (of38_ok name value) (by decide) X.cq rfl X.al rfl zn) ?_
        try refine EvQ.run ?_
        first | refine EvQ.lift (fun _ zn => X.pcall (r2) X.cq rfl X.al rfl zn) ?_ | refine EvQ.lift (fun _ zn => X.pcallG (r2) rfl X.cq rfl X.al rfl zn) ?_ | refine EvQ.lift (fun _ zn => X.pcallC (r2) rfl X.cq rfl X.al rfl zn) ?_ | refine EvQ.lift (fun _ zn => X.pcallT (r2) (by decide) X.cq rfl X.al rfl zn) ?_
        try refine EvQ.run ?_
        first | refine EvQ.lift (fun _ zn => X.pcall (m1) X.cq rfl X.al rfl zn) ?_ | refine EvQ.lift (fun _ zn => X.pcallG (m1) rfl X.cq rfl X.al rfl zn) ?_ | refine EvQ.lift (fun _ zn => X.pcallC (m1) rfl X.cq rfl X.al rfl zn) ?_ | refine EvQ.lift (fun _ zn => X.pcallT (m1) (by decide) X.cq rfl X.al rfl zn) ?_
        try refine EvQ.run ?_
        refine EvQ.lift (fun _ zn => X.pcall m2 (.gs c1 (.g (closeCs_rq (putI q.fs k (name, value)) _ _ _ _ _ X.hq X.hl hp hln (Nat.le_trans j4.1 (by decide))) (.nil _))) rfl X.al rfl zn) ?_
        refine EvQ.run ?_
        first | refine EvQ.lift (fun _ zn => X.pcall (varyruns_ok) X.cq rfl X.al rfl zn) ?_ | refine EvQ.lift (fun _ zn => X.pcallG (varyruns_ok) rfl X.cq rfl X.al rfl zn) ?_ | refine EvQ.lift (fun _ zn => X.pcallC (varyruns_ok) rfl X.cq rfl X.al rfl zn) ?_ | refine EvQ.lift (fun _ zn => X.pcallT (varyruns_ok) (by decide) X.cq rfl X.al rfl zn) ?_
        try refine EvQ.run ?_
        refine EvQ.fin X.rs ?_
        exact ⟨_, rfl⟩
      ·
        refine EvQ.run ?_
        first | refine EvQ.lift (fun _ zn => X.pcall (hw) X.cq rfl X.al rfl zn) ?_ | refine EvQ.lift (fun _ zn => X.pcallG (hw) rfl X.cq rfl X.al rfl zn) ?_ | refine EvQ.lift (fun _ zn => X.pcallC (hw) rfl X.cq rfl X.al rfl zn) ?_ | refine EvQ.lift (fun _ zn => X.pcallT (hw) (by decide) X.cq rfl X.al rfl zn) ?_
        try refine EvQ.run ?_
        first | refine EvQ.lift (fun _ zn => X.pcall (of38_ok name value) X.cq rfl X.al rfl zn) ?_ | refine EvQ.lift (fun _ zn => X.pcallG (of38_ok name value) rfl X.cq rfl X.al rfl zn) ?_ | refine EvQ.lift (fun _ zn => X.pcallC (of38_ok name value) rfl X.cq rfl X.al rfl zn) ?_ | refine EvQ.lift (fun _ zn => X.pcallT (of38_ok name value) (by decide) X.cq rfl X.al rfl zn) ?_
        try refine EvQ.run ?_
        first | refine EvQ.lift (fun _ zn => X.pcall (r2) X.cq rfl X.al rfl zn) ?_ | refine EvQ.lift (fun _ zn => X.pcallG (r2) rfl X.cq rfl X.al rfl zn) ?_ | refine EvQ.lift (fun _ zn => X.pcallC (r2) rfl X.cq rfl X.al rfl zn) ?_ | refine EvQ.lift (fun _ zn => X.pcallT (r2) (by decide) X.cq rfl X.al rfl zn) ?_
        try refine EvQ.run ?_
        first | refine EvQ.lift (fun _ zn => X.pcall (m1) X.cq rfl X.al rfl zn) ?_ | refine EvQ.lift (fun _ zn => X.pcallG (m1) rfl X.cq rfl X.al rfl zn) ?_ | refine EvQ.lift (fun _ zn => X.pcallC (m1) rfl X.cq rfl X.al rfl zn) ?_ | refine EvQ.lift (fun _ zn => X.pcallT (m1) (by decide) X.cq rfl X.al rfl zn) ?_
        try refine EvQ.run ?_
        refine EvQ.lift (fun _ zn => X.pcall m2 (.gs c1 (.g (closeCs_rq (putI q.fs k (name, value)) _ _ _ _ _ X.hq X.hl hp hln (Nat.le_trans j4.1 (by decide))) (.nil _))) rfl X.al rfl zn) ?_
        refine EvQ.run ?_
        first | refine EvQ.lift (fun _ zn => X.pcall (varyruns_ok) X.cq rfl X.al rfl zn) ?_ | refine EvQ.lift (fun _ zn => X.pcallG (varyruns_ok) rfl X.cq rfl X.al rfl zn) ?_ | refine EvQ.lift (fun _ zn => X.pcallC (varyruns_ok) rfl X.cq rfl X.al rfl zn) ?_ | refine EvQ.lift (fun _ zn => X.pcallT (varyruns_ok) (by decide) X.cq rfl X.al rfl zn) ?_
        try refine EvQ.run ?_
        refine EvQ.fin X.rs ?_
        exact ⟨_, rfl⟩
    · cases A <;> cases B
      ·
        refine EvQ.run ?_
        first | refine EvQ.lift (fun _ zn => X.pcall (hw) X.cq rfl X.al rfl zn) ?_ | refine EvQ.lift (fun _ zn => X.pcallG (hw) rfl X.cq rfl X.al rfl zn) ?_ | refine EvQ.lift (fun _ zn => X.pcallC (hw) rfl X.cq rfl X.al rfl zn) ?_ | refine EvQ.lift (fun _ zn => X.pcallT (hw) (by decide) X.cq rfl X.al rfl zn) ?_
        try refine EvQ.run ?_
        first | refine EvQ.lift (fun _ zn => X.pcall (of38_ok name value) X.cq rfl X.al rfl zn) ?_ | refine EvQ.lift (fun _ zn => X.pcallG (of38_ok name value) rfl X.cq rfl X.al rfl zn) ?_ | refine EvQ.lift (fun _ zn => X.pcallC (of38_ok name value) rfl X.cq rfl X.al rfl zn) ?_ | refine EvQ.lift (fun _ zn => X.pcallT (of38_ok name value) (by decide) X.cq rfl X.al rfl zn) ?_
        try refine EvQ.run ?_
        first | refine EvQ.lift (fun _ zn => X.pcall (r2) X.cq rfl X.al rfl zn) ?_ | refine EvQ.lift (fun _ zn => X.pcallG (r2) rfl X.cq rfl X.al rfl zn) ?_ | refine EvQ.lift (fun _ zn => X.pcallC (r2) rfl X.cq rfl X.al rfl zn) ?_ | refine EvQ.lift (fun _ zn => X.pcallT (r2) (by decide) X.cq rfl X.al rfl zn) ?_
        try refine EvQ.run ?_
        first | refine EvQ.lift (fun _ zn => X.pcall (m1) X.cq rfl X.al rfl zn) ?_ | refine EvQ.lift (fun _ zn => X.pcallG (m1) rfl X.cq rfl X.al rfl zn) ?_ | refine EvQ.lift (fun _ zn => X.pcallC (m1) rfl X.cq rfl X.al rfl zn) ?_ | refine EvQ.lift (fun _ zn => X.pcallT (m1) (by decide) X.cq rfl X.al rfl zn) ?_
        try refine EvQ.run ?_
        refine EvQ.lift (fun _ zn => X.pcall m2 (.gs c1 (.g (closeCs_rq (putI q.fs k (name, value)) _ _ _ _ _ X.hq X.hl hp hln (Nat.le_trans j4.1 (by decide))) (.nil _))) rfl X.al rfl zn) ?_
        refine EvQ.run ?_
        first | refine EvQ.lift (fun _ zn => X.pcall (varyruns_ok) X.cq rfl X.al rfl zn) ?_ | refine EvQ.lift (fun _ zn => X.pcallG (varyruns_ok) rfl X.cq rfl X.al rfl zn) ?_ | refine EvQ.lift (fun _ zn => X.pcallC (varyruns_ok) rfl X.cq rfl X.al rfl zn) ?_ | refine EvQ.lift (fun _ zn => X.pcallT (varyruns_ok) (by decide) X.cq rfl X.al rfl zn) ?_
        try refine EvQ.run ?_
        refine EvQ.fin X.rs ?_
        exact ⟨_, rfl⟩
      ·
        refine EvQ.run ?_
        first | refine EvQ.lift (fun _ zn => X.pcall (hw) X.cq rfl X.al rfl zn) ?_ | refine EvQ.lift (fun _ zn => X.pcallG (hw) rfl X.cq rfl X.al rfl zn) ?_ | refine EvQ.lift (fun _ zn => X.pcallC (hw) rfl X.cq rfl X.al rfl zn) ?_ | refine EvQ.lift (fun _ zn => X.pcallT (hw) (by decide) X.cq rfl X.al rfl zn) ?_
        try refine EvQ.run ?_
        first | refine EvQ.lift (fun _ zn => X.pcall (of38_ok name value) X.cq rfl X.al rfl zn) ?_ | refine EvQ.lift (fun _ zn => X.pcallG (of38_ok name value) rfl X.cq rfl X.al rfl zn) ?_ | refine EvQ.lift (fun _ zn => X.pcallC (of38_ok name value) rfl X.cq rfl X.al rfl zn) ?_ | refine EvQ.lift (fun _ zn => X.pcallT (of38_ok name value) (by decide) X.cq rfl X.al rfl zn) ?_
        try refine EvQ.run ?_
        first | refine EvQ.lift (fun _ zn => X.pcall (r2) X.cq rfl X.al rfl zn) ?_ | refine EvQ.lift (fun _ zn => X.pcallG (r2) rfl X.cq rfl X.al rfl zn) ?_ | refine EvQ.lift (fun _ zn => X.pcallC (r2) rfl X.cq rfl X.al rfl zn) ?_ | refine EvQ.lift (fun _ zn => X.pcallT (r2) (by decide) X.cq rfl X.al rfl zn) ?_
        try refine EvQ.run ?_
        first | refine EvQ.lift (fun _ zn => X.pcall (m1) X.cq rfl X.al rfl zn) ?_ | refine EvQ.lift (fun _ zn => X.pcallG (m1) rfl X.cq rfl X.al rfl zn) ?_ | refine EvQ.lift (fun _ zn => X.pcallC (m1) rfl X.cq rfl X.al rfl zn) ?_ | refine EvQ.lift (fun _ zn => X.pcallT (m1) (by decide) X.cq rfl X.al rfl zn) ?_
        try refine EvQ.run ?_
        refine EvQ.lift (fun _ zn => X.pcall m2 (.gs c1 (.g (closeCs_rq (putI q.fs k (name, value)) _ _ _ _ _ X.hq X.hl hp hln (Nat.le_trans j4.1 (by decide))) (.nil _))) rfl X.al rfl zn) ?_
        refine EvQ.run ?_
        first | refine EvQ.lift (fun _ zn => X.pcall (varyruns_ok) X.cq rfl X.al rfl zn) ?_ | refine EvQ.lift (fun _ zn => X.pcallG (varyruns_ok) rfl X.cq rfl X.al rfl zn) ?_ | refine EvQ.lift (fun _ zn => X.pcallC (varyruns_ok) rfl X.cq rfl X.al rfl zn) ?_ | refine EvQ.lift (fun _ zn => X.pcallT (varyruns_ok) (by decide) X.cq rfl X.al rfl zn) ?_
        try refine EvQ.run ?_
        refine EvQ.fin X.rs ?_
        exact ⟨_, rfl⟩
      ·
        refine EvQ.run ?_
        first | refine EvQ.lift (fun _ zn => X.pcall (hw) X.cq rfl X.al rfl zn) ?_ | refine EvQ.lift (fun _ zn => X.pcallG (hw) rfl X.cq rfl X.al rfl zn) ?_ | refine EvQ.lift (fun _ zn => X.pcallC (hw) rfl X.cq rfl X.al rfl zn) ?_ | refine EvQ.lift (fun _ zn => X.pcallT (hw) (by decide) X.cq rfl X.al rfl zn) ?_
        try refine EvQ.run ?_
        first | refine EvQ.lift (fun _ zn => X.pcall (of38_ok name value) X.cq rfl X.al rfl zn) ?_ | refine EvQ.lift (fun _ zn => X.pcallG (of38_ok name value) rfl X.cq rfl X.al rfl zn) ?_ | refine EvQ.lift (fun _ zn => X.pcallC (of38_ok name value) rfl X.cq rfl X.al rfl zn) ?_ | refine EvQ.lift (fun _ zn => X.pcallT (of38_ok name value) (by decide) X.cq rfl X.al rfl zn) ?_
        try refine EvQ.run ?_
        first | refine EvQ.lift (fun _ zn => X.pcall (r2) X.cq rfl X.al rfl zn) ?_ | refine EvQ.lift (fun _ zn => X.pcallG (r2) rfl X.cq rfl X.al rfl zn) ?_ | refine EvQ.lift (fun _ zn => X.pcallC (r2) rfl X.cq rfl X.al rfl zn) ?_ | refine EvQ.lift (fun _ zn => X.pcallT (r2) (by decide) X.cq rfl X.al rfl zn) ?_
        try refine EvQ.run ?_
        first | refine EvQ.lift (fun _ zn => X.pcall (m1) X.cq rfl X.al rfl zn) ?_ | refine EvQ.lift (fun _ zn => X.pcallG (m1) rfl X.cq rfl X.al rfl zn) ?_ | refine EvQ.lift (fun _ zn => X.pcallC (m1) rfl X.cq rfl X.al rfl zn) ?_ | refine EvQ.lift (fun _ zn => X.pcallT (m1) (by decide) X.cq rfl X.al rfl zn) ?_
        try refine EvQ.run ?_
        refine EvQ.lift (fun _ zn => X.pcall m2 (.gs c1 (.g (closeCs_rq (putI q.fs k (name, value)) _ _ _ _ _ X.hq X.hl hp hln (Nat.le_trans j4.1 (by decide))) (.nil _))) rfl X.al rfl zn) ?_
        refine EvQ.run ?_
        first | refine EvQ.lift (fun _ zn => X.pcall (varyruns_ok) X.cq rfl X.al rfl zn) ?_ | refine EvQ.lift (fun _ zn => X.pcallG (varyruns_ok) rfl X.cq rfl X.al rfl zn) ?_ | refine EvQ.lift (fun _ zn => X.pcallC (varyruns_ok) rfl X.cq rfl X.al rfl zn) ?_ | refine EvQ.lift (fun _ zn => X.pcallT (varyruns_ok) (by decide) X.cq rfl X.al rfl zn) ?_
        try refine EvQ.run ?_
        refine EvQ.fin X.rs ?_
        exact ⟨_, rfl⟩
      · cases hAB
end Go.Proofs.Ytcbiplmgaiipgaa
