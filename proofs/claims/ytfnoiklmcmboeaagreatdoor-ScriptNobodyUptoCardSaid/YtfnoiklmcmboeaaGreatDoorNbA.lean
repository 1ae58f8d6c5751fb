import Derived.Test.YtfnoiklmcmboeaaGreatDoorEvE
import Derived.Test.YtfnoiklmcmboeaaGreatDoorCnw8
set_option linter.unusedSectionVars false
set_option linter.unusedVariables false
set_option linter.unusedSimpArgs false
-- ScriptNobody: steps as arguments; Step; what was heard, lives (EvHp EvOwn)
namespace Go.Proofs.YtfnoiklmcmboeaaGreatDoor.cnw
open Go hiding Fn
open Ev tab
attribute [local irreducible] EvP EvD EvL EvC EvO evGds evLs C.run sK bK gK pK fK lpB stepD stat hp11
/-- a row: a field and how it is said -/
abbrev Rw3 := List Nat × List Nat × Int
def rw1 (r : Rw3) : List V := [.st r.1, .st r.2.1, .it .i64 r.2.2]
def rws (l : List Rw3) : List (List V) := l.map rw1
abbrev r0 : Rw3 := ([], [], 0)
theorem rws_length (l : List Rw3) : (rws l).length = l.length := by simp [rws]
theorem rws_getD {l : List Rw3} {i : Nat} (h : i < l.length) : (rws l).getD i [] = [.st (l.getD i r0).1, .st (l.getD i r0).2.1, .it .i64 (l.getD i r0).2.2] := by simp [rws, rw1, List.getD, h]
theorem rows_of {es : List (List V)} (h : ShE [.st, .st, .it .i64] es) : ∃ l : List Rw3, es = rws l ∧ l.length ≤ sizE es := by
  induction es with
  | nil => exact ⟨[], rfl, Nat.zero_le _⟩
  | cons e es ih =>
    cases h with
    | cons a r =>
      obtain ⟨l, rfl, h1⟩ := ih r
      obtain ⟨v1, q1, rfl, a1, a, z1⟩ := a.cons'
      obtain ⟨v2, q2, rfl, a2, a, z2⟩ := a.cons'
      obtain ⟨v3, q3, rfl, a3, a, z3⟩ := a.cons'
      cases a.nil'
      obtain ⟨s1, rfl, _, y1⟩ := text_of a1
      obtain ⟨s2, rfl, _, y2⟩ := text_of a2
      obtain ⟨k, rfl, _⟩ := int_of a3
      refine ⟨(s1, s2, k) :: l, rfl, ?_⟩
      have : sizE ([V.st s1, V.st s2, V.it .i64 k] :: rws l) = sizL [V.st s1, V.st s2, V.it .i64 k] + sizE (rws l) + 1 ∨ sizE ([V.st s1, V.st s2, V.it .i64 k] :: rws l) = sizL [V.st s1, V.st s2, V.it .i64 k] + sizE (rws l) := by
        first | exact .inl rfl | exact .inr rfl | (left; simp [sizE]; done) | (right; simp [sizE]; done)
      simp only [List.length_cons]
      omega
/-- a step as it is drawn -/
structure StpV where
  k : Int
  n : Int
  sz : Int
  sm : Int
  rows : List Rw3
  tx : List Nat
  en : Bool
abbrev StpV.cells (s : StpV) : List V := [.it .i64 s.k, .it .i64 s.n, .it .i64 s.sz, .it .i64 s.sm, .vs 3 (rws s.rows), .st s.tx, .bo s.en]
def StpV.stp (s : StpV) : Stp := ⟨s.k, s.n, s.sz, s.sm, rws s.rows, s.tx, s.en⟩
theorem StpV.clo (a : StpV) : CloL [.one, .one, .one, .one, .sl [.one, .one, .one], .one, .one] a.cells :=
  .cons (clo_it _ _) (.cons (clo_it _ _) (.cons (clo_it _ _) (.cons (clo_it _ _) (.cons (clo_vs [.one, .one, .one] _) (.cons (clo_st _) (.cons (clo_bo _) .nil))))))
def steps (l : List StpV) : List (List V) := l.map StpV.cells
abbrev sv0 : StpV := ⟨0, 0, 0, 0, [], [], false⟩
theorem steps_length (l : List StpV) : (steps l).length = l.length := by simp [steps]
theorem steps_getD {l : List StpV} {i : Nat} (h : i < l.length) : (steps l).getD i [] = (l.getD i sv0).cells := by simp [steps, List.getD, h]
theorem steps_of {es : List (List V)} (h : ShE [.it .i64, .it .i64, .it .i64, .it .i64, .sl [.st, .st, .it .i64], .st, .bo] es) : ∃ l : List StpV, es = steps l ∧ l.length ≤ sizE es ∧ ∀ a, a ∈ l → a.rows.length ≤ sizE es := by
  induction es with
  | nil => exact ⟨[], rfl, Nat.zero_le _, fun _ h => by cases h⟩
  | cons e es ih =>
    cases h with
    | cons a r =>
      obtain ⟨l, rfl, ih1, ih2⟩ := ih r
      obtain ⟨v1, q1, rfl, a1, a, z1⟩ := a.cons'
      obtain ⟨v2, q2, rfl, a2, a, z2⟩ := a.cons'
      obtain ⟨v3, q3, rfl, a3, a, z3⟩ := a.cons'
      obtain ⟨v4, q4, rfl, a4, a, z4⟩ := a.cons'
      obtain ⟨v5, q5, rfl, a5, a, z5⟩ := a.cons'
      obtain ⟨v6, q6, rfl, a6, a, z6⟩ := a.cons'
      obtain ⟨v7, q7, rfl, a7, a, z7⟩ := a.cons'
      cases a.nil'
      obtain ⟨k1, rfl, _⟩ := int_of a1
      obtain ⟨k2, rfl, _⟩ := int_of a2
      obtain ⟨k3, rfl, _⟩ := int_of a3
      obtain ⟨k4, rfl, _⟩ := int_of a4
      obtain ⟨e5, rfl, h5, y5⟩ := slice_of a5
      obtain ⟨l5, rfl, n5⟩ := rows_of h5
      obtain ⟨s6, rfl, _, _⟩ := text_of a6
      obtain ⟨b7, rfl⟩ := bool_of a7
      have y1 : siz (V.it .i64 k1) = 1 := rfl
      have e5 : [TD.st, TD.st, TD.it IntKind.i64].length = 3 := rfl
      simp only [e5] at *
      have s1 : sizE ([V.it .i64 k1, .it .i64 k2, .it .i64 k3, .it .i64 k4, .vs 3 (rws l5), .st s6, .bo b7] :: steps l) = sizL [V.it .i64 k1, .it .i64 k2, .it .i64 k3, .it .i64 k4, .vs 3 (rws l5), .st s6, .bo b7] + sizE (steps l) := rfl
      refine ⟨⟨k1, k2, k3, k4, l5, s6, b7⟩ :: l, rfl, ?_, ?_⟩
      · simp only [List.length_cons]
        show l.length + 1 ≤ sizE ([V.it .i64 k1, .it .i64 k2, .it .i64 k3, .it .i64 k4, .vs 3 (rws l5), .st s6, .bo b7] :: steps l)
        omega
      · intro a ha
        rcases List.mem_cons.1 ha with rfl | ha
        · show l5.length ≤ sizE ([V.it .i64 k1, .it .i64 k2, .it .i64 k3, .it .i64 k4, .vs 3 (rws l5), .st s6, .bo b7] :: steps l)
          omega
        · have := ih2 a ha
          show a.rows.length ≤ sizE ([V.it .i64 k1, .it .i64 k2, .it .i64 k3, .it .i64 k4, .vs 3 (rws l5), .st s6, .bo b7] :: steps l)
          omega
set_option maxHeartbeats 8000000 in
theorem step_ok (a : StpV) (hr : a.rows.length ≤ 1000000000) : ∃ b, EvP Fq 12 c12 [.ag a.cells] [.bo b] := by
  have hrl := rws_length a.rows
  have main : EvQ Fq (d12.body.run ⟨argT [.ag a.cells], fun _ => none, h0⟩ (fK d12)) (fun r => ∃ b, PQ d12.rs [.bo b] r) := by
    repeat' (first | refine EvQ.run ?_ | (refine EvQ.pickB rfl rfl rfl ?_) | (refine EvQ.cond rfl (fun h => ?_) (fun h => ?_) <;> ((first | replace h := X.nm h | skip); try have hne := ne_len h)) | (refine EvQ.g1 rfl (fun h => ?_) (fun h => ?_) <;> ((first | replace h := X.nm h | skip); try have hne := ne_len h)) | (refine EvQ.pick rfl (fun _ => rfl) (fun _ => rfl) (fun h => ?_) (fun h => ?_) <;> ((first | replace h := X.nm h | skip); try have hne := ne_len h)) | refine EvQ.fin X.rs ?_ | refine EvQ.fin1 (fun _ => rfl) rfl ?_)
    refine EvQ.loop (QL := fun r => (∃ n : Int, XtQ 0 [(1, .lp 1 0), (3, .it .i64 n)] (fun lo _ => lo = lset (fun _ => none) 1 a.cells) r) ∨ RtQ [(2, .bo false)] (fun _ _ => True) r) ?_ ?_
    · refine EvL.invQ (S := Int × Nat) (fun x => [(1, .lp 1 0), (3, .it .i64 x.1), (4, .it .i64 (Int.ofNat x.2))]) (fun x lo _ => x.2 ≤ a.rows.length ∧ lo = lset (fun _ => none) 1 a.cells) (fun x => a.rows.length - x.2) _ ?_ (Int.ofNat a.tx.length, 0) _ _ _ ⟨Nat.zero_le _, X.lo⟩ X.kv
      rintro ⟨n, i⟩ lo hp ⟨h1, rfl⟩
      simp only at h1
      by_cases hi : i < a.rows.length
      · have hge := rws_getD hi
        repeat' (first | refine EvQ.run ?_ | (refine EvQ.pickB rfl rfl rfl ?_) | (refine EvQ.cond rfl (fun h => ?_) (fun h => ?_) <;> ((first | replace h := X.nm h | skip); try have hne := ne_len h)) | (refine EvQ.g1 rfl (fun h => ?_) (fun h => ?_) <;> ((first | replace h := X.nm h | skip); try have hne := ne_len h)) | (refine EvQ.pick rfl (fun _ => rfl) (fun _ => rfl) (fun h => ?_) (fun h => ?_) <;> ((first | replace h := X.nm h | skip); try have hne := ne_len h)) | refine EvQ.fin X.rs ?_ | refine EvQ.fin1 (fun _ => rfl) rfl ?_)
        · exact EvQ.rt (.inr (.mk' X.kv trivial))
        · exact EvQ.go (_, i + 1) X.kv ⟨by show i + 1 ≤ _; omega, X.lo⟩ (by show a.rows.length - (i + 1) < a.rows.length - i; omega)
      · repeat' (first | refine EvQ.run ?_ | (refine EvQ.pickB rfl rfl rfl ?_) | (refine EvQ.cond rfl (fun h => ?_) (fun h => ?_) <;> ((first | replace h := X.nm h | skip); try have hne := ne_len h)) | (refine EvQ.g1 rfl (fun h => ?_) (fun h => ?_) <;> ((first | replace h := X.nm h | skip); try have hne := ne_len h)) | (refine EvQ.pick rfl (fun _ => rfl) (fun _ => rfl) (fun h => ?_) (fun h => ?_) <;> ((first | replace h := X.nm h | skip); try have hne := ne_len h)) | refine EvQ.fin X.rs ?_ | refine EvQ.fin1 (fun _ => rfl) rfl ?_)
        exact EvQ.xt (.inl ⟨n, .mk' X.kv X.lo⟩)
    · rintro _ (⟨n, tm, lo, hp, rfl, rfl⟩ | ⟨tm, lo, hp, rfl, -⟩)
      · repeat' (first | refine EvQ.run ?_ | (refine EvQ.pickB rfl rfl rfl ?_) | (refine EvQ.cond rfl (fun h => ?_) (fun h => ?_) <;> ((first | replace h := X.nm h | skip); try have hne := ne_len h)) | (refine EvQ.g1 rfl (fun h => ?_) (fun h => ?_) <;> ((first | replace h := X.nm h | skip); try have hne := ne_len h)) | (refine EvQ.pick rfl (fun _ => rfl) (fun _ => rfl) (fun h => ?_) (fun h => ?_) <;> ((first | replace h := X.nm h | skip); try have hne := ne_len h)) | refine EvQ.fin X.rs ?_ | refine EvQ.fin1 (fun _ => rfl) rfl ?_)
        all_goals exact ⟨_, PQ.bo rfl⟩
      · repeat' (first | refine EvQ.run ?_ | (refine EvQ.pickB rfl rfl rfl ?_) | (refine EvQ.cond rfl (fun h => ?_) (fun h => ?_) <;> ((first | replace h := X.nm h | skip); try have hne := ne_len h)) | (refine EvQ.g1 rfl (fun h => ?_) (fun h => ?_) <;> ((first | replace h := X.nm h | skip); try have hne := ne_len h)) | (refine EvQ.pick rfl (fun _ => rfl) (fun _ => rfl) (fun h => ?_) (fun h => ?_) <;> ((first | replace h := X.nm h | skip); try have hne := ne_len h)) | refine EvQ.fin X.rs ?_ | refine EvQ.fin1 (fun _ => rfl) rfl ?_)
        exact ⟨_, PQ.bo rfl⟩
  obtain ⟨r, h, b, q⟩ := main
  exact ⟨b, EvP.ofQ d12 rfl rfl rfl ⟨r, h, q⟩⟩
set_option maxHeartbeats 8000000 in
theorem cloneT_ns {own : Bool} (hp : Hp) : ∃ w hp', EvC Fq own 89 [.ns] hp (.ret w hp') ∧ (w = .ns ∧ hp' = hp) := by
  refine EvC.ofQ d89 rfl rfl rfl ?_
  repeat (first | refine EvQ.run ?_ | refine EvQ.fin X.rs ?_ | refine EvQ.fin1 (fun _ => rfl) rfl ?_)
  exact ⟨_, _, rfl, rfl, rfl⟩
set_option maxHeartbeats 8000000 in
theorem copied_loop (hp0 : Hp) (lo : Lo) (hlo : shed [] lo = fun _ => none) (tm : Tm)
    (hk : [3, 8, 9].map (fun x => (x, tm x)) = [(3, .ns), (8, .it .i64 (Int.ofNat 0)), (9, .it .i64 (Int.ofNat 0))]) :
    ∃ r, EvL Fq [3, 8, 9] [] (lpB (d50.body.lps.getD 0 .skip)) ⟨tm, lo, hp0⟩ r ∧ XtQ 0 [(3, .ns)] (fun lo hp => lo = (fun _ => none) ∧ hp = hp0) r := by
  refine EvL.invQ (S := Unit) (fun _ => [(3, .ns), (8, .it .i64 (Int.ofNat 0)), (9, .it .i64 (Int.ofNat 0))]) (fun _ lo hp => shed [] lo = (fun _ => none) ∧ hp = hp0) (fun _ => 0) _ ?_ () tm lo hp0 ⟨hlo, rfl⟩ hk
  intro i lo hp ⟨e1, e2⟩
  rw [e1]
  subst e2
  repeat' (first | refine EvQ.run ?_ | (refine EvQ.pickB rfl rfl rfl ?_) | (refine EvQ.cond rfl (fun h => ?_) (fun h => ?_) <;> ((first | replace h := X.nm h | skip); try have hne := ne_len h)) | (refine EvQ.g1 rfl (fun h => ?_) (fun h => ?_) <;> ((first | replace h := X.nm h | skip); try have hne := ne_len h)) | (refine EvQ.pick rfl (fun _ => rfl) (fun _ => rfl) (fun h => ?_) (fun h => ?_) <;> ((first | replace h := X.nm h | skip); try have hne := ne_len h)) | refine EvQ.fin X.rs ?_ | refine EvQ.fin1 (fun _ => rfl) rfl ?_)
  exact EvQ.xt (.mk' X.kv ⟨rfl, rfl⟩)
set_option maxHeartbeats 8000000 in
theorem copied_ns {own : Bool} (hp : Hp) : ∃ w hp', EvC Fq own 50 [.ns] hp (.ret w hp') ∧ (w = .ns ∧ hp' = hp) := by
  refine EvC.ofQ d50 rfl rfl rfl ?_
  repeat (first | refine EvQ.run ?_ | refine EvQ.fin X.rs ?_ | refine EvQ.fin1 (fun _ => rfl) rfl ?_)
  refine EvQ.call rfl X.al (cloneT_ns (own := true) _) ?_
  rintro _ _ ⟨rfl, rfl⟩
  repeat (first | refine EvQ.run ?_ | refine EvQ.fin X.rs ?_ | refine EvQ.fin1 (fun _ => rfl) rfl ?_)
  refine EvQ.loop (copied_loop _ _ ?_ _ ?_) ?_
  · exact X.lo
  · exact X.kv
  rintro _ ⟨tm, lo, hp3, rfl, rfl, rfl⟩
  repeat' (first | refine EvQ.run ?_ | (refine EvQ.pickB rfl rfl rfl ?_) | (refine EvQ.cond rfl (fun h => ?_) (fun h => ?_) <;> ((first | replace h := X.nm h | skip); try have hne := ne_len h)) | (refine EvQ.g1 rfl (fun h => ?_) (fun h => ?_) <;> ((first | replace h := X.nm h | skip); try have hne := ne_len h)) | (refine EvQ.pick rfl (fun _ => rfl) (fun _ => rfl) (fun h => ?_) (fun h => ?_) <;> ((first | replace h := X.nm h | skip); try have hne := ne_len h)) | refine EvQ.fin X.rs ?_ | refine EvQ.fin1 (fun _ => rfl) rfl ?_)
  exact ⟨_, _, rfl, rfl, rfl⟩
set_option maxHeartbeats 8000000 in
theorem heard_ok {own : Bool} {hp : Hp} {c : Cfg} {w p : Nat} {a b : V} {x y : List Nat} (hW : WdJ hp c w p a b x y) : ∃ z hp', EvC Fq own 14 [.pt w 0 0] hp (.ret z hp') ∧ (z = .ns ∧ hp' = hp) := by
  have hobj := hW.obj
  unfold wdR at hobj
  refine EvC.ofQ d14 rfl rfl rfl ?_
  repeat (first | refine EvQ.run ?_ | refine EvQ.fin X.rs ?_ | refine EvQ.fin1 (fun _ => rfl) rfl ?_)
  refine EvQ.call rfl X.al (copied_ns (own := false) _) ?_
  rintro _ _ ⟨rfl, rfl⟩
  repeat' (first | refine EvQ.run ?_ | (refine EvQ.pickB rfl rfl rfl ?_) | (refine EvQ.cond rfl (fun h => ?_) (fun h => ?_) <;> ((first | replace h := X.nm h | skip); try have hne := ne_len h)) | (refine EvQ.g1 rfl (fun h => ?_) (fun h => ?_) <;> ((first | replace h := X.nm h | skip); try have hne := ne_len h)) | (refine EvQ.pick rfl (fun _ => rfl) (fun _ => rfl) (fun h => ?_) (fun h => ?_) <;> ((first | replace h := X.nm h | skip); try have hne := ne_len h)) | refine EvQ.fin X.rs ?_ | refine EvQ.fin1 (fun _ => rfl) rfl ?_)
  exact ⟨_, _, rfl, rfl, rfl⟩
set_option maxHeartbeats 8000000 in
theorem told_ok {own : Bool} {hp : Hp} {c : Cfg} {w p : Nat} {a b : V} {x y : List Nat} (hW : WdJ hp c w p a b x y) : ∃ z hp', EvC Fq own 15 [.pt w 0 0] hp (.ret z hp') ∧ (z = .ns ∧ hp' = hp) := by
  have hobj := hW.obj
  unfold wdR at hobj
  refine EvC.ofQ d15 rfl rfl rfl ?_
  repeat (first | refine EvQ.run ?_ | refine EvQ.fin X.rs ?_ | refine EvQ.fin1 (fun _ => rfl) rfl ?_)
  refine EvQ.call rfl X.al (copied_ns (own := false) _) ?_
  rintro _ _ ⟨rfl, rfl⟩
  repeat' (first | refine EvQ.run ?_ | (refine EvQ.pickB rfl rfl rfl ?_) | (refine EvQ.cond rfl (fun h => ?_) (fun h => ?_) <;> ((first | replace h := X.nm h | skip); try have hne := ne_len h)) | (refine EvQ.g1 rfl (fun h => ?_) (fun h => ?_) <;> ((first | replace h := X.nm h | skip); try have hne := ne_len h)) | (refine EvQ.pick rfl (fun _ => rfl) (fun _ => rfl) (fun h => ?_) (fun h => ?_) <;> ((first | replace h := X.nm h | skip); try have hne := ne_len h)) | refine EvQ.fin X.rs ?_ | refine EvQ.fin1 (fun _ => rfl) rfl ?_)
  exact ⟨_, _, rfl, rfl, rfl⟩
set_option maxHeartbeats 8000000 in
theorem life_ok {own : Bool} {hp : Hp} {c : Cfg} {w p : Nat} {a b : V} {x y : List Nat} (hW : WdJ hp c w p a b x y) (hx : x.length = 8) (hy : y.length = 8) : ∃ z hp', EvC Fq own 16 [.pt w 0 0, .it .i64 (Int.ofNat 0), .it .i64 (Int.ofNat 0)] hp (.ret z hp') ∧ (z = .it .i64 (Int.ofNat 0) ∧ hp' = hp) := by
  have pl := place_ok (own := false) hW hx hy 0 (.inl rfl) (Int.ofNat 0)
  refine EvC.ofQ d16 rfl rfl rfl ?_
  rcases plV_cases hW hx hy ((0 : Nat) = 0) (Int.ofNat 0) with e | ⟨e, e1, e2⟩
  · rw [e] at pl
    repeat (first | refine EvQ.run ?_ | refine EvQ.fin X.rs ?_ | refine EvQ.fin1 (fun _ => rfl) rfl ?_)
    refine EvQ.call rfl X.al pl ?_
    rintro _ _ ⟨rfl, q⟩
    rw [q]
    repeat' (first | refine EvQ.run ?_ | (refine EvQ.pickB rfl rfl rfl ?_) | (refine EvQ.cond rfl (fun h => ?_) (fun h => ?_) <;> ((first | replace h := X.nm h | skip); try have hne := ne_len h)) | (refine EvQ.g1 rfl (fun h => ?_) (fun h => ?_) <;> ((first | replace h := X.nm h | skip); try have hne := ne_len h)) | (refine EvQ.pick rfl (fun _ => rfl) (fun _ => rfl) (fun h => ?_) (fun h => ?_) <;> ((first | replace h := X.nm h | skip); try have hne := ne_len h)) | refine EvQ.fin X.rs ?_ | refine EvQ.fin1 (fun _ => rfl) rfl ?_)
    all_goals exact ⟨_, _, rfl, rfl, rfl⟩
  · rw [e1] at pl
    repeat (first | refine EvQ.run ?_ | refine EvQ.fin X.rs ?_ | refine EvQ.fin1 (fun _ => rfl) rfl ?_)
    refine EvQ.call rfl X.al pl ?_
    rintro _ _ ⟨rfl, q⟩
    rw [q]
    repeat' (first | refine EvQ.run ?_ | (refine EvQ.pickB rfl rfl rfl ?_) | (refine EvQ.cond rfl (fun h => ?_) (fun h => ?_) <;> ((first | replace h := X.nm h | skip); try have hne := ne_len h)) | (refine EvQ.g1 rfl (fun h => ?_) (fun h => ?_) <;> ((first | replace h := X.nm h | skip); try have hne := ne_len h)) | (refine EvQ.pick rfl (fun _ => rfl) (fun _ => rfl) (fun h => ?_) (fun h => ?_) <;> ((first | replace h := X.nm h | skip); try have hne := ne_len h)) | refine EvQ.fin X.rs ?_ | refine EvQ.fin1 (fun _ => rfl) rfl ?_)
    all_goals exact ⟨_, _, rfl, rfl, rfl⟩
set_option maxHeartbeats 8000000 in
theorem proxy_ok {own : Bool} {hp : Hp} {c : Cfg} {w p : Nat} {a b : V} {x y : List Nat} (hW : WdJ hp c w p a b x y) : ∃ z hp', EvC Fq own 17 [.pt w 0 0] hp (.ret z hp') ∧ (z = .pt p 0 0 ∧ hp' = hp) := by
  have hobj := hW.obj
  unfold wdR at hobj
  refine EvC.ofQ d17 rfl rfl rfl ?_
  repeat (first | refine EvQ.run ?_ | refine EvQ.fin X.rs ?_ | refine EvQ.fin1 (fun _ => rfl) rfl ?_)
  exact ⟨_, _, rfl, rfl, rfl⟩
set_option maxHeartbeats 8000000 in
theorem under_ok {own : Bool} {hp : Hp} {c : Cfg} {p s : Nat} (hg : hget hp p = some ⟨27, false, [pxR c s]⟩) : ∃ z hp', EvC Fq own 18 [.pt p 0 0] hp (.ret z hp') ∧ (z = .it .i64 (Int.ofNat 0) ∧ hp' = hp) := by
  unfold pxR rowCf at hg
  simp only [List.cons_append, List.nil_append] at hg
  refine EvC.ofQ d18 rfl rfl rfl ?_
  repeat (first | refine EvQ.run ?_ | refine EvQ.fin X.rs ?_ | refine EvQ.fin1 (fun _ => rfl) rfl ?_)
  exact ⟨_, _, rfl, rfl, rfl⟩
end Go.Proofs.YtfnoiklmcmboeaaGreatDoor.cnw
