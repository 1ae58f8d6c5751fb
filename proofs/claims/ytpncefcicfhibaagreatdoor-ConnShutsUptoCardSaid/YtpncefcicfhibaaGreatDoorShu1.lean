import Derived.Test.YtpncefcicfhibaaGreatDoorEvE
import Derived.Test.YtpncefcicfhibaaGreatDoorTabx2
set_option linter.unusedVariables false
set_option linter.unusedSimpArgs false
-- asks as arguments; light (EvHp EvOwn)
namespace Go.Proofs.YtpncefcicfhibaaGreatDoor
open Go hiding Fn
open Ev tab
attribute [local irreducible] EvP EvD EvL EvC evGds evLs C.run sK bK gK pK fK lpB stepD
/-- a row: a field and how it is said -/
abbrev Rw3 := List Nat × List Nat × Int
def rw1 (r : Rw3) : List V := [.st r.1, .st r.2.1, .it .i64 r.2.2]
def rws (l : List Rw3) : List (List V) := l.map rw1
abbrev r0 : Rw3 := ([], [], 0)
theorem rws_length (l : List Rw3) : (rws l).length = l.length := by simp [rws]
theorem rws_getD {l : List Rw3} {i : Nat} (h : i < l.length) : (rws l).getD i [] = [.st (l.getD i r0).1, .st (l.getD i r0).2.1, .it .i64 (l.getD i r0).2.2] := by simp [rws, rw1, List.getD, h]
structure AskV where
  kind : Int
  id : Int
  n : Int
  ty : Int
  fl : Int
  st : Int
  pay : List Int
  b : List Int
  rows : List Rw3
  text : List Nat
  fin : Bool
abbrev AskV.cells (a : AskV) : List V := [.it .i64 a.kind, .it .i64 a.id, .it .i64 a.n, .it .i64 a.ty, .it .i64 a.fl, .it .i64 a.st, .vs 1 (bs a.pay), .vs 1 (bs a.b), .vs 3 (rws a.rows), .st a.text, .bo a.fin]
theorem AskV.clo (a : AskV) : CloL [.one, .one, .one, .one, .one, .one, .sl [.one], .sl [.one], .sl [.one, .one, .one], .one, .one] a.cells :=
  .cons (clo_it _ _) (.cons (clo_it _ _) (.cons (clo_it _ _) (.cons (clo_it _ _) (.cons (clo_it _ _) (.cons (clo_it _ _) (.cons (clo_vs [.one] _) (.cons (clo_vs [.one] _) (.cons (clo_vs [.one, .one, .one] _) (.cons (clo_st _) (.cons (clo_bo _) .nil))))))))))
def asks (l : List AskV) : List (List V) := l.map AskV.cells
abbrev a0 : AskV := ⟨0, 0, 0, 0, 0, 0, [], [], [], [], false⟩
theorem asks_length (l : List AskV) : (asks l).length = l.length := by simp [asks]
theorem asks_getD {l : List AskV} {i : Nat} (h : i < l.length) : (asks l).getD i [] = (l.getD i a0).cells := by simp [asks, List.getD, h]
theorem rows_of {es : List (List V)} (h : ShE [.st, .st, .it .i64] es) : ∃ l : List Rw3, es = rws l ∧ l.length ≤ sizE es := by
  induction es with
  | nil => exact ⟨[], rfl, Nat.zero_le _⟩
  | cons e es ih =>
    cases h with
    | cons a r =>
      obtain ⟨l, rfl, h1⟩ := ih r
      obtain ⟨v1, q1, rfl, a1, a, z1⟩ := a.cons'
      obtain ⟨v2, q2, rfl, a2, a, z2⟩ := a.cons'
      obtain ⟨v3, q3, rfl, a3, a, z3⟩ := a.cons'
      cases a.nil'
      obtain ⟨s1, rfl, _, y1⟩ := text_of a1
      obtain ⟨s2, rfl, _, y2⟩ := text_of a2
      obtain ⟨k, rfl, _⟩ := int_of a3
      refine ⟨(s1, s2, k) :: l, rfl, ?_⟩
      have : sizE ([V.st s1, V.st s2, V.it .i64 k] :: rws l) = sizL [V.st s1, V.st s2, V.it .i64 k] + sizE (rws l) + 1 ∨ sizE ([V.st s1, V.st s2, V.it .i64 k] :: rws l) = sizL [V.st s1, V.st s2, V.it .i64 k] + sizE (rws l) := by
        first | exact .inl rfl | exact .inr rfl | (left; simp [sizE]; done) | (right; simp [sizE]; done)
      simp only [List.length_cons]
      omega
theorem asks_of {es : List (List V)} (h : ShE [.it .i64, .it .i64, .it .i64, .it .i64, .it .i64, .it .i64, .sl [.it .u8], .sl [.it .u8], .sl [.st, .st, .it .i64], .st, .bo] es) : ∃ l : List AskV, es = asks l ∧ l.length ≤ sizE es ∧ ∀ a, a ∈ l → a.rows.length ≤ sizE es := by
  induction es with
  | nil => exact ⟨[], rfl, Nat.zero_le _, fun _ h => by cases h⟩
  | cons e es ih =>
    cases h with
    | cons a r =>
      obtain ⟨l, rfl, ih1, ih2⟩ := ih r
      obtain ⟨v1, q1, rfl, a1, a, z1⟩ := a.cons'
      obtain ⟨v2, q2, rfl, a2, a, z2⟩ := a.cons'
      obtain ⟨v3, q3, rfl, a3, a, z3⟩ := a.cons'
      obtain ⟨v4, q4, rfl, a4, a, z4⟩ := a.cons'
      obtain ⟨v5, q5, rfl, a5, a, z5⟩ := a.cons'
      obtain ⟨v6, q6, rfl, a6, a, z6⟩ := a.cons'
      obtain ⟨v7, q7, rfl, a7, a, z7⟩ := a.cons'
      obtain ⟨v8, q8, rfl, a8, a, z8⟩ := a.cons'
      obtain ⟨v9, q9, rfl, a9, a, z9⟩ := a.cons'
      obtain ⟨v10, q10, rfl, a10, a, z10⟩ := a.cons'
      obtain ⟨v11, q11, rfl, a11, a, z11⟩ := a.cons'
      cases a.nil'
      obtain ⟨k1, rfl, _⟩ := int_of a1
      obtain ⟨k2, rfl, _⟩ := int_of a2
      obtain ⟨k3, rfl, _⟩ := int_of a3
      obtain ⟨k4, rfl, _⟩ := int_of a4
      obtain ⟨k5, rfl, _⟩ := int_of a5
      obtain ⟨k6, rfl, _⟩ := int_of a6
      obtain ⟨e7, rfl, h7, _⟩ := slice_of a7
      obtain ⟨l7, rfl, _, _⟩ := bytes_of h7
      obtain ⟨e8, rfl, h8, _⟩ := slice_of a8
      obtain ⟨l8, rfl, _, _⟩ := bytes_of h8
      obtain ⟨e9, rfl, h9, y9⟩ := slice_of a9
      obtain ⟨l9, rfl, n9⟩ := rows_of h9
      obtain ⟨s10, rfl, _, _⟩ := text_of a10
      obtain ⟨b11, rfl⟩ := bool_of a11
      have y1 : siz (V.it .i64 k1) = 1 := rfl
      have s1 : sizE ([V.it .i64 k1, .it .i64 k2, .it .i64 k3, .it .i64 k4, .it .i64 k5, .it .i64 k6, .vs 1 (bs l7), .vs 1 (bs l8), .vs 3 (rws l9), .st s10, .bo b11] :: asks l) = sizL [V.it .i64 k1, .it .i64 k2, .it .i64 k3, .it .i64 k4, .it .i64 k5, .it .i64 k6, .vs 1 (bs l7), .vs 1 (bs l8), .vs 3 (rws l9), .st s10, .bo b11] + sizE (asks l) := rfl
      have e7 : [TD.it IntKind.u8].length = 1 := rfl
      have e8 : [TD.st, TD.st, TD.it IntKind.i64].length = 3 := rfl
      simp only [e7, e8] at *
      refine ⟨⟨k1, k2, k3, k4, k5, k6, l7, l8, l9, s10, b11⟩ :: l, rfl, ?_, ?_⟩
      · simp only [List.length_cons]
        show l.length + 1 ≤ sizE ([V.it .i64 k1, .it .i64 k2, .it .i64 k3, .it .i64 k4, .it .i64 k5, .it .i64 k6, .vs 1 (bs l7), .vs 1 (bs l8), .vs 3 (rws l9), .st s10, .bo b11] :: asks l)
        omega
      · intro a ha
        rcases List.mem_cons.1 ha with rfl | ha
        · show l9.length ≤ sizE ([V.it .i64 k1, .it .i64 k2, .it .i64 k3, .it .i64 k4, .it .i64 k5, .it .i64 k6, .vs 1 (bs l7), .vs 1 (bs l8), .vs 3 (rws l9), .st s10, .bo b11] :: asks l)
          omega
        · have := ih2 a ha
          show a.rows.length ≤ sizE ([V.it .i64 k1, .it .i64 k2, .it .i64 k3, .it .i64 k4, .it .i64 k5, .it .i64 k6, .vs 1 (bs l7), .vs 1 (bs l8), .vs 3 (rws l9), .st s10, .bo b11] :: asks l)
          omega
set_option maxHeartbeats 8000000 in
theorem light_ok (a : AskV) (hr : a.rows.length ≤ 1000000000) : ∃ b, EvP F 30 c30 [.ag a.cells] [.bo b] := by
  have hrl := rws_length a.rows
  have main : EvQ F (d30.body.run ⟨argT [.ag a.cells], fun _ => none, h0⟩ (fK d30)) (fun r => ∃ b, PQ d30.rs [.bo b] r) := by
    repeat' (first | refine EvQ.run ?_ | (refine EvQ.pickB rfl rfl rfl ?_) | (refine EvQ.cond rfl (fun h => ?_) (fun h => ?_) <;> ((first | replace h := X.nm h | skip); try have hne := ne_len h)) | (refine EvQ.g1 rfl (fun h => ?_) (fun h => ?_) <;> ((first | replace h := X.nm h | skip); try have hne := ne_len h)) | (refine EvQ.pick rfl (fun _ => rfl) (fun _ => rfl) (fun h => ?_) (fun h => ?_) <;> ((first | replace h := X.nm h | skip); try have hne := ne_len h)) | refine EvQ.fin X.rs ?_ | refine EvQ.fin1 (fun _ => rfl) rfl ?_)
    refine EvQ.loop (QL := fun r => XtQ 0 [(1, .lp 1 0)] (fun lo _ => lo = lset (fun _ => none) 1 a.cells) r ∨ RtQ [(2, .bo false)] (fun _ _ => True) r) ?_ ?_
    · refine EvL.invQ (S := Int × Nat) (fun x => [(1, .lp 1 0), (3, .it .i64 x.1), (4, .it .i64 (Int.ofNat x.2))]) (fun x lo _ => x.2 ≤ a.rows.length ∧ lo = lset (fun _ => none) 1 a.cells) (fun x => a.rows.length - x.2) _ ?_ (0, 0) _ _ _ ⟨Nat.zero_le _, X.lo⟩ X.kv
      rintro ⟨n, i⟩ lo hp ⟨h1, rfl⟩
      simp only at h1
      by_cases hi : i < a.rows.length
      · have hge := rws_getD hi
        repeat' (first | refine EvQ.run ?_ | (refine EvQ.pickB rfl rfl rfl ?_) | (refine EvQ.cond rfl (fun h => ?_) (fun h => ?_) <;> ((first | replace h := X.nm h | skip); try have hne := ne_len h)) | (refine EvQ.g1 rfl (fun h => ?_) (fun h => ?_) <;> ((first | replace h := X.nm h | skip); try have hne := ne_len h)) | (refine EvQ.pick rfl (fun _ => rfl) (fun _ => rfl) (fun h => ?_) (fun h => ?_) <;> ((first | replace h := X.nm h | skip); try have hne := ne_len h)) | refine EvQ.fin X.rs ?_ | refine EvQ.fin1 (fun _ => rfl) rfl ?_)
        · exact EvQ.rt (.inr (.mk' X.kv trivial))
        · exact EvQ.go (_, i + 1) X.kv ⟨by show i + 1 ≤ _; omega, X.lo⟩ (by show a.rows.length - (i + 1) < a.rows.length - i; omega)
      · repeat' (first | refine EvQ.run ?_ | (refine EvQ.pickB rfl rfl rfl ?_) | (refine EvQ.cond rfl (fun h => ?_) (fun h => ?_) <;> ((first | replace h := X.nm h | skip); try have hne := ne_len h)) | (refine EvQ.g1 rfl (fun h => ?_) (fun h => ?_) <;> ((first | replace h := X.nm h | skip); try have hne := ne_len h)) | (refine EvQ.pick rfl (fun _ => rfl) (fun _ => rfl) (fun h => ?_) (fun h => ?_) <;> ((first | replace h := X.nm h | skip); try have hne := ne_len h)) | refine EvQ.fin X.rs ?_ | refine EvQ.fin1 (fun _ => rfl) rfl ?_)
        exact EvQ.xt (.inl (.mk' X.kv X.lo))
    · rintro _ (⟨tm, lo, hp, rfl, rfl⟩ | ⟨tm, lo, hp, rfl, -⟩)
      · repeat' (first | refine EvQ.run ?_ | (refine EvQ.pickB rfl rfl rfl ?_) | (refine EvQ.cond rfl (fun h => ?_) (fun h => ?_) <;> ((first | replace h := X.nm h | skip); try have hne := ne_len h)) | (refine EvQ.g1 rfl (fun h => ?_) (fun h => ?_) <;> ((first | replace h := X.nm h | skip); try have hne := ne_len h)) | (refine EvQ.pick rfl (fun _ => rfl) (fun _ => rfl) (fun h => ?_) (fun h => ?_) <;> ((first | replace h := X.nm h | skip); try have hne := ne_len h)) | refine EvQ.fin X.rs ?_ | refine EvQ.fin1 (fun _ => rfl) rfl ?_)
        all_goals exact ⟨_, PQ.bo rfl⟩
      · repeat' (first | refine EvQ.run ?_ | (refine EvQ.pickB rfl rfl rfl ?_) | (refine EvQ.cond rfl (fun h => ?_) (fun h => ?_) <;> ((first | replace h := X.nm h | skip); try have hne := ne_len h)) | (refine EvQ.g1 rfl (fun h => ?_) (fun h => ?_) <;> ((first | replace h := X.nm h | skip); try have hne := ne_len h)) | (refine EvQ.pick rfl (fun _ => rfl) (fun _ => rfl) (fun h => ?_) (fun h => ?_) <;> ((first | replace h := X.nm h | skip); try have hne := ne_len h)) | refine EvQ.fin X.rs ?_ | refine EvQ.fin1 (fun _ => rfl) rfl ?_)
        exact ⟨_, PQ.bo rfl⟩
  obtain ⟨r, h, b, q⟩ := main
  exact ⟨b, EvP.ofQ d30 rfl rfl rfl ⟨r, h, q⟩⟩
end Go.Proofs.YtpncefcicfhibaaGreatDoor
