import Derived.Test.YtgofadnggipkpaaEvRow
namespace Ev
open Go

/-- what a call comes to, with fuel enough -/
def EvC (F : Nat → Option Ev.Fn) (own : Bool) (f : Nat) (xs : List V) (hp : Hp) (r : CR) : Prop :=
  ∃ N, ∀ L n, N ≤ L → N ≤ n → callF F L n own f xs hp = r

/-- what a piece of a run comes to -/
def EvD (F : Nat → Option Ev.Fn) (d : D) (r : R) : Prop :=
  ∃ N, ∀ L n, N ≤ L → N ≤ n → run (callF F L n) L d = r

/-- a loop from a state on -/
def EvL (F : Nat → Option Ev.Fn) (keep drop : List Nat) (body : St → D) (st : St) (r : R) : Prop :=
  ∃ N, ∀ L n, N ≤ L → N ≤ n → ∀ q, N ≤ q → iter (fun s => run (callF F L n) L (body s)) keep drop q st = r

theorem keepF_id {α : Type} : ∀ (l : List Nat) (k : Tm → α) (tm : Tm), keepF k l tm = k (keepF (fun t => t) l tm)
  | [], _, _ => rfl
  | a :: l, k, tm => by
    simp only [keepF, force_eq]
    rw [keepF_id l (fun t => k fun j => bif Nat.beq j a then tm a else t j), keepF_id l (fun t => fun j => bif Nat.beq j a then tm a else t j)]

section
variable {F : Nat → Option Ev.Fn}

theorem EvD.done (r : R) : EvD F (.done r) r := ⟨0, fun _ _ _ _ => rfl⟩
theorem EvD.br {b : Bool} {x y : D} {r : R} (h : b = true → EvD F x r) (h' : b = false → EvD F y r) : EvD F (.br b x y) r := by
  cases b with
  | true => obtain ⟨N, h⟩ := h rfl; exact ⟨N, fun L n hL hn => h L n hL hn⟩
  | false => obtain ⟨N, h⟩ := h' rfl; exact ⟨N, fun L n hL hn => h L n hL hn⟩
theorem EvD.chk {b : Bool} {x : D} {r : R} (hb : b = true) (h : EvD F x r) : EvD F (.chk b x) r := by
  subst hb; obtain ⟨N, h⟩ := h; exact ⟨N, fun L n hL hn => h L n hL hn⟩
theorem EvD.call {own : Bool} {f : Nat} {xs : List V} {hp : Hp} {k : CR → D} {c : CR} {r : R} (h : EvC F own f xs hp c) (h' : EvD F (k c) r) : EvD F (.call own f xs hp k) r := by
  obtain ⟨N, h⟩ := h
  obtain ⟨M, h'⟩ := h'
  refine ⟨max N M, fun L n hL hn => ?_⟩
  simp only [run, forceL_eq]
  rw [h L n (by omega) (by omega)]
  exact h' L n (by omega) (by omega)
theorem EvD.loop {keep drop : List Nat} {body : St → D} {st : St} {k : R → D} {x r : R} (h : EvL F keep drop body st x) (h' : EvD F (k x) r) : EvD F (.loop keep drop body st k) r := by
  obtain ⟨N, h⟩ := h
  obtain ⟨M, h'⟩ := h'
  refine ⟨max N M, fun L n hL hn => ?_⟩
  simp only [run]
  rw [h L n (by omega) (by omega) L (by omega)]
  exact h' L n (by omega) (by omega)

/-- one round: the loop goes on -/
theorem EvL.round {keep drop : List Nat} {body : St → D} {st s : St} {r : R} (h : ∀ tm', keepF (fun t => t) keep st.tm = tm' → EvD F (body ⟨tm', shed drop st.lo, st.hp⟩) (.norm s)) (h' : EvL F keep drop body s r) : EvL F keep drop body st r := by
  obtain ⟨N, h⟩ := h _ rfl
  obtain ⟨M, h'⟩ := h'
  refine ⟨max N M + 1, fun L n hL hn q hq => ?_⟩
  cases q with
  | zero => omega
  | succ q =>
    rw [iter_succ]
    rw [keepF_id, h L n (by omega) (by omega)]
    exact h' L n (by omega) (by omega) q (by omega)
/-- the last round -/
theorem EvL.last {keep drop : List Nat} {body : St → D} {st : St} {r : R} (h : ∀ tm', keepF (fun t => t) keep st.tm = tm' → EvD F (body ⟨tm', shed drop st.lo, st.hp⟩) r) (hr : ∀ s, r ≠ .norm s) : EvL F keep drop body st r := by
  obtain ⟨N, h⟩ := h _ rfl
  refine ⟨N + 1, fun L n hL hn q hq => ?_⟩
  cases q with
  | zero => omega
  | succ q =>
    rw [iter_succ]
    rw [keepF_id, h L n (by omega) (by omega)]
    cases r with
    | norm s => exact absurd rfl (hr s)
    | _ => rfl

/-- a function that runs apart -/
theorem EvC.pure {own : Bool} {f : Nat} {fn : Ev.Fn} {xs ys : List V} {hp hp1 : Hp} {r : R} {c : CR} (hF : F f = some fn) (hm : fn.md = .pure) (hc : closeAll fn.ps xs hp = some (ys, hp1)) (hl : Nat.beq ys.length fn.ps.length = true) (h : EvD F (bodyD fn ys h0) r)
    (hb : back own fn hp1 (crOf r) = c) : EvC F own f xs hp c := by
  obtain ⟨N, h⟩ := h
  refine ⟨N + 1, fun L n hL hn => ?_⟩
  cases n with
  | zero => omega
  | succ n =>
    simp only [callF, hF, hm, runP, hc, runF, hl, cond_true]
    rw [h L n (by omega) (by omega), hb]

/-- a function in the heap -/
theorem EvC.rw {own : Bool} {f : Nat} {fn : Ev.Fn} {xs : List V} {hp : Hp} {r : R} {c : CR} (hF : F f = some fn) (hm : fn.md = .rw) (hl : Nat.beq xs.length fn.ps.length = true) (h : EvD F (bodyD fn xs hp) r)
    (hb : crOf r = c) : EvC F own f xs hp c := by
  obtain ⟨N, h⟩ := h
  refine ⟨N + 1, fun L n hL hn => ?_⟩
  cases n with
  | zero => omega
  | succ n =>
    simp only [callF, hF, hm, runF, hl, cond_true]
    rw [h L n (by omega) (by omega), hb]

theorem EvC.run {fn : Ev.Fn} {xs : List V} {r : R} {v : V} {hp' : Hp} (hl : Nat.beq xs.length fn.ps.length = true) (h : EvD F (bodyD fn xs h0) r) (hb : crOf r = .ret v hp') : ∃ L n, runF (callF F L n) L fn xs h0 = .ret v hp' := by
  obtain ⟨N, h⟩ := h
  refine ⟨N, N, ?_⟩
  simp only [runF, hl, cond_true]
  rw [h N N (by omega) (by omega), hb]
end
end Ev
