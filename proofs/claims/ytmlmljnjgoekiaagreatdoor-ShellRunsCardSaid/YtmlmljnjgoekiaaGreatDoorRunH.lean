import Derived.Test.YtmlmljnjgoekiaaGreatDoorEvF
import Derived.Test.YtmlmljnjgoekiaaGreatDoorEvE
import Derived.Test.YtmlmljnjgoekiaaGreatDoorGl
import Derived.Test.YtmlmljnjgoekiaaGreatDoorLaysJ
import Derived.Test.YtmlmljnjgoekiaaGreatDoorRun0
set_option linter.unusedVariables false
set_option linter.unusedSectionVars false
-- shell.Run of one line, in the evaluator
namespace Ev
variable [Glob]
open Go Go.Proofs
theorem cell_blk {w w' : World} {b : Nat} (h : w'.heap[b]? = w.heap[b]?) (o : Nat) : w'.cell? (ad b o) = w.cell? (ad b o) := World.cell?_of_block (a := ad b o) h
theorem frozen_blk {w w' : World} {b : Nat} (h : w'.heap[b]? = w.heap[b]?) (o : Nat) : w'.frozen? (ad b o) = w.frozen? (ad b o) := World.frozen?_of_block (a := ad b o) h
theorem Unf.blk {n : Nat} {w w' : World} {b : Nat} (h : Unf n w b) (e : w'.heap[b]? = w.heap[b]?) : Unf n w' b := by
  obtain ⟨C, t, fr, h1, h2⟩ := h
  exact ⟨C, t, fr, by rw [e]; exact h1, h2⟩
/-- a block that nobody owns turns -/
theorem HR.but {g : G} {hp : Hp} {w w' : World} {n : Nat} (h : HR g hp w) (hk : ∀ o, g.κ n o = none) (ho : ∀ o, ¬ Own g hp n o) (hc : ∀ es c, w.heap[n]? ≠ some (.map es c)) (hB : ButOne n w w') : HR g hp w' := by
  have blk : ∀ b o v, w.cell? (ad b o) = some v → b ≠ n → w'.heap[b]? = w.heap[b]? := fun b o v x hb => hB.block b (cell_block x) hb
  refine ⟨h.mp.mono (fun b es c x => ?_) (fun _ _ x => x) (fun _ _ x => x) (fun _ _ _ => rfl), h.lim, h.nil, h.bnd, fun b o v x => ?_, h.unb, h.dead, fun id r x => ?_, h.sep⟩
  · rw [hB.block b (Array.getElem?_eq_some_iff.1 x).1 (fun e => by subst e; exact hc _ _ x)]; exact x
  · have hb : b ≠ n := fun e => by subst e; rw [hk] at x; cases x
    have y := h.kap b o v x
    rw [cell_blk (blk b o v y hb)]; exact y
  · obtain ⟨bk, h1, h2⟩ := h.live id r x
    have nb : bk.fr = false → ∀ k, k < r.cap * r.sz → r.b ≠ n := fun hf k hk' e => ho (r.base + k) ⟨id, r, bk, k, x, h1, hf, hk', e.symm, rfl⟩
    refine ⟨bk, h1, ⟨h2.sz, h2.len, h2.row, fun i j e c he hcc => ?_, fun hf k hk' => ?_, h2.frz, fun hf hp' => (h2.blk hf hp').blk ?_⟩⟩
    · obtain ⟨q1, cv, q2, q3⟩ := h2.cont i j e c he hcc
      have hrb : r.b ≠ n := by
        cases hf : bk.fr with
        | false =>
          refine nb hf (i * r.sz + j) (idx_lt (Nat.lt_of_lt_of_le (lt_of_get he) h2.len) ?_)
          have := lt_of_get hcc
          rw [h2.row e (List.mem_of_getElem? he), ← h2.sz] at this; exact this
        | true =>
          obtain ⟨cv', q⟩ := h2.frz hf i j e c he hcc
          intro e; rw [e, hk] at q; cases q
      exact ⟨q1, cv, by rw [cell_blk (blk _ _ _ q2 hrb)]; exact q2, q3⟩
    · obtain ⟨⟨cv, q1⟩, q2, q3⟩ := h2.rw hf k hk'
      have e := blk _ _ _ q1 (nb hf k hk')
      exact ⟨⟨cv, by rw [cell_blk e]; exact q1⟩, by rw [frozen_blk e]; exact q2, q3⟩
    · obtain ⟨⟨cv, q1⟩, -, -⟩ := h2.rw hf 0 hp'
      exact blk _ _ _ q1 (nb hf 0 hp')
/-- all that a run made is given up -/
theorem fin_hr {g : G} {w w' : World} (h : HR g h0 w) (hs : w.heap.size ≤ w'.heap.size) (ho : w'.os = w.os ∧ w'.output = w.output) (hb : ∀ k, k < w.heap.size → w'.heap[k]? = w.heap[k]?) (n : Nat) :
    HR ⟨g.κ, fun id => if id < n then .dead else .unb⟩ ⟨n, 0, .e⟩ w' ∧ Evo g h0 w ⟨g.κ, fun id => if id < n then .dead else .unb⟩ ⟨n, 0, .e⟩ w' := by
  have nl : ∀ id r, (if id < n then Life.dead else Life.unb) = .live r → False := fun id r x => by split at x <;> cases x
  have nm : ∀ id b, (if id < n then Life.dead else Life.unb) = .mlive b → False := fun id r x => by split at x <;> cases x
  have gn : ∀ id, hget ⟨n, 0, .e⟩ id = none := fun id => rfl
  refine ⟨⟨⟨fun id b x => (nm id b x).elim, fun id id' b _ x => (nm id b x).elim⟩, Nat.zero_le _, fun id _ => gn id, fun id hid => ?_, fun b o v x => ?_, fun id hid => ?_, fun id _ => gn id, fun id r x => (nl id r x).elim, fun id id' r r' bk bk' _ x => (nl id r x).elim⟩,
    ⟨⟨fun _ _ _ x => x, fun id => ?_⟩, Nat.zero_le _, rfl, fun id hid => absurd hid (Nat.not_lt_zero _), hs, fun b o v x _ => ?_, fun b o v x _ => ?_, fun b o ⟨id, r, bk, k, x, _⟩ => (nl id r x).elim, fun _ _ _ x => .inl x, ho, fun b hu => ?_, fun b hlt _ _ => hb b hlt, fun b ⟨id, x⟩ => (nm id b x).elim⟩⟩
  · show (if id < n then Life.dead else Life.unb) ≠ .unb
    rw [if_pos hid]; intro e; cases e
  · have y := h.kap b o v x
    rw [cell_blk (hb b (cell_block y))]; exact y
  · show (if id < n then Life.dead else Life.unb) = .unb
    exact if_neg (by have : n ≤ id := hid; omega)
  · rw [h.unb id (Nat.zero_le _)]; trivial
  · rw [cell_blk (hb b (cell_block x))]; exact x
  · rw [frozen_blk (hb b (cell_block x))]
  · obtain ⟨C, t, fr, q, _⟩ := id hu
    exact hu.blk (hb b (Array.getElem?_eq_some_iff.1 q).1)
/-- a state behind some of a run's steps -/
structure St0 (w0 : World) (g : G) (hp : Hp) (w : World) : Prop where
  hr : HR g hp w
  gl : GlobW g hp w
  own : ∀ b o, Own g hp b o → w0.heap.size ≤ b
  ownM : ∀ b, OwnM g b → w0.heap.size ≤ b
  size : w0.heap.size ≤ w.heap.size
  blk : ∀ k, k < w0.heap.size → w.heap[k]? = w0.heap[k]?
  os : w.os = w0.os ∧ w.output = w0.output
  gn : ∀ n cs, Glob.gl n = some cs → n < w0.heap.size
/-- a block that is nobody's -/
structure Pv (g : G) (hp : Hp) (n : Nat) : Prop where
  own : ∀ o, ¬ Own g hp n o
  ownM : ¬ OwnM g n
  κ : ∀ o, g.κ n o = none
theorem HR.pv {g : G} {hp : Hp} {w : World} (h : HR g hp w) {n : Nat} (hn : w.heap.size ≤ n) : Pv g hp n :=
  ⟨fun o x => by obtain ⟨v, y⟩ := Own.bound h x; have := cell_block y; omega, fun ⟨id, x⟩ => by
    obtain ⟨bk, _, ⟨_, es, c, y, _⟩⟩ := h.mp.live id n x
    have := (Array.getElem?_eq_some_iff.1 y).1; omega, fun o => by
    cases e : g.κ n o with
    | none => rfl
    | some v => have := cell_block (h.kap _ _ _ e); omega⟩
theorem St0.first {w0 : World} {g : G} (hr : HR g h0 w0) (gl : GlobW g h0 w0) : St0 w0 g h0 w0 :=
  ⟨hr, gl, fun b o ⟨id, r, bk, k, x, _⟩ => by (rw [hr.unb id (Nat.zero_le _)] at x; cases x), fun b ⟨id, x⟩ => by (rw [hr.unb id (Nat.zero_le _)] at x; cases x), Nat.le_refl _, fun _ _ => rfl, ⟨rfl, rfl⟩, fun n cs hn => by
    obtain ⟨C, e, fr, q, _⟩ := gl.blk n cs hn
    exact (Array.getElem?_eq_some_iff.1 q).1⟩
theorem St0.evo {w0 : World} {g g' : G} {hp hp' : Hp} {w w' : World} (S : St0 w0 g hp w) (hr : HR g' hp' w') (ev : Evo g hp w g' hp' w') : St0 w0 g' hp' w' := by
  refine ⟨hr, S.gl.evo ev, fun b o x => ?_, fun b x => ?_, Nat.le_trans S.size ev.size, fun k hk => ?_, ⟨ev.wd.1.1.trans S.os.1, ev.wd.1.2.trans S.os.2⟩, S.gn⟩
  · rcases ev.own b o x with y | y
    · exact S.own b o y
    · exact Nat.le_trans S.size y
  · rcases ev.wd.2.2.2 b x with y | y
    · exact S.ownM b y
    · exact Nat.le_trans S.size y
  · rw [ev.wd.2.2.1 k (Nat.lt_of_lt_of_le hk S.size) (fun o x => by have := S.own k o x; omega) (fun x => by have := S.ownM k x; omega)]
    exact S.blk k hk
theorem Pv.evo {g g' : G} {hp hp' : Hp} {w w' : World} {n : Nat} (P : Pv g hp n) (hn : n < w.heap.size) (ev : Evo g hp w g' hp' w') : Pv g' hp' n ∧ w'.heap[n]? = w.heap[n]? :=
  ⟨⟨fun o x => by rcases ev.own n o x with y | y; exact P.own o y; omega, fun x => by rcases ev.wd.2.2.2 n x with y | y; exact P.ownM y; omega, fun o => by
    cases e : g'.κ n o with
    | none => rfl
    | some v =>
      rcases ev.κ n o v e with y | y | y
      · rw [P.κ] at y; cases y
      · exact absurd y (P.own o)
      · omega⟩, ev.wd.2.2.1 n hn P.own P.ownM⟩
/-- a block of nobody's turns, or comes -/
theorem St0.but {w0 : World} {g : G} {hp : Hp} {w w' : World} {n : Nat} (S : St0 w0 g hp w) (P : Pv g hp n) (hn : w0.heap.size ≤ n) (hc : ∀ es c, w.heap[n]? ≠ some (.map es c)) (hB : ButOne n w w') : St0 w0 g hp w' := by
  refine ⟨S.hr.but P.κ P.own hc hB, ⟨S.gl.ok, fun m cs hm => ?_⟩, S.own, S.ownM, Nat.le_trans S.size hB.size, fun k hk => ?_, ⟨hB.os.trans S.os.1, hB.output.trans S.os.2⟩, S.gn⟩
  · obtain ⟨C, e, fr, q1, q2⟩ := S.gl.blk m cs hm
    have := S.gn m cs hm
    exact ⟨C, e, fr, by rw [hB.block m (by have := S.size; omega) (by omega)]; exact q1, q2⟩
  · rw [hB.block k (Nat.lt_of_lt_of_le hk S.size) (by omega)]; exact S.blk k hk
theorem but_alloc (w : World) (o : Obj) : ButOne w.heap.size w (w.alloc o) := ⟨by show _ ≤ (w.heap.push o).size; simp, rfl, rfl, fun k hk _ => by show (w.heap.push o)[k]? = _; rw [Array.getElem?_push, if_neg (by omega)]⟩
theorem alloc_new (w : World) (o : Obj) : (w.alloc o).heap[w.heap.size]? = some o := by show (w.heap.push o)[w.heap.size]? = _; simp
theorem alloc_size (w : World) (o : Obj) : (w.alloc o).heap.size = w.heap.size + 1 := by show (w.heap.push o).size = _; simp
theorem St0.alloc {w0 : World} {g : G} {hp : Hp} {w : World} (S : St0 w0 g hp w) (o : Obj) : St0 w0 g hp (w.alloc o) :=
  S.but (S.hr.pv (Nat.le_refl _)) S.size (fun es c x => by have := (Array.getElem?_eq_some_iff.1 x).1; omega) (but_alloc w o)
theorem arr_two {a : Array Value} (h : a.size = 2) : a = #[a.getD 0 undef, a.getD 1 undef] := by
  apply Array.ext
  · simp [h]
  · intro i h1 h2
    match i, (show i < 2 by omega) with
    | 0, _ => simp [Array.getD, h]
    | 1, _ => simp [Array.getD, h]
theorem arr_three {a : Array Value} (h : a.size = 3) : a = #[a.getD 0 undef, a.getD 1 undef, a.getD 2 undef] := by
  apply Array.ext
  · simp [h]
  · intro i h1 h2
    match i, (show i < 3 by omega) with
    | 0, _ => simp [Array.getD, h]
    | 1, _ => simp [Array.getD, h]
    | 2, _ => simp [Array.getD, h]
theorem arr_seven {a : Array Value} (h : a.size = 7) : a = #[a.getD 0 undef, a.getD 1 undef, a.getD 2 undef, a.getD 3 undef, a.getD 4 undef, a.getD 5 undef, a.getD 6 undef] := by
  apply Array.ext
  · simp [h]
  · intro i h1 h2
    match i, (show i < 7 by omega) with
    | 0, _ => simp [Array.getD, h]
    | 1, _ => simp [Array.getD, h]
    | 2, _ => simp [Array.getD, h]
    | 3, _ => simp [Array.getD, h]
    | 4, _ => simp [Array.getD, h]
    | 5, _ => simp [Array.getD, h]
    | 6, _ => simp [Array.getD, h]
end Ev
namespace Go.Proofs.YtmlmljnjgoekiaaGreatDoor.run
open Go hiding Fn
open Go.Proofs Ev
def stepsR : V → Option (List V)
  | .tu [.vs 7 [r], .it .i64 _, .it .i64 (.ofNat 0)] => some r
  | _ => none
theorem stepsR_inv {v : V} {r : List V} (h : stepsR v = some r) : ∃ a, v = .tu [.vs 7 [r], .it .i64 a, .it .i64 (.ofNat 0)] := by
  unfold stepsR at h
  split at h
  · cases h; exact ⟨_, rfl⟩
  · cases h
def rowB : List V → Bool
  | [.it .i64 _, .it .i64 _, .it .i64 _, .it .i64 _, .vs _ _, .st _, .bo _] => true
  | _ => false
theorem rowB_inv {r : List V} (h : rowB r = true) : ∃ a0 a1 a2 a3 n es l b, r = [.it .i64 a0, .it .i64 a1, .it .i64 a2, .it .i64 a3, .vs n es, .st l, .bo b] := by
  unfold rowB at h
  split at h
  · exact ⟨_, _, _, _, _, _, _, _, rfl⟩
  · cases h
def newR : V → Option V
  | .tu [p, .it .i64 (.ofNat 0)] => some p
  | _ => none
theorem newR_inv {v p : V} (h : newR v = some p) : v = .tu [p, .it .i64 (.ofNat 0)] := by
  unfold newR at h
  split at h
  · cases h; rfl
  · cases h
def doR : V → Option (Int × Int)
  | .ag [.bo true, .it .i64 a, .it .i64 b] => some (a, b)
  | _ => none
theorem doR_inv {v : V} {a b : Int} (h : doR v = some (a, b)) : v = .ag [.bo true, .it .i64 a, .it .i64 b] := by
  unfold doR at h
  split at h
  · cases h; rfl
  · cases h
def strR : V → Option (List Nat)
  | .st l => bif Nat.ble l.length 1000000 then some l else none
  | _ => none
theorem strR_inv {v : V} {l : List Nat} (h : strR v = some l) : v = .st l ∧ l.length ≤ 1000000 := by
  unfold strR at h
  split at h
  · rename_i l'
    cases e : Nat.ble l'.length 1000000 with
    | false => rw [e] at h; cases h
    | true => rw [e] at h; cases h; exact ⟨rfl, Nat.le_of_ble_eq_true e⟩
  · cases h
def heardB : V → Bool
  | .ns => true
  | .vs _ [] => true
  | _ => false
def runD (cs : List V) (l : List Nat) (hp : Hp) (k : V → Hp → D) : D :=
  .call false 23 [.st l] hp fun c => match c with
  | .ret v1 hp1 => match stepsR v1 with
    | some r => .chk (rowB r) (.call false 24 [.ag cs] hp1 fun c => match c with
      | .ret v2 hp2 => match newR v2 with
        | some p => .call false 25 [p, .ag r] hp2 fun c => match c with
          | .ret v3 hp3 => match doR v3 with
            | some (g1, g2) => .call false 27 [.st [121, 101, 115], .vs 1 [[.it .i64 g1], [.it .i64 g2]]] hp3 fun c => match c with
              | .ret v4 hp4 => match strR v4 with
                | some t => .call false 28 [p] hp4 fun c => match c with
                  | .ret v5 hp5 => .chk (heardB v5) (k (.tu [.st (t ++ [10]), .it .i64 0, .it .i64 0]) ⟨hp5.next, 0, .e⟩)
                  | _ => .bad
                | none => .bad
              | _ => .bad
            | none => .bad
          | _ => .bad
        | none => .bad
      | _ => .bad)
    | none => .bad
  | _ => .bad
def runFn : Ev.Fn := ⟨[.g [.one, .one, .one, .one, .one, .one, .one], .c .one], [.c .one, .c .one, .c .one], .pure, [.tmp 0], fun st k => match st.tm 0 with
  | .ag cs => match st.tm 1 with
    | .st l => .chk (isH0 st.hp) (.chk (Nat.beq cs.length 7) (runD cs l st.hp fun v hp => k (.ret ⟨upd st.tm 0 v, st.lo, hp⟩)))
    | _ => .bad
  | _ => .bad⟩
theorem args1 {g : G} {x : V} {a : Value} (l : isLp x = false) (h : RepA g x a) : Args g [x] #[a] :=
  ⟨rfl, fun y hy => by simp at hy; subst hy; exact l, fun i y hy => by
    match i, hy with
    | 0, hy => cases hy; exact h⟩
theorem args2 {g : G} {x y : V} {a b : Value} (l : isLp x = false) (h : RepA g x a) (l' : isLp y = false) (h' : RepA g y b) : Args g [x, y] #[a, b] :=
  ⟨rfl, fun z hz => by simp at hz; rcases hz with rfl | rfl; exact l; exact l', fun i z hz => by
    match i, hz with
    | 0, hz => cases hz; exact h
    | 1, hz => cases hz; exact h'⟩
theorem pair_vs {g : G} {b : Nat} {a1 a2 : Int} (h0 : g.κ b 0 = some (.int .i64 a1)) (h1 : g.κ b 1 = some (.int .i64 a2)) : RepA g (.vs 1 [[.it .i64 a1], [.it .i64 a2]]) (.slice (some ⟨b, 0, none⟩) 2 2) := by
  have := RepC.vs (κ := g.κ) 1 [[.it .i64 a1], [.it .i64 a2]] (some (ad b 0)) 2 b 0 (fun i _ => if i = 0 then .int .i64 a1 else .int .i64 a2) (fun e he => by simp at he; rcases he with rfl | rfl <;> rfl) (fun _ => rfl) (by simp) (fun i j e c hi hj => ?_) (fun i j e c hi hj => ?_)
  · exact .c _ _ this
  · match i, hi with
    | 0, hi => cases hi; match j, hj with
      | 0, hj => cases hj; exact ⟨rfl, h0⟩
    | 1, hi => cases hi; match j, hj with
      | 0, hj => cases hj; exact ⟨rfl, h1⟩
  · match i, hi with
    | 0, hi => cases hi; match j, hj with
      | 0, hj => cases hj; exact .it _ _
    | 1, hi => cases hi; match j, hj with
      | 0, hj => cases hj; exact .it _ _
end Go.Proofs.YtmlmljnjgoekiaaGreatDoor.run
