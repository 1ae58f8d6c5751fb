import Derived.Test.YtgofadnggipkpaaEvRel
namespace Ev
open Go

theorem beqF {a b : Nat} (h : a ≠ b) : Nat.beq a b = false := by
  cases hb : Nat.beq a b
  · rfl
  · exact absurd (Nat.eq_of_beq_eq_true hb) h
theorem beqT {a b : Nat} (h : a = b) : Nat.beq a b = true := by subst h; exact Nat.beq_refl a

theorem cell_heap {w w' : World} (h : w'.heap = w.heap) (a : Addr) : w'.cell? a = w.cell? a := by unfold World.cell?; rw [h]
theorem frozen_heap {w w' : World} (h : w'.heap = w.heap) (a : Addr) : w'.frozen? a = w.frozen? a := by unfold World.frozen?; rw [h]

/-- a new row of cells -/
structure Grow (w w' : World) (arr : Array Value) : Prop where
  ex : ∃ e fr, w'.heap = w.heap.push (.cells arr e fr) ∧ (fr.1 = fr.2 ∨ arr.size ≤ fr.1)
  os : w'.os = w.os ∧ w'.output = w.output

theorem Grow.size {w w' : World} {arr : Array Value} (h : Grow w w' arr) : w'.heap.size = w.heap.size + 1 := by
  obtain ⟨e, fr, h, _⟩ := h.ex; rw [h]; simp

theorem Grow.old {w w' : World} {arr : Array Value} (h : Grow w w' arr) {b o : Nat} {v : Value} (c : w.cell? (ad b o) = some v) : w'.cell? (ad b o) = some v := by
  obtain ⟨e, fr, h, _⟩ := h.ex
  have hb := cell_block c
  unfold World.cell? ad at *
  simp only [h, Array.getElem?_push, Nat.ne_of_lt hb, if_false]
  exact c

theorem Grow.oldF {w w' : World} {arr : Array Value} (h : Grow w w' arr) {b o : Nat} (hb : b < w.heap.size) : w'.frozen? (ad b o) = w.frozen? (ad b o) := by
  obtain ⟨e, fr, h, _⟩ := h.ex
  unfold World.frozen? ad
  simp only [h, Array.getElem?_push, Nat.ne_of_lt hb, if_false]

theorem Grow.new {w w' : World} {arr : Array Value} (h : Grow w w' arr) (o : Nat) : w'.cell? (ad w.heap.size o) = arr[o]? := by
  obtain ⟨e, fr, h, _⟩ := h.ex
  unfold World.cell? ad
  simp [h]

theorem Grow.newF {w w' : World} {arr : Array Value} (h : Grow w w' arr) {o : Nat} (ho : o < arr.size) : w'.frozen? (ad w.heap.size o) = false := by
  obtain ⟨e, fr, h, hf⟩ := h.ex
  unfold World.frozen? ad
  rcases fr with ⟨lo, hi⟩
  simp only [h, Array.getElem?_push, if_true]
  simp only [Bool.and_eq_false_iff, decide_eq_false_iff_not]
  simp only at hf
  omega

theorem Grow.unf {w w' : World} {arr : Array Value} (h : Grow w w' arr) {b : Nat} (hu : Unf w b) : Unf w' b := by
  obtain ⟨e, fr, h, _⟩ := h.ex
  obtain ⟨C, e', fr', hb, hc⟩ := hu
  refine ⟨C, e', fr', ?_, hc⟩
  have hlt : b < w.heap.size := (Array.getElem?_eq_some_iff.1 hb).1
  rw [h, Array.getElem?_push, if_neg (Nat.ne_of_lt hlt)]; exact hb

theorem Grow.heap {w w' : World} {arr : Array Value} (h : Grow w w' arr) {b : Nat} (hb : b < w.heap.size) : w'.heap[b]? = w.heap[b]? := by
  obtain ⟨e, fr, h, _⟩ := h.ex
  rw [h, Array.getElem?_push, if_neg (Nat.ne_of_lt hb)]

theorem Grow.maps {w w' : World} {arr : Array Value} (h : Grow w w' arr) : ∀ (b : Nat) es c, w.heap[b]? = some (Obj.map es c) → w'.heap[b]? = some (Obj.map es c) := fun b es c x => by
  rw [h.heap (Array.getElem?_eq_some_iff.1 x).1]; exact x

theorem Grow.wd {w w' : World} {arr : Array Value} (h : Grow w w' arr) {X Y Z Z' : Nat → Prop} (hz : ∀ b, Z' b → Z b) : (w'.os = w.os ∧ w'.output = w.output) ∧ (∀ b, Unf w b → Unf w' b) ∧ (∀ b, b < w.heap.size → X b → Y b → w'.heap[b]? = w.heap[b]?) ∧ ∀ b, Z' b → Z b ∨ w.heap.size ≤ b :=
  ⟨h.os, fun _ x => h.unf x, fun _ hb _ _ => h.heap hb, fun b x => .inl (hz b x)⟩

theorem Grow.unfNew {w w' : World} {arr : Array Value} (h : Grow w w' arr) : Unf w' w.heap.size := by
  obtain ⟨e, fr, h, hf⟩ := h.ex
  exact ⟨arr, e, fr, by rw [h]; simp, hf⟩

theorem Unf.heap {w w' : World} (h : w'.heap = w.heap) {b : Nat} (hu : Unf w b) : Unf w' b := by unfold Unf; rw [h]; exact hu

theorem Unf.set {w : World} {b : Nat} (hu : Unf w b) (a : Addr) (v : Value) : Unf (w.setCell a v) b := by
  obtain ⟨C, e, fr, hb, hc⟩ := hu
  unfold World.setCell Unf
  simp only [Array.getElem?_modify]
  by_cases h : a.block = b
  · simp only [h, if_true, hb, Option.map_some]
    exact ⟨_, e, fr, rfl, by split <;> simpa using hc⟩
  · simp only [h, if_false]; exact ⟨C, e, fr, hb, hc⟩

/-- cells written one behind the other -/
def setCs (w : World) (b o : Nat) : List Value → World
  | [] => w
  | v :: r => setCs (w.setCell (ad b o) v) b (o + 1) r

theorem cell_set {w : World} {b o : Nat} {v u : Value} (h : w.cell? (ad b o) = some u) (b' o' : Nat) :
    (w.setCell (ad b o) v).cell? (ad b' o') = if b' = b ∧ o' = o then some v else w.cell? (ad b' o') := by
  unfold World.cell? World.setCell ad at *
  simp only [Array.getElem?_modify]
  by_cases hb : b' = b
  · subst hb
    simp only [true_and, if_true]
    cases hc : w.heap[b']? with
    | none => simp [hc] at h
    | some ob =>
      cases ob <;> simp_all
      rename_i c e fr
      by_cases ho : o' = o
      · subst ho
        simp only [if_true]
        rw [Array.getElem?_setIfInBounds_self]
        have : o' < c.size := by
          rcases Nat.lt_or_ge o' c.size with h' | h'
          · exact h'
          · simp [Array.getElem?_eq_none h'] at h
        simp [this]
      · simp only [ho, if_false]
        rw [Array.getElem?_setIfInBounds_ne (by omega)]
  · have : ¬ b = b' := fun e => hb e.symm
    simp [hb, this]

theorem frozen_set (w : World) (a : Addr) (v : Value) (a' : Addr) : (w.setCell a v).frozen? a' = w.frozen? a' := by
  unfold World.frozen? World.setCell
  simp only [Array.getElem?_modify]
  by_cases hb : a.block = a'.block
  · simp only [hb, if_true]
    cases hc : w.heap[a'.block]? with
    | none => rfl
    | some ob => cases ob <;> rfl
  · simp only [hb, if_false]

theorem size_set (w : World) (a : Addr) (v : Value) : (w.setCell a v).heap.size = w.heap.size := by
  unfold World.setCell; simp

theorem frozen_setCs (w : World) (b o : Nat) (vs : List Value) (a : Addr) : (setCs w b o vs).frozen? a = w.frozen? a := by
  induction vs generalizing w o with
  | nil => rfl
  | cons v r ih => simp only [setCs]; rw [ih, frozen_set]

theorem Unf.setCs {w : World} {b : Nat} (hu : Unf w b) (b' o : Nat) (vs : List Value) : Unf (setCs w b' o vs) b := by
  induction vs generalizing w o with
  | nil => exact hu
  | cons v r ih => simp only [Ev.setCs]; exact ih (hu.set _ _) _

theorem heap_setCs (w : World) (b o : Nat) (vs : List Value) : (setCs w b o vs).os = w.os ∧ (setCs w b o vs).output = w.output ∧ ∀ b', b' ≠ b ∨ vs = [] → (setCs w b o vs).heap[b']? = w.heap[b']? := by
  induction vs generalizing w o with
  | nil => exact ⟨rfl, rfl, fun _ _ => rfl⟩
  | cons v r ih =>
    simp only [setCs]
    obtain ⟨h1, h2, h3⟩ := ih (w.setCell (ad b o) v) (o + 1)
    refine ⟨h1, h2, fun b' hb => ?_⟩
    have hb : b' ≠ b := by rcases hb with q | q; exact q; cases q
    rw [h3 b' (.inl hb)]
    unfold World.setCell ad
    simp only [Array.getElem?_modify, show ¬ b = b' from fun e => hb e.symm, if_false]

/-- maps aren't written with cells -/
theorem maps_setCs {w : World} {b o : Nat} {vs : List Value} (h : ∀ k, k < vs.length → ∃ u, w.cell? (ad b (o + k)) = some u) : ∀ (b' : Nat) es c, w.heap[b']? = some (Obj.map es c) → (setCs w b o vs).heap[b']? = some (Obj.map es c) := by
  intro b' es c x
  rw [(heap_setCs w b o vs).2.2 b' ?_]; exact x
  by_cases e : vs = []
  · exact .inr e
  · refine .inl fun q => ?_
    obtain ⟨u, hu⟩ := h 0 (List.length_pos_iff.2 e)
    unfold World.cell? ad at hu
    simp only [← q, x] at hu
    cases hu

theorem size_setCs (w : World) (b o : Nat) (vs : List Value) : (setCs w b o vs).heap.size = w.heap.size := by
  induction vs generalizing w o with
  | nil => rfl
  | cons v r ih => simp only [setCs]; rw [ih, size_set]

theorem cell_setCs {w : World} {b o : Nat} {vs : List Value} (h : ∀ k, k < vs.length → ∃ u, w.cell? (ad b (o + k)) = some u) (b' o' : Nat) :
    (setCs w b o vs).cell? (ad b' o') = if b' = b ∧ o ≤ o' ∧ o' < o + vs.length then vs[o' - o]? else w.cell? (ad b' o') := by
  induction vs generalizing w o with
  | nil => simp [setCs]; intro _ h1 h2; omega
  | cons v r ih =>
    simp only [setCs]
    obtain ⟨u, hu⟩ := h 0 (by simp)
    have hs := fun x y => cell_set (v := v) hu x y
    rw [ih (fun k hk => ?_)]
    · simp only [Nat.add_zero] at hs
      rw [hs]
      by_cases hb : b' = b
      · simp only [hb, true_and, List.length_cons]
        by_cases ho : o' = o
        · subst ho; rw [if_neg (by omega), if_pos rfl, if_pos (by omega)]; simp
        · by_cases h1 : o + 1 ≤ o' ∧ o' < o + 1 + r.length
          · rw [if_pos h1, if_pos (by omega)]
            have : o' - o = (o' - (o + 1)) + 1 := by omega
            rw [this]; simp
          · rw [if_neg h1, if_neg ho, if_neg (by omega)]
      · simp [hb]
    · simp only [Nat.add_zero] at hs
      rw [hs]
      split
      · exact ⟨_, rfl⟩
      · obtain ⟨u', hu'⟩ := h (k + 1) (by simp; omega)
        exact ⟨u', by rw [show o + 1 + k = o + (k + 1) by omega]; exact hu'⟩

/-- tree of objects -/
theorem Tr.get_setAt (f : Nat) (t : Tr) (k : Nat) (x : Option Bk) (hk : k < f) (j : Nat) : (t.setAt f k x).get j = if j = k then x else t.get j := by
  induction f generalizing t k j with
  | zero => omega
  | succ f ih =>
    have hv : t.get 0 = t.val := by cases t <;> rfl
    have hl : ∀ j, j ≠ 0 → j % 2 = 1 → t.get j = t.left.get (j / 2) := by
      intro j h0 h1
      cases t with
      | e => rfl
      | n b l r =>
        have : Nat.beq j 0 = false := beqF h0
        simp [Tr.get, Tr.left, this, h1]
    have hr : ∀ j, j ≠ 0 → j % 2 ≠ 1 → t.get j = t.right.get (j / 2 - 1) := by
      intro j h0 h1
      cases t with
      | e => rfl
      | n b l r =>
        have : Nat.beq j 0 = false := beqF h0
        have h2 : Nat.beq (j % 2) 1 = false := beqF h1
        simp [Tr.get, Tr.right, this, h2]
    have key : ∀ (b : Option Bk) (l r : Tr) (j : Nat), (Tr.n b l r).get j = if j = 0 then b else if j % 2 = 1 then l.get (j / 2) else r.get (j / 2 - 1) := by
      intro b l r j
      by_cases h0 : j = 0
      · subst h0; rfl
      · have e0 : Nat.beq j 0 = false := beqF h0
        by_cases h1 : j % 2 = 1
        · have e1 : Nat.beq (j % 2) 1 = true := beqT h1
          simp [Tr.get, e0, h0, h1]
        · have e1 : Nat.beq (j % 2) 1 = false := beqF h1
          simp [Tr.get, e0, e1, h0, h1]
    have tk : ∀ j, t.get j = if j = 0 then t.val else if j % 2 = 1 then t.left.get (j / 2) else t.right.get (j / 2 - 1) := by
      intro j
      by_cases h0 : j = 0
      · subst h0; simpa using hv
      · by_cases h1 : j % 2 = 1
        · simp [h0, h1, hl j h0 h1]
        · simp [h0, h1, hr j h0 h1]
    by_cases k0 : k = 0
    · subst k0
      have : t.setAt (f + 1) 0 x = .n x t.left t.right := rfl
      rw [this, key, tk j]
      by_cases h0 : j = 0 <;> simp [h0]
    · have e0 : Nat.beq k 0 = false := beqF k0
      by_cases k1 : k % 2 = 1
      · have e1 : Nat.beq (k % 2) 1 = true := beqT k1
        have : t.setAt (f + 1) k x = .n t.val (t.left.setAt f (k / 2) x) t.right := by simp [Tr.setAt, e0, e1]
        rw [this, key, ih _ _ (by omega), tk j]
        by_cases h0 : j = 0
        · simp [h0]; omega
        · by_cases h1 : j % 2 = 1
          · have : j / 2 = k / 2 ↔ j = k := by omega
            simp [h0, h1, this]
          · have : j ≠ k := by omega
            simp [h0, h1, this]
      · have e1 : Nat.beq (k % 2) 1 = false := beqF k1
        have : t.setAt (f + 1) k x = .n t.val t.left (t.right.setAt f (k / 2 - 1) x) := by simp [Tr.setAt, e0, e1]
        rw [this, key, ih _ _ (by omega), tk j]
        by_cases h0 : j = 0
        · simp [h0]; omega
        · by_cases h1 : j % 2 = 1
          · have : j ≠ k := by omega
            simp [h0, h1, this]
          · have : j / 2 - 1 = k / 2 - 1 ↔ j = k := by omega
            simp [h0, h1, this]

theorem hget_hset (hp : Hp) (id : Nat) (b : Option Bk) (j : Nat) : hget (hset hp id b) j = if j = id then b else hget hp j := by
  unfold hget hset; exact Tr.get_setAt _ _ _ _ (by omega) _
theorem hget_hnew (hp : Hp) (b : Bk) (j : Nat) : hget (hnew hp b) j = if j = hp.next then some b else hget hp j := by
  unfold hget hnew; exact Tr.get_setAt _ _ _ _ (by omega) _

end Ev
