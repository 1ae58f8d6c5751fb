import Derived.Test.YtgofadnggipkpaaEvMem
set_option linter.unusedVariables false
namespace Ev
open Go

/-- how things stood when a function was entered -/
structure Ent where
  g : G
  hp : Hp
  w : World

/-- a box -/
def BoxR (g : G) (w : World) (b : Nat) (cs : List V) : Prop :=
  ∀ (j : Nat) (c : V), cs[j]? = some c → c.keep = true ∧ (∃ cv, w.cell? (ad b j) = some cv ∧ RepA g c cv) ∧ w.frozen? (ad b j) = false

structure LoR (E : Ent) (g : G) (ν : Nat → Option Nat) (lo : Lo) (hp : Hp) (w : World) : Prop where
  box : ∀ t cs, lo t = some cs → ∃ b, ν t = some b ∧ BoxR g w b cs ∧ (∀ o, g.κ b o = none) ∧ (∀ o, ¬ Own g hp b o) ∧ E.w.heap.size ≤ b ∧ b < w.heap.size
  inj : ∀ t t' b, t ≠ t' → lo t ≠ none → lo t' ≠ none → ν t = some b → ν t' = some b → False

structure MemR (E : Ent) (g : G) (ν : Nat → Option Nat) (lo : Lo) (hp : Hp) (w : World) : Prop where
  hr : HR g hp w
  lo : LoR E g ν lo hp w
  evo : Evo E.g E.hp E.w g hp w

/-- nothing of an old object changes where the world only grows -/
theorem BkR.grow {g : G} {w w' : World} {r : Rg} {bk : Bk} (h : BkR g w r bk) {g' : G} (hg : GLe g g')
    (hc : ∀ b o v, w.cell? (ad b o) = some v → w'.cell? (ad b o) = some v)
    (hf : ∀ b o v, w.cell? (ad b o) = some v → w'.frozen? (ad b o) = w.frozen? (ad b o))
    (hk : ∀ b o, g.κ b o = none → (∃ v, w.cell? (ad b o) = some v) → g'.κ b o = none) (hu : ∀ b, Unf w b → Unf w' b) : BkR g' w' r bk where
  blk := fun hf => hu _ (h.blk hf)
  sz := h.sz
  len := h.len
  row := h.row
  cont := fun i j e c he hcc => by
    obtain ⟨k, cv, a, b⟩ := h.cont i j e c he hcc
    exact ⟨k, cv, hc _ _ _ a, b.mono hg⟩
  rw := fun hfr k hk' => by
    obtain ⟨⟨cv, a⟩, b, c⟩ := h.rw hfr k hk'
    exact ⟨⟨cv, hc _ _ _ a⟩, by rw [hf _ _ _ a, b], hk _ _ c ⟨cv, a⟩⟩
  frz := fun hfr i j e c he hcc => by
    obtain ⟨cv, a⟩ := h.frz hfr i j e c he hcc
    exact ⟨cv, hg.κ _ _ _ a⟩

theorem BoxR.grow {g : G} {w w' : World} {b : Nat} {cs : List V} (h : BoxR g w b cs) {g' : G} (hg : GLe g g')
    (hc : ∀ o v, w.cell? (ad b o) = some v → w'.cell? (ad b o) = some v)
    (hf : ∀ o v, w.cell? (ad b o) = some v → w'.frozen? (ad b o) = w.frozen? (ad b o)) : BoxR g' w' b cs := fun j c hj => by
  obtain ⟨k, ⟨cv, a, r⟩, f⟩ := h j c hj
  exact ⟨k, ⟨cv, hc _ _ a, r.mono hg⟩, by rw [hf _ _ a, f]⟩

theorem Own.bound {g : G} {hp : Hp} {w : World} (h : HR g hp w) {b o : Nat} (ho : Own g hp b o) : ∃ v, w.cell? (ad b o) = some v := by
  obtain ⟨id, r, bk, k, hl, hg, hf, hk, rfl, rfl⟩ := ho
  obtain ⟨bk', hg', hb⟩ := h.live id r hl
  rw [hg] at hg'; cases hg'
  exact (hb.rw hf k hk).1

theorem Own.κ {g : G} {hp : Hp} {w : World} (h : HR g hp w) {b o : Nat} (ho : Own g hp b o) : g.κ b o = none := by
  obtain ⟨id, r, bk, k, hl, hg, hf, hk, rfl, rfl⟩ := ho
  obtain ⟨bk', hg', hb⟩ := h.live id r hl
  rw [hg] at hg'; cases hg'
  exact (hb.rw hf k hk).2.2

/-- the same heap, another world's other parts -/
theorem MemR.same {E : Ent} {g : G} {ν : Nat → Option Nat} {lo : Lo} {hp : Hp} {w w' : World} (h : MemR E g ν lo hp w) (e : w'.heap = w.heap) (eo : w'.os = w.os ∧ w'.output = w.output) : MemR E g ν lo hp w' := by
  have hc : ∀ a, w'.cell? a = w.cell? a := cell_heap e
  have hf : ∀ a, w'.frozen? a = w.frozen? a := frozen_heap e
  have hs : w'.heap.size = w.heap.size := by rw [e]
  refine ⟨⟨h.hr.mp.mono (fun b es c x => by rw [e]; exact x) (fun _ _ x => x) (fun _ _ x => x) (fun _ _ _ => rfl), h.hr.lim, h.hr.nil, h.hr.bnd, fun b o v x => by rw [hc]; exact h.hr.kap b o v x, h.hr.unb, h.hr.dead, fun id r x => ?_, h.hr.sep⟩, ⟨fun t cs x => ?_, h.lo.inj⟩, ?_⟩
  · obtain ⟨bk, a, b⟩ := h.hr.live id r x
    exact ⟨bk, a, b.grow (GLe.refl g) (fun _ _ _ y => by rw [hc]; exact y) (fun _ _ _ _ => hf _) (fun _ _ y _ => y) (fun _ y => y.heap e)⟩
  · obtain ⟨b, h1, h2, h3, h4, h5, h6⟩ := h.lo.box t cs x
    exact ⟨b, h1, h2.grow (GLe.refl g) (fun _ _ y => by rw [hc]; exact y) (fun _ _ _ => hf _), h3, h4, h5, by omega⟩
  · have v := h.evo
    exact ⟨v.le, v.next, v.lim, v.ro, by rw [hs]; exact v.size, fun b o x y z => by rw [hc]; exact v.cell b o x y z, fun b o x y z => by rw [hf]; exact v.frozen b o x y z, v.own, v.κ, ⟨eo.1.trans v.wd.1.1, eo.2.trans v.wd.1.2⟩, fun b x => (v.wd.2.1 b x).heap e, fun b x y z => by rw [e]; exact v.wd.2.2.1 b x y z, v.wd.2.2.2⟩

/-- a new box -/
theorem MemR.box {E : Ent} {g : G} {ν : Nat → Option Nat} {lo : Lo} {hp : Hp} {w w' : World} (h : MemR E g ν lo hp w) {arr : Array Value} (hw : Grow w w' arr)
    {cs : List V} (hn : arr.size = cs.length) (hk : ∀ c, c ∈ cs → c.keep = true) (hr : ∀ (j : Nat) (c : V), cs[j]? = some c → RepA g c (arr.getD j undef)) (d : Nat) :
    MemR E g (fun t => if t = d then some w.heap.size else ν t) (lset lo d cs) hp w' := by
  have hev : Evo g hp w g hp w' := ⟨GLe.refl g, Nat.le_refl _, rfl, fun _ _ => rfl, by rw [hw.size]; omega, fun _ _ _ c _ => hw.old c, fun _ _ _ c _ => hw.oldF (cell_block c), fun _ _ o => .inl o, fun _ _ _ o => .inl o, hw.wd fun _ x => x⟩
  have hkn : ∀ o, g.κ w.heap.size o = none := fun o => by
    cases e : g.κ w.heap.size o with
    | none => rfl
    | some v => have := cell_block (h.hr.kap _ _ _ e); omega
  have hon : ∀ o, ¬ Own g hp w.heap.size o := fun o ho => by
    obtain ⟨v, e⟩ := Own.bound h.hr ho
    have := cell_block e; omega
  refine ⟨⟨h.hr.mp.mono hw.maps (fun _ _ x => x) (fun _ _ x => x) (fun _ _ _ => rfl), h.hr.lim, h.hr.nil, h.hr.bnd, fun b o v x => hw.old (h.hr.kap b o v x), h.hr.unb, h.hr.dead, fun id r x => ?_, h.hr.sep⟩, ⟨fun t cs' x => ?_, fun t t' b htt ht ht' e e' => ?_⟩, h.evo.trans hev⟩
  · obtain ⟨bk, a, b⟩ := h.hr.live id r x
    exact ⟨bk, a, b.grow (GLe.refl g) (fun _ _ _ y => hw.old y) (fun _ _ _ y => hw.oldF (cell_block y)) (fun _ _ y _ => y) (fun _ y => hw.unf y)⟩
  · by_cases ht : t = d
    · subst ht
      simp only [lset, Nat.beq_refl, cond_true, Option.some.injEq] at x
      subst x
      refine ⟨w.heap.size, by simp, fun j c hj => ?_, hkn, hon, h.evo.size, by rw [hw.size]; omega⟩
      have hj' : j < cs.length := by
        rcases Nat.lt_or_ge j cs.length with h' | h'
        · exact h'
        · simp [List.getElem?_eq_none h'] at hj
      refine ⟨hk c (List.mem_of_getElem? hj), ⟨arr.getD j undef, ?_, hr j c hj⟩, hw.newF (by omega)⟩
      rw [hw.new, Array.getElem?_eq_getElem (by omega)]
      simp [Array.getD, show j < arr.size by omega]
    · simp only [lset, beqF ht, cond_false] at x
      obtain ⟨b, h1, h2, h3, h4, h5, h6⟩ := h.lo.box t cs' x
      refine ⟨b, by simp [ht, h1], h2.grow (GLe.refl g) (fun _ _ y => hw.old y) (fun _ _ y => hw.oldF (cell_block y)), h3, h4, h5, by rw [hw.size]; omega⟩
  · have old : ∀ t b, t ≠ d → lset lo d cs t ≠ none → (if t = d then some w.heap.size else ν t) = some b → lo t ≠ none ∧ ν t = some b ∧ b < w.heap.size := by
      intro t b ht x e
      simp only [lset, beqF ht, cond_false] at x
      simp only [ht, if_false] at e
      refine ⟨x, e, ?_⟩
      cases hl : lo t with
      | none => exact absurd hl x
      | some c => obtain ⟨b', h1, _, _, _, _, h6⟩ := h.lo.box t c hl; rw [h1] at e; cases e; exact h6
    by_cases hd : t = d
    · have hd' : t' ≠ d := fun e => htt (hd.trans e.symm)
      obtain ⟨_, _, lt⟩ := old t' b hd' ht' e'
      simp only [hd, if_true, Option.some.injEq] at e
      omega
    · obtain ⟨x1, e1, lt⟩ := old t b hd ht e
      by_cases hd' : t' = d
      · simp only [hd', if_true, Option.some.injEq] at e'
        omega
      · obtain ⟨x2, e2, _⟩ := old t' b hd' ht' e'
        exact h.lo.inj t t' b htt x1 x2 e1 e2

/-- an object is born -/
def born (g : G) (hp : Hp) (r : Rg) : G := ⟨g.κ, fun id => if id = hp.next then .live r else g.lf id⟩

theorem born_le {g : G} {hp : Hp} {w : World} (h : HR g hp w) (r : Rg) : GLe g (born g hp r) :=
  ⟨fun _ _ _ x => x, fun id => by
    by_cases e : id = hp.next
    · rw [h.unb id (by omega)]; trivial
    · simp only [born, e, if_false]; cases g.lf id <;> simp [Life.le]⟩

theorem own_born {g : G} {hp : Hp} {w : World} (h : HR g hp w) {r : Rg} {bk : Bk} {b o : Nat} (x : Own (born g hp r) (hnew hp bk) b o) :
    Own g hp b o ∨ (b = r.b ∧ ∃ k, k < r.cap * r.sz ∧ o = r.base + k) := by
  obtain ⟨id, r', bk', k, hl, hg, hf, hk, hb, ho⟩ := x
  simp only [born] at hl
  rw [hget_hnew] at hg
  by_cases e : id = hp.next
  · simp only [e, if_true, Life.live.injEq] at hl; subst hl
    exact .inr ⟨hb, k, hk, ho⟩
  · simp only [e, if_false] at hl hg
    exact .inl ⟨id, r', bk', k, hl, hg, hf, hk, hb, ho⟩

/-- an object's rows as the cells of a new block -/
structure Rows (g : G) (bk : Bk) (cap : Nat) (arr : Array Value) : Prop where
  fr : bk.fr = false
  len : bk.es.length ≤ cap
  size : arr.size = cap * bk.sz
  row : ∀ e, e ∈ bk.es → e.length = bk.sz
  keep : ∀ e, e ∈ bk.es → ∀ c, c ∈ e → c.keep = true
  rep : ∀ (i j : Nat) (e : List V) (c : V), bk.es[i]? = some e → e[j]? = some c → RepA g c (arr.getD (i * bk.sz + j) undef)

theorem lt_of_get {α : Type} {l : List α} {i : Nat} {x : α} (h : l[i]? = some x) : i < l.length := by
  rcases Nat.lt_or_ge i l.length with h' | h'
  · exact h'
  · simp [List.getElem?_eq_none h'] at h

theorem idx_lt {i j n m : Nat} (hi : i < n) (hj : j < m) : i * m + j < n * m := by
  have : (i + 1) * m ≤ n * m := Nat.mul_le_mul_right m hi
  rw [Nat.add_mul] at this
  omega

/-- a new object -/
theorem MemR.new {E : Ent} {g : G} {ν : Nat → Option Nat} {lo : Lo} {hp : Hp} {w w' : World} (h : MemR E g ν lo hp w) {arr : Array Value} (hw : Grow w w' arr)
    {bk : Bk} {cap : Nat} (hr : Rows g bk cap arr) :
    MemR E (born g hp ⟨w.heap.size, 0, bk.sz, cap⟩) ν lo (hnew hp bk) w' := by
  have hle := born_le h.hr ⟨w.heap.size, 0, bk.sz, cap⟩
  have hkn : ∀ o, g.κ w.heap.size o = none := fun o => by
    cases e : g.κ w.heap.size o with
    | none => rfl
    | some v => have := cell_block (h.hr.kap _ _ _ e); omega
  have hnxt : g.lf hp.next = .unb := h.hr.unb _ (Nat.le_refl _)
  have hev : Evo g hp w (born g hp ⟨w.heap.size, 0, bk.sz, cap⟩) (hnew hp bk) w' :=
    ⟨hle, by simp [hnew], rfl, fun id hid => by rw [hget_hnew, if_neg (by have := h.hr.lim; omega)], by rw [hw.size]; omega, fun _ _ _ c _ => hw.old c, fun _ _ _ c _ => hw.oldF (cell_block c),
     fun b o x => by
      rcases own_born h.hr x with x | ⟨x, _⟩
      · exact .inl x
      · exact .inr (by simp only at x; omega), fun _ _ _ o => .inl o, hw.wd fun b ⟨id, x⟩ => by
        refine ⟨id, ?_⟩
        simp only [born] at x
        split at x
        · cases x
        · exact x⟩
  have hbk : BkR (born g hp ⟨w.heap.size, 0, bk.sz, cap⟩) w' ⟨w.heap.size, 0, bk.sz, cap⟩ bk := by
    refine ⟨rfl, hr.len, hr.row, fun i j e c he hc => ?_, fun _ k hk => ?_, fun hf => by simp [hr.fr] at hf, fun _ => hw.unfNew⟩
    · have hj := lt_of_get hc
      rw [hr.row e (List.mem_of_getElem? he)] at hj
      have hi := lt_of_get he
      have hx : i * bk.sz + j < arr.size := by rw [hr.size]; exact idx_lt (Nat.lt_of_lt_of_le hi hr.len) hj
      refine ⟨hr.keep e (List.mem_of_getElem? he) c (List.mem_of_getElem? hc), _, ?_, (hr.rep i j e c he hc).mono hle⟩
      show w'.cell? (ad w.heap.size (0 + i * bk.sz + j)) = _
      rw [hw.new, Nat.zero_add, Array.getElem?_eq_getElem hx]
      simp [Array.getD, hx]
    · have hx : k < arr.size := by rw [hr.size]; exact hk
      show (∃ cv, w'.cell? (ad w.heap.size (0 + k)) = some cv) ∧ w'.frozen? (ad w.heap.size (0 + k)) = false ∧ _
      rw [Nat.zero_add]
      exact ⟨⟨arr[k], by rw [hw.new, Array.getElem?_eq_getElem hx]⟩, hw.newF hx, hkn k⟩
  have hbl : ∀ id b, (born g hp ⟨w.heap.size, 0, bk.sz, cap⟩).lf id = .mlive b → id ≠ hp.next ∧ g.lf id = .mlive b := fun id b x => by
    simp only [born] at x
    split at x
    · cases x
    · exact ⟨‹_›, x⟩
  refine ⟨⟨h.hr.mp.mono hw.maps (fun _ _ x => x.mono hle) (fun id b x => (hbl id b x).2) (fun id b x => by rw [hget_hnew, if_neg (hbl id b x).1]), by simp only [hnew]; have := h.hr.lim; omega, fun id hid => by
      simp only [hnew] at hid
      rw [hget_hnew, if_neg (by omega)]; exact h.hr.nil id (by omega), fun id hid => by
      simp only [hnew] at hid
      simp only [born]; split
      · simp
      · exact h.hr.bnd id (by omega), fun b o v x => hw.old (h.hr.kap b o v x), fun id hid => ?_, fun id x => ?_, fun id r x => ?_, ?_⟩, ⟨fun t cs x => ?_, h.lo.inj⟩, h.evo.trans hev⟩
  · simp only [hnew] at hid
    simp only [born, show id ≠ hp.next by omega, if_false]
    exact h.hr.unb id (by omega)
  · simp only [born] at x
    rw [hget_hnew]
    by_cases e : id = hp.next
    · simp [e] at x
    · simp only [e, if_false] at x ⊢
      exact h.hr.dead id x
  · simp only [born] at x
    rw [hget_hnew]
    by_cases e : id = hp.next
    · simp only [e, if_true, Life.live.injEq] at x ⊢
      subst x
      exact ⟨bk, rfl, hbk⟩
    · simp only [e, if_false] at x ⊢
      obtain ⟨bk', a, b⟩ := h.hr.live id r x
      exact ⟨bk', a, b.grow hle (fun _ _ _ y => hw.old y) (fun _ _ _ y => hw.oldF (cell_block y)) (fun _ _ y _ => y) (fun _ y => hw.unf y)⟩
  · intro id id' r r' b b' hne hl hl' hg hg' hf hf'
    simp only [born] at hl hl'
    rw [hget_hnew] at hg hg'
    have far : ∀ id r b, g.lf id = .live r → hget hp id = some b → b.fr = false → ∀ k, k < r.cap * r.sz → r.b < w.heap.size := by
      intro id r b x y z k hk
      obtain ⟨v, e⟩ := Own.bound h.hr ⟨id, r, b, k, x, y, z, hk, rfl, rfl⟩
      exact cell_block e
    by_cases e : id = hp.next
    · have e' : id' ≠ hp.next := fun x => hne (e.trans x.symm)
      simp only [e, if_true, Life.live.injEq] at hl
      simp only [e', if_false] at hl' hg'
      intro k k' hk hk' ⟨eb, _⟩
      have := far id' r' b' hl' hg' hf' k' hk'
      rw [← hl] at eb; simp only at eb; omega
    · simp only [e, if_false] at hl hg
      by_cases e' : id' = hp.next
      · simp only [e', if_true, Life.live.injEq] at hl'
        intro k k' hk hk' ⟨eb, _⟩
        have := far id r b hl hg hf k hk
        rw [← hl'] at eb; simp only at eb; omega
      · simp only [e', if_false] at hl' hg'
        exact h.hr.sep id id' r r' b b' hne hl hl' hg hg' hf hf'
  · obtain ⟨b, h1, h2, h3, h4, h5, h6⟩ := h.lo.box t cs x
    refine ⟨b, h1, h2.grow hle (fun _ _ y => hw.old y) (fun _ _ y => hw.oldF (cell_block y)), h3, fun o ho => ?_, h5, by rw [hw.size]; omega⟩
    rcases own_born h.hr ho with ho | ⟨ho, _⟩
    · exact h4 o ho
    · simp only at ho; omega

end Ev
