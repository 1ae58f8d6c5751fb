import Derived.Test.YtgofadnggipkpaaEvTrans2
namespace Ev
open Go

/-- an object gives its place, or a part of it, to a new one -/
theorem MemR.rename {E : Ent} {g : G} {ν : Nat → Option Nat} {lo : Lo} {hp : Hp} {w : World} (h : MemR E g ν lo hp w) {id : Nat} {r : Rg} {bk bk' : Bk}
    (hl : g.lf id = .live r) (hb : hget hp id = some bk) (hf : bk.fr = false) (hlim : hp.lim ≤ id) (i cap : Nat) (hcap : i + cap ≤ r.cap)
    (hsz : bk'.sz = bk.sz) (hf' : bk'.fr = false) (hle : bk'.es.length ≤ cap) (hes : ∀ (k : Nat) (e : List V), bk'.es[k]? = some e → bk.es[i + k]? = some e) :
    MemR E (born (killed g id) hp ⟨r.b, r.base + i * r.sz, r.sz, cap⟩) ν lo (hnew (hset hp id none) bk') w := by
  obtain ⟨bk0, e0, z0⟩ := h.hr.live id r hl
  rw [hb] at e0; cases e0
  have hk := h.kill hl hlim
  have hnx : hp.next ≠ id := fun e => by have := h.hr.unb id (by omega); rw [hl] at this; cases this
  have hle1 := killed_le hl
  have hle2 : GLe (killed g id) (born (killed g id) hp ⟨r.b, r.base + i * r.sz, r.sz, cap⟩) := by
    refine ⟨fun _ _ _ x => x, fun j => ?_⟩
    by_cases e : j = hp.next
    · have : (killed g id).lf j = .unb := hk.hr.unb j (by simp only [hset]; omega)
      rw [this]; trivial
    · simp only [born, e, if_false]; cases (killed g id).lf j <;> simp [Life.le]
  have hsub : ∀ k, k < cap * r.sz → i * r.sz + k < r.cap * r.sz := fun k hk' => by
    have : (i + cap) * r.sz ≤ r.cap * r.sz := Nat.mul_le_mul_right _ hcap
    rw [Nat.add_mul] at this; omega
  have hgets : ∀ j, hget (hnew (hset hp id none) bk') j = if j = hp.next then some bk' else if j = id then none else hget hp j := by
    intro j; rw [hget_hnew, hget_hset]; rfl
  have hown : ∀ b o, Own (born (killed g id) hp ⟨r.b, r.base + i * r.sz, r.sz, cap⟩) (hnew (hset hp id none) bk') b o → Own g hp b o := by
    intro b o ⟨j, r1, b1, k, x, y, z, u, v1, v2⟩
    rw [hgets] at y
    by_cases e : j = hp.next
    · simp only [born, e, if_true, Life.live.injEq] at x
      subst x
      exact ⟨id, r, bk, i * r.sz + k, hl, hb, hf, hsub k u, v1, by simp only at v2; omega⟩
    · simp only [born, killed, e, if_false] at x y
      by_cases e' : j = id
      · simp [e'] at x
      · simp only [e', if_false] at x y
        exact ⟨j, r1, b1, k, x, y, z, u, v1, v2⟩
  have hnew' : BkR (born (killed g id) hp ⟨r.b, r.base + i * r.sz, r.sz, cap⟩) w ⟨r.b, r.base + i * r.sz, r.sz, cap⟩ bk' := by
    refine ⟨by rw [hsz]; exact z0.sz, hle, fun e he => ?_, fun a j e c he hc => ?_, fun _ k hk' => ?_, fun y => by simp [hf'] at y, fun _ => z0.blk hf⟩
    · obtain ⟨k, hk⟩ := List.getElem?_of_mem he
      rw [hsz]; exact z0.row e (List.mem_of_getElem? (hes k e hk))
    · obtain ⟨kk, cv, x, rr⟩ := z0.cont (i + a) j e c (hes a e he) hc
      refine ⟨kk, cv, ?_, (rr.mono hle1).mono hle2⟩
      show w.cell? (ad r.b (r.base + i * r.sz + a * r.sz + j)) = some cv
      rw [← x]; congr 2; rw [Nat.add_mul]; omega
    · have := z0.rw hf (i * r.sz + k) (hsub k hk')
      rw [← Nat.add_assoc] at this
      exact this
  have hmm : ∀ j b, (born (killed g id) hp ⟨r.b, r.base + i * r.sz, r.sz, cap⟩).lf j = .mlive b → j ≠ hp.next ∧ j ≠ id ∧ g.lf j = .mlive b := fun j b x => by
    simp only [born, killed] at x
    split at x
    · cases x
    · split at x
      · cases x
      · exact ⟨‹_›, ‹_›, x⟩
  refine ⟨⟨h.hr.mp.mono (fun _ _ _ x => x) (fun _ _ x => (x.mono hle1).mono hle2) (fun j b x => (hmm j b x).2.2) (fun j b x => by rw [hgets, if_neg (hmm j b x).1, if_neg (hmm j b x).2.1]), by simp only [hnew, hset]; have := h.hr.lim; omega, fun j x => by
      simp only [hnew, hset] at x
      rw [hget_hnew, hget_hset, if_neg (by simp only [hset]; omega)]; split
      · rfl
      · exact h.hr.nil j (by omega), fun j x => by
      simp only [hnew, hset] at x
      simp only [born]; split
      · simp
      · simp only [killed]; split
        · simp
        · exact h.hr.bnd j (by omega), h.hr.kap, fun j x => ?_, fun j x => ?_, fun j r' x => ?_, fun j j' r1 r2 b1 b2 hne x x' y y' z z' => ?_⟩, ⟨fun t cs x => ?_, h.lo.inj⟩,
    h.evo.trans ⟨hle1.trans hle2, by simp [hnew, hset], rfl, fun j x => ?_, Nat.le_refl _, fun _ _ _ x _ => x, fun _ _ _ _ _ => rfl, fun b o x => .inl (hown b o x), fun _ _ _ x => .inl x, ⟨rfl, rfl⟩, fun _ x => x, fun _ _ _ _ => rfl, fun b ⟨j, x⟩ => .inl ⟨j, (hmm j b x).2.2⟩⟩⟩
  · simp only [hnew, hset] at x
    simp only [born, show j ≠ hp.next by omega, if_false]
    exact hk.hr.unb j (by simp only [hset]; omega)
  · rw [hgets]
    by_cases e : j = hp.next
    · simp [born, e] at x
    · simp only [born, e, if_false] at x ⊢
      by_cases e' : j = id
      · simp [e']
      · simp only [killed, e', if_false] at x ⊢; exact h.hr.dead j x
  · rw [hgets]
    by_cases e : j = hp.next
    · simp only [born, e, if_true, Life.live.injEq] at x ⊢
      subst x
      exact ⟨bk', rfl, hnew'⟩
    · simp only [born, e, if_false] at x ⊢
      by_cases e' : j = id
      · simp [killed, e'] at x
      · simp only [killed, e', if_false] at x ⊢
        obtain ⟨b1, a, z⟩ := h.hr.live j r' x
        exact ⟨b1, a, z.grow (hle1.trans hle2) (fun _ _ _ y => y) (fun _ _ _ _ => rfl) (fun _ _ y _ => y) (fun _ y => y)⟩
  · -- two places apart
    have old : ∀ j r1 b1, j ≠ hp.next → (born (killed g id) hp ⟨r.b, r.base + i * r.sz, r.sz, cap⟩).lf j = .live r1 → hget (hnew (hset hp id none) bk') j = some b1 → j ≠ id ∧ g.lf j = .live r1 ∧ hget hp j = some b1 := by
      intro j r1 b1 e x y
      rw [hgets] at y
      simp only [born, e, if_false] at x y
      by_cases e' : j = id
      · simp [killed, e'] at x
      · simp only [killed, e', if_false] at x y; exact ⟨e', x, y⟩
    have apt : ∀ j r1 b1, j ≠ id → g.lf j = .live r1 → hget hp j = some b1 → b1.fr = false → Rg.apart ⟨r.b, r.base + i * r.sz, r.sz, cap⟩ r1 := by
      intro j r1 b1 e x y z k k' hk' hk'' ⟨u1, u2⟩
      exact h.hr.sep id j r r1 bk b1 (fun q => e q.symm) hl x hb y hf z (i * r.sz + k) k' (hsub k hk') hk'' ⟨u1, by simp only at u2; omega⟩
    by_cases e : j = hp.next
    · have e' : j' ≠ hp.next := fun q => hne (e.trans q.symm)
      obtain ⟨n1, n2, n3⟩ := old j' r2 b2 e' x' y'
      simp only [born, e, if_true, Life.live.injEq] at x
      rw [← x]
      exact apt j' r2 b2 n1 n2 n3 z'
    · obtain ⟨n1, n2, n3⟩ := old j r1 b1 e x y
      by_cases e' : j' = hp.next
      · simp only [born, e', if_true, Life.live.injEq] at x'
        rw [← x']
        intro k k' hk' hk'' ⟨u1, u2⟩
        exact apt j r1 b1 n1 n2 n3 z k' k hk'' hk' ⟨u1.symm, u2.symm⟩
      · obtain ⟨m1, m2, m3⟩ := old j' r2 b2 e' x' y'
        exact h.hr.sep j j' r1 r2 b1 b2 hne n2 m2 n3 m3 z z'
  · obtain ⟨b', h1, h2, h3, h4, h5⟩ := h.lo.box t cs x
    exact ⟨b', h1, h2.grow (hle1.trans hle2) (fun _ _ y => y) (fun _ _ _ => rfl), h3, fun o y => h4 o (hown b' o y), h5⟩
  · rw [hgets, if_neg (by have := h.hr.lim; omega), if_neg (by omega)]

/-- a new block that nobody will write -/
def known (g : G) (b : Nat) (arr : Array Value) : G := ⟨fun b' o => if b' = b then arr[o]? else g.κ b' o, g.lf⟩

theorem MemR.imm {E : Ent} {g : G} {ν : Nat → Option Nat} {lo : Lo} {hp : Hp} {w w' : World} (h : MemR E g ν lo hp w) {arr : Array Value} (hw : Grow w w' arr) :
    MemR E (known g w.heap.size arr) ν lo hp w' ∧ GLe g (known g w.heap.size arr) := by
  have hne : ∀ b o v, w.cell? (ad b o) = some v → b ≠ w.heap.size := fun b o v x => by have := cell_block x; omega
  have hle : GLe g (known g w.heap.size arr) := ⟨fun b o v x => by
      simp only [known, hne b o v (h.hr.kap b o v x), if_false]; exact x, fun j => by simp only [known]; cases g.lf j <;> simp [Life.le]⟩
  have hkk : ∀ b o, g.κ b o = none → (∃ v, w.cell? (ad b o) = some v) → (known g w.heap.size arr).κ b o = none := fun b o x ⟨v, y⟩ => by
    simp only [known, hne b o v y, if_false]; exact x
  have hev : Evo g hp w (known g w.heap.size arr) hp w' := ⟨hle, Nat.le_refl _, rfl, fun _ _ => rfl, by rw [hw.size]; omega, fun _ _ _ c _ => hw.old c, fun _ _ _ c _ => hw.oldF (cell_block c), fun _ _ o => .inl o, fun b o v x => by
    by_cases e : b = w.heap.size
    · exact .inr (.inr (by omega))
    · simp only [known, e, if_false] at x; exact .inl x, hw.wd fun _ x => x⟩
  refine ⟨⟨⟨h.hr.mp.mono hw.maps (fun _ _ x => x.mono hle) (fun _ _ x => x) (fun _ _ _ => rfl), h.hr.lim, h.hr.nil, h.hr.bnd, fun b o v x => ?_, h.hr.unb, h.hr.dead, fun id r x => ?_, h.hr.sep⟩, ⟨fun t cs x => ?_, h.lo.inj⟩, h.evo.trans hev⟩, hle⟩
  · by_cases e : b = w.heap.size
    · subst e; simp only [known, if_true] at x; rw [hw.new]; exact x
    · simp only [known, e, if_false] at x; exact hw.old (h.hr.kap b o v x)
  · obtain ⟨bk, a, z⟩ := h.hr.live id r x
    exact ⟨bk, a, z.grow hle (fun _ _ _ y => hw.old y) (fun _ _ _ y => hw.oldF (cell_block y)) hkk (fun _ y => hw.unf y)⟩
  · obtain ⟨b', h1, h2, h3, h4, h5, h6⟩ := h.lo.box t cs x
    exact ⟨b', h1, h2.grow hle (fun _ _ y => hw.old y) (fun _ _ y => hw.oldF (cell_block y)), fun o => by simp only [known, show b' ≠ w.heap.size by omega, if_false]; exact h3 o, h4, h5, by rw [hw.size]; omega⟩

/-- an object's rows are known for good -/
def fixed (g : G) (w : World) (r : Rg) (n : Nat) : G :=
  ⟨fun b o => if b = r.b ∧ r.base ≤ o ∧ o < r.base + n * r.sz then w.cell? (ad b o) else g.κ b o, g.lf⟩

theorem MemR.freeze {E : Ent} {g : G} {ν : Nat → Option Nat} {lo : Lo} {hp : Hp} {w : World} (h : MemR E g ν lo hp w) {id : Nat} {r : Rg} {bk : Bk}
    (hl : g.lf id = .live r) (hb : hget hp id = some bk) (hf : bk.fr = false) (hlim : hp.lim ≤ id) :
    MemR E (fixed g w r bk.es.length) ν lo (hset hp id (some ⟨bk.sz, true, bk.es⟩)) w ∧ GLe g (fixed g w r bk.es.length) := by
  obtain ⟨bk0, e0, z0⟩ := h.hr.live id r hl
  rw [hb] at e0; cases e0
  have hsub : bk.es.length * r.sz ≤ r.cap * r.sz := Nat.mul_le_mul_right _ z0.len
  have hown : ∀ b o, (b = r.b ∧ r.base ≤ o ∧ o < r.base + bk.es.length * r.sz) → Own g hp b o := fun b o x =>
    ⟨id, r, bk, o - r.base, hl, hb, hf, by omega, x.1, by omega⟩
  have hle : GLe g (fixed g w r bk.es.length) := ⟨fun b o v x => by
      have : ¬ (b = r.b ∧ r.base ≤ o ∧ o < r.base + bk.es.length * r.sz) := fun y => by rw [Own.κ h.hr (hown b o y)] at x; cases x
      simp only [fixed, this, if_false]; exact x, fun j => by simp only [fixed]; cases g.lf j <;> simp [Life.le]⟩
  have hgets := hget_hset hp id (some ⟨bk.sz, true, bk.es⟩)
  have hownx : ∀ b o, Own (fixed g w r bk.es.length) (hset hp id (some ⟨bk.sz, true, bk.es⟩)) b o → Own g hp b o := by
    intro b o ⟨j, r1, b1, k, x, y, z, u⟩
    rw [hgets] at y
    by_cases e : j = id
    · simp only [e, if_true, Option.some.injEq] at y; subst y; simp at z
    · simp only [e, if_false] at y; exact ⟨j, r1, b1, k, x, y, z, u⟩
  have hkk : ∀ j r1 b1 k, j ≠ id → g.lf j = .live r1 → hget hp j = some b1 → b1.fr = false → k < r1.cap * r1.sz → g.κ r1.b (r1.base + k) = none → (fixed g w r bk.es.length).κ r1.b (r1.base + k) = none := by
    intro j r1 b1 k e x y z u v
    have : ¬ (r1.b = r.b ∧ r.base ≤ r1.base + k ∧ r1.base + k < r.base + bk.es.length * r.sz) := fun q =>
      h.hr.sep j id r1 r b1 bk e x hl y hb z hf k (r1.base + k - r.base) u (by omega) ⟨q.1, by omega⟩
    simp only [fixed, this, if_false]; exact v
  refine ⟨⟨⟨h.hr.mp.mono (fun _ _ _ x => x) (fun _ _ x => x.mono hle) (fun _ _ x => x) (fun j b x => by rw [hgets, if_neg (fun e => by subst e; simp only [fixed] at x; rw [hl] at x; cases x)]), h.hr.lim, fun j x => by
      have hne : j ≠ id := fun e => by subst e; rw [h.hr.nil _ x] at hb; cases hb
      rw [hget_hset, if_neg hne]; exact h.hr.nil j x, h.hr.bnd, fun b o v x => ?_, h.hr.unb, fun j x => ?_, fun j r' x => ?_, fun j j' r1 r2 b1 b2 hne x x' y y' z z' => ?_⟩, ⟨fun t cs x => ?_, h.lo.inj⟩,
    h.evo.trans ⟨hle, Nat.le_refl _, rfl, fun j x => ?_, Nat.le_refl _, fun _ _ _ x _ => x, fun _ _ _ _ _ => rfl, fun b o x => .inl (hownx b o x), fun b o v x => ?_, ⟨rfl, rfl⟩, fun _ x => x, fun _ _ _ _ => rfl, fun _ x => .inl x⟩⟩, hle⟩
  · by_cases e : b = r.b ∧ r.base ≤ o ∧ o < r.base + bk.es.length * r.sz
    · simp only [fixed] at x; rw [if_pos e] at x; exact x
    · simp only [fixed, e, if_false] at x; exact h.hr.kap b o v x
  · rw [hgets]
    by_cases e : j = id
    · subst e; simp only [fixed] at x; rw [hl] at x; cases x
    · simp only [e, if_false]; exact h.hr.dead j x
  · rw [hgets]
    simp only [fixed] at x
    by_cases e : j = id
    · subst e; rw [hl] at x; cases x
      refine ⟨⟨bk.sz, true, bk.es⟩, if_pos rfl, ⟨z0.sz, z0.len, z0.row, fun i jj e c he hc => ?_, fun y => by simp at y, fun _ i jj e c he hc => ?_, fun y => by simp at y⟩⟩
      · obtain ⟨kk, cv, a, rr⟩ := z0.cont i jj e c he hc
        exact ⟨kk, cv, a, rr.mono hle⟩
      · obtain ⟨kk, cv, a, rr⟩ := z0.cont i jj e c he hc
        have hj := lt_of_get hc
        rw [z0.row e (List.mem_of_getElem? he)] at hj
        have hi := lt_of_get he
        have hx : i * r.sz + jj < bk.es.length * r.sz := by rw [z0.sz]; exact idx_lt hi hj
        refine ⟨cv, ?_⟩
        show (if r.b = r.b ∧ r.base ≤ r.base + i * r.sz + jj ∧ r.base + i * r.sz + jj < r.base + bk.es.length * r.sz then _ else _) = _
        rw [if_pos ⟨rfl, by omega, by omega⟩]; exact a
    · simp only [e, if_false]
      obtain ⟨b1, a, z⟩ := h.hr.live j r' x
      refine ⟨b1, a, ⟨z.sz, z.len, z.row, fun i jj e' c he hc => ?_, fun y k hk => ?_, fun y i jj e' c he hc => ?_, z.blk⟩⟩
      · obtain ⟨kk, cv, aa, rr⟩ := z.cont i jj e' c he hc
        exact ⟨kk, cv, aa, rr.mono hle⟩
      · obtain ⟨a1, a2, a3⟩ := z.rw y k hk
        exact ⟨a1, a2, hkk j r' b1 k e x a y hk a3⟩
      · obtain ⟨cv, aa⟩ := z.frz y i jj e' c he hc
        exact ⟨cv, hle.κ _ _ _ aa⟩
  · rw [hgets] at y y'
    have ne : ∀ j b1, (if j = id then some (⟨bk.sz, true, bk.es⟩ : Bk) else hget hp j) = some b1 → b1.fr = false → j ≠ id ∧ hget hp j = some b1 := by
      intro j b1 y z
      by_cases e : j = id
      · simp only [e, if_true, Option.some.injEq] at y; subst y; simp at z
      · simp only [e, if_false] at y; exact ⟨e, y⟩
    exact h.hr.sep j j' r1 r2 b1 b2 hne x x' (ne j b1 y z).2 (ne j' b2 y' z').2 z z'
  · obtain ⟨b', h1, h2, h3, h4, h5⟩ := h.lo.box t cs x
    refine ⟨b', h1, h2.grow hle (fun _ _ y => y) (fun _ _ _ => rfl), fun o => ?_, fun o y => h4 o (hownx b' o y), h5⟩
    have : ¬ (b' = r.b ∧ r.base ≤ o ∧ o < r.base + bk.es.length * r.sz) := fun y => h4 o (hown b' o y)
    simp only [fixed, this, if_false]; exact h3 o
  · rw [hgets, if_neg (by omega)]
  · by_cases e : b = r.b ∧ r.base ≤ o ∧ o < r.base + bk.es.length * r.sz
    · exact .inr (.inl (hown b o e))
    · simp only [fixed, e, if_false] at x; exact .inl x

end Ev
