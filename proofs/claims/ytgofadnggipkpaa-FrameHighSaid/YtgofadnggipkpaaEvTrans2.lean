import Derived.Test.YtgofadnggipkpaaEvTrans
namespace Ev
open Go

theorem Own.ext {g : G} {hp hp' : Hp} (hg : ∀ id, hget hp' id = hget hp id) {b o : Nat} : Own g hp' b o ↔ Own g hp b o := by
  unfold Own; simp only [hg]

/-- objects are told by what stands under their numbers -/
theorem MemR.hpExt {E : Ent} {g : G} {ν : Nat → Option Nat} {lo : Lo} {hp hp' : Hp} {w : World} (h : MemR E g ν lo hp w)
    (hn : hp'.next = hp.next) (hl : hp'.lim = hp.lim) (hg : ∀ id, hget hp' id = hget hp id) : MemR E g ν lo hp' w := by
  refine ⟨⟨h.hr.mp.mono (fun _ _ _ x => x) (fun _ _ x => x) (fun _ _ x => x) (fun id _ _ => hg id), by rw [hn, hl]; exact h.hr.lim, by simpa only [hg, hn] using h.hr.nil, by rw [hn]; exact h.hr.bnd, h.hr.kap, by rw [hn]; exact h.hr.unb, by simpa only [hg] using h.hr.dead, by simpa only [hg] using h.hr.live, by simpa only [hg] using h.hr.sep⟩, ⟨fun t cs x => ?_, h.lo.inj⟩, ?_⟩
  · obtain ⟨b, h1, h2, h3, h4, h5⟩ := h.lo.box t cs x
    exact ⟨b, h1, h2, h3, fun o y => h4 o ((Own.ext hg).1 y), h5⟩
  · have v := h.evo
    exact ⟨v.le, by rw [hn]; exact v.next, by rw [hl]; exact v.lim, fun id x => by rw [hg]; exact v.ro id x, v.size, v.cell, v.frozen, fun b o x => v.own b o ((Own.ext hg).1 x), v.κ, v.wd⟩

/-- a box is written -/
theorem MemR.setBox {E : Ent} {g : G} {ν : Nat → Option Nat} {lo : Lo} {hp : Hp} {w : World} (h : MemR E g ν lo hp w) {t b : Nat} {cs : List V}
    (hl : lo t = some cs) (hb : ν t = some b) (off : Nat) (xs : List V) (vs : List Value) (hlen : off + xs.length ≤ cs.length) (hn : vs.length = xs.length)
    (hk : ∀ x, x ∈ xs → x.keep = true) (hr : ∀ (j : Nat) (x : V), xs[j]? = some x → ∃ cv, vs[j]? = some cv ∧ RepA g x cv) :
    MemR E g ν (lset lo t (over off xs cs)) hp (setCs w b off vs) := by
  obtain ⟨b', e1, h2, h3, h4, h5, h6⟩ := h.lo.box t cs hl
  rw [hb] at e1; cases e1
  have hex : ∀ k, k < vs.length → ∃ u, w.cell? (ad b (off + k)) = some u := fun k hk' => by
    obtain ⟨_, ⟨cv, x, _⟩, _⟩ := h2 (off + k) (cs[off + k]'(by omega)) (by rw [List.getElem?_eq_getElem (by omega)])
    exact ⟨cv, x⟩
  have hcell := cell_setCs hex
  have hne : ∀ b' o, b' ≠ b → (setCs w b off vs).cell? (ad b' o) = w.cell? (ad b' o) := fun b' o hb' => by rw [hcell, if_neg (fun x => hb' x.1)]
  have hfz : ∀ a, (setCs w b off vs).frozen? a = w.frozen? a := frozen_setCs w b off vs
  have hsz : (setCs w b off vs).heap.size = w.heap.size := size_setCs w b off vs
  have hobj : ∀ id r bk, g.lf id = .live r → hget hp id = some bk → BkR g w r bk → BkR g (setCs w b off vs) r bk := by
    intro id r bk x y z
    refine ⟨z.sz, z.len, z.row, fun i j e c he hc => ?_, fun hf k hk' => ?_, z.frz, fun q => (z.blk q).setCs _ _ _⟩
    · obtain ⟨kk, cv, a, rr⟩ := z.cont i j e c he hc
      refine ⟨kk, cv, ?_, rr⟩
      rw [hne _ _ ?_]; exact a
      intro eb
      by_cases hf : bk.fr = false
      · have hj := lt_of_get hc
        rw [z.row e (List.mem_of_getElem? he)] at hj
        have hi := lt_of_get he
        rw [Nat.add_assoc] at a
        exact h4 (r.base + (i * r.sz + j)) ⟨id, r, bk, i * r.sz + j, x, y, hf, by rw [z.sz]; exact idx_lt (Nat.lt_of_lt_of_le hi z.len) hj, eb.symm, rfl⟩
      · obtain ⟨u, hu⟩ := z.frz (by simpa using hf) i j e c he hc
        rw [eb, h3] at hu; cases hu
    · obtain ⟨⟨cv, a⟩, f, kk⟩ := z.rw hf k hk'
      refine ⟨⟨cv, ?_⟩, by rw [hfz]; exact f, kk⟩
      rw [hne _ _ ?_]; exact a
      intro eb
      exact h4 (r.base + k) ⟨id, r, bk, k, x, y, hf, hk', eb.symm, rfl⟩
  refine ⟨⟨h.hr.mp.mono (maps_setCs hex) (fun _ _ x => x) (fun _ _ x => x) (fun _ _ _ => rfl), h.hr.lim, h.hr.nil, h.hr.bnd, fun b' o v x => ?_, h.hr.unb, h.hr.dead, fun id r x => ?_, h.hr.sep⟩, ⟨fun t' cs' x => ?_, fun t1 t2 b' htt x1 x2 e1 e2 => ?_⟩, ?_⟩
  · rw [hne _ _ ?_]; exact h.hr.kap b' o v x
    intro eb; rw [eb, h3] at x; cases x
  · obtain ⟨bk, a, z⟩ := h.hr.live id r x
    exact ⟨bk, a, hobj id r bk x a z⟩
  · by_cases ht : t' = t
    · subst ht
      simp only [lset, Nat.beq_refl, cond_true, Option.some.injEq] at x
      subst x
      refine ⟨b, hb, fun j c hj => ?_, h3, h4, h5, by rw [hsz]; exact h6⟩
      have hj' := lt_of_get hj
      have hol : (over off xs cs).length = cs.length := by simp [over]; omega
      rw [hol] at hj'
      obtain ⟨k0, ⟨cv0, x0, r0⟩, f0⟩ := h2 j (cs[j]) (by rw [List.getElem?_eq_getElem hj'])
      rw [hcell, hfz]
      by_cases hin : off ≤ j ∧ j < off + vs.length
      · rw [if_pos ⟨rfl, hin⟩]
        have : (over off xs cs)[j]? = xs[j - off]? := by
          unfold over
          rw [List.getElem?_append_right (by simp; omega), List.getElem?_append_left (by simp; omega)]
          congr 1; simp; omega
        rw [this] at hj
        obtain ⟨cv, e, rr⟩ := hr _ _ hj
        exact ⟨hk c (List.mem_of_getElem? hj), ⟨cv, e, rr⟩, f0⟩
      · rw [if_neg (fun y => hin y.2)]
        have : (over off xs cs)[j]? = cs[j]? := by
          unfold over
          by_cases hlt : j < off
          · rw [List.getElem?_append_left (by simp; omega), List.getElem?_take_of_lt hlt]
          · rw [List.getElem?_append_right (by simp; omega), List.getElem?_append_right (by simp; omega), List.getElem?_drop]
            congr 1; simp; omega
        rw [this, List.getElem?_eq_getElem hj'] at hj
        cases hj
        exact ⟨k0, ⟨cv0, x0, r0⟩, f0⟩
    · simp only [lset, beqF ht, cond_false] at x
      obtain ⟨b', h1', h2', h3', h4', h5', h6'⟩ := h.lo.box t' cs' x
      have hbb : b' ≠ b := fun eb => h.lo.inj t' t b ht (by rw [x]; simp) (by rw [hl]; simp) (eb ▸ h1') hb
      exact ⟨b', h1', h2'.grow (GLe.refl g) (fun o v y => by rw [hne _ _ hbb]; exact y) (fun o v y => hfz _), h3', h4', h5', by rw [hsz]; exact h6'⟩
  · have nn : ∀ t', lset lo t (over off xs cs) t' ≠ none → lo t' ≠ none := fun t' y => by
      by_cases ht : t' = t
      · rw [ht, hl]; simp
      · simpa only [lset, beqF ht, cond_false] using y
    exact h.lo.inj t1 t2 b' htt (nn _ x1) (nn _ x2) e1 e2
  · have v := h.evo
    refine ⟨v.le, v.next, v.lim, v.ro, by rw [hsz]; exact v.size, fun b' o x y z => ?_, fun b' o x y z => by rw [hfz]; exact v.frozen b' o x y z, v.own, v.κ, ⟨(heap_setCs w b off vs).1.trans v.wd.1.1, (heap_setCs w b off vs).2.1.trans v.wd.1.2⟩, fun x y => (v.wd.2.1 x y).setCs _ _ _, fun x y z u => by rw [(heap_setCs w b off vs).2.2 x (.inl (by omega))]; exact v.wd.2.2.1 x y z u, v.wd.2.2.2⟩
    rw [hne _ _ ?_]; exact v.cell b' o x y z
    have := cell_block y; omega

/-- an object is written -/
theorem MemR.write {E : Ent} {g : G} {ν : Nat → Option Nat} {lo : Lo} {hp : Hp} {w : World} (h : MemR E g ν lo hp w) {id : Nat} {r : Rg} {bk bk' : Bk}
    (hl : g.lf id = .live r) (hb : hget hp id = some bk) (hf : bk.fr = false) (hlim : hp.lim ≤ id) (off : Nat) (vs : List Value) (hlen : off + vs.length ≤ r.cap * r.sz)
    (hsz : bk'.sz = bk.sz) (hf' : bk'.fr = false) (hle : bk'.es.length ≤ r.cap) (hrow : ∀ e, e ∈ bk'.es → e.length = bk.sz)
    (hc : ∀ (i j : Nat) (e : List V) (c : V), bk'.es[i]? = some e → e[j]? = some c → c.keep = true ∧
      if off ≤ i * bk.sz + j ∧ i * bk.sz + j < off + vs.length then ∃ cv, vs[i * bk.sz + j - off]? = some cv ∧ RepA g c cv
      else ∃ cv, w.cell? (ad r.b (r.base + (i * bk.sz + j))) = some cv ∧ RepA g c cv) :
    MemR E g ν lo (hset hp id (some bk')) (setCs w r.b (r.base + off) vs) := by
  obtain ⟨bk0, e0, z0⟩ := h.hr.live id r hl
  rw [hb] at e0; cases e0
  have hown : ∀ k, k < r.cap * r.sz → Own g hp r.b (r.base + k) := fun k hk => ⟨id, r, bk, k, hl, hb, hf, hk, rfl, rfl⟩
  have hex : ∀ k, k < vs.length → ∃ u, w.cell? (ad r.b (r.base + off + k)) = some u := fun k hk => by
    have := (z0.rw hf (off + k) (by omega)).1
    rwa [← Nat.add_assoc] at this
  have hcell := cell_setCs hex
  have hne : ∀ b o, ¬ (b = r.b ∧ r.base + off ≤ o ∧ o < r.base + off + vs.length) → (setCs w r.b (r.base + off) vs).cell? (ad b o) = w.cell? (ad b o) := fun b o x => by rw [hcell, if_neg x]
  have hin : ∀ b o, (b = r.b ∧ r.base + off ≤ o ∧ o < r.base + off + vs.length) → Own g hp b o := fun b o x => by
    have := hown (o - r.base) (by omega)
    rw [show r.base + (o - r.base) = o by omega, ← x.1] at this
    exact this
  have hall : ∀ b o v, w.cell? (ad b o) = some v → ∃ v', (setCs w r.b (r.base + off) vs).cell? (ad b o) = some v' := fun b o v x => by
    rw [hcell]
    split
    · rename_i y
      exact ⟨vs[o - (r.base + off)]'(by omega), by rw [List.getElem?_eq_getElem]⟩
    · exact ⟨v, x⟩
  have hfz : ∀ a, (setCs w r.b (r.base + off) vs).frozen? a = w.frozen? a := frozen_setCs w _ _ vs
  have hsize : (setCs w r.b (r.base + off) vs).heap.size = w.heap.size := size_setCs w _ _ vs
  have hgets : ∀ j, hget (hset hp id (some bk')) j = if j = id then some bk' else hget hp j := hget_hset hp id (some bk')
  have hownx : ∀ b o, Own g (hset hp id (some bk')) b o → Own g hp b o := by
    intro b o ⟨j, r', b', k, x, y, z, u, v⟩
    rw [hgets] at y
    by_cases e : j = id
    · subst e
      rw [hl] at x; cases x
      exact ⟨j, r, bk, k, hl, hb, hf, u, v⟩
    · simp only [e, if_false] at y
      exact ⟨j, r', b', k, x, y, z, u, v⟩
  refine ⟨⟨h.hr.mp.mono (maps_setCs hex) (fun _ _ x => x) (fun _ _ x => x) (fun j b x => by rw [hget_hset, if_neg (fun e => by subst e; rw [hl] at x; cases x)]), h.hr.lim, fun j x => by
      have hne : j ≠ id := fun e => by subst e; rw [h.hr.nil _ x] at hb; cases hb
      rw [hget_hset, if_neg hne]; exact h.hr.nil j x, h.hr.bnd, fun b o v x => ?_, h.hr.unb, fun j x => ?_, fun j r' x => ?_, ?_⟩, ⟨fun t cs x => ?_, h.lo.inj⟩, h.evo.trans ⟨GLe.refl g, Nat.le_refl _, rfl, fun j x => ?_, by rw [hsize]; omega, fun b o v x y => ?_, fun b o v _ _ => hfz _, fun b o x => .inl (hownx b o x), fun _ _ _ x => .inl x, ⟨(heap_setCs w _ _ vs).1, (heap_setCs w _ _ vs).2.1⟩, fun x y => y.setCs _ _ _, fun x y z _ => (heap_setCs w _ _ vs).2.2 x (by
      by_cases e : vs = []
      · exact .inr e
      · refine .inl fun q => z (r.base + off) ?_
        have : 0 < vs.length := List.length_pos_iff.2 e
        rw [q]; exact hown off (by omega)), fun _ x => .inl x⟩⟩
  · rw [hne _ _ fun y => ?_]; exact h.hr.kap b o v x
    rw [Own.κ h.hr (hin b o y)] at x; cases x
  · rw [hgets]
    by_cases e : j = id
    · subst e; rw [hl] at x; cases x
    · simp only [e, if_false]; exact h.hr.dead j x
  · rw [hgets]
    by_cases e : j = id
    · subst e
      rw [hl] at x; cases x
      refine ⟨bk', by simp, ⟨by rw [hsz]; exact z0.sz, hle, by rw [hsz]; exact hrow, fun i jj e c he hcc => ?_, fun _ k hk => ?_, fun y => by simp [hf'] at y, fun _ => (z0.blk hf).setCs _ _ _⟩⟩
      · have := hc i jj e c he hcc
        refine ⟨this.1, ?_⟩
        have h2 := this.2
        rw [z0.sz, Nat.add_assoc, hcell]
        by_cases y : off ≤ i * bk.sz + jj ∧ i * bk.sz + jj < off + vs.length
        · rw [if_pos y] at h2
          rw [if_pos ⟨rfl, by omega, by omega⟩]
          rw [show r.base + (i * bk.sz + jj) - (r.base + off) = i * bk.sz + jj - off by omega]
          exact h2
        · rw [if_neg y] at h2
          rw [if_neg (by omega)]
          exact h2
      · obtain ⟨⟨cv, a⟩, f, kk⟩ := z0.rw hf k hk
        exact ⟨hall _ _ _ a, by rw [hfz]; exact f, kk⟩
    · simp only [e, if_false]
      obtain ⟨b', a, z⟩ := h.hr.live j r' x
      refine ⟨b', a, ⟨z.sz, z.len, z.row, fun i jj e' c he hcc => ?_, fun hf'' k hk => ?_, z.frz, fun q => (z.blk q).setCs _ _ _⟩⟩
      · obtain ⟨kk, cv, aa, rr⟩ := z.cont i jj e' c he hcc
        refine ⟨kk, cv, ?_, rr⟩
        rw [hne _ _ fun y => ?_]; exact aa
        by_cases hfb : b'.fr = false
        · have hj := lt_of_get hcc
          rw [z.row e' (List.mem_of_getElem? he)] at hj
          have hi := lt_of_get he
          exact h.hr.sep j id r' r b' bk e x hl a hb hfb hf (i * r'.sz + jj) (r'.base + i * r'.sz + jj - r.base) (by rw [z.sz]; exact idx_lt (Nat.lt_of_lt_of_le hi z.len) hj) (by omega) ⟨y.1, by omega⟩
        · obtain ⟨u, hu⟩ := z.frz (by simpa using hfb) i jj e' c he hcc
          rw [Own.κ h.hr (hin _ _ y)] at hu; cases hu
      · obtain ⟨⟨cv, aa⟩, f, kk⟩ := z.rw hf'' k hk
        exact ⟨hall _ _ _ aa, by rw [hfz]; exact f, kk⟩
  · intro j j' r1 r2 b1 b2 hne' x x' y y' z z'
    rw [hgets] at y y'
    have rep : ∀ j r1 b1, g.lf j = .live r1 → (if j = id then some bk' else hget hp j) = some b1 → b1.fr = false → ∃ b0, hget hp j = some b0 ∧ b0.fr = false := by
      intro j r1 b1 x y z
      by_cases e : j = id
      · subst e; exact ⟨bk, hb, hf⟩
      · simp only [e, if_false] at y; exact ⟨b1, y, z⟩
    obtain ⟨c1, y1, z1⟩ := rep j r1 b1 x y z
    obtain ⟨c2, y2, z2⟩ := rep j' r2 b2 x' y' z'
    exact h.hr.sep j j' r1 r2 c1 c2 hne' x x' y1 y2 z1 z2
  · obtain ⟨b', h1, h2, h3, h4, h5, h6⟩ := h.lo.box t cs x
    have hbb : ∀ o, ¬ (b' = r.b ∧ r.base + off ≤ o ∧ o < r.base + off + vs.length) := fun o y => h4 o (hin b' o y)
    exact ⟨b', h1, h2.grow (GLe.refl g) (fun o v y => by rw [hne _ _ (hbb o)]; exact y) (fun o v y => hfz _), h3, fun o y => h4 o (hownx b' o y), h5, by rw [hsize]; exact h6⟩
  · rw [hgets, if_neg (by omega)]
  · rw [hne _ _ fun z => y (hin b o z)]; exact x

/-- an object dies -/
def killed (g : G) (id : Nat) : G := ⟨g.κ, fun j => if j = id then .dead else g.lf j⟩

theorem killed_le {g : G} {id : Nat} {r : Rg} (h : g.lf id = .live r) : GLe g (killed g id) :=
  ⟨fun _ _ _ x => x, fun j => by
    by_cases e : j = id
    · subst e; rw [h]; simp [killed, Life.le]
    · simp only [killed, e, if_false]; cases g.lf j <;> simp [Life.le]⟩

theorem own_killed {g : G} {hp : Hp} {id : Nat} {b o : Nat} (x : Own (killed g id) (hset hp id none) b o) : Own g hp b o := by
  obtain ⟨j, r, bk, k, hl, hg, rest⟩ := x
  simp only [killed] at hl
  rw [hget_hset] at hg
  by_cases e : j = id
  · simp [e] at hl
  · simp only [e, if_false] at hl hg
    exact ⟨j, r, bk, k, hl, hg, rest⟩

theorem MemR.kill {E : Ent} {g : G} {ν : Nat → Option Nat} {lo : Lo} {hp : Hp} {w : World} (h : MemR E g ν lo hp w) {id : Nat} {r : Rg}
    (hl : g.lf id = .live r) (hlim : hp.lim ≤ id) : MemR E (killed g id) ν lo (hset hp id none) w := by
  have hle := killed_le hl
  have hgets := hget_hset hp id none
  have hkm : ∀ j b, (killed g id).lf j = .mlive b → j ≠ id ∧ g.lf j = .mlive b := fun j b x => by
    simp only [killed] at x
    split at x
    · cases x
    · exact ⟨‹_›, x⟩
  refine ⟨⟨h.hr.mp.mono (fun _ _ _ x => x) (fun _ _ x => x.mono hle) (fun j b x => (hkm j b x).2) (fun j b x => by rw [hget_hset, if_neg (hkm j b x).1]), h.hr.lim, fun j x => by
      rw [hget_hset]; split
      · rfl
      · exact h.hr.nil j x, fun j x => by
      simp only [killed]; split
      · simp
      · exact h.hr.bnd j x, h.hr.kap, fun j x => ?_, fun j x => ?_, fun j r' x => ?_, fun j j' r1 r2 b1 b2 hne x x' y y' z z' => ?_⟩, ⟨fun t cs x => ?_, h.lo.inj⟩, h.evo.trans ⟨hle, Nat.le_refl _, rfl, fun j x => ?_, Nat.le_refl _, fun _ _ _ x _ => x, fun _ _ _ _ _ => rfl, fun b o x => .inl (own_killed x), fun _ _ _ x => .inl x, ⟨rfl, rfl⟩, fun _ x => x, fun _ _ _ _ => rfl, fun b ⟨j, x⟩ => .inl ⟨j, (hkm j b x).2⟩⟩⟩
  · have : j ≠ id := fun e => by subst e; rw [h.hr.unb j x] at hl; cases hl
    simp only [killed, this, if_false]; exact h.hr.unb j x
  · rw [hgets]
    by_cases e : j = id
    · simp [e]
    · simp only [killed, e, if_false] at x ⊢; exact h.hr.dead j x
  · rw [hgets]
    by_cases e : j = id
    · simp [killed, e] at x
    · simp only [killed, e, if_false] at x ⊢
      obtain ⟨bk, a, z⟩ := h.hr.live j r' x
      exact ⟨bk, a, z.grow hle (fun _ _ _ y => y) (fun _ _ _ _ => rfl) (fun _ _ y _ => y) (fun _ y => y)⟩
  · rw [hgets] at y y'
    by_cases e : j = id
    · simp [killed, e] at x
    · by_cases e' : j' = id
      · simp [killed, e'] at x'
      · simp only [killed, e, if_false] at x y
        simp only [killed, e', if_false] at x' y'
        exact h.hr.sep j j' r1 r2 b1 b2 hne x x' y y' z z'
  · obtain ⟨b', h1, h2, h3, h4, h5⟩ := h.lo.box t cs x
    exact ⟨b', h1, h2.grow hle (fun _ _ y => y) (fun _ _ _ => rfl), h3, fun o y => h4 o (own_killed y), h5⟩
  · rw [hgets, if_neg (by omega)]

end Ev
