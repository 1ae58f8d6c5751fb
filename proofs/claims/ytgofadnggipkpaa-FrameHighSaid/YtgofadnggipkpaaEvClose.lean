import Derived.Test.YtgofadnggipkpaaEvTrans3
namespace Ev
open Go

/-- a value, or a struct's cells, without the heap -/
inductive RepP (κ : K) : V → Value → Prop
  | c (v : V) (cv : Value) (h : RepC κ v cv) : RepP κ v cv
  | ag (cs : List V) (arr : Array Value) (hn : arr.size = cs.length) (h1 : ∀ c, c ∈ cs → c.keep = true)
      (h2 : ∀ (i : Nat) (c : V), cs[i]? = some c → RepC κ c (arr.getD i undef)) : RepP κ (.ag cs) (.agg arr)

theorem RepP.toA {g : G} {v : V} {cv : Value} (h : RepP g.κ v cv) : RepA g v cv := by
  cases h with
  | c _ _ h => exact .c _ _ h
  | ag cs arr hn h1 h2 => exact .ag cs arr hn h1 (fun i c hc => .c _ _ (h2 i c hc))

theorem RepP.mono {κ κ' : K} (hk : KLe κ κ') {v : V} {cv : Value} (h : RepP κ v cv) : RepP κ' v cv := by
  cases h with
  | c _ _ h => exact .c _ _ (h.mono hk)
  | ag cs arr hn h1 h2 => exact .ag cs arr hn h1 (fun i c hc => (h2 i c hc).mono hk)

theorem RepP.notLp {κ : K} {v : V} {cv : Value} (h : RepP κ v cv) : isLp v = false := by
  cases h with
  | c _ _ h => cases h <;> rfl
  | ag => rfl

theorem RepC.keep {κ : K} {v : V} {cv : Value} (h : RepC κ v cv) : v.keep = true := by cases h <;> rfl

/-- what closing gives -/
structure Closed (E : Ent) (g : G) (ν : Nat → Option Nat) (lo : Lo) (hp : Hp) (w : World) (g' : G) (hp' : Hp) : Prop where
  mem : MemR E g' ν lo hp' w
  le : GLe g g'
  lf : g'.lf = g.lf
  next : hp'.next = hp.next
  lim : hp'.lim = hp.lim
  κ : ∀ b o v, g'.κ b o = some v → g.κ b o = some v ∨ Own g hp b o
  own : ∀ b o, Own g' hp' b o → Own g hp b o
  get : ∀ id bk, hget hp' id = some bk → ∃ b0, hget hp id = some b0 ∧ bk.sz = b0.sz ∧ bk.es = b0.es ∧ (bk.fr = false → b0.fr = false)

theorem Closed.refl {E : Ent} {g : G} {ν : Nat → Option Nat} {lo : Lo} {hp : Hp} {w : World} (m : MemR E g ν lo hp w) : Closed E g ν lo hp w g hp :=
  ⟨m, GLe.refl g, rfl, rfl, rfl, fun _ _ _ h => .inl h, fun _ _ h => h, fun _ bk h => ⟨bk, h, rfl, rfl, fun h => h⟩⟩

theorem Closed.trans {E : Ent} {g g1 g2 : G} {ν : Nat → Option Nat} {lo : Lo} {hp h1 h2 : Hp} {w : World} (a : Closed E g ν lo hp w g1 h1) (b : Closed E g1 ν lo h1 w g2 h2) :
    Closed E g ν lo hp w g2 h2 :=
  ⟨b.mem, a.le.trans b.le, b.lf.trans a.lf, b.next.trans a.next, b.lim.trans a.lim, fun x y v e => by
    rcases b.κ x y v e with e | e
    · exact a.κ x y v e
    · exact .inr (a.own x y e), fun x y e => a.own x y (b.own x y e), fun id bk h => by
      obtain ⟨b0, x, y, z, u⟩ := b.get id bk h
      obtain ⟨b1, x', y', z', u'⟩ := a.get id b0 x
      exact ⟨b1, x', y.trans y', z.trans z', fun q => u' (u q)⟩⟩

theorem Closed.freeze {E : Ent} {g : G} {ν : Nat → Option Nat} {lo : Lo} {hp : Hp} {w : World} (h : MemR E g ν lo hp w) {id : Nat} {r : Rg} {bk : Bk}
    (hl : g.lf id = .live r) (hb : hget hp id = some bk) (hlim : hp.lim ≤ id) :
    ∃ g', Closed E g ν lo hp w g' (freeze hp id) ∧
      ∀ (i j : Nat) (e : List V) (c : V), bk.es[i]? = some e → e[j]? = some c → ∃ cv, g'.κ r.b (r.base + i * r.sz + j) = some cv ∧ RepA g' c cv := by
  obtain ⟨bk0, e0, z0⟩ := h.hr.live id r hl
  rw [hb] at e0; cases e0
  have hfz : Ev.freeze hp id = hset hp id (some ⟨bk.sz, true, bk.es⟩) := by unfold Ev.freeze; rw [hb]
  have hgets := hget_hset hp id (some ⟨bk.sz, true, bk.es⟩)
  have hget' : ∀ j b1, hget (hset hp id (some ⟨bk.sz, true, bk.es⟩)) j = some b1 → ∃ b0, hget hp j = some b0 ∧ b1.sz = b0.sz ∧ b1.es = b0.es ∧ (b1.fr = false → b0.fr = false) := by
    intro j b1 x
    rw [hgets] at x
    by_cases e : j = id
    · simp only [e, if_true, Option.some.injEq] at x; subst x; exact ⟨bk, by rw [e]; exact hb, rfl, rfl, fun q => by simp at q⟩
    · simp only [e, if_false] at x; exact ⟨b1, x, rfl, rfl, fun q => q⟩
  cases hf : bk.fr with
  | false =>
    obtain ⟨m, le⟩ := h.freeze hl hb hf hlim
    rw [hfz]
    refine ⟨_, ⟨m, le, rfl, rfl, rfl, fun b o v x => ?_, fun b o x => ?_, hget'⟩, fun i j e c he hc => ?_⟩
    · by_cases e : b = r.b ∧ r.base ≤ o ∧ o < r.base + bk.es.length * r.sz
      · have hsub : bk.es.length * r.sz ≤ r.cap * r.sz := Nat.mul_le_mul_right _ z0.len
        exact .inr ⟨id, r, bk, o - r.base, hl, hb, hf, by omega, e.1, by omega⟩
      · simp only [fixed, e, if_false] at x; exact .inl x
    · obtain ⟨j, r1, b1, k, x1, x2, x3, x4⟩ := x
      rw [hgets] at x2
      by_cases e : j = id
      · simp only [e, if_true, Option.some.injEq] at x2; subst x2; simp at x3
      · simp only [e, if_false] at x2; exact ⟨j, r1, b1, k, x1, x2, x3, x4⟩
    · obtain ⟨kk, cv, a, rr⟩ := z0.cont i j e c he hc
      have hj := lt_of_get hc
      rw [z0.row e (List.mem_of_getElem? he)] at hj
      have hx : i * r.sz + j < bk.es.length * r.sz := by rw [z0.sz]; exact idx_lt (lt_of_get he) hj
      refine ⟨cv, ?_, rr.mono le⟩
      show (if r.b = r.b ∧ r.base ≤ r.base + i * r.sz + j ∧ r.base + i * r.sz + j < r.base + bk.es.length * r.sz then _ else _) = _
      rw [if_pos ⟨rfl, by omega, by omega⟩]; exact a
  | true =>
    have hsame : ∀ j, hget (Ev.freeze hp id) j = hget hp j := fun j => by
      rw [hfz, hgets]
      by_cases e : j = id
      · subst e; rw [hb]; simp only [if_true]; cases bk; simp only at hf; subst hf; rfl
      · simp [e]
    have hn : (Ev.freeze hp id).next = hp.next := by rw [hfz]; rfl
    have hll : (Ev.freeze hp id).lim = hp.lim := by rw [hfz]; rfl
    refine ⟨g, ⟨h.hpExt hn hll hsame, GLe.refl g, rfl, hn, hll, fun _ _ _ x => .inl x, fun b o x => (Own.ext hsame).1 x, fun j b1 x => by rw [hsame] at x; exact ⟨b1, x, rfl, rfl, fun q => q⟩⟩, fun i j e c he hc => ?_⟩
    obtain ⟨kk, cv, a, rr⟩ := z0.cont i j e c he hc
    obtain ⟨u, hu⟩ := z0.frz hf i j e c he hc
    have := h.hr.kap _ _ _ hu
    rw [a] at this; cases this
    exact ⟨cv, hu, rr⟩

theorem close_sound (E : Ent) (ν : Nat → Option Nat) (lo : Lo) (w : World) : ∀ n,
    (∀ t v hp x hp' g cv, closeC n t v hp = some (x, hp') → MemR E g ν lo hp w → RepA g v cv → ∃ g', Closed E g ν lo hp w g' hp' ∧ RepC g'.κ x cv) ∧
    (∀ ts vs hp xs hp' g (f : Nat → Value), closeCs n ts vs hp = some (xs, hp') → MemR E g ν lo hp w → (∀ (i : Nat) (v : V), vs[i]? = some v → RepA g v (f i)) →
      ∃ g', Closed E g ν lo hp w g' hp' ∧ xs.length = vs.length ∧ ∀ (i : Nat) (x : V), xs[i]? = some x → RepC g'.κ x (f i)) ∧
    (∀ ts es hp xs hp' g (f : Nat → Nat → Value), closeEs n ts es hp = some (xs, hp') → MemR E g ν lo hp w → (∀ (i j : Nat) (e : List V) (c : V), es[i]? = some e → e[j]? = some c → RepA g c (f i j)) →
      ∃ g', Closed E g ν lo hp w g' hp' ∧ xs.length = es.length ∧ ∀ (i : Nat) (x : List V), xs[i]? = some x → (∃ e, es[i]? = some e ∧ x.length = e.length) ∧ ∀ (j : Nat) (c : V), x[j]? = some c → RepC g'.κ c (f i j)) := by
  intro n
  induction n with
  | zero => exact ⟨fun _ _ _ _ _ _ _ h => by simp [closeC] at h, fun _ _ _ _ _ _ _ h => by simp [closeCs] at h, fun _ _ _ _ _ _ _ h => by simp [closeEs] at h⟩
  | succ n ih =>
    obtain ⟨ihC, ihCs, ihEs⟩ := ih
    refine ⟨fun t v hp x hp' g cv h m hr => ?_, fun ts vs hp xs hp' g f h m hr => ?_, fun ts es hp xs hp' g f h m hr => ?_⟩
    · cases t with
      | one =>
        simp only [closeC] at h
        split at h <;> first | (simp at h; done) | (simp only [Option.some.injEq, Prod.mk.injEq] at h; obtain ⟨rfl, rfl⟩ := h; cases hr; rename_i hr; exact ⟨g, Closed.refl m, hr⟩)
      | sl cs =>
        simp only [closeC] at h
        split at h
        · simp only [Option.some.injEq, Prod.mk.injEq] at h; obtain ⟨rfl, rfl⟩ := h
          cases hr; rename_i hr; cases hr
          exact ⟨g, Closed.refl m, .vs cs.length [] none 0 0 0 (fun _ _ => undef) (by simp) (by simp) (by simp) (by simp) (by simp)⟩
        · rename_i sz es
          cases hb : Nat.beq sz cs.length <;> simp only [hb, cond_true, cond_false] at h
          · cases h
          · simp only [Option.some.injEq, Prod.mk.injEq] at h; obtain ⟨rfl, rfl⟩ := h
            cases hr; rename_i hr
            exact ⟨g, Closed.refl m, hr⟩
        · rename_i id i len
          cases hg : hget hp id with
          | none => simp [hg] at h
          | some bk =>
            simp only [hg] at h
            have h1 : Nat.blt id hp.lim = false := by
              cases q : Nat.blt id hp.lim
              · rfl
              · simp only [q, cond_true] at h; cases h
            simp only [h1, cond_false] at h
            have h2 : Nat.beq bk.sz cs.length = true := by
              cases q : Nat.beq bk.sz cs.length
              · simp only [q, cond_false] at h; cases h
              · rfl
            simp only [h2, cond_true] at h
            have h3 : Nat.ble (i + len) bk.es.length = true := by
              cases q : Nat.ble (i + len) bk.es.length
              · simp only [q, cond_false] at h; cases h
              · rfl
            simp only [h3, cond_true] at h
            have hlim : hp.lim ≤ id := by
              rcases Nat.lt_or_ge id hp.lim with q | q
              · have : Nat.blt id hp.lim = true := by simpa [Nat.blt_eq] using q
                rw [this] at h1; cases h1
              · exact q
            have hlen : i + len ≤ bk.es.length := Nat.le_of_ble_eq_true h3
            obtain ⟨a, cap, rfl, h0, hx⟩ := hr.hs_inv
            · rcases hx with hx | ⟨r, hl, hx⟩
              · rw [m.hr.dead id hx] at hg; cases hg
              · obtain ⟨g1, c1, k1⟩ := Closed.freeze m hl hg hlim
                obtain ⟨bk0, e0, z0⟩ := m.hr.live id r hl
                rw [hg] at e0; cases e0
                cases hes : closeEs n cs ((bk.es.drop i).take len) (Ev.freeze hp id) with
                | none => simp [hes] at h
                | some p =>
                  obtain ⟨es', h'⟩ := p
                  simp only [hes, Option.some.injEq, Prod.mk.injEq] at h
                  obtain ⟨rfl, rfl⟩ := h
                  have hget' : ∀ (k : Nat) (e : List V), ((bk.es.drop i).take len)[k]? = some e → k < len ∧ bk.es[i + k]? = some e := by
                    intro k e he
                    have hk := lt_of_get he
                    rw [List.getElem?_take_of_lt (by simp at hk; omega), List.getElem?_drop] at he
                    exact ⟨by simp at hk; omega, he⟩
                  obtain ⟨g2, c2, hl2, k2⟩ := ihEs cs _ _ _ _ g1 (fun k j => (g1.κ r.b (r.base + (i + k) * r.sz + j)).getD undef) hes c1.mem (fun k j e c he hc => by
                    obtain ⟨_, he'⟩ := hget' k e he
                    obtain ⟨cv, a1, a2⟩ := k1 (i + k) j e c he' hc
                    simp only [a1, Option.getD_some]; exact a2)
                  refine ⟨g2, c1.trans c2, ?_⟩
                  have hl3 : es'.length = len := by rw [hl2]; simp; omega
                  have key := RepC.vs (κ := g2.κ) bk.sz es' a cap r.b (r.base + i * r.sz) (fun k j => (g1.κ r.b (r.base + (i + k) * r.sz + j)).getD undef)
                    (fun e he => by
                      obtain ⟨k, hk⟩ := List.getElem?_of_mem he
                      obtain ⟨⟨e', he', hl'⟩, _⟩ := k2 k e hk
                      rw [hl']; exact z0.row e' (List.mem_of_getElem? (hget' k e' he').2))
                    (fun hne => by
                      rcases hx with hx | ⟨hx, _⟩
                      · subst hx
                        have : es' = [] := List.eq_nil_of_length_eq_zero (by omega)
                        exact absurd this hne
                      · exact hx)
                    (by omega)
                    (fun k j e c he hc => by
                      obtain ⟨⟨e', he', hl'⟩, hrr⟩ := k2 k e he
                      have hj := lt_of_get hc
                      rw [hl'] at hj
                      obtain ⟨cv, a1, a2⟩ := k1 (i + k) j e' (e'[j]) (hget' k e' he').2 (by rw [List.getElem?_eq_getElem hj])
                      refine ⟨(hrr j c hc).keep, ?_⟩
                      have : r.base + i * r.sz + k * bk.sz + j = r.base + (i + k) * r.sz + j := by rw [← z0.sz, Nat.add_mul]; omega
                      rw [this]
                      have := c2.le.κ _ _ _ a1
                      rw [this, a1]; rfl)
                    (fun k j e c he hc => (k2 k e he).2 j c hc)
                  rw [hl3] at key
                  exact key
        · cases h
    · cases ts with
      | nil =>
        cases vs with
        | nil => simp only [closeCs, Option.some.injEq, Prod.mk.injEq] at h; obtain ⟨rfl, rfl⟩ := h; exact ⟨g, Closed.refl m, rfl, by simp⟩
        | cons => simp [closeCs] at h
      | cons t ts =>
        cases vs with
        | nil => simp [closeCs] at h
        | cons v vs =>
          simp only [closeCs] at h
          cases hc : closeC n t v hp with
          | none => simp [hc] at h
          | some p =>
            obtain ⟨x, h1⟩ := p
            simp only [hc] at h
            cases hcs : closeCs n ts vs h1 with
            | none => simp [hcs] at h
            | some q =>
              obtain ⟨xs', h2⟩ := q
              simp only [hcs, Option.some.injEq, Prod.mk.injEq] at h
              obtain ⟨rfl, rfl⟩ := h
              obtain ⟨g1, c1, r1⟩ := ihC t v hp x h1 g (f 0) hc m (hr 0 v rfl)
              obtain ⟨g2, c2, l2, r2⟩ := ihCs ts vs h1 xs' h2 g1 (fun i => f (i + 1)) hcs c1.mem (fun i u hu => (hr (i + 1) u (by simpa using hu)).mono c1.le)
              refine ⟨g2, c1.trans c2, by simp [l2], fun i u hu => ?_⟩
              cases i with
              | zero => simp at hu; subst hu; exact r1.mono c2.le.κ
              | succ i => exact r2 i u (by simpa using hu)
    · cases es with
      | nil => simp only [closeEs, Option.some.injEq, Prod.mk.injEq] at h; obtain ⟨rfl, rfl⟩ := h; exact ⟨g, Closed.refl m, rfl, by simp⟩
      | cons e es =>
        simp only [closeEs] at h
        cases hc : closeCs n ts e hp with
        | none => simp [hc] at h
        | some p =>
          obtain ⟨x, h1⟩ := p
          simp only [hc] at h
          cases hcs : closeEs n ts es h1 with
          | none => simp [hcs] at h
          | some q =>
            obtain ⟨xs', h2⟩ := q
            simp only [hcs, Option.some.injEq, Prod.mk.injEq] at h
            obtain ⟨rfl, rfl⟩ := h
            obtain ⟨g1, c1, l1, r1⟩ := ihCs ts e hp x h1 g (f 0) hc m (fun j c hj => hr 0 j e c rfl hj)
            obtain ⟨g2, c2, l2, r2⟩ := ihEs ts es h1 xs' h2 g1 (fun i => f (i + 1)) hcs c1.mem (fun i j u c hu hj => (hr (i + 1) j u c (by simpa using hu) hj).mono c1.le)
            refine ⟨g2, c1.trans c2, by simp [l2], fun i u hu => ?_⟩
            cases i with
            | zero => simp at hu; subst hu; exact ⟨⟨e, rfl, l1⟩, fun j c hj => (r1 j c hj).mono c2.le.κ⟩
            | succ i =>
              obtain ⟨⟨e', he', hl'⟩, hrr⟩ := r2 i u (by simpa using hu)
              exact ⟨⟨e', by simpa using he', hl'⟩, hrr⟩

end Ev
