import Derived.Test.YtgofadnggipkpaaEvCall2
set_option linter.unusedVariables false
namespace Ev
open Go

/-- a place elsewhere becomes an object -/
theorem MemR.adopt {E : Ent} {g : G} {ν : Nat → Option Nat} {lo : Lo} {hp : Hp} {w0 w : World} (h : MemR E g ν lo hp w) {r : Rg} {bk : Bk} (hz : BkR g w r bk) (hfr : bk.fr = false)
    (h0 : ∀ b o, Own g hp b o → b < w0.heap.size) (h1 : ∀ t b cs, lo t = some cs → ν t = some b → b < w0.heap.size) (h2 : E.w.heap.size ≤ w0.heap.size) (hb : 0 < r.cap * r.sz → w0.heap.size ≤ r.b) :
    MemR E (born g hp r) ν lo (hnew hp bk) w := by
  have hle := born_le h.hr r
  have hnxt : g.lf hp.next = .unb := h.hr.unb _ (Nat.le_refl _)
  have hmono : ∀ {r' bk'}, BkR g w r' bk' → BkR (born g hp r) w r' bk' := fun z =>
    ⟨z.sz, z.len, z.row, fun i j e c he hc => by obtain ⟨a, cv, b, x⟩ := z.cont i j e c he hc; exact ⟨a, cv, b, x.mono hle⟩, z.rw, z.frz, z.blk⟩
  have hlive : ∀ id r', (born g hp r).lf id = .live r' → (id = hp.next ∧ r' = r) ∨ (id ≠ hp.next ∧ g.lf id = .live r') := fun id r' x => by
    simp only [born] at x
    by_cases e : id = hp.next
    · simp only [e, if_true, Life.live.injEq] at x; exact .inl ⟨e, x.symm⟩
    · simp only [e, if_false] at x; exact .inr ⟨e, x⟩
  have hapart : ∀ id r' bk', g.lf id = .live r' → hget hp id = some bk' → bk'.fr = false → r.apart r' := fun id r' bk' x y z k k' hk hk' q => by
    have := h0 r'.b (r'.base + k') ⟨id, r', bk', k', x, y, z, hk', rfl, rfl⟩
    have := hb (by omega)
    omega
  have hbl : ∀ id b, (born g hp r).lf id = .mlive b → id ≠ hp.next ∧ g.lf id = .mlive b := fun id b x => by
    simp only [born] at x
    split at x
    · cases x
    · exact ⟨‹_›, x⟩
  refine ⟨⟨h.hr.mp.mono (fun _ _ _ x => x) (fun _ _ x => x.mono hle) (fun id b x => (hbl id b x).2) (fun id b x => by rw [hget_hnew, if_neg (hbl id b x).1]), by have := h.hr.lim; simp only [hnew]; omega, fun id hid => by
      simp only [hnew] at hid
      rw [hget_hnew, if_neg (by omega)]; exact h.hr.nil id (by omega), fun id hid => by
      simp only [hnew] at hid
      simp only [born]; split
      · simp
      · exact h.hr.bnd id (by omega), h.hr.kap, fun id hid => ?_, fun id x => ?_, fun id r' x => ?_, fun id id' r1 r2 b1 b2 hne x x' y y' z z' => ?_⟩, ⟨fun t cs x => ?_, h.lo.inj⟩, ⟨h.evo.le.trans hle, by have := h.evo.next; simp only [hnew]; omega, h.evo.lim, fun id hid => ?_, h.evo.size, h.evo.cell, h.evo.frozen, fun b o x => ?_, h.evo.κ, h.evo.wd.1, h.evo.wd.2.1, h.evo.wd.2.2.1, fun b ⟨id, x⟩ => h.evo.wd.2.2.2 b ⟨id, (hbl id b x).2⟩⟩⟩
  · simp only [hnew] at hid
    simp only [born]; rw [if_neg (by omega)]; exact h.hr.unb id (by omega)
  · simp only [born] at x
    by_cases e : id = hp.next
    · simp [e] at x
    · simp only [e, if_false] at x; rw [hget_hnew, if_neg e]; exact h.hr.dead id x
  · rcases hlive id r' x with ⟨rfl, rfl⟩ | ⟨e, x⟩
    · exact ⟨bk, by rw [hget_hnew, if_pos rfl], hmono hz⟩
    · obtain ⟨bk', a, b⟩ := h.hr.live id r' x
      exact ⟨bk', by rw [hget_hnew, if_neg e]; exact a, hmono b⟩
  · rcases hlive id r1 x with ⟨e, rfl⟩ | ⟨e, x⟩
    · rcases hlive id' r2 x' with ⟨e', rfl⟩ | ⟨e', x'⟩
      · exact absurd (e.trans e'.symm) hne
      · rw [hget_hnew, if_neg e'] at y'
        exact hapart id' r2 b2 x' y' z'
    · rw [hget_hnew, if_neg e] at y
      rename_i x1
      rcases hlive id' r2 x' with ⟨e', er⟩ | ⟨e', x'⟩
      · intro k k' hk hk' q
        rw [er] at hk' q
        exact hapart id r1 b1 x y z k' k hk' hk ⟨q.1.symm, q.2.symm⟩
      · rw [hget_hnew, if_neg e'] at y'
        exact h.hr.sep id id' r1 r2 b1 b2 hne x x' y y' z z'
  · obtain ⟨b, a1, a2, a3, a4, a5, a6⟩ := h.lo.box t cs x
    refine ⟨b, a1, fun j c hj => ?_, a3, fun o ho => ?_, a5, a6⟩
    · obtain ⟨k, ⟨cv, p, q⟩, s⟩ := a2 j c hj
      exact ⟨k, ⟨cv, p, q.mono hle⟩, s⟩
    · rcases own_born h.hr ho with ho | ⟨e, k, hk, _⟩
      · exact a4 o ho
      · have := h1 t b cs x a1
        have := hb (by omega)
        omega
  · rw [hget_hnew, if_neg (by have := h.hr.lim; have := h.evo.lim; omega)]; exact h.evo.ro id hid
  · rcases own_born h.hr x with x | ⟨e, k, hk, _⟩
    · exact h.evo.own b o x
    · have := hb (by omega)
      exact .inr (by omega)
/-- a slice that a pure function made becomes the caller's -/
theorem own_back {E : Ent} {ν : Nat → Option Nat} {lo : Lo} {g1 : G} {hp1 : Hp} {w w' : World} (m : MemR E g1 ν lo hp1 w) {g' : G} {h : Hp} (hr : HR g' h w') (ev : Evo ⟨g1.κ, fun _ => .unb⟩ h0 w g' h w') {t : PT} {v x : V} {cv : Value} {hp2 : Hp}
    (hv : RepA g' v cv) (hc : ownP t v h hp1 = some (x, hp2)) : ∃ g2, MemR E g2 ν lo hp2 w' ∧ GLe g1 g2 ∧ RepA g2 x cv ∧ isLp x = false := by
  have m' : MemR ⟨⟨g1.κ, fun _ => .unb⟩, h0, w⟩ g' (fun _ => none) (fun _ => none) h w' := ⟨hr, ⟨(fun _ _ x => nomatch x), (fun _ _ _ _ x => absurd rfl x)⟩, ev⟩
  unfold ownP at hc
  split at hc
  · rename_i ts id i len
    cases hg : hget h id with
    | none => simp [hg] at hc
    | some bk =>
      simp only [hg] at hc
      cases hfr : bk.fr with
      | true => simp [hfr] at hc
      | false =>
        simp only [hfr, cond_false] at hc
        cases hlm : Nat.blt id h.lim with
        | true => simp [hlm] at hc
        | false =>
          simp only [hlm, cond_false] at hc
          cases hsz : Nat.beq bk.sz ts.length with
          | false => simp [hsz] at hc
          | true =>
            simp only [hsz, cond_true] at hc
            cases hln : Nat.ble (i + len) bk.es.length with
            | false => simp [hln] at hc
            | true =>
              simp only [hln, cond_true] at hc
              have hln := Nat.le_of_ble_eq_true hln
              have hlim := bltG hlm
              cases hes : closeEs depth ts ((bk.es.drop i).take len) (hset h id none) with
              | none => simp [hes] at hc
              | some q =>
                obtain ⟨es, h'⟩ := q
                simp only [hes, Option.some.injEq, Prod.mk.injEq] at hc
                obtain ⟨rfl, rfl⟩ := hc
                obtain ⟨a, cap, rfl, c1, c2⟩ := hv.hs_inv
                rcases c2 with c2 | ⟨r, hl, c2⟩
                · rw [hr.dead id c2] at hg; cases hg
                · obtain ⟨bk0, e0, z⟩ := hr.live id r hl
                  rw [hg] at e0; cases e0
                  have mk := m'.kill hl hlim
                  have hkl := killed_le hl
                  have hgt : ∀ (k : Nat) (e : List V), ((bk.es.drop i).take len)[k]? = some e → k < len ∧ bk.es[i + k]? = some e := by
                    intro k e he
                    have hk := lt_of_get he
                    rw [List.getElem?_take_of_lt (by simp at hk; omega), List.getElem?_drop] at he
                    exact ⟨by simp at hk; omega, he⟩
                  obtain ⟨g2, k1, k2, k3⟩ := (close_sound _ _ _ w' depth).2.2 ts _ (hset h id none) es h' (killed g' id) (fun k j => (w'.cell? (ad r.b (r.base + (i + k) * r.sz + j))).getD undef) hes mk (fun k j e c he hcc => by
                    obtain ⟨_, u, b1, b2⟩ := z.cont (i + k) j e c (hgt k e he).2 hcc
                    simp only [b1, Option.getD_some]; exact b2.mono hkl)
                  have hlen : es.length = len := by rw [k2, List.length_take, List.length_drop]; omega
                  have hicap : i + cap ≤ r.cap := by
                    rcases c2 with c2 | ⟨_, c3⟩
                    · have := z.len; omega
                    · exact c3
                  have hmul : (i + cap) * r.sz ≤ r.cap * r.sz := Nat.mul_le_mul_right _ hicap
                  rw [Nat.add_mul] at hmul
                  obtain ⟨e1, e2⟩ := pure_end m hr ev (κ2 := g2.κ) k1.le.κ k1.mem.hr.kap (fun b o v x => (k1.κ b o v x).imp (fun q => q) own_killed)
                  have hbk : BkR ⟨g2.κ, g1.lf⟩ w' ⟨r.b, r.base + i * r.sz, r.sz, cap⟩ ⟨bk.sz, false, es⟩ := by
                    refine ⟨z.sz, by simp only; omega, fun x hx => ?_, fun k j x c hx hcc => ?_, fun _ k hk => ?_, fun q => by simp at q, fun _ => z.blk hfr⟩
                    · obtain ⟨k, hk⟩ := List.getElem?_of_mem hx
                      obtain ⟨⟨e, he, hl'⟩, _⟩ := k3 k x hk
                      rw [hl']; exact z.row e (List.mem_of_getElem? (hgt k e he).2)
                    · obtain ⟨⟨e, he, hl'⟩, hrr⟩ := k3 k x hx
                      have hj := lt_of_get hcc
                      rw [hl'] at hj
                      obtain ⟨_, u, b1, _⟩ := z.cont (i + k) j e (e[j]) (hgt k e he).2 (by rw [List.getElem?_eq_getElem hj])
                      have hrep := hrr j c hcc
                      simp only [b1, Option.getD_some] at hrep
                      refine ⟨hrep.keep, u, ?_, .c _ _ hrep⟩
                      simp only []
                      rw [show r.base + i * r.sz + k * r.sz + j = r.base + (i + k) * r.sz + j by rw [Nat.add_mul]; omega]
                      exact b1
                    · simp only at hk ⊢
                      obtain ⟨b1, b2, b3⟩ := z.rw hfr (i * r.sz + k) (by omega)
                      rw [show r.base + i * r.sz + k = r.base + (i * r.sz + k) by omega]
                      refine ⟨b1, b2, ?_⟩
                      cases q : g2.κ r.b (r.base + (i * r.sz + k)) with
                      | none => rfl
                      | some u =>
                        rcases k1.κ _ _ u q with q | q
                        · have : g'.κ r.b (r.base + (i * r.sz + k)) = some u := q
                          rw [b3] at this; cases this
                        · obtain ⟨id2, r3, bk3, k', l1, l2, l3, l4, l5, l6⟩ := q
                          simp only [killed] at l1
                          have hne : id2 ≠ id := fun q => by simp [q] at l1
                          rw [if_neg hne] at l1
                          rw [hget_hset, if_neg hne] at l2
                          exact absurd ⟨l5, by omega⟩ (hr.sep id id2 r r3 bk bk3 hne.symm hl l1 hg l2 hfr l3 (i * r.sz + k) k' (by omega) l4)
                  have had := e1.adopt (w0 := w) hbk rfl (fun b o x => by
                      obtain ⟨id', r', bk', k', x1, x2, x3, x4, x5, x6⟩ := x
                      obtain ⟨v, hv⟩ := Own.bound m.hr ⟨id', r', bk', k', x1, x2, x3, x4, x5, x6⟩
                      exact cell_block hv) (fun t b cs x1 x2 => by
                      obtain ⟨b', y1, _, _, _, _, y6⟩ := m.lo.box t cs x1
                      rw [x2] at y1; cases y1; exact y6) m.evo.size (fun hpos => by
                      simp only at hpos ⊢
                      rcases ev.own r.b (r.base + i * r.sz) ⟨id, r, bk, i * r.sz, hl, hg, hfr, by omega, rfl, rfl⟩ with q | q
                      · exact absurd q own_empty
                      · exact q)
                  refine ⟨_, had, e2.trans (born_le e1.hr _), ?_, rfl⟩
                  refine .hs _ _ _ _ _ c1 (.inr ⟨⟨r.b, r.base + i * r.sz, r.sz, cap⟩, by simp [born], ?_⟩)
                  rcases c2 with c2 | ⟨c2, _⟩
                  · exact .inl c2
                  · exact .inr ⟨by simp [c2], by simp⟩
  · rename_i hne
    cases hcp : closeP t v h with
    | none => simp [hcp] at hc
    | some q =>
      obtain ⟨y, h'⟩ := q
      simp only [hcp, Option.some.injEq, Prod.mk.injEq] at hc
      obtain ⟨rfl, rfl⟩ := hc
      obtain ⟨g'', c, r⟩ := closeP_sound hcp m' hv
      obtain ⟨e1, e2⟩ := pure_end m hr ev c.le.κ c.mem.hr.kap c.κ
      exact ⟨_, e1, e2, r.toA (g := ⟨g''.κ, g1.lf⟩), r.notLp⟩
theorem pure_ok {P : Program} {call : Call} {L : Nat} {f : FuncId} {fn : Fn} (hrun : RunOK P call L f fn) {own : Bool} {xs : List V} {cs : Array Value} {E : Ent} {g : G} {ν : Nat → Option Nat} {lo : Lo} {hp : Hp} {w : World} (h : MemR E g ν lo hp w) (ha : Args g xs cs) :
    match runP own call L fn xs hp with
    | .bad => True
    | .ret v hp' => Enters P f ∧ Calls P f cs w (EndR fun cv w' g' => MemR E g' ν lo hp' w' ∧ GLe g g' ∧ RepA g' v cv ∧ isLp v = false)
    | .pan v hp' => Enters P f ∧ Calls P f cs w (EndP fun cv w' g' => MemR E g' ν lo hp' w' ∧ GLe g g' ∧ RepA g' v cv ∧ isLp v = false) := by
  unfold runP
  cases hc : closeAll fn.ps xs hp with
  | none => trivial
  | some q =>
    obtain ⟨ys, hp1⟩ := q
    obtain ⟨g1, c, l1, l2, r⟩ := closeAll_sound (f := fun i => cs.getD i undef) hc h ha.rep
    obtain ⟨s1, s2⟩ := pure_start c.mem (cs := cs) (by rw [ha.size, l1]) r
    have hr := hrun ys cs _ h0 w s1 s2
    simp only []
    cases hf : runF call L fn ys h0 with
    | bad => trivial
    | pan v hh => simp only [back]
    | ret v hh =>
      rw [hf] at hr
      obtain ⟨he, hcalls⟩ := hr
      have gen : ∀ rs : List PT, match (match closeAll rs (untuple rs.length v) hh with
          | some (xs, _) => CR.ret (tuple xs) hp1
          | none => CR.bad) with
        | .bad => True
        | .ret v hp' => Enters P f ∧ Calls P f cs w (EndR fun cv w' g' => MemR E g' ν lo hp' w' ∧ GLe g g' ∧ RepA g' v cv ∧ isLp v = false)
        | .pan v hp' => Enters P f ∧ Calls P f cs w (EndP fun cv w' g' => MemR E g' ν lo hp' w' ∧ GLe g g' ∧ RepA g' v cv ∧ isLp v = false) := by
        intro rs
        cases hcl : closeAll rs (untuple rs.length v) hh with
        | none => trivial
        | some q =>
          obtain ⟨zs, h'⟩ := q
          refine ⟨he, Calls.mono hcalls fun e w' x => EndR.mono (fun cv w' g' ⟨x1, x2, x3, _⟩ => ?_) x⟩
          obtain ⟨g2, y1, y2, y3, y4⟩ := pure_back c.mem x1 x2 x3 hcl
          exact ⟨g2, y1, c.le.trans y2, y3, y4⟩
      unfold back
      cases own with
      | false => exact gen fn.rs
      | true =>
        cases hrs : fn.rs with
        | nil => simp only []; exact gen []
        | cons t ts =>
          cases ts with
          | cons t' ts => simp only []; exact gen (t :: t' :: ts)
          | nil =>
            simp only []
            cases hcl : ownP t v hh hp1 with
            | none => trivial
            | some q =>
              obtain ⟨x, hp2⟩ := q
              refine ⟨he, Calls.mono hcalls fun e w' x => EndR.mono (fun cv w' g' ⟨x1, x2, x3, _⟩ => ?_) x⟩
              obtain ⟨g2, y1, y2, y3, y4⟩ := own_back c.mem x1 x2 x3 hcl
              exact ⟨g2, y1, c.le.trans y2, y3, y4⟩
end Ev
