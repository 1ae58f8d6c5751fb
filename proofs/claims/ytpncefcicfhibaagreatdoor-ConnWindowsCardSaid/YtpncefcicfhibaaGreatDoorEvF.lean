import Derived.Test.YtpncefcicfhibaaGreatDoorEvE
import Derived.Shelf.Spec.SlicesInsertGrow
set_option linter.unusedVariables false
set_option linter.unusedSimpArgs false
set_option linter.unusedSectionVars false
set_option linter.constructorNameAsVariable false
namespace Ev
variable [Glob]
open Go
theorem setCell_comm (w : World) (b o o' : Nat) (v v' : Value) (h : o ≠ o') : (w.setCell (ad b o) v).setCell (ad b o') v' = (w.setCell (ad b o') v').setCell (ad b o) v := by
  unfold World.setCell ad
  simp only [Option.isSome_none, Bool.false_eq_true, if_false]
  congr 1
  apply Array.ext_getElem?
  intro i
  simp only [Array.getElem?_modify]
  by_cases e : b = i
  · subst e
    simp only [if_true]
    cases w.heap[b]? with
    | none => rfl
    | some ob =>
      cases ob with
      | cells c el fr =>
        simp only [Option.map_some]
        rw [Array.setIfInBounds_comm _ _ h]
      | _ => rfl
  · simp only [e, if_false]
theorem setCs_cell_comm (b o : Nat) (v : Value) : ∀ (vs : List Value) (o' : Nat) (w : World), (∀ j, j < vs.length → o' + j ≠ o) → (setCs w b o' vs).setCell (ad b o) v = setCs (w.setCell (ad b o) v) b o' vs
  | [], _, _, _ => rfl
  | u :: r, o', w, h => by
    simp only [setCs]
    rw [setCs_cell_comm b o v r (o' + 1) _ (fun j hj => by have := h (j + 1) (by simp; omega); omega), setCell_comm _ _ _ _ _ _ (by have := h 0 (by simp); omega)]
theorem setCs_append (w : World) (b : Nat) : ∀ (vs us : List Value) (o : Nat) (w : World), setCs w b o (vs ++ us) = setCs (setCs w b o vs) b (o + vs.length) us
  | [], us, o, w => by simp [setCs]
  | v :: r, us, o, w => by
    simp only [List.cons_append, setCs, List.length_cons]
    rw [setCs_append w b r us (o + 1), show o + 1 + r.length = o + (r.length + 1) by omega]
theorem setCs_comm (b : Nat) : ∀ (vs us : List Value) (o o' : Nat) (w : World), o + vs.length ≤ o' → setCs (setCs w b o' us) b o vs = setCs (setCs w b o vs) b o' us
  | [], us, o, o', w, _ => rfl
  | v :: r, us, o, o', w, h => by
    simp only [setCs]
    simp only [List.length_cons] at h
    rw [setCs_cell_comm b o v us o' w (fun j hj => by omega), setCs_comm b r us (o + 1) o' _ (by omega)]
theorem setCs_two (w : World) (b o : Nat) (vs us : List Value) : setCs (setCs w b (o + vs.length) us) b o vs = setCs w b o (vs ++ us) := by
  rw [setCs_comm b vs us o _ w (Nat.le_refl _), setCs_append w b vs us o w]
section
variable {E : Ent} {g : G} {ν : Nat → Option Nat} {lo : Lo} {hp : Hp} {w : World}
theorem MemR.writeRows (h : MemR E g ν lo hp w) {id : Nat} {r : Rg} {bk : Bk}
    (hl : g.lf id = .live r) (hb : hget hp id = some bk) (hf : bk.fr = false) (hlim : hp.lim ≤ id) (k : Nat) (new : List (List V)) (vals : List Value) (hv : vals.length = new.length * bk.sz)
    (hk : k ≤ bk.es.length) (hcap : k + new.length ≤ r.cap) (hrow : ∀ x, x ∈ new → x.length = bk.sz)
    (hrep : ∀ (i j : Nat) (x : List V) (c : V), new[i]? = some x → x[j]? = some c → c.keep = true ∧ ∃ cv, vals[i * bk.sz + j]? = some cv ∧ RepA g c cv) :
    MemR E g ν lo (hset hp id (some ⟨bk.sz, false, bk.es.take k ++ new⟩)) (setCs w r.b (r.base + k * bk.sz) vals) := by
  obtain ⟨bk0, e0, z⟩ := h.hr.live id r hl
  rw [hb] at e0; cases e0
  have hrs := z.sz
  have hol : (bk.es.take k).length = k := by rw [List.length_take]; omega
  have hmul : (k + new.length) * bk.sz ≤ r.cap * bk.sz := Nat.mul_le_mul_right _ hcap
  have hoff : k * bk.sz + vals.length = (k + new.length) * bk.sz := by rw [hv, Nat.add_mul]
  refine h.write hl hb hf hlim (bk' := ⟨bk.sz, false, bk.es.take k ++ new⟩) (k * bk.sz) vals (by rw [hrs]; omega) rfl rfl (by simp only [List.length_append, hol]; exact hcap)
    (fun x hx => by
      rcases List.mem_append.1 hx with hx | hx
      · exact z.row x (List.mem_of_mem_take hx)
      · exact hrow x hx)
    (fun i' j x c hx hc => by
      simp only at hx
      have hj := lt_of_get hc
      by_cases p1 : i' < k
      · rw [List.getElem?_append_left (by omega), List.getElem?_take_of_lt p1] at hx
        rw [z.row x (List.mem_of_getElem? hx)] at hj
        obtain ⟨k1, u, k2, k3⟩ := z.cont i' j x c hx hc
        have := Nat.mul_le_mul_right bk.sz (show i' + 1 ≤ k by omega)
        rw [Nat.add_mul, Nat.one_mul] at this
        rw [if_neg (by omega)]
        exact ⟨k1, u, by rw [← Nat.add_assoc, ← hrs]; exact k2, k3⟩
      · rw [List.getElem?_append_right (by omega), hol] at hx
        rw [hrow x (List.mem_of_getElem? hx)] at hj
        obtain ⟨k1, cv, k2, k3⟩ := hrep _ j x c hx hc
        have hlt := idx_lt (lt_of_get hx) hj
        have e1 : i' * bk.sz = k * bk.sz + (i' - k) * bk.sz := by rw [← Nat.add_mul]; congr 1; omega
        refine ⟨k1, ?_⟩
        rw [if_pos ⟨by omega, by omega⟩]
        exact ⟨cv, by rw [show i' * bk.sz + j - k * bk.sz = (i' - k) * bk.sz + j by omega]; exact k2, k3⟩)
end
def handFn (ps rs : List PT) (R : List V → Hp → Option (V × Hp)) : Fn := ⟨ps, rs, .rw, [.tmp 0], fun st k =>
  match R ((List.range ps.length).map st.tm) st.hp with
  | some (v, h) => k (.ret ⟨upd st.tm 0 v, st.lo, h⟩)
  | none => .bad⟩
theorem argT_range (xs : List V) : (List.range xs.length).map (argT xs) = xs := by
  apply List.ext_getElem?
  intro i
  rw [List.getElem?_map]
  by_cases h : i < xs.length
  · rw [List.getElem?_range h, Option.map_some, List.getElem?_eq_getElem h]
    simp [argT, List.getD, h]
  · rw [List.getElem?_eq_none (by simp; omega), List.getElem?_eq_none (by omega)]; rfl
theorem hand_ok {P : Program} {f : FuncId} {ps rs : List PT} {R : List V → Hp → Option (V × Hp)} (hE : Enters P f)
    (h : ∀ xs cs g hp w, GlobW g hp w → HR g hp w → Args g xs cs → xs.length = ps.length → ∀ v hp', R xs hp = some (v, hp') → isLp v = false ∧
      Calls P f cs w (EndR fun cv w' g' => HR g' hp' w' ∧ Evo g hp w g' hp' w' ∧ RepA g' v cv)) (call : Call) (L : Nat) : RunOK P call L f (handFn ps rs R) := by
  intro xs cs g hp w hgl hr ha
  unfold runF
  cases hlen : Nat.beq xs.length (handFn ps rs R).ps.length with
  | false => trivial
  | true =>
    have hl2 : xs.length = ps.length := Nat.eq_of_beq_eq_true hlen
    simp only [cond_true]
    have e : bodyD (handFn ps rs R) xs hp = match R xs hp with
      | some (v, h) => notLpD v fun v => .done (.ret ⟨fun _ => v, fun _ => none, h⟩)
      | none => .bad := by
      have e0 : (List.range ps.length).map (argT xs) = xs := by rw [← hl2]; exact argT_range xs
      simp only [bodyD, handFn, e0]
      cases R xs hp with
      | none => rfl
      | some q => obtain ⟨v, h⟩ := q; rfl
    rw [e]
    cases hR : R xs hp with
    | none => trivial
    | some q =>
      obtain ⟨v, hp'⟩ := q
      obtain ⟨h1, h2⟩ := h xs cs g hp w hgl hr ha hl2 v hp' hR
      have e2 : notLpD v (fun v => D.done (.ret ⟨fun _ => v, fun _ => none, hp'⟩)) = .done (.ret ⟨fun _ => v, fun _ => none, hp'⟩) := by
        cases v <;> first | rfl | (simp [isLp] at h1)
      simp only [e2, run, crOf]
      exact ⟨hE, h2.mono fun e w x => x.mono fun cv w g q => ⟨g, q.1, q.2.1, q.2.2, h1⟩⟩
def insL {α : Type} (i : Nat) (x : α) (l : List α) : List α := l.take i ++ (x :: l.drop i)
def oneRow (sz : Nat) (v : V) (hp : Hp) : Option (List V) :=
  match v with
  | .hs id2 i2 1 => match hget hp id2 with
    | some b2 => bif b2.fr then none else bif Nat.beq b2.sz sz then b2.es[i2]? else none
    | none => none
  | _ => none
def sameId (a b : V) : Bool :=
  match a, b with
  | .hs i _ _, .hs j _ _ => Nat.beq i j
  | _, _ => false
def ownRows (sz : Nat) (v : V) (hp : Hp) : Option (List (List V)) :=
  match v with
  | .hs id i0 n => match hget hp id with
    | some b => bif b.fr then none else bif Nat.blt id hp.lim then none else bif Nat.beq b.sz sz then bif Nat.ble (i0 + n) b.es.length then some ((b.es.drop i0).take n) else none else none
    | none => none
  | _ => none
def renewed (sz : Nat) (v : V) (rows : List (List V)) (hp : Hp) : V × Hp :=
  match v with
  | .hs id _ _ => (.hs hp.next 0 rows.length, hnew (hset hp id none) ⟨sz, false, rows⟩)
  | _ => (.hs hp.next 0 rows.length, hnew hp ⟨sz, false, rows⟩)
def insR (sz bytes : Nat) : List V → Hp → Option (V × Hp)
  | [s, .it .i64 (.ofNat i), v], hp => match oneRow sz v hp with
    | some new => match s with
      | .ns => bif Nat.beq i 0 then bif Nat.ble bytes maxB then some (renewed sz .ns [new] hp) else none else none
      | s => bif sameId s v then none else match ownRows sz s hp with
        | some rows => bif Nat.ble i rows.length then bif Nat.ble ((rows.length + 1) * bytes) maxB then some (renewed sz s (insL i new rows) hp) else none else none
        | none => none
    | none => none
  | _, _ => none
def insFn (sz bytes : Nat) : Fn := handFn [.c .one, .c .one, .c .one] [.c .one] (insR sz bytes)
structure SameW (w W : World) : Prop where
  heap : W.heap = w.heap
  os : W.os = w.os ∧ W.output = w.output
def InsReal (P : Program) (f : FuncId) (sz bytes : Nat) : Prop :=
  ∀ (base : Option Addr) (n c i vb voff vc : Nat) (cs vs : List Value) (w : World), i ≤ n → n ≤ c → n + 1 ≤ 140737488355328 → (n + 1) * bytes ≤ maxB → cs.length = n * sz → vs.length = sz → (base = none → c = 0) →
    (0 < c → ∃ b off, base = some (ad b off) ∧ b ≠ vb ∧ (∀ j v, cs[j]? = some v → w.cell? (ad b (off + j)) = some v) ∧ (∀ j, j < c * sz → (w.cell? (ad b (off + j))).isSome = true ∧ w.frozen? (ad b (off + j)) = false)) →
    (∀ j v, vs[j]? = some v → w.cell? (ad vb (voff + j)) = some v) → (∃ tA kA, w.shape? vb = some (tA, kA) ∧ w.frozen? (ad vb voff) = false ∧ w.frozen? (ad vb kA) = false) →
    (∀ v, v ∈ cs → v.oneCell' = true) → (∀ v, v ∈ vs → v.oneCell' = true) →
    Calls P f #[.slice base n c, .int .i64 (Int.ofNat i), .slice (some (ad vb voff)) 1 vc] w fun e w' =>
      (n + 1 ≤ c ∧ e = .returned (.slice base (n + 1) c) ∧ ∃ b off, base = some (ad b off) ∧ ∃ W, SameW w W ∧ w' = setCs W b (off + i * sz) (vs ++ cs.drop (i * sz))) ∨
      (∃ G zs, n + 1 ≤ G ∧ zs.size = (G - (n + 1)) * sz ∧ e = .returned (.slice (some (ad w.heap.size 0)) (n + 1) G) ∧ Grow w w' ((cs.take (i * sz) ++ (vs ++ cs.drop (i * sz))).toArray ++ zs))
theorem ownRows_inv {sz : Nat} {v : V} {hp : Hp} {rows : List (List V)} (h : ownRows sz v hp = some rows) :
    ∃ id i0 n b, v = .hs id i0 n ∧ hget hp id = some b ∧ b.fr = false ∧ hp.lim ≤ id ∧ b.sz = sz ∧ i0 + n ≤ b.es.length ∧ rows = (b.es.drop i0).take n := by
  unfold ownRows at h
  split at h
  · rename_i id i0 n
    split at h
    · rename_i b hb
      cases h1 : b.fr with
      | true => simp [h1] at h
      | false =>
        cases h2 : Nat.blt id hp.lim with
        | true => simp [h1, h2] at h
        | false =>
          cases h3 : Nat.beq b.sz sz with
          | false => simp [h1, h2, h3] at h
          | true =>
            cases h4 : Nat.ble (i0 + n) b.es.length with
            | false => simp [h1, h2, h3, h4] at h
            | true =>
              simp only [h1, h2, h3, h4, cond_true, cond_false, Option.some.injEq] at h
              exact ⟨id, i0, n, b, rfl, hb, h1, bltG h2, Nat.eq_of_beq_eq_true h3, Nat.le_of_ble_eq_true h4, h.symm⟩
    · cases h
  · cases h
theorem oneRow_inv {sz : Nat} {v : V} {hp : Hp} {new : List V} (h : oneRow sz v hp = some new) :
    ∃ id i0 b, v = .hs id i0 1 ∧ hget hp id = some b ∧ b.fr = false ∧ b.sz = sz ∧ b.es[i0]? = some new := by
  unfold oneRow at h
  split at h
  · rename_i id i0
    split at h
    · rename_i b hb
      cases h1 : b.fr with
      | true => simp [h1] at h
      | false =>
        cases h3 : Nat.beq b.sz sz with
        | false => simp [h1, h3] at h
        | true =>
          simp only [h1, h3, cond_true, cond_false] at h
          exact ⟨id, i0, b, rfl, hb, h1, Nat.eq_of_beq_eq_true h3, h⟩
    · cases h
  · cases h
theorem rows_cells {g : G} {hp : Hp} {w : World} (hr : HR g hp w) {id : Nat} {r : Rg} {bk : Bk} (hl : g.lf id = .live r) (hb : hget hp id = some bk) (i0 n : Nat) (hin : i0 + n ≤ bk.es.length) :
    ∃ cs : List Value, cs.length = n * bk.sz ∧ (∀ j v, cs[j]? = some v → w.cell? (ad r.b (r.base + i0 * r.sz + j)) = some v) ∧ (∀ v, v ∈ cs → v.oneCell' = true) ∧
      (∀ (i j : Nat) (x : List V) (c : V), ((bk.es.drop i0).take n)[i]? = some x → x[j]? = some c → c.keep = true ∧ ∃ cv, cs[i * bk.sz + j]? = some cv ∧ RepA g c cv) ∧
      (∀ x, x ∈ (bk.es.drop i0).take n → x.length = bk.sz) := by
  obtain ⟨bk0, e0, z⟩ := hr.live id r hl
  rw [hb] at e0; cases e0
  have hrs := z.sz
  have hol : ((bk.es.drop i0).take n).length = n := by rw [List.length_take, List.length_drop]; omega
  have hgt : ∀ (k : Nat) (x : List V), ((bk.es.drop i0).take n)[k]? = some x → k < n ∧ bk.es[i0 + k]? = some x := by
    intro k x hk
    have := lt_of_get hk
    rw [List.getElem?_take_of_lt (by omega), List.getElem?_drop] at hk
    exact ⟨by omega, hk⟩
  let f : Nat → Nat → Value := fun k j => (w.cell? (ad r.b (r.base + i0 * r.sz + k * bk.sz + j))).getD undef
  have hcell : ∀ (k j : Nat) (x : List V) (c : V), ((bk.es.drop i0).take n)[k]? = some x → x[j]? = some c → c.keep = true ∧ w.cell? (ad r.b (r.base + i0 * r.sz + k * bk.sz + j)) = some (f k j) ∧ RepA g c (f k j) := by
    intro k j x c hx hc
    obtain ⟨k1, u, k2, k3⟩ := z.cont (i0 + k) j x c (hgt k x hx).2 hc
    have : r.base + (i0 + k) * r.sz + j = r.base + i0 * r.sz + k * bk.sz + j := by rw [Nat.add_mul, hrs]; omega
    rw [this] at k2
    refine ⟨k1, ?_, ?_⟩
    · simp only [f, k2, Option.getD_some]
    · simp only [f, k2, Option.getD_some]; exact k3
  have horow : ∀ x, x ∈ (bk.es.drop i0).take n → x.length = bk.sz := fun x hx => by
    obtain ⟨k, hk⟩ := List.getElem?_of_mem hx
    exact z.row x (List.mem_of_getElem? (hgt k x hk).2)
  obtain ⟨o1, o2⟩ := elems_cells horow hcell
  rw [hol] at o1 o2
  refine ⟨flatF f bk.sz n, flatF_len _ _ _, fun j v hv => by have := (o1 j v hv).1; rwa [ad_add] at this, fun v hv => ?_, fun i j x c hx hc => ?_, horow⟩
  · obtain ⟨k, hk⟩ := List.getElem?_of_mem hv
    exact oneC' (o1 k v hk).2
  · obtain ⟨k1, _, k3⟩ := hcell i j x c hx hc
    have hj := lt_of_get hc
    rw [horow x (List.mem_of_getElem? hx)] at hj
    exact ⟨k1, f i j, flatF_get (hgt i x hx).1 hj, k3⟩
theorem args3 {g : G} {a b c : V} {cs : Array Value} (h : Args g [a, b, c] cs) : ∃ x y z, cs = #[x, y, z] ∧ RepA g a x ∧ RepA g b y ∧ RepA g c z := by
  have h0 := h.rep 0 a rfl
  have h1 := h.rep 1 b rfl
  have h2 := h.rep 2 c rfl
  have hsz : cs.size = 3 := h.size
  refine ⟨cs.getD 0 undef, cs.getD 1 undef, cs.getD 2 undef, ?_, h0, h1, h2⟩
  apply Array.ext
  · rw [hsz]; rfl
  · intro i q1 q2
    have : i = 0 ∨ i = 1 ∨ i = 2 := by omega
    rcases this with rfl | rfl | rfl <;> simp [Array.getD, q1]
theorem MemR.ofHR {g : G} {hp : Hp} {w : World} (hgl : GlobW g hp w) (h : HR g hp w) : MemR ⟨g, hp, w, hgl⟩ g (fun _ => none) (fun _ => none) hp w :=
  ⟨h, ⟨fun t cs b x _ => by simp at x, fun t t' b _ h => by simp at h⟩, .refl _ _ _⟩
theorem MemR.renewRows {E : Ent} {g : G} {ν : Nat → Option Nat} {lo : Lo} {hp : Hp} {w : World} (h : MemR E g ν lo hp w) {id : Nat} {r : Rg} {bk : Bk} {es : List (List V)} {w' : World}
    (hl : g.lf id = .live r) (hlim : hp.lim ≤ id) (hw : MemR E g ν lo (hset hp id (some ⟨bk.sz, false, es⟩)) w') (i0 cap : Nat) (hcap : i0 + cap ≤ r.cap) (rows : List (List V)) (hle : rows.length ≤ cap) (hes : ∀ (k : Nat) (e : List V), rows[k]? = some e → es[i0 + k]? = some e) :
    MemR E (born (killed g id) hp ⟨r.b, r.base + i0 * r.sz, r.sz, cap⟩) ν lo (hnew (hset hp id none) ⟨bk.sz, false, rows⟩) w' := by
  have hgs := hget_hset hp id (some ⟨bk.sz, false, es⟩)
  have hren := hw.rename (id := id) (r := r) (bk := ⟨bk.sz, false, es⟩) hl (by rw [hgs, if_pos rfl]) rfl hlim i0 cap hcap (bk' := ⟨bk.sz, false, rows⟩) rfl rfl hle hes
  exact hren.hpExt (hp' := hnew (hset hp id none) ⟨bk.sz, false, rows⟩) rfl rfl (fun j => by
    rw [hget_hnew, hget_hnew, hget_hset, hget_hset, hget_hset]
    by_cases p : j = id
    · simp only [p, if_true]; rfl
    · simp only [p, if_false]; rfl)
theorem insL_len {α : Type} {i : Nat} {x : α} {l : List α} (h : i ≤ l.length) : (insL i x l).length = l.length + 1 := by
  unfold insL; simp; omega
theorem insL_tail {g : G} {sz i : Nat} {new : List V} {rows : List (List V)} {cs vs : List Value} (hvl : vs.length = sz) (hcl : cs.length = rows.length * sz) (hi : i ≤ rows.length) (hnl : new.length = sz) (hrow : ∀ x, x ∈ rows → x.length = sz)
    (h1 : ∀ (k j : Nat) (x : List V) (c : V), rows[k]? = some x → x[j]? = some c → c.keep = true ∧ ∃ cv, cs[k * sz + j]? = some cv ∧ RepA g c cv)
    (h2 : ∀ (j : Nat) (c : V), new[j]? = some c → c.keep = true ∧ ∃ cv, vs[j]? = some cv ∧ RepA g c cv) :
    ∀ (k j : Nat) (x : List V) (c : V), (new :: rows.drop i)[k]? = some x → x[j]? = some c → c.keep = true ∧ ∃ cv, (vs ++ cs.drop (i * sz))[k * sz + j]? = some cv ∧ RepA g c cv := by
  intro k j x c hx hc
  cases k with
  | zero =>
    simp only [List.getElem?_cons_zero, Option.some.injEq] at hx; subst hx
    obtain ⟨a, cv, b, d⟩ := h2 j c hc
    have := lt_of_get hc
    refine ⟨a, cv, ?_, d⟩
    rw [Nat.zero_mul, Nat.zero_add, List.getElem?_append_left (by omega)]; exact b
  | succ k =>
    rw [List.getElem?_cons_succ, List.getElem?_drop] at hx
    obtain ⟨a, cv, b, d⟩ := h1 _ j x c hx hc
    have e : (k + 1) * sz = sz + k * sz := by rw [Nat.add_mul, Nat.one_mul, Nat.add_comm]
    refine ⟨a, cv, ?_, d⟩
    rw [e, List.getElem?_append_right (by omega), hvl, List.getElem?_drop, show i * sz + (sz + k * sz + j - sz) = (i + k) * sz + j by rw [Nat.add_mul]; omega]
    exact b
theorem take_rep {g : G} {sz i : Nat} {rows tail : List (List V)} {cs vals : List Value} (hcl : cs.length = rows.length * sz) (hi : i ≤ rows.length) (hrow : ∀ x, x ∈ rows → x.length = sz)
    (h1 : ∀ (k j : Nat) (x : List V) (c : V), rows[k]? = some x → x[j]? = some c → c.keep = true ∧ ∃ cv, cs[k * sz + j]? = some cv ∧ RepA g c cv)
    (h2 : ∀ (k j : Nat) (x : List V) (c : V), tail[k]? = some x → x[j]? = some c → c.keep = true ∧ ∃ cv, vals[k * sz + j]? = some cv ∧ RepA g c cv) :
    ∀ (k j : Nat) (x : List V) (c : V), (rows.take i ++ tail)[k]? = some x → x[j]? = some c → c.keep = true ∧ RepA g c ((cs.take (i * sz) ++ vals).getD (k * sz + j) undef) := by
  intro k j x c hx hc
  have hol : (rows.take i).length = i := by rw [List.length_take]; omega
  have hmi := Nat.mul_le_mul_right sz hi
  have hcl2 : (cs.take (i * sz)).length = i * sz := by rw [List.length_take]; omega
  rw [List.getD_eq_getElem?_getD]
  by_cases p : k < i
  · rw [List.getElem?_append_left (by omega), List.getElem?_take_of_lt p] at hx
    obtain ⟨a, cv, b, d⟩ := h1 k j x c hx hc
    have hj := lt_of_get hc
    rw [hrow x (List.mem_of_getElem? hx)] at hj
    have hlt := idx_lt p hj
    rw [List.getElem?_append_left (by omega), List.getElem?_take_of_lt hlt, b]
    exact ⟨a, d⟩
  · rw [List.getElem?_append_right (by omega), hol] at hx
    obtain ⟨a, cv, b, d⟩ := h2 _ j x c hx hc
    have e : k * sz = i * sz + (k - i) * sz := by rw [← Nat.add_mul]; congr 1; omega
    rw [List.getElem?_append_right (by omega), hcl2, show k * sz + j - i * sz = (k - i) * sz + j by omega, b]
    exact ⟨a, d⟩
theorem unf_shape {n : Nat} {w : World} {b off : Nat} (h : Unf n w b) (hn : n ≠ 1) (hf : w.frozen? (ad b off) = false) : ∃ tA kA, w.shape? b = some (tA, kA) ∧ w.frozen? (ad b off) = false ∧ w.frozen? (ad b kA) = false := by
  obtain ⟨C, e, fr, hb, hfr⟩ := h
  have hfr : fr.1 = fr.2 := hfr.resolve_right fun q => hn q.1
  refine ⟨e, C.size, ?_, hf, ?_⟩
  · unfold World.shape?; rw [hb]
  · unfold World.frozen? ad
    obtain ⟨lo, hi⟩ := fr
    simp only at hfr
    simp only [hb]
    subst hfr
    simp
theorem grown_end {g : G} {hp : Hp} {w w' : World} {E : Ent} {ν : Nat → Option Nat} {lo : Lo} (h : MemR E g ν lo hp w) {sz G : Nat} {zs : Array Value} {vals : List Value} {es : List (List V)} (hw : Grow w w' (vals.toArray ++ zs)) (hle : es.length ≤ G) (hz : zs.size = (G - es.length) * sz)
    (hvl : vals.length = es.length * sz) (hrow : ∀ x, x ∈ es → x.length = sz) (hr : ∀ (i j : Nat) (x : List V) (c : V), es[i]? = some x → x[j]? = some c → c.keep = true ∧ RepA g c (vals.getD (i * sz + j) undef)) :
    ∃ g', MemR E g' ν lo (hnew hp ⟨sz, false, es⟩) w' ∧ RepA g' (.hs hp.next 0 es.length) (.slice (some (ad w.heap.size 0)) es.length G) := by
  have hrows := rows_grown (g := g) (sz := sz) (cap := G) (es := es) (vals := vals) (zs := zs) hvl hrow hle hz hr
  refine ⟨_, h.new hw hrows, ?_⟩
  exact .hs _ _ _ _ _ hle (.inr ⟨⟨w.heap.size, 0, sz, G⟩, by simp [born], .inr ⟨by simp [ad], by simp⟩⟩)
theorem SameW.mem {E : Ent} {g : G} {ν : Nat → Option Nat} {lo : Lo} {hp : Hp} {w W : World} (s : SameW w W) (h : MemR E g ν lo hp w) : MemR E g ν lo hp W := h.same s.heap s.os
set_option maxHeartbeats 1000000 in
theorem insert_ok {P : Program} {f : FuncId} {sz bytes : Nat} (hsz : 1 < sz) (hb0 : 0 < bytes) (hE : Enters P f) (hR : InsReal P f sz bytes) (call : Call) (L : Nat) : RunOK P call L f (insFn sz bytes) := by
  refine hand_ok hE (fun xs cs g hp w hgl hr ha hl3 v hp' hx => ?_) call L
  have small : ∀ n, n * bytes ≤ maxB → n ≤ 140737488355328 := fun n q => by
    have : n * 1 ≤ n * bytes := Nat.mul_le_mul_left _ hb0
    unfold maxB at q; omega
  unfold insR at hx
  split at hx
  · rename_i s i vv
    cases ho : oneRow sz vv hp with
    | none => rw [ho] at hx; simp at hx
    | some new =>
      rw [ho] at hx
      simp only at hx
      obtain ⟨id2, i2, b2, rfl, hg2, hf2, hs2, hrow⟩ := oneRow_inv ho
      obtain ⟨sv, iv, vv', rfl, ra, rb, rc⟩ := args3 ha
      have hiv := rb.it_inv
      subst hiv
      obtain ⟨a2, cap2, rfl, c1, c2⟩ := rc.hs_inv
      rcases c2 with c2 | ⟨r2, hl2, c2⟩
      · rw [hr.dead id2 c2] at hg2; cases hg2
      rcases c2 with c2 | ⟨rfl, c3⟩
      · omega
      obtain ⟨bk0, e0, z2⟩ := hr.live id2 r2 hl2
      rw [hg2] at e0; cases e0
      have hi2 : i2 < b2.es.length := lt_of_get hrow
      have hnl : new.length = sz := by rw [← hs2]; exact z2.row new (List.mem_of_getElem? hrow)
      obtain ⟨vs, v1, v2, v3, v4, v5⟩ := rows_cells hr hl2 hg2 i2 1 (by omega)
      have hrow1 : (b2.es.drop i2).take 1 = [new] := by
        rw [List.drop_eq_getElem_cons hi2, List.take_succ_cons, List.take_zero]
        rw [List.getElem?_eq_getElem hi2] at hrow
        cases hrow; rfl
      rw [hrow1, hs2] at v4
      rw [hs2, Nat.one_mul] at v1
      have hrs2 := z2.sz
      have hpos2 : 0 < r2.cap * r2.sz := Nat.mul_pos (by have := z2.len; omega) (by omega)
      have hoff2 : i2 * r2.sz < r2.cap * r2.sz := by have := Nat.mul_le_mul_right r2.sz (show i2 + 1 ≤ r2.cap by have := z2.len; omega); rw [Nat.add_mul] at this; omega
      have hsh := unf_shape (off := r2.base + i2 * r2.sz) (z2.blk hf2 hpos2) (by omega) (z2.rw hf2 (i2 * r2.sz) hoff2).2.1
      have h2 : ∀ (j : Nat) (c : V), new[j]? = some c → c.keep = true ∧ ∃ cv, vs[j]? = some cv ∧ RepA g c cv := fun j c hc => by
        have := v4 0 j new c rfl hc
        rwa [Nat.zero_mul, Nat.zero_add] at this
      split at hx
      · -- nil
        cases q1 : Nat.beq i 0 with
        | false => simp [q1] at hx
        | true =>
          cases q2 : Nat.ble bytes maxB with
          | false => simp [q1, q2] at hx
          | true =>
            have hi0 := Nat.eq_of_beq_eq_true q1
            simp only [q1, q2, cond_true, Option.some.injEq, renewed, Prod.mk.injEq] at hx
            have q2 := Nat.le_of_ble_eq_true q2
            subst hi0
            obtain ⟨rfl, rfl⟩ := hx
            have hsv := ra.ns_inv
            subst hsv
            refine ⟨rfl, (hR none 0 0 0 r2.b (r2.base + i2 * r2.sz) cap2 [] vs w (Nat.le_refl _) (Nat.le_refl _) (by omega) (by simpa using q2) (by simp) v1 (fun _ => rfl) (fun h => absurd h (by omega)) v2 hsh (by simp) v3).mono fun e w' h => ?_⟩
            rcases h with ⟨h, _⟩ | ⟨G, zs, g1, g2, rfl, g3⟩
            · omega
            · obtain ⟨g', m1, m2⟩ := grown_end (MemR.ofHR hgl hr) (sz := sz) (G := G) (zs := zs) (vals := vs) (es := [new]) (by simpa using g3) (by simpa using g1) (by simpa using g2) (by simpa using v1) (fun x hx => by simp at hx; subst hx; exact hnl) (fun i j x c hx hc => by
                obtain ⟨k1, cv, k2, k3⟩ := v4 i j x c hx hc
                refine ⟨k1, ?_⟩
                rw [List.getD_eq_getElem?_getD, k2]; exact k3)
              exact ⟨_, g', rfl, m1.hr, m1.evo, m2⟩
      · rename_i hns
        cases hsid : sameId s (.hs id2 i2 1) with
        | true => simp [hsid] at hx
        | false =>
          cases hown : ownRows sz s hp with
          | none => simp [hsid, hown] at hx
          | some rows =>
            cases q1 : Nat.ble i rows.length with
            | false => simp [hsid, hown, q1] at hx
            | true =>
              cases q2 : Nat.ble ((rows.length + 1) * bytes) maxB with
              | false => simp [hsid, hown, q1, q2] at hx
              | true =>
                simp only [hsid, hown, q1, q2, cond_true, cond_false, Option.some.injEq] at hx
                have q1 := Nat.le_of_ble_eq_true q1
                have q2 := Nat.le_of_ble_eq_true q2
                obtain ⟨id, i0, n, bk, rfl, hg, hfr, hlim, hbs, hin, hrows⟩ := ownRows_inv hown
                have hne : id ≠ id2 := fun e => by subst e; simp [sameId] at hsid
                obtain ⟨a, cap, rfl, d1, d2⟩ := ra.hs_inv
                rcases d2 with d2 | ⟨r, hl, d2⟩
                · rw [hr.dead id d2] at hg; cases hg
                obtain ⟨bk0, e0, z⟩ := hr.live id r hl
                rw [hg] at e0; cases e0
                obtain ⟨cs, k1, k2, k3, k4, k5⟩ := rows_cells hr hl hg i0 n hin
                rw [← hrows, hbs] at k4
                rw [← hrows, hbs] at k5
                rw [hbs] at k1
                have hn : rows.length = n := by rw [hrows, List.length_take, List.length_drop]; omega
                have hrs : r.sz = sz := z.sz.trans hbs
                have hmi := Nat.mul_le_mul_right sz q1
                have hlen := insL_len (x := new) q1
                have hov : ∀ (k : Nat) (v : Value), cs[k]? = some v → w.cell? (ad r.b (r.base + i0 * r.sz + k)) = some v := k2
                have hbase : 0 < cap → a = some (ad r.b (r.base + i0 * r.sz)) ∧ i0 + cap ≤ r.cap := fun q => d2.resolve_left (by omega)
                have hpos : 0 < cap → 0 < r.cap * r.sz := fun q => Nat.mul_pos (by have := (hbase q).2; omega) (by omega)
                have htail := insL_tail (g := g) v1 (by rw [hn]; exact k1) q1 hnl k5 k4 h2
                refine ⟨by cases hx; rfl, (hR a n cap i r2.b (r2.base + i2 * r2.sz) cap2 cs vs w (by omega) d1 (by have := small _ q2; omega) (by rw [← hn]; exact q2) k1 v1 (fun e => by
                    rcases Nat.eq_zero_or_pos cap with q | q
                    · exact q
                    · rw [(hbase q).1] at e; cases e) (fun q => ⟨r.b, r.base + i0 * r.sz, (hbase q).1, hr.sep id id2 r r2 bk b2 hne hl hl2 hg hg2 hfr hf2 (hpos q) hpos2, k2, fun j hj => ?_⟩) v2 hsh k3 v3).mono fun e w' h => ?_⟩
                · have hb : i0 * r.sz + j < r.cap * r.sz := by
                    have := Nat.mul_le_mul_right r.sz (hbase q).2
                    rw [Nat.add_mul, hrs] at this
                    rw [hrs]; omega
                  obtain ⟨⟨u, hu⟩, h2, _⟩ := z.rw hfr _ hb
                  rw [← Nat.add_assoc] at hu h2
                  exact ⟨by rw [hu]; rfl, h2⟩
                · simp only [renewed, Option.some.injEq, Prod.mk.injEq] at hx
                  obtain ⟨rfl, rfl⟩ := hx
                  rcases h with ⟨g0, rfl, b, off, hb, W, hW, rfl⟩ | ⟨G, zs, g1, g2, rfl, g3⟩
                  · have hcp : 0 < cap := by omega
                    obtain ⟨ha, hcr⟩ := hbase hcp
                    rw [ha] at hb
                    simp only [ad, Option.some.injEq, Addr.mk.injEq, and_true] at hb
                    obtain ⟨rfl, rfl⟩ := hb
                    have hmem := (hW.mem (MemR.ofHR hgl hr)).writeRows hl hg hfr hlim (i0 + i) (new :: rows.drop i) (vs ++ cs.drop (i * sz))
                      (by rw [hbs]; simp only [List.length_append, List.length_drop, List.length_cons, v1, k1, hn]; rw [Nat.add_mul, Nat.sub_mul]; omega) (by omega)
                      (by simp only [List.length_cons, List.length_drop]; omega) (fun x hx => by
                        rw [hbs]
                        rcases List.mem_cons.1 hx with rfl | hx
                        · exact hnl
                        · exact k5 x (List.mem_of_mem_drop hx)) (fun k j x c hx hc => by rw [hbs]; exact htail k j x c hx hc)
                    have eo : r.base + (i0 + i) * bk.sz = r.base + i0 * r.sz + i * sz := by rw [hrs, hbs, Nat.add_mul]; omega
                    rw [eo] at hmem
                    have hol : (bk.es.take (i0 + i)).length = i0 + i := by rw [List.length_take]; omega
                    have hren := (hW.mem (MemR.ofHR hgl hr)).renewRows hl hlim hmem i0 cap hcr (insL i new rows) (by omega) (fun k e hk => by
                      unfold insL at hk
                      have hti : (rows.take i).length = i := by rw [List.length_take]; omega
                      by_cases p : k < i
                      · rw [List.getElem?_append_left (by omega), List.getElem?_take_of_lt p, hrows, List.getElem?_take_of_lt (by omega), List.getElem?_drop] at hk
                        rw [List.getElem?_append_left (by omega), List.getElem?_take_of_lt (by omega)]; exact hk
                      · rw [List.getElem?_append_right (by omega), hti] at hk
                        rw [List.getElem?_append_right (by omega), hol, show i0 + k - (i0 + i) = k - i by omega]; exact hk)
                    rw [hbs] at hren
                    refine ⟨_, _, rfl, hren.hr, hren.evo, ?_⟩
                    rw [hlen, hn, ha]
                    exact .hs _ _ _ _ _ g0 (.inr ⟨⟨r.b, r.base + i0 * r.sz, r.sz, cap⟩, by simp [born], .inr ⟨by simp [ad], by simp⟩⟩)
                  · have htake := take_rep (g := g) (sz := sz) (i := i) (rows := rows) (tail := new :: rows.drop i) (cs := cs) (vals := vs ++ cs.drop (i * sz)) (by rw [hn]; exact k1) q1 k5 k4 htail
                    obtain ⟨g', m1, m2⟩ := grown_end ((MemR.ofHR hgl hr).kill hl hlim) (sz := sz) (G := G) (zs := zs) (vals := cs.take (i * sz) ++ (vs ++ cs.drop (i * sz))) (es := insL i new rows) g3 (by omega) (by rw [hlen, hn]; exact g2)
                      (by simp only [List.length_append, List.length_take, List.length_drop, hlen, v1, k1, hn]; rw [hn] at hmi; rw [Nat.add_mul]; omega)
                      (fun x hx => by
                        rcases List.mem_append.1 hx with hx | hx
                        · exact k5 x (List.mem_of_mem_take hx)
                        · rcases List.mem_cons.1 hx with rfl | hx
                          · exact hnl
                          · exact k5 x (List.mem_of_mem_drop hx))
                      (fun k j x c hx hc => ⟨(htake k j x c hx hc).1, (htake k j x c hx hc).2.mono (killed_le hl)⟩)
                    rw [hlen, hn] at m2
                    exact ⟨_, g', rfl, m1.hr, m1.evo, by rw [hlen, hn]; exact m2⟩
  · cases hx
end Ev
namespace Ev
variable [Glob]
open Go
variable {P : Program}
theorem run_copy_gen (w : World) (t tx ty el : TypeId) (sz : Nat) (hu : P.underlying t = some (.slice el)) (hs : ∀ w, (Go.sizeOf el).run P w = .ok sz w) (b o dLen dCap : Nat) (sa : Option Addr) (sLen sCap m : Nat) (hm : m = Nat.min sLen dLen) (vals : List Value)
    (hsrc : (Builtin.firstCells sz m (.slice sa sLen sCap)).run P w = .ok vals.toArray w) (hex : ∀ j, j < vals.length → (w.cell? ⟨b, o + j, none⟩).isSome = true) (hfz : ∀ j, j < vals.length → w.frozen? ⟨b, o + j, none⟩ = false) (h1 : ∀ v, v ∈ vals → v.oneCell' = true) :
    (Builtin.copy_ #[t, tx] ty #[.slice (some ⟨b, o, none⟩) dLen dCap, .slice sa sLen sCap]).run P w = .ok (goInt m) (w.setCells b o vals) := by
  have hst := run_storeCells_cells (P := P) b o vals 0 w (by simpa using hex) (by simpa using hfz) h1
  simp only [Nat.add_zero] at hst
  have hlen : ∀ w : World, (Builtin.lenOf (.slice sa sLen sCap)).run P w = .ok sLen w := fun w => rfl
  subst hm
  simp only [Builtin.copy_]
  simp only [List.getElem?_toArray, List.getElem?_cons_zero, List.getElem?_cons_succ, Sem.run_bind, run_underlying hu, Result.andThen_ok, hlen, hs, hsrc, hst, Sem.run_pure]
theorem over_at {α : Type} (a x d : List α) : over a.length x (a ++ d) = a ++ (x ++ d.drop x.length) := by
  rw [over_eq]
  rw [List.take_left, List.drop_append, List.drop_of_length_le (by omega), List.nil_append, Nat.add_sub_cancel_left]
theorem over_cons {α : Type} (o : Nat) (v : α) (r l : List α) (h : o < l.length) : over o (v :: r) l = over (o + 1) r (l.set o v) := by
  simp only [over_eq]
  rw [List.length_cons, show o + (r.length + 1) = o + 1 + r.length by omega]
  rw [List.take_succ_eq_append_getElem (by rw [List.length_set]; exact h), List.getElem_set_self, List.take_set_of_le (by omega), List.append_assoc, List.drop_set_of_lt (by omega)]
  rfl
theorem push_modify {α : Type} (xs : Array α) (x : α) (f : α → α) : (xs.push x).modify xs.size f = xs.push (f x) := by
  apply Array.ext_getElem?
  intro i
  rw [Array.getElem?_modify, Array.getElem?_push, Array.getElem?_push]
  by_cases e : xs.size = i
  · subst e; simp
  · simp only [e, if_false]
    rw [if_neg (fun q => e q.symm), if_neg (fun q => e q.symm)]
theorem Grow.setNew {w : World} {gn : Nat} : ∀ (vs : List Value) (o : Nat) (w' : World) (arr : Array Value), Grow w w' arr gn → o + vs.length ≤ arr.size → Grow w (setCs w' w.heap.size o vs) (over o vs arr.toList).toArray gn
  | [], o, w', arr, h, _ => by
    have e : (over o ([] : List Value) arr.toList).toArray = arr := by rw [over_eq]; simp
    rw [e]; exact h
  | v :: r, o, w', arr, h, hb => by
    simp only [List.length_cons] at hb
    simp only [setCs]
    have h1 : Grow w (w'.setCell (ad w.heap.size o) v) (arr.setIfInBounds o v) gn := by
      obtain ⟨e, fr, hh, hf⟩ := h.ex
      refine ⟨⟨e, fr, ?_, by rw [Array.size_setIfInBounds]; exact hf⟩, h.os⟩
      unfold World.setCell ad
      simp only [hh]
      rw [push_modify]; rfl
    have := Grow.setNew r (o + 1) _ _ h1 (by rw [Array.size_setIfInBounds]; omega)
    rw [over_cons o v r arr.toList (by rw [Array.length_toList]; omega)]
    have e : (arr.setIfInBounds o v).toList = arr.toList.set o v := by simp
    rw [e] at this
    exact this
theorem ins_row {cs vs : List Value} {zs zs' : Array Value} {n i sz : Nat} (hi : i ≤ n) (hcl : cs.length = n * sz) (hvl : vs.length = sz) (hz : zs.size = (n + 1 - i) * sz) :
    over ((i + 1) * sz) (cs.drop (i * sz)) (over (i * sz) vs ((cs.take (i * sz)).toArray ++ zs ++ zs').toList) = (cs.take (i * sz) ++ (vs ++ cs.drop (i * sz))) ++ zs'.toList := by
  have hmi := Nat.mul_le_mul_right sz hi
  have h1 : (cs.take (i * sz)).length = i * sz := by rw [List.length_take]; omega
  have e0 : ((cs.take (i * sz)).toArray ++ zs ++ zs').toList = cs.take (i * sz) ++ (zs.toList ++ zs'.toList) := by simp
  rw [e0]
  have e1 := over_at (cs.take (i * sz)) vs (zs.toList ++ zs'.toList)
  rw [h1] at e1
  rw [e1, ← List.append_assoc]
  have h2 : (cs.take (i * sz) ++ vs).length = (i + 1) * sz := by rw [List.length_append, h1, hvl, Nat.add_mul]; omega
  have e2 := over_at (cs.take (i * sz) ++ vs) (cs.drop (i * sz)) ((zs.toList ++ zs'.toList).drop vs.length)
  rw [h2] at e2
  rw [e2, List.drop_drop]
  have h3 : vs.length + (cs.drop (i * sz)).length = zs.toList.length := by
    rw [List.length_drop, hcl, hvl, Array.length_toList, hz, show n + 1 - i = (n - i) + 1 by omega, Nat.add_mul, Nat.sub_mul]; omega
  rw [h3, List.drop_left]
  simp only [List.append_assoc]
theorem cell_shape {w : World} {b o : Nat} (h : (w.cell? ⟨b, o, none⟩).isSome = true) : ∃ tB kB, w.shape? b = some (tB, kB) ∧ kB ≠ 0 := by
  unfold World.cell? at h
  unfold World.shape?
  cases hb : w.heap[b]? with
  | none => simp [hb] at h
  | some ob =>
    cases ob with
    | cells c e fr =>
      refine ⟨e, c.size, rfl, fun q => ?_⟩
      simp only [hb] at h
      rw [Array.getElem?_eq_none (by omega)] at h
      simp at h
    | _ => simp [hb] at h
theorem ins_real {P : Program} {f : FuncId} {sz bytes el : Nat} (hsz : 0 < sz)
    (shift : ∀ (b off n c i vb voff vc : Nat) (cs vs : List Value) (w : World), i < n → n + 1 ≤ c → n + 1 ≤ 140737488355328 → b ≠ vb → cs.length = n * sz → vs.length = sz → (∀ j v, cs[j]? = some v → w.cell? ⟨b, off + j, none⟩ = some v) →
      (∀ j, j < (n + 1) * sz → (w.cell? ⟨b, off + j, none⟩).isSome = true) → (∀ j, j < (n + 1) * sz → w.frozen? ⟨b, off + j, none⟩ = false) → (∀ j v, vs[j]? = some v → w.cell? ⟨vb, voff + j, none⟩ = some v) → (∀ v ∈ cs, v.oneCell' = true) → (∀ v ∈ vs, v.oneCell' = true) →
      ∀ (tA tB : TypeId) (kA kB : Nat), w.shape? vb = some (tA, kA) → w.shape? b = some (tB, kB) → kB ≠ 0 → w.frozen? ⟨vb, voff, none⟩ = false → w.frozen? ⟨vb, kA, none⟩ = false →
      Calls P f #[.slice (some ⟨b, off, none⟩) n c, .int .i64 i, .slice (some ⟨vb, voff, none⟩) 1 vc] w fun e w' =>
        e = .returned (.slice (some ⟨b, off, none⟩) (n + 1) c) ∧ w' = (w.drew.setCells b (off + (i + 1) * sz) (cs.drop (i * sz))).setCells b (off + i * sz) vs)
    (endRoom : ∀ (b off n c vb voff vc : Nat) (vs : List Value) (w : World), n + 1 ≤ c → vs.length = sz → (∀ j, j < sz → (w.cell? ⟨b, off + n * sz + j, none⟩).isSome = true) → (∀ j, j < sz → w.frozen? ⟨b, off + n * sz + j, none⟩ = false) →
      (∀ j v, vs[j]? = some v → w.cell? ⟨vb, voff + j, none⟩ = some v) → (∀ v ∈ vs, v.oneCell' = true) →
      Calls P f #[.slice (some ⟨b, off, none⟩) n c, .int .i64 n, .slice (some ⟨vb, voff, none⟩) 1 vc] w fun e w' =>
        e = .returned (.slice (some ⟨b, off, none⟩) (n + 1) c) ∧ w' = w.setCells b (off + n * sz) vs)
    (endGrow : ∀ (base : Option Addr) (n c vb voff vc : Nat) (cs vs : List Value) (w : World), n ≤ c → c < n + 1 → n + 1 ≤ 140737488355328 → (n + 1) * bytes ≤ 140737488355328 → cs.length = n * sz → vs.length = sz → (n ≠ 0 → base ≠ none) →
      (∀ a, base = some a → ∀ j v, cs[j]? = some v → w.cell? (a.add j) = some v) → (∀ j v, vs[j]? = some v → w.cell? ⟨vb, voff + j, none⟩ = some v) → (∀ v ∈ vs, v.oneCell' = true) →
      ∃ zs : Array Value, zs.size = (grownCap w (n + 1) c el - (n + 1)) * sz ∧ Calls P f #[.slice base n c, .int .i64 n, .slice (some ⟨vb, voff, none⟩) 1 vc] w fun e w' =>
        e = .returned (.slice (some ⟨w.heap.size, 0, none⟩) (n + 1) (grownCap w (n + 1) c el)) ∧ w' = w.drew.alloc (.cells ((cs ++ vs).toArray ++ zs) el))
    (midGrow : ∀ (b off n c i vb voff vc : Nat) (cs vs : List Value) (w : World), i < n → n ≤ c → c < n + 1 → n + 1 ≤ 140737488355328 → (n + 1) * bytes ≤ 140737488355328 → cs.length = n * sz → vs.length = sz →
      (∀ j v, cs[j]? = some v → w.cell? ⟨b, off + j, none⟩ = some v) → (∀ j v, vs[j]? = some v → w.cell? ⟨vb, voff + j, none⟩ = some v) → (∀ v ∈ cs, v.oneCell' = true) → (∀ v ∈ vs, v.oneCell' = true) →
      ∃ zs zs' : Array Value, zs.size = (n + 1 - i) * sz ∧ zs'.size = (grownCap w (n + 1) c el - (n + 1)) * sz ∧ Calls P f #[.slice (some ⟨b, off, none⟩) n c, .int .i64 i, .slice (some ⟨vb, voff, none⟩) 1 vc] w fun e w' =>
        e = .returned (.slice (some ⟨w.heap.size, 0, none⟩) (n + 1) (grownCap w (n + 1) c el)) ∧
        w' = (((w.alloc (.cells ((cs.take (i * sz)).toArray ++ zs ++ zs') el)).drew.setCells w.heap.size (i * sz) vs).drew).setCells w.heap.size ((i + 1) * sz) (cs.drop (i * sz))) :
    InsReal P f sz bytes := by
  intro base n c i vb voff vc cs vs w hin hnc hn hbig hcl hvl hnil hbase hvs hsh h1c h1v
  obtain ⟨tA, kA, s1, s2, s3⟩ := hsh
  unfold maxB at hbig
  by_cases hroom : n + 1 ≤ c
  · obtain ⟨b, off, rfl, hne, hcs, hsp⟩ := hbase (by omega)
    have hmr := Nat.mul_le_mul_right sz hroom
    by_cases he : i = n
    · subst he
      have hme : (i + 1) * sz = i * sz + sz := by rw [Nat.add_mul, Nat.one_mul]
      refine (endRoom b off i c vb voff vc vs w hroom hvl (fun j hj => by rw [Nat.add_assoc]; exact (hsp _ (by omega)).1) (fun j hj => by rw [Nat.add_assoc]; exact (hsp _ (by omega)).2) hvs h1v).mono fun e w' h => ?_
      obtain ⟨rfl, rfl⟩ := h
      refine .inl ⟨hroom, rfl, b, off, rfl, w, ⟨rfl, rfl, rfl⟩, ?_⟩
      rw [List.drop_of_length_le (by omega), List.append_nil, setCs_eq]
    · have hlt : i < n := by omega
      obtain ⟨tB, kB, q1, q2⟩ := cell_shape (hsp 0 (Nat.mul_pos (by omega) hsz)).1
      refine (shift b off n c i vb voff vc cs vs w hlt hroom hn hne hcl hvl hcs (fun j hj => (hsp _ (by omega)).1) (fun j hj => (hsp _ (by omega)).2) hvs h1c h1v tA tB kA kB s1 q1 q2 s2 s3).mono fun e w' h => ?_
      obtain ⟨rfl, rfl⟩ := h
      refine .inl ⟨hroom, rfl, b, off, rfl, w.drew, ⟨rfl, rfl, rfl⟩, ?_⟩
      rw [← setCs_two, setCs_eq, setCs_eq, hvl, show off + i * sz + sz = off + (i + 1) * sz by rw [Nat.add_mul]; omega]
  · have hroom : c < n + 1 := by omega
    by_cases he : i = n
    · subst he
      obtain ⟨zs, z1, z2⟩ := endGrow base i c vb voff vc cs vs w hnc hroom hn hbig hcl hvl (fun q e => by have := hnil e; omega) (fun a ha j v hj => by
        have hi0 : 0 < i := by
          rcases Nat.eq_zero_or_pos i with q | q
          · subst q; rw [Nat.zero_mul] at hcl; rw [List.length_eq_zero_iff.1 hcl] at hj; simp at hj
          · exact q
        obtain ⟨b, off, rfl, _, hcs, _⟩ := hbase (by omega)
        cases ha
        rw [ad_add]; exact hcs j v hj) hvs h1v
      refine z2.mono fun e w' h => ?_
      obtain ⟨rfl, rfl⟩ := h
      refine .inr ⟨_, zs, grownCap_ge w _ _ _, z1, rfl, ?_⟩
      rw [List.take_of_length_le (by omega), List.drop_of_length_le (by omega), List.append_nil]
      exact Grow.drew (grow_alloc _ _ _)
    · have hlt : i < n := by omega
      obtain ⟨b, off, rfl, hne, hcs, hsp⟩ := hbase (by omega)
      obtain ⟨zs, zs', z1, z2, z3⟩ := midGrow b off n c i vb voff vc cs vs w hlt hnc hroom hn hbig hcl hvl hcs hvs h1c h1v
      refine z3.mono fun e w' h => ?_
      obtain ⟨rfl, rfl⟩ := h
      refine .inr ⟨_, zs', grownCap_ge w _ _ _, z2, rfl, ?_⟩
      have hmi := Nat.mul_le_mul_right sz (show i + 1 ≤ n by omega)
      have hme : (i + 1) * sz = i * sz + sz := by rw [Nat.add_mul, Nat.one_mul]
      have hzs : i * sz + zs.size = n * sz + sz := by rw [z1, show n + 1 - i = (n - i) + 1 by omega, Nat.add_mul, Nat.sub_mul]; omega
      have g0 := grow_alloc w ((cs.take (i * sz)).toArray ++ zs ++ zs') el
      have gsz : ((cs.take (i * sz)).toArray ++ zs ++ zs').size = i * sz + zs.size + zs'.size := by simp; omega
      have dr : ∀ {W arr}, Grow w W arr → Grow w W.drew arr := fun h => ⟨h.ex, h.os⟩
      have g1 := Grow.setNew vs (i * sz) _ _ (dr g0) (by rw [gsz]; omega)
      have g2 := Grow.setNew (cs.drop (i * sz)) ((i + 1) * sz) _ _ (dr g1) (by
        simp only [List.size_toArray, over_eq, List.length_append, List.length_take, List.length_drop, Array.length_toList, gsz]
        omega)
      rw [setCs_eq, setCs_eq] at g2
      have e := ins_row (zs := zs) (zs' := zs') (Nat.le_of_lt hlt) hcl hvl z1
      simp only at g2
      have e2 : (over ((i + 1) * sz) (cs.drop (i * sz)) (over (i * sz) vs ((cs.take (i * sz)).toArray ++ zs ++ zs').toList)).toArray = (cs.take (i * sz) ++ (vs ++ cs.drop (i * sz))).toArray ++ zs' := by
        rw [e]; simp
      rw [← e2]
      exact g2
end Ev
namespace Ev
variable [Glob]
open Go
def grdW0 (w : World) (n : Nat) : World := ((w.setCell ⟨n, 0, none⟩ (.int .i64 0)).setCell ⟨n, 1, none⟩ (.int .i64 0)).setCell ⟨n + 1, 0, none⟩ (.bool false)
def grdW (ft : TypeId) (w : World) (n : Nat) (a b : Int) : World :=
  (((((w.alloc (.cells #[.int .i64 0, .int .i64 0] ft)).setCell ⟨w.heap.size, 0, none⟩ (.int .i64 a)).setCell ⟨w.heap.size, 1, none⟩ (.int .i64 b)).setCell ⟨n, 0, none⟩ (.int .i64 a)).setCell ⟨n, 1, none⟩ (.int .i64 b)).setCell ⟨n + 1, 0, none⟩ (.bool true)
def GrdReal (P : Program) (f : FuncId) (ft bt : TypeId) : Prop :=
  ∀ (a1 a2 : Array Value) (w : World) (R : Ending → World → Prop) (f' : FuncId), (∀ args w, (callFunc f' args).run P w = .ok (.enter f' args) w) →
    (Calls P f' (a1 ++ a2) ((w.alloc (.cells #[.int .i64 0, .int .i64 0] ft)).alloc (.cells #[.bool false] bt)) fun e w' =>
      ((∃ x0, w'.cell? ⟨w.heap.size, 0, none⟩ = some x0) ∧ (∃ x1, w'.cell? ⟨w.heap.size, 1, none⟩ = some x1) ∧ (∃ y, w'.cell? ⟨w.heap.size + 1, 0, none⟩ = some y) ∧
        w'.frozen? ⟨w.heap.size, 0, none⟩ = false ∧ w'.frozen? ⟨w.heap.size, 1, none⟩ = false ∧ w'.frozen? ⟨w.heap.size + 1, 0, none⟩ = false) ∧
      ((∃ cv, e = .returned cv ∧ R (.returned (.tuple #[.agg #[.int .i64 0, .int .i64 0], .bool false])) (grdW0 w' w.heap.size)) ∨
       (∃ a b, e = .panicked [{ v := .iface ft (.agg #[.int .i64 a, .int .i64 b]), recovered := false }] ∧ R (.returned (.tuple #[.agg #[.int .i64 a, .int .i64 b], .bool true])) (grdW ft w' w.heap.size a b)))) →
    Calls P f #[.func (.func f') a1 a2] w R
def grdEnd (ft : TypeId) (v : V) : Option (Int × Int) :=
  match v with
  | .fc t (.ag [.it .i64 a, .it .i64 b]) => bif Nat.beq t ft then some (a, b) else none
  | _ => none
def grdFn (ft : TypeId) : Ev.Fn := ⟨[.c .one], [.g [.one, .one], .c .one], .rw, [.tmp 0], fun st k =>
  match st.tm 0 with
  | .fn f first cap => .call false f (first ++ cap) st.hp fun c => match c with
    | .ret _ hp => k (.ret ⟨upd st.tm 0 (.tu [.ag [i64 0, i64 0], .bo false]), st.lo, hp⟩)
    | .pan v hp => match grdEnd ft v with
      | some (a, b) => k (.ret ⟨upd st.tm 0 (.tu [.ag [i64 a, i64 b], .bo true]), st.lo, hp⟩)
      | none => .bad
    | .bad => .bad
  | _ => .bad⟩
theorem grdEnd_inv {ft : TypeId} {v : V} {a b : Int} (h : grdEnd ft v = some (a, b)) : v = .fc ft (.ag [.it .i64 a, .it .i64 b]) := by
  unfold grdEnd at h
  split at h
  · rename_i t a' b'
    cases q : Nat.beq t ft with
    | false => simp [q] at h
    | true =>
      simp only [q, cond_true, Option.some.injEq, Prod.mk.injEq] at h
      obtain ⟨rfl, rfl⟩ := h
      rw [Nat.eq_of_beq_eq_true q]
  · cases h
theorem pair_rep {g : G} (a b : Int) : RepA g (.ag [.it .i64 a, .it .i64 b]) (.agg #[.int .i64 a, .int .i64 b]) := by
  refine .ag _ _ rfl (fun c hc => ?_) fun i c hc => ?_
  · simp only [List.mem_cons, List.not_mem_nil, or_false] at hc
    rcases hc with rfl | rfl <;> rfl
  · match i, hc with
    | 0, hc => cases hc; exact .c _ _ (.it _ _)
    | 1, hc => cases hc; exact .c _ _ (.it _ _)
    | i + 2, hc => simp at hc
theorem grd_rep {g : G} (a b : Int) (t : Bool) : RepA g (.tu [.ag [.it .i64 a, .it .i64 b], .bo t]) (.tuple #[.agg #[.int .i64 a, .int .i64 b], .bool t]) := by
  refine .tu _ _ rfl (fun c hc => ?_) fun i c hc => ?_
  · simp only [List.mem_cons, List.not_mem_nil, or_false] at hc
    rcases hc with rfl | rfl <;> rfl
  · match i, hc with
    | 0, hc => cases hc; exact pair_rep a b
    | 1, hc => cases hc; exact .c _ _ (.bo _)
    | i + 2, hc => simp at hc
theorem pair_box {g : G} (a b : Int) (j : Nat) (c : V) (hc : [V.it .i64 a, V.it .i64 b][j]? = some c) : RepA g c ((#[.int .i64 a, .int .i64 b] : Array Value).getD j undef) := by
  match j, hc with
  | 0, hc => cases hc; exact .c _ _ (.it _ _)
  | 1, hc => cases hc; exact .c _ _ (.it _ _)
  | i + 2, hc => simp at hc
theorem pair_vals {g : G} (a b : Int) (j : Nat) (c : V) (hc : [V.it .i64 a, V.it .i64 b][j]? = some c) : ∃ cv, [Value.int .i64 a, Value.int .i64 b][j]? = some cv ∧ RepA g c cv := by
  match j, hc with
  | 0, hc => cases hc; exact ⟨_, rfl, .c _ _ (.it _ _)⟩
  | 1, hc => cases hc; exact ⟨_, rfl, .c _ _ (.it _ _)⟩
  | i + 2, hc => simp at hc
theorem pair_keep (a b : Int) (c : V) (hc : c ∈ [V.it .i64 a, V.it .i64 b]) : c.keep = true := by
  simp only [List.mem_cons, List.not_mem_nil, or_false] at hc
  rcases hc with rfl | rfl <;> rfl
theorem grd_cells {E : Ent} {g : G} {ν : Nat → Option Nat} {lo : Lo} {hp : Hp} {w : World} {n : Nat} (h : MemR E g ν lo hp w) {c0 c1 c2 : V} (l0 : lo 0 = some [c0, c1]) (l1 : lo 1 = some [c2]) (n0 : ν 0 = some n) (n1 : ν 1 = some (n + 1)) :
    (∃ x0, w.cell? ⟨n, 0, none⟩ = some x0) ∧ (∃ x1, w.cell? ⟨n, 1, none⟩ = some x1) ∧ (∃ y, w.cell? ⟨n + 1, 0, none⟩ = some y) ∧
        w.frozen? ⟨n, 0, none⟩ = false ∧ w.frozen? ⟨n, 1, none⟩ = false ∧ w.frozen? ⟨n + 1, 0, none⟩ = false := by
  have b0 := (h.lo.box 0 _ _ l0 n0).1
  have b1 := (h.lo.box 1 _ _ l1 n1).1
  obtain ⟨_, ⟨x0, e0, _⟩, f0⟩ := b0 0 c0 rfl
  obtain ⟨_, ⟨x1, e1, _⟩, f1⟩ := b0 1 c1 rfl
  obtain ⟨_, ⟨x2, e2, _⟩, f2⟩ := b1 0 c2 rfl
  exact ⟨⟨x0, e0⟩, ⟨x1, e1⟩, ⟨x2, e2⟩, f0, f1, f2⟩
theorem grd_set {E : Ent} {g : G} {ν : Nat → Option Nat} {lo : Lo} {hp : Hp} {w : World} {n : Nat} (h : MemR E g ν lo hp w) {c0 c1 c2 : V} (l0 : lo 0 = some [c0, c1]) (l1 : lo 1 = some [c2]) (n0 : ν 0 = some n) (n1 : ν 1 = some (n + 1)) (a b : Int) (t : Bool) :
    ∃ lo', MemR E g ν lo' hp (((w.setCell ⟨n, 0, none⟩ (.int .i64 a)).setCell ⟨n, 1, none⟩ (.int .i64 b)).setCell ⟨n + 1, 0, none⟩ (.bool t)) := by
  have m1 := h.setBox l0 n0 0 [V.it .i64 a, V.it .i64 b] [.int .i64 a, .int .i64 b] (by simp) rfl (pair_keep a b) (pair_vals a b)
  have m2 := m1.setBox (t := 1) (b := n + 1) (cs := [c2]) (by simp only [lset]; exact l1) n1 0 [V.bo t] [.bool t] (by simp) rfl (fun x hx => by simp at hx; subst hx; rfl) (fun j x hx => by
    match j, hx with
    | 0, hx => cases hx; exact ⟨_, rfl, .c _ _ (.bo _)⟩
    | i + 1, hx => simp at hx)
  exact ⟨_, m2⟩
theorem grd_ok {P : Program} {f : FuncId} {ft bt : TypeId} (hE : Enters P f) (hG : GrdReal P f ft bt) (call : Call) (L : Nat) (hC : CallOK P call) : RunOK P call L f (grdFn ft) := by
  intro xs cs g hp w hgl hr ha
  unfold runF
  cases hlen : Nat.beq xs.length (grdFn ft).ps.length with
  | false => trivial
  | true =>
    have hl2 : xs.length = 1 := Nat.eq_of_beq_eq_true hlen
    simp only [cond_true]
    obtain ⟨x, rfl⟩ : ∃ x, xs = [x] := List.length_eq_one_iff.1 hl2
    have hsz : cs.size = 1 := ha.size
    have hx := ha.rep 0 x rfl
    have hcs : cs = #[cs.getD 0 undef] := by
      apply Array.ext
      · simp [hsz]
      · intro i h1 h2
        have : i = 0 := by omega
        subst this
        simp [Array.getD, hsz]
    cases x with
    | fn f' first cap =>
      obtain ⟨a1, a2, e1, e2, e3, e4, e5, e6, e7⟩ := hx.fn_inv
      rw [e1] at hcs
      subst hcs
      have e : bodyD (grdFn ft) [.fn f' first cap] hp = .call false f' (first ++ cap) hp fun c => match c with
          | .ret _ hp' => .done (.ret ⟨fun _ => .tu [.ag [i64 0, i64 0], .bo false], fun _ => none, hp'⟩)
          | .pan v hp' => match grdEnd ft v with
            | some (a, b) => .done (.ret ⟨fun _ => .tu [.ag [i64 a, i64 b], .bo true], fun _ => none, hp'⟩)
            | none => .bad
          | .bad => .bad := by
        simp only [bodyD, grdFn, argT, List.getD, List.getElem?_cons_zero, Option.getD_some]
        refine congrArg (D.call false f' (first ++ cap) hp) (funext fun c => ?_)
        cases c with
        | bad => rfl
        | ret v hp' => rfl
        | pan v hp' =>
          cases hg : grdEnd ft v with
          | none => simp only [hg]
          | some q => simp only [hg]; rfl
      rw [e]
      simp only [run, forceL_eq]
      have M0 := MemR.ofHR hgl hr
      have M1 := M0.box (grow_alloc w #[.int .i64 0, .int .i64 0] ft) (cs := [i64 0, i64 0]) rfl (pair_keep 0 0) (pair_box 0 0) 0
      have M2 := M1.box (grow_alloc _ #[.bool false] bt) (cs := [.bo false]) rfl (fun c hc => by simp at hc; subst hc; rfl) (fun j c hc => by
        match j, hc with
        | 0, hc => cases hc; exact .c _ _ (.bo _)
        | i + 1, hc => simp at hc) 1
      have hsz1 : (w.alloc (.cells #[.int .i64 0, .int .i64 0] ft)).heap.size = w.heap.size + 1 := (grow_alloc w #[.int .i64 0, .int .i64 0] ft).size
      rw [hsz1] at M2
      have hargs : Args g (first ++ cap) (a1 ++ a2) := by
        refine ⟨by simp [e2, e3], fun x hx => ?_, fun i x hx => ?_⟩
        · rcases List.mem_append.1 hx with q | q
          · exact e4 x q
          · exact e5 x q
        · rcases Nat.lt_or_ge i first.length with q | q
          · rw [List.getElem?_append_left q] at hx
            have := e6 i x hx
            simp only [Array.getD_eq_getD_getElem?] at this ⊢
            rw [Array.getElem?_append_left (by omega)]; exact this
          · rw [List.getElem?_append_right q] at hx
            have := e7 _ x hx
            simp only [Array.getD_eq_getD_getElem?] at this ⊢
            rw [Array.getElem?_append_right (by omega), e2]; exact this
      have hc := hC false f' (first ++ cap) (a1 ++ a2) _ g _ _ hp _ M2 hargs
      cases hq : call false f' (first ++ cap) hp with
      | bad => trivial
      | ret v hp' =>
        rw [hq] at hc
        obtain ⟨h1, h2⟩ := hc
        simp only [run, crOf]
        refine ⟨hE, hG a1 a2 w _ f' (fun args w => run_callFunc h1) (h2.mono fun en w' q => ?_)⟩
        obtain ⟨cv, g', rfl, m, le, _, _⟩ := q
        refine ⟨grd_cells m (c0 := i64 0) (c1 := i64 0) (c2 := .bo false) rfl rfl rfl rfl, .inl ⟨cv, rfl, ?_⟩⟩
        obtain ⟨lo', m'⟩ := grd_set m (c0 := i64 0) (c1 := i64 0) (c2 := .bo false) rfl rfl rfl rfl 0 0 false
        exact ⟨_, g', rfl, m'.hr, m'.evo, grd_rep 0 0 false, rfl⟩
      | pan v hp' =>
        rw [hq] at hc
        obtain ⟨h1, h2⟩ := hc
        cases hv : grdEnd ft v with
        | none => simp only [hv, run, crOf]
        | some q =>
          obtain ⟨a, b⟩ := q
          have hve := grdEnd_inv hv
          subst hve
          simp only [hv, run, crOf]
          refine ⟨hE, hG a1 a2 w _ f' (fun args w => run_callFunc h1) (h2.mono fun en w' q => ?_)⟩
          obtain ⟨cv, g', rfl, m, le, hrep, _⟩ := q
          obtain ⟨x, rfl, _, hrx⟩ := hrep.fc_inv
          obtain ⟨arr, rfl, k1, k2, k3⟩ := hrx.ag_inv
          have r0 := (k3 0 _ rfl).it_inv
          have r1 := (k3 1 _ rfl).it_inv
          have harr : arr = #[.int .i64 a, .int .i64 b] := by
            apply Array.ext
            · simp [k1]
            · intro i h1 h2
              simp at h2
              match i, h2 with
              | 0, _ => simpa [Array.getD, k1] using r0
              | 1, _ => simpa [Array.getD, k1] using r1
          subst harr
          refine ⟨grd_cells m (c0 := i64 0) (c1 := i64 0) (c2 := .bo false) rfl rfl rfl rfl, .inr ⟨a, b, rfl, ?_⟩⟩
          have n1 := m.box (grow_alloc w' #[.int .i64 0, .int .i64 0] ft) (cs := [i64 0, i64 0]) rfl (pair_keep 0 0) (pair_box 0 0) 2
          have n2 := n1.setBox (t := 2) (b := w'.heap.size) (cs := [i64 0, i64 0]) rfl rfl 0 [V.it .i64 a, V.it .i64 b] [.int .i64 a, .int .i64 b] (by simp) rfl (pair_keep a b) (pair_vals a b)
          obtain ⟨lo', m'⟩ := grd_set n2 (c0 := i64 0) (c1 := i64 0) (c2 := .bo false) (n := w.heap.size) rfl rfl rfl rfl a b true
          exact ⟨_, g', rfl, m'.hr, m'.evo, grd_rep a b true, rfl⟩
    | _ => trivial
end Ev