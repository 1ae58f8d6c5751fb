import Derived.Test.YtgofadnggipkpaaEvInsAll
namespace Ev
open Go

abbrev FF := (V → St → D) → (V → St → D) → D

/-- one piece of a run at two states: it fails, or gives one value at both and changes neither -/
def EO (call : Call) (L : Nat) (st st' : St) (F F' : FF) : Prop :=
  Bad call L F ∨ ∃ v, (∀ k kp, run call L (F k kp) = run call L (k v st)) ∧ (∀ k kp, run call L (F' k kp) = run call L (k v st'))

section
variable {call : Call} {L : Nat} {st st' : St}

theorem EO.bad {F F' : FF} (h : ∀ k kp, F k kp = .bad) : EO call L st st' F F' := .inl fun k kp => by rw [h]; rfl
theorem EO.val (v : V) : EO call L st st' (fun k _ => k v st) (fun k _ => k v st') := .inr ⟨v, fun _ _ => rfl, fun _ _ => rfl⟩
theorem EO.chk {b : Bool} {F F' : FF} (h : EO call L st st' F F') : EO call L st st' (fun k kp => .chk b (F k kp)) (fun k kp => .chk b (F' k kp)) := by
  cases b with
  | false => exact .inl fun k kp => by simp [run]
  | true =>
    rcases h with h | ⟨v, h, h'⟩
    · exact .inl fun k kp => by simp only [run, cond_true]; exact h k kp
    · exact .inr ⟨v, fun k kp => by simp only [run, cond_true]; exact h k kp, fun k kp => by simp only [run, cond_true]; exact h' k kp⟩
theorem EO.br {b : Bool} {F G F' G' : FF} (h : EO call L st st' F F') (h' : EO call L st st' G G') : EO call L st st' (fun k kp => .br b (F k kp) (G k kp)) (fun k kp => .br b (F' k kp) (G' k kp)) := by
  cases b with
  | false =>
    rcases h' with h | ⟨v, h, h'⟩
    · exact .inl fun k kp => by simp only [run, cond_false]; exact h k kp
    · exact .inr ⟨v, fun k kp => by simp only [run, cond_false]; exact h k kp, fun k kp => by simp only [run, cond_false]; exact h' k kp⟩
  | true =>
    rcases h with h | ⟨v, h, h'⟩
    · exact .inl fun k kp => by simp only [run, cond_true]; exact h k kp
    · exact .inr ⟨v, fun k kp => by simp only [run, cond_true]; exact h k kp, fun k kp => by simp only [run, cond_true]; exact h' k kp⟩
theorem EO.bif {b : Bool} {F G F' G' : FF} (h : b = true → EO call L st st' F F') (h' : b = false → EO call L st st' G G') : EO call L st st' (fun k kp => bif b then F k kp else G k kp) (fun k kp => bif b then F' k kp else G' k kp) := by
  cases b with
  | false => exact h' rfl
  | true => exact h rfl
theorem EO.oneD {α : Type} {o : Option α} {f f' : α → FF} (h : ∀ v, o = some v → EO call L st st' (f v) (f' v)) : EO call L st st' (fun k kp => Ev.oneD o fun v => f v k kp) (fun k kp => Ev.oneD o fun v => f' v k kp) := by
  cases o with
  | none => exact .bad fun k kp => rfl
  | some v => exact h v rfl
theorem EO.notLp {v : V} : EO call L st st' (fun k _ => notLpD v fun v => k v st) (fun k _ => notLpD v fun v => k v st') := by
  cases v <;> first | exact .bad fun k kp => rfl | exact .val _
theorem EO.nat {v : V} {f f' : Nat → FF} (h : ∀ n, EO call L st st' (f n) (f' n)) : EO call L st st' (fun k kp => natD v fun v => f v k kp) (fun k kp => natD v fun v => f' v k kp) := by
  cases v <;> first | exact .chk (h _) | exact .bad fun k kp => rfl
theorem EO.cut {n off : Nat} {cs : List V} {f f' : List V → FF} (h : ∀ cs, EO call L st st' (f cs) (f' cs)) : EO call L st st' (fun k kp => cutD n off cs fun v => f v k kp) (fun k kp => cutD n off cs fun v => f' v k kp) := .chk (h _)
theorem EO.move {clr : List Nat} {d off : Nat} {v : V} : EO call L st st' (fun k _ => moveD clr d off v fun v => k v st) (fun k _ => moveD clr d off v fun v => k v st') := by
  cases v with
  | pt => exact .val _
  | lp => exact .bif (F := fun k _ => k _ st) (F' := fun k _ => k _ st') (G := fun _ _ => .bad) (G' := fun _ _ => .bad) (fun _ => .val _) (fun _ => .bad fun _ _ => rfl)
  | ip => exact .chk (.val _)
  | _ => exact .bad fun _ _ => rfl

theorem EO.shift {op : BinOp} {k : IntKind} {a b : Int} : EO call L st st' (fun c _ => shiftD op k a b fun v => c v st) (fun c _ => shiftD op k a b fun v => c v st') := by
  cases op <;> exact .chk (.val _)
theorem EO.binI {op : BinOp} {k : IntKind} {a b : Int} : EO call L st st' (fun c _ => Ev.binI op k a b fun v => c v st) (fun c _ => Ev.binI op k a b fun v => c v st') := by
  cases op <;> first | exact .val _ | exact .chk (.val _) | exact .oneD (f := fun v c _ => c v st) (f' := fun v c _ => c v st') fun v _ => .val v | exact .bad fun _ _ => rfl
theorem EO.binS {op : BinOp} {a b : List Nat} : EO call L st st' (fun c _ => Ev.binS op a b fun v => c v st) (fun c _ => Ev.binS op a b fun v => c v st') := by
  cases op <;> first | exact .val _ | exact .chk (.val _) | exact .bad fun _ _ => rfl
theorem EO.bin {hp hp' : Hp} {q : Qk} {op : BinOp} {x y : V} : EO call L st st' (fun c _ => binD hp q op x y fun v => c v st) (fun c _ => binD hp' q op x y fun v => c v st') := by
  have gen : EO call L st st' (fun c _ => bif isEq op then Ev.oneD (eqv q x y) fun b => c (eqRes op b) st else .bad) (fun c _ => bif isEq op then Ev.oneD (eqv q x y) fun b => c (eqRes op b) st' else .bad) :=
    .bif (F := fun c _ => Ev.oneD (eqv q x y) fun b => c (eqRes op b) st) (F' := fun c _ => Ev.oneD (eqv q x y) fun b => c (eqRes op b) st') (G := fun _ _ => .bad) (G' := fun _ _ => .bad)
      (fun _ => .oneD (f := fun b c _ => c (eqRes op b) st) (f' := fun b c _ => c (eqRes op b) st') fun b _ => .val _) (fun _ => .bad fun _ _ => rfl)
  cases x with
  | it k a =>
    cases y with
    | it k' b =>
      exact .bif (F := fun c _ => shiftD op k a b fun v => c v st) (F' := fun c _ => shiftD op k a b fun v => c v st') (G := fun c _ => bif keq k k' then Ev.binI op k a b (fun v => c v st) else .bad) (G' := fun c _ => bif keq k k' then Ev.binI op k a b (fun v => c v st') else .bad)
        (fun _ => .shift) (fun _ => .bif (F := fun c _ => Ev.binI op k a b fun v => c v st) (F' := fun c _ => Ev.binI op k a b fun v => c v st') (G := fun _ _ => .bad) (G' := fun _ _ => .bad) (fun _ => .binI) (fun _ => .bad fun _ _ => rfl))
    | _ => exact .bad fun _ _ => rfl
  | st a =>
    cases y with
    | st b => exact .binS
    | _ => exact .bad fun _ _ => rfl
  | _ => exact gen

/-- the same at a place, in two states -/
def Same (st st' : St) (v : V) : Prop :=
  match v with
  | .lp t _ => st'.lo t = st.lo t
  | .pt id _ _ => ∀ bk, hget st.hp id = some bk → ∃ bk', hget st'.hp id = some bk' ∧ bk'.sz = bk.sz ∧ bk'.es = bk.es
  | .hs id _ _ => ∀ bk, hget st.hp id = some bk → ∃ bk', hget st'.hp id = some bk' ∧ bk'.sz = bk.sz ∧ bk'.es = bk.es
  | .mp id => ∀ bk, hget st.hp id = some bk → ∃ bk', hget st'.hp id = some bk' ∧ bk'.sz = bk.sz ∧ bk'.es = bk.es
  | _ => True

theorem EO.load {n : Nat} {v : V} (hs : Same st st' v) {f f' : List V → FF} (h : ∀ cs, EO call L st st' (f cs) (f' cs)) : EO call L st st' (fun k kp => loadD st n v fun cs => f cs k kp) (fun k kp => loadD st' n v fun cs => f' cs k kp) := by
  cases v with
  | ip cs => exact .cut h
  | lp t off =>
    have hs : st'.lo t = st.lo t := hs
    simp only [loadD, hs]
    cases st.lo t with
    | none => exact .bad fun _ _ => rfl
    | some cs => exact .cut h
  | pt id i off =>
    simp only [loadD]
    cases hg : hget st.hp id with
    | none => exact .bad fun _ _ => rfl
    | some bk =>
      obtain ⟨bk', h1, _, h3⟩ := hs bk hg
      simp only [h1, h3]
      exact .chk (.cut h)
  | _ => exact .bad fun _ _ => rfl

theorem EO.elems {n : Nat} {v : V} (hs : Same st st' v) {f f' : List (List V) → FF} (h : ∀ cs, EO call L st st' (f cs) (f' cs)) : EO call L st st' (fun k kp => elemsD st.hp n v fun cs => f cs k kp) (fun k kp => elemsD st'.hp n v fun cs => f' cs k kp) := by
  cases v with
  | ns => exact h []
  | vs m es => exact .bif (F := f es) (F' := f' es) (G := fun _ _ => .bad) (G' := fun _ _ => .bad) (fun _ => h es) (fun _ => .bad fun _ _ => rfl)
  | hs id i len =>
    simp only [elemsD]
    cases hg : hget st.hp id with
    | none => exact .bad fun _ _ => rfl
    | some bk =>
      obtain ⟨bk', h1, h2, h3⟩ := hs bk hg
      simp only [h1, h2, h3]
      exact .bif (F := fun k kp => .chk (Nat.ble (i + len) bk.es.length) (f ((bk.es.drop i).take len) k kp)) (F' := fun k kp => .chk (Nat.ble (i + len) bk.es.length) (f' ((bk.es.drop i).take len) k kp)) (G := fun _ _ => .bad) (G' := fun _ _ => .bad)
        (fun _ => .chk (h _)) (fun _ => .bad fun _ _ => rfl)
  | _ => exact .bad fun _ _ => rfl

theorem EO.szs {sz : Nat} {v : V} (hs : Same st st' v) {F F' : FF} (h : EO call L st st' F F') : EO call L st st' (fun k kp => szD st.hp sz v (F k kp)) (fun k kp => szD st'.hp sz v (F' k kp)) := by
  cases v with
  | vs n es => exact .bif (F := F) (F' := F') (G := fun _ _ => .bad) (G' := fun _ _ => .bad) (fun _ => h) (fun _ => .bad fun _ _ => rfl)
  | hs id i len =>
    simp only [szD]
    cases hg : hget st.hp id with
    | none => exact .bad fun _ _ => rfl
    | some bk =>
      obtain ⟨bk', h1, h2, h3⟩ := hs bk hg
      simp only [h1, h2]
      exact .bif (F := F) (F' := F') (G := fun _ _ => .bad) (G' := fun _ _ => .bad) (fun _ => h) (fun _ => .bad fun _ _ => rfl)
  | _ => exact h

theorem EO.bound {tm : Tm} {d : Nat} {a : Option A} {f f' : Nat → FF} (h : ∀ n, EO call L st st' (f n) (f' n)) : EO call L st st' (fun k kp => boundD tm d a fun n => f n k kp) (fun k kp => boundD tm d a fun n => f' n k kp) := by
  cases a with
  | none => exact h _
  | some a => exact .nat h

theorem get_eq {tm tm' : Tm} {x : A} (h : ∀ t, t ∈ slotsA x → tm' t = tm t) : get tm' x = get tm x := by
  cases x with
  | t n => exact h n (by simp [slotsA])
  | k v => rfl

theorem map_get_eq {tm tm' : Tm} {xs : List A} (h : ∀ t, t ∈ xs.flatMap slotsA → tm' t = tm t) : xs.map (get tm') = xs.map (get tm) := by
  apply List.map_congr_left
  intro x hx
  exact get_eq fun t ht => h t (List.mem_flatMap.2 ⟨x, hx, ht⟩)

theorem boundD_eq {tm tm' : Tm} {d : Nat} {a : Option A} (h : ∀ t, t ∈ slotsO a → tm' t = tm t) (k : Nat → D) : boundD tm' d a k = boundD tm d a k := by
  cases a with
  | none => rfl
  | some a => simp only [boundD, get_eq h]

/-- is it one of those that may be owed? -/
def I.easy (i : I) : Bool := match i.cl with
  | .p | .r => true
  | _ => false

theorem easy_frame {i : I} (hi : i.easy = true) {us us' clr : List Nat} {d : Nat} (hsl : ∀ t, t ∈ i.sl → st'.tm t = st.tm t) (hrd : ∀ x, x ∈ i.rdA → Same st st' (get st.tm x)) :
    EO call L st st' (i.den us clr d st) (i.den us' clr d st') := by
  show EO call L st st' (fun k kp => i.den us clr d st k kp) (fun k kp => i.den us' clr d st' k kp)
  have g1 : ∀ x : A, (∀ t, t ∈ slotsA x → t ∈ i.sl) → get st'.tm x = get st.tm x := fun x hx => get_eq fun t ht => hsl t (hx t ht)
  cases i with
  | mov x =>
    have e := g1 x (fun t ht => ht)
    simp only [I.den, iMov, e]; exact .notLp
  | pick c a b =>
    have e1 := g1 c (fun t ht => by simp [I.sl, ht])
    have e2 := g1 a (fun t ht => by simp [I.sl, ht])
    have e3 := g1 b (fun t ht => by simp [I.sl, ht])
    simp only [I.den, iPick, e1, e2, e3]
    cases get st.tm c <;> first | exact .br .notLp .notLp | exact .bad fun _ _ => rfl
  | bld z ps =>
    have e : (ps.map fun (o, n, a) => (o, n, get st'.tm a)) = ps.map fun (o, n, a) => (o, n, get st.tm a) := by
      apply List.map_congr_left
      rintro ⟨o, n, a⟩ hx
      simp only [g1 a (fun t ht => by simp only [I.sl, List.mem_flatMap]; exact ⟨_, hx, ht⟩)]
    simp only [I.den, iBld, e]
    exact .oneD (f := fun v k _ => k v st) (f' := fun v k _ => k v st') fun v _ => .val v
  | bsv ts sz es ps =>
    have e : (ps.map fun (i, a) => (i, get st'.tm a)) = ps.map fun (i, a) => (i, get st.tm a) := by
      apply List.map_congr_left
      rintro ⟨o, a⟩ hx
      simp only [g1 a (fun t ht => by simp only [I.sl, List.mem_flatMap]; exact ⟨_, hx, ht⟩)]
    simp only [I.den, iBsv, e]
    cases fillE sz (ps.map fun (i, a) => (i, get st.tm a)) es with
    | none => exact .bad fun _ _ => rfl
    | some es' =>
      simp only []
      cases closeEs depth ts es' h0 with
      | none => exact .bad fun _ _ => rfl
      | some q => exact .val _
  | ld n g a =>
    have e := g1 a (fun t ht => ht)
    simp only [I.den, iLd, e]
    exact .load (hrd a (by simp [I.rdA])) (f := fun cs k _ => Ev.oneD (pickC n g cs) fun v => k v st) (f' := fun cs k _ => Ev.oneD (pickC n g cs) fun v => k v st') fun cs => .oneD (f := fun v k _ => k v st) (f' := fun v k _ => k v st') fun v _ => .val v
  | nck x =>
    have e := g1 x (fun t ht => ht)
    simp only [I.den, iNck, e]; exact .move
  | bin q op x y =>
    have e1 := g1 x (fun t ht => by simp [I.sl, ht])
    have e2 := g1 y (fun t ht => by simp [I.sl, ht])
    simp only [I.den, iBin, e1, e2]; exact .bin
  | un op x =>
    have e := g1 x (fun t ht => ht)
    simp only [I.den, iUn, e]
    exact .oneD (f := fun v k _ => k v st) (f' := fun v k _ => k v st') fun v _ => .val v
  | cnv c x =>
    have e := g1 x (fun t ht => ht)
    simp only [I.den, iCnv, e]
    cases c with
    | b2s =>
      simp only [convD]
      exact .elems (hrd x (by simp [I.rdA])) (f := fun es k _ => Ev.oneD ((allSome unbyte es).map .st) fun v => k v st) (f' := fun es k _ => Ev.oneD ((allSome unbyte es).map .st) fun v => k v st') fun es => .oneD (f := fun v k _ => k v st) (f' := fun v k _ => k v st') fun v _ => .val v
    | s2b => cases hi
    | _ => cases get st.tm x <;> first | exact .val _ | exact .bad fun _ _ => rfl
  | ixb x y =>
    have e1 := g1 x (fun t ht => by simp [I.sl, ht])
    have e2 := g1 y (fun t ht => by simp [I.sl, ht])
    simp only [I.den, iIxb, e1, e2]
    cases get st.tm x with
    | st l =>
      simp only []
      cases get st.tm y with
      | it k n => cases k <;> first | exact .val _ | exact .bad fun _ _ => rfl
      | _ => exact .bad fun _ _ => rfl
    | _ => exact .bad fun _ _ => rfl
  | mlk ok z x i =>
    have e1 := g1 x (fun t ht => by simp [I.sl, ht])
    have e2 := g1 i (fun t ht => by simp [I.sl, ht])
    have hs := hrd x (by simp [I.rdA])
    simp only [I.den, iMlk, e1, e2]
    cases get st.tm i with
    | st l =>
      simp only []
      cases hx : get st.tm x with
      | mp id =>
        simp only []
        cases hg : hget st.hp id with
        | none => exact .bad fun _ _ => rfl
        | some b =>
          rw [hx] at hs
          obtain ⟨b', h1, _, h3⟩ := hs b hg
          simp only [h1, mgetD, h3]
          cases mapGet l b.es with
          | none => cases ok <;> exact .val _
          | some u => cases ok <;> exact .val _
      | nm => cases ok <;> exact .val _
      | _ => exact .bad fun _ _ => rfl
    | _ => exact .bad fun _ _ => rfl
  | mki t x =>
    have e := g1 x (fun t ht => ht)
    simp only [I.den, iMki, e]
    cases get st.tm x <;> first | exact .bad fun _ _ => rfl | exact .val _
  | mkf f a b =>
    have e1 : a.map (get st'.tm) = a.map (get st.tm) := map_get_eq fun t ht => hsl t (by simp only [I.sl, List.mem_append]; exact .inl ht)
    have e2 : b.map (get st'.tm) = b.map (get st.tm) := map_get_eq fun t ht => hsl t (by simp only [I.sl, List.mem_append]; exact .inr ht)
    simp only [I.den, iMkf, e1, e2]
    cases (a.map (get st.tm)).any isLp with
    | true => exact .bad fun _ _ => rfl
    | false => cases (b.map (get st.tm)).any isLp with
      | true => exact .bad fun _ _ => rfl
      | false => exact .val _
  | slc b s x lo hi' =>
    have e := g1 x (fun t ht => by simp [I.sl, ht])
    have e1 : ∀ d k, boundD st'.tm d lo k = boundD st.tm d lo k := fun d k => boundD_eq (fun t ht => hsl t (by simp [I.sl, ht])) k
    have e2 : ∀ d k, boundD st'.tm d hi' k = boundD st.tm d hi' k := fun d k => boundD_eq (fun t ht => hsl t (by simp [I.sl, ht])) k
    simp only [I.den, iSlc, e, e1, e2]
    refine .szs (hrd x (by simp [I.rdA])) ?_
    exact .oneD (f := fun n k _ => boundD st.tm 0 lo fun l => boundD st.tm n hi' fun h => .chk (Nat.ble l h) (.chk (Nat.ble h n) (Ev.oneD (sliceV (get st.tm x) l h) fun v => k v st)))
        (f' := fun n k _ => boundD st.tm 0 lo fun l => boundD st.tm n hi' fun h => .chk (Nat.ble l h) (.chk (Nat.ble h n) (Ev.oneD (sliceV (get st.tm x) l h) fun v => k v st'))) fun n _ =>
        .bound (f := fun l k _ => boundD st.tm n hi' fun h => .chk (Nat.ble l h) (.chk (Nat.ble h n) (Ev.oneD (sliceV (get st.tm x) l h) fun v => k v st)))
          (f' := fun l k _ => boundD st.tm n hi' fun h => .chk (Nat.ble l h) (.chk (Nat.ble h n) (Ev.oneD (sliceV (get st.tm x) l h) fun v => k v st'))) fun l =>
          .bound (f := fun h k _ => .chk (Nat.ble l h) (.chk (Nat.ble h n) (Ev.oneD (sliceV (get st.tm x) l h) fun v => k v st))) (f' := fun h k _ => .chk (Nat.ble l h) (.chk (Nat.ble h n) (Ev.oneD (sliceV (get st.tm x) l h) fun v => k v st'))) fun h =>
            .chk (.chk (.oneD (f := fun v k _ => k v st) (f' := fun v k _ => k v st') fun v _ => .val v))
  | fad o a =>
    have e := g1 a (fun t ht => ht)
    simp only [I.den, iFad, e]; exact .move
  | fld o n g x =>
    have e := g1 x (fun t ht => ht)
    simp only [I.den, iFld, e]
    cases get st.tm x with
    | ag cs => exact .cut (f := fun cs k _ => Ev.oneD (pickC n g cs) fun v => k v st) (f' := fun cs k _ => Ev.oneD (pickC n g cs) fun v => k v st') fun cs => .oneD (f := fun v k _ => k v st) (f' := fun v k _ => k v st') fun v _ => .val v
    | _ => exact .bad fun _ _ => rfl
  | ias sz x y =>
    have e1 := g1 x (fun t ht => by simp [I.sl, ht])
    have e2 := g1 y (fun t ht => by simp [I.sl, ht])
    have hs := hrd x (by simp [I.rdA])
    simp only [I.den, iIas, e1, e2]
    refine .nat (f := fun i k _ => match get st.tm x with
      | .vs n es => bif Nat.beq n sz then .chk (Nat.blt i es.length) (k (.ip (es.getD i [])) st) else .bad
      | .hs id i0 len => match hget st.hp id with
        | some b => bif Nat.beq b.sz sz then .chk (Nat.blt i len) (k (.pt id (i0 + i) 0) st) else .bad
        | none => .bad
      | _ => .bad) (f' := fun i k _ => match get st.tm x with
      | .vs n es => bif Nat.beq n sz then .chk (Nat.blt i es.length) (k (.ip (es.getD i [])) st') else .bad
      | .hs id i0 len => match hget st'.hp id with
        | some b => bif Nat.beq b.sz sz then .chk (Nat.blt i len) (k (.pt id (i0 + i) 0) st') else .bad
        | none => .bad
      | _ => .bad) fun i => ?_
    cases hx : get st.tm x with
    | vs n es =>
      exact .bif (F := fun k _ => .chk (Nat.blt i es.length) (k (.ip (es.getD i [])) st)) (F' := fun k _ => .chk (Nat.blt i es.length) (k (.ip (es.getD i [])) st')) (G := fun _ _ => .bad) (G' := fun _ _ => .bad) (fun _ => .chk (.val _)) (fun _ => .bad fun _ _ => rfl)
    | hs id i0 len =>
      rw [hx] at hs
      simp only []
      cases hg : hget st.hp id with
      | none => exact .bad fun _ _ => rfl
      | some bk =>
        obtain ⟨bk', h1, h2, h3⟩ := hs bk hg
        simp only [h1, h2]
        exact .bif (F := fun k _ => .chk (Nat.blt i len) (k (.pt id (i0 + i) 0) st)) (F' := fun k _ => .chk (Nat.blt i len) (k (.pt id (i0 + i) 0) st')) (G := fun _ _ => .bad) (G' := fun _ _ => .bad) (fun _ => .chk (.val _)) (fun _ => .bad fun _ _ => rfl)
    | _ => exact .bad fun _ _ => rfl
  | iaa n s a y =>
    have e1 := g1 a (fun t ht => by simp [I.sl, ht])
    have e2 := g1 y (fun t ht => by simp [I.sl, ht])
    simp only [I.den, iIaa, e1, e2]
    exact .nat (f := fun i k _ => .chk (Nat.blt i n) (moveD clr d (i * s) (get st.tm a) fun v => k v st)) (f' := fun i k _ => .chk (Nat.blt i n) (moveD clr d (i * s) (get st.tm a) fun v => k v st')) fun i => .chk .move
  | ixs x y =>
    have e1 := g1 x (fun t ht => by simp [I.sl, ht])
    have e2 := g1 y (fun t ht => by simp [I.sl, ht])
    simp only [I.den, iIxs, e1, e2]
    refine .nat (f := fun i k _ => match get st.tm x with
      | .st s => .chk (Nat.blt i s.length) (k (byte (s.getD i 0)) st)
      | _ => .bad) (f' := fun i k _ => match get st.tm x with
      | .st s => .chk (Nat.blt i s.length) (k (byte (s.getD i 0)) st')
      | _ => .bad) fun i => ?_
    cases get st.tm x <;> first | exact .chk (.val _) | exact .bad fun _ _ => rfl
  | ixa n s g x y =>
    have e1 := g1 x (fun t ht => by simp [I.sl, ht])
    have e2 := g1 y (fun t ht => by simp [I.sl, ht])
    simp only [I.den, iIxa, e1, e2]
    refine .nat (f := fun i k _ => match get st.tm x with
      | .ag cs => .chk (Nat.blt i n) (cutD s (i * s) cs fun cs => Ev.oneD (pickC s g cs) fun v => k v st)
      | _ => .bad) (f' := fun i k _ => match get st.tm x with
      | .ag cs => .chk (Nat.blt i n) (cutD s (i * s) cs fun cs => Ev.oneD (pickC s g cs) fun v => k v st')
      | _ => .bad) fun i => ?_
    cases get st.tm x with
    | ag cs => exact .chk (.cut (f := fun cs k _ => Ev.oneD (pickC s g cs) fun v => k v st) (f' := fun cs k _ => Ev.oneD (pickC s g cs) fun v => k v st') fun cs => .oneD (f := fun v k _ => k v st) (f' := fun v k _ => k v st') fun v _ => .val v)
    | _ => exact .bad fun _ _ => rfl
  | ext x n =>
    have e := g1 x (fun t ht => ht)
    simp only [I.den, iExt, e]
    cases get st.tm x with
    | tu xs => exact .oneD (f := fun v k _ => notLpD v fun v => k v st) (f' := fun v k _ => notLpD v fun v => k v st') fun v _ => .notLp
    | _ => exact .bad fun _ _ => rfl
  | len s x =>
    have e := g1 x (fun t ht => ht)
    simp only [I.den, iLen, e]
    exact .oneD (f := fun n k _ => k (i64 (.ofNat n)) st) (f' := fun n k _ => k (i64 (.ofNat n)) st') fun n _ => .val _
  | mnx m x y =>
    have e1 := g1 x (fun t ht => by simp [I.sl, ht])
    have e2 := g1 y (fun t ht => by simp [I.sl, ht])
    simp only [I.den, iMnx, e1, e2]
    exact .oneD (f := fun v k _ => k v st) (f' := fun v k _ => k v st') fun v _ => .val v
  | call o md f xs => cases md <;> cases hi
  | calv fs f xs => cases fs <;> cases hi
  | _ => cases hi

end
end Ev
