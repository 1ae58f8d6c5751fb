import Derived.Test.YtgofadnggipkpaaEvIns7
namespace Ev
open Go

theorem foldl_set (off : Nat) : ∀ (vs : List Value) (k : Nat) (arr : Array Value),
    ((vs.zipIdx k).foldl (fun cs (x : Value × Nat) => cs.setIfInBounds (off + x.2) x.1) arr).size = arr.size ∧
    ∀ i, ((vs.zipIdx k).foldl (fun cs (x : Value × Nat) => cs.setIfInBounds (off + x.2) x.1) arr)[i]? = if off + k ≤ i ∧ i < off + k + vs.length ∧ i < arr.size then vs[i - (off + k)]? else arr[i]?
  | [], k, arr => by simp; intro i h1 h2; omega
  | v :: r, k, arr => by
    obtain ⟨h1, h2⟩ := foldl_set off r (k + 1) (arr.setIfInBounds (off + k) v)
    have hs2 : (arr.setIfInBounds (off + k) v).size = arr.size := by simp
    simp only [List.zipIdx_cons, List.foldl_cons]
    refine ⟨by rw [h1, hs2], fun i => ?_⟩
    rw [h2 i, hs2, Array.getElem?_setIfInBounds]
    simp only [List.length_cons]
    by_cases c1 : off + (k + 1) ≤ i ∧ i < off + (k + 1) + r.length ∧ i < arr.size
    · rw [if_pos c1, if_pos (by omega), show i - (off + k) = (i - (off + (k + 1))) + 1 by omega, List.getElem?_cons_succ]
    · rw [if_neg c1]
      by_cases e : off + k = i
      · rw [if_pos e]
        by_cases hi : off + k < arr.size
        · rw [if_pos hi, if_pos (by omega), show i - (off + k) = 0 by omega]; rfl
        · rw [if_neg hi, if_neg (by omega), Array.getElem?_eq_none (by omega)]
      · rw [if_neg e, if_neg (by omega)]

/-- cells beside an array -/
structure Sim (g : G) (cs : List V) (arr : Array Value) : Prop where
  size : arr.size = cs.length
  keep : ∀ c, c ∈ cs → c.keep = true
  rep : ∀ (j : Nat) (c : V), cs[j]? = some c → RepA g c (arr.getD j undef)

/-- rows beside an array -/
structure SimE (g : G) (sz : Nat) (es : List (List V)) (arr : Array Value) : Prop where
  size : arr.size = es.length * sz
  row : ∀ x, x ∈ es → x.length = sz
  keep : ∀ x, x ∈ es → ∀ c, c ∈ x → c.keep = true
  rep : ∀ (i j : Nat) (x : List V) (c : V), es[i]? = some x → x[j]? = some c → RepA g c (arr.getD (i * sz + j) undef)

theorem getD_of {arr : Array Value} {j : Nat} {v : Value} (h : arr[j]? = some v) : arr.getD j undef = v := by simp [Array.getD_eq_getD_getElem?, h]

theorem Sim.over {g : G} {cs xs : List V} {arr : Array Value} {cv : Value} (h : Sim g cs arr) (off : Nat) (hl : off + xs.length ≤ cs.length) (h1 : cv.cells.size = xs.length) (h2 : ∀ c, c ∈ xs → c.keep = true)
    (h3 : ∀ (j : Nat) (c : V), xs[j]? = some c → RepA g c (cv.cells.getD j undef)) :
    Sim g (over off xs cs) (cv.cells.zipIdx.foldl (fun cs (x : Value × Nat) => cs.setIfInBounds (off + x.2) x.1) arr) := by
  have hfold : cv.cells.zipIdx.foldl (fun cs (x : Value × Nat) => cs.setIfInBounds (off + x.2) x.1) arr = (cv.cells.toList.zipIdx 0).foldl (fun cs (x : Value × Nat) => cs.setIfInBounds (off + x.2) x.1) arr := by
    rw [← Array.foldl_toList, Array.toList_zipIdx]
  obtain ⟨f1, f2⟩ := foldl_set off cv.cells.toList 0 arr
  rw [hfold]
  refine ⟨by rw [f1, h.size, over_len hl], fun c hc => ?_, fun j c hj => ?_⟩
  · unfold Ev.over at hc
    rcases List.mem_append.1 hc with hc | hc
    · exact h.keep c (List.mem_of_mem_take hc)
    · rcases List.mem_append.1 hc with hc | hc
      · exact h2 c hc
      · exact h.keep c (List.mem_of_mem_drop hc)
  · have hjl := lt_of_get hj
    rw [over_len hl] at hjl
    rw [over_get hl] at hj
    have hf := f2 j
    simp only [Nat.add_zero, Array.length_toList, h1] at hf
    by_cases hin : off ≤ j ∧ j < off + xs.length
    · rw [if_pos hin] at hj
      rw [if_pos ⟨hin.1, hin.2, by rw [h.size]; exact hjl⟩] at hf
      have := h3 _ c hj
      rw [Array.getElem?_toList, Array.getElem?_eq_getElem (xs := cv.cells) (i := j - off) (by omega)] at hf
      rw [getD_of hf]
      simpa [Array.getD_eq_getD_getElem?, Array.getElem?_eq_getElem (by omega : j - off < cv.cells.size)] using this
    · rw [if_neg hin] at hj
      rw [if_neg (by omega)] at hf
      have := h.rep j c hj
      rw [Array.getD_eq_getD_getElem?, hf, ← Array.getD_eq_getD_getElem?]
      exact this

theorem fill_rep {g : G} {ν : Nat → Option Nat} {tm : Tm} {a : Act} (ht : ∀ t, RepT g ν (tm t) (a.tmps.getD t undef)) {φ : Nat × Operand → Option (Nat × Nat × A)} {place : Nat → Option (Nat × Nat)}
    (hφ : ∀ i x o n xa, φ (i, x) = some (o, n, xa) → place i = some (o, n) ∧ cA x = some xa) :
    ∀ (ps : List (Nat × Operand)) (ms : List (Nat × Nat × A)), allSome φ ps = some ms → ∀ (cs : List V) (arr : Array Value), Sim g cs arr → ∀ cs', fill (ms.map fun (o, n, a) => (o, n, get tm a)) cs = some cs' →
      ∃ arr', Instr.fill place arr (ps.map fun (i, x) => (i, a.eval x)) = some arr' ∧ Sim g cs' arr'
  | [], ms, hm, cs, arr, hs, cs', hf => by
    simp only [allSome, Option.some.injEq] at hm; subst hm
    simp only [List.map_nil, fill, Option.some.injEq] at hf; subst hf
    exact ⟨arr, rfl, hs⟩
  | (i, x) :: ps, ms, hm, cs, arr, hs, cs', hf => by
    simp only [allSome] at hm
    cases h1 : φ (i, x) with
    | none => simp [h1] at hm
    | some q =>
      obtain ⟨o, n, xa⟩ := q
      cases h2 : allSome φ ps with
      | none => simp [h1, h2] at hm
      | some ms' =>
        simp only [h1, h2, Option.some.injEq] at hm; subst hm
        obtain ⟨hp, hx⟩ := hφ i x o n xa h1
        simp only [List.map_cons, fill] at hf
        cases b1 : Nat.beq (get tm xa).cells.length n with
        | false => simp only [b1, cond_false] at hf; cases hf
        | true =>
          simp only [b1, cond_true] at hf
          cases b2 : Nat.ble (o + n) cs.length with
          | false => simp only [b2, cond_false] at hf; cases hf
          | true =>
            simp only [b2, cond_true] at hf
            cases b3 : (get tm xa).cells.all V.keep with
            | false => simp only [b3, cond_false] at hf; cases hf
            | true =>
              simp only [b3, cond_true] at hf
              have e1 := Nat.eq_of_beq_eq_true b1
              have e2 := Nat.le_of_ble_eq_true b2
              obtain ⟨c1, c2, c3⟩ := ((cA_rep hx ht).toA (keepLp b3)).cells b3
              have hs' := hs.over o (by omega) c1 c2 c3
              obtain ⟨arr', r1, r2⟩ := fill_rep ht hφ ps ms' h2 _ _ hs' cs' hf
              refine ⟨arr', ?_, r2⟩
              simp only [List.map_cons, Instr.fill, hp]
              have : ((a.eval x).cells.size ≠ n || decide (o + (a.eval x).cells.size > arr.size)) = false := by
                have := hs.size
                simp; omega
              rw [if_neg (by simpa using this)]
              exact r1

theorem SimE.set {g : G} {sz i : Nat} {xs : List V} {es : List (List V)} {arr : Array Value} {cv : Value} (h : SimE g sz es arr) (hi : i < es.length) (hl : xs.length = sz) (h1 : cv.cells.size = xs.length) (h2 : ∀ c, c ∈ xs → c.keep = true)
    (h3 : ∀ (j : Nat) (c : V), xs[j]? = some c → RepA g c (cv.cells.getD j undef)) :
    SimE g sz (es.set i xs) (cv.cells.zipIdx.foldl (fun cs (x : Value × Nat) => cs.setIfInBounds (i * sz + x.2) x.1) arr) := by
  have hfold : cv.cells.zipIdx.foldl (fun cs (x : Value × Nat) => cs.setIfInBounds (i * sz + x.2) x.1) arr = (cv.cells.toList.zipIdx 0).foldl (fun cs (x : Value × Nat) => cs.setIfInBounds (i * sz + x.2) x.1) arr := by
    rw [← Array.foldl_toList, Array.toList_zipIdx]
  obtain ⟨f1, f2⟩ := foldl_set (i * sz) cv.cells.toList 0 arr
  rw [hfold]
  refine ⟨by rw [f1, h.size]; simp, fun x hx => ?_, fun x hx c hc => ?_, fun i' j x c hx hc => ?_⟩
  · rcases List.mem_or_eq_of_mem_set hx with hx | hx
    · exact h.row x hx
    · rw [hx]; exact hl
  · rcases List.mem_or_eq_of_mem_set hx with hx | hx
    · exact h.keep x hx c hc
    · rw [hx] at hc; exact h2 c hc
  · have hf := f2 (i' * sz + j)
    simp only [Nat.add_zero, Array.length_toList, h1, hl] at hf
    rw [List.getElem?_set] at hx
    have hmul : (i + 1) * sz ≤ es.length * sz := Nat.mul_le_mul_right _ hi
    rw [Nat.add_mul, Nat.one_mul] at hmul
    by_cases e : i = i'
    · subst e
      simp only [if_true, hi, Option.some.injEq] at hx; subst hx
      have hj := lt_of_get hc
      rw [if_pos ⟨by omega, by omega, by rw [h.size]; omega⟩, show i * sz + j - i * sz = j by omega, Array.getElem?_toList, Array.getElem?_eq_getElem (xs := cv.cells) (i := j) (by omega)] at hf
      rw [getD_of hf]
      simpa [Array.getD_eq_getD_getElem?, Array.getElem?_eq_getElem (by omega : j < cv.cells.size)] using h3 j c hc
    · simp only [e, if_false] at hx
      have hj := lt_of_get hc
      rw [h.row x (List.mem_of_getElem? hx)] at hj
      have hout : ¬ (i * sz ≤ i' * sz + j ∧ i' * sz + j < i * sz + sz ∧ i' * sz + j < arr.size) := by
        rcases Nat.lt_or_gt_of_ne e with q | q
        · have : (i + 1) * sz ≤ i' * sz := Nat.mul_le_mul_right _ q
          rw [Nat.add_mul, Nat.one_mul] at this
          omega
        · have : (i' + 1) * sz ≤ i * sz := Nat.mul_le_mul_right _ q
          rw [Nat.add_mul, Nat.one_mul] at this
          omega
      rw [if_neg hout] at hf
      have := h.rep i' j x c hx hc
      rw [Array.getD_eq_getD_getElem?, hf, ← Array.getD_eq_getD_getElem?]
      exact this

theorem fillE_rep {g : G} {ν : Nat → Option Nat} {tm : Tm} {a : Act} (ht : ∀ t, RepT g ν (tm t) (a.tmps.getD t undef)) {sz : Nat} {φ : Nat × Operand → Option (Nat × A)} (hφ : ∀ i x j xa, φ (i, x) = some (j, xa) → j = i ∧ cA x = some xa) :
    ∀ (ps : List (Nat × Operand)) (ms : List (Nat × A)), allSome φ ps = some ms → ∀ (es : List (List V)) (arr : Array Value), SimE g sz es arr → ∀ es', fillE sz (ms.map fun (i, a) => (i, get tm a)) es = some es' →
      ∃ arr', Instr.fill (fun i => some (i * sz, sz)) arr (ps.map fun (i, x) => (i, a.eval x)) = some arr' ∧ SimE g sz es' arr' ∧ es'.length = es.length
  | [], ms, hm, es, arr, hs, es', hf => by
    simp only [allSome, Option.some.injEq] at hm; subst hm
    simp only [List.map_nil, fillE, Option.some.injEq] at hf; subst hf
    exact ⟨arr, rfl, hs, rfl⟩
  | (i, x) :: ps, ms, hm, es, arr, hs, es', hf => by
    simp only [allSome] at hm
    cases h1 : φ (i, x) with
    | none => simp [h1] at hm
    | some q =>
      obtain ⟨i', xa⟩ := q
      cases h2 : allSome φ ps with
      | none => simp [h1, h2] at hm
      | some ms' =>
        simp only [h1, h2, Option.some.injEq] at hm; subst hm
        obtain ⟨hp, hx⟩ := hφ i x i' xa h1
        subst hp
        simp only [List.map_cons, fillE] at hf
        cases b1 : Nat.beq (get tm xa).cells.length sz with
        | false => simp only [b1, cond_false] at hf; cases hf
        | true =>
          simp only [b1, cond_true] at hf
          cases b2 : Nat.blt i' es.length with
          | false => simp only [b2, cond_false] at hf; cases hf
          | true =>
            simp only [b2, cond_true] at hf
            cases b3 : (get tm xa).cells.all V.keep with
            | false => simp only [b3, cond_false] at hf; cases hf
            | true =>
              simp only [b3, cond_true] at hf
              have e1 := Nat.eq_of_beq_eq_true b1
              have e2 := bltL b2
              obtain ⟨c1, c2, c3⟩ := ((cA_rep hx ht).toA (keepLp b3)).cells b3
              have hs' := hs.set e2 e1 c1 c2 c3
              obtain ⟨arr', r1, r2, r3⟩ := fillE_rep ht hφ ps ms' h2 _ _ hs' es' hf
              refine ⟨arr', ?_, r2, by rw [r3]; simp⟩
              simp only [List.map_cons, Instr.fill]
              have hmul : (i' + 1) * sz ≤ es.length * sz := Nat.mul_le_mul_right _ e2
              rw [Nat.add_mul, Nat.one_mul] at hmul
              have : ((a.eval x).cells.size ≠ sz || decide (i' * sz + (a.eval x).cells.size > arr.size)) = false := by
                have := hs.size
                simp; omega
              rw [if_neg (by simpa using this)]
              exact r1

section
variable {e : Env}

theorem map_eval {ps : Array (Nat × Operand)} {ρ : Operand → Value} : (ps.map fun (i, x) => (i, ρ x)).toList = ps.toList.map fun (i, x) => (i, ρ x) := by simp

theorem ok_bld (h : e.St) {t : TypeId} {ps : Array (Nat × Operand)} {z : List V} {ms : List (Nat × Nat × A)} {φ : Nat × Operand → Option (Nat × Nat × A)} {place : Nat → Option (Nat × Nat)} (hz : Ev.zeroOf e.P t = some z)
    (hφ : ∀ i x o n xa, φ (i, x) = some (o, n, xa) → place i = some (o, n) ∧ cA x = some xa) (hm : allSome φ ps.toList = some ms)
    (hb : ∀ i zv l cells, e.P.info? t = some i → i.zero = some zv → Instr.fill place zv.cells l = some cells → e.P.built t l = some cells)
    (ho : e.o.op = .build t ps) (us : List Nat) (d : Nat) : Res e (iBld z ms us e.clr d e.st) := by
  refine Res.oneD (f := fun v k _ => k v e.st) fun v hv => ?_
  obtain ⟨i, zv, _, hi, hzz, _, _, hn, hk, hr⟩ := zero_info (g := e.g) hz
  cases hf : fill (ms.map fun (o, n, a) => (o, n, get e.st.tm a)) z with
  | none => simp [hf] at hv
  | some cs =>
    simp only [hf, Option.map_some, Option.some.injEq] at hv; subst hv
    obtain ⟨arr', h1, h2⟩ := fill_rep (a := e.a) h.tm hφ ps.toList ms hm z zv.cells ⟨hn, hk, hr⟩ cs hf
    have hrun := run_build (P := e.P) e.w t (ps.map fun (i, x) => (i, e.a.eval x)) arr' (hb i zv _ arr' hi hzz (by rw [map_eval]; exact h1))
    exact Res.val h (cv := .agg arr') (by simp only [execOp, ho, Sem.run_bind, hrun, Result.andThen_ok, Sem.run_pure]) (.ag cs arr' h2.size h2.keep h2.rep) rfl

theorem made_sim {g : G} {z : List V} {zv : Value} {sz n : Nat} (hz : z.length = sz) (h0 : 0 < sz) (hn : zv.cells.size = z.length) (hk : ∀ c, c ∈ z → c.keep = true) (hr : ∀ (j : Nat) (c : V), z[j]? = some c → RepA g c (zv.cells.getD j undef)) :
    SimE g sz (List.replicate n z) (madeCells zv.cells (n * sz)) := by
  have h := made_rows (g := g) (n := n) (c := n) hz h0 hn hk hr (Nat.le_refl _)
  exact ⟨by simp [size_madeCells], h.row, h.keep, h.rep⟩

theorem run_buildSlice {P : Program} {w : World} {t el : TypeId} {sz n : Nat} {i : TypeInfo} {zv : Value} {parts : Array (Nat × Value)} {arr : Array Value} (hu : P.underlying t = some (.slice el)) (hi : P.info? el = some i) (hs : i.size = sz) (hz : i.zero = some zv)
    (hn : n * sz ≤ 2 ^ 20) (hf : Instr.fill (fun i => some (i * sz, sz)) (madeCells zv.cells (n * sz)) parts.toList = some arr) :
    (Instr.buildSlice t n parts).run P w = .ok (.slice (some ⟨w.heap.size, 0, none⟩) n n) (w.alloc (.cells arr el)) := by
  subst hs
  have h24 : ¬ (n * i.size > 2 ^ 24) := by omega
  unfold madeCells at hf
  by_cases h0 : n * i.size = 0
  · rw [h0] at hf
    have : (Array.map (fun x => zv.cells[x % zv.cells.size]!) (Array.range 0)) = #[] := by simp [Array.range_zero']
    rw [this] at hf
    simp [Instr.buildSlice, run_underlying hu, Go.sizeOf, typeInfo, hi, h0, hf, newRow, Array.range_zero']
  · simp [Instr.buildSlice, run_underlying hu, Go.sizeOf, typeInfo, hi, h24, h0, zeroValue, hz, hf, newRow]

/-- what both kinds of a slice's literal lay -/
theorem bs_run (h : e.St) {t el : TypeId} {n sz : Nat} {ps : Array (Nat × Operand)} {z : List V} {ms : List (Nat × A)} {es : List (List V)} (hu : e.P.underlying t = some (.slice el)) (hs : Ev.size e.P el = some sz) (hz : Ev.zeroOf e.P el = some z)
    (hm : allSome partE ps.toList = some ms) (hn : n * sz ≤ 2 ^ 20) (h0 : 0 < sz) (hzl : z.length = sz) (ho : e.o.op = .buildSlice t n ps)
    (hf : fillE sz (ms.map fun (i, a) => (i, get e.st.tm a)) (List.replicate n z) = some es) :
    ∃ arr, SimE e.g sz es arr ∧ es.length = n ∧ (execOp e.a.eval e.o).run e.P e.w = .ok (.value (.slice (some ⟨e.w.heap.size, 0, none⟩) n n)) (e.w.alloc (.cells arr el)) := by
  obtain ⟨i, hi, his⟩ := size_info hs
  obtain ⟨i', zv, _, hi', hzz, _, _, hzn, hk, hr⟩ := zero_info (g := e.g) hz
  rw [hi] at hi'; cases hi'
  obtain ⟨arr', h1, h2, h3⟩ := fillE_rep (a := e.a) h.tm (φ := partE) (fun i x j xa hx => by
    unfold partE at hx
    cases hc : cA x with
    | none => simp [hc] at hx
    | some y => simp only [hc, Option.map_some, Option.some.injEq, Prod.mk.injEq] at hx; exact ⟨hx.1.symm, by rw [hx.2]⟩) ps.toList ms hm _ _ (made_sim (n := n) hzl h0 hzn hk hr) es hf
  refine ⟨arr', h2, by simpa using h3, ?_⟩
  have := run_buildSlice (P := e.P) (w := e.w) (n := n) (parts := ps.map fun (i, x) => (i, e.a.eval x)) (arr := arr') hu hi his hzz hn (by rw [map_eval]; exact h1)
  simp only [execOp, ho, Sem.run_bind, this, Result.andThen_ok, Sem.run_pure]

theorem ok_bsl (h : e.St) {t el : TypeId} {n sz : Nat} {ps : Array (Nat × Operand)} {z : List V} {ms : List (Nat × A)} (hu : e.P.underlying t = some (.slice el)) (hs : Ev.size e.P el = some sz) (hz : Ev.zeroOf e.P el = some z)
    (hm : allSome partE ps.toList = some ms) (hn : n * sz ≤ 2 ^ 20) (h0 : 0 < sz) (hzl : z.length = sz) (ho : e.o.op = .buildSlice t n ps) (us : List Nat) (d : Nat) :
    Res e (iBsl sz (List.replicate n z) ms us e.clr d e.st) := by
  cases hf : fillE sz (ms.map fun (i, a) => (i, get e.st.tm a)) (List.replicate n z) with
  | none => exact .bad fun k kp => by simp only [iBsl, hf]
  | some es =>
    refine .eq (F' := fun k _ => k (.hs e.st.hp.next 0 es.length) (Ev.mk e.st ⟨sz, false, es⟩)) (fun k kp => by simp only [iBsl, hf]) ?_
    obtain ⟨arr, h1, h2, h3⟩ := bs_run h hu hs hz hm hn h0 hzl ho hf
    have hrows : Rows e.g ⟨sz, false, es⟩ n arr := ⟨rfl, by simp only; omega, by rw [h1.size, h2], h1.row, h1.keep, h1.rep⟩
    refine .out (.value _ _ h3) ⟨rfl, h.mem.new (grow_alloc _ _ _) hrows, born_le h.mem.hr _, .inl rfl, .ofA ?_, fun _ _ _ _ hx => by cases hx⟩
    rw [h2]
    exact .hs _ _ _ _ _ (Nat.le_refl _) (.inr ⟨⟨e.w.heap.size, 0, sz, n⟩, by simp [born], .inr ⟨by simp [ad], by simp⟩⟩)

theorem get_h0 (id : Nat) : hget h0 id = none := rfl

/-- closing with no heap at hand -/
theorem close_h0 : ∀ n,
    (∀ t v x hp', closeC n t v h0 = some (x, hp') → hp' = h0 ∧ ∀ g cv, RepA g v cv → RepC g.κ x cv) ∧
    (∀ ts vs xs hp', closeCs n ts vs h0 = some (xs, hp') → hp' = h0 ∧ xs.length = vs.length ∧ ∀ (i : Nat) (x : V), xs[i]? = some x → ∃ v, vs[i]? = some v ∧ ∀ g cv, RepA g v cv → RepC g.κ x cv) ∧
    (∀ ts es xs hp', closeEs n ts es h0 = some (xs, hp') → hp' = h0 ∧ xs.length = es.length ∧ ∀ (i : Nat) (x : List V), xs[i]? = some x → ∃ e, es[i]? = some e ∧ x.length = e.length ∧ ∀ (j : Nat) (c : V), x[j]? = some c → ∃ v, e[j]? = some v ∧ ∀ g cv, RepA g v cv → RepC g.κ c cv) := by
  intro n
  induction n with
  | zero => exact ⟨fun _ _ _ _ h => by simp [closeC] at h, fun _ _ _ _ h => by simp [closeCs] at h, fun _ _ _ _ h => by simp [closeEs] at h⟩
  | succ n ih =>
    obtain ⟨ihC, ihCs, ihEs⟩ := ih
    refine ⟨fun t v x hp' h => ?_, fun ts vs xs hp' h => ?_, fun ts es xs hp' h => ?_⟩
    · cases t with
      | one =>
        simp only [closeC] at h
        split at h <;> first | (simp at h; done) | (simp only [Option.some.injEq, Prod.mk.injEq] at h; obtain ⟨rfl, rfl⟩ := h; exact ⟨rfl, fun g cv hr => by cases hr; assumption⟩)
      | sl cs =>
        simp only [closeC] at h
        split at h
        · simp only [Option.some.injEq, Prod.mk.injEq] at h; obtain ⟨rfl, rfl⟩ := h
          refine ⟨rfl, fun g cv hr => ?_⟩
          have := RepA.ns_inv hr; subst this
          exact .vs cs.length [] none 0 0 0 (fun _ _ => undef) (by simp) (by simp) (by simp) (by simp) (by simp)
        · rename_i sz es
          cases hb : Nat.beq sz cs.length <;> simp only [hb, cond_true, cond_false] at h
          · cases h
          · simp only [Option.some.injEq, Prod.mk.injEq] at h; obtain ⟨rfl, rfl⟩ := h
            exact ⟨rfl, fun g cv hr => by cases hr; assumption⟩
        · rename_i id i len
          rw [get_h0] at h
          cases h
        · cases h
    · cases ts with
      | nil =>
        cases vs with
        | nil => simp only [closeCs, Option.some.injEq, Prod.mk.injEq] at h; obtain ⟨rfl, rfl⟩ := h; exact ⟨rfl, rfl, by simp⟩
        | cons => simp [closeCs] at h
      | cons t ts =>
        cases vs with
        | nil => simp [closeCs] at h
        | cons v vs =>
          simp only [closeCs] at h
          cases hc : closeC n t v h0 with
          | none => simp [hc] at h
          | some p =>
            obtain ⟨x, h1⟩ := p
            obtain ⟨rfl, r1⟩ := ihC t v x h1 hc
            simp only [hc] at h
            cases hcs : closeCs n ts vs h0 with
            | none => simp [hcs] at h
            | some q =>
              obtain ⟨xs', h2⟩ := q
              obtain ⟨rfl, l2, r2⟩ := ihCs ts vs xs' h2 hcs
              simp only [hcs, Option.some.injEq, Prod.mk.injEq] at h
              obtain ⟨rfl, rfl⟩ := h
              refine ⟨rfl, by simp [l2], fun i u hu => ?_⟩
              cases i with
              | zero => simp at hu; subst hu; exact ⟨v, rfl, r1⟩
              | succ i => simpa using r2 i u (by simpa using hu)
    · cases es with
      | nil => simp only [closeEs, Option.some.injEq, Prod.mk.injEq] at h; obtain ⟨rfl, rfl⟩ := h; exact ⟨rfl, rfl, by simp⟩
      | cons e es =>
        simp only [closeEs] at h
        cases hc : closeCs n ts e h0 with
        | none => simp [hc] at h
        | some p =>
          obtain ⟨x, h1⟩ := p
          obtain ⟨rfl, l1, r1⟩ := ihCs ts e x h1 hc
          simp only [hc] at h
          cases hcs : closeEs n ts es h0 with
          | none => simp [hcs] at h
          | some q =>
            obtain ⟨xs', h2⟩ := q
            obtain ⟨rfl, l2, r2⟩ := ihEs ts es xs' h2 hcs
            simp only [hcs, Option.some.injEq, Prod.mk.injEq] at h
            obtain ⟨rfl, rfl⟩ := h
            refine ⟨rfl, by simp [l2], fun i u hu => ?_⟩
            cases i with
            | zero => simp at hu; subst hu; exact ⟨e, rfl, l1, r1⟩
            | succ i => simpa using r2 i u (by simpa using hu)

theorem ok_bsv (h : e.St) {t el : TypeId} {n sz : Nat} {ps : Array (Nat × Operand)} {z : List V} {ms : List (Nat × A)} {ts : List Ty} (hu : e.P.underlying t = some (.slice el)) (hs : Ev.size e.P el = some sz) (hz : Ev.zeroOf e.P el = some z)
    (hm : allSome partE ps.toList = some ms) (hn : n * sz ≤ 2 ^ 20) (hsz : 0 < sz) (hzl : z.length = sz) (ho : e.o.op = .buildSlice t n ps) (us : List Nat) (d : Nat) :
    Res e (iBsv ts sz (List.replicate n z) ms us e.clr d e.st) := by
  cases hf : fillE sz (ms.map fun (i, a) => (i, get e.st.tm a)) (List.replicate n z) with
  | none => exact .bad fun k kp => by simp only [iBsv, hf]
  | some es =>
    cases hc : closeEs depth ts es h0 with
    | none => exact .bad fun k kp => by simp only [iBsv, hf, hc]
    | some q =>
      obtain ⟨xs, hp'⟩ := q
      refine .eq (F' := fun k _ => k (.vs sz xs) e.st) (fun k kp => by simp only [iBsv, hf, hc]) ?_
      obtain ⟨arr, h1, h2, h3⟩ := bs_run h hu hs hz hm hn hsz hzl ho hf
      obtain ⟨_, c1, c2⟩ := (close_h0 depth).2.2 ts es xs hp' hc
      obtain ⟨hmem, hle⟩ := h.mem.imm (grow_alloc e.w arr el)
      have hcell : ∀ (i j : Nat) (x : List V) (c : V), xs[i]? = some x → x[j]? = some c → arr[i * sz + j]? = some (arr.getD (i * sz + j) undef) ∧ RepC e.g.κ c (arr.getD (i * sz + j) undef) := by
        intro i j x c hx hcc
        obtain ⟨e', he', hl', hcs⟩ := c2 i x hx
        obtain ⟨v, hv, hrep⟩ := hcs j c hcc
        have hj := lt_of_get hv
        rw [h1.row e' (List.mem_of_getElem? he')] at hj
        have hlt : i * sz + j < arr.size := by rw [h1.size]; exact idx_lt (lt_of_get he') hj
        exact ⟨by simp [Array.getD_eq_getD_getElem?, Array.getElem?_eq_getElem hlt], hrep _ _ (h1.rep i j e' v he' hv)⟩
      refine .out (.value _ _ h3) ⟨rfl, hmem, hle, .inl rfl, .ofA (.c _ _ ?_), fun _ _ _ _ hx => by cases hx⟩
      have hxl : xs.length = n := by rw [c1, h2]
      have key := RepC.vs (κ := (known e.g e.w.heap.size arr).κ) sz xs (some (ad e.w.heap.size 0)) n e.w.heap.size 0 (fun i j => arr.getD (i * sz + j) undef) (fun x hx => by
          obtain ⟨k, hk⟩ := List.getElem?_of_mem hx
          obtain ⟨e', he', hl', _⟩ := c2 k x hk
          rw [hl', h1.row e' (List.mem_of_getElem? he')]) (fun _ => rfl) (by omega) (fun i j x c hx hcc => by
          refine ⟨(hcell i j x c hx hcc).2.keep, ?_⟩
          simp only [known, if_true, Nat.zero_add]
          exact (hcell i j x c hx hcc).1) (fun i j x c hx hcc => (hcell i j x c hx hcc).2.mono hle.κ)
      rw [hxl] at key
      exact key

end
end Ev
