import Derived.Test.YtgofadnggipkpaaEvIns6
import Derived.Laws.Tables
set_option linter.unusedVariables false
namespace Ev
open Go

section
variable {e : Env}

/-- a bound's value -/
def BoundV (a : Act) (dflt : Nat) (lo : Option Operand) (n : Nat) : Prop :=
  match lo with
  | none => n = dflt
  | some x => ∃ k m, a.eval x = .int k m ∧ 0 ≤ m ∧ n = m.toNat

def cOpt : Option Operand → Option (Option A)
  | none => some none
  | some a => (cA a).map some

theorem Res.bound (h : e.St) {lo : Option Operand} {la : Option A} (hl : cOpt lo = some la) {dflt : Nat} {F : Nat → (V → St → D) → (V → St → D) → D} (hF : ∀ n, BoundV e.a dflt lo n → Res e (F n)) :
    Res e (fun k kp => boundD e.st.tm dflt la fun n => F n k kp) := by
  cases lo with
  | none => simp only [cOpt, Option.some.injEq] at hl; subst hl; exact hF dflt rfl
  | some x =>
    simp only [cOpt] at hl
    cases hx : cA x with
    | none => simp [hx] at hl
    | some xa =>
      simp only [hx, Option.map_some, Option.some.injEq] at hl; subst hl
      exact Res.nat' h hx (f := F) fun k n hv h0 => hF _ ⟨k, n, hv, h0, rfl⟩

theorem run_bounds {P : Program} {w : World} {a : Act} {lo hi : Option Operand} {b : Bool} {len cap l h : Nat} (hl : BoundV a 0 lo l) (hh : BoundV a len hi h) (h1 : l ≤ h) (h2 : h ≤ len) (h3 : len ≤ cap) :
    (Instr.sliceBounds b len cap (lo.map a.eval) (hi.map a.eval) none).run P w = .ok (l, h, cap) w := by
  cases lo with
  | none =>
    simp only [BoundV] at hl; subst hl
    cases hi with
    | none => simp only [BoundV] at hh; subst hh; simp [Instr.sliceBounds]
    | some y =>
      obtain ⟨k, m, hv, h0, rfl⟩ := hh
      simp [Instr.sliceBounds, run_sliceB (P := P) (w := w) hv h0 (Nat.le_trans h2 h3)]
  | some x =>
    obtain ⟨k, m, hv, h0, rfl⟩ := hl
    cases hi with
    | none => simp only [BoundV] at hh; subst hh; simp [Instr.sliceBounds, run_sliceB (P := P) (w := w) hv h0 h1]
    | some y =>
      obtain ⟨k', m', hv', h0', rfl⟩ := hh
      simp [Instr.sliceBounds, run_sliceB (P := P) (w := w) hv' h0' (Nat.le_trans h2 h3), run_sliceB (P := P) (w := w) hv h0 h1]

theorem drop_take_map {l : List UInt8} (a b : Nat) : ((l.drop a).take b).map UInt8.toNat = ((l.map UInt8.toNat).drop a).take b := by
  rw [List.map_take, List.map_drop]

theorem ok_slc (h : e.St) {t : TypeId} {x : Operand} {lo hi : Option Operand} {xa : A} {la ha : Option A} {s : Bool} {sz : Nat} (hu : if s then e.P.underlying t = some .string else ∃ el, e.P.underlying t = some (.slice el) ∧ Ev.size e.P el = some sz)
    (hx : cA x = some xa) (hl : cOpt lo = some la) (hh : cOpt hi = some ha) (ho : e.o.op = .slice t x lo hi none) (us : List Nat) (d : Nat) : Res e (iSlc s sz xa la ha us e.clr d e.st) := by
  have hr := h.rep hx
  have main : ∀ n, lenOf s (get e.st.tm xa) = some n → (∀ l hh v, BoundV e.a 0 lo l → BoundV e.a n hi hh → l ≤ hh → hh ≤ n → sliceV (get e.st.tm xa) l hh = some v → Res e (fun k _ => k v e.st)) →
      Res e (fun k kp => Ev.oneD (lenOf s (get e.st.tm xa)) fun n => boundD e.st.tm 0 la fun l => boundD e.st.tm n ha fun h =>
      .chk (Nat.ble l h) (.chk (Nat.ble h n) (Ev.oneD (sliceV (get e.st.tm xa) l h) fun v => k v e.st))) := by
    intro n hn hf
    refine Res.oneD (f := fun n k _ => boundD e.st.tm 0 la fun l => boundD e.st.tm n ha fun h => .chk (Nat.ble l h) (.chk (Nat.ble h n) (Ev.oneD (sliceV (get e.st.tm xa) l h) fun v => k v e.st))) fun n' hn' => ?_
    rw [hn] at hn'; cases hn'
    refine Res.bound h hl (F := fun l k _ => boundD e.st.tm n ha fun h => .chk (Nat.ble l h) (.chk (Nat.ble h n) (Ev.oneD (sliceV (get e.st.tm xa) l h) fun v => k v e.st))) fun l hl' => ?_
    refine Res.bound h hh (F := fun h k _ => .chk (Nat.ble l h) (.chk (Nat.ble h n) (Ev.oneD (sliceV (get e.st.tm xa) l h) fun v => k v e.st))) fun hh' hh'' => ?_
    refine .chk fun h1 => .chk fun h2 => ?_
    exact Res.oneD (f := fun v k _ => k v e.st) fun v hv => hf l hh' v hl' hh'' (Nat.le_of_ble_eq_true h1) (Nat.le_of_ble_eq_true h2) hv
  have hslice : ∀ a len cap l hh, s = false → e.a.eval x = .slice a len cap → BoundV e.a 0 lo l → BoundV e.a len hi hh → l ≤ hh → hh ≤ len → len ≤ cap →
      (execOp e.a.eval e.o).run e.P e.w = .ok (.value (.slice (if cap = l then a else a.map (·.add (l * sz))) (hh - l) (cap - l))) e.w := by
    intro a len cap l hh hs hv h1 h2 h3 h4 h5
    rw [hs] at hu
    obtain ⟨el, hue, hse⟩ := hu
    have := run_bounds (P := e.P) (w := e.w) (b := true) h1 h2 h3 h4 h5
    simp [execOp, ho, hv, Instr.sliceAt, Instr.slice, run_underlying hue, this, run_size hse]
  have bad : lenOf s (get e.st.tm xa) = none → (∀ k, szD e.st.hp sz (get e.st.tm xa) k = k) → Res e (iSlc s sz xa la ha us e.clr d e.st) := fun q q' => .bad fun k kp => by simp only [iSlc, q, q', Ev.oneD]
  cases hg : get e.st.tm xa with
  | st l =>
    cases s with
    | false => exact bad (by rw [hg]; rfl) (by rw [hg]; exact fun _ => rfl)
    | true =>
      refine .eq (fun k kp => ?_) (main l.length (by rw [hg]; rfl) fun a b v h1 h2 h3 h4 hv => ?_)
      · simp only [iSlc, hg]; rfl
      · rw [hg] at hr hv
        simp only [sliceV, Option.some.injEq] at hv; subst hv
        obtain ⟨sv, hsv, hll⟩ := RepA.st_inv hr
        have hsz : sv.size = l.length := by rw [← hll, List.length_map, Array.length_toList]; rfl
        simp only [if_true] at hu
        have := run_bounds (P := e.P) (w := e.w) (b := false) (cap := sv.size) h1 (by rw [hsz]; exact h2) h3 (by omega) (Nat.le_refl _)
        refine Res.val h (cv := .string (sv.extract a b)) (by simp [execOp, ho, hsv, Instr.sliceAt, Instr.slice, run_underlying hu, this]) (.c _ _ (.st _ _ ?_)) rfl
        rw [← hll, ← drop_take_map, ByteArray.data_extract]
        simp
  | ns =>
    cases s with
    | true => exact bad (by rw [hg]; rfl) (by rw [hg]; exact fun _ => rfl)
    | false =>
      refine .eq (fun k kp => ?_) (main 0 (by rw [hg]; rfl) fun a b v h1 h2 h3 h4 hv => ?_)
      · simp only [iSlc, hg]; rfl
      · rw [hg] at hr hv
        simp only [sliceV, Option.some.injEq] at hv; subst hv
        have hb : b = 0 := by omega
        have ha : a = 0 := by omega
        subst hb; subst ha
        have := hslice none 0 0 0 0 rfl (RepA.ns_inv hr) h1 h2 h3 h4 (Nat.le_refl _)
        exact Res.val h this (.c _ _ .ns) rfl
  | vs m es =>
    cases s with
    | true =>
      refine .bad fun k kp => ?_
      simp only [iSlc, hg, szD, lenOf, cond_true, Ev.oneD]
      cases Nat.beq m sz <;> rfl
    | false =>
      refine .eq (F' := fun k kp => bif Nat.beq m sz then (Ev.oneD (lenOf false (get e.st.tm xa)) fun n => boundD e.st.tm 0 la fun l => boundD e.st.tm n ha fun h =>
        .chk (Nat.ble l h) (.chk (Nat.ble h n) (Ev.oneD (sliceV (get e.st.tm xa) l h) fun v => k v e.st))) else .bad) (fun k kp => by simp only [iSlc, hg]; rfl) ?_
      refine .bif (G := fun _ _ => .bad) (fun hm => ?_) (fun _ => .bad fun _ _ => rfl)
      have hm := Nat.eq_of_beq_eq_true hm
      subst hm
      refine main es.length (by rw [hg]; rfl) fun a b v h1 h2 h3 h4 hv => ?_
      rw [hg] at hr hv
      simp only [sliceV, Option.some.injEq] at hv; subst hv
      obtain ⟨ad0, cap, bb, o, f, hcv, c1, c2, c3, c4, c5⟩ := RepA.vs_inv hr
      have hrun := hslice _ _ _ _ _ rfl hcv h1 h2 h3 h4 c3
      have hlen : ((es.drop a).take (b - a)).length = b - a := by rw [List.length_take, List.length_drop]; omega
      have hgt : ∀ (i : Nat) (x : List V), ((es.drop a).take (b - a))[i]? = some x → es[a + i]? = some x := by
        intro i x hi
        have := lt_of_get hi
        rw [List.getElem?_take_of_lt (by omega), List.getElem?_drop] at hi
        exact hi
      refine Res.val h hrun ?_ rfl
      generalize (es.drop a).take (b - a) = es' at hlen hgt ⊢
      rw [← hlen]
      refine .c _ _ (.vs m _ _ _ bb (o + a * m) (fun i j => f (a + i) j) (fun x hx => ?_) (fun hne => ?_) (by omega) (fun i j x c hx hc => ?_) (fun i j x c hx hc => c5 _ _ _ _ (hgt i x hx) hc))
      · obtain ⟨k, hk⟩ := List.getElem?_of_mem hx
        exact c1 x (List.mem_of_getElem? (hgt k x hk))
      · have hne' : es ≠ [] := by
          rintro rfl
          simp only [List.length_nil] at h4
          exact hne (List.eq_nil_of_length_eq_zero (by omega))
        have hba : 0 < b - a := by
          rcases Nat.eq_zero_or_pos (b - a) with q | q
          · exact absurd (List.eq_nil_of_length_eq_zero (hlen.trans q)) hne
          · exact q
        rw [if_neg (by omega), c2 hne', Option.map_some, ad_add]
      · have := c4 (a + i) j x c (hgt i x hx) hc
        refine ⟨this.1, ?_⟩
        rw [show o + a * m + i * m + j = o + (a + i) * m + j by rw [Nat.add_mul]; omega]
        exact this.2
  | hs id i len =>
    cases s with
    | true =>
      refine .bad fun k kp => ?_
      simp only [iSlc, hg, szD, lenOf, cond_true, Ev.oneD]
      cases hget e.st.hp id with
      | none => rfl
      | some bk => simp only []; cases Nat.beq bk.sz sz <;> rfl
    | false =>
      refine .eq (F' := fun k kp => match hget e.st.hp id with
        | some bk => bif Nat.beq bk.sz sz then (Ev.oneD (lenOf false (get e.st.tm xa)) fun n => boundD e.st.tm 0 la fun l => boundD e.st.tm n ha fun h =>
          .chk (Nat.ble l h) (.chk (Nat.ble h n) (Ev.oneD (sliceV (get e.st.tm xa) l h) fun v => k v e.st))) else .bad
        | none => .bad) (fun k kp => by simp only [iSlc, hg]; rfl) ?_
      refine Res.hget (F := fun bk k kp => bif Nat.beq bk.sz sz then (Ev.oneD (lenOf false (get e.st.tm xa)) fun n => boundD e.st.tm 0 la fun l => boundD e.st.tm n ha fun h =>
          .chk (Nat.ble l h) (.chk (Nat.ble h n) (Ev.oneD (sliceV (get e.st.tm xa) l h) fun v => k v e.st))) else .bad) fun bk hbk => ?_
      refine .bif (G := fun _ _ => .bad) (fun hm => ?_) (fun _ => .bad fun _ _ => rfl)
      have hm := Nat.eq_of_beq_eq_true hm
      refine main len (by rw [hg]; rfl) fun a b v h1 h2 h3 h4 hv => ?_
      rw [hg] at hr hv
      simp only [sliceV, Option.some.injEq] at hv; subst hv
      obtain ⟨a0, cap, hcv, c1, c2⟩ := RepA.hs_inv hr
      have hrun := hslice _ _ _ _ _ rfl hcv h1 h2 h3 h4 c1
      refine Res.val h hrun (.hs _ _ _ _ _ (by omega) ?_) rfl
      rcases c2 with c2 | ⟨r, hl1, c2⟩
      · exact .inl c2
      · refine .inr ⟨r, hl1, ?_⟩
        obtain ⟨bk0, e0, z⟩ := h.mem.hr.live id r hl1
        rw [hbk] at e0; cases e0
        rcases c2 with c2 | ⟨c2, c3⟩
        · exact .inl (by omega)
        · by_cases hcl : cap = a
          · exact .inl (by omega)
          · refine .inr ⟨?_, by omega⟩
            rw [if_neg hcl, c2, Option.map_some, ad_add, ← hm, ← z.sz, Nat.add_mul, Nat.add_assoc]
  | _ => exact bad (by rw [hg]; rfl) (by rw [hg]; exact fun _ => rfl)

/-- rows all alike -/
theorem made_rows {g : G} {z : List V} {zv : Value} {sz n c : Nat} (hz : z.length = sz) (h0 : 0 < sz) (hn : zv.cells.size = z.length) (hk : ∀ c, c ∈ z → c.keep = true) (hr : ∀ (j : Nat) (c : V), z[j]? = some c → RepA g c (zv.cells.getD j undef)) (hc : n ≤ c) :
    Rows g ⟨sz, false, List.replicate n z⟩ c (madeCells zv.cells (c * sz)) := by
  refine ⟨rfl, by simpa using hc, by simp [size_madeCells], fun x hx => ?_, fun x hx c' hc' => ?_, fun i j x c' hx hc' => ?_⟩
  · rw [(List.mem_replicate.1 hx).2, hz]
  · rw [(List.mem_replicate.1 hx).2] at hc'; exact hk c' hc'
  · have hi := lt_of_get hx
    have hxz := (List.mem_replicate.1 (List.mem_of_getElem? hx)).2
    subst hxz
    have hj := lt_of_get hc'
    simp only [List.length_replicate] at hi
    have hlt : i * sz + j < c * sz := Nat.lt_of_lt_of_le (idx_lt hi (hz ▸ hj)) (Nat.mul_le_mul_right _ hc)
    have hmod : (i * sz + j) % zv.cells.size = j := by rw [hn, hz, Nat.mul_comm, Nat.mul_add_mod, Nat.mod_eq_of_lt (hz ▸ hj)]
    have : (madeCells zv.cells (c * sz)).getD (i * sz + j) undef = zv.cells.getD j undef := by
      have hjs : j < zv.cells.size := by omega
      simp only [madeCells, Array.getD_eq_getD_getElem?, Array.getElem?_map, Array.getElem?_range, hlt, if_true, Option.map_some, Option.getD_some, hmod]
      rw [Array.getElem!_eq_getD]; simp [Array.getD_eq_getD_getElem?, Array.getElem?_eq_getElem hjs]
    rw [this]
    exact hr j c' hc'

theorem ok_mks (h : e.St) {t el : TypeId} {x y : Operand} {xa ya : A} {sz bytes : Nat} {z : List V} (hu : e.P.underlying t = some (.slice el)) (hs : Ev.size e.P el = some sz) (hz : Ev.zeroOf e.P el = some z) (hb : Ev.bytesOf e.P el = some bytes)
    (h0 : 0 < sz) (hzl : z.length = sz) (hx : cA x = some xa) (hy : cA y = some ya) (ho : e.o.op = .makeSlice t x y) (us : List Nat) (d : Nat) : Res e (iMks sz bytes z xa ya us e.clr d e.st) := by
  refine Res.nat' h hx (f := fun l k _ => natD (get e.st.tm ya) fun c => .chk (Nat.ble l c) (.chk (Nat.ble c 9223372036854775807) (.chk (Nat.ble (c * bytes) maxB) (k (.hs e.st.hp.next 0 l) (Ev.mk e.st ⟨sz, false, List.replicate l z⟩))))) fun kl l hl hl0 => ?_
  refine Res.nat' h hy (f := fun c k _ => .chk (Nat.ble l.toNat c) (.chk (Nat.ble c 9223372036854775807) (.chk (Nat.ble (c * bytes) maxB) (k (.hs e.st.hp.next 0 l.toNat) (Ev.mk e.st ⟨sz, false, List.replicate l.toNat z⟩))))) fun kc c hc hc0 => ?_
  refine .chk fun q1 => .chk fun q2 => .chk fun q3 => ?_
  have q1 := Nat.le_of_ble_eq_true q1
  have q2 := Nat.le_of_ble_eq_true q2
  have q3 := Nat.le_of_ble_eq_true q3
  obtain ⟨i, hi, his⟩ := size_info hs
  obtain ⟨i', zv, v, hi', hzz, _, _, hn, hk, hr⟩ := zero_info (g := e.g) hz
  rw [hi] at hi'; cases hi'
  have hbytes : i.bytes = bytes := by simpa [Ev.bytesOf, hi] using hb
  have q4 : (i.bytes : Int) * c ≤ 281474976710656 := by
    have : ((c.toNat * bytes : Nat) : Int) ≤ 140737488355328 := by unfold maxB at q3; omega
    rw [Int.natCast_mul, Int.toNat_of_nonneg hc0] at this
    rw [hbytes, Int.mul_comm]; omega
  have hrun := run_make (P := e.P) e.w t el i zv hu hi hzz kl kc l c hl0 (by omega) q4 (by omega)
  rw [his] at hrun
  have hrows := made_rows (g := e.g) (n := l.toNat) (c := c.toNat) hzl h0 hn hk hr q1
  have hf : (execOp e.a.eval e.o).run e.P e.w = .ok (.value (.slice (some ⟨e.w.heap.size, 0, none⟩) l.toNat c.toNat)) (e.w.alloc (.cells (madeCells zv.cells (c.toNat * sz)) el)) := by
    simp [execOp, ho, hl, hc, hrun]
  refine .out (.value _ _ hf) ⟨rfl, h.mem.new (grow_alloc _ _ _) hrows, born_le h.mem.hr _, .inl rfl, .ofA ?_, fun _ _ _ _ hx => by cases hx⟩
  refine .hs _ _ _ _ _ q1 (.inr ⟨⟨e.w.heap.size, 0, sz, c.toNat⟩, by simp [born], .inr ⟨by simp [ad], by simp⟩⟩)

end
end Ev
