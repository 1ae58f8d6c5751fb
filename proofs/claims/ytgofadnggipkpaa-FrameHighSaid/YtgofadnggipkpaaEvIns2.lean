import Derived.Test.YtgofadnggipkpaaEvIns
namespace Ev
open Go

theorem ad_add (b o n : Nat) : (ad b o).add n = ad b (o + n) := by unfold Addr.add ad; split <;> simp_all

theorem setCs_eq (w : World) (b : Nat) (vs : List Value) : ∀ o, setCs w b o vs = w.setCells b o vs := by
  induction vs generalizing w with
  | nil => intro o; rfl
  | cons v r ih => intro o; simp only [setCs, World.setCells]; exact ih _ _

theorem oneC' {v : Value} (h : oneC v = true) : v.oneCell' = true := by cases v <;> first | rfl | simp [oneC] at h

section
variable {P : Program}

theorem run_isAgg {t : TypeId} {g : Bool} (h : Ev.isAgg P t = some g) (w : World) : (Go.isAgg t).run P w = .ok g w := by
  unfold Ev.isAgg at h
  unfold Go.isAgg
  cases hu : P.underlying t with
  | none => simp [hu] at h
  | some d => cases d <;> simp_all [run_underlying hu, Result.andThen]

theorem size_info {t : TypeId} {n : Nat} (h : Ev.size P t = some n) : ∃ i, P.info? t = some i ∧ i.size = n := by
  unfold Ev.size at h
  cases hi : P.info? t with
  | none => simp [hi] at h
  | some i => exact ⟨i, rfl, by simpa [hi] using h⟩

theorem run_size {t : TypeId} {n : Nat} (h : Ev.size P t = some n) (w : World) : (Go.sizeOf t).run P w = .ok n w := by
  obtain ⟨i, hi, rfl⟩ := size_info h
  simp [Go.sizeOf, run_typeInfo w hi]

/-- what is read at a place -/
theorem run_loadVar {t : TypeId} {n : Nat} {gg : Bool} (hs : Ev.size P t = some n) (hg : Ev.isAgg P t = some gg) {w : World} {b o : Nat} {f : Nat → Value}
    (h : ∀ j, j < n → w.cell? (ad b (o + j)) = some (f j)) (h1 : gg = true ∨ 0 < n) :
    (loadVar t (ad b o)).run P w = .ok (if gg then .agg ((List.range n).map f).toArray else f 0) w := by
  simp only [loadVar, Sem.run_bind, run_isAgg hg, Result.andThen]
  cases gg with
  | true =>
    simp only [if_true, Sem.run_bind, run_size hs, Result.andThen]
    rw [run_loadCells w (ad b o) n f (fun j hj => by rw [ad_add]; exact h j hj)]
    rfl
  | false =>
    have := h 0 (by rcases h1 with h1 | h1 <;> simp_all)
    simp only [Nat.add_zero] at this
    simp [this]

theorem run_storeVar {t : TypeId} {w : World} {b o : Nat} {v : Value} (hs : Ev.size P t = some v.cells.size)
    (hc : ∀ j, j < v.cells.size → (w.cell? (ad b (o + j))).isSome = true) (hf : ∀ j, j < v.cells.size → w.frozen? (ad b (o + j)) = false) (h1 : ∀ x, x ∈ v.cells.toList → oneC x = true) :
    (storeVar t (ad b o) v).run P w = .ok () (setCs w b o v.cells.toList) := by
  have hst := run_storeCells_cells (P := P) b o v.cells.toList 0 w (by simpa [ad] using hc) (by simpa [ad] using hf) (fun x hx => oneC' (h1 x hx))
  simp only [storeVar, Sem.run_bind, run_size hs, Result.andThen, ne_eq, not_true, if_false]
  rw [setCs_eq]
  exact hst
end

section
variable {e : Env}

/-- cells at a place -/
theorem Res.load (h : e.St) {n : Nat} {v : V} {cv : Value} (hr : RepT e.g e.ν v cv) {F : List V → (V → St → D) → (V → St → D) → D}
    (hF : ∀ cs b o (f : Nat → Value), cv = .pointer (some (ad b o)) → cs.length = n → (∀ (j : Nat) (c : V), cs[j]? = some c → c.keep = true ∧ e.w.cell? (ad b (o + j)) = some (f j) ∧ RepA e.g c (f j)) → Res e (F cs)) :
    Res e (fun k kp => loadD e.st n v fun cs => F cs k kp) := by
  have hgt : ∀ (cs : List V) (off j : Nat) (c : V), ((cs.drop off).take n)[j]? = some c → cs[off + j]? = some c := by
    intro cs off j c hj
    have := lt_of_get hj
    rw [List.getElem?_take_of_lt (by simp at this; omega), List.getElem?_drop] at hj
    exact hj
  cases v with
  | ip cs =>
    obtain ⟨b, o, f, rfl, h1, h2⟩ := RepA.ip_inv hr
    refine Res.cut (f := F) fun hl => hF _ b o f rfl (by simp; omega) fun j c hj => ?_
    have := hgt cs 0 j c hj
    rw [Nat.zero_add] at this
    exact ⟨(h1 j c this).1, h.mem.hr.kap _ _ _ (h1 j c this).2, .c _ _ (h2 j c this)⟩
  | lp t off =>
    obtain ⟨b, hb, rfl⟩ := hr
    cases hlo : e.st.lo t with
    | none => exact .bad fun k kp => by simp [loadD, hlo]
    | some cs =>
      refine .eq (F' := fun k kp => cutD n off cs fun cs => F cs k kp) (fun k kp => by simp [loadD, hlo]) ?_
      obtain ⟨b', hb', hx, _⟩ := h.mem.lo.box t cs hlo
      rw [hb] at hb'; cases hb'
      refine Res.cut (f := F) fun hl => hF _ b off (fun j => (e.w.cell? (ad b (off + j))).getD undef) rfl (by simp; omega) fun j c hj => ?_
      obtain ⟨a1, ⟨u, a2, a3⟩, _⟩ := hx (off + j) c (hgt cs off j c hj)
      refine ⟨a1, ?_, ?_⟩
      · simp only [a2, Option.getD_some]
      · simp only [a2, Option.getD_some]; exact a3
  | pt id i off =>
    obtain ⟨a, rfl, hx⟩ := RepA.pt_inv hr
    cases hg : hget e.st.hp id with
    | none => exact .bad fun k kp => by simp [loadD, hg]
    | some bk =>
      refine .eq (F' := fun k kp => .chk (Nat.blt i bk.es.length) (cutD n off (bk.es.getD i []) fun cs => F cs k kp)) (fun k kp => by simp [loadD, hg]) ?_
      refine .chk fun hi => ?_
      refine Res.cut (f := F) fun hl => ?_
      rcases hx with hx | ⟨r, hl1, rfl⟩
      · have := h.mem.hr.dead id hx; rw [this] at hg; cases hg
      · obtain ⟨bk0, e0, z⟩ := h.mem.hr.live id r hl1
        rw [hg] at e0; cases e0
        have hi' : i < bk.es.length := Nat.le_of_ble_eq_true hi
        have hrow : bk.es[i]? = some (bk.es.getD i []) := by simp [List.getD, List.getElem?_eq_getElem hi']
        refine hF _ r.b _ (fun j => (e.w.cell? (ad r.b (r.base + i * r.sz + off + j))).getD undef) rfl (by rw [List.length_take, List.length_drop]; omega) fun j c hj => ?_
        obtain ⟨a1, u, a2, a3⟩ := z.cont i (off + j) _ c hrow (hgt _ off j c hj)
        rw [show r.base + i * r.sz + (off + j) = r.base + i * r.sz + off + j by omega] at a2
        refine ⟨a1, ?_, ?_⟩
        · simp only [a2, Option.getD_some]
        · simp only [a2, Option.getD_some]; exact a3
  | _ => exact .bad fun k kp => rfl

theorem ok_mov (h : e.St) {x : Operand} {xa : A} (hx : cA x = some xa) (ho : e.o.op = .move x ∨ e.o.op = .assign x) (us : List Nat) (d : Nat) : Res e (iMov xa us e.clr d e.st) :=
  Res.notLp (f := fun v k _ => k v e.st) fun hl => Res.val h (by rcases ho with ho | ho <;> simp [execOp, ho]) ((h.rep hx).toA hl) hl

theorem ok_pick (h : e.St) {c x y : Operand} {ca xa ya : A} (hc : cA c = some ca) (hx : cA x = some xa) (hy : cA y = some ya) (ho : e.o.op = .pick c x y) (us : List Nat) (d : Nat) :
    Res e (iPick ca xa ya us e.clr d e.st) := by
  have hr := h.rep hc
  cases hv : get e.st.tm ca with
  | bo t =>
    refine .eq (F' := fun k kp => .br t (notLpD (get e.st.tm xa) fun v => k v e.st) (notLpD (get e.st.tm ya) fun v => k v e.st)) (fun k kp => by simp [iPick, hv]) ?_
    rw [hv] at hr
    have hb := RepA.bo_inv hr
    refine .br (fun ht => ?_) (fun ht => ?_)
    · exact Res.notLp (f := fun v k _ => k v e.st) fun hl => Res.val h (by simp [execOp, ho, hb, asBool, ht]) ((h.rep hx).toA hl) hl
    · exact Res.notLp (f := fun v k _ => k v e.st) fun hl => Res.val h (by simp [execOp, ho, hb, asBool, ht]) ((h.rep hy).toA hl) hl
  | _ => exact .bad fun k kp => by simp [iPick, hv]

/-- cells read, as one value -/
theorem pickC_rep {g : G} {n : Nat} {gg : Bool} {cs : List V} {f : Nat → Value} (hn : cs.length = n) (hk : ∀ c, c ∈ cs → c.keep = true) (hr : ∀ (j : Nat) (c : V), cs[j]? = some c → RepA g c (f j))
    {v : V} (hp : pickC n gg cs = some v) : (gg = true ∨ 0 < n) ∧ RepA g v (if gg then .agg ((List.range n).map f).toArray else f 0) ∧ isLp v = false := by
  unfold pickC at hp
  cases gg with
  | true =>
    simp only [cond_true, Option.some.injEq] at hp; subst hp
    refine ⟨.inl rfl, .ag cs _ (by simp [hn]) hk (fun i c hc => ?_), rfl⟩
    have hi := lt_of_get hc
    have : ((List.range n).map f).toArray.getD i undef = f i := by simp [Array.getD_eq_getD_getElem?, List.getElem?_range (by omega : i < n)]
    rw [this]; exact hr i c hc
  | false =>
    simp only [cond_false] at hp
    cases hb : Nat.beq n 1 with
    | false => simp [hb] at hp
    | true =>
      simp only [hb, cond_true] at hp
      have := Nat.eq_of_beq_eq_true hb
      cases cs with
      | nil => simp at hp
      | cons c r =>
        simp only [List.head?_cons, Option.some.injEq] at hp; subst hp
        refine ⟨.inr (by omega), by simpa using hr 0 c rfl, ?_⟩
        have := hk c (by simp)
        cases c <;> simp_all [V.keep, isLp]

theorem ok_ld (h : e.St) {t : TypeId} {x : Operand} {xa : A} {n : Nat} {gg : Bool} (hs : Ev.size e.P t = some n) (hg : Ev.isAgg e.P t = some gg) (hx : cA x = some xa)
    (ho : e.o.op = .load t x) (us : List Nat) (d : Nat) : Res e (iLd n gg xa us e.clr d e.st) := by
  refine Res.load h (h.rep hx) (F := fun cs k _ => Ev.oneD (pickC n gg cs) fun v => k v e.st) fun cs b o f hcv hn hcs => ?_
  refine Res.oneD (f := fun v k _ => k v e.st) fun v hv => ?_
  obtain ⟨h1, h2, h3⟩ := pickC_rep (g := e.g) (f := f) hn (fun c hc => by obtain ⟨j, hj⟩ := List.getElem?_of_mem hc; exact (hcs j c hj).1) (fun j c hj => (hcs j c hj).2.2) hv
  refine Res.val h ?_ h2 h3
  have := run_loadVar (P := e.P) hs hg (w := e.w) (b := b) (o := o) (f := f) (fun j hj => (hcs j (cs[j]'(by omega)) (by rw [List.getElem?_eq_getElem])).2.1) h1
  simp [execOp, ho, hcv, Instr.loadAt, Instr.sureAddr, this]

theorem ok_nck (h : e.St) {x : Operand} {xa : A} (hx : cA x = some xa) (ho : e.o.op = .nilCheck x) (us : List Nat) {d : Nat} (hd : ∀ d', e.dst = some d' → d' = d) : Res e (iNck xa us e.clr d e.st) := by
  have hr := h.rep hx
  have hp : ∀ a, e.a.eval x = .pointer (some a) → (execOp e.a.eval e.o).run e.P e.w = .ok (.value (e.a.eval x)) e.w := fun a ha => by simp [execOp, ho, ha]
  cases hv : get e.st.tm xa with
  | pt id i o =>
    refine .eq (F' := fun k _ => k (.pt id i o) e.st) (fun k kp => by simp [iNck, hv, moveD]) ?_
    rw [hv] at hr
    obtain ⟨a, ha, _⟩ := RepA.pt_inv hr
    exact Res.val h (hp a ha) hr rfl
  | lp t o =>
    rw [hv] at hr
    obtain ⟨b, hb, ha⟩ := hr
    refine .eq (F' := fun k _ => bif hasN e.clr d then k (.lp t o) e.st else .bad) (fun k kp => by simp [iNck, hv, moveD]) ?_
    refine .bif (fun hc => ?_) (fun _ => .bad fun _ _ => rfl)
    exact .out (.value _ e.w (hp _ ha)) ⟨rfl, h.mem, GLe.refl _, .inl rfl, ⟨b, hb, ha⟩, fun d' q _ _ _ => .inr (hd d' q ▸ hc)⟩
  | ip cs =>
    rw [hv] at hr
    refine .eq (F' := fun k _ => .chk (Nat.ble 0 cs.length) (k (.ip cs) e.st)) (fun k kp => by simp [iNck, hv, moveD]) ?_
    obtain ⟨b, o, f, ha, _⟩ := RepA.ip_inv hr
    exact .chk fun _ => Res.val h (hp _ ha) hr rfl
  | _ => exact .bad fun k kp => by simp [iNck, hv, moveD]

/-- an address put on -/
theorem Res.move (h : e.St) {v : V} {cv : Value} (hr : RepT e.g e.ν v cv) {d off : Nat} (hd : ∀ d', e.dst = some d' → d' = d)
    (hf : ∀ a, cv = .pointer (some a) → (execOp e.a.eval e.o).run e.P e.w = .ok (.value (.pointer (some (a.add off)))) e.w) :
    Res e (fun k _ => moveD e.clr d off v fun v => k v e.st) := by
  cases v with
  | pt id i o =>
    obtain ⟨a, ha, hx⟩ := RepA.pt_inv hr
    have := hf a ha
    rcases hx with hx | ⟨r, hl, ea⟩
    · exact Res.val h this (.pt _ _ _ _ (.inl hx)) rfl
    · subst ea
      exact Res.val h this (.pt _ _ _ _ (.inr ⟨r, hl, by rw [ad_add]; simp only [Nat.add_assoc]⟩)) rfl
  | lp t o =>
    obtain ⟨b, hb, ha⟩ := hr
    refine .bif (F := fun k _ => k (.lp t (o + off)) e.st) (G := fun _ _ => .bad) (fun hc => ?_) (fun _ => .bad fun _ _ => rfl)
    exact .out (.value _ e.w (hf _ ha)) ⟨rfl, h.mem, GLe.refl _, .inl rfl, ⟨b, hb, by rw [ad_add]⟩, fun d' q _ _ _ => .inr (hd d' q ▸ hc)⟩
  | ip cs =>
    obtain ⟨b, o, f, ha, h1, h2⟩ := RepA.ip_inv hr
    refine .chk fun _ => Res.val h (hf _ ha) ?_ rfl
    rw [ad_add]
    exact .ip _ b (o + off) (fun i => f (off + i)) (fun i c hc => by
      rw [List.getElem?_drop] at hc
      rw [show o + off + i = o + (off + i) by omega]
      exact h1 _ c hc) (fun i c hc => by rw [List.getElem?_drop] at hc; exact h2 _ c hc)
  | _ => exact .bad fun k kp => rfl

theorem ok_fad (h : e.St) {s : TypeId} {x : Operand} {xa : A} {i n : Nat} {f : Field} (hf : Ev.field e.P s i = some f) (hn : Ev.size e.P f.type = some n) (h0 : n ≠ 0) (hx : cA x = some xa)
    (ho : e.o.op = .fieldAddr s x i) (us : List Nat) {d : Nat} (hd : ∀ d', e.dst = some d' → d' = d) : Res e (iFad f.offset xa us e.clr d e.st) := by
  refine Res.move h (h.rep hx) hd fun a ha => ?_
  unfold Ev.field at hf
  cases hu : e.P.underlying s with
  | none => simp [hu] at hf
  | some dd =>
    cases dd <;> simp only [hu, reduceCtorEq] at hf
    simp [execOp, ho, Instr.fieldAt, run_underlying hu, hf, ha, Instr.sureAddr, fieldPlace, run_size hn, h0]

theorem part_run {P : Program} {w : World} {t : TypeId} {n off : Nat} {gg : Bool} {arr : Array Value} (hs : Ev.size P t = some n) (hg : Ev.isAgg P t = some gg) (hl : off + n ≤ arr.size) (h1 : gg = true ∨ 0 < n) :
    (part t arr off).run P w = .ok (if gg then .agg (arr.extract off (off + n)) else arr.getD off undef) w := by
  simp only [part, Sem.run_bind, run_isAgg hg, Result.andThen]
  cases gg with
  | true => simp [run_size hs]
  | false =>
    have : off < arr.size := by
      rcases h1 with h1 | h1
      · cases h1
      · omega
    simp [Array.getElem?_eq_getElem this, Array.getD_eq_getD_getElem?]

theorem extract_eq {arr : Array Value} {off n : Nat} (hl : off + n ≤ arr.size) : arr.extract off (off + n) = ((List.range n).map fun j => arr.getD (off + j) undef).toArray := by
  apply Array.ext_getElem?
  intro i
  by_cases hi : i < n
  · rw [Array.getElem?_extract_of_lt (by omega)]
    simp [hi, Array.getD_eq_getD_getElem?, Array.getElem?_eq_getElem (by omega : off + i < arr.size)]
  · rw [Array.getElem?_eq_none (by simp; omega), Array.getElem?_eq_none (by simp; omega)]

/-- a part of a value -/
theorem Res.part (h : e.St) {v : V} {cs : List V} (hv : v = .ag cs) {cv : Value} (hr : RepT e.g e.ν v cv) {t : TypeId} {n off : Nat} {gg : Bool} (hs : Ev.size e.P t = some n) (hg : Ev.isAgg e.P t = some gg)
    (hf : ∀ arr cv', cv = .agg arr → (Go.part t arr off).run e.P e.w = .ok cv' e.w → (execOp e.a.eval e.o).run e.P e.w = .ok (.value cv') e.w) :
    Res e (fun k _ => cutD n off cs fun cs => Ev.oneD (pickC n gg cs) fun v => k v e.st) := by
  subst hv
  obtain ⟨arr, ha, hn, hk, hc⟩ := RepA.ag_inv hr
  refine Res.cut (f := fun cs k _ => Ev.oneD (pickC n gg cs) fun v => k v e.st) fun hl => ?_
  refine Res.oneD (f := fun v k _ => k v e.st) fun v hv => ?_
  have hgt : ∀ (j : Nat) (c : V), ((cs.drop off).take n)[j]? = some c → cs[off + j]? = some c := by
    intro j c hj
    have := lt_of_get hj
    rw [List.getElem?_take_of_lt (by simp at this; omega), List.getElem?_drop] at hj
    exact hj
  obtain ⟨h1, h2, h3⟩ := pickC_rep (g := e.g) (f := fun j => arr.getD (off + j) undef) (by simp; omega) (fun c hc => by
    obtain ⟨j, hj⟩ := List.getElem?_of_mem hc
    exact hk c (List.mem_of_getElem? (hgt j c hj))) (fun j c hj => hc _ c (hgt j c hj)) hv
  refine Res.val h (hf arr _ ha (part_run hs hg (by omega) h1)) ?_ h3
  rw [extract_eq (by omega)]
  simpa using h2

theorem ok_fld (h : e.St) {s : TypeId} {x : Operand} {xa : A} {i n : Nat} {gg : Bool} {f : Field} (hf : Ev.field e.P s i = some f) (hn : Ev.size e.P f.type = some n) (hg : Ev.isAgg e.P f.type = some gg) (hx : cA x = some xa)
    (ho : e.o.op = .field s x i) (us : List Nat) (d : Nat) : Res e (iFld f.offset n gg xa us e.clr d e.st) := by
  cases hv : get e.st.tm xa with
  | ag cs =>
    refine .eq (F' := fun k _ => cutD n f.offset cs fun cs => Ev.oneD (pickC n gg cs) fun v => k v e.st) (fun k kp => by simp [iFld, hv]) ?_
    refine Res.part h hv (h.rep hx) hn hg fun arr cv' ha hrun => ?_
    unfold Ev.field at hf
    cases hu : e.P.underlying s with
    | none => simp [hu] at hf
    | some dd =>
      cases dd <;> simp only [hu, reduceCtorEq] at hf
      simp [execOp, ho, Instr.field, run_underlying hu, hf, ha, asAgg, hrun]
  | _ => exact .bad fun k kp => by simp [iFld, hv]

theorem ok_ext (h : e.St) {x : Operand} {xa : A} {n : Nat} (hx : cA x = some xa) (ho : e.o.op = .extract x n) (us : List Nat) (d : Nat) : Res e (iExt xa n us e.clr d e.st) := by
  have hr := h.rep hx
  cases hv : get e.st.tm xa with
  | tu xs =>
    refine .eq (F' := fun k _ => oneD xs[n]? fun v => notLpD v fun v => k v e.st) (fun k kp => by simp [iExt, hv]) ?_
    rw [hv] at hr
    obtain ⟨arr, ha, hn, _, hc⟩ := RepA.tu_inv hr
    refine Res.oneD (f := fun v k _ => notLpD v fun v => k v e.st) fun v hv => ?_
    refine Res.notLp (f := fun v k _ => k v e.st) fun hl => ?_
    have hi := lt_of_get hv
    refine Res.val h ?_ (hc n v hv) hl
    have : arr[n]? = some (arr.getD n undef) := by simp [Array.getD_eq_getD_getElem?, Array.getElem?_eq_getElem (by omega : n < arr.size)]
    simp only [execOp, ho, ha, Instr.extract, Sem.run_bind]
    rw [this]; rfl
  | _ => exact .bad fun k kp => by simp [iExt, hv]

theorem ok_mki (h : e.St) {x : Operand} {xa : A} {t : TypeId} {dd : TypeDesc} (hu : e.P.underlying t = some dd) (hi : ∀ m, dd ≠ .interface m) (hx : cA x = some xa) (ho : e.o.op = .makeInterface t x) (us : List Nat) (d : Nat) :
    Res e (iMki t xa us e.clr d e.st) := by
  refine Res.notLp (f := fun v k _ => k (.fc t v) e.st) fun hl => ?_
  refine Res.val h (cv := .iface t (e.a.eval x)) ?_ (.fc t _ _ hl ((h.rep hx).toA hl)) rfl
  simp only [execOp, ho, Instr.makeInterface, Sem.run_bind, run_underlying hu, Result.andThen]
  cases dd <;> first | rfl | exact absurd rfl (hi _)

theorem ok_mkf (h : e.St) {f : FuncId} {first cap : Array Operand} {fa ca : List A} (hf : allSome cA first.toList = some fa) (hc : allSome cA cap.toList = some ca) (ho : e.o.op = .makeFunc (.func f) first cap) (us : List Nat) (d : Nat) :
    Res e (iMkf f fa ca us e.clr d e.st) := by
  refine .bif (F := fun _ _ => .bad) (G := fun k _ => bif (ca.map (get e.st.tm)).any isLp then .bad else k (.fn f (fa.map (get e.st.tm)) (ca.map (get e.st.tm))) e.st) (fun _ => .bad fun _ _ => rfl) (fun h1 => ?_)
  refine .bif (F := fun _ _ => .bad) (G := fun k _ => k (.fn f (fa.map (get e.st.tm)) (ca.map (get e.st.tm))) e.st) (fun _ => .bad fun _ _ => rfl) (fun h2 => ?_)
  have key : ∀ {ops : Array Operand} {as : List A}, allSome cA ops.toList = some as → (as.map (get e.st.tm)).any isLp = false →
      (ops.map e.a.eval).size = (as.map (get e.st.tm)).length ∧ (∀ x, x ∈ as.map (get e.st.tm) → isLp x = false) ∧ (∀ (i : Nat) (x : V), (as.map (get e.st.tm))[i]? = some x → RepA e.g x ((ops.map e.a.eval).getD i undef)) := by
    intro ops as ha hl
    have hall : ∀ x, x ∈ as.map (get e.st.tm) → isLp x = false := fun x hx => by
      have := List.any_eq_false.1 hl x hx; simpa using this
    refine ⟨by have := allSome_len ha; simp at this ⊢; omega, hall, fun i x hx => ?_⟩
    have hm := hall x (List.mem_of_getElem? hx)
    rw [List.getElem?_map] at hx
    cases hq : as[i]? with
    | none => simp [hq] at hx
    | some q =>
      simp only [hq, Option.map_some, Option.some.injEq] at hx; subst hx
      obtain ⟨y, hy, hcy⟩ := allSome_get ha i q hq
      have : (ops.map e.a.eval).getD i undef = e.a.eval y := by
        simp only [Array.getElem?_toList] at hy
        simp [Array.getD_eq_getD_getElem?, hy]
      rw [this]; exact (h.rep hcy).toA hm
  obtain ⟨a1, a2, a3⟩ := key hf h1
  obtain ⟨b1, b2, b3⟩ := key hc h2
  refine Res.val h (cv := .func (.func f) (first.map e.a.eval) (cap.map e.a.eval)) (by simp [execOp, ho, Instr.makeFunc]) (.fn f _ _ _ _ a1 b1 a2 b2 a3 b3) rfl

end
end Ev
