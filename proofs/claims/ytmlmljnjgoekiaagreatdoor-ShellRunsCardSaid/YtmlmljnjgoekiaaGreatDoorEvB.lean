import Derived.Test.YtmlmljnjgoekiaaGreatDoorEvA
import Derived.Deep.AppendSrc
import Derived.Laws.Strings
import Derived.Laws.BitsLemmas
import Derived.Laws.Strings2
import Derived.Laws.Slices
import Derived.Laws.BytesString
import Derived.Laws.StructEq
import Derived.Laws.MakeOwn
import Derived.Laws.AppendOwn
import Derived.Laws.IdiomStrings
import Derived.Laws.Tables
import Derived.Deep.Upon
set_option linter.unusedVariables false
set_option linter.unusedSimpArgs false
set_option linter.unusedSectionVars false
set_option linter.constructorNameAsVariable false
namespace Ev
variable [Glob]
open Go
theorem ad_add (b o n : Nat) : (ad b o).add n = ad b (o + n) := by unfold Addr.add ad; split <;> simp_all
theorem setCs_eq (w : World) (b : Nat) (vs : List Value) : ∀ o, setCs w b o vs = w.setCells b o vs := by
  induction vs generalizing w with
  | nil => intro o; rfl
  | cons v r ih => intro o; simp only [setCs, World.setCells]; exact ih _ _
theorem oneC' {v : Value} (h : oneC v = true) : v.oneCell' = true := by cases v <;> first | rfl | simp [oneC] at h
section
variable {P : Program}
theorem run_isAgg {t : TypeId} {g : Bool} (h : Ev.isAgg P t = some g) (w : World) : (Go.isAgg t).run P w = .ok g w := by
  unfold Ev.isAgg at h
  unfold Go.isAgg
  cases hu : P.underlying t with
  | none => simp [hu] at h
  | some d => cases d <;> simp_all [run_underlying hu, Result.andThen]
theorem size_info {t : TypeId} {n : Nat} (h : Ev.size P t = some n) : ∃ i, P.info? t = some i ∧ i.size = n := by
  unfold Ev.size at h
  cases hi : P.info? t with
  | none => simp [hi] at h
  | some i => exact ⟨i, rfl, by simpa [hi] using h⟩
theorem run_size {t : TypeId} {n : Nat} (h : Ev.size P t = some n) (w : World) : (Go.sizeOf t).run P w = .ok n w := by
  obtain ⟨i, hi, rfl⟩ := size_info h
  simp [Go.sizeOf, run_typeInfo w hi]
theorem run_loadVar {t : TypeId} {n : Nat} {gg : Bool} (hs : Ev.size P t = some n) (hg : Ev.isAgg P t = some gg) {w : World} {b o : Nat} {f : Nat → Value}
    (h : ∀ j, j < n → w.cell? (ad b (o + j)) = some (f j)) (h1 : gg = true ∨ 0 < n) :
    (loadVar t (ad b o)).run P w = .ok (if gg then .agg ((List.range n).map f).toArray else f 0) w := by
  simp only [loadVar, Sem.run_bind, run_isAgg hg, Result.andThen]
  cases gg with
  | true =>
    simp only [if_true, Sem.run_bind, run_size hs, Result.andThen]
    rw [run_loadCells w (ad b o) n f (fun j hj => by rw [ad_add]; exact h j hj)]
    rfl
  | false =>
    have := h 0 (by rcases h1 with h1 | h1 <;> simp_all)
    simp only [Nat.add_zero] at this
    simp [this]
theorem run_storeVar {t : TypeId} {w : World} {b o : Nat} {v : Value} (hs : Ev.size P t = some v.cells.size)
    (hc : ∀ j, j < v.cells.size → (w.cell? (ad b (o + j))).isSome = true) (hf : ∀ j, j < v.cells.size → w.frozen? (ad b (o + j)) = false) (h1 : ∀ x, x ∈ v.cells.toList → oneC x = true) :
    (storeVar t (ad b o) v).run P w = .ok () (setCs w b o v.cells.toList) := by
  have hst := run_storeCells_cells (P := P) b o v.cells.toList 0 w (by simpa [ad] using hc) (by simpa [ad] using hf) (fun x hx => oneC' (h1 x hx))
  simp only [storeVar, Sem.run_bind, run_size hs, Result.andThen, ne_eq, not_true, if_false]
  rw [setCs_eq]
  exact hst
end
section
variable {e : Env}
theorem Res.load (h : e.St) {n : Nat} {v : V} {cv : Value} (hr : RepT e.g e.ν v cv) {F : List V → (V → St → D) → (V → St → D) → D}
    (hF : ∀ cs b o (f : Nat → Value), cv = .pointer (some (ad b o)) → cs.length = n → (∀ (j : Nat) (c : V), cs[j]? = some c → c.keep = true ∧ e.w.cell? (ad b (o + j)) = some (f j) ∧ RepA e.g c (f j)) → Res e (F cs)) :
    Res e (fun k kp => loadD e.st n v fun cs => F cs k kp) := by
  have hgt : ∀ (cs : List V) (off j : Nat) (c : V), ((cs.drop off).take n)[j]? = some c → cs[off + j]? = some c := by
    intro cs off j c hj
    have := lt_of_get hj
    rw [List.getElem?_take_of_lt (by simp at this; omega), List.getElem?_drop] at hj
    exact hj
  cases v with
  | ip cs =>
    obtain ⟨b, o, f, rfl, h1, h2⟩ := RepA.ip_inv hr
    refine Res.cut (f := F) fun hl => hF _ b o f rfl (by simp; omega) fun j c hj => ?_
    have := hgt cs 0 j c hj
    rw [Nat.zero_add] at this
    exact ⟨(h1 j c this).1, h.mem.hr.kap _ _ _ (h1 j c this).2, .c _ _ (h2 j c this)⟩
  | lp t off =>
    obtain ⟨b, hb, rfl⟩ := hr
    cases hlo : e.st.lo t with
    | none => exact .bad fun k kp => by simp [loadD, hlo]
    | some cs =>
      refine .eq (F' := fun k kp => cutD n off cs fun cs => F cs k kp) (fun k kp => by simp [loadD, hlo]) ?_
      obtain ⟨hx, _⟩ := h.mem.lo.box t cs b hlo hb
      refine Res.cut (f := F) fun hl => hF _ b off (fun j => (e.w.cell? (ad b (off + j))).getD undef) rfl (by simp; omega) fun j c hj => ?_
      obtain ⟨a1, ⟨u, a2, a3⟩, _⟩ := hx (off + j) c (hgt cs off j c hj)
      refine ⟨a1, ?_, ?_⟩
      · simp only [a2, Option.getD_some]
      · simp only [a2, Option.getD_some]; exact a3
  | pt id i off =>
    obtain ⟨a, rfl, hx⟩ := RepA.pt_inv hr
    cases hg : hget e.st.hp id with
    | none => exact .bad fun k kp => by simp [loadD, hg]
    | some bk =>
      refine .eq (F' := fun k kp => .chk (Nat.blt i bk.es.length) (cutD n off (bk.es.getD i []) fun cs => F cs k kp)) (fun k kp => by simp [loadD, hg]) ?_
      refine .chk fun hi => ?_
      refine Res.cut (f := F) fun hl => ?_
      rcases hx with hx | ⟨r, hl1, rfl⟩
      · have := h.mem.hr.dead id hx; rw [this] at hg; cases hg
      · obtain ⟨bk0, e0, z⟩ := h.mem.hr.live id r hl1
        rw [hg] at e0; cases e0
        have hi' : i < bk.es.length := Nat.le_of_ble_eq_true hi
        have hrow : bk.es[i]? = some (bk.es.getD i []) := by simp [List.getD, List.getElem?_eq_getElem hi']
        refine hF _ r.b _ (fun j => (e.w.cell? (ad r.b (r.base + i * r.sz + off + j))).getD undef) rfl (by rw [List.length_take, List.length_drop]; omega) fun j c hj => ?_
        obtain ⟨a1, u, a2, a3⟩ := z.cont i (off + j) _ c hrow (hgt _ off j c hj)
        rw [show r.base + i * r.sz + (off + j) = r.base + i * r.sz + off + j by omega] at a2
        refine ⟨a1, ?_, ?_⟩
        · simp only [a2, Option.getD_some]
        · simp only [a2, Option.getD_some]; exact a3
  | _ => exact .bad fun k kp => rfl
theorem ok_mov (h : e.St) {x : Operand} {xa : A} (hx : cA x = some xa) (ho : e.o.op = .move x ∨ e.o.op = .assign x) (us : List Nat) (d : Nat) : Res e (iMov xa us e.clr d e.st) :=
  Res.notLp (f := fun v k _ => k v e.st) fun hl => Res.val h (by rcases ho with ho | ho <;> simp [execOp, ho]) ((h.rep hx).toA hl) hl
theorem ok_pick (h : e.St) {c x y : Operand} {ca xa ya : A} (hc : cA c = some ca) (hx : cA x = some xa) (hy : cA y = some ya) (ho : e.o.op = .pick c x y) (us : List Nat) (d : Nat) :
    Res e (iPick ca xa ya us e.clr d e.st) := by
  have hr := h.rep hc
  cases hv : get e.st.tm ca with
  | bo t =>
    refine .eq (F' := fun k kp => .br t (notLpD (get e.st.tm xa) fun v => k v e.st) (notLpD (get e.st.tm ya) fun v => k v e.st)) (fun k kp => by simp [iPick, hv]) ?_
    rw [hv] at hr
    have hb := RepA.bo_inv hr
    refine .br (fun ht => ?_) (fun ht => ?_)
    · exact Res.notLp (f := fun v k _ => k v e.st) fun hl => Res.val h (by simp [execOp, ho, hb, asBool, ht]) ((h.rep hx).toA hl) hl
    · exact Res.notLp (f := fun v k _ => k v e.st) fun hl => Res.val h (by simp [execOp, ho, hb, asBool, ht]) ((h.rep hy).toA hl) hl
  | _ => exact .bad fun k kp => by simp [iPick, hv]
theorem pickC_rep {g : G} {n : Nat} {gg : Bool} {cs : List V} {f : Nat → Value} (hn : cs.length = n) (hk : ∀ c, c ∈ cs → c.keep = true) (hr : ∀ (j : Nat) (c : V), cs[j]? = some c → RepA g c (f j))
    {v : V} (hp : pickC n gg cs = some v) : (gg = true ∨ 0 < n) ∧ RepA g v (if gg then .agg ((List.range n).map f).toArray else f 0) ∧ isLp v = false := by
  unfold pickC at hp
  cases gg with
  | true =>
    simp only [cond_true, Option.some.injEq] at hp; subst hp
    refine ⟨.inl rfl, .ag cs _ (by simp [hn]) hk (fun i c hc => ?_), rfl⟩
    have hi := lt_of_get hc
    have : ((List.range n).map f).toArray.getD i undef = f i := by simp [Array.getD_eq_getD_getElem?, List.getElem?_range (by omega : i < n)]
    rw [this]; exact hr i c hc
  | false =>
    simp only [cond_false] at hp
    cases hb : Nat.beq n 1 with
    | false => simp [hb] at hp
    | true =>
      simp only [hb, cond_true] at hp
      have := Nat.eq_of_beq_eq_true hb
      cases cs with
      | nil => simp at hp
      | cons c r =>
        simp only [List.head?_cons, Option.some.injEq] at hp; subst hp
        refine ⟨.inr (by omega), by simpa using hr 0 c rfl, ?_⟩
        have := hk c (by simp)
        cases c <;> simp_all [V.keep, isLp]
theorem ok_ld (h : e.St) {t : TypeId} {x : Operand} {xa : A} {n : Nat} {gg : Bool} (hs : Ev.size e.P t = some n) (hg : Ev.isAgg e.P t = some gg) (hx : cA x = some xa)
    (ho : e.o.op = .load t x) (us : List Nat) (d : Nat) : Res e (iLd n gg xa us e.clr d e.st) := by
  refine Res.load h (h.rep hx) (F := fun cs k _ => Ev.oneD (pickC n gg cs) fun v => k v e.st) fun cs b o f hcv hn hcs => ?_
  refine Res.oneD (f := fun v k _ => k v e.st) fun v hv => ?_
  obtain ⟨h1, h2, h3⟩ := pickC_rep (g := e.g) (f := f) hn (fun c hc => by obtain ⟨j, hj⟩ := List.getElem?_of_mem hc; exact (hcs j c hj).1) (fun j c hj => (hcs j c hj).2.2) hv
  refine Res.val h ?_ h2 h3
  have := run_loadVar (P := e.P) hs hg (w := e.w) (b := b) (o := o) (f := f) (fun j hj => (hcs j (cs[j]'(by omega)) (by rw [List.getElem?_eq_getElem])).2.1) h1
  simp [execOp, ho, hcv, Instr.loadAt, Instr.sureAddr, this]
theorem ok_ldl (h : e.St) {t : TypeId} {x : Operand} {xa : A} {n : Nat} {gg : Bool} (hs : Ev.size e.P t = some n) (hg : Ev.isAgg e.P t = some gg) (hx : cA x = some xa)
    (ho : e.o.op = .load t x) (us : List Nat) (d : Nat) : Res e (iLdl n gg xa us e.clr d e.st) := by
  cases hv : get e.st.tm xa with
  | lp t off => exact .eq (fun k kp => by simp only [iLdl, hv, iLd]) (ok_ld h hs hg hx ho us d)
  | _ => exact .bad fun k kp => by simp only [iLdl, hv]
theorem ok_nck (h : e.St) {x : Operand} {xa : A} (hx : cA x = some xa) (ho : e.o.op = .nilCheck x) (us : List Nat) {d : Nat} (hd : ∀ d', e.dst = some d' → d' = d) : Res e (iNck xa us e.clr d e.st) := by
  have hr := h.rep hx
  have hp : ∀ a, e.a.eval x = .pointer (some a) → (execOp e.a.eval e.o).run e.P e.w = .ok (.value (e.a.eval x)) e.w := fun a ha => by simp [execOp, ho, ha]
  cases hv : get e.st.tm xa with
  | pt id i o =>
    refine .eq (F' := fun k _ => k (.pt id i o) e.st) (fun k kp => by simp [iNck, hv, moveD]) ?_
    rw [hv] at hr
    obtain ⟨a, ha, _⟩ := RepA.pt_inv hr
    exact Res.val h (hp a ha) hr rfl
  | lp t o =>
    rw [hv] at hr
    obtain ⟨b, hb, ha⟩ := hr
    refine .eq (F' := fun k _ => bif hasN e.clr d then k (.lp t o) e.st else .bad) (fun k kp => by simp [iNck, hv, moveD]) ?_
    refine .bif (fun hc => ?_) (fun _ => .bad fun _ _ => rfl)
    exact .out (.value _ e.w (hp _ ha)) ⟨rfl, h.mem, GLe.refl _, .inl rfl, ⟨b, hb, ha⟩, fun d' q _ _ _ => .inr (hd d' q ▸ hc)⟩
  | ip cs =>
    rw [hv] at hr
    refine .eq (F' := fun k _ => .chk (Nat.ble 0 cs.length) (k (.ip cs) e.st)) (fun k kp => by simp [iNck, hv, moveD]) ?_
    obtain ⟨b, o, f, ha, _⟩ := RepA.ip_inv hr
    exact .chk fun _ => Res.val h (hp _ ha) hr rfl
  | _ => exact .bad fun k kp => by simp [iNck, hv, moveD]
theorem Res.move (h : e.St) {v : V} {cv : Value} (hr : RepT e.g e.ν v cv) {d off : Nat} (hd : ∀ d', e.dst = some d' → d' = d)
    (hf : ∀ a, cv = .pointer (some a) → (execOp e.a.eval e.o).run e.P e.w = .ok (.value (.pointer (some (a.add off)))) e.w) :
    Res e (fun k _ => moveD e.clr d off v fun v => k v e.st) := by
  cases v with
  | pt id i o =>
    obtain ⟨a, ha, hx⟩ := RepA.pt_inv hr
    have := hf a ha
    rcases hx with hx | ⟨r, hl, ea⟩
    · exact Res.val h this (.pt _ _ _ _ (.inl hx)) rfl
    · subst ea
      exact Res.val h this (.pt _ _ _ _ (.inr ⟨r, hl, by rw [ad_add]; simp only [Nat.add_assoc]⟩)) rfl
  | lp t o =>
    obtain ⟨b, hb, ha⟩ := hr
    refine .bif (F := fun k _ => k (.lp t (o + off)) e.st) (G := fun _ _ => .bad) (fun hc => ?_) (fun _ => .bad fun _ _ => rfl)
    exact .out (.value _ e.w (hf _ ha)) ⟨rfl, h.mem, GLe.refl _, .inl rfl, ⟨b, hb, by rw [ad_add]⟩, fun d' q _ _ _ => .inr (hd d' q ▸ hc)⟩
  | ip cs =>
    obtain ⟨b, o, f, ha, h1, h2⟩ := RepA.ip_inv hr
    refine .chk fun _ => Res.val h (hf _ ha) ?_ rfl
    rw [ad_add]
    exact .ip _ b (o + off) (fun i => f (off + i)) (fun i c hc => by
      rw [List.getElem?_drop] at hc
      rw [show o + off + i = o + (off + i) by omega]
      exact h1 _ c hc) (fun i c hc => by rw [List.getElem?_drop] at hc; exact h2 _ c hc)
  | _ => exact .bad fun k kp => rfl
theorem ok_fad (h : e.St) {s : TypeId} {x : Operand} {xa : A} {i n : Nat} {f : Field} (hf : Ev.field e.P s i = some f) (hn : Ev.size e.P f.type = some n) (h0 : n ≠ 0) (hx : cA x = some xa)
    (ho : e.o.op = .fieldAddr s x i) (us : List Nat) {d : Nat} (hd : ∀ d', e.dst = some d' → d' = d) : Res e (iFad f.offset xa us e.clr d e.st) := by
  refine Res.move h (h.rep hx) hd fun a ha => ?_
  unfold Ev.field at hf
  cases hu : e.P.underlying s with
  | none => simp [hu] at hf
  | some dd =>
    cases dd <;> simp only [hu, reduceCtorEq] at hf
    simp [execOp, ho, Instr.fieldAt, run_underlying hu, hf, ha, Instr.sureAddr, fieldPlace, run_size hn, h0]
theorem part_run {P : Program} {w : World} {t : TypeId} {n off : Nat} {gg : Bool} {arr : Array Value} (hs : Ev.size P t = some n) (hg : Ev.isAgg P t = some gg) (hl : off + n ≤ arr.size) (h1 : gg = true ∨ 0 < n) :
    (part t arr off).run P w = .ok (if gg then .agg (arr.extract off (off + n)) else arr.getD off undef) w := by
  simp only [part, Sem.run_bind, run_isAgg hg, Result.andThen]
  cases gg with
  | true => simp [run_size hs]
  | false =>
    have : off < arr.size := by
      rcases h1 with h1 | h1
      · cases h1
      · omega
    simp [Array.getElem?_eq_getElem this, Array.getD_eq_getD_getElem?]
theorem extract_eq {arr : Array Value} {off n : Nat} (hl : off + n ≤ arr.size) : arr.extract off (off + n) = ((List.range n).map fun j => arr.getD (off + j) undef).toArray := by
  apply Array.ext_getElem?
  intro i
  by_cases hi : i < n
  · rw [Array.getElem?_extract_of_lt (by omega)]
    simp [hi, Array.getD_eq_getD_getElem?, Array.getElem?_eq_getElem (by omega : off + i < arr.size)]
  · rw [Array.getElem?_eq_none (by simp; omega), Array.getElem?_eq_none (by simp; omega)]
theorem Res.part (h : e.St) {v : V} {cs : List V} (hv : v = .ag cs) {cv : Value} (hr : RepT e.g e.ν v cv) {t : TypeId} {n off : Nat} {gg : Bool} (hs : Ev.size e.P t = some n) (hg : Ev.isAgg e.P t = some gg)
    (hf : ∀ arr cv', cv = .agg arr → (Go.part t arr off).run e.P e.w = .ok cv' e.w → (execOp e.a.eval e.o).run e.P e.w = .ok (.value cv') e.w) :
    Res e (fun k _ => cutD n off cs fun cs => Ev.oneD (pickC n gg cs) fun v => k v e.st) := by
  subst hv
  obtain ⟨arr, ha, hn, hk, hc⟩ := RepA.ag_inv hr
  refine Res.cut (f := fun cs k _ => Ev.oneD (pickC n gg cs) fun v => k v e.st) fun hl => ?_
  refine Res.oneD (f := fun v k _ => k v e.st) fun v hv => ?_
  have hgt : ∀ (j : Nat) (c : V), ((cs.drop off).take n)[j]? = some c → cs[off + j]? = some c := by
    intro j c hj
    have := lt_of_get hj
    rw [List.getElem?_take_of_lt (by simp at this; omega), List.getElem?_drop] at hj
    exact hj
  obtain ⟨h1, h2, h3⟩ := pickC_rep (g := e.g) (f := fun j => arr.getD (off + j) undef) (by simp; omega) (fun c hc => by
    obtain ⟨j, hj⟩ := List.getElem?_of_mem hc
    exact hk c (List.mem_of_getElem? (hgt j c hj))) (fun j c hj => hc _ c (hgt j c hj)) hv
  refine Res.val h (hf arr _ ha (part_run hs hg (by omega) h1)) ?_ h3
  rw [extract_eq (by omega)]
  simpa using h2
theorem ok_fld (h : e.St) {s : TypeId} {x : Operand} {xa : A} {i n : Nat} {gg : Bool} {f : Field} (hf : Ev.field e.P s i = some f) (hn : Ev.size e.P f.type = some n) (hg : Ev.isAgg e.P f.type = some gg) (hx : cA x = some xa)
    (ho : e.o.op = .field s x i) (us : List Nat) (d : Nat) : Res e (iFld f.offset n gg xa us e.clr d e.st) := by
  cases hv : get e.st.tm xa with
  | ag cs =>
    refine .eq (F' := fun k _ => cutD n f.offset cs fun cs => Ev.oneD (pickC n gg cs) fun v => k v e.st) (fun k kp => by simp [iFld, hv]) ?_
    refine Res.part h hv (h.rep hx) hn hg fun arr cv' ha hrun => ?_
    unfold Ev.field at hf
    cases hu : e.P.underlying s with
    | none => simp [hu] at hf
    | some dd =>
      cases dd <;> simp only [hu, reduceCtorEq] at hf
      simp [execOp, ho, Instr.field, run_underlying hu, hf, ha, asAgg, hrun]
  | _ => exact .bad fun k kp => by simp [iFld, hv]
theorem ok_ext (h : e.St) {x : Operand} {xa : A} {n : Nat} (hx : cA x = some xa) (ho : e.o.op = .extract x n) (us : List Nat) (d : Nat) : Res e (iExt xa n us e.clr d e.st) := by
  have hr := h.rep hx
  cases hv : get e.st.tm xa with
  | tu xs =>
    refine .eq (F' := fun k _ => oneD xs[n]? fun v => notLpD v fun v => k v e.st) (fun k kp => by simp [iExt, hv]) ?_
    rw [hv] at hr
    obtain ⟨arr, ha, hn, _, hc⟩ := RepA.tu_inv hr
    refine Res.oneD (f := fun v k _ => notLpD v fun v => k v e.st) fun v hv => ?_
    refine Res.notLp (f := fun v k _ => k v e.st) fun hl => ?_
    have hi := lt_of_get hv
    refine Res.val h ?_ (hc n v hv) hl
    have : arr[n]? = some (arr.getD n undef) := by simp [Array.getD_eq_getD_getElem?, Array.getElem?_eq_getElem (by omega : n < arr.size)]
    simp only [execOp, ho, ha, Instr.extract, Sem.run_bind]
    rw [this]; rfl
  | _ => exact .bad fun k kp => by simp [iExt, hv]
theorem ok_mki (h : e.St) {x : Operand} {xa : A} {t : TypeId} {dd : TypeDesc} (hu : e.P.underlying t = some dd) (hi : ∀ m, dd ≠ .interface m) (hx : cA x = some xa) (ho : e.o.op = .makeInterface t x) (us : List Nat) (d : Nat) :
    Res e (iMki t xa us e.clr d e.st) := by
  refine Res.notLp (f := fun v k _ => k (.fc t v) e.st) fun hl => ?_
  refine Res.val h (cv := .iface t (e.a.eval x)) ?_ (.fc t _ _ hl ((h.rep hx).toA hl)) rfl
  simp only [execOp, ho, Instr.makeInterface, Sem.run_bind, run_underlying hu, Result.andThen]
  cases dd <;> first | rfl | exact absurd rfl (hi _)
theorem ok_mkf (h : e.St) {f : FuncId} {first cap : Array Operand} {fa ca : List A} (hf : allSome cA first.toList = some fa) (hc : allSome cA cap.toList = some ca) (ho : e.o.op = .makeFunc (.func f) first cap) (us : List Nat) (d : Nat) :
    Res e (iMkf f fa ca us e.clr d e.st) := by
  refine .bif (F := fun _ _ => .bad) (G := fun k _ => bif (ca.map (get e.st.tm)).any isLp then .bad else k (.fn f (fa.map (get e.st.tm)) (ca.map (get e.st.tm))) e.st) (fun _ => .bad fun _ _ => rfl) (fun h1 => ?_)
  refine .bif (F := fun _ _ => .bad) (G := fun k _ => k (.fn f (fa.map (get e.st.tm)) (ca.map (get e.st.tm))) e.st) (fun _ => .bad fun _ _ => rfl) (fun h2 => ?_)
  have key : ∀ {ops : Array Operand} {as : List A}, allSome cA ops.toList = some as → (as.map (get e.st.tm)).any isLp = false →
      (ops.map e.a.eval).size = (as.map (get e.st.tm)).length ∧ (∀ x, x ∈ as.map (get e.st.tm) → isLp x = false) ∧ (∀ (i : Nat) (x : V), (as.map (get e.st.tm))[i]? = some x → RepA e.g x ((ops.map e.a.eval).getD i undef)) := by
    intro ops as ha hl
    have hall : ∀ x, x ∈ as.map (get e.st.tm) → isLp x = false := fun x hx => by
      have := List.any_eq_false.1 hl x hx; simpa using this
    refine ⟨by have := allSome_len ha; simp at this ⊢; omega, hall, fun i x hx => ?_⟩
    have hm := hall x (List.mem_of_getElem? hx)
    rw [List.getElem?_map] at hx
    cases hq : as[i]? with
    | none => simp [hq] at hx
    | some q =>
      simp only [hq, Option.map_some, Option.some.injEq] at hx; subst hx
      obtain ⟨y, hy, hcy⟩ := allSome_get ha i q hq
      have : (ops.map e.a.eval).getD i undef = e.a.eval y := by
        simp only [Array.getElem?_toList] at hy
        simp [Array.getD_eq_getD_getElem?, hy]
      rw [this]; exact (h.rep hcy).toA hm
  obtain ⟨a1, a2, a3⟩ := key hf h1
  obtain ⟨b1, b2, b3⟩ := key hc h2
  refine Res.val h (cv := .func (.func f) (first.map e.a.eval) (cap.map e.a.eval)) (by simp [execOp, ho, Instr.makeFunc]) (.fn f _ _ _ _ a1 b1 a2 b2 a3 b3) rfl
end
end Ev
namespace Ev
variable [Glob]
open Go
theorem over_len {off : Nat} {xs cs : List V} (h : off + xs.length ≤ cs.length) : (over off xs cs).length = cs.length := by simp [over_eq]; omega
theorem over_get {off : Nat} {xs cs : List V} (h : off + xs.length ≤ cs.length) (j : Nat) :
    (over off xs cs)[j]? = if off ≤ j ∧ j < off + xs.length then xs[j - off]? else cs[j]? := by
  rw [over_eq]
  by_cases h1 : j < off
  · rw [List.getElem?_append_left (by simp; omega), List.getElem?_take_of_lt h1, if_neg (by omega)]
  · by_cases h2 : j < off + xs.length
    · rw [List.getElem?_append_right (by simp; omega), List.getElem?_append_left (by simp; omega), if_pos (by omega)]
      congr 1; simp; omega
    · rw [List.getElem?_append_right (by simp; omega), List.getElem?_append_right (by simp; omega), List.getElem?_drop, if_neg (by omega)]
      congr 1; simp; omega
theorem grow_alloc (w : World) (arr : Array Value) (t : TypeId) : Grow w (w.alloc (.cells arr t)) arr := ⟨⟨t, (0, 0), rfl, .inl rfl⟩, rfl, rfl⟩
theorem Grow.drew {w w' : World} {arr : Array Value} {gn : Nat} (h : Grow w.drew w' arr gn) : Grow w w' arr gn := by
  obtain ⟨e, fr, h1, h2⟩ := h.ex
  exact ⟨⟨e, fr, h1, h2⟩, h.os⟩
theorem zero_info {P : Program} {g : G} {t : TypeId} {z : List V} (h : Ev.zeroOf P t = some z) : ∃ i zv v, P.info? t = some i ∧ i.zero = some zv ∧ ofVal zv = some v ∧ v.cells = z ∧ zv.cells.size = z.length ∧
    (∀ c, c ∈ z → c.keep = true) ∧ (∀ (j : Nat) (c : V), z[j]? = some c → RepA g c (zv.cells.getD j undef)) := by
  unfold Ev.zeroOf at h
  cases hi : P.info? t with
  | none => simp [hi] at h
  | some i =>
    cases hz : i.zero with
    | none => simp [hi, hz] at h
    | some zv =>
      cases hv : ofVal zv with
      | none => simp [hi, hz, hv] at h
      | some v =>
        simp only [hi, hz, hv, Option.bind_some, Option.map_some, Option.some.injEq] at h
        subst h
        obtain ⟨h1, h2, h3⟩ := ofVal_rep (g := g) hv
        obtain ⟨c1, c2, c3⟩ := h1.cells h3
        exact ⟨i, zv, v, rfl, hz, hv, rfl, c1, c2, c3⟩
theorem run_zero {P : Program} {t : TypeId} {i : TypeInfo} {zv : Value} (hi : P.info? t = some i) (hz : i.zero = some zv) (w : World) : (zeroValue t).run P w = .ok zv w := by
  simp [zeroValue, run_typeInfo w hi, hz]
theorem hasN_mem {l : List Nat} {d : Nat} (h : hasN l d = true) : d ∈ l := by
  induction l with
  | nil => simp [hasN] at h
  | cons a r ih =>
    simp only [hasN] at h
    cases hb : Nat.beq a d with
    | true => rw [Nat.eq_of_beq_eq_true hb]; simp
    | false => simp only [hb, cond_false] at h; exact .tail _ (ih h)
theorem fresh_ne {us : List Nat} {tm : Tm} {d : Nat} (h : fresh us tm d = true) {t : Nat} (ht : t ∈ us) (off : Nat) : tm t ≠ .lp d off := by
  induction us with
  | nil => cases ht
  | cons a r ih =>
    simp only [fresh] at h
    intro e
    rcases List.mem_cons.1 ht with rfl | ht
    · simp [e] at h
    · have hr : fresh r tm d = true := by
        split at h
        · rename_i e' o' _
          cases hb : Nat.beq e' d with
          | true => simp [hb] at h
          | false => simpa [hb] using h
        · exact h
      exact ih hr ht e
section
variable {e : Env}
theorem Res.box (h : e.St) {cs : List V} {arr : Array Value} {w' : World} (hn : arr.size = cs.length) (hk : ∀ c, c ∈ cs → c.keep = true) (hr : ∀ (j : Nat) (c : V), cs[j]? = some c → RepA e.g c (arr.getD j undef))
    {us : List Nat} (hus : ∀ t, hasN e.clr t = true → t ∈ us) {d : Nat} (hd : e.dst = some d)
    (hf : (execOp e.a.eval e.o).run e.P e.w = .ok (.value (.pointer (some (ad e.w.heap.size 0)))) w') (hw : Grow e.w w' arr) :
    Res e (fun k _ => bif fresh us e.st.tm d then k (.lp d 0) (e.st.setLo d cs) else .bad) := by
  refine .bif (F := fun k _ => k (.lp d 0) (e.st.setLo d cs)) (G := fun _ _ => .bad) (fun hb => ?_) (fun _ => .bad fun _ _ => rfl)
  refine .out (.value _ w' hf) ⟨rfl, h.mem.box hw hn hk hr d, GLe.refl _, .inr ⟨d, hd, ⟨_, rfl⟩, fun t ht off hx => ?_⟩, ⟨_, by simp, rfl⟩, fun d' q e' off hx => by cases hx; rw [hd] at q; cases q; exact .inl rfl⟩
  rcases h.lps t d off hx with hx' | hx'
  · exact ht hx'
  · exact fresh_ne hb (hus t hx') off hx
theorem Res.obj (h : e.St) {cs : List V} {arr : Array Value} {w' : World} (hn : arr.size = cs.length) (hk : ∀ c, c ∈ cs → c.keep = true) (hr : ∀ (j : Nat) (c : V), cs[j]? = some c → RepA e.g c (arr.getD j undef))
    (hf : (execOp e.a.eval e.o).run e.P e.w = .ok (.value (.pointer (some (ad e.w.heap.size 0)))) w') (hw : Grow e.w w' arr) :
    Res e (fun k _ => k (.pt e.st.hp.next 0 0) (Ev.mk e.st ⟨cs.length, false, [cs]⟩)) := by
  have hrows : Rows e.g ⟨cs.length, false, [cs]⟩ 1 arr := ⟨rfl, by simp, by simp [hn], by simp, by simpa using hk, fun i j x c hx hc => by
    cases i with
    | zero => simp only [List.getElem?_cons_zero, Option.some.injEq] at hx; subst hx; simpa using hr j c hc
    | succ i => simp at hx⟩
  refine .out (.value _ w' hf) ⟨rfl, h.mem.new hw hrows, born_le h.mem.hr _, .inl rfl, .ofA (.pt _ _ _ _ (.inr ⟨⟨e.w.heap.size, 0, cs.length, 1⟩, by simp [born], by simp⟩)), fun _ _ _ _ hx => by cases hx⟩
theorem ok_alc (h : e.St) {t : TypeId} {z : List V} (hz : Ev.zeroOf e.P t = some z) (ho : e.o.op = .alloc t) {us : List Nat} (hus : ∀ t, hasN e.clr t = true → t ∈ us) {d : Nat} (hd : e.dst = some d) :
    Res e (iAlc z us e.clr d e.st) := by
  obtain ⟨i, zv, v, hi, hz, _, _, hn, hk, hr⟩ := zero_info (g := e.g) hz
  refine Res.box h hn hk hr hus hd ?_ (grow_alloc e.w zv.cells t)
  simp [execOp, ho, Instr.alloc, run_zero hi hz, newVar, newRow, ad]
theorem ok_alh (h : e.St) {t : TypeId} {z : List V} (hz : Ev.zeroOf e.P t = some z) (ho : e.o.op = .alloc t) (us : List Nat) (d : Nat) : Res e (iAlh z us e.clr d e.st) := by
  obtain ⟨i, zv, v, hi, hz, _, _, hn, hk, hr⟩ := zero_info (g := e.g) hz
  refine Res.obj h hn hk hr ?_ (grow_alloc e.w zv.cells t)
  simp [execOp, ho, Instr.alloc, run_zero hi hz, newVar, newRow, ad]
theorem keepLp {v : V} (h : v.cells.all V.keep = true) : isLp v = false := by
  cases v <;> simp_all [V.cells, V.keep, isLp]
theorem ok_box (h : e.St) {t : TypeId} {x : Operand} {xa : A} (hx : cA x = some xa) (ho : e.o.op = .box t x) {us : List Nat} (hus : ∀ t, hasN e.clr t = true → t ∈ us) {d : Nat} (hd : e.dst = some d) :
    Res e (iBox xa us e.clr d e.st) := by
  refine .bif (G := fun _ _ => .bad) (fun hb => ?_) (fun _ => .bad fun _ _ => rfl)
  obtain ⟨hn, hk, hr⟩ := ((h.rep hx).toA (keepLp hb)).cells hb
  refine Res.box h hn hk hr hus hd ?_ (grow_alloc e.w _ t)
  simp [execOp, ho, Instr.box, newVar, newRow, ad]
theorem ok_bxh (h : e.St) {t : TypeId} {x : Operand} {xa : A} (hx : cA x = some xa) (ho : e.o.op = .box t x) (us : List Nat) (d : Nat) : Res e (iBxh xa us e.clr d e.st) := by
  refine .bif (G := fun _ _ => .bad) (fun hb => ?_) (fun _ => .bad fun _ _ => rfl)
  obtain ⟨hn, hk, hr⟩ := ((h.rep hx).toA (keepLp hb)).cells hb
  refine Res.obj h hn hk hr ?_ (grow_alloc e.w _ t)
  simp [execOp, ho, Instr.box, newVar, newRow, ad]
theorem After.unit {st s : St} {w' : World} (ht : s.tm = st.tm) (hm : MemR e.E e.g e.ν s.lo s.hp w') : After e.E e.clr e.dst e.g e.ν st .un s undef w' e.g e.ν :=
  ⟨ht, hm, GLe.refl _, .inl rfl, .ofA (.un _), fun _ _ _ _ hx => by cases hx⟩
theorem ok_sto (h : e.St) {t : TypeId} {x y : Operand} {xa ya : A} {n : Nat} (hs : Ev.size e.P t = some n) (hx : cA x = some xa) (hy : cA y = some ya) (ho : e.o.op = .store t x y) (us : List Nat) (d : Nat) :
    Res e (iSto n xa ya us e.clr d e.st) := by
  refine .bif (G := fun _ _ => .bad) (fun hb0 => ?_) (fun _ => .bad fun _ _ => rfl)
  refine .bif (G := fun _ _ => .bad) (fun hb => ?_) (fun _ => .bad fun _ _ => rfl)
  have hlen := Nat.eq_of_beq_eq_true hb0
  obtain ⟨hn, hk, hr⟩ := ((h.rep hy).toA (keepLp hb)).cells hb
  have hone : ∀ c, c ∈ (e.a.eval y).cells.toList → oneC c = true := fun c hc => by
    obtain ⟨j, hj⟩ := List.getElem?_of_mem hc
    have hjl := lt_of_get hj
    simp only [Array.length_toList] at hjl
    have h1 := hr j (((get e.st.tm ya).cells)[j]'(by omega)) (by rw [List.getElem?_eq_getElem])
    have h2 := h1.oneC (hk _ (List.getElem_mem _))
    have : (e.a.eval y).cells.getD j undef = c := by simp only [Array.getElem?_toList] at hj; simp [Array.getD_eq_getD_getElem?, hj]
    rw [this] at h2; exact h2
  have hget' : ∀ (j : Nat) (c : V), (get e.st.tm ya).cells[j]? = some c → ∃ cv, (e.a.eval y).cells.toList[j]? = some cv ∧ RepA e.g c cv := fun j c hj => by
    have hjl := lt_of_get hj
    refine ⟨(e.a.eval y).cells.getD j undef, ?_, hr j c hj⟩
    simp [Array.getD_eq_getD_getElem?, Array.getElem?_eq_getElem (by omega : j < (e.a.eval y).cells.size)]
  have hrun : ∀ b o, e.a.eval x = .pointer (some (ad b o)) → (∀ j, j < (e.a.eval y).cells.size → (∃ u, e.w.cell? (ad b (o + j)) = some u) ∧ e.w.frozen? (ad b (o + j)) = false) →
      (execOp e.a.eval e.o).run e.P e.w = .ok .skip (setCs e.w b o (e.a.eval y).cells.toList) := fun b o hp hc => by
    have := run_storeVar (P := e.P) (t := t) (w := e.w) (b := b) (o := o) (v := e.a.eval y) (by rw [hs, hn, hlen]) (fun j hj => by obtain ⟨u, hu⟩ := (hc j hj).1; simp [hu]) (fun j hj => (hc j hj).2) hone
    simp [execOp, ho, hp, Instr.storeAt, Instr.sureAddr, this]
  have hra := h.rep hx
  cases hv : get e.st.tm xa with
  | lp t' off =>
    rw [hv] at hra
    obtain ⟨b, hb', hp⟩ := hra
    cases hlo : e.st.lo t' with
    | none => exact .bad fun k kp => by simp [storeD, hlo]
    | some cs =>
      refine .eq (F' := fun k _ => bif fresh us e.st.tm t' then .chk (Nat.ble (off + (get e.st.tm ya).cells.length) cs.length) (k .un (e.st.setLo t' (over off (get e.st.tm ya).cells cs))) else .bad) (fun k kp => by simp [storeD, hlo]) ?_
      refine .bif (F := fun k _ => .chk (Nat.ble (off + (get e.st.tm ya).cells.length) cs.length) (k .un (e.st.setLo t' (over off (get e.st.tm ya).cells cs)))) (G := fun _ _ => .bad) (fun _ => ?_) (fun _ => .bad fun _ _ => rfl)
      refine .chk fun hc => ?_
      have hc := Nat.le_of_ble_eq_true hc
      obtain ⟨hx1, _⟩ := h.mem.lo.box t' cs b hlo hb'
      refine .out (.skip _ (hrun b off hp fun j hj => ?_)) (.unit (s := e.st.setLo t' _) rfl ?_)
      · obtain ⟨_, ⟨u, hu, _⟩, hf⟩ := hx1 (off + j) (cs[off + j]'(by omega)) (by rw [List.getElem?_eq_getElem])
        exact ⟨⟨u, hu⟩, hf⟩
      · exact h.mem.setBox hlo hb' off _ _ hc (by simpa using hn) hk hget'
  | pt id i off =>
    rw [hv] at hra
    obtain ⟨a, hp, hx1⟩ := RepA.pt_inv hra
    cases hg : hget e.st.hp id with
    | none => exact .bad fun k kp => by simp [storeD, hg]
    | some bk =>
      refine .eq (F' := fun k _ => bif bk.fr then .bad else bif Nat.blt id e.st.hp.lim then .bad else bif freshH us e.st.tm id then
        .chk (Nat.blt i bk.es.length) (.chk (Nat.ble (off + (get e.st.tm ya).cells.length) (bk.es.getD i []).length)
        (k .un (e.st.setHp (hset e.st.hp id (some ⟨bk.sz, bk.fr, bk.es.set i (over off (get e.st.tm ya).cells (bk.es.getD i []))⟩))))) else .bad) (fun k kp => by simp [storeD, hg]) ?_
      refine .bif (F := fun _ _ => .bad) (G := fun k _ => bif Nat.blt id e.st.hp.lim then .bad else bif freshH us e.st.tm id then
        .chk (Nat.blt i bk.es.length) (.chk (Nat.ble (off + (get e.st.tm ya).cells.length) (bk.es.getD i []).length)
        (k .un (e.st.setHp (hset e.st.hp id (some ⟨bk.sz, bk.fr, bk.es.set i (over off (get e.st.tm ya).cells (bk.es.getD i []))⟩))))) else .bad) (fun _ => .bad fun _ _ => rfl) (fun hfr => ?_)
      refine .bif (F := fun _ _ => .bad) (G := fun k _ => bif freshH us e.st.tm id then
        .chk (Nat.blt i bk.es.length) (.chk (Nat.ble (off + (get e.st.tm ya).cells.length) (bk.es.getD i []).length)
        (k .un (e.st.setHp (hset e.st.hp id (some ⟨bk.sz, bk.fr, bk.es.set i (over off (get e.st.tm ya).cells (bk.es.getD i []))⟩))))) else .bad) (fun _ => .bad fun _ _ => rfl) (fun hlm => ?_)
      refine .bif (F := fun k _ => .chk (Nat.blt i bk.es.length) (.chk (Nat.ble (off + (get e.st.tm ya).cells.length) (bk.es.getD i []).length)
        (k .un (e.st.setHp (hset e.st.hp id (some ⟨bk.sz, bk.fr, bk.es.set i (over off (get e.st.tm ya).cells (bk.es.getD i []))⟩)))))) (G := fun _ _ => .bad) (fun _ => ?_) (fun _ => .bad fun _ _ => rfl)
      refine .chk fun hi => .chk fun hc => ?_
      have hc := Nat.le_of_ble_eq_true hc
      have hi : i < bk.es.length := Nat.le_of_ble_eq_true hi
      have hlim : e.st.hp.lim ≤ id := by
        rcases Nat.lt_or_ge id e.st.hp.lim with q | q
        · have : Nat.blt id e.st.hp.lim = true := by simpa [Nat.blt_eq] using q
          rw [this] at hlm; cases hlm
        · exact q
      rcases hx1 with hx1 | ⟨r, hl, rfl⟩
      · rw [h.mem.hr.dead id hx1] at hg; cases hg
      · obtain ⟨bk0, e0, z⟩ := h.mem.hr.live id r hl
        rw [hg] at e0; cases e0
        have hrow : bk.es[i]? = some (bk.es.getD i []) := by simp [List.getD, List.getElem?_eq_getElem hi]
        have hrl : (bk.es.getD i []).length = bk.sz := z.row _ (List.mem_of_getElem? hrow)
        have hmul : i * r.sz + bk.sz ≤ r.cap * r.sz := by
          have : (i + 1) * r.sz ≤ r.cap * r.sz := Nat.mul_le_mul_right _ (by have := z.len; omega)
          rw [Nat.add_mul, Nat.one_mul, z.sz] at this
          rw [z.sz]; exact this
        refine .out (.skip _ (hrun r.b _ hp fun j hj => ?_)) (.unit (s := e.st.setHp _) rfl ?_)
        · have hx2 := z.rw hfr (i * r.sz + off + j) (by omega)
          rw [show r.base + i * r.sz + off + j = r.base + (i * r.sz + off + j) by omega]
          exact ⟨hx2.1, hx2.2.1⟩
        · have := h.mem.write hl hg hfr hlim (bk' := ⟨bk.sz, bk.fr, bk.es.set i (over off (get e.st.tm ya).cells (bk.es.getD i []))⟩) (i * r.sz + off) (e.a.eval y).cells.toList (by simp; omega) rfl hfr (by simpa using z.len)
            (fun x hx => by
              rcases List.mem_or_eq_of_mem_set hx with hx | hx
              · exact z.row x hx
              · rw [hx, over_len hc]; exact hrl)
            (fun i' j x c hx' hc' => by
              have hvl : (e.a.eval y).cells.toList.length = (get e.st.tm ya).cells.length := by simpa using hn
              rw [List.getElem?_set] at hx'
              by_cases hii : i = i'
              · subst hii
                simp only [if_true, hi, Option.some.injEq] at hx'
                subst hx'
                have hjl := lt_of_get hc'
                rw [over_len hc] at hjl
                rw [over_get hc] at hc'
                by_cases hin : off ≤ j ∧ j < off + (get e.st.tm ya).cells.length
                · rw [if_pos hin] at hc'
                  rw [z.sz, if_pos (by omega)]
                  refine ⟨hk c (List.mem_of_getElem? hc'), ?_⟩
                  have := hget' _ c hc'
                  rwa [show i * bk.sz + j - (i * bk.sz + off) = j - off by omega]
                · rw [if_neg hin] at hc'
                  rw [z.sz, if_neg (by omega)]
                  obtain ⟨k1, u, k2, k3⟩ := z.cont i j _ c hrow hc'
                  refine ⟨k1, u, ?_, k3⟩
                  rw [z.sz, Nat.add_assoc] at k2; exact k2
              · simp only [hii, if_false] at hx'
                have hjl := lt_of_get hc'
                rw [z.row x (List.mem_of_getElem? hx')] at hjl
                obtain ⟨k1, u, k2, k3⟩ := z.cont i' j _ c hx' hc'
                have hout : ¬ (i * r.sz + off ≤ i' * bk.sz + j ∧ i' * bk.sz + j < i * r.sz + off + (e.a.eval y).cells.toList.length) := by
                  rw [z.sz]
                  rcases Nat.lt_or_gt_of_ne hii with q | q
                  · have : (i + 1) * bk.sz ≤ i' * bk.sz := Nat.mul_le_mul_right _ q
                    rw [Nat.add_mul, Nat.one_mul] at this
                    omega
                  · have : (i' + 1) * bk.sz ≤ i * bk.sz := Nat.mul_le_mul_right _ q
                    rw [Nat.add_mul, Nat.one_mul] at this
                    omega
                rw [if_neg hout]
                refine ⟨k1, u, ?_, k3⟩
                rw [z.sz, Nat.add_assoc] at k2; exact k2)
          rwa [show r.base + (i * r.sz + off) = r.base + i * r.sz + off by omega] at this
  | _ => exact .bad fun k kp => by simp [storeD]
end
end Ev
namespace Ev
variable [Glob]
open Go
theorem bltT {a b : Nat} (h : a < b) : Nat.blt a b = true := by simpa [Nat.blt_eq] using h
theorem bltL {a b : Nat} (h : Nat.blt a b = true) : a < b := by simpa [Nat.blt_eq] using h
theorem bltG {a b : Nat} (h : Nat.blt a b = false) : b ≤ a := by
  rcases Nat.lt_or_ge a b with q | q
  · rw [bltT q] at h; cases h
  · exact q
theorem wrS_eq (half : Nat) (h : 0 < half) (n : Int) : wrS half (2 * half) n = if n % (2 * half : Nat) ≥ (half : Int) then n % (2 * half : Nat) - (2 * half : Nat) else n % (2 * half : Nat) := by
  cases n with
  | ofNat a =>
    have hm := Nat.mod_lt a (by omega : 0 < 2 * half)
    have e : (Int.ofNat a) % ((2 * half : Nat) : Int) = ((a % (2 * half) : Nat) : Int) := rfl
    rw [e]
    simp only [wrS]
    cases hb : Nat.blt (a % (2 * half)) half with
    | true =>
      have hb := bltL hb
      rw [if_neg (by omega)]; rfl
    | false =>
      have hb' : ¬ a % (2 * half) < half := Nat.not_lt.2 (bltG hb)
      rw [if_pos (by omega)]
      simp only [cond_false, Int.negSucc_eq]; omega
  | negSucc a =>
    have hm := Nat.mod_lt a (by omega : 0 < 2 * half)
    have e : (Int.negSucc a) % ((2 * half : Nat) : Int) = ((2 * half - 1 - a % (2 * half) : Nat) : Int) := by
      rw [Int.negSucc_emod _ (by omega)]
      have : ((a : Int) % ((2 * half : Nat) : Int)) = ((a % (2 * half) : Nat) : Int) := rfl
      rw [this]; omega
    rw [e]
    simp only [wrS]
    cases hb : Nat.blt (a % (2 * half)) half with
    | true =>
      have hb := bltL hb
      rw [if_pos (by omega)]
      simp only [cond_true, Int.negSucc_eq]; omega
    | false =>
      have hb' : ¬ a % (2 * half) < half := Nat.not_lt.2 (bltG hb)
      rw [if_neg (by omega)]; rfl
theorem wrU_eq (full : Nat) (h : 0 < full) (n : Int) : wrU full n = n % (full : Int) := by
  cases n with
  | ofNat a => rfl
  | negSucc a =>
    have hm := Nat.mod_lt a h
    rw [Int.negSucc_emod _ (by omega)]
    have : ((a : Int) % ((full : Nat) : Int)) = ((a % full : Nat) : Int) := rfl
    rw [this]
    simp only [wrU, Int.ofNat_eq_natCast]; omega
theorem wr_eq (k : IntKind) (n : Int) : wr k n = k.wrap n := by
  cases k with
  | i8 => rw [show wr .i8 n = wrS 128 (2 * 128) n from rfl, wrS_eq 128 (by omega)]; simp [IntKind.wrap, IntKind.bits, IntKind.signed]
  | i16 => rw [show wr .i16 n = wrS 32768 (2 * 32768) n from rfl, wrS_eq 32768 (by omega)]; simp [IntKind.wrap, IntKind.bits, IntKind.signed]
  | i32 => rw [show wr .i32 n = wrS 2147483648 (2 * 2147483648) n from rfl, wrS_eq 2147483648 (by omega)]; simp [IntKind.wrap, IntKind.bits, IntKind.signed]
  | i64 => rw [show wr .i64 n = wrS 9223372036854775808 (2 * 9223372036854775808) n from rfl, wrS_eq 9223372036854775808 (by omega)]; simp [IntKind.wrap, IntKind.bits, IntKind.signed]
  | u8 => rw [show wr .u8 n = wrU 256 n from rfl, wrU_eq 256 (by omega)]; simp [IntKind.wrap, IntKind.bits, IntKind.signed]
  | u16 => rw [show wr .u16 n = wrU 65536 n from rfl, wrU_eq 65536 (by omega)]; simp [IntKind.wrap, IntKind.bits, IntKind.signed]
  | u32 => rw [show wr .u32 n = wrU 4294967296 n from rfl, wrU_eq 4294967296 (by omega)]; simp [IntKind.wrap, IntKind.bits, IntKind.signed]
  | u64 => rw [show wr .u64 n = wrU 18446744073709551616 n from rfl, wrU_eq 18446744073709551616 (by omega)]; simp [IntKind.wrap, IntKind.bits, IntKind.signed]
theorem ilt_eq (a b : Int) : ilt a b = decide (a < b) := by
  cases a <;> cases b <;> simp only [ilt]
  · rename_i a b
    cases hb : Nat.blt a b <;> simp [Nat.blt_eq, Bool.eq_false_iff] at hb <;> simp <;> omega
  · simp; omega
  · simp; omega
  · rename_i a b
    cases hb : Nat.blt b a <;> simp [Nat.blt_eq, Bool.eq_false_iff] at hb <;> simp <;> omega
theorem ieq_eq (a b : Int) : ieq a b = (a == b) := by
  cases a <;> cases b <;> simp only [ieq]
  · rename_i a b
    cases hb : Nat.beq a b
    · have := Nat.ne_of_beq_eq_false hb; simp; omega
    · have := Nat.eq_of_beq_eq_true hb; simp [this]
  · symm; simp
  · symm; simp
  · rename_i a b
    cases hb : Nat.beq a b
    · have := Nat.ne_of_beq_eq_false hb; simp; omega
    · have := Nat.eq_of_beq_eq_true hb; simp [this]
theorem keq_eq {k k' : IntKind} (h : keq k k' = true) : k = k' := by cases k <;> cases k' <;> first | rfl | simp [keq] at h
theorem kbits_eq (k : IntKind) : kbits k = k.bits := by cases k <;> rfl
theorem toU_eq (n : Nat) (x : Int) : toU (2 ^ n) x = (BitVec.ofInt n x).toNat := by
  rw [BitVec.toNat_ofInt]
  cases x with
  | ofNat a => simp only [toU, Int.ofNat_eq_natCast]; norm_cast
  | negSucc a =>
    have hp : 0 < 2 ^ n := Nat.two_pow_pos n
    have hm := Nat.mod_lt a hp
    rw [Int.negSucc_emod _ (by omega)]
    have : ((a : Int) % ((2 ^ n : Nat) : Int)) = ((a % 2 ^ n : Nat) : Int) := rfl
    rw [this]
    simp only [toU]
    omega
theorem beqL_eq : ∀ (a b : List Nat), beqL a b = (a == b)
  | [], [] => rfl
  | [], _ :: _ => rfl
  | _ :: _, [] => rfl
  | x :: a, y :: b => by
    simp only [beqL, List.cons_beq_cons, beqL_eq a b]
    cases h : Nat.beq x y
    · have := Nat.ne_of_beq_eq_false h; simp [this]
    · have := Nat.eq_of_beq_eq_true h; simp [this]
theorem beqL_bytes (a b : List UInt8) : beqL (a.map UInt8.toNat) (b.map UInt8.toNat) = (a == b) := by
  rw [beqL_eq]
  induction a generalizing b with
  | nil => cases b <;> rfl
  | cons x a ih =>
    cases b with
    | nil => rfl
    | cons y b =>
      simp only [List.map_cons, List.cons_beq_cons, ih]
      have hb : (x.toNat == y.toNat) = (x == y) := by
        by_cases h : x = y
        · subst h; simp
        · have h' : x.toNat ≠ y.toNat := fun e => h (UInt8.toNat_inj.1 e)
          rw [beq_false_of_ne h, beq_false_of_ne h']
      rw [hb]
theorem strLt_bytes : ∀ (a b : List UInt8), strLt (a.map UInt8.toNat) (b.map UInt8.toNat) = Op.bytesLess a b
  | _, [] => by simp [strLt, Op.bytesLess]
  | [], _ :: _ => by simp [strLt, Op.bytesLess]
  | x :: a, y :: b => by
    simp only [List.map_cons, strLt, Op.bytesLess, strLt_bytes a b]
    by_cases h : x.toNat < y.toNat
    · have h1 : Nat.blt x.toNat y.toNat = true := by simpa [Nat.blt_eq] using h
      have h2 : x < y := UInt8.lt_iff_toNat_lt.2 h
      simp [h1, h2]
    · have h1 : Nat.blt x.toNat y.toNat = false := by
        cases q : Nat.blt x.toNat y.toNat
        · rfl
        · exact absurd (by simpa [Nat.blt_eq] using q) h
      have h2 : ¬ x < y := fun q => h (UInt8.lt_iff_toNat_lt.1 q)
      simp only [h1, cond_false, h2, decide_false, Bool.false_or]
      by_cases he : x = y
      · subst he; simp
      · have : Nat.beq x.toNat y.toNat = false := beqF' (fun e => he (UInt8.toNat_inj.1 e))
        simp [this, he]
where
  beqF' {a b : Nat} (h : a ≠ b) : Nat.beq a b = false := beqF h
end Ev
namespace Ev
variable [Glob]
open Go
section
variable {e : Env}
theorem ok_un (h : e.St) {t : TypeId} {x : Operand} {xa : A} {op : UnOp} (hx : cA x = some xa) (ho : e.o.op = .unOp op t x) (us : List Nat) (d : Nat) : Res e (iUn op xa us e.clr d e.st) := by
  have hr := h.rep hx
  refine Res.oneD (f := fun v k _ => k v e.st) fun v hv => ?_
  cases hg : get e.st.tm xa with
  | bo b =>
    rw [hg] at hr hv
    have hb := RepA.bo_inv hr
    cases op <;> simp only [unop, Option.some.injEq, reduceCtorEq] at hv
    subst hv
    exact Res.val h (by simp [execOp, ho, hb, Op.unary]) (.c _ _ (.bo _)) rfl
  | it k n =>
    rw [hg] at hr hv
    have hb := RepA.it_inv hr
    cases op <;> simp only [unop, Option.some.injEq, reduceCtorEq] at hv
    · subst hv
      refine Res.val h (cv := .int k (k.wrap (0 - n))) (by simp [execOp, ho, hb, Op.unary, Op.intArith]) ?_ rfl
      rw [wr_eq]; exact .c _ _ (.it _ _)
    · subst hv
      have e1 : (BitVec.ofInt k.bits (if k.signed then -1 else k.max)) = BitVec.ofInt k.bits (-1) := by
        cases k <;> rfl
      refine Res.val h (cv := .int k (k.wrap ((BitVec.ofInt k.bits (-1) ^^^ BitVec.ofInt k.bits n).toNat))) (by
        simp only [execOp, ho, hb, Op.unary, Op.intBits, e1]; rfl) ?_ rfl
      rw [wr_eq, kbits_eq, toU_eq, toU_eq, show Nat.xor (BitVec.ofInt k.bits (-1)).toNat (BitVec.ofInt k.bits n).toNat = (BitVec.ofInt k.bits (-1) ^^^ BitVec.ofInt k.bits n).toNat from (BitVec.toNat_xor _ _).symm]
      exact .c _ _ (.it _ _)
  | _ => rw [hg] at hv; cases op <;> simp [unop] at hv
theorem run_sliceB {P : Program} {w : World} {v : Value} {k : IntKind} {n : Int} (hv : v = .int k n) {y : Nat} {code : BoundsCode} (h0 : 0 ≤ n) (h1 : n.toNat ≤ y) : (Instr.sliceBound v y code).run P w = .ok n.toNat w := by
  subst hv; exact run_sliceBound w k n y code h0 (by omega)
theorem Res.nat' (h : e.St) {x : Operand} {xa : A} (hx : cA x = some xa) {f : Nat → (V → St → D) → (V → St → D) → D} (hf : ∀ k n, e.a.eval x = .int k n → 0 ≤ n → Res e (f n.toNat)) :
    Res e (fun k kp => natD (get e.st.tm xa) fun v => f v k kp) :=
  Res.nat fun k n hg h0 => hf k n (by have := h.rep hx; rw [hg] at this; exact RepA.it_inv this) h0
theorem Res.hget {id : Nat} {F : Bk → (V → St → D) → (V → St → D) → D} (hf : ∀ bk, Ev.hget e.st.hp id = some bk → Res e (F bk)) :
    Res e (fun k kp => match Ev.hget e.st.hp id with | some b => F b k kp | none => .bad) := by
  cases hg : Ev.hget e.st.hp id with
  | none => exact .bad fun _ _ => rfl
  | some bk => exact hf bk hg
theorem ok_ias (h : e.St) {t elem : TypeId} {x i : Operand} {xa ia : A} {sz : Nat} (hu : e.P.underlying t = some (.slice elem)) (hs : Ev.size e.P elem = some sz) (hx : cA x = some xa) (hi : cA i = some ia)
    (ho : e.o.op = .indexAddr t x i) (us : List Nat) (d : Nat) : Res e (iIas sz xa ia us e.clr d e.st) := by
  refine Res.nat' h hi (f := fun n k _ => match get e.st.tm xa with
    | .vs m es => bif Nat.beq m sz then .chk (Nat.blt n es.length) (k (.ip (es.getD n [])) e.st) else .bad
    | .hs id i0 len => match Ev.hget e.st.hp id with
      | some b => bif Nat.beq b.sz sz then .chk (Nat.blt n len) (k (.pt id (i0 + n) 0) e.st) else .bad
      | none => .bad
    | _ => .bad) fun kk n hiv h0 => ?_
  have hr := h.rep hx
  have hrun : ∀ a len cap, e.a.eval x = .slice (some a) len cap → n.toNat < len → (execOp e.a.eval e.o).run e.P e.w = .ok (.value (.pointer (some (a.add (n.toNat * sz))))) e.w := by
    intro a len cap hxv hlt
    have hc : 0 ≤ n ∧ n < (len : Int) := ⟨h0, by omega⟩
    simp [execOp, ho, hxv, hiv, Instr.indexAt, asIntOf, run_underlying hu, hc, run_size hs]
  cases hg : get e.st.tm xa with
  | vs m es =>
    refine .bif (F := fun k _ => .chk (Nat.blt n.toNat es.length) (k (.ip (es.getD n.toNat [])) e.st)) (G := fun _ _ => .bad) (fun hm => ?_) (fun _ => .bad fun _ _ => rfl)
    have hm := Nat.eq_of_beq_eq_true hm
    subst hm
    refine .chk fun hb => ?_
    have hb := bltL hb
    rw [hg] at hr
    obtain ⟨a, cap, b, o, f, hxv, h1, h2, h3, h4, h5⟩ := RepA.vs_inv hr
    have ha := h2 (by intro q; subst q; simp at hb)
    subst ha
    have hrow : es[n.toNat]? = some (es.getD n.toNat []) := by simp [List.getD, List.getElem?_eq_getElem hb]
    refine Res.val h (hrun _ _ _ hxv hb) ?_ rfl
    rw [ad_add]
    exact .ip _ b _ (f n.toNat) (fun j c hc => h4 _ j _ c hrow hc) (fun j c hc => h5 _ j _ c hrow hc)
  | hs id i0 len =>
    refine Res.hget (F := fun b k _ => bif Nat.beq b.sz sz then .chk (Nat.blt n.toNat len) (k (.pt id (i0 + n.toNat) 0) e.st) else .bad) fun bk hbk => ?_
    refine .bif (F := fun k _ => .chk (Nat.blt n.toNat len) (k (.pt id (i0 + n.toNat) 0) e.st)) (G := fun _ _ => .bad) (fun hm => ?_) (fun _ => .bad fun _ _ => rfl)
    have hm := Nat.eq_of_beq_eq_true hm
    refine .chk fun hb => ?_
    have hb := bltL hb
    rw [hg] at hr
    obtain ⟨a, cap, hxv, h1, h2⟩ := RepA.hs_inv hr
    rcases h2 with h2 | ⟨r, hl, h2⟩
    · rw [h.mem.hr.dead id h2] at hbk; cases hbk
    · obtain ⟨bk0, e0, z⟩ := h.mem.hr.live id r hl
      rw [hbk] at e0; cases e0
      rcases h2 with h2 | ⟨h2, h3⟩
      · omega
      · subst h2
        refine Res.val h (hrun _ _ _ hxv hb) ?_ rfl
        rw [ad_add]
        refine .pt _ _ _ _ (.inr ⟨r, hl, ?_⟩)
        rw [z.sz, hm, Nat.add_mul]; congr 1; omega
  | _ => exact .bad fun _ _ => rfl
theorem ok_iaa (h : e.St) {t elem : TypeId} {x i : Operand} {xa ia : A} {len sz : Nat} (hu : e.P.underlying t = some (.array len elem)) (hs : Ev.size e.P elem = some sz) (hx : cA x = some xa) (hi : cA i = some ia)
    (ho : e.o.op = .indexAddr t x i) (us : List Nat) {d : Nat} (hd : ∀ d', e.dst = some d' → d' = d) : Res e (iIaa len sz xa ia us e.clr d e.st) := by
  refine Res.nat' h hi (f := fun n k _ => .chk (Nat.blt n len) (moveD e.clr d (n * sz) (get e.st.tm xa) fun v => k v e.st)) fun kk n hiv h0 => ?_
  refine .chk fun hb => ?_
  have hb := bltL hb
  refine Res.move h (h.rep hx) hd fun a ha => ?_
  have hc : 0 ≤ n ∧ n < (len : Int) := ⟨h0, by omega⟩
  simp [execOp, ho, ha, hiv, Instr.indexAt, Instr.sureAddr, asIntOf, run_underlying hu, hc, run_size hs]
theorem ok_ixs (h : e.St) {t : TypeId} {x i : Operand} {xa ia : A} (hu : e.P.underlying t = some .string) (hx : cA x = some xa) (hi : cA i = some ia) (ho : e.o.op = .index t x i) (us : List Nat) (d : Nat) :
    Res e (iIxs xa ia us e.clr d e.st) := by
  refine Res.nat' h hi (f := fun n k _ => match get e.st.tm xa with
    | .st s => .chk (Nat.blt n s.length) (k (byte (s.getD n 0)) e.st)
    | _ => .bad) fun kk n hiv h0 => ?_
  have hr := h.rep hx
  cases hg : get e.st.tm xa with
  | st l =>
    refine .chk fun hb => ?_
    have hb := bltL hb
    rw [hg] at hr
    obtain ⟨s, hs, hl⟩ := RepA.st_inv hr
    have hsz : s.size = l.length := by rw [← hl, List.length_map, Array.length_toList]; rfl
    have hc : 0 ≤ n ∧ n < (s.size : Int) := ⟨h0, by omega⟩
    have hv : byte (l.getD n.toNat 0) = .it .u8 ((s[n.toNat]'(by omega)).toNat : Int) := by
      subst hl
      unfold byte
      simp only [List.getD_eq_getElem?_getD, List.getElem?_map, Array.getElem?_toList, Int.ofNat_eq_natCast]
      have hlt : n.toNat < s.data.size := by have : s.size = s.data.size := rfl; omega
      rw [Array.getElem?_eq_getElem hlt]
      rfl
    rw [hv]
    refine Res.val h (cv := .int .u8 ((s[n.toNat]'(by omega)).toNat : Int)) ?_ (.c _ _ (.it _ _)) rfl
    simp only [execOp, ho, hs, hiv, Sem.run_bind, run_index_string e.w t s kk n hu, hc, and_self, dif_pos, Result.andThen_ok, Sem.run_pure]
  | _ => exact .bad fun _ _ => rfl
theorem ok_ixa (h : e.St) {t elem : TypeId} {x i : Operand} {xa ia : A} {len sz : Nat} {gg : Bool} (hu : e.P.underlying t = some (.array len elem)) (hs : Ev.size e.P elem = some sz) (hgg : Ev.isAgg e.P elem = some gg) (hx : cA x = some xa) (hi : cA i = some ia)
    (ho : e.o.op = .index t x i) (us : List Nat) (d : Nat) : Res e (iIxa len sz gg xa ia us e.clr d e.st) := by
  refine Res.nat' h hi (f := fun n k _ => match get e.st.tm xa with
    | .ag cs => .chk (Nat.blt n len) (cutD sz (n * sz) cs fun cs => Ev.oneD (pickC sz gg cs) fun v => k v e.st)
    | _ => .bad) fun kk n hiv h0 => ?_
  have hr := h.rep hx
  cases hg : get e.st.tm xa with
  | ag cs =>
    refine .chk fun hb => ?_
    have hb := bltL hb
    rw [hg] at hr
    refine Res.part h rfl hr hs hgg fun arr cv' ha hrun => ?_
    have hc : 0 ≤ n ∧ n < (len : Int) := ⟨h0, by omega⟩
    simp [execOp, ho, ha, hiv, Instr.index, asIntOf, run_underlying hu, hc, run_size hs, hrun]
  | _ => exact .bad fun _ _ => rfl
theorem run_builtin {P : Program} {w : World} {ρ : Operand → Value} {o : Oper} {c : Go.Call} {b : Builtin} (ho : o.op = .call c) (hc : c.callee = .builtin b) {r : Result Next}
    (h : (Go.builtin b c.argTypes o.type (c.args.map fun | .const _ => true | _ => false) (c.args.map ρ)).run P w = r) : (execOp ρ o).run P w = r := by
  simp only [execOp, ho, resolve, hc, Sem.run_bind, Sem.run_pure, Result.andThen_ok, invoke]
  exact h
theorem args1 {ops : Array Operand} {xa : A} (h : allSome cA ops.toList = some [xa]) : ∃ x, ops = #[x] ∧ cA x = some xa := by
  have hl := allSome_len h
  obtain ⟨x, hx, hc⟩ := allSome_get h 0 xa rfl
  refine ⟨x, ?_, hc⟩
  apply Array.ext'
  cases ho : ops.toList with
  | nil => simp [ho] at hl
  | cons y r =>
    rw [ho] at hx hl
    simp at hx hl
    subst hx
    simp [hl]
theorem args2 {ops : Array Operand} {xa ya : A} (h : allSome cA ops.toList = some [xa, ya]) : ∃ x y, ops = #[x, y] ∧ cA x = some xa ∧ cA y = some ya := by
  have hl := allSome_len h
  obtain ⟨x, hx, hc⟩ := allSome_get h 0 xa rfl
  obtain ⟨y, hy, hc'⟩ := allSome_get h 1 ya rfl
  refine ⟨x, y, ?_, hc, hc'⟩
  apply Array.ext'
  cases ho : ops.toList with
  | nil => simp [ho] at hl
  | cons u r =>
    cases r with
    | nil => simp [ho] at hl
    | cons v r =>
      rw [ho] at hx hl hy
      simp at hx hl hy
      subst hx; subst hy
      simp [hl]
theorem ok_len (h : e.St) {c : Go.Call} {xa : A} {b : Bool} (ha : allSome cA c.args.toList = some [xa]) (ho : e.o.op = .call c) (hc : c.callee = .builtin .len) {t : TypeId}
    (ht : c.argTypes[0]? = some t) (hu : if b then e.P.underlying t = some .string else ∃ el, e.P.underlying t = some (.slice el)) (us : List Nat) (d : Nat) : Res e (iLen b xa us e.clr d e.st) := by
  obtain ⟨x, hargs, hx⟩ := args1 ha
  have hr := h.rep hx
  refine Res.oneD (f := fun n k _ => k (i64 (.ofNat n)) e.st) fun v hv => ?_
  have hslice : ∀ a n cap, b = false → e.a.eval x = .slice a n cap → (execOp e.a.eval e.o).run e.P e.w = .ok (.value (goInt n)) e.w := by
    intro a n cap hb hxv
    rw [hb] at hu
    obtain ⟨el, hel⟩ := hu
    exact run_builtin ho hc (by simp [Go.builtin, hargs, Builtin.len_, ht, hxv, run_underlying hel])
  cases hg : get e.st.tm xa with
  | st l =>
    rw [hg] at hr hv
    cases b <;> simp only [lenOf, cond_true, cond_false, Option.some.injEq, reduceCtorEq] at hv
    subst hv
    obtain ⟨s, hs, hl⟩ := RepA.st_inv hr
    have hsz : s.size = l.length := by rw [← hl, List.length_map, Array.length_toList]; rfl
    simp only [if_true] at hu
    refine Res.val h (cv := goInt s.size) (run_builtin ho hc (by simp [Go.builtin, hargs, Builtin.len_, ht, hs, run_underlying hu])) (by rw [hsz]; exact .c _ _ (.it _ _)) rfl
  | ns =>
    rw [hg] at hr hv
    cases b <;> simp only [lenOf, cond_true, cond_false, Option.some.injEq, reduceCtorEq] at hv
    subst hv
    exact Res.val h (hslice _ _ _ rfl (RepA.ns_inv hr)) (.c _ _ (.it _ _)) rfl
  | vs sz es =>
    rw [hg] at hr hv
    cases b <;> simp only [lenOf, cond_true, cond_false, Option.some.injEq, reduceCtorEq] at hv
    subst hv
    obtain ⟨a, cap, _, _, _, hxv, _⟩ := RepA.vs_inv hr
    exact Res.val h (hslice _ _ _ rfl hxv) (.c _ _ (.it _ _)) rfl
  | hs id i len =>
    rw [hg] at hr hv
    cases b <;> simp only [lenOf, cond_true, cond_false, Option.some.injEq, reduceCtorEq] at hv
    subst hv
    obtain ⟨a, cap, hxv, _⟩ := RepA.hs_inv hr
    exact Res.val h (hslice _ _ _ rfl hxv) (.c _ _ (.it _ _)) rfl
  | _ => rw [hg] at hv; simp [lenOf] at hv
theorem ok_mnx (h : e.St) {c : Go.Call} {xa ya : A} {mx : Bool} (ha : allSome cA c.args.toList = some [xa, ya]) (ho : e.o.op = .call c) (hc : c.callee = .builtin (if mx then .max else .min)) (us : List Nat) (d : Nat) :
    Res e (iMnx mx xa ya us e.clr d e.st) := by
  obtain ⟨x, y, hargs, hx, hy⟩ := args2 ha
  have hr := h.rep hx
  have hr' := h.rep hy
  refine Res.oneD (f := fun v k _ => k v e.st) fun v hv => ?_
  cases hg : get e.st.tm xa with
  | it k a =>
    cases hg' : get e.st.tm ya with
    | it k' b =>
      rw [hg] at hr; rw [hg'] at hr'
      rw [hg, hg'] at hv
      have h1 := RepA.it_inv hr
      have h2 := RepA.it_inv hr'
      simp only [minmax] at hv
      cases hk : keq k k' with
      | false => simp [hk] at hv
      | true =>
        have hk := keq_eq hk
        subst hk
        simp only [show keq k k = true by cases k <;> rfl, cond_true, Option.some.injEq] at hv
        subst hv
        cases mx with
        | true =>
          refine Res.val h (cv := .int k (if b > a then b else a)) (run_builtin ho hc (by simp [Go.builtin, hargs, Builtin.max_, Builtin.max2, h1, h2])) ?_ rfl
          have : (bif true then (bif ilt a b then b else a) else (bif ilt b a then b else a)) = (if b > a then b else a) := by
            rw [ilt_eq]; by_cases q : a < b <;> simp [q]
          rw [this]; exact .c _ _ (.it _ _)
        | false =>
          refine Res.val h (cv := .int k (if b < a then b else a)) (run_builtin ho hc (by simp [Go.builtin, hargs, Builtin.min_, Builtin.min2, h1, h2])) ?_ rfl
          have : (bif false then (bif ilt a b then b else a) else (bif ilt b a then b else a)) = (if b < a then b else a) := by
            rw [ilt_eq b a]; by_cases q : b < a <;> simp [q]
          rw [this]; exact .c _ _ (.it _ _)
    | _ => rw [hg, hg'] at hv; simp [minmax] at hv
  | _ => rw [hg] at hv; simp [minmax] at hv
theorem args3A {args : Array Operand} {a b c : A} (h : allSome cA args.toList = some [a, b, c]) : ∃ x y z, args = #[x, y, z] ∧ cA x = some a ∧ cA y = some b ∧ cA z = some c := by
  obtain ⟨l⟩ := args
  simp only at h
  match l, h with
  | [], h => simp [allSome] at h
  | [x], h => cases hx : cA x <;> simp [allSome, hx] at h
  | [x, y], h => cases hx : cA x <;> cases hy : cA y <;> simp [allSome, hx, hy] at h
  | [x, y, z], h =>
    cases hx : cA x <;> cases hy : cA y <;> cases hz : cA z <;> simp [allSome, hx, hy, hz] at h
    obtain ⟨rfl, rfl, rfl⟩ := h
    exact ⟨x, y, z, rfl, hx, hy, hz⟩
  | x :: y :: z :: u :: r, h =>
    cases hx : cA x <;> cases hy : cA y <;> cases hz : cA z <;> cases hu : cA u <;> cases hr : allSome cA r <;> simp [allSome, hx, hy, hz, hu, hr] at h
def mm (mx : Bool) (a b : Int) : Int := if mx then (if b > a then b else a) else (if b < a then b else a)
theorem minmax_inv {mx : Bool} {x y v : V} (h : minmax mx x y = some v) : ∃ k a b, x = .it k a ∧ y = .it k b ∧ v = .it k (mm mx a b) := by
  cases x with
  | it k a =>
    cases y with
    | it k' b =>
      simp only [minmax] at h
      cases hk : keq k k' with
      | false => simp [hk] at h
      | true =>
        have hk := keq_eq hk
        subst hk
        simp only [show keq k k = true by cases k <;> rfl, cond_true, Option.some.injEq] at h
        subst h
        refine ⟨k, a, b, rfl, rfl, ?_⟩
        cases mx with
        | true =>
          have : (bif true then (bif ilt a b then b else a) else (bif ilt b a then b else a)) = (if b > a then b else a) := by
            rw [ilt_eq]; by_cases q : a < b <;> simp [q]
          rw [this]; rfl
        | false =>
          have : (bif false then (bif ilt a b then b else a) else (bif ilt b a then b else a)) = (if b < a then b else a) := by
            rw [ilt_eq b a]; by_cases q : b < a <;> simp [q]
          rw [this]; rfl
    | _ => simp [minmax] at h
  | _ => simp [minmax] at h
theorem ok_mn3 (h : e.St) {c : Go.Call} {xa ya za : A} {mx : Bool} (ha : allSome cA c.args.toList = some [xa, ya, za]) (ho : e.o.op = .call c) (hc : c.callee = .builtin (if mx then .max else .min)) (us : List Nat) (d : Nat) :
    Res e (iMn3 mx xa ya za us e.clr d e.st) := by
  obtain ⟨x, y, z, hargs, hx, hy, hz⟩ := args3A ha
  have hr := h.rep hx
  have hr' := h.rep hy
  have hr'' := h.rep hz
  refine Res.oneD (f := fun u k _ => oneD (minmax mx u (get e.st.tm za)) fun v => k v e.st) fun u hu => ?_
  refine Res.oneD (f := fun v k _ => k v e.st) fun v hv => ?_
  obtain ⟨k, a, b, e1, e2, rfl⟩ := minmax_inv hu
  obtain ⟨k', a', b', e3, e4, rfl⟩ := minmax_inv hv
  cases e3
  rw [e1] at hr; rw [e2] at hr'; rw [e4] at hr''
  have h1 := RepA.it_inv hr
  have h2 := RepA.it_inv hr'
  have h3 := RepA.it_inv hr''
  cases mx with
  | true =>
    refine Res.val h (cv := .int k (mm true (mm true a b) b')) (run_builtin ho hc ?_) (.c _ _ (.it _ _)) rfl
    simp [Go.builtin, hargs, Builtin.max_, Builtin.max2, h1, h2, h3, mm]
  | false =>
    refine Res.val h (cv := .int k (mm false (mm false a b) b')) (run_builtin ho hc ?_) (.c _ _ (.it _ _)) rfl
    simp [Go.builtin, hargs, Builtin.min_, Builtin.min2, h1, h2, h3, mm]
end
end Ev
namespace Ev
variable [Glob]
open Go
section
variable {e : Env}
theorem wr_rep {g : G} (k : IntKind) (n : Int) : RepA g (.it k (wr k n)) (.int k (k.wrap n)) := by rw [wr_eq]; exact .c _ _ (.it _ _)
theorem bin_run {op : BinOp} {t : TypeId} {x y : Operand} {b : TypeId} {vx vy cv : Value} (ho : e.o.op = .binOp op t x y b) (hx : e.a.eval x = vx) (hy : e.a.eval y = vy) (h1 : vx ≠ .nilIface) (h2 : ∀ a, vx ≠ .agg a)
    (h : (binOp op t vx vy).run e.P e.w = .ok cv e.w) : (execOp e.a.eval e.o).run e.P e.w = .ok (.value cv) e.w := by
  have hg : (eqGuard op t x y vx vy).run e.P e.w = .ok () e.w := by
    cases vx <;> first | exact absurd rfl h1 | exact absurd rfl (h2 _) | (cases op <;> rfl)
  simp only [execOp, ho, hx, hy, Sem.run_bind, hg, Result.andThen_ok, h, Sem.run_pure]
theorem ok_binI (h : e.St) {op : BinOp} {k : IntKind} {a b : Int} (hop : isSh op = false)
    (hf : ∀ cv, (∀ t, (binOp op t (.int k a) (.int k b)).run e.P e.w = .ok cv e.w) → (execOp e.a.eval e.o).run e.P e.w = .ok (.value cv) e.w) :
    Res e (fun c _ => binI op k a b fun v => c v e.st) := by
  have ite : ∀ {α : Type} (x y : α), (if k ≠ k then x else y) = y := fun x y => by simp
  have bit : ∀ {v : V}, bitop op k a b = some v → ∃ r : BitVec k.bits, v = .it k (wr k r.toNat) ∧ ∀ t, (binOp op t (.int k a) (.int k b)).run e.P e.w = .ok (.int k (k.wrap r.toNat)) e.w := by
    intro v hv
    cases op <;> simp only [bitop, reduceCtorEq, Option.some.injEq] at hv
    · subst hv
      refine ⟨BitVec.ofInt k.bits a &&& BitVec.ofInt k.bits b, ?_, fun t => by simp [binOp, Op.intBits]⟩
      rw [kbits_eq, toU_eq, toU_eq, BitVec.toNat_and]; rfl
    · subst hv
      refine ⟨BitVec.ofInt k.bits a ||| BitVec.ofInt k.bits b, ?_, fun t => by simp [binOp, Op.intBits]⟩
      rw [kbits_eq, toU_eq, toU_eq, BitVec.toNat_or]; rfl
    · subst hv
      refine ⟨BitVec.ofInt k.bits a ^^^ BitVec.ofInt k.bits b, ?_, fun t => by simp [binOp, Op.intBits]⟩
      rw [kbits_eq, toU_eq, toU_eq, BitVec.toNat_xor]; rfl
    · subst hv
      refine ⟨BitVec.ofInt k.bits a &&& ~~~ BitVec.ofInt k.bits b, ?_, fun t => by simp [binOp, Op.intBits]⟩
      rw [kbits_eq, toU_eq, toU_eq, BitVec.toNat_and, ← BitVec.xor_allOnes, BitVec.toNat_xor, BitVec.toNat_allOnes]; rfl
  cases op <;> simp only [isSh, Bool.true_eq_false] at hop
  case add => exact Res.val h (hf _ fun t => by simp [binOp, Op.intArith]) (wr_rep k _) rfl
  case sub => exact Res.val h (hf _ fun t => by simp [binOp, Op.intArith]) (wr_rep k _) rfl
  case mul => exact Res.val h (hf _ fun t => by simp [binOp, Op.intArith]) (wr_rep k _) rfl
  case quo =>
    refine .chk fun hb => ?_
    have hb : b ≠ 0 := by rw [ieq_eq] at hb; simpa using hb
    exact Res.val h (hf _ fun t => by simp [binOp, Op.intDiv, hb]) (wr_rep k _) rfl
  case rem =>
    refine .chk fun hb => ?_
    have hb : b ≠ 0 := by rw [ieq_eq] at hb; simpa using hb
    exact Res.val h (cv := .int k (a.tmod b)) (hf _ fun t => by simp [binOp, Op.intDiv, hb]) (.c _ _ (.it _ _)) rfl
  case eql => exact Res.val h (cv := .bool (a == b)) (hf _ fun t => by simp [binOp, Op.intCmp]) (by rw [← ieq_eq]; exact .c _ _ (.bo _)) rfl
  case neq => exact Res.val h (cv := .bool (a != b)) (hf _ fun t => by simp [binOp, Op.intCmp]) (by rw [ieq_eq]; exact .c _ _ (.bo _)) rfl
  case lss => exact Res.val h (cv := .bool (a < b)) (hf _ fun t => by simp [binOp, Op.intCmp]) (by rw [ilt_eq]; exact .c _ _ (.bo _)) rfl
  case leq => exact Res.val h (cv := .bool (a ≤ b)) (hf _ fun t => by simp [binOp, Op.intCmp]) (by rw [show decide (a ≤ b) = !(ilt b a) by rw [ilt_eq]; by_cases q : a ≤ b <;> simp [q] <;> omega]; exact .c _ _ (.bo _)) rfl
  case gtr => exact Res.val h (cv := .bool (a > b)) (hf _ fun t => by simp [binOp, Op.intCmp]) (by rw [ilt_eq]; exact .c _ _ (.bo _)) rfl
  case geq => exact Res.val h (cv := .bool (a ≥ b)) (hf _ fun t => by simp [binOp, Op.intCmp]) (by rw [show decide (a ≥ b) = !(ilt a b) by rw [ilt_eq]; by_cases q : b ≤ a <;> simp [q] <;> omega]; exact .c _ _ (.bo _)) rfl
  case and =>
    refine Res.eq (F' := fun c _ => Ev.oneD (bitop .and k a b) fun v => c v e.st) (fun _ _ => rfl) ?_
    refine Res.oneD (f := fun v c _ => c v e.st) fun v hv => ?_
    obtain ⟨r, rfl, hr⟩ := bit hv
    exact Res.val h (hf _ hr) (wr_rep k _) rfl
  case or =>
    refine Res.eq (F' := fun c _ => Ev.oneD (bitop .or k a b) fun v => c v e.st) (fun _ _ => rfl) ?_
    refine Res.oneD (f := fun v c _ => c v e.st) fun v hv => ?_
    obtain ⟨r, rfl, hr⟩ := bit hv
    exact Res.val h (hf _ hr) (wr_rep k _) rfl
  case xor =>
    refine Res.eq (F' := fun c _ => Ev.oneD (bitop .xor k a b) fun v => c v e.st) (fun _ _ => rfl) ?_
    refine Res.oneD (f := fun v c _ => c v e.st) fun v hv => ?_
    obtain ⟨r, rfl, hr⟩ := bit hv
    exact Res.val h (hf _ hr) (wr_rep k _) rfl
  case andNot =>
    refine Res.eq (F' := fun c _ => Ev.oneD (bitop .andNot k a b) fun v => c v e.st) (fun _ _ => rfl) ?_
    refine Res.oneD (f := fun v c _ => c v e.st) fun v hv => ?_
    obtain ⟨r, rfl, hr⟩ := bit hv
    exact Res.val h (hf _ hr) (wr_rep k _) rfl
theorem ok_shift (h : e.St) {op : BinOp} {k k' : IntKind} {a b : Int} (hop : isSh op = true)
    (hf : ∀ cv, (∀ t, (binOp op t (.int k a) (.int k' b)).run e.P e.w = .ok cv e.w) → (execOp e.a.eval e.o).run e.P e.w = .ok (.value cv) e.w) :
    Res e (fun c _ => shiftD op k a b fun v => c v e.st) := by
  have hb0 : (!(ilt b 0)) = true → ¬ b < 0 := fun q => by rw [ilt_eq] at q; simpa using q
  have hm : Nat.min b.toNat (kbits k) = min b.toNat k.bits := by rw [kbits_eq]
  cases op <;> simp only [isSh, Bool.false_eq_true] at hop
  · refine .chk fun hb => ?_
    have hb := hb0 hb
    refine Res.val h (cv := .int k (k.wrap (a * 2 ^ min b.toNat k.bits))) (hf _ fun t => by simp [binOp, Op.shift, hb]) ?_ rfl
    rw [hm]
    have : a * Int.ofNat (2 ^ min b.toNat k.bits) = a * 2 ^ min b.toNat k.bits := by congr 1
    rw [this]; exact wr_rep k _
  · refine .chk fun hb => ?_
    have hb := hb0 hb
    refine Res.val h (cv := .int k (a.fdiv (2 ^ min b.toNat k.bits))) (hf _ fun t => by simp [binOp, Op.shift, hb]) ?_ rfl
    rw [hm]
    have : Int.ofNat (2 ^ min b.toNat k.bits) = 2 ^ min b.toNat k.bits := by simp
    rw [this]; exact .c _ _ (.it _ _)
theorem ok_binS (h : e.St) {op : BinOp} {a b : ByteArray} {la lb : List Nat} (ha : a.data.toList.map UInt8.toNat = la) (hb : b.data.toList.map UInt8.toNat = lb)
    (hf : ∀ cv, (∀ t, (binOp op t (.string a) (.string b)).run e.P e.w = .ok cv e.w) → (execOp e.a.eval e.o).run e.P e.w = .ok (.value cv) e.w) :
    Res e (fun c _ => binS op la lb fun v => c v e.st) := by
  have he : (a.toList == b.toList) = beqL la lb := by rw [← ha, ← hb, beqL_bytes, ByteArray.toList_eq, ByteArray.toList_eq]
  have hl : Op.bytesLess a.toList b.toList = strLt la lb := by rw [← ha, ← hb, strLt_bytes, ByteArray.toList_eq, ByteArray.toList_eq]
  have hsa : a.size = la.length := by rw [← ha, List.length_map, Array.length_toList]; rfl
  have hsb : b.size = lb.length := by rw [← hb, List.length_map, Array.length_toList]; rfl
  cases op
  case add =>
    refine .chk fun hc => ?_
    have hc := Nat.le_of_ble_eq_true hc
    refine Res.val h (cv := .string (a ++ b)) (hf _ fun t => ?_) (.c _ _ (.st _ _ (by simp [ha, hb]))) rfl
    have : ¬ (((a.size + b.size : Nat) : Int) > IntKind.i64.max) := by
      rw [hsa, hsb]; simp [IntKind.max, IntKind.signed, IntKind.bits]; omega
    simp only [binOp, Op.stringOp, if_neg this, Sem.run_pure]
  case eql => exact Res.val h (cv := .bool (a.toList == b.toList)) (hf _ fun t => by simp [binOp, Op.stringOp]) (by rw [he]; exact .c _ _ (.bo _)) rfl
  case neq => exact Res.val h (cv := .bool (!(a.toList == b.toList))) (hf _ fun t => by simp [binOp, Op.stringOp]) (by rw [he]; exact .c _ _ (.bo _)) rfl
  case lss => exact Res.val h (cv := .bool (Op.bytesLess a.toList b.toList)) (hf _ fun t => by simp [binOp, Op.stringOp]) (by rw [hl]; exact .c _ _ (.bo _)) rfl
  case leq => exact Res.val h (cv := .bool (Op.bytesLess a.toList b.toList || (a.toList == b.toList))) (hf _ fun t => by simp [binOp, Op.stringOp]) (by rw [hl, he]; exact .c _ _ (.bo _)) rfl
  case gtr => exact Res.val h (cv := .bool (!(Op.bytesLess a.toList b.toList || (a.toList == b.toList)))) (hf _ fun t => by simp [binOp, Op.stringOp]) (by rw [hl, he]; exact .c _ _ (.bo _)) rfl
  case geq => exact Res.val h (cv := .bool (!(Op.bytesLess a.toList b.toList))) (hf _ fun t => by simp [binOp, Op.stringOp]) (by rw [hl]; exact .c _ _ (.bo _)) rfl
  all_goals exact .bad fun _ _ => rfl
theorem eqv_run {P : Program} {w : World} {g : G} {t : TypeId} {q : Qk} {x y : V} {vx vy : Value} {r : Bool} (hq : qkOf P t = some q) (hna : ∀ n, q ≠ .ag n) (hr : eqv q x y = some r) (hx : RepA g x vx) (hy : RepA g y vy) :
    (Op.equal t vx vy).run P w = .ok r w ∧ vx ≠ .nilIface ∧ (∀ a, vx ≠ .agg a) ∧ (∀ op, isEq op = true → ∃ cv, (binOp op t vx vy).run P w = .ok cv w ∧ RepA g (eqRes op r) cv) := by
  have key : (Op.equal t vx vy).run P w = .ok r w → vx ≠ .nilIface → (∀ a, vx ≠ .agg a) → (∀ k n, vx ≠ .int k n) → (∀ s, vx ≠ .string s) → (∀ k n, vx ≠ .float k n) → (∀ k a b, vx ≠ .complex k a b) →
      (Op.equal t vx vy).run P w = .ok r w ∧ vx ≠ .nilIface ∧ (∀ a, vx ≠ .agg a) ∧ (∀ op, isEq op = true → ∃ cv, (binOp op t vx vy).run P w = .ok cv w ∧ RepA g (eqRes op r) cv) := by
    intro h1 h2 h3 h4 h5 h6 h7
    refine ⟨h1, h2, h3, fun op hop => ?_⟩
    cases op <;> simp only [isEq, Bool.false_eq_true] at hop
    · refine ⟨.bool r, ?_, .c _ _ (.bo _)⟩
      have : binOp .eql t vx vy = (do pure (.bool (← Op.equal t vx vy))) := by
        unfold binOp
        split <;> first | rfl | (exfalso; first | exact h4 _ _ rfl | exact h5 _ rfl | exact h6 _ _ rfl | exact h7 _ _ _ rfl | simp_all)
      simp [this, h1]
    · refine ⟨.bool (!r), ?_, .c _ _ (.bo _)⟩
      have : binOp .neq t vx vy = (do pure (.bool (!(← Op.equal t vx vy)))) := by
        unfold binOp
        split <;> first | rfl | (exfalso; first | exact h4 _ _ rfl | exact h5 _ rfl | exact h6 _ _ rfl | exact h7 _ _ _ rfl | simp_all)
      simp [this, h1]
  unfold qkOf at hq
  cases hu : P.underlying t with
  | none => simp [hu] at hq
  | some d =>
    have hrun := fun w => run_underlying hu w
    have heq : ∀ (vx vy : Value) (r : Bool), (∀ d, (Op.equalIn (d + 1) t vx vy).run P w = .ok r w) → (Op.equal t vx vy).run P w = .ok r w := fun _ _ _ h => h 9999
    rw [hu] at hq
    cases d <;> simp only [reduceCtorEq, Option.some.injEq] at hq
    case bool =>
      subst hq
      cases x <;> simp only [eqv, reduceCtorEq] at hr
      cases y <;> try simp only [reduceCtorEq, Option.some.injEq] at hr
      have hx := RepA.bo_inv hx; have hy := RepA.bo_inv hy
      subst hx; subst hy; subst hr
      exact key (heq _ _ _ fun d => by simp [Op.equalIn, hrun]) (by simp) (by simp) (by simp) (by simp) (by simp) (by simp)
    case int => subst hq; simp [eqv] at hr
    case string => subst hq; simp [eqv] at hr
    case struct fs =>
      cases hk : flatS P fs.toList with
      | none => simp [hk] at hq
      | some ks =>
        simp only [hk] at hq
        split at hq
        · cases hq
        · simp only [Option.some.injEq] at hq; exact absurd hq.symm (hna _)
    case slice el =>
      subst hq
      cases x <;> simp only [eqv, reduceCtorEq] at hr
      · cases y <;> try simp only [reduceCtorEq, Option.some.injEq] at hr
        · have hx := RepA.ns_inv hx; have hy := RepA.ns_inv hy
          subst hx; subst hy; subst hr
          exact key (heq _ _ _ fun d => by simp [Op.equalIn, hrun]) (by simp) (by simp) (by simp) (by simp) (by simp) (by simp)
        · rename_i sz es
          cases es with
          | nil => cases hr
          | cons e es =>
            have hr := Option.some.inj hr
            have hx := RepA.ns_inv hx
            obtain ⟨a, cap, b, o, f, hy, _, h2, _⟩ := RepA.vs_inv hy
            have := h2 (by simp)
            subst this; subst hx; subst hy; subst hr
            exact key (heq _ _ _ fun d => by simp [Op.equalIn, hrun]) (by simp) (by simp) (by simp) (by simp) (by simp) (by simp)
      · rename_i sz es
        cases y <;> try simp only [reduceCtorEq] at hr
        cases es with
        | nil => cases hr
        | cons e es =>
          have hr := Option.some.inj hr
          have hy := RepA.ns_inv hy
          obtain ⟨a, cap, b, o, f, hx, _, h2, _⟩ := RepA.vs_inv hx
          have := h2 (by simp)
          subst this; subst hx; subst hy; subst hr
          exact key (heq _ _ _ fun d => by simp [Op.equalIn, hrun]) (by simp) (by simp) (by simp) (by simp) (by simp) (by simp)
    case pointer el =>
      have hq : q = .ptr := by
        cases hi : P.info? el with
        | none => simp [hi] at hq
        | some i =>
          simp only [hi] at hq
          split at hq
          · cases hq
          · simpa using hq.symm
      subst hq
      cases x <;> simp only [eqv, reduceCtorEq] at hr
      · cases y <;> try simp only [reduceCtorEq, Option.some.injEq] at hr
        · have hx := RepA.np_inv hx; have hy := RepA.np_inv hy
          subst hx; subst hy; subst hr
          exact key (heq _ _ _ fun d => by simp [Op.equalIn, hrun]) (by simp) (by simp) (by simp) (by simp) (by simp) (by simp)
        · have hx := RepA.np_inv hx
          obtain ⟨a, hy, _⟩ := RepA.pt_inv hy
          subst hx; subst hy; subst hr
          exact key (heq _ _ _ fun d => by simp [Op.equalIn, hrun]) (by simp) (by simp) (by simp) (by simp) (by simp) (by simp)
      · cases y <;> try simp only [reduceCtorEq, Option.some.injEq] at hr
        have hy := RepA.np_inv hy
        obtain ⟨a, hx, _⟩ := RepA.pt_inv hx
        subst hx; subst hy; subst hr
        exact key (heq _ _ _ fun d => by simp [Op.equalIn, hrun]) (by simp) (by simp) (by simp) (by simp) (by simp) (by simp)
theorem part_one {P : Program} {w : World} {t : TypeId} {d : TypeDesc} (hu : P.underlying t = some d) (hd : (∃ k, d = .int k) ∨ d = .string ∨ d = .bool) {xs : Array Value} {n : Nat} {v : Value} (hx : xs[n]? = some v) : (part t xs n).run P w = .ok v w := by
  rcases hd with ⟨k, rfl⟩ | rfl | rfl <;> simp [part, Go.isAgg, run_underlying hu, hx]
theorem eqFields_ok {P : Program} {w : World} {g : G} (d : Nat) {ax ay : Array Value} : ∀ (fs : List Field) (n : Nat) (ks : List Nat) (xs ys : List V) (r : Bool), flatS P fs = some ks → inRow n fs = true → ax.size = n + xs.length → ay.size = n + ys.length →
    (∀ (i : Nat) (c : V), xs[i]? = some c → RepA g c (ax.getD (n + i) undef)) → (∀ (i : Nat) (c : V), ys[i]? = some c → RepA g c (ay.getD (n + i) undef)) → eqAll ks xs ys = some r → (Op.eqFields (d + 1) ax ay fs).run P w = .ok r w := by
  intro fs
  induction fs with
  | nil =>
    intro n ks xs ys r hf _ _ _ _ _ he
    simp only [flatS, Option.some.injEq] at hf; subst hf
    cases xs with
    | nil => cases ys with
      | nil => simp only [eqAll, Option.some.injEq] at he; subst he; simp [Op.eqFields]
      | cons => simp [eqAll] at he
    | cons => simp [eqAll] at he
  | cons f fs ih =>
    intro n ks xs ys r hf hi h1 h2 hx hy he
    simp only [flatS] at hf
    cases hu : P.underlying f.type with
    | none => simp [hu] at hf
    | some dd =>
      cases hk : flatS P fs with
      | none => simp [hu, hk] at hf
      | some ks' =>
        simp only [hu, hk] at hf
        by_cases f3 : f.name = "_"
        · simp [f3] at hf
        · simp only [f3, if_false] at hf
          simp only [inRow, Bool.and_eq_true] at hi
          have ho : f.offset = n := Nat.eq_of_beq_eq_true hi.1
          have hne : ∃ x xs' y ys', xs = x :: xs' ∧ ys = y :: ys' := by
            cases dd <;> simp only [Option.some.injEq, reduceCtorEq] at hf <;> subst hf <;> (cases xs with
              | nil => simp [eqAll] at he
              | cons x xs => cases ys with
                | nil => cases x <;> simp [eqAll] at he
                | cons y ys => exact ⟨x, xs, y, ys, rfl, rfl⟩)
          obtain ⟨x, xs', y, ys', rfl, rfl⟩ := hne
          have gx : ax[n]? = some (ax.getD n undef) := by
            have : n < ax.size := by simp at h1; omega
            simp [Array.getD_eq_getD_getElem?, Array.getElem?_eq_getElem this]
          have gy : ay[n]? = some (ay.getD n undef) := by
            have : n < ay.size := by simp at h2; omega
            simp [Array.getD_eq_getD_getElem?, Array.getElem?_eq_getElem this]
          have rx := hx 0 x rfl
          have ry := hy 0 y rfl
          rw [Nat.add_zero] at rx ry
          have rest : ∀ r', eqAll ks' xs' ys' = some r' → (Op.eqFields (d + 1) ax ay fs).run P w = .ok r' w := fun r' hr' =>
            ih (n + 1) ks' xs' ys' r' hk hi.2 (by simp at h1; omega) (by simp at h2; omega) (fun i c hc => by have := hx (i + 1) c hc; rw [show n + 1 + i = n + (i + 1) by omega]; exact this)
              (fun i c hc => by have := hy (i + 1) c hc; rw [show n + 1 + i = n + (i + 1) by omega]; exact this) hr'
          have fin : ∀ (b r' : Bool), ((∃ k, dd = .int k) ∨ dd = .string ∨ dd = .bool) → (Op.equalIn (d + 1) f.type (ax.getD n undef) (ay.getD n undef)).run P w = .ok b w → eqAll ks' xs' ys' = some r' → (Op.eqFields (d + 1) ax ay (f :: fs)).run P w = .ok (b && r') w := by
            intro b r' hd hb hr'
            simp only [Op.eqFields, ne_eq, f3, not_false_eq_true, if_true, Sem.run_bind, ho, part_one hu hd gx, part_one hu hd gy, Result.andThen_ok, hb]
            cases b with
            | true => simp [rest r' hr']
            | false => simp
          cases dd <;> simp only [Option.some.injEq, reduceCtorEq] at hf <;> subst hf
          case bool =>
            cases x <;> try (simp [eqAll] at he; done)
            cases y <;> try (simp [eqAll] at he; done)
            simp only [eqAll] at he
            cases hr' : eqAll ks' xs' ys' with
            | none => simp [hr'] at he
            | some r' =>
              simp only [hr', Option.some.injEq] at he; subst he
              refine fin _ r' (.inr (.inr rfl)) ?_ hr'
              rw [RepA.bo_inv rx, RepA.bo_inv ry]
              simp [Op.equalIn, run_underlying hu]
          case int kk =>
            cases x <;> try (simp [eqAll] at he; done)
            cases y <;> try (simp [eqAll] at he; done)
            simp only [eqAll] at he
            rename_i k1 a1 k2 a2
            cases hkq : keq k1 k2 with
            | false => simp [hkq] at he
            | true =>
              simp only [hkq, cond_true] at he
              cases hr' : eqAll ks' xs' ys' with
              | none => simp [hr'] at he
              | some r' =>
                simp only [hr', Option.some.injEq] at he; subst he
                refine fin _ r' (.inl ⟨_, rfl⟩) ?_ hr'
                have hkk := keq_eq hkq; subst hkk
                rw [RepA.it_inv rx, RepA.it_inv ry, ieq_eq]
                simp [Op.equalIn, run_underlying hu]
          case string =>
            cases x <;> try (simp [eqAll] at he; done)
            cases y <;> try (simp [eqAll] at he; done)
            simp only [eqAll] at he
            cases hr' : eqAll ks' xs' ys' with
            | none => simp [hr'] at he
            | some r' =>
              simp only [hr', Option.some.injEq] at he; subst he
              refine fin _ r' (.inr (.inl rfl)) ?_ hr'
              obtain ⟨sa, ea, ha⟩ := RepA.st_inv rx
              obtain ⟨sb, eb, hb⟩ := RepA.st_inv ry
              rw [ea, eb, ← ha, ← hb, beqL_bytes]
              rw [run_equalIn_string w d f.type sa sb hu]
              simp [ByteArray.toList_eq]
theorem eqv_ag {P : Program} {w : World} {g : G} {t : TypeId} {ks : List Nat} {x y : V} {vx vy : Value} {r : Bool} (hq : qkOf P t = some (.ag ks)) (hr : eqv (.ag ks) x y = some r) (hx : RepA g x vx) (hy : RepA g y vy) {op : BinOp} (hop : isEq op = true) {xo yo : Operand} :
    ∃ cv, (do eqGuard op t xo yo vx vy; binOp op t vx vy : Sem Value).run P w = .ok cv w ∧ RepA g (eqRes op r) cv := by
  unfold qkOf at hq
  cases hu : P.underlying t with
  | none => simp [hu] at hq
  | some d =>
    rw [hu] at hq
    cases d <;> simp only [reduceCtorEq, Option.some.injEq] at hq
    case pointer el =>
      cases hi : P.info? el with
      | none => simp [hi] at hq
      | some i => simp only [hi] at hq; split at hq <;> simp at hq
    case struct fs =>
      cases hk : flatS P fs.toList with
      | none => simp [hk] at hq
      | some ks' =>
        simp only [hk] at hq
        split at hq
        · cases hq
        · rename_i hc
          simp only [Option.some.injEq, Qk.ag.injEq] at hq; subst hq
          simp only [Bool.or_eq_true, not_or, Bool.not_eq_true, Bool.not_eq_true', Bool.not_eq_false] at hc
          obtain ⟨⟨c1, c2⟩, c3⟩ := hc
          cases x <;> simp only [eqv, reduceCtorEq] at hr
          cases y <;> try simp only [reduceCtorEq] at hr
          obtain ⟨ax, rfl, n1, _, q1⟩ := RepA.ag_inv hx
          obtain ⟨ay, rfl, n2, _, q2⟩ := RepA.ag_inv hy
          have hfo : P.fieldsOf t = fs := by simp [Program.fieldsOf, hu]
          have hrun : (Op.equalIn 10000 t (.agg ax) (.agg ay)).run P w = .ok r w := by
            rw [run_equalIn_struct w 9999 t ax ay (by rw [hfo]; exact hu) c1, hfo]
            exact eqFields_ok 9998 fs.toList 0 ks' _ _ r hk c3 (by simpa using n1) (by simpa using n2) (fun i c hc => by rw [Nat.zero_add]; exact q1 i c hc) (fun i c hc => by rw [Nat.zero_add]; exact q2 i c hc) hr
          have hguard := run_eqGuard_agg (P := P) w op t xo yo ax ay c2
          cases op <;> simp only [isEq, Bool.false_eq_true] at hop
          · exact ⟨.bool r, by simp only [Sem.run_bind, hguard, Result.andThen_ok]; rw [run_eql_struct]; simp [hrun], .c _ _ (.bo _)⟩
          · exact ⟨.bool (!r), by simp only [Sem.run_bind, hguard, Result.andThen_ok]; rw [run_neq_struct]; simp [hrun], .c _ _ (.bo _)⟩
theorem ok_bin (h : e.St) {q : Qk} {op : BinOp} {t : TypeId} {x y : Operand} {b : TypeId} {xa ya : A} (hq : isEq op = true → qkOf e.P t = some q) (hx : cA x = some xa) (hy : cA y = some ya) (ho : e.o.op = .binOp op t x y b) (us : List Nat) (d : Nat) :
    Res e (iBin q op xa ya us e.clr d e.st) := by
  have hr := h.rep hx
  have hr' := h.rep hy
  have hgen : Res e (fun k _ => bif isEq op then Ev.oneD (eqv q (get e.st.tm xa) (get e.st.tm ya)) fun b => k (eqRes op b) e.st else .bad) := by
    refine .bif (F := fun k _ => Ev.oneD (eqv q (get e.st.tm xa) (get e.st.tm ya)) fun b => k (eqRes op b) e.st) (G := fun _ _ => .bad) (fun hop => ?_) (fun _ => .bad fun _ _ => rfl)
    refine Res.oneD (f := fun b k _ => k (eqRes op b) e.st) fun r hv => ?_
    by_cases hag : ∃ ks, q = .ag ks
    · obtain ⟨ks, rfl⟩ := hag
      have nl : isLp (get e.st.tm xa) = false ∧ isLp (get e.st.tm ya) = false := by
        simp only [eqv] at hv
        cases hxx : get e.st.tm xa <;> simp only [hxx, reduceCtorEq] at hv <;> cases hyy : get e.st.tm ya <;> simp only [hyy, reduceCtorEq] at hv <;> exact ⟨rfl, rfl⟩
      obtain ⟨cv, h4, h5⟩ := eqv_ag (P := e.P) (w := e.w) (g := e.g) (hq hop) hv (hr.toA nl.1) (hr'.toA nl.2) hop (xo := x) (yo := y)
      refine Res.val h (cv := cv) ?_ h5 (by cases op <;> rfl)
      simp only [execOp, ho]
      simp only [Sem.run_bind] at h4 ⊢
      rw [h4]; rfl
    have hna : ∀ n, q ≠ .ag n := fun n e => hag ⟨n, e⟩
    have nl : isLp (get e.st.tm xa) = false ∧ isLp (get e.st.tm ya) = false := by
      cases q <;> simp only [eqv, reduceCtorEq] at hv <;> (cases hxx : get e.st.tm xa <;> simp only [hxx, reduceCtorEq] at hv <;> cases hyy : get e.st.tm ya <;> simp only [hyy, reduceCtorEq] at hv <;> exact ⟨rfl, rfl⟩)
    obtain ⟨_, h1, h2, h3⟩ := eqv_run (P := e.P) (w := e.w) (g := e.g) (hq hop) hna hv (hr.toA nl.1) (hr'.toA nl.2)
    obtain ⟨cv, h4, h5⟩ := h3 op hop
    exact Res.val h (bin_run ho rfl rfl h1 h2 h4) h5 (by cases op <;> rfl)
  cases hg : get e.st.tm xa with
  | it k a =>
    cases hg' : get e.st.tm ya with
    | it k' b =>
      rw [hg] at hr; rw [hg'] at hr'
      have h1 := RepA.it_inv hr; have h2 := RepA.it_inv hr'
      refine .eq (F' := fun c _ => bif isSh op then shiftD op k a b (fun v => c v e.st) else bif keq k k' then binI op k a b (fun v => c v e.st) else .bad) (fun k kp => by simp only [iBin, hg, hg', binD]) ?_
      refine .bif (F := fun c _ => shiftD op k a b (fun v => c v e.st)) (G := fun c _ => bif keq k k' then binI op k a b (fun v => c v e.st) else .bad) (fun hs => ?_) (fun hs => ?_)
      · exact ok_shift h hs fun cv hc => bin_run ho h1 h2 (by simp) (by simp) (hc t)
      · refine .bif (F := fun c _ => binI op k a b (fun v => c v e.st)) (G := fun _ _ => .bad) (fun hk => ?_) (fun _ => .bad fun _ _ => rfl)
        have hk := keq_eq hk
        subst hk
        exact ok_binI h hs fun cv hc => bin_run ho h1 h2 (by simp) (by simp) (hc t)
    | _ => exact .bad fun _ _ => by simp only [iBin, hg, hg', binD]
  | st la =>
    cases hg' : get e.st.tm ya with
    | st lb =>
      rw [hg] at hr; rw [hg'] at hr'
      obtain ⟨sa, h1, ha⟩ := RepA.st_inv hr; obtain ⟨sb, h2, hb⟩ := RepA.st_inv hr'
      refine .eq (F' := fun c _ => binS op la lb (fun v => c v e.st)) (fun k kp => by simp only [iBin, hg, hg', binD]) ?_
      exact ok_binS h ha hb fun cv hc => bin_run ho h1 h2 (by simp) (by simp) (hc t)
    | _ => exact .bad fun _ _ => by simp only [iBin, hg, hg', binD]
  | _ =>
    rw [hg] at hgen
    refine .eq (fun k kp => ?_) hgen
    simp only [iBin, hg, binD]
end
end Ev
namespace Ev
variable [Glob]
open Go
def ElemsAt (g : G) (w : World) (sz : Nat) (es : List (List V)) (cv : Value) : Prop :=
  ∃ a cap, cv = .slice a es.length cap ∧ (∀ x, x ∈ es → x.length = sz) ∧ es.length ≤ cap ∧
    (es = [] ∨ ∃ b o, ∃ f : Nat → Nat → Value, a = some (ad b o) ∧ ∀ (i j : Nat) (x : List V) (c : V), es[i]? = some x → x[j]? = some c → c.keep = true ∧ w.cell? (ad b (o + i * sz + j)) = some (f i j) ∧ RepA g c (f i j))
section
variable {e : Env}
theorem Res.elems (h : e.St) {sz : Nat} {v : V} {cv : Value} (hr : RepT e.g e.ν v cv) {F : List (List V) → (V → St → D) → (V → St → D) → D}
    (hF : ∀ es, ElemsAt e.g e.w sz es cv → Res e (F es)) : Res e (fun k kp => elemsD e.st.hp sz v fun es => F es k kp) := by
  cases v with
  | ns =>
    have := RepA.ns_inv hr
    exact hF [] ⟨none, 0, this, by simp, by simp, .inl rfl⟩
  | vs m es =>
    refine .bif (F := fun k kp => F es k kp) (G := fun _ _ => .bad) (fun hm => ?_) (fun _ => .bad fun _ _ => rfl)
    have hm := Nat.eq_of_beq_eq_true hm
    subst hm
    obtain ⟨a, cap, b, o, f, hx, h1, h2, h3, h4, h5⟩ := RepA.vs_inv hr
    refine hF es ⟨a, cap, hx, h1, h3, ?_⟩
    by_cases hes : es = []
    · exact .inl hes
    · exact .inr ⟨b, o, f, h2 hes, fun i j x c hx hc => ⟨(h4 i j x c hx hc).1, h.mem.hr.kap _ _ _ (h4 i j x c hx hc).2, .c _ _ (h5 i j x c hx hc)⟩⟩
  | hs id i len =>
    refine Res.hget (F := fun bk k kp => bif Nat.beq bk.sz sz then .chk (Nat.ble (i + len) bk.es.length) (F ((bk.es.drop i).take len) k kp) else .bad) fun bk hbk => ?_
    refine .bif (F := fun k kp => .chk (Nat.ble (i + len) bk.es.length) (F ((bk.es.drop i).take len) k kp)) (G := fun _ _ => .bad) (fun hm => ?_) (fun _ => .bad fun _ _ => rfl)
    have hm := Nat.eq_of_beq_eq_true hm
    refine .chk fun hc => ?_
    have hc := Nat.le_of_ble_eq_true hc
    obtain ⟨a, cap, hx, h1, h2⟩ := RepA.hs_inv hr
    rcases h2 with h2 | ⟨r, hl, h2⟩
    · rw [h.mem.hr.dead id h2] at hbk; cases hbk
    · obtain ⟨bk0, e0, z⟩ := h.mem.hr.live id r hl
      rw [hbk] at e0; cases e0
      have hlen : ((bk.es.drop i).take len).length = len := by rw [List.length_take, List.length_drop]; omega
      have hgt : ∀ (k : Nat) (x : List V), ((bk.es.drop i).take len)[k]? = some x → bk.es[i + k]? = some x := by
        intro k x hk
        have := lt_of_get hk
        rw [List.getElem?_take_of_lt (by omega), List.getElem?_drop] at hk
        exact hk
      refine hF _ ⟨a, cap, by rw [hlen]; exact hx, fun x hx => ?_, by omega, ?_⟩
      · obtain ⟨k, hk⟩ := List.getElem?_of_mem hx
        rw [z.row x (List.mem_of_getElem? (hgt k x hk)), hm]
      · rcases h2 with h2 | ⟨h2, h3⟩
        · exact .inl (List.eq_nil_of_length_eq_zero (by omega))
        · refine .inr ⟨r.b, r.base + i * r.sz, fun k j => (e.w.cell? (ad r.b (r.base + i * r.sz + k * sz + j))).getD undef, h2, fun k j x c hx hc => ?_⟩
          obtain ⟨k1, u, k2, k3⟩ := z.cont (i + k) j x c (hgt k x hx) hc
          have : r.base + (i + k) * r.sz + j = r.base + i * r.sz + k * sz + j := by rw [Nat.add_mul, z.sz, hm]; omega
          rw [this] at k2
          refine ⟨k1, ?_, ?_⟩
          · simp only [k2, Option.getD_some]
          · simp only [k2, Option.getD_some]; exact k3
  | _ => exact .bad fun _ _ => rfl
theorem bytesRow_rows {s : ByteArray} {l : List Nat} (hl : s.data.toList.map UInt8.toNat = l) (cap : Nat) :
    (l.map fun n => [byte n]).length = s.size ∧ (∀ x, x ∈ (l.map fun n => [byte n]) → x.length = 1) ∧
    (∀ (i j : Nat) (x : List V) (c : V), (l.map fun n => [byte n])[i]? = some x → x[j]? = some c → c.keep = true ∧ ∃ cv, (bytesRow s cap)[i + j]? = some cv ∧ ∀ κ, RepC κ c cv) := by
  have hsz : s.size = l.length := by rw [← hl, List.length_map, Array.length_toList]; rfl
  refine ⟨by simp [hsz], fun x hx => by obtain ⟨n, _, rfl⟩ := List.mem_map.1 hx; rfl, fun i j x c hx hc => ?_⟩
  rw [List.getElem?_map] at hx
  cases hn : l[i]? with
  | none => simp [hn] at hx
  | some n =>
    simp only [hn, Option.map_some, Option.some.injEq] at hx
    subst hx
    cases j with
    | succ j => simp at hc
    | zero =>
      simp only [List.getElem?_cons_zero, Option.some.injEq] at hc
      subst hc
      have hi : i < s.data.size := by have := lt_of_get hn; have : s.size = s.data.size := rfl; omega
      rw [← hl, List.getElem?_map, Array.getElem?_toList, Array.getElem?_eq_getElem hi] at hn
      simp only [Option.map_some, Option.some.injEq] at hn
      refine ⟨rfl, .int .u8 ((s.data[i]).toNat : Int), ?_, fun κ => ?_⟩
      · simp only [Nat.add_zero, bytesRow]
        rw [Array.getElem?_append_left (by simpa using hi)]
        simp [Array.getElem?_eq_getElem hi]
      · rw [← hn]; exact .it _ _
theorem grow_mark (w : World) (arr : Array Value) (t : TypeId) : Grow w (w.drew.alloc (.cells arr t (arr.size, arr.size + 1))) arr 1 :=
  ⟨⟨t, (arr.size, arr.size + 1), rfl, .inr ⟨rfl, Nat.le_refl _⟩⟩, rfl, rfl⟩
theorem bytesRow_size {s : ByteArray} {cap : Nat} (h : s.size ≤ cap) : (bytesRow s cap).size = cap := by
  have : s.size = s.data.size := rfl
  simp [bytesRow]; omega
theorem isByte_u {P : Program} {el : TypeId} (h : isByte P el = true) : P.underlying el = some (.int .u8) := by
  unfold isByte at h
  split at h <;> simp_all
theorem conv_run {s d : TypeId} {x : Operand} {cv : Value} {w' : World} (ho : e.o.op = .convert s d x) (h : (convert s d (e.a.eval x)).run e.P e.w = .ok cv w') : (execOp e.a.eval e.o).run e.P e.w = .ok (.value cv) w' := by
  simp [execOp, ho, h]
theorem unbyte_get {es : List (List V)} {l : List Nat} (h : allSome unbyte es = some l) : l.length = es.length ∧ ∀ (i : Nat) (b : Nat), l[i]? = some b → ∃ n : Int, es[i]? = some [.it .u8 n] ∧ b = n.toNat % 256 := by
  refine ⟨allSome_len h, fun i b hb => ?_⟩
  obtain ⟨x, hx, hu⟩ := allSome_get h i b hb
  unfold unbyte at hu
  split at hu
  · simp only [Option.some.injEq] at hu; exact ⟨_, hx, hu.symm⟩
  · cases hu
theorem foldl_bytes : ∀ (ns : List Int) (r : ByteArray), (ns.foldl (fun r n => r.push (UInt8.ofNat n.toNat)) r).data.toList.map UInt8.toNat = r.data.toList.map UInt8.toNat ++ ns.map fun n => n.toNat % 256
  | [], r => by simp
  | n :: ns, r => by
    simp only [List.foldl_cons]
    rw [foldl_bytes ns]
    simp [ByteArray.push]
theorem ok_cnv (h : e.St) {hp : Bool} {s d : TypeId} {x : Operand} {xa : A} {c : Cv} (hc : cConv e.P hp s d = some c) (hx : cA x = some xa) (ho : e.o.op = .convert s d x) (us : List Nat) (dd : Nat) :
    Res e (iCnv c xa us e.clr dd e.st) := by
  have hr := h.rep hx
  unfold cConv at hc
  split at hc
  · rename_i k0 k hus hud
    simp only [Option.some.injEq] at hc; subst hc
    cases hg : get e.st.tm xa with
    | it k' n =>
      rw [hg] at hr
      have hv := RepA.it_inv hr
      refine .eq (F' := fun c _ => c (.it k (wr k n)) e.st) (fun k kp => by simp only [iCnv, hg, convD]) ?_
      exact Res.val h (conv_run ho (by rw [hv]; simp [convert, run_underlying hus, run_underlying hud, Conv.intToInt])) (wr_rep _ _) rfl
    | _ => exact .bad fun _ _ => by simp only [iCnv, hg, convD]
  · rename_i hus hud
    simp only [Option.some.injEq] at hc; subst hc
    cases hg : get e.st.tm xa with
    | st l =>
      rw [hg] at hr
      obtain ⟨sv, hv, hl⟩ := RepA.st_inv hr
      refine .eq (F' := fun c _ => c (.st l) e.st) (fun k kp => by simp only [iCnv, hg, convD]) ?_
      exact Res.val h (conv_run ho (by rw [hv]; simp [convert, run_underlying hus, run_underlying hud])) (.c _ _ (.st l sv hl)) rfl
    | _ => exact .bad fun _ _ => by simp only [iCnv, hg, convD]
  · rename_i el hus hud
    cases hb : isByte e.P el with
    | false => simp [hb] at hc
    | true =>
      have hue := isByte_u hb
      simp only [hb, if_true, Option.some.injEq] at hc
      cases hg : get e.st.tm xa with
      | st l =>
        rw [hg] at hr
        obtain ⟨sv, hv, hl⟩ := RepA.st_inv hr
        have hrun := run_bytes_of_string (P := e.P) e.w s d el sv hus hud hue
        have hcap := grownCap_ge e.w sv.size 0 el
        obtain ⟨r1, r2, r3⟩ := bytesRow_rows hl (grownCap e.w sv.size 0 el)
        have hgrow := grow_mark e.w (bytesRow sv (grownCap e.w sv.size 0 el)) el
        have hf := conv_run ho (by rw [hv]; exact hrun)
        have hlen : l.length = sv.size := by rw [← r1]; simp
        generalize hcd : grownCap e.w sv.size 0 el = cap at hrun hcap r1 r2 r3 hgrow hf
        cases hp with
        | true =>
          simp only [if_true] at hc; subst hc
          refine .eq (F' := fun c _ => c (.hs e.st.hp.next 0 l.length) (Ev.mk e.st ⟨1, false, l.map fun n => [byte n]⟩)) (fun k kp => by simp only [iCnv, hg, convD]) ?_
          have hrows : Rows e.g ⟨1, false, l.map fun n => [byte n]⟩ cap (bytesRow sv cap) :=
            ⟨rfl, by simp only; omega, by rw [bytesRow_size hcap]; simp, r2, fun x hx c hc => by
              obtain ⟨i, hi⟩ := List.getElem?_of_mem hx
              obtain ⟨j, hj⟩ := List.getElem?_of_mem hc
              exact (r3 i j x c hi hj).1, fun i j x c hx hc => by
              obtain ⟨_, cv, h1, h2⟩ := r3 i j x c hx hc
              have : (bytesRow sv cap).getD (i * 1 + j) undef = cv := by rw [Nat.mul_one, Array.getD_eq_getD_getElem?, h1]; rfl
              rw [this]; exact .c _ _ (h2 _)⟩
          refine .out (.value _ _ hf) ⟨rfl, h.mem.new hgrow hrows, born_le h.mem.hr _, .inl rfl, .ofA ?_, fun _ _ _ _ hx => by cases hx⟩
          rw [← hlen]
          refine .hs _ _ _ _ _ (by omega) (.inr ⟨⟨e.w.heap.size, 0, 1, cap⟩, by simp [born], .inr ⟨by simp [ad], ?_⟩⟩)
          simp only [Nat.zero_add]; exact Nat.le_refl _
        | false =>
          simp only [Bool.false_eq_true, if_false] at hc; subst hc
          refine .eq (F' := fun c _ => c (.vs 1 (l.map fun n => [byte n])) e.st) (fun k kp => by simp only [iCnv, hg, convD]) ?_
          obtain ⟨hm, hle⟩ := h.mem.imm hgrow
          refine .out (.value _ _ hf) ⟨rfl, hm, hle, .inl rfl, .ofA (.c _ _ ?_), fun _ _ _ _ hx => by cases hx⟩
          rw [← r1]
          refine .vs 1 _ _ _ e.w.heap.size 0 (fun i j => (bytesRow sv cap).getD (i + j) undef) r2 (fun _ => rfl) (by omega) (fun i j x c hx hc => ?_) (fun i j x c hx hc => ?_)
          · obtain ⟨h1, cv, h2, h3⟩ := r3 i j x c hx hc
            refine ⟨h1, ?_⟩
            simp only [known, if_true, Nat.zero_add, Nat.mul_one, h2, Array.getD_eq_getD_getElem?, Option.getD_some]
          · obtain ⟨h1, cv, h2, h3⟩ := r3 i j x c hx hc
            simp only [h2, Array.getD_eq_getD_getElem?, Option.getD_some]; exact h3 _
      | _ => cases hp <;> (simp only [if_true, Bool.false_eq_true, if_false] at hc; subst hc; exact .bad fun _ _ => by simp only [iCnv, hg, convD])
  · rename_i el hus hud
    cases hb : isByte e.P el with
    | false => simp [hb] at hc
    | true =>
      have hue := isByte_u hb
      simp only [hb, if_true, Option.some.injEq] at hc; subst hc
      refine .eq (F' := fun k kp => elemsD e.st.hp 1 (get e.st.tm xa) fun es => Ev.oneD ((allSome unbyte es).map .st) fun v => k v e.st) (fun k kp => by simp only [iCnv, convD]) ?_
      refine Res.elems h hr (F := fun es k _ => Ev.oneD ((allSome unbyte es).map .st) fun v => k v e.st) fun es hes => ?_
      refine Res.oneD (f := fun v k _ => k v e.st) fun v hv => ?_
      cases hal : allSome unbyte es with
      | none => simp [hal] at hv
      | some l =>
        simp only [hal, Option.map_some, Option.some.injEq] at hv; subst hv
        obtain ⟨hl1, hl2⟩ := unbyte_get hal
        obtain ⟨a, cap, hcv, _, _, hx⟩ := hes
        have hconv := fun w => run_convert_bytes_string (P := e.P) w s d el a es.length cap hus hue hud
        rcases hx with hx | ⟨b, o, f, ha, hcell⟩
        · subst hx
          have hl0 : l = [] := List.eq_nil_of_length_eq_zero (by simpa using hl1)
          subst hl0
          refine Res.val h (cv := .string .empty) (conv_run ho ?_) (.c _ _ (.st _ _ rfl)) rfl
          rw [hcv, hconv]
          cases a with
          | none => rfl
          | some a =>
            have := run_bytesToString (P := e.P) e.w a 0 cap [] (by simpa using run_loadCells_list (P := e.P) e.w a [] (by simp))
            simpa using this
        · subst ha
          have hf0 : ∀ (i : Nat) (b' : Nat), l[i]? = some b' → ∃ n : Int, f i 0 = .int .u8 n ∧ b' = n.toNat % 256 ∧ e.w.cell? (ad b (o + i)) = some (f i 0) := by
            intro i b' hi
            obtain ⟨n, hn, hbn⟩ := hl2 i b' hi
            obtain ⟨_, h2, h3⟩ := hcell i 0 _ _ hn rfl
            exact ⟨n, RepA.it_inv h3, hbn, by simpa using h2⟩
          let ns : List Int := (List.range l.length).map fun i => match f i 0 with | .int _ n => n | _ => 0
          have hns : ∀ i, i < l.length → f i 0 = .int .u8 (ns.getD i 0) ∧ l[i]? = some ((ns.getD i 0).toNat % 256) := by
            intro i hi
            obtain ⟨n, h1, h2, _⟩ := hf0 i (l[i]) (by rw [List.getElem?_eq_getElem])
            have : ns.getD i 0 = n := by simp [ns, List.getD, hi, h1]
            rw [this, List.getElem?_eq_getElem hi]
            exact ⟨h1, by rw [h2]⟩
          have hnl : ns.length = l.length := by simp [ns]
          have hload : (loadCells (ad b o) es.length).run e.P e.w = .ok (ns.map (Value.int .u8)).toArray e.w := by
            have := run_loadCells_list (P := e.P) e.w (ad b o) (ns.map (Value.int .u8)) (fun j v hj => by
              have hjl := lt_of_get hj
              rw [List.length_map, hnl] at hjl
              obtain ⟨n, h1, h2, h3⟩ := hf0 j (l[j]) (by rw [List.getElem?_eq_getElem])
              rw [ad_add, h3, (hns j hjl).1]
              rw [List.getElem?_map, List.getElem?_eq_getElem (by omega)] at hj
              simp only [Option.map_some, Option.some.injEq] at hj
              rw [← hj, List.getD, List.getElem?_eq_getElem (by omega)]; rfl)
            rw [List.length_map, hnl, hl1] at this
            exact this
          refine Res.val h (cv := .string (ns.foldl (fun r n => r.push (UInt8.ofNat n.toNat)) ByteArray.empty)) (conv_run ho ?_) (.c _ _ (.st _ _ ?_)) rfl
          · rw [hcv, hconv, run_bytesToString e.w (ad b o) es.length cap ns hload]
          · rw [foldl_bytes]
            apply List.ext_getElem?
            intro i
            have he0 : ByteArray.empty.data.toList.map UInt8.toNat = [] := rfl
            rw [he0, List.nil_append, List.getElem?_map]
            by_cases hi : i < l.length
            · rw [(hns i hi).2, List.getD, List.getElem?_eq_getElem (by omega)]; rfl
            · rw [List.getElem?_eq_none (by omega), List.getElem?_eq_none (by omega)]; rfl
  · cases hc
end
end Ev
namespace Ev
variable [Glob]
open Go
section
variable {e : Env}
def BoundV (a : Act) (dflt : Nat) (lo : Option Operand) (n : Nat) : Prop :=
  match lo with
  | none => n = dflt
  | some x => ∃ k m, a.eval x = .int k m ∧ 0 ≤ m ∧ n = m.toNat
def cOpt : Option Operand → Option (Option A)
  | none => some none
  | some a => (cA a).map some
theorem Res.bound (h : e.St) {lo : Option Operand} {la : Option A} (hl : cOpt lo = some la) {dflt : Nat} {F : Nat → (V → St → D) → (V → St → D) → D} (hF : ∀ n, BoundV e.a dflt lo n → Res e (F n)) :
    Res e (fun k kp => boundD e.st.tm dflt la fun n => F n k kp) := by
  cases lo with
  | none => simp only [cOpt, Option.some.injEq] at hl; subst hl; exact hF dflt rfl
  | some x =>
    simp only [cOpt] at hl
    cases hx : cA x with
    | none => simp [hx] at hl
    | some xa =>
      simp only [hx, Option.map_some, Option.some.injEq] at hl; subst hl
      exact Res.nat' h hx (f := F) fun k n hv h0 => hF _ ⟨k, n, hv, h0, rfl⟩
theorem run_bounds {P : Program} {w : World} {a : Act} {lo hi : Option Operand} {b : Bool} {len cap l h : Nat} (hl : BoundV a 0 lo l) (hh : BoundV a len hi h) (h1 : l ≤ h) (h2 : h ≤ len) (h3 : len ≤ cap) :
    (Instr.sliceBounds b len cap (lo.map a.eval) (hi.map a.eval) none).run P w = .ok (l, h, cap) w := by
  cases lo with
  | none =>
    simp only [BoundV] at hl; subst hl
    cases hi with
    | none => simp only [BoundV] at hh; subst hh; simp [Instr.sliceBounds]
    | some y =>
      obtain ⟨k, m, hv, h0, rfl⟩ := hh
      simp [Instr.sliceBounds, run_sliceB (P := P) (w := w) hv h0 (Nat.le_trans h2 h3)]
  | some x =>
    obtain ⟨k, m, hv, h0, rfl⟩ := hl
    cases hi with
    | none => simp only [BoundV] at hh; subst hh; simp [Instr.sliceBounds, run_sliceB (P := P) (w := w) hv h0 h1]
    | some y =>
      obtain ⟨k', m', hv', h0', rfl⟩ := hh
      simp [Instr.sliceBounds, run_sliceB (P := P) (w := w) hv' h0' (Nat.le_trans h2 h3), run_sliceB (P := P) (w := w) hv h0 h1]
theorem drop_take_map {l : List UInt8} (a b : Nat) : ((l.drop a).take b).map UInt8.toNat = ((l.map UInt8.toNat).drop a).take b := by
  rw [List.map_take, List.map_drop]
theorem ok_slc (h : e.St) {t : TypeId} {x : Operand} {lo hi : Option Operand} {xa : A} {la ha : Option A} {s : Bool} {sz : Nat} (hu : if s then e.P.underlying t = some .string else ∃ el, e.P.underlying t = some (.slice el) ∧ Ev.size e.P el = some sz)
    (hx : cA x = some xa) (hl : cOpt lo = some la) (hh : cOpt hi = some ha) (ho : e.o.op = .slice t x lo hi none) (us : List Nat) (d : Nat) : Res e (iSlc s sz xa la ha us e.clr d e.st) := by
  have hr := h.rep hx
  have main : ∀ n, lenOf s (get e.st.tm xa) = some n → (∀ l hh v, BoundV e.a 0 lo l → BoundV e.a n hi hh → l ≤ hh → hh ≤ n → sliceV (get e.st.tm xa) l hh = some v → Res e (fun k _ => k v e.st)) →
      Res e (fun k kp => Ev.oneD (lenOf s (get e.st.tm xa)) fun n => boundD e.st.tm 0 la fun l => boundD e.st.tm n ha fun h =>
      .chk (Nat.ble l h) (.chk (Nat.ble h n) (Ev.oneD (sliceV (get e.st.tm xa) l h) fun v => k v e.st))) := by
    intro n hn hf
    refine Res.oneD (f := fun n k _ => boundD e.st.tm 0 la fun l => boundD e.st.tm n ha fun h => .chk (Nat.ble l h) (.chk (Nat.ble h n) (Ev.oneD (sliceV (get e.st.tm xa) l h) fun v => k v e.st))) fun n' hn' => ?_
    rw [hn] at hn'; cases hn'
    refine Res.bound h hl (F := fun l k _ => boundD e.st.tm n ha fun h => .chk (Nat.ble l h) (.chk (Nat.ble h n) (Ev.oneD (sliceV (get e.st.tm xa) l h) fun v => k v e.st))) fun l hl' => ?_
    refine Res.bound h hh (F := fun h k _ => .chk (Nat.ble l h) (.chk (Nat.ble h n) (Ev.oneD (sliceV (get e.st.tm xa) l h) fun v => k v e.st))) fun hh' hh'' => ?_
    refine .chk fun h1 => .chk fun h2 => ?_
    exact Res.oneD (f := fun v k _ => k v e.st) fun v hv => hf l hh' v hl' hh'' (Nat.le_of_ble_eq_true h1) (Nat.le_of_ble_eq_true h2) hv
  have hslice : ∀ a len cap l hh, s = false → e.a.eval x = .slice a len cap → BoundV e.a 0 lo l → BoundV e.a len hi hh → l ≤ hh → hh ≤ len → len ≤ cap →
      (execOp e.a.eval e.o).run e.P e.w = .ok (.value (.slice (if cap = l then a else a.map (·.add (l * sz))) (hh - l) (cap - l))) e.w := by
    intro a len cap l hh hs hv h1 h2 h3 h4 h5
    rw [hs] at hu
    obtain ⟨el, hue, hse⟩ := hu
    have := run_bounds (P := e.P) (w := e.w) (b := true) h1 h2 h3 h4 h5
    simp [execOp, ho, hv, Instr.sliceAt, Instr.slice, run_underlying hue, this, run_size hse]
  have bad : lenOf s (get e.st.tm xa) = none → (∀ k, szD e.st.hp sz (get e.st.tm xa) k = k) → Res e (iSlc s sz xa la ha us e.clr d e.st) := fun q q' => .bad fun k kp => by simp only [iSlc, q, q', Ev.oneD]
  cases hg : get e.st.tm xa with
  | st l =>
    cases s with
    | false => exact bad (by rw [hg]; rfl) (by rw [hg]; exact fun _ => rfl)
    | true =>
      refine .eq (fun k kp => ?_) (main l.length (by rw [hg]; rfl) fun a b v h1 h2 h3 h4 hv => ?_)
      · simp only [iSlc, hg]; rfl
      · rw [hg] at hr hv
        simp only [sliceV, Option.some.injEq] at hv; subst hv
        obtain ⟨sv, hsv, hll⟩ := RepA.st_inv hr
        have hsz : sv.size = l.length := by rw [← hll, List.length_map, Array.length_toList]; rfl
        simp only [if_true] at hu
        have := run_bounds (P := e.P) (w := e.w) (b := false) (cap := sv.size) h1 (by rw [hsz]; exact h2) h3 (by omega) (Nat.le_refl _)
        refine Res.val h (cv := .string (sv.extract a b)) (by simp [execOp, ho, hsv, Instr.sliceAt, Instr.slice, run_underlying hu, this]) (.c _ _ (.st _ _ ?_)) rfl
        rw [← hll, ← drop_take_map, ByteArray.data_extract]
        simp
  | ns =>
    cases s with
    | true => exact bad (by rw [hg]; rfl) (by rw [hg]; exact fun _ => rfl)
    | false =>
      refine .eq (fun k kp => ?_) (main 0 (by rw [hg]; rfl) fun a b v h1 h2 h3 h4 hv => ?_)
      · simp only [iSlc, hg]; rfl
      · rw [hg] at hr hv
        simp only [sliceV, Option.some.injEq] at hv; subst hv
        have hb : b = 0 := by omega
        have ha : a = 0 := by omega
        subst hb; subst ha
        have := hslice none 0 0 0 0 rfl (RepA.ns_inv hr) h1 h2 h3 h4 (Nat.le_refl _)
        exact Res.val h this (.c _ _ .ns) rfl
  | vs m es =>
    cases s with
    | true =>
      refine .bad fun k kp => ?_
      simp only [iSlc, hg, szD, lenOf, cond_true, Ev.oneD]
      cases Nat.beq m sz <;> rfl
    | false =>
      refine .eq (F' := fun k kp => bif Nat.beq m sz then (Ev.oneD (lenOf false (get e.st.tm xa)) fun n => boundD e.st.tm 0 la fun l => boundD e.st.tm n ha fun h =>
        .chk (Nat.ble l h) (.chk (Nat.ble h n) (Ev.oneD (sliceV (get e.st.tm xa) l h) fun v => k v e.st))) else .bad) (fun k kp => by simp only [iSlc, hg]; rfl) ?_
      refine .bif (G := fun _ _ => .bad) (fun hm => ?_) (fun _ => .bad fun _ _ => rfl)
      have hm := Nat.eq_of_beq_eq_true hm
      subst hm
      refine main es.length (by rw [hg]; rfl) fun a b v h1 h2 h3 h4 hv => ?_
      rw [hg] at hr hv
      simp only [sliceV, Option.some.injEq] at hv; subst hv
      obtain ⟨ad0, cap, bb, o, f, hcv, c1, c2, c3, c4, c5⟩ := RepA.vs_inv hr
      have hrun := hslice _ _ _ _ _ rfl hcv h1 h2 h3 h4 c3
      have hlen : ((es.drop a).take (b - a)).length = b - a := by rw [List.length_take, List.length_drop]; omega
      have hgt : ∀ (i : Nat) (x : List V), ((es.drop a).take (b - a))[i]? = some x → es[a + i]? = some x := by
        intro i x hi
        have := lt_of_get hi
        rw [List.getElem?_take_of_lt (by omega), List.getElem?_drop] at hi
        exact hi
      refine Res.val h hrun ?_ rfl
      generalize (es.drop a).take (b - a) = es' at hlen hgt ⊢
      rw [← hlen]
      refine .c _ _ (.vs m _ _ _ bb (o + a * m) (fun i j => f (a + i) j) (fun x hx => ?_) (fun hne => ?_) (by omega) (fun i j x c hx hc => ?_) (fun i j x c hx hc => c5 _ _ _ _ (hgt i x hx) hc))
      · obtain ⟨k, hk⟩ := List.getElem?_of_mem hx
        exact c1 x (List.mem_of_getElem? (hgt k x hk))
      · have hne' : es ≠ [] := by
          rintro rfl
          simp only [List.length_nil] at h4
          exact hne (List.eq_nil_of_length_eq_zero (by omega))
        have hba : 0 < b - a := by
          rcases Nat.eq_zero_or_pos (b - a) with q | q
          · exact absurd (List.eq_nil_of_length_eq_zero (hlen.trans q)) hne
          · exact q
        rw [if_neg (by omega), c2 hne', Option.map_some, ad_add]
      · have := c4 (a + i) j x c (hgt i x hx) hc
        refine ⟨this.1, ?_⟩
        rw [show o + a * m + i * m + j = o + (a + i) * m + j by rw [Nat.add_mul]; omega]
        exact this.2
  | hs id i len =>
    cases s with
    | true =>
      refine .bad fun k kp => ?_
      simp only [iSlc, hg, szD, lenOf, cond_true, Ev.oneD]
      cases hget e.st.hp id with
      | none => rfl
      | some bk => simp only []; cases Nat.beq bk.sz sz <;> rfl
    | false =>
      refine .eq (F' := fun k kp => match hget e.st.hp id with
        | some bk => bif Nat.beq bk.sz sz then (Ev.oneD (lenOf false (get e.st.tm xa)) fun n => boundD e.st.tm 0 la fun l => boundD e.st.tm n ha fun h =>
          .chk (Nat.ble l h) (.chk (Nat.ble h n) (Ev.oneD (sliceV (get e.st.tm xa) l h) fun v => k v e.st))) else .bad
        | none => .bad) (fun k kp => by simp only [iSlc, hg]; rfl) ?_
      refine Res.hget (F := fun bk k kp => bif Nat.beq bk.sz sz then (Ev.oneD (lenOf false (get e.st.tm xa)) fun n => boundD e.st.tm 0 la fun l => boundD e.st.tm n ha fun h =>
          .chk (Nat.ble l h) (.chk (Nat.ble h n) (Ev.oneD (sliceV (get e.st.tm xa) l h) fun v => k v e.st))) else .bad) fun bk hbk => ?_
      refine .bif (G := fun _ _ => .bad) (fun hm => ?_) (fun _ => .bad fun _ _ => rfl)
      have hm := Nat.eq_of_beq_eq_true hm
      refine main len (by rw [hg]; rfl) fun a b v h1 h2 h3 h4 hv => ?_
      rw [hg] at hr hv
      simp only [sliceV, Option.some.injEq] at hv; subst hv
      obtain ⟨a0, cap, hcv, c1, c2⟩ := RepA.hs_inv hr
      have hrun := hslice _ _ _ _ _ rfl hcv h1 h2 h3 h4 c1
      refine Res.val h hrun (.hs _ _ _ _ _ (by omega) ?_) rfl
      rcases c2 with c2 | ⟨r, hl1, c2⟩
      · exact .inl c2
      · refine .inr ⟨r, hl1, ?_⟩
        obtain ⟨bk0, e0, z⟩ := h.mem.hr.live id r hl1
        rw [hbk] at e0; cases e0
        have hsm : ∃ a', (if cap = a then a0 else a0.map (·.add (a * sz))) = some a' := by
          rw [hcv] at hr
          obtain ⟨a', rfl⟩ := RepA.hs_nn hr hl1
          split
          · exact ⟨_, rfl⟩
          · exact ⟨_, rfl⟩
        rcases c2 with c2 | ⟨c2, c3⟩
        · exact .inl ⟨by omega, hsm⟩
        · by_cases hcl : cap = a
          · exact .inl ⟨by omega, hsm⟩
          · refine .inr ⟨?_, by omega⟩
            rw [if_neg hcl, c2, Option.map_some, ad_add, ← hm, ← z.sz, Nat.add_mul, Nat.add_assoc]
  | _ => exact bad (by rw [hg]; rfl) (by rw [hg]; exact fun _ => rfl)
theorem made_rows {g : G} {z : List V} {zv : Value} {sz n c : Nat} (hz : z.length = sz) (h0 : 0 < sz) (hn : zv.cells.size = z.length) (hk : ∀ c, c ∈ z → c.keep = true) (hr : ∀ (j : Nat) (c : V), z[j]? = some c → RepA g c (zv.cells.getD j undef)) (hc : n ≤ c) :
    Rows g ⟨sz, false, List.replicate n z⟩ c (madeCells zv.cells (c * sz)) := by
  refine ⟨rfl, by simpa using hc, by simp [size_madeCells], fun x hx => ?_, fun x hx c' hc' => ?_, fun i j x c' hx hc' => ?_⟩
  · rw [(List.mem_replicate.1 hx).2, hz]
  · rw [(List.mem_replicate.1 hx).2] at hc'; exact hk c' hc'
  · have hi := lt_of_get hx
    have hxz := (List.mem_replicate.1 (List.mem_of_getElem? hx)).2
    subst hxz
    have hj := lt_of_get hc'
    simp only [List.length_replicate] at hi
    have hlt : i * sz + j < c * sz := Nat.lt_of_lt_of_le (idx_lt hi (hz ▸ hj)) (Nat.mul_le_mul_right _ hc)
    have hmod : (i * sz + j) % zv.cells.size = j := by rw [hn, hz, Nat.mul_comm, Nat.mul_add_mod, Nat.mod_eq_of_lt (hz ▸ hj)]
    have : (madeCells zv.cells (c * sz)).getD (i * sz + j) undef = zv.cells.getD j undef := by
      have hjs : j < zv.cells.size := by omega
      simp only [madeCells, Array.getD_eq_getD_getElem?, Array.getElem?_map, Array.getElem?_range, hlt, if_true, Option.map_some, Option.getD_some, hmod]
      rw [Array.getElem!_eq_getD]; simp [Array.getD_eq_getD_getElem?, Array.getElem?_eq_getElem hjs]
    rw [this]
    exact hr j c' hc'
theorem ok_mks (h : e.St) {t el : TypeId} {x y : Operand} {xa ya : A} {sz bytes : Nat} {z : List V} (hu : e.P.underlying t = some (.slice el)) (hs : Ev.size e.P el = some sz) (hz : Ev.zeroOf e.P el = some z) (hb : Ev.bytesOf e.P el = some bytes)
    (h0 : 0 < sz) (hzl : z.length = sz) (hx : cA x = some xa) (hy : cA y = some ya) (ho : e.o.op = .makeSlice t x y) (us : List Nat) (d : Nat) : Res e (iMks sz bytes z xa ya us e.clr d e.st) := by
  refine Res.nat' h hx (f := fun l k _ => natD (get e.st.tm ya) fun c => .chk (Nat.ble l c) (.chk (Nat.ble c 9223372036854775807) (.chk (Nat.ble (c * bytes) maxB) (k (.hs e.st.hp.next 0 l) (Ev.mk e.st ⟨sz, false, List.replicate l z⟩))))) fun kl l hl hl0 => ?_
  refine Res.nat' h hy (f := fun c k _ => .chk (Nat.ble l.toNat c) (.chk (Nat.ble c 9223372036854775807) (.chk (Nat.ble (c * bytes) maxB) (k (.hs e.st.hp.next 0 l.toNat) (Ev.mk e.st ⟨sz, false, List.replicate l.toNat z⟩))))) fun kc c hc hc0 => ?_
  refine .chk fun q1 => .chk fun q2 => .chk fun q3 => ?_
  have q1 := Nat.le_of_ble_eq_true q1
  have q2 := Nat.le_of_ble_eq_true q2
  have q3 := Nat.le_of_ble_eq_true q3
  obtain ⟨i, hi, his⟩ := size_info hs
  obtain ⟨i', zv, v, hi', hzz, _, _, hn, hk, hr⟩ := zero_info (g := e.g) hz
  rw [hi] at hi'; cases hi'
  have hbytes : i.bytes = bytes := by simpa [Ev.bytesOf, hi] using hb
  have q4 : (i.bytes : Int) * c ≤ 281474976710656 := by
    have : ((c.toNat * bytes : Nat) : Int) ≤ 140737488355328 := by unfold maxB at q3; omega
    rw [Int.natCast_mul, Int.toNat_of_nonneg hc0] at this
    rw [hbytes, Int.mul_comm]; omega
  have hrun := run_make (P := e.P) e.w t el i zv hu hi hzz kl kc l c hl0 (by omega) q4 (by omega)
  rw [his] at hrun
  have hrows := made_rows (g := e.g) (n := l.toNat) (c := c.toNat) hzl h0 hn hk hr q1
  have hf : (execOp e.a.eval e.o).run e.P e.w = .ok (.value (.slice (some ⟨e.w.heap.size, 0, none⟩) l.toNat c.toNat)) (e.w.alloc (.cells (madeCells zv.cells (c.toNat * sz)) el)) := by
    simp [execOp, ho, hl, hc, hrun]
  refine .out (.value _ _ hf) ⟨rfl, h.mem.new (grow_alloc _ _ _) hrows, born_le h.mem.hr _, .inl rfl, .ofA ?_, fun _ _ _ _ hx => by cases hx⟩
  refine .hs _ _ _ _ _ q1 (.inr ⟨⟨e.w.heap.size, 0, sz, c.toNat⟩, by simp [born], .inr ⟨by simp [ad], by simp⟩⟩)
end
end Ev
namespace Ev
variable [Glob]
open Go
theorem foldl_set (off : Nat) : ∀ (vs : List Value) (k : Nat) (arr : Array Value),
    ((vs.zipIdx k).foldl (fun cs (x : Value × Nat) => cs.setIfInBounds (off + x.2) x.1) arr).size = arr.size ∧
    ∀ i, ((vs.zipIdx k).foldl (fun cs (x : Value × Nat) => cs.setIfInBounds (off + x.2) x.1) arr)[i]? = if off + k ≤ i ∧ i < off + k + vs.length ∧ i < arr.size then vs[i - (off + k)]? else arr[i]?
  | [], k, arr => by simp; intro i h1 h2; omega
  | v :: r, k, arr => by
    obtain ⟨h1, h2⟩ := foldl_set off r (k + 1) (arr.setIfInBounds (off + k) v)
    have hs2 : (arr.setIfInBounds (off + k) v).size = arr.size := by simp
    simp only [List.zipIdx_cons, List.foldl_cons]
    refine ⟨by rw [h1, hs2], fun i => ?_⟩
    rw [h2 i, hs2, Array.getElem?_setIfInBounds]
    simp only [List.length_cons]
    by_cases c1 : off + (k + 1) ≤ i ∧ i < off + (k + 1) + r.length ∧ i < arr.size
    · rw [if_pos c1, if_pos (by omega), show i - (off + k) = (i - (off + (k + 1))) + 1 by omega, List.getElem?_cons_succ]
    · rw [if_neg c1]
      by_cases e : off + k = i
      · rw [if_pos e]
        by_cases hi : off + k < arr.size
        · rw [if_pos hi, if_pos (by omega), show i - (off + k) = 0 by omega]; rfl
        · rw [if_neg hi, if_neg (by omega), Array.getElem?_eq_none (by omega)]
      · rw [if_neg e, if_neg (by omega)]
structure Sim (g : G) (cs : List V) (arr : Array Value) : Prop where
  size : arr.size = cs.length
  keep : ∀ c, c ∈ cs → c.keep = true
  rep : ∀ (j : Nat) (c : V), cs[j]? = some c → RepA g c (arr.getD j undef)
structure SimE (g : G) (sz : Nat) (es : List (List V)) (arr : Array Value) : Prop where
  size : arr.size = es.length * sz
  row : ∀ x, x ∈ es → x.length = sz
  keep : ∀ x, x ∈ es → ∀ c, c ∈ x → c.keep = true
  rep : ∀ (i j : Nat) (x : List V) (c : V), es[i]? = some x → x[j]? = some c → RepA g c (arr.getD (i * sz + j) undef)
theorem getD_of {arr : Array Value} {j : Nat} {v : Value} (h : arr[j]? = some v) : arr.getD j undef = v := by simp [Array.getD_eq_getD_getElem?, h]
theorem Sim.over {g : G} {cs xs : List V} {arr : Array Value} {cv : Value} (h : Sim g cs arr) (off : Nat) (hl : off + xs.length ≤ cs.length) (h1 : cv.cells.size = xs.length) (h2 : ∀ c, c ∈ xs → c.keep = true)
    (h3 : ∀ (j : Nat) (c : V), xs[j]? = some c → RepA g c (cv.cells.getD j undef)) :
    Sim g (over off xs cs) (cv.cells.zipIdx.foldl (fun cs (x : Value × Nat) => cs.setIfInBounds (off + x.2) x.1) arr) := by
  have hfold : cv.cells.zipIdx.foldl (fun cs (x : Value × Nat) => cs.setIfInBounds (off + x.2) x.1) arr = (cv.cells.toList.zipIdx 0).foldl (fun cs (x : Value × Nat) => cs.setIfInBounds (off + x.2) x.1) arr := by
    rw [← Array.foldl_toList, Array.toList_zipIdx]
  obtain ⟨f1, f2⟩ := foldl_set off cv.cells.toList 0 arr
  rw [hfold]
  refine ⟨by rw [f1, h.size, over_len hl], fun c hc => ?_, fun j c hj => ?_⟩
  · rw [Ev.over_eq] at hc
    rcases List.mem_append.1 hc with hc | hc
    · exact h.keep c (List.mem_of_mem_take hc)
    · rcases List.mem_append.1 hc with hc | hc
      · exact h2 c hc
      · exact h.keep c (List.mem_of_mem_drop hc)
  · have hjl := lt_of_get hj
    rw [over_len hl] at hjl
    rw [over_get hl] at hj
    have hf := f2 j
    simp only [Nat.add_zero, Array.length_toList, h1] at hf
    by_cases hin : off ≤ j ∧ j < off + xs.length
    · rw [if_pos hin] at hj
      rw [if_pos ⟨hin.1, hin.2, by rw [h.size]; exact hjl⟩] at hf
      have := h3 _ c hj
      rw [Array.getElem?_toList, Array.getElem?_eq_getElem (xs := cv.cells) (i := j - off) (by omega)] at hf
      rw [getD_of hf]
      simpa [Array.getD_eq_getD_getElem?, Array.getElem?_eq_getElem (by omega : j - off < cv.cells.size)] using this
    · rw [if_neg hin] at hj
      rw [if_neg (by omega)] at hf
      have := h.rep j c hj
      rw [Array.getD_eq_getD_getElem?, hf, ← Array.getD_eq_getD_getElem?]
      exact this
theorem fill_rep {g : G} {ν : Nat → Option Nat} {tm : Tm} {a : Act} (hgl : GlobOK g.κ) (ht : ∀ t, RepT g ν (tm t) (a.tmps.getD t undef)) {φ : Nat × Operand → Option (Nat × Nat × A)} {place : Nat → Option (Nat × Nat)}
    (hφ : ∀ i x o n xa, φ (i, x) = some (o, n, xa) → place i = some (o, n) ∧ cA x = some xa) :
    ∀ (ps : List (Nat × Operand)) (ms : List (Nat × Nat × A)), allSome φ ps = some ms → ∀ (cs : List V) (arr : Array Value), Sim g cs arr → ∀ cs', fill (ms.map fun (o, n, a) => (o, n, get tm a)) cs = some cs' →
      ∃ arr', Instr.fill place arr (ps.map fun (i, x) => (i, a.eval x)) = some arr' ∧ Sim g cs' arr'
  | [], ms, hm, cs, arr, hs, cs', hf => by
    simp only [allSome, Option.some.injEq] at hm; subst hm
    simp only [List.map_nil, fill, Option.some.injEq] at hf; subst hf
    exact ⟨arr, rfl, hs⟩
  | (i, x) :: ps, ms, hm, cs, arr, hs, cs', hf => by
    simp only [allSome] at hm
    cases h1 : φ (i, x) with
    | none => simp [h1] at hm
    | some q =>
      obtain ⟨o, n, xa⟩ := q
      cases h2 : allSome φ ps with
      | none => simp [h1, h2] at hm
      | some ms' =>
        simp only [h1, h2, Option.some.injEq] at hm; subst hm
        obtain ⟨hp, hx⟩ := hφ i x o n xa h1
        simp only [List.map_cons, fill] at hf
        cases b1 : Nat.beq (get tm xa).cells.length n with
        | false => simp only [b1, cond_false] at hf; cases hf
        | true =>
          simp only [b1, cond_true] at hf
          cases b2 : Nat.ble (o + n) cs.length with
          | false => simp only [b2, cond_false] at hf; cases hf
          | true =>
            simp only [b2, cond_true] at hf
            cases b3 : (get tm xa).cells.all V.keep with
            | false => simp only [b3, cond_false] at hf; cases hf
            | true =>
              simp only [b3, cond_true] at hf
              have e1 := Nat.eq_of_beq_eq_true b1
              have e2 := Nat.le_of_ble_eq_true b2
              obtain ⟨c1, c2, c3⟩ := ((cA_rep hx hgl ht).toA (keepLp b3)).cells b3
              have hs' := hs.over o (by omega) c1 c2 c3
              obtain ⟨arr', r1, r2⟩ := fill_rep hgl ht hφ ps ms' h2 _ _ hs' cs' hf
              refine ⟨arr', ?_, r2⟩
              simp only [List.map_cons, Instr.fill, hp]
              have : ((a.eval x).cells.size ≠ n || decide (o + (a.eval x).cells.size > arr.size)) = false := by
                have := hs.size
                simp; omega
              rw [if_neg (by simpa using this)]
              exact r1
theorem SimE.set {g : G} {sz i : Nat} {xs : List V} {es : List (List V)} {arr : Array Value} {cv : Value} (h : SimE g sz es arr) (hi : i < es.length) (hl : xs.length = sz) (h1 : cv.cells.size = xs.length) (h2 : ∀ c, c ∈ xs → c.keep = true)
    (h3 : ∀ (j : Nat) (c : V), xs[j]? = some c → RepA g c (cv.cells.getD j undef)) :
    SimE g sz (es.set i xs) (cv.cells.zipIdx.foldl (fun cs (x : Value × Nat) => cs.setIfInBounds (i * sz + x.2) x.1) arr) := by
  have hfold : cv.cells.zipIdx.foldl (fun cs (x : Value × Nat) => cs.setIfInBounds (i * sz + x.2) x.1) arr = (cv.cells.toList.zipIdx 0).foldl (fun cs (x : Value × Nat) => cs.setIfInBounds (i * sz + x.2) x.1) arr := by
    rw [← Array.foldl_toList, Array.toList_zipIdx]
  obtain ⟨f1, f2⟩ := foldl_set (i * sz) cv.cells.toList 0 arr
  rw [hfold]
  refine ⟨by rw [f1, h.size]; simp, fun x hx => ?_, fun x hx c hc => ?_, fun i' j x c hx hc => ?_⟩
  · rcases List.mem_or_eq_of_mem_set hx with hx | hx
    · exact h.row x hx
    · rw [hx]; exact hl
  · rcases List.mem_or_eq_of_mem_set hx with hx | hx
    · exact h.keep x hx c hc
    · rw [hx] at hc; exact h2 c hc
  · have hf := f2 (i' * sz + j)
    simp only [Nat.add_zero, Array.length_toList, h1, hl] at hf
    rw [List.getElem?_set] at hx
    have hmul : (i + 1) * sz ≤ es.length * sz := Nat.mul_le_mul_right _ hi
    rw [Nat.add_mul, Nat.one_mul] at hmul
    by_cases e : i = i'
    · subst e
      simp only [if_true, hi, Option.some.injEq] at hx; subst hx
      have hj := lt_of_get hc
      rw [if_pos ⟨by omega, by omega, by rw [h.size]; omega⟩, show i * sz + j - i * sz = j by omega, Array.getElem?_toList, Array.getElem?_eq_getElem (xs := cv.cells) (i := j) (by omega)] at hf
      rw [getD_of hf]
      simpa [Array.getD_eq_getD_getElem?, Array.getElem?_eq_getElem (by omega : j < cv.cells.size)] using h3 j c hc
    · simp only [e, if_false] at hx
      have hj := lt_of_get hc
      rw [h.row x (List.mem_of_getElem? hx)] at hj
      have hout : ¬ (i * sz ≤ i' * sz + j ∧ i' * sz + j < i * sz + sz ∧ i' * sz + j < arr.size) := by
        rcases Nat.lt_or_gt_of_ne e with q | q
        · have : (i + 1) * sz ≤ i' * sz := Nat.mul_le_mul_right _ q
          rw [Nat.add_mul, Nat.one_mul] at this
          omega
        · have : (i' + 1) * sz ≤ i * sz := Nat.mul_le_mul_right _ q
          rw [Nat.add_mul, Nat.one_mul] at this
          omega
      rw [if_neg hout] at hf
      have := h.rep i' j x c hx hc
      rw [Array.getD_eq_getD_getElem?, hf, ← Array.getD_eq_getD_getElem?]
      exact this
theorem fillE_rep {g : G} {ν : Nat → Option Nat} {tm : Tm} {a : Act} (hgl : GlobOK g.κ) (ht : ∀ t, RepT g ν (tm t) (a.tmps.getD t undef)) {sz : Nat} {φ : Nat × Operand → Option (Nat × A)} (hφ : ∀ i x j xa, φ (i, x) = some (j, xa) → j = i ∧ cA x = some xa) :
    ∀ (ps : List (Nat × Operand)) (ms : List (Nat × A)), allSome φ ps = some ms → ∀ (es : List (List V)) (arr : Array Value), SimE g sz es arr → ∀ es', fillE sz (ms.map fun (i, a) => (i, get tm a)) es = some es' →
      ∃ arr', Instr.fill (fun i => some (i * sz, sz)) arr (ps.map fun (i, x) => (i, a.eval x)) = some arr' ∧ SimE g sz es' arr' ∧ es'.length = es.length
  | [], ms, hm, es, arr, hs, es', hf => by
    simp only [allSome, Option.some.injEq] at hm; subst hm
    simp only [List.map_nil, fillE, Option.some.injEq] at hf; subst hf
    exact ⟨arr, rfl, hs, rfl⟩
  | (i, x) :: ps, ms, hm, es, arr, hs, es', hf => by
    simp only [allSome] at hm
    cases h1 : φ (i, x) with
    | none => simp [h1] at hm
    | some q =>
      obtain ⟨i', xa⟩ := q
      cases h2 : allSome φ ps with
      | none => simp [h1, h2] at hm
      | some ms' =>
        simp only [h1, h2, Option.some.injEq] at hm; subst hm
        obtain ⟨hp, hx⟩ := hφ i x i' xa h1
        subst hp
        simp only [List.map_cons, fillE] at hf
        cases b1 : Nat.beq (get tm xa).cells.length sz with
        | false => simp only [b1, cond_false] at hf; cases hf
        | true =>
          simp only [b1, cond_true] at hf
          cases b2 : Nat.blt i' es.length with
          | false => simp only [b2, cond_false] at hf; cases hf
          | true =>
            simp only [b2, cond_true] at hf
            cases b3 : (get tm xa).cells.all V.keep with
            | false => simp only [b3, cond_false] at hf; cases hf
            | true =>
              simp only [b3, cond_true] at hf
              have e1 := Nat.eq_of_beq_eq_true b1
              have e2 := bltL b2
              obtain ⟨c1, c2, c3⟩ := ((cA_rep hx hgl ht).toA (keepLp b3)).cells b3
              have hs' := hs.set e2 e1 c1 c2 c3
              obtain ⟨arr', r1, r2, r3⟩ := fillE_rep hgl ht hφ ps ms' h2 _ _ hs' es' hf
              refine ⟨arr', ?_, r2, by rw [r3]; simp⟩
              simp only [List.map_cons, Instr.fill]
              have hmul : (i' + 1) * sz ≤ es.length * sz := Nat.mul_le_mul_right _ e2
              rw [Nat.add_mul, Nat.one_mul] at hmul
              have : ((a.eval x).cells.size ≠ sz || decide (i' * sz + (a.eval x).cells.size > arr.size)) = false := by
                have := hs.size
                simp; omega
              rw [if_neg (by simpa using this)]
              exact r1
section
variable {e : Env}
theorem map_eval {ps : Array (Nat × Operand)} {ρ : Operand → Value} : (ps.map fun (i, x) => (i, ρ x)).toList = ps.toList.map fun (i, x) => (i, ρ x) := by simp
theorem ok_bld (h : e.St) {t : TypeId} {ps : Array (Nat × Operand)} {z : List V} {ms : List (Nat × Nat × A)} {φ : Nat × Operand → Option (Nat × Nat × A)} {place : Nat → Option (Nat × Nat)} (hz : Ev.zeroOf e.P t = some z)
    (hφ : ∀ i x o n xa, φ (i, x) = some (o, n, xa) → place i = some (o, n) ∧ cA x = some xa) (hm : allSome φ ps.toList = some ms)
    (hb : ∀ i zv l cells, e.P.info? t = some i → i.zero = some zv → Instr.fill place zv.cells l = some cells → e.P.built t l = some cells)
    (ho : e.o.op = .build t ps) (us : List Nat) (d : Nat) : Res e (iBld z ms us e.clr d e.st) := by
  refine Res.oneD (f := fun v k _ => k v e.st) fun v hv => ?_
  obtain ⟨i, zv, _, hi, hzz, _, _, hn, hk, hr⟩ := zero_info (g := e.g) hz
  cases hf : fill (ms.map fun (o, n, a) => (o, n, get e.st.tm a)) z with
  | none => simp [hf] at hv
  | some cs =>
    simp only [hf, Option.map_some, Option.some.injEq] at hv; subst hv
    obtain ⟨arr', h1, h2⟩ := fill_rep (a := e.a) h.mem.glob h.tm hφ ps.toList ms hm z zv.cells ⟨hn, hk, hr⟩ cs hf
    have hrun := run_build (P := e.P) e.w t (ps.map fun (i, x) => (i, e.a.eval x)) arr' (hb i zv _ arr' hi hzz (by rw [map_eval]; exact h1))
    exact Res.val h (cv := .agg arr') (by simp only [execOp, ho, Sem.run_bind, hrun, Result.andThen_ok, Sem.run_pure]) (.ag cs arr' h2.size h2.keep h2.rep) rfl
theorem made_sim {g : G} {z : List V} {zv : Value} {sz n : Nat} (hz : z.length = sz) (h0 : 0 < sz) (hn : zv.cells.size = z.length) (hk : ∀ c, c ∈ z → c.keep = true) (hr : ∀ (j : Nat) (c : V), z[j]? = some c → RepA g c (zv.cells.getD j undef)) :
    SimE g sz (List.replicate n z) (madeCells zv.cells (n * sz)) := by
  have h := made_rows (g := g) (n := n) (c := n) hz h0 hn hk hr (Nat.le_refl _)
  exact ⟨by simp [size_madeCells], h.row, h.keep, h.rep⟩
theorem run_buildSlice {P : Program} {w : World} {t el : TypeId} {sz n : Nat} {i : TypeInfo} {zv : Value} {parts : Array (Nat × Value)} {arr : Array Value} (hu : P.underlying t = some (.slice el)) (hi : P.info? el = some i) (hs : i.size = sz) (hz : i.zero = some zv)
    (hn : n * sz ≤ 2 ^ 20) (hf : Instr.fill (fun i => some (i * sz, sz)) (madeCells zv.cells (n * sz)) parts.toList = some arr) :
    (Instr.buildSlice t n parts).run P w = .ok (.slice (some ⟨w.heap.size, 0, none⟩) n n) (w.alloc (.cells arr el)) := by
  subst hs
  have h24 : ¬ (n * i.size > 2 ^ 24) := by omega
  unfold madeCells at hf
  by_cases h0 : n * i.size = 0
  · rw [h0] at hf
    have : (Array.map (fun x => zv.cells[x % zv.cells.size]!) (Array.range 0)) = #[] := by simp [Array.range_zero']
    rw [this] at hf
    simp [Instr.buildSlice, run_underlying hu, Go.sizeOf, typeInfo, hi, h0, hf, newRow, Array.range_zero']
  · simp [Instr.buildSlice, run_underlying hu, Go.sizeOf, typeInfo, hi, h24, h0, zeroValue, hz, hf, newRow]
theorem bs_run (h : e.St) {t el : TypeId} {n sz : Nat} {ps : Array (Nat × Operand)} {z : List V} {ms : List (Nat × A)} {es : List (List V)} (hu : e.P.underlying t = some (.slice el)) (hs : Ev.size e.P el = some sz) (hz : Ev.zeroOf e.P el = some z)
    (hm : allSome partE ps.toList = some ms) (hn : n * sz ≤ 2 ^ 20) (h0 : 0 < sz) (hzl : z.length = sz) (ho : e.o.op = .buildSlice t n ps)
    (hf : fillE sz (ms.map fun (i, a) => (i, get e.st.tm a)) (List.replicate n z) = some es) :
    ∃ arr, SimE e.g sz es arr ∧ es.length = n ∧ (execOp e.a.eval e.o).run e.P e.w = .ok (.value (.slice (some ⟨e.w.heap.size, 0, none⟩) n n)) (e.w.alloc (.cells arr el)) := by
  obtain ⟨i, hi, his⟩ := size_info hs
  obtain ⟨i', zv, _, hi', hzz, _, _, hzn, hk, hr⟩ := zero_info (g := e.g) hz
  rw [hi] at hi'; cases hi'
  obtain ⟨arr', h1, h2, h3⟩ := fillE_rep (a := e.a) h.mem.glob h.tm (φ := partE) (fun i x j xa hx => by
    unfold partE at hx
    cases hc : cA x with
    | none => simp [hc] at hx
    | some y => simp only [hc, Option.map_some, Option.some.injEq, Prod.mk.injEq] at hx; exact ⟨hx.1.symm, by rw [hx.2]⟩) ps.toList ms hm _ _ (made_sim (n := n) hzl h0 hzn hk hr) es hf
  refine ⟨arr', h2, by simpa using h3, ?_⟩
  have := run_buildSlice (P := e.P) (w := e.w) (n := n) (parts := ps.map fun (i, x) => (i, e.a.eval x)) (arr := arr') hu hi his hzz hn (by rw [map_eval]; exact h1)
  simp only [execOp, ho, Sem.run_bind, this, Result.andThen_ok, Sem.run_pure]
theorem ok_bsl (h : e.St) {t el : TypeId} {n sz : Nat} {ps : Array (Nat × Operand)} {z : List V} {ms : List (Nat × A)} (hu : e.P.underlying t = some (.slice el)) (hs : Ev.size e.P el = some sz) (hz : Ev.zeroOf e.P el = some z)
    (hm : allSome partE ps.toList = some ms) (hn : n * sz ≤ 2 ^ 20) (h0 : 0 < sz) (hzl : z.length = sz) (ho : e.o.op = .buildSlice t n ps) (us : List Nat) (d : Nat) :
    Res e (iBsl sz (List.replicate n z) ms us e.clr d e.st) := by
  cases hf : fillE sz (ms.map fun (i, a) => (i, get e.st.tm a)) (List.replicate n z) with
  | none => exact .bad fun k kp => by simp only [iBsl, hf]
  | some es =>
    refine .eq (F' := fun k _ => k (.hs e.st.hp.next 0 es.length) (Ev.mk e.st ⟨sz, false, es⟩)) (fun k kp => by simp only [iBsl, hf]) ?_
    obtain ⟨arr, h1, h2, h3⟩ := bs_run h hu hs hz hm hn h0 hzl ho hf
    have hrows : Rows e.g ⟨sz, false, es⟩ n arr := ⟨rfl, by simp only; omega, by rw [h1.size, h2], h1.row, h1.keep, h1.rep⟩
    refine .out (.value _ _ h3) ⟨rfl, h.mem.new (grow_alloc _ _ _) hrows, born_le h.mem.hr _, .inl rfl, .ofA ?_, fun _ _ _ _ hx => by cases hx⟩
    rw [h2]
    exact .hs _ _ _ _ _ (Nat.le_refl _) (.inr ⟨⟨e.w.heap.size, 0, sz, n⟩, by simp [born], .inr ⟨by simp [ad], by simp⟩⟩)
theorem get_h0 (id : Nat) : hget h0 id = none := rfl
theorem close_h0 : ∀ n,
    (∀ t v x hp', closeC n t v h0 = some (x, hp') → hp' = h0 ∧ ∀ g cv, RepA g v cv → RepC g.κ x cv) ∧
    (∀ ts vs xs hp', closeCs n ts vs h0 = some (xs, hp') → hp' = h0 ∧ xs.length = vs.length ∧ ∀ (i : Nat) (x : V), xs[i]? = some x → ∃ v, vs[i]? = some v ∧ ∀ g cv, RepA g v cv → RepC g.κ x cv) ∧
    (∀ ts es xs hp', closeEs n ts es h0 = some (xs, hp') → hp' = h0 ∧ xs.length = es.length ∧ ∀ (i : Nat) (x : List V), xs[i]? = some x → ∃ e, es[i]? = some e ∧ x.length = e.length ∧ ∀ (j : Nat) (c : V), x[j]? = some c → ∃ v, e[j]? = some v ∧ ∀ g cv, RepA g v cv → RepC g.κ c cv) := by
  intro n
  induction n with
  | zero => exact ⟨fun _ _ _ _ h => by simp [closeC] at h, fun _ _ _ _ h => by simp [closeCs] at h, fun _ _ _ _ h => by simp [closeEs] at h⟩
  | succ n ih =>
    obtain ⟨ihC, ihCs, ihEs⟩ := ih
    refine ⟨fun t v x hp' h => ?_, fun ts vs xs hp' h => ?_, fun ts es xs hp' h => ?_⟩
    · cases t with
      | one =>
        simp only [closeC] at h
        split at h <;> first | (simp at h; done) | (simp only [Option.some.injEq, Prod.mk.injEq] at h; obtain ⟨rfl, rfl⟩ := h; exact ⟨rfl, fun g cv hr => by cases hr; assumption⟩)
      | sl cs =>
        simp only [closeC] at h
        split at h
        · simp only [Option.some.injEq, Prod.mk.injEq] at h; obtain ⟨rfl, rfl⟩ := h
          refine ⟨rfl, fun g cv hr => ?_⟩
          have := RepA.ns_inv hr; subst this
          exact .vs cs.length [] none 0 0 0 (fun _ _ => undef) (by simp) (by simp) (by simp) (by simp) (by simp)
        · rename_i sz es
          cases hb : Nat.beq sz cs.length <;> simp only [hb, cond_true, cond_false] at h
          · cases h
          · simp only [Option.some.injEq, Prod.mk.injEq] at h; obtain ⟨rfl, rfl⟩ := h
            exact ⟨rfl, fun g cv hr => by cases hr; assumption⟩
        · rename_i id i len
          rw [get_h0] at h
          cases h
        · cases h
    · cases ts with
      | nil =>
        cases vs with
        | nil => simp only [closeCs, Option.some.injEq, Prod.mk.injEq] at h; obtain ⟨rfl, rfl⟩ := h; exact ⟨rfl, rfl, by simp⟩
        | cons => simp [closeCs] at h
      | cons t ts =>
        cases vs with
        | nil => simp [closeCs] at h
        | cons v vs =>
          simp only [closeCs] at h
          cases hc : closeC n t v h0 with
          | none => simp [hc] at h
          | some p =>
            obtain ⟨x, h1⟩ := p
            obtain ⟨rfl, r1⟩ := ihC t v x h1 hc
            simp only [hc] at h
            cases hcs : closeCs n ts vs h0 with
            | none => simp [hcs] at h
            | some q =>
              obtain ⟨xs', h2⟩ := q
              obtain ⟨rfl, l2, r2⟩ := ihCs ts vs xs' h2 hcs
              simp only [hcs, Option.some.injEq, Prod.mk.injEq] at h
              obtain ⟨rfl, rfl⟩ := h
              refine ⟨rfl, by simp [l2], fun i u hu => ?_⟩
              cases i with
              | zero => simp at hu; subst hu; exact ⟨v, rfl, r1⟩
              | succ i => simpa using r2 i u (by simpa using hu)
    · cases es with
      | nil => simp only [closeEs, Option.some.injEq, Prod.mk.injEq] at h; obtain ⟨rfl, rfl⟩ := h; exact ⟨rfl, rfl, by simp⟩
      | cons e es =>
        simp only [closeEs] at h
        cases hc : closeCs n ts e h0 with
        | none => simp [hc] at h
        | some p =>
          obtain ⟨x, h1⟩ := p
          obtain ⟨rfl, l1, r1⟩ := ihCs ts e x h1 hc
          simp only [hc] at h
          cases hcs : closeEs n ts es h0 with
          | none => simp [hcs] at h
          | some q =>
            obtain ⟨xs', h2⟩ := q
            obtain ⟨rfl, l2, r2⟩ := ihEs ts es xs' h2 hcs
            simp only [hcs, Option.some.injEq, Prod.mk.injEq] at h
            obtain ⟨rfl, rfl⟩ := h
            refine ⟨rfl, by simp [l2], fun i u hu => ?_⟩
            cases i with
            | zero => simp at hu; subst hu; exact ⟨e, rfl, l1, r1⟩
            | succ i => simpa using r2 i u (by simpa using hu)
theorem ok_bsv (h : e.St) {t el : TypeId} {n sz : Nat} {ps : Array (Nat × Operand)} {z : List V} {ms : List (Nat × A)} {ts : List Ty} (hu : e.P.underlying t = some (.slice el)) (hs : Ev.size e.P el = some sz) (hz : Ev.zeroOf e.P el = some z)
    (hm : allSome partE ps.toList = some ms) (hn : n * sz ≤ 2 ^ 20) (hsz : 0 < sz) (hzl : z.length = sz) (ho : e.o.op = .buildSlice t n ps) (us : List Nat) (d : Nat) :
    Res e (iBsv ts sz (List.replicate n z) ms us e.clr d e.st) := by
  cases hf : fillE sz (ms.map fun (i, a) => (i, get e.st.tm a)) (List.replicate n z) with
  | none => exact .bad fun k kp => by simp only [iBsv, hf]
  | some es =>
    cases hc : closeEs depth ts es h0 with
    | none => exact .bad fun k kp => by simp only [iBsv, hf, hc]
    | some q =>
      obtain ⟨xs, hp'⟩ := q
      refine .eq (F' := fun k _ => k (.vs sz xs) e.st) (fun k kp => by simp only [iBsv, hf, hc]) ?_
      obtain ⟨arr, h1, h2, h3⟩ := bs_run h hu hs hz hm hn hsz hzl ho hf
      obtain ⟨_, c1, c2⟩ := (close_h0 depth).2.2 ts es xs hp' hc
      obtain ⟨hmem, hle⟩ := h.mem.imm (grow_alloc e.w arr el)
      have hcell : ∀ (i j : Nat) (x : List V) (c : V), xs[i]? = some x → x[j]? = some c → arr[i * sz + j]? = some (arr.getD (i * sz + j) undef) ∧ RepC e.g.κ c (arr.getD (i * sz + j) undef) := by
        intro i j x c hx hcc
        obtain ⟨e', he', hl', hcs⟩ := c2 i x hx
        obtain ⟨v, hv, hrep⟩ := hcs j c hcc
        have hj := lt_of_get hv
        rw [h1.row e' (List.mem_of_getElem? he')] at hj
        have hlt : i * sz + j < arr.size := by rw [h1.size]; exact idx_lt (lt_of_get he') hj
        exact ⟨by simp [Array.getD_eq_getD_getElem?, Array.getElem?_eq_getElem hlt], hrep _ _ (h1.rep i j e' v he' hv)⟩
      refine .out (.value _ _ h3) ⟨rfl, hmem, hle, .inl rfl, .ofA (.c _ _ ?_), fun _ _ _ _ hx => by cases hx⟩
      have hxl : xs.length = n := by rw [c1, h2]
      have key := RepC.vs (κ := (known e.g e.w.heap.size arr).κ) sz xs (some (ad e.w.heap.size 0)) n e.w.heap.size 0 (fun i j => arr.getD (i * sz + j) undef) (fun x hx => by
          obtain ⟨k, hk⟩ := List.getElem?_of_mem hx
          obtain ⟨e', he', hl', _⟩ := c2 k x hk
          rw [hl', h1.row e' (List.mem_of_getElem? he')]) (fun _ => rfl) (by omega) (fun i j x c hx hcc => by
          refine ⟨(hcell i j x c hx hcc).2.keep, ?_⟩
          simp only [known, if_true, Nat.zero_add]
          exact (hcell i j x c hx hcc).1) (fun i j x c hx hcc => (hcell i j x c hx hcc).2.mono hle.κ)
      rw [hxl] at key
      exact key
end
end Ev
namespace Ev
variable [Glob]
open Go
structure NewsAt (P : Program) (g : G) (w : World) (sz : Nat) (tx : TypeId) (new : List (List V)) (cv : Value) (news : List Value) : Prop where
  src : Src P sz tx cv new.length news w
  row : ∀ x, x ∈ new → x.length = sz
  rep : ∀ (i j : Nat) (x : List V) (c : V), new[i]? = some x → x[j]? = some c → c.keep = true ∧ RepA g c (news.getD (i * sz + j) undef)
theorem news_len {P : Program} {g : G} {w : World} {sz : Nat} {tx : TypeId} {new : List (List V)} {cv : Value} {news : List Value} (h : NewsAt P g w sz tx new cv news) : news.length = new.length * sz := h.src.newsLen
def flatF (f : Nat → Nat → Value) (sz n : Nat) : List Value := (List.range (n * sz)).map fun k => f (k / sz) (k % sz)
theorem flatF_len (f : Nat → Nat → Value) (sz n : Nat) : (flatF f sz n).length = n * sz := by simp [flatF]
theorem flatF_get {f : Nat → Nat → Value} {sz n i j : Nat} (hi : i < n) (hj : j < sz) : (flatF f sz n)[i * sz + j]? = some (f i j) := by
  have hlt := idx_lt hi hj
  have h0 : 0 < sz := by omega
  have e1 : (i * sz + j) / sz = i := by rw [Nat.mul_comm, Nat.mul_add_div h0, Nat.div_eq_of_lt hj, Nat.add_zero]
  have e2 : (i * sz + j) % sz = j := by rw [Nat.mul_comm, Nat.mul_add_mod, Nat.mod_eq_of_lt hj]
  simp [flatF, hlt, e1, e2]
theorem flatF_at {f : Nat → Nat → Value} {sz n k : Nat} {v : Value} (h : (flatF f sz n)[k]? = some v) : k / sz < n ∧ k % sz < sz ∧ v = f (k / sz) (k % sz) ∧ k = k / sz * sz + k % sz := by
  have hk := lt_of_get h
  rw [flatF_len] at hk
  have h0 : 0 < sz := by rcases Nat.eq_zero_or_pos sz with q | q; subst q; simp at hk; exact q
  refine ⟨Nat.div_lt_of_lt_mul (by rw [Nat.mul_comm]; exact hk), Nat.mod_lt _ h0, ?_, (Nat.div_add_mod' k sz).symm⟩
  simp [flatF, hk] at h
  exact h.symm
theorem elems_cells {g : G} {w : World} {sz : Nat} {es : List (List V)} {b o : Nat} {f : Nat → Nat → Value} (hrow : ∀ x, x ∈ es → x.length = sz)
    (h : ∀ (i j : Nat) (x : List V) (c : V), es[i]? = some x → x[j]? = some c → c.keep = true ∧ w.cell? (ad b (o + i * sz + j)) = some (f i j) ∧ RepA g c (f i j)) :
    (∀ j v, (flatF f sz es.length)[j]? = some v → w.cell? ((ad b o).add j) = some v ∧ oneC v = true) ∧
    (∀ (i j : Nat) (x : List V) (c : V), es[i]? = some x → x[j]? = some c → c.keep = true ∧ RepA g c ((flatF f sz es.length).getD (i * sz + j) undef)) := by
  refine ⟨fun k v hv => ?_, fun i j x c hx hc => ?_⟩
  · obtain ⟨h1, h2, rfl, h4⟩ := flatF_at hv
    have hx : es[k / sz]? = some (es[k / sz]) := by rw [List.getElem?_eq_getElem]
    have hl := hrow _ (List.mem_of_getElem? hx)
    have hc : (es[k / sz])[k % sz]? = some ((es[k / sz])[k % sz]'(by omega)) := by rw [List.getElem?_eq_getElem]
    obtain ⟨h5, h6, h7⟩ := h _ _ _ _ hx hc
    refine ⟨?_, h7.oneC h5⟩
    rw [ad_add]
    rw [show o + k = o + k / sz * sz + k % sz by omega]
    exact h6
  · obtain ⟨h5, h6, h7⟩ := h _ _ _ _ hx hc
    have hj := lt_of_get hc
    rw [hrow x (List.mem_of_getElem? hx)] at hj
    refine ⟨h5, ?_⟩
    have : (flatF f sz es.length).getD (i * sz + j) undef = f i j := by
      rw [List.getD_eq_getElem?_getD, flatF_get (lt_of_get hx) hj]; rfl
    rw [this]; exact h7
theorem news_of_elems {P : Program} {g : G} {w : World} {sz : Nat} {tx : TypeId} {es : List (List V)} {cv : Value} (hk : (∃ e', P.underlying tx = some (.slice e')) ∨ P.underlying tx = some .string) (h : ElemsAt g w sz es cv) :
    ∃ news, NewsAt P g w sz tx es cv news := by
  obtain ⟨a, cap, rfl, hrow, hcap, hx⟩ := h
  rcases hx with rfl | ⟨b, o, f, rfl, hc⟩
  · refine ⟨[], ⟨⟨hk, fun _ => rfl, ?_, ?_, by simp, by simp⟩, by simp, by simp⟩⟩
    · cases a with
      | none => exact run_firstCells_none w sz 0 0 cap
      | some a => exact run_firstCells_some w sz 0 a 0 cap [] (by simp) (by simp)
    · cases a with
      | none => exact run_firstCells_none w.drew sz 0 0 cap
      | some a => exact run_firstCells_some w.drew sz 0 a 0 cap [] (by simp) (by simp)
  · obtain ⟨h1, h2⟩ := elems_cells hrow hc
    refine ⟨flatF f sz es.length, ⟨⟨hk, fun _ => rfl, run_firstCells_some w sz _ _ _ cap _ (flatF_len _ _ _) fun j v hv => (h1 j v hv).1,
      run_firstCells_some w.drew sz _ _ _ cap _ (flatF_len _ _ _) fun j v hv => (h1 j v hv).1, flatF_len _ _ _, fun u hu => ?_⟩, hrow, h2⟩⟩
    obtain ⟨k, hk'⟩ := List.getElem?_of_mem hu
    exact oneC' (h1 k u hk').2
theorem news_of_string {P : Program} {g : G} {w : World} {tx : TypeId} {l : List Nat} {s : ByteArray} (hk : (∃ e', P.underlying tx = some (.slice e')) ∨ P.underlying tx = some .string) (hl : s.data.toList.map UInt8.toNat = l) :
    NewsAt P g w 1 tx (l.map fun n => [byte n]) (.string s) (byteCells s) := by
  have hsz : s.size = l.length := by rw [← hl, List.length_map, Array.length_toList]; rfl
  have hlen : (l.map fun n => [byte n]).length = s.size := by simp [hsz]
  refine ⟨⟨hk, fun _ => by rw [hlen]; rfl, by rw [hlen]; exact firstCells_string s w, by rw [hlen]; exact firstCells_string s w.drew, by rw [byteCells_length, hlen, Nat.mul_one], fun u hu => by
    obtain ⟨_, _, rfl⟩ := List.mem_map.1 hu
    rfl⟩, fun x hx => by obtain ⟨n, _, rfl⟩ := List.mem_map.1 hx; rfl, fun i j x c hx hc => ?_⟩
  obtain ⟨_, _, r3⟩ := bytesRow_rows hl s.size
  obtain ⟨h1, cv, h2, h3⟩ := r3 i j x c hx hc
  refine ⟨h1, ?_⟩
  have : (byteCells s).getD (i * 1 + j) undef = cv := by
    rw [Nat.mul_one, List.getD_eq_getElem?_getD]
    have hi : i + j < s.data.size := by
      have := lt_of_get hx
      have hj := lt_of_get hc
      rw [List.getElem?_map] at hx
      cases hn : l[i]? with
      | none => simp [hn] at hx
      | some n =>
        simp only [hn, Option.map_some, Option.some.injEq] at hx; subst hx
        simp at hj this; have : s.size = s.data.size := rfl; omega
    simp only [bytesRow] at h2
    rw [Array.getElem?_append_left (by simpa using hi)] at h2
    simp only [Array.getElem?_map] at h2
    simp only [byteCells, List.getElem?_map, Array.getElem?_toList, h2, Option.getD_some]
  rw [this]; exact .c _ _ (h3 _)
section
variable {e : Env}
theorem Res.rows (h : e.St) {sz : Nat} {tx : TypeId} {v : V} {cv : Value} (hk : (∃ e', e.P.underlying tx = some (.slice e')) ∨ e.P.underlying tx = some .string) (hr : RepT e.g e.ν v cv) {F : List (List V) → (V → St → D) → (V → St → D) → D}
    (hF : ∀ es news, NewsAt e.P e.g e.w sz tx es cv news → Res e (F es)) : Res e (fun k kp => rowsD e.st.hp sz v fun es => F es k kp) := by
  have hel : Res e (fun k kp => elemsD e.st.hp sz v fun es => F es k kp) := Res.elems h hr fun es hes => by
    obtain ⟨news, hn⟩ := news_of_elems (P := e.P) hk hes
    exact hF es news hn
  cases v with
  | st l =>
    obtain ⟨s, rfl, hl⟩ := RepA.st_inv hr
    refine .bif (F := fun k kp => F (l.map fun n => [byte n]) k kp) (G := fun _ _ => .bad) (fun hb => ?_) (fun _ => .bad fun _ _ => rfl)
    have := Nat.eq_of_beq_eq_true hb
    subst this
    exact hF _ _ (news_of_string hk hl)
  | _ => exact hel
theorem zeroCells_size (z : Array Value) (n : Nat) : (Builtin.zeroCells z n).size = n * z.size := by simp [Builtin.zeroCells]
theorem rows_grown {g : G} {sz cap : Nat} {es : List (List V)} {vals : List Value} {zs : Array Value} (hl : vals.length = es.length * sz) (hrow : ∀ x, x ∈ es → x.length = sz) (hcap : es.length ≤ cap) (hz : zs.size = (cap - es.length) * sz)
    (hr : ∀ (i j : Nat) (x : List V) (c : V), es[i]? = some x → x[j]? = some c → c.keep = true ∧ RepA g c (vals.getD (i * sz + j) undef)) : Rows g ⟨sz, false, es⟩ cap (vals.toArray ++ zs) := by
  refine ⟨rfl, hcap, ?_, hrow, fun x hx c hc => ?_, fun i j x c hx hc => ?_⟩
  · have : es.length * sz ≤ cap * sz := Nat.mul_le_mul_right _ hcap
    simp [hl, hz, Nat.sub_mul]; omega
  · obtain ⟨i, hi⟩ := List.getElem?_of_mem hx
    obtain ⟨j, hj⟩ := List.getElem?_of_mem hc
    exact (hr i j x c hi hj).1
  · have hj := lt_of_get hc
    rw [hrow x (List.mem_of_getElem? hx)] at hj
    have hlt : i * sz + j < es.length * sz := idx_lt (lt_of_get hx) hj
    have : (vals.toArray ++ zs).getD (i * sz + j) undef = vals.getD (i * sz + j) undef := by
      rw [Array.getD_eq_getD_getElem?, Array.getElem?_append_left (by simp; omega), List.getElem?_toArray, List.getD_eq_getElem?_getD]
    simp only []
    rw [this]
    exact (hr i j x c hx hc).2
theorem app_run {c : Go.Call} {x y : Operand} {cv : Value} {w' : World} {t tx : TypeId} (hargs : c.args = #[x, y]) (htys : c.argTypes = #[t, tx]) (ho : e.o.op = .call c) (hc : c.callee = .builtin .append)
    (h : (Builtin.append_ #[t, tx] e.o.type #[e.a.eval x, e.a.eval y]).run e.P e.w = .ok cv w') : (execOp e.a.eval e.o).run e.P e.w = .ok (.value cv) w' :=
  run_builtin ho hc (by simp [Go.builtin, hargs, htys, h])
def Fits (bytes sLen n sCap : Nat) : Prop := sLen + n ≤ sCap ∨ (((sLen + n : Nat) : Int) ≤ 9223372036854775807 ∧ Builtin.nextslicecap (sLen + n) sCap * bytes ≤ 281474976710656)
theorem ok_appN (h : e.St) {x : Operand} {xa : A} {t tx el : TypeId} {sz bytes : Nat} {z : List V} {sv : Value} {new : List (List V)} {news : List Value}
    (hrunx : ∀ cv w' base sLen sCap, e.a.eval x = .slice base sLen sCap → Fits bytes sLen new.length sCap → (Builtin.append_ #[t, tx] e.o.type #[e.a.eval x, sv]).run e.P e.w = .ok cv w' → (execOp e.a.eval e.o).run e.P e.w = .ok (.value cv) w')
    (hu : e.P.underlying t = some (.slice el)) (hk : (∃ e', e.P.underlying tx = some (.slice e')) ∨ e.P.underlying tx = some .string) (hs : Ev.size e.P el = some sz) (hb : Ev.bytesOf e.P el = some bytes) (hz : Ev.zeroOf e.P el = some z)
    (hsz : 0 < sz) (hb0 : 0 < bytes) (hzl : z.length = sz) (hx : cA x = some xa) (us : List Nat) (hn : NewsAt e.P e.g e.w sz tx new sv news) : Res e (fun k _ => appendD us e.st sz bytes (get e.st.tm xa) new k) := by
  have hrx := h.rep hx
  obtain ⟨i, hi, his⟩ := size_info hs
  obtain ⟨i', zv, _, hi', hzz, _, _, hzn, hzk, hzr⟩ := zero_info (g := e.g) hz
  rw [hi] at hi'; cases hi'
  have hbytes : i.bytes = bytes := by simpa [Ev.bytesOf, hi] using hb
  have small : ∀ n, n * bytes ≤ maxB → n ≤ 140737488355328 := fun n q => by
    have : n * 1 ≤ n * bytes := Nat.mul_le_mul_left _ hb0
    unfold maxB at q; omega
  have hnl := news_len hn
  have hsrc : Src e.P i.size tx sv new.length news e.w := by rw [his]; exact hn.src
  cases hg : get e.st.tm xa with
  | ns =>
    rw [hg] at hrx
    have hv := RepA.ns_inv hrx
    cases new with
    | nil =>
      refine Res.val h (cv := .slice none 0 0) (hrunx _ _ none 0 0 hv (.inl (by simp)) ?_) (.c _ _ .ns) rfl
      rw [hv]
      have hnn : news = [] := List.eq_nil_of_length_eq_zero (by simpa using hnl)
      subst hnn
      have hlen := hsrc.len
      have hcells := hsrc.cells
      simp only [List.length_nil] at hlen hcells
      rcases hk with ⟨e', hk⟩ | hk <;> simp [Builtin.append_, run_underlying hu, run_underlying hk, Go.sizeOf, typeInfo, hi, hlen, hcells]
    | cons r0 rs =>
      refine .chk fun q => ?_
      have q := Nat.le_of_ble_eq_true q
      have hsm := small _ q
      have hpos : 0 < (r0 :: rs).length := by simp
      have hgr := run_append_grow_src (P := e.P) e.w t tx e.o.type el i zv hu hi hzz none 0 0 [] (run_firstCells_none _ _ _ _ _) (sv) (r0 :: rs).length news hsrc (by omega) (by omega) (by
        rw [Nat.zero_add, nextslicecap_zero hpos, hbytes]; unfold maxB at q; omega)
      simp only [Nat.zero_add, List.nil_append] at hgr
      have hcap := grownCap_ge e.w (r0 :: rs).length 0 el
      generalize hcd : grownCap e.w (r0 :: rs).length 0 el = cap at hgr hcap
      have hrows := rows_grown (g := e.g) (cap := cap) hnl hn.row hcap (zs := Builtin.zeroCells zv.cells (cap - (r0 :: rs).length)) (by rw [zeroCells_size, hzn, hzl]) hn.rep
      refine .out (.value _ _ (hrunx _ _ none 0 0 hv (.inr ⟨by omega, by rw [Nat.zero_add, nextslicecap_zero hpos]; unfold maxB at q; omega⟩) (by rw [hv]; exact hgr))) ⟨rfl, h.mem.new (Grow.drew (grow_alloc _ _ _)) hrows, born_le h.mem.hr _, .inl rfl, .ofA ?_, fun _ _ _ _ hx => by cases hx⟩
      exact .hs _ _ _ _ _ hcap (.inr ⟨⟨e.w.heap.size, 0, sz, cap⟩, by simp [born], .inr ⟨by simp [ad], by simp⟩⟩)
  | vs m es =>
    rw [hg] at hrx
    refine .bif (F := fun k _ => .chk (Nat.beq new.length 0) (k (.vs m es) e.st)) (G := fun _ _ => .bad) (fun hm => ?_) (fun _ => .bad fun _ _ => rfl)
    refine .chk fun q => ?_
    have hnn0 : new = [] := List.eq_nil_of_length_eq_zero (Nat.eq_of_beq_eq_true q)
    subst hnn0
    have hnn : news = [] := List.eq_nil_of_length_eq_zero (by simpa using hnl)
    subst hnn
    obtain ⟨a, cap, b, o, f, hcv, _, _, h3, _⟩ := RepA.vs_inv hrx
    have hlen := hsrc.len
    have hcells := hsrc.cells
    simp only [List.length_nil] at hlen hcells
    refine Res.val h (cv := .slice a es.length cap) (hrunx _ _ a es.length cap hcv (.inl (by simpa using h3)) ?_) (by rw [← hcv]; exact hrx) rfl
    rw [hcv]
    cases a <;> rcases hk with ⟨e', hk⟩ | hk <;> simp [Builtin.append_, run_underlying hu, run_underlying hk, Go.sizeOf, typeInfo, hi, hlen, hcells, h3, storeCells]
  | hs id i0 n =>
    rw [hg] at hrx
    refine Res.hget (F := fun bk k _ => bif bk.fr then .bad else bif Nat.blt id e.st.hp.lim then .bad else bif Nat.beq bk.sz sz then bif freshH us e.st.tm id then
      .chk (Nat.ble (i0 + n) bk.es.length) (.chk (Nat.ble ((n + new.length) * bytes) maxB)
        (k (.hs e.st.hp.next 0 (n + new.length)) (e.st.setHp (hnew (hset e.st.hp id none) ⟨sz, false, (bk.es.drop i0).take n ++ new⟩)))) else .bad else .bad) fun bk hbk => ?_
    refine .bif (F := fun _ _ => .bad) (fun _ => .bad fun _ _ => rfl) (fun hfr => ?_)
    refine .bif (F := fun _ _ => .bad) (fun _ => .bad fun _ _ => rfl) (fun hlm => ?_)
    refine .bif (G := fun _ _ => .bad) (fun hm => ?_) (fun _ => .bad fun _ _ => rfl)
    refine .bif (G := fun _ _ => .bad) (fun _ => ?_) (fun _ => .bad fun _ _ => rfl)
    refine .chk fun q1 => .chk fun q2 => ?_
    have q1 := Nat.le_of_ble_eq_true q1
    have q2 := Nat.le_of_ble_eq_true q2
    have hsm := small _ q2
    have hm := Nat.eq_of_beq_eq_true hm
    have hlim : e.st.hp.lim ≤ id := bltG hlm
    obtain ⟨a, cap, hcv, c1, c2⟩ := RepA.hs_inv hrx
    rcases c2 with c2 | ⟨r, hl, c2⟩
    · rw [h.mem.hr.dead id c2] at hbk; cases hbk
    · obtain ⟨bk0, e0, zz⟩ := h.mem.hr.live id r hl
      rw [hbk] at e0; cases e0
      have hrs : r.sz = sz := by rw [zz.sz, hm]
      have hrl := zz.len
      have hol : ((bk.es.drop i0).take n).length = n := by rw [List.length_take, List.length_drop]; omega
      have hgt : ∀ (k : Nat) (x : List V), ((bk.es.drop i0).take n)[k]? = some x → k < n ∧ bk.es[i0 + k]? = some x := by
        intro k x hk
        have := lt_of_get hk
        rw [List.getElem?_take_of_lt (by omega), List.getElem?_drop] at hk
        exact ⟨by omega, hk⟩
      by_cases hroom : n + new.length ≤ cap
      · by_cases hc0 : cap = 0
        · have hn0 : n = 0 := by omega
          have hnew0 : new = [] := List.eq_nil_of_length_eq_zero (by omega)
          subst hnew0
          subst hn0
          have hnn : news = [] := List.eq_nil_of_length_eq_zero (by simpa using hnl)
          subst hnn
          have hlen := hsrc.len
          have hcells := hsrc.cells
          simp only [List.length_nil] at hlen hcells
          have hrun : (Builtin.append_ #[t, tx] e.o.type #[e.a.eval x, sv]).run e.P e.w = .ok (.slice a 0 cap) e.w := by
            rw [hcv]
            cases a <;> rcases hk with ⟨e', hk⟩ | hk <;> simp [Builtin.append_, run_underlying hu, run_underlying hk, Go.sizeOf, typeInfo, hi, hlen, hcells, storeCells]
          have hmem := h.mem.rename hl hbk hfr hlim i0 0 (by omega) (bk' := ⟨sz, false, (bk.es.drop i0).take 0 ++ []⟩) hm.symm rfl (by simp) (fun k x hx => by simp at hx)
          have hle : GLe e.g (born (killed e.g id) e.st.hp ⟨r.b, r.base + i0 * r.sz, r.sz, 0⟩) := (killed_le hl).trans (born_le (h.mem.kill hl hlim).hr _)
          refine .out (.value _ _ (hrunx _ _ a 0 cap hcv (.inl (by simp)) hrun)) ⟨rfl, hmem, hle, .inl rfl, .ofA ?_, fun _ _ _ _ hx => by cases hx⟩
          simp only [List.length_nil, Nat.add_zero]
          exact .hs _ _ _ _ _ (by omega) (.inr ⟨⟨r.b, r.base + i0 * r.sz, r.sz, 0⟩, by simp [born], .inl ⟨hc0, by rw [hcv] at hrx; exact RepA.hs_nn hrx hl⟩⟩)
        · rcases c2 with c2 | ⟨c2, c3⟩
          · exact absurd c2 hc0
          · subst c2
            have hmulc : (i0 + n + new.length) * r.sz ≤ r.cap * r.sz := Nat.mul_le_mul_right _ (by omega)
            have hsplit : (i0 + n) * r.sz + news.length = (i0 + n + new.length) * r.sz := by rw [hnl, ← hrs, ← Nat.add_mul]
            have hplace : ∀ j, r.base + i0 * r.sz + n * i.size + j = r.base + ((i0 + n) * r.sz + j) := fun j => by rw [his, ← hrs, Nat.add_mul]; omega
            have hrun := run_append_room_src (P := e.P) e.w t tx e.o.type el i hu hi r.b (r.base + i0 * r.sz) n cap (sv) new.length news hsrc hroom (fun j hj => by
                obtain ⟨⟨u, hu'⟩, _⟩ := zz.rw hfr ((i0 + n) * r.sz + j) (by omega)
                have := hplace j
                simp only [ad] at hu'
                rw [this, hu']; rfl) (fun j hj => by
                have h2 := (zz.rw hfr ((i0 + n) * r.sz + j) (by omega)).2.1
                have := hplace j
                simp only [ad] at h2
                rw [this, h2])
            have hw := h.mem.write hl hbk hfr hlim (bk' := ⟨sz, false, bk.es.take (i0 + n) ++ (new ++ bk.es.drop (i0 + n + new.length))⟩) ((i0 + n) * r.sz) news (by omega) hm.symm rfl (by simp; omega)
              (fun x hx => by
                rw [hm]
                rcases List.mem_append.1 hx with hx | hx
                · rw [← hm]; exact zz.row x (List.mem_of_mem_take hx)
                · rcases List.mem_append.1 hx with hx | hx
                  · exact hn.row x hx
                  · rw [← hm]; exact zz.row x (List.mem_of_mem_drop hx))
              (fun i' j x c hx hc => by
                rw [hm, hrs]
                simp only at hx
                have hj := lt_of_get hc
                by_cases p1 : i' < i0 + n
                · rw [List.getElem?_append_left (by simp; omega), List.getElem?_take_of_lt p1] at hx
                  rw [zz.row x (List.mem_of_getElem? hx), hm] at hj
                  obtain ⟨k1, u, k2, k3⟩ := zz.cont i' j x c hx hc
                  have := Nat.mul_le_mul_right sz (show i' + 1 ≤ i0 + n by omega)
                  rw [Nat.add_mul, Nat.one_mul] at this
                  rw [if_neg (by omega)]
                  exact ⟨k1, u, by rw [← hrs, ← Nat.add_assoc]; exact k2, k3⟩
                · rw [List.getElem?_append_right (by simp; omega)] at hx
                  have htl : (bk.es.take (i0 + n)).length = i0 + n := by simp; omega
                  rw [htl] at hx
                  by_cases p2 : i' < i0 + n + new.length
                  · rw [List.getElem?_append_left (by omega)] at hx
                    rw [hn.row x (List.mem_of_getElem? hx)] at hj
                    obtain ⟨k1, k2⟩ := hn.rep _ j x c hx hc
                    have hlt := idx_lt (lt_of_get hx) hj
                    have e1 : i' * sz + j - (i0 + n) * sz = (i' - (i0 + n)) * sz + j := by
                      have : i' * sz = (i0 + n) * sz + (i' - (i0 + n)) * sz := by rw [← Nat.add_mul]; congr 1; omega
                      omega
                    have e2 := Nat.mul_le_mul_right sz (show i0 + n ≤ i' by omega)
                    rw [if_pos ⟨by omega, by omega⟩, e1]
                    refine ⟨k1, _, ?_, k2⟩
                    rw [List.getD_eq_getElem?_getD, List.getElem?_eq_getElem (by omega)]; rfl
                  · rw [List.getElem?_append_right (by omega), List.getElem?_drop] at hx
                    rw [show i0 + n + new.length + (i' - (i0 + n) - new.length) = i' by omega] at hx
                    rw [zz.row x (List.mem_of_getElem? hx), hm] at hj
                    obtain ⟨k1, u, k2, k3⟩ := zz.cont i' j x c hx hc
                    have := Nat.mul_le_mul_right sz (show i0 + n + new.length ≤ i' by omega)
                    rw [← hrs] at this
                    rw [if_neg (by rw [← hrs]; omega)]
                    exact ⟨k1, u, by rw [← hrs, ← Nat.add_assoc]; exact k2, k3⟩)
            have hgs := hget_hset e.st.hp id (some ⟨sz, false, bk.es.take (i0 + n) ++ (new ++ bk.es.drop (i0 + n + new.length))⟩)
            have hren := hw.rename (id := id) (r := r) (bk := ⟨sz, false, bk.es.take (i0 + n) ++ (new ++ bk.es.drop (i0 + n + new.length))⟩) hl (by rw [hgs, if_pos rfl]) rfl hlim i0 cap c3 (bk' := ⟨sz, false, (bk.es.drop i0).take n ++ new⟩) rfl rfl (by simp only [List.length_append, hol]; exact hroom) (fun k x hx => by
              simp only at hx ⊢
              by_cases p1 : k < n
              · rw [List.getElem?_append_left (by omega)] at hx
                rw [List.getElem?_append_left (by simp; omega), List.getElem?_take_of_lt (by omega)]
                exact (hgt k x hx).2
              · rw [List.getElem?_append_right (by omega), hol] at hx
                rw [List.getElem?_append_right (by simp; omega), List.getElem?_append_left (by have := lt_of_get hx; simp; omega)]
                rw [show i0 + k - (bk.es.take (i0 + n)).length = k - n by simp; omega]
                exact hx)
            have hmem := hren.hpExt (hp' := hnew (hset e.st.hp id none) ⟨sz, false, (bk.es.drop i0).take n ++ new⟩) rfl rfl (fun j => by
              rw [hget_hnew, hget_hnew, hget_hset, hget_hset, hget_hset]
              by_cases p : j = id
              · simp only [p, if_true]; rfl
              · simp only [p, if_false]; rfl)
            have hle : GLe e.g (born (killed e.g id) e.st.hp ⟨r.b, r.base + i0 * r.sz, r.sz, cap⟩) := (killed_le hl).trans (born_le (h.mem.kill hl hlim).hr _)
            have hww : e.w.setCells r.b (r.base + i0 * r.sz + n * i.size) news = setCs e.w r.b (r.base + (i0 + n) * r.sz) news := by
              rw [setCs_eq, show r.base + i0 * r.sz + n * i.size = r.base + (i0 + n) * r.sz by have := hplace 0; omega]
            refine .out (.value _ _ (hrunx _ _ _ _ _ hcv (.inl hroom) (by rw [hcv]; exact hrun))) ⟨rfl, by rw [hww]; exact hmem, hle, .inl rfl, .ofA ?_, fun _ _ _ _ hx => by cases hx⟩
            exact .hs _ _ _ _ _ hroom (.inr ⟨⟨r.b, r.base + i0 * r.sz, r.sz, cap⟩, by simp [born], .inr ⟨by simp [ad], by simp⟩⟩)
      · -- no room: a new block
        let f : Nat → Nat → Value := fun k j => (e.w.cell? (ad r.b (r.base + i0 * r.sz + k * sz + j))).getD undef
        have hcell : ∀ (k j : Nat) (x : List V) (c : V), ((bk.es.drop i0).take n)[k]? = some x → x[j]? = some c → c.keep = true ∧ e.w.cell? (ad r.b (r.base + i0 * r.sz + k * sz + j)) = some (f k j) ∧ RepA e.g c (f k j) := by
          intro k j x c hx hc
          obtain ⟨k1, u, k2, k3⟩ := zz.cont (i0 + k) j x c (hgt k x hx).2 hc
          have : r.base + (i0 + k) * r.sz + j = r.base + i0 * r.sz + k * sz + j := by rw [Nat.add_mul, hrs]; omega
          rw [this] at k2
          refine ⟨k1, ?_, ?_⟩
          · simp only [f, k2, Option.getD_some]
          · simp only [f, k2, Option.getD_some]; exact k3
        have horow : ∀ x, x ∈ (bk.es.drop i0).take n → x.length = sz := fun x hx => by
          obtain ⟨k, hk⟩ := List.getElem?_of_mem hx
          rw [zz.row x (List.mem_of_getElem? (hgt k x hk).2), hm]
        obtain ⟨o1, o2⟩ := elems_cells horow hcell
        rw [hol] at o1 o2
        have hfirst : (Builtin.firstCells i.size n (.slice a n cap)).run e.P e.w.drew = .ok (flatF f sz n).toArray e.w.drew := by
          rcases c2 with c2 | ⟨c2, _⟩
          · have hn0 : n = 0 := by omega
            subst hn0
            have hfl : flatF f sz 0 = [] := List.eq_nil_of_length_eq_zero (by rw [flatF_len]; simp)
            rw [hfl]
            cases a with
            | none => exact run_firstCells_none _ _ _ _ _
            | some a => exact run_firstCells_some e.w.drew i.size 0 a 0 cap [] (by simp) (by simp)
          · subst c2
            exact run_firstCells_some e.w.drew i.size n _ n cap _ (by rw [flatF_len, his]) fun j v hv => (o1 j v hv).1
        have hfit : Builtin.nextslicecap (n + new.length) cap * bytes ≤ 281474976710656 := by
          have := nextslicecap_le (need := n + new.length) (old := cap) (by omega)
          have h2 := Nat.mul_le_mul_right bytes this
          rw [Nat.mul_assoc] at h2
          unfold maxB at q2; omega
        have hgr := run_append_grow_src (P := e.P) e.w t tx e.o.type el i zv hu hi hzz a n cap _ hfirst (sv) new.length news hsrc (by omega) (by omega) (by rw [hbytes]; exact hfit)
        have hcap := grownCap_ge e.w (n + new.length) cap el
        generalize hcd : grownCap e.w (n + new.length) cap el = cap' at hgr hcap
        have hk1 := h.mem.kill hl hlim
        have hkl := killed_le hl
        have htot : ((bk.es.drop i0).take n ++ new).length = n + new.length := by rw [List.length_append, hol]
        have hrows := rows_grown (g := killed e.g id) (sz := sz) (cap := cap') (es := (bk.es.drop i0).take n ++ new) (vals := flatF f sz n ++ news) (zs := Builtin.zeroCells zv.cells (cap' - (n + new.length)))
          (by rw [htot, List.length_append, flatF_len, hnl, Nat.add_mul]) (fun x hx => by
            rcases List.mem_append.1 hx with hx | hx
            · exact horow x hx
            · exact hn.row x hx) (by rw [htot]; exact hcap) (by rw [zeroCells_size, hzn, hzl, htot]) (fun k j x c hx hc => by
            by_cases p1 : k < n
            · rw [List.getElem?_append_left (by omega)] at hx
              have hj := lt_of_get hc
              rw [horow x (List.mem_of_getElem? hx)] at hj
              obtain ⟨k1, k2⟩ := o2 k j x c hx hc
              have hlt := idx_lt p1 hj
              refine ⟨k1, ?_⟩
              rw [List.getD_eq_getElem?_getD, List.getElem?_append_left (by rw [flatF_len]; exact hlt), ← List.getD_eq_getElem?_getD]
              exact k2.mono hkl
            · rw [List.getElem?_append_right (by omega), hol] at hx
              obtain ⟨k1, k2⟩ := hn.rep _ j x c hx hc
              refine ⟨k1, ?_⟩
              have e1 : k * sz = n * sz + (k - n) * sz := by rw [← Nat.add_mul]; congr 1; omega
              rw [List.getD_eq_getElem?_getD, List.getElem?_append_right (by rw [flatF_len]; omega), flatF_len, show k * sz + j - n * sz = (k - n) * sz + j by omega, ← List.getD_eq_getElem?_getD]
              exact k2.mono hkl)
        have hmem := hk1.new (Grow.drew (grow_alloc _ _ el)) hrows
        refine .out (.value _ _ (hrunx _ _ _ _ _ hcv (.inr ⟨by omega, hfit⟩) (by rw [hcv]; exact hgr))) ⟨rfl, hmem, hkl.trans (born_le hk1.hr _), .inl rfl, .ofA ?_, fun _ _ _ _ hx => by cases hx⟩
        exact .hs _ _ _ _ _ hcap (.inr ⟨⟨e.w.heap.size, 0, sz, cap'⟩, by simp [born, hset], .inr ⟨by simp [ad], by simp⟩⟩)
  | _ => exact .bad fun _ _ => rfl
theorem ok_app (h : e.St) {c : Go.Call} {x y : Operand} {xa ya : A} {t tx el : TypeId} {sz bytes : Nat} {z : List V} (hargs : c.args = #[x, y]) (htys : c.argTypes = #[t, tx]) (ho : e.o.op = .call c) (hc : c.callee = .builtin .append)
    (hu : e.P.underlying t = some (.slice el)) (hk : (∃ e', e.P.underlying tx = some (.slice e')) ∨ e.P.underlying tx = some .string) (hs : Ev.size e.P el = some sz) (hb : Ev.bytesOf e.P el = some bytes) (hz : Ev.zeroOf e.P el = some z)
    (hsz : 0 < sz) (hb0 : 0 < bytes) (hzl : z.length = sz) (hx : cA x = some xa) (hy : cA y = some ya) (us : List Nat) (d : Nat) : Res e (iApp sz bytes xa ya us e.clr d e.st) :=
  Res.rows (tx := tx) h hk (h.rep hy) (F := fun new k _ => appendD us e.st sz bytes (get e.st.tm xa) new k) fun new news hn =>
    ok_appN h (fun _ _ _ _ _ _ _ q => app_run hargs htys ho hc q) hu hk hs hb hz hsz hb0 hzl hx us hn
end
end Ev
namespace Ev
variable [Glob]
open Go
section
variable {e : Env}
def zeroS (n : Nat) : ByteArray := ⟨(List.replicate n (0 : UInt8)).toArray⟩
theorem zeroS_size (n : Nat) : (zeroS n).size = n := by
  show (List.replicate n (0 : UInt8)).toArray.size = n
  simp
theorem append_zeros {P : Program} {w : World} {t ti ty el : TypeId} {i : TypeInfo} {ki k : IntKind} {z : Int} {n : Nat} {base : Option Addr} {sLen sCap : Nat} (hu : P.underlying t = some (.slice el)) (hui : P.underlying ti = some (.int ki)) (hi : P.info? el = some i)
    (h1 : i.size = 1) (h2 : i.bytes = 1) (hz : i.zero = some (.int .u8 0)) (hz0 : 0 ≤ z) (h0 : n ≠ 0) (hzn : z.toNat = n) (hn : n ≤ maxB) (hf : Fits 1 sLen n sCap) :
    (Builtin.append_ #[t, ti] ty #[.slice base sLen sCap, .int k z]).run P w = (Builtin.append_ #[t, t] ty #[.slice base sLen sCap, .string (zeroS n)]).run P w := by
  unfold maxB at hn
  have hw : IntKind.i64.wrap z = z := by
    simp [IntKind.wrap, IntKind.bits, IntKind.signed]; omega
  have hfc : ∀ w : World, (Builtin.firstCells 1 n (.string (zeroS n))).run P w = .ok (Array.replicate n (.int .u8 0)) w := fun w => by
    have : (zeroS n).extract 0 n = zeroS n := by
      apply ByteArray.ext
      rw [ByteArray.data_extract]
      apply Array.ext'
      simp [zeroS]
    simp only [Builtin.firstCells, this, Sem.run_pure]
    congr 1
    show ((List.replicate n (0 : UInt8)).toArray.map fun b => Value.int .u8 b.toNat) = _
    apply Array.ext'
    simp
  have hzc : ∀ m, Builtin.zeroCells #[.int .u8 0] m = Array.replicate m (.int .u8 0) := fun m => by
    unfold Builtin.zeroCells
    apply Array.ext
    · simp
    · intro j hj1 hj2
      simp [Nat.mod_one]
  have hsz := zeroS_size n
  have hl : ¬ (z < 0) := by omega
  have hl2 : ¬ (z * (i.bytes : Int) > 2 ^ 48) := by rw [h2]; omega
  have hl3 : ¬ (281474976710656 < z) := by omega
  have hai : ∀ w : World, (asInt (.int k z)).run P w = .ok z w := fun w => by simp [asInt, asIntOf]
  have hinfo : ∀ w : World, (typeInfo el).run P w = .ok i w := fun w => by simp [typeInfo, hi]
  have hzv : ∀ w : World, (zeroValue el).run P w = .ok (.int .u8 0) w := fun w => by simp [zeroValue, hinfo, hz]
  have hzc2 : ∀ m, Builtin.zeroCells (Value.int .u8 0).cells m = Array.replicate m (.int .u8 0) := hzc
  have hnn : ¬ z ≤ 0 := by omega
  by_cases hroom : sLen + n ≤ sCap
  · simp [Builtin.append_, run_underlying hu, run_underlying hui, Go.sizeOf, hinfo, h1, h2, hai, hw, hzn, Builtin.lenOf, hsz, hroom, hfc, h0, hl, hl3, hzv, hzc2]
  · rcases hf with hf | ⟨f1, f2⟩
    · exact absurd hf hroom
    · have f1' : ¬ (9223372036854775807 < (sLen : Int) + max z 0) := by omega
      have f2' : ¬ (281474976710656 < Builtin.nextslicecap (sLen + n) sCap) := by omega
      simp [Builtin.append_, run_underlying hu, run_underlying hui, Go.sizeOf, hinfo, h1, h2, hai, hw, hzn, Builtin.lenOf, hsz, hroom, hfc, h0, hl, hl3, hzv, hzc2, f1', f2']
theorem ok_apz (h : e.St) {c : Go.Call} {x y : Operand} {xa ya : A} {t ti el : TypeId} {ki : IntKind} (hargs : c.args = #[x, y]) (htys : c.argTypes = #[t, ti]) (ho : e.o.op = .call c) (hc : c.callee = .builtin .append)
    (hu : e.P.underlying t = some (.slice el)) (hui : e.P.underlying ti = some (.int ki)) (hs : Ev.size e.P el = some 1) (hb : Ev.bytesOf e.P el = some 1) (hz : Ev.isZ ((e.P.info? el).bind (·.zero)) = true)
    (hx : cA x = some xa) (hy : cA y = some ya) (us : List Nat) (d : Nat) : Res e (iApz xa ya us e.clr d e.st) := by
  obtain ⟨i, hi, his⟩ := size_info hs
  have hbytes : i.bytes = 1 := by simpa [Ev.bytesOf, hi] using hb
  have hiz : i.zero = some (.int .u8 0) := by
    rw [hi] at hz
    simp only [Option.bind_some] at hz
    cases hq : i.zero with
    | none => simp [hq, isZ] at hz
    | some v =>
      rw [hq] at hz
      unfold isZ at hz
      split at hz
      · rename_i n hn
        cases hn
        have : n = 0 := by simpa using hz
        subst this; rfl
      · cases hz
  have hzo : Ev.zeroOf e.P el = some [.it .u8 0] := by
    simp [Ev.zeroOf, hi, hiz, ofVal, ofAtom, V.cells]
  refine Res.nat' h hy (f := fun n k _ => .chk (Nat.blt 0 n) (.chk (Nat.ble n maxB) (appendD us e.st 1 1 (get e.st.tm xa) ((List.replicate n 0).map fun n => [byte n]) k))) fun k z hyv hz0 => ?_
  refine .chk fun q0 => .chk fun q => ?_
  have q0 := bltL q0
  have q := Nat.le_of_ble_eq_true q
  have hk : (∃ e', e.P.underlying t = some (.slice e')) ∨ e.P.underlying t = some .string := .inl ⟨el, hu⟩
  have hn := news_of_string (P := e.P) (g := e.g) (w := e.w) (s := zeroS z.toNat) (l := List.replicate z.toNat 0) hk (by simp [zeroS])
  refine ok_appN h (t := t) (tx := t) (el := el) (z := [.it .u8 0]) (fun cv w' base sLen sCap hxv hf hrun => ?_) hu hk hs hb hzo (by omega) (by omega) rfl hx us hn
  refine app_run hargs htys ho hc ?_
  rw [hxv, hyv] at *
  simp only [List.length_map, List.length_replicate] at hf
  rw [append_zeros hu hui hi his hbytes hiz hz0 (by omega) rfl q hf]
  exact hrun
def marked (w : World) (b n : Nat) : World := w.freeze ⟨b, n, none⟩ 1
theorem marked_ok {w : World} {b : Nat} {C : Array Value} {el : TypeId} {fr : Nat × Nat} (hb : w.heap[b]? = some (.cells C el fr)) (hf : fr.1 = fr.2 ∨ C.size ≤ fr.1) :
    (∀ a, (marked w b C.size).cell? a = w.cell? a) ∧ (∀ b' o v, w.cell? (ad b' o) = some v → (marked w b C.size).frozen? (ad b' o) = w.frozen? (ad b' o)) ∧ (marked w b C.size).heap.size = w.heap.size ∧
    (∀ n b', (n = 1 ∨ b' ≠ b) → Unf n w b' → Unf n (marked w b C.size) b') ∧ (∀ b', b' ≠ b → (marked w b C.size).heap[b']? = w.heap[b']?) ∧ (marked w b C.size).os = w.os ∧ (marked w b C.size).output = w.output := by
  obtain ⟨lo, hi⟩ := fr
  simp only at hf
  have hat : ∀ b', (marked w b C.size).heap[b']? = if b' = b then some (.cells C el (if lo == hi then (C.size, C.size + 1) else (min lo C.size, max hi (C.size + 1)))) else w.heap[b']? := by
    intro b'
    unfold marked World.freeze
    simp only [Nat.one_ne_zero, if_false, Array.getElem?_modify]
    by_cases e : b = b'
    · subst e; simp [hb]
    · simp [e, Ne.symm e]
  refine ⟨fun a => ?_, fun b' o v hc => ?_, ?_, fun n b' hor hu => ?_, fun b' hne => by rw [hat, if_neg hne], rfl, rfl⟩
  · unfold World.cell?
    rw [hat]
    by_cases e : a.block = b
    · simp [e, hb]
    · simp [e]
  · by_cases e : b' = b
    · subst e
      have ho : o < C.size := by
        unfold World.cell? ad at hc
        simp only [hb] at hc
        rcases Nat.lt_or_ge o C.size with q | q
        · exact q
        · simp [Array.getElem?_eq_none q] at hc
      unfold World.frozen? ad
      simp only [hat, if_true, hb]
      have r1 : (decide (lo ≤ o) && decide (o < hi)) = false := by
        simp only [Bool.and_eq_false_iff, decide_eq_false_iff_not]; omega
      rw [r1]
      by_cases e2 : lo = hi
      · subst e2
        simp only [beq_self_eq_true, if_true, Bool.and_eq_false_iff, decide_eq_false_iff_not]; omega
      · have hl : C.size ≤ lo := hf.resolve_left e2
        have : (lo == hi) = false := by simpa using e2
        simp only [this, Bool.false_eq_true, if_false, Bool.and_eq_false_iff, decide_eq_false_iff_not]; omega
    · unfold World.frozen? ad
      simp only [hat, e, if_false]
  · unfold marked World.freeze; simp
  · by_cases e : b' = b
    · subst e
      have hn : n = 1 := hor.resolve_right fun q => q rfl
      refine ⟨C, el, _, by rw [hat, if_pos rfl], ?_⟩
      refine .inr ⟨hn, ?_⟩
      by_cases e2 : lo = hi
      · subst e2; simp
      · have hl : C.size ≤ lo := hf.resolve_left e2
        have : (lo == hi) = false := by simpa using e2
        simp only [this]
        simp; omega
    · obtain ⟨C', e', fr', h1, h2⟩ := hu
      exact ⟨C', e', fr', by rw [hat, if_neg e]; exact h1, h2⟩
theorem MemR.mark {E : Ent} {g : G} {ν : Nat → Option Nat} {lo : Lo} {hp : Hp} {w : World} (h : MemR E g ν lo hp w) {b : Nat} {C : Array Value} {el : TypeId} {fr : Nat × Nat} (hb : w.heap[b]? = some (.cells C el fr)) (hf : fr.1 = fr.2 ∨ C.size ≤ fr.1)
    (ho : ∃ o, Own g hp b o) {id : Nat} {r0 : Rg} {bk0 : Bk} (hl0 : g.lf id = .live r0) (hg0 : hget hp id = some bk0) (hf0 : bk0.fr = false) (hs0 : bk0.sz = 1) (hb0 : r0.b = b) (hn0 : 0 < r0.cap * r0.sz) : MemR E g ν lo hp (marked w b C.size) := by
  obtain ⟨hc, hfz, hs, hu, hne, hos, hout⟩ := marked_ok hb hf
  obtain ⟨o0, ho0⟩ := ho
  refine ⟨⟨h.hr.mp.mono (fun b' es c x => by rw [hne b' (fun q => by rw [q, hb] at x; cases x)]; exact x) (fun _ _ x => x) (fun _ _ x => x) (fun _ _ _ => rfl), h.hr.lim, h.hr.nil, h.hr.bnd, fun b o v x => by rw [hc]; exact h.hr.kap b o v x, h.hr.unb, h.hr.dead, fun id' r x => ?_, h.hr.sep⟩, ⟨fun t cs b' x h1 => ?_, h.lo.inj⟩, ?_⟩
  · obtain ⟨bk, a, z⟩ := h.hr.live id' r x
    refine ⟨bk, a, z.grow (GLe.refl g) (fun _ _ _ y => by rw [hc]; exact y) hfz (fun _ _ y _ => y) fun hfb hn => hu _ _ ?_⟩
    by_cases e : id' = id
    · subst e; rw [hg0] at a; cases a; exact .inl hs0
    · exact .inr fun q => h.hr.sep id' id r r0 bk bk0 e x hl0 a hg0 hfb hf0 hn hn0 (q.trans hb0.symm)
  · obtain ⟨h2, h3, h4, h5, h6⟩ := h.lo.box t cs b' x h1
    exact ⟨h2.grow (GLe.refl g) (fun _ _ y => by rw [hc]; exact y) (fun _ _ y => hfz _ _ _ y), h3, h4, h5, hu 2 b' (.inr fun q => h4 o0 (by rw [q]; exact ho0)) h6⟩
  · have v := h.evo
    have key : Evo g hp w g hp (marked w b C.size) := ⟨GLe.refl g, Nat.le_refl _, rfl, fun _ _ => rfl, by omega, fun b' o v x _ => by rw [hc]; exact x, fun b' o v x _ => hfz b' o v x, fun _ _ x => .inl x, fun _ _ _ x => .inl x, ⟨hos, hout⟩, fun b' => hu 1 b' (.inl rfl), fun b' _ y _ => hne b' fun q => y o0 (by rw [q]; exact ho0), fun _ x => .inl x⟩
    exact v.trans key
theorem ok_mrk (h : e.St) {s : TypeId} {x : Operand} {xa : A} {el : TypeId} (hu : e.P.underlying s = some (.slice el)) (hby : isByte e.P el = true) (hx : cA x = some xa) (ho : e.o.op = .convert s s x) (us : List Nat) (d : Nat) :
    Res e (iMrk xa us e.clr d e.st) := by
  have hue := isByte_u hby
  have hr := h.rep hx
  show Res e (fun k _ => match get e.st.tm xa with
    | .hs id i n => match Ev.hget e.st.hp id with
      | some b => bif b.fr then .bad else bif Nat.beq b.sz 1 then .chk (Nat.blt 0 n) (k (.hs id i n) e.st) else .bad
      | none => .bad
    | _ => .bad)
  cases hg : get e.st.tm xa with
  | hs id i n =>
    refine Res.hget (F := fun b k _ => bif b.fr then .bad else bif Nat.beq b.sz 1 then .chk (Nat.blt 0 n) (k (.hs id i n) e.st) else .bad) fun bk hbk => ?_
    refine .bif (F := fun _ _ => .bad) (fun _ => .bad fun _ _ => rfl) (fun hfr => ?_)
    refine .bif (G := fun _ _ => .bad) (fun hsz => ?_) (fun _ => .bad fun _ _ => rfl)
    refine .chk fun hn => ?_
    have hn := bltL hn
    have hsz := Nat.eq_of_beq_eq_true hsz
    rw [hg] at hr
    obtain ⟨a, cap, hv, c1, c2⟩ := RepA.hs_inv hr
    rcases c2 with c2 | ⟨r, hl, c2⟩
    · rw [h.mem.hr.dead id c2] at hbk; cases hbk
    · obtain ⟨bk0, e0, z⟩ := h.mem.hr.live id r hl
      rw [hbk] at e0; cases e0
      rcases c2 with c2 | ⟨rfl, c3⟩
      · omega
      · obtain ⟨C, e', fr, hb, hf⟩ := z.blk hfr (by rw [z.sz.trans hsz]; omega)
        have hrun : (convert s s (e.a.eval x)).run e.P e.w = .ok (e.a.eval x) (marked e.w r.b C.size) := by
          rw [hv]
          simp [convert, run_underlying hu, run_underlying hue, markStringish, ad, World.shape?, hb, marked]
        have hrs : r.sz = 1 := z.sz.trans hsz
        have hown : Own e.g e.st.hp r.b (r.base + 0) := ⟨id, r, bk, 0, hl, hbk, hfr, by rw [hrs]; omega, rfl, rfl⟩
        exact .out (.value _ _ (conv_run ho hrun)) ⟨rfl, h.mem.mark hb (hf.imp (fun q => q) fun q => q.2) ⟨_, hown⟩ hl hbk hfr hsz rfl (by rw [hrs]; omega), GLe.refl _, .inl rfl, .ofA hr, fun _ _ _ _ hx => by cases hx⟩
  | _ => exact .bad fun _ _ => rfl
theorem ok_cpy (h : e.St) {c : Go.Call} {x y : Operand} {xa ya : A} {t tx el : TypeId} {sz : Nat} (hargs : c.args = #[x, y]) (htys : c.argTypes = #[t, tx]) (ho : e.o.op = .call c) (hc : c.callee = .builtin .copy)
    (hu : e.P.underlying t = some (.slice el)) (hs : Ev.size e.P el = some sz) (hsz : 0 < sz) (hx : cA x = some xa) (hy : cA y = some ya) (us : List Nat) (d : Nat) : Res e (iCpy sz xa ya us e.clr d e.st) := by
  have hrx := h.rep hx
  refine Res.elems h (h.rep hy) (F := fun new k _ => cpyD us e.st sz new (get e.st.tm xa) k) fun new hnew => ?_
  show Res e (fun k _ => cpyD us e.st sz new (get e.st.tm xa) k)
  cases hg : get e.st.tm xa with
  | hs id i n =>
    refine Res.hget (F := fun b k _ => bif b.fr then .bad else bif Nat.blt id e.st.hp.lim then .bad else bif Nat.beq b.sz sz then bif freshH us e.st.tm id then
      .chk (Nat.ble (i + n) b.es.length) (k (i64 (.ofNat (new.take n).length)) (e.st.setHp (hset e.st.hp id (some ⟨b.sz, b.fr, over i (new.take n) b.es⟩)))) else .bad else .bad) fun bk hbk => ?_
    refine .bif (F := fun _ _ => .bad) (fun _ => .bad fun _ _ => rfl) (fun hfr => ?_)
    refine .bif (F := fun _ _ => .bad) (fun _ => .bad fun _ _ => rfl) (fun hlm => ?_)
    refine .bif (G := fun _ _ => .bad) (fun hm => ?_) (fun _ => .bad fun _ _ => rfl)
    refine .bif (G := fun _ _ => .bad) (fun _ => ?_) (fun _ => .bad fun _ _ => rfl)
    refine .chk fun hin => ?_
    have hin := Nat.le_of_ble_eq_true hin
    have hm := Nat.eq_of_beq_eq_true hm
    have hlim : e.st.hp.lim ≤ id := bltG hlm
    rw [hg] at hrx
    obtain ⟨a, cap, hv, c1, c2⟩ := RepA.hs_inv hrx
    obtain ⟨sa, scap, hsv, srow, scp, scell⟩ := hnew
    rcases c2 with c2 | ⟨r, hl, c2⟩
    · rw [h.mem.hr.dead id c2] at hbk; cases hbk
    · obtain ⟨bk0, e0, z⟩ := h.mem.hr.live id r hl
      rw [hbk] at e0; cases e0
      have hrs : r.sz = sz := z.sz.trans hm
      have hml : (new.take n).length = Nat.min new.length n := by rw [List.length_take, Nat.min_comm]
      have hle : (new.take n).length ≤ n := by rw [List.length_take]; exact Nat.min_le_left _ _
      obtain ⟨i', hi, his⟩ := size_info hs
      -- the cells that go over
      have hcells : ∃ vals : List Value, vals.length = (new.take n).length * sz ∧ (Builtin.firstCells sz (new.take n).length (e.a.eval y)).run e.P e.w = .ok vals.toArray e.w ∧
          (∀ (k j : Nat) (x : List V) (c : V), (new.take n)[k]? = some x → x[j]? = some c → c.keep = true ∧ ∃ cv, vals[k * sz + j]? = some cv ∧ RepA e.g c cv) ∧ ∀ v, v ∈ vals → oneC v = true := by
        have hrow' : ∀ x, x ∈ new.take n → x.length = sz := fun x hx => srow x (List.mem_of_mem_take hx)
        rcases scell with hnil | ⟨b, o, f, rfl, hf⟩
        · subst hnil
          refine ⟨[], by simp, ?_, fun k j x c hx => by simp at hx, fun v hv => by cases hv⟩
          rw [hsv]
          cases sa with
          | none => simpa using run_firstCells_none (P := e.P) e.w sz 0 0 scap
          | some a => simpa using run_firstCells_some (P := e.P) e.w sz 0 a 0 scap [] (by simp) (by simp)
        · have hf' : ∀ (k j : Nat) (x : List V) (c : V), (new.take n)[k]? = some x → x[j]? = some c → c.keep = true ∧ e.w.cell? (ad b (o + k * sz + j)) = some (f k j) ∧ RepA e.g c (f k j) := fun k j x c hx hc => by
            have hk := lt_of_get hx
            rw [List.getElem?_take_of_lt (by omega)] at hx
            exact hf k j x c hx hc
          obtain ⟨o1, o2⟩ := elems_cells hrow' hf'
          refine ⟨flatF f sz (new.take n).length, flatF_len _ _ _, ?_, fun k j x c hx hc => ?_, fun v hv => ?_⟩
          · rw [hsv]
            exact run_firstCells_some (P := e.P) e.w sz _ _ _ scap _ (flatF_len _ _ _) fun j v hv => (o1 j v hv).1
          · obtain ⟨k1, _, k3⟩ := hf' k j x c hx hc
            have hj := lt_of_get hc
            rw [hrow' x (List.mem_of_getElem? hx)] at hj
            exact ⟨k1, f k j, flatF_get (lt_of_get hx) hj, k3⟩
          · obtain ⟨k, hk⟩ := List.getElem?_of_mem hv
            exact (o1 k v hk).2
      obtain ⟨vals, v1, v2, v3, v4⟩ := hcells
      have hdone : ∀ w' v, (Builtin.copy_ #[t, tx] e.o.type #[e.a.eval x, e.a.eval y]).run e.P e.w = .ok v w' → (execOp e.a.eval e.o).run e.P e.w = .ok (.value v) w' := fun w' v hq =>
        run_builtin ho hc (by simp [Go.builtin, hargs, htys, hq])
      have hlen : ∀ w : World, (Builtin.lenOf (e.a.eval y)).run e.P w = .ok new.length w := fun w => by rw [hsv]; rfl
      by_cases h0 : (new.take n).length = 0
      · have hv0 : vals = [] := List.eq_nil_of_length_eq_zero (by rw [v1, h0]; simp)
        subst hv0
        have ht0 : new.take n = [] := List.eq_nil_of_length_eq_zero h0
        have hrun : (Builtin.copy_ #[t, tx] e.o.type #[e.a.eval x, e.a.eval y]).run e.P e.w = .ok (goInt 0) e.w := by
          rw [hv]
          have hmin : Nat.min new.length n = 0 := by rw [← hml]; exact h0
          rw [h0] at v2
          simp only [Builtin.copy_]
          simp only [List.getElem?_toArray, List.getElem?_cons_zero, List.getElem?_cons_succ, Sem.run_bind, run_underlying hu, Result.andThen_ok, hlen, run_size hs, hmin, v2]
          cases a <;> simp [storeCells]
        rw [ht0]
        have hes : over i ([] : List (List V)) bk.es = bk.es := by simp [over_eq]
        rw [hes]
        have hmem := h.mem.hpExt (hp' := hset e.st.hp id (some ⟨bk.sz, bk.fr, bk.es⟩)) rfl rfl (fun j => by
          rw [hget_hset]; split
          · rename_i q; rw [q, hbk]
          · rfl)
        exact .out (.value _ _ (hdone _ _ hrun)) ⟨rfl, hmem, GLe.refl _, .inl rfl, .ofA (.c _ _ (.it _ _)), fun _ _ _ _ hx => by cases hx⟩
      · rcases c2 with c2 | ⟨rfl, c3⟩
        · omega
        · have hmul : (i + (new.take n).length) * r.sz ≤ r.cap * r.sz := Nat.mul_le_mul_right _ (by omega)
          have hoff : i * r.sz + vals.length = (i + (new.take n).length) * r.sz := by rw [v1, ← hrs, Nat.add_mul]
          have hplace : ∀ j, r.base + i * r.sz + 0 + j = r.base + (i * r.sz + j) := fun j => by omega
          have hst := run_storeCells_cells (P := e.P) r.b (r.base + i * r.sz) vals 0 e.w (fun j hj => by
              obtain ⟨⟨u, hu'⟩, _⟩ := z.rw hfr (i * r.sz + j) (by omega)
              rw [hplace]; simp only [ad] at hu'; rw [hu']; rfl) (fun j hj => by
              have h2 := (z.rw hfr (i * r.sz + j) (by omega)).2.1
              rw [hplace]; simp only [ad] at h2; exact h2) (fun v hv => oneC' (v4 v hv))
          have hrun : (Builtin.copy_ #[t, tx] e.o.type #[e.a.eval x, e.a.eval y]).run e.P e.w = .ok (goInt (new.take n).length) (setCs e.w r.b (r.base + i * r.sz) vals) := by
            rw [hv]
            rw [hml] at v2 ⊢
            simp only [Builtin.copy_]
            simp only [List.getElem?_toArray, List.getElem?_cons_zero, List.getElem?_cons_succ, Sem.run_bind, run_underlying hu, Result.andThen_ok, hlen, run_size hs, v2]
            simp only [ad]
            rw [hst]
            simp only [Nat.add_zero, Result.andThen_ok, Sem.run_pure, setCs_eq]
          have hol : (bk.es.take i).length = i := by rw [List.length_take]; omega
          have hw := h.mem.write hl hbk hfr hlim (bk' := ⟨bk.sz, bk.fr, over i (new.take n) bk.es⟩) (i * r.sz) vals (by omega) rfl hfr (by
              have := z.len
              simp only [over_eq, List.length_append, List.length_drop, hol]; omega)
            (fun x hx => by
              simp only [over_eq] at hx
              rcases List.mem_append.1 hx with hx | hx
              · exact z.row x (List.mem_of_mem_take hx)
              · rcases List.mem_append.1 hx with hx | hx
                · rw [hm]; exact srow x (List.mem_of_mem_take hx)
                · exact z.row x (List.mem_of_mem_drop hx))
            (fun i' j x c hx hc => by
              simp only [over_eq] at hx
              rw [hm]
              have hj := lt_of_get hc
              have hold : bk.es[i']? = some x → (i' < i ∨ i + (new.take n).length ≤ i') → c.keep = true ∧ if i * r.sz ≤ i' * sz + j ∧ i' * sz + j < i * r.sz + vals.length then ∃ cv, vals[i' * sz + j - i * r.sz]? = some cv ∧ RepA e.g c cv
                  else ∃ cv, e.w.cell? (ad r.b (r.base + (i' * sz + j))) = some cv ∧ RepA e.g c cv := by
                intro hx' hor
                rw [z.row x (List.mem_of_getElem? hx'), hm] at hj
                obtain ⟨k1, u, k2, k3⟩ := z.cont i' j x c hx' hc
                have hcond : ¬ (i * r.sz ≤ i' * sz + j ∧ i' * sz + j < i * r.sz + vals.length) := by
                  rw [hoff, hrs]
                  rcases hor with q | q
                  · have := Nat.mul_le_mul_right sz (show i' + 1 ≤ i by omega)
                    rw [Nat.add_mul, Nat.one_mul] at this; omega
                  · have := Nat.mul_le_mul_right sz q; omega
                rw [if_neg hcond]
                exact ⟨k1, u, by rw [← hrs, ← Nat.add_assoc]; exact k2, k3⟩
              by_cases p1 : i' < i
              · rw [List.getElem?_append_left (by omega), List.getElem?_take_of_lt p1] at hx
                exact hold hx (.inl p1)
              · rw [List.getElem?_append_right (by omega), hol] at hx
                by_cases p2 : i' < i + (new.take n).length
                · rw [List.getElem?_append_left (by omega)] at hx
                  rw [srow x (List.mem_of_mem_take (List.mem_of_getElem? hx))] at hj
                  obtain ⟨k1, cv, k2, k3⟩ := v3 _ j x c hx hc
                  have hlt := idx_lt (lt_of_get hx) hj
                  have e1 : i' * sz = i * sz + (i' - i) * sz := by rw [← Nat.add_mul]; congr 1; omega
                  refine ⟨k1, ?_⟩
                  rw [hrs, if_pos ⟨by omega, by omega⟩]
                  exact ⟨cv, by rw [show i' * sz + j - i * sz = (i' - i) * sz + j by omega]; exact k2, k3⟩
                · rw [List.getElem?_append_right (by omega), List.getElem?_drop] at hx
                  rw [show i + (new.take n).length + (i' - i - (new.take n).length) = i' by omega] at hx
                  exact hold hx (.inr (by omega)))
          exact .out (.value _ _ (hdone _ _ hrun)) ⟨rfl, hw, GLe.refl _, .inl rfl, .ofA (.c _ _ (.it _ _)), fun _ _ _ _ hx => by cases hx⟩
  | _ => exact .bad fun _ _ => rfl
end
end Ev