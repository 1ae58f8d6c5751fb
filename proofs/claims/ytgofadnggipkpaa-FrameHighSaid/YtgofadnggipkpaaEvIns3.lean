import Derived.Test.YtgofadnggipkpaaEvIns2
import Derived.Deep.AppendSrc
namespace Ev
open Go

theorem over_len {off : Nat} {xs cs : List V} (h : off + xs.length ≤ cs.length) : (over off xs cs).length = cs.length := by simp [over]; omega

theorem over_get {off : Nat} {xs cs : List V} (h : off + xs.length ≤ cs.length) (j : Nat) :
    (over off xs cs)[j]? = if off ≤ j ∧ j < off + xs.length then xs[j - off]? else cs[j]? := by
  unfold over
  by_cases h1 : j < off
  · rw [List.getElem?_append_left (by simp; omega), List.getElem?_take_of_lt h1, if_neg (by omega)]
  · by_cases h2 : j < off + xs.length
    · rw [List.getElem?_append_right (by simp; omega), List.getElem?_append_left (by simp; omega), if_pos (by omega)]
      congr 1; simp; omega
    · rw [List.getElem?_append_right (by simp; omega), List.getElem?_append_right (by simp; omega), List.getElem?_drop, if_neg (by omega)]
      congr 1; simp; omega

theorem grow_alloc (w : World) (arr : Array Value) (t : TypeId) : Grow w (w.alloc (.cells arr t)) arr := ⟨⟨t, (0, 0), rfl, .inl rfl⟩, rfl, rfl⟩

theorem Grow.drew {w w' : World} {arr : Array Value} (h : Grow w.drew w' arr) : Grow w w' arr := by
  obtain ⟨e, fr, h1, h2⟩ := h.ex
  exact ⟨⟨e, fr, h1, h2⟩, h.os⟩

/-- a type's zero -/
theorem zero_info {P : Program} {g : G} {t : TypeId} {z : List V} (h : Ev.zeroOf P t = some z) : ∃ i zv v, P.info? t = some i ∧ i.zero = some zv ∧ ofVal zv = some v ∧ v.cells = z ∧ zv.cells.size = z.length ∧
    (∀ c, c ∈ z → c.keep = true) ∧ (∀ (j : Nat) (c : V), z[j]? = some c → RepA g c (zv.cells.getD j undef)) := by
  unfold Ev.zeroOf at h
  cases hi : P.info? t with
  | none => simp [hi] at h
  | some i =>
    cases hz : i.zero with
    | none => simp [hi, hz] at h
    | some zv =>
      cases hv : ofVal zv with
      | none => simp [hi, hz, hv] at h
      | some v =>
        simp only [hi, hz, hv, Option.bind_some, Option.map_some, Option.some.injEq] at h
        subst h
        obtain ⟨h1, h2, h3⟩ := ofVal_rep (g := g) hv
        obtain ⟨c1, c2, c3⟩ := h1.cells h3
        exact ⟨i, zv, v, rfl, hz, hv, rfl, c1, c2, c3⟩

theorem run_zero {P : Program} {t : TypeId} {i : TypeInfo} {zv : Value} (hi : P.info? t = some i) (hz : i.zero = some zv) (w : World) : (zeroValue t).run P w = .ok zv w := by
  simp [zeroValue, run_typeInfo w hi, hz]

theorem hasN_mem {l : List Nat} {d : Nat} (h : hasN l d = true) : d ∈ l := by
  induction l with
  | nil => simp [hasN] at h
  | cons a r ih =>
    simp only [hasN] at h
    cases hb : Nat.beq a d with
    | true => rw [Nat.eq_of_beq_eq_true hb]; simp
    | false => simp only [hb, cond_false] at h; exact .tail _ (ih h)

theorem fresh_ne {us : List Nat} {tm : Tm} {d : Nat} (h : fresh us tm d = true) {t : Nat} (ht : t ∈ us) (off : Nat) : tm t ≠ .lp d off := by
  induction us with
  | nil => cases ht
  | cons a r ih =>
    simp only [fresh] at h
    intro e
    rcases List.mem_cons.1 ht with rfl | ht
    · simp [e] at h
    · have hr : fresh r tm d = true := by
        split at h
        · rename_i e' o' _
          cases hb : Nat.beq e' d with
          | true => simp [hb] at h
          | false => simpa [hb] using h
        · exact h
      exact ih hr ht e

section
variable {e : Env}

/-- a new box -/
theorem Res.box (h : e.St) {cs : List V} {arr : Array Value} {w' : World} (hn : arr.size = cs.length) (hk : ∀ c, c ∈ cs → c.keep = true) (hr : ∀ (j : Nat) (c : V), cs[j]? = some c → RepA e.g c (arr.getD j undef))
    {us : List Nat} (hus : ∀ t, hasN e.clr t = true → t ∈ us) {d : Nat} (hd : e.dst = some d)
    (hf : (execOp e.a.eval e.o).run e.P e.w = .ok (.value (.pointer (some (ad e.w.heap.size 0)))) w') (hw : Grow e.w w' arr) :
    Res e (fun k _ => bif fresh us e.st.tm d then k (.lp d 0) (e.st.setLo d cs) else .bad) := by
  refine .bif (F := fun k _ => k (.lp d 0) (e.st.setLo d cs)) (G := fun _ _ => .bad) (fun hb => ?_) (fun _ => .bad fun _ _ => rfl)
  refine .out (.value _ w' hf) ⟨rfl, h.mem.box hw hn hk hr d, GLe.refl _, .inr ⟨d, hd, ⟨_, rfl⟩, fun t ht off hx => ?_⟩, ⟨_, by simp, rfl⟩, fun d' q e' off hx => by cases hx; rw [hd] at q; cases q; exact .inl rfl⟩
  rcases h.lps t d off hx with hx' | hx'
  · exact ht hx'
  · exact fresh_ne hb (hus t hx') off hx

/-- a new object of one row -/
theorem Res.obj (h : e.St) {cs : List V} {arr : Array Value} {w' : World} (hn : arr.size = cs.length) (hk : ∀ c, c ∈ cs → c.keep = true) (hr : ∀ (j : Nat) (c : V), cs[j]? = some c → RepA e.g c (arr.getD j undef))
    (hf : (execOp e.a.eval e.o).run e.P e.w = .ok (.value (.pointer (some (ad e.w.heap.size 0)))) w') (hw : Grow e.w w' arr) :
    Res e (fun k _ => k (.pt e.st.hp.next 0 0) (Ev.mk e.st ⟨cs.length, false, [cs]⟩)) := by
  have hrows : Rows e.g ⟨cs.length, false, [cs]⟩ 1 arr := ⟨rfl, by simp, by simp [hn], by simp, by simpa using hk, fun i j x c hx hc => by
    cases i with
    | zero => simp only [List.getElem?_cons_zero, Option.some.injEq] at hx; subst hx; simpa using hr j c hc
    | succ i => simp at hx⟩
  refine .out (.value _ w' hf) ⟨rfl, h.mem.new hw hrows, born_le h.mem.hr _, .inl rfl, .ofA (.pt _ _ _ _ (.inr ⟨⟨e.w.heap.size, 0, cs.length, 1⟩, by simp [born], by simp⟩)), fun _ _ _ _ hx => by cases hx⟩

theorem ok_alc (h : e.St) {t : TypeId} {z : List V} (hz : Ev.zeroOf e.P t = some z) (ho : e.o.op = .alloc t) {us : List Nat} (hus : ∀ t, hasN e.clr t = true → t ∈ us) {d : Nat} (hd : e.dst = some d) :
    Res e (iAlc z us e.clr d e.st) := by
  obtain ⟨i, zv, v, hi, hz, _, _, hn, hk, hr⟩ := zero_info (g := e.g) hz
  refine Res.box h hn hk hr hus hd ?_ (grow_alloc e.w zv.cells t)
  simp [execOp, ho, Instr.alloc, run_zero hi hz, newVar, newRow, ad]

theorem ok_alh (h : e.St) {t : TypeId} {z : List V} (hz : Ev.zeroOf e.P t = some z) (ho : e.o.op = .alloc t) (us : List Nat) (d : Nat) : Res e (iAlh z us e.clr d e.st) := by
  obtain ⟨i, zv, v, hi, hz, _, _, hn, hk, hr⟩ := zero_info (g := e.g) hz
  refine Res.obj h hn hk hr ?_ (grow_alloc e.w zv.cells t)
  simp [execOp, ho, Instr.alloc, run_zero hi hz, newVar, newRow, ad]

theorem keepLp {v : V} (h : v.cells.all V.keep = true) : isLp v = false := by
  cases v <;> simp_all [V.cells, V.keep, isLp]

theorem ok_box (h : e.St) {t : TypeId} {x : Operand} {xa : A} (hx : cA x = some xa) (ho : e.o.op = .box t x) {us : List Nat} (hus : ∀ t, hasN e.clr t = true → t ∈ us) {d : Nat} (hd : e.dst = some d) :
    Res e (iBox xa us e.clr d e.st) := by
  refine .bif (G := fun _ _ => .bad) (fun hb => ?_) (fun _ => .bad fun _ _ => rfl)
  obtain ⟨hn, hk, hr⟩ := ((h.rep hx).toA (keepLp hb)).cells hb
  refine Res.box h hn hk hr hus hd ?_ (grow_alloc e.w _ t)
  simp [execOp, ho, Instr.box, newVar, newRow, ad]

theorem ok_bxh (h : e.St) {t : TypeId} {x : Operand} {xa : A} (hx : cA x = some xa) (ho : e.o.op = .box t x) (us : List Nat) (d : Nat) : Res e (iBxh xa us e.clr d e.st) := by
  refine .bif (G := fun _ _ => .bad) (fun hb => ?_) (fun _ => .bad fun _ _ => rfl)
  obtain ⟨hn, hk, hr⟩ := ((h.rep hx).toA (keepLp hb)).cells hb
  refine Res.obj h hn hk hr ?_ (grow_alloc e.w _ t)
  simp [execOp, ho, Instr.box, newVar, newRow, ad]

/-- nothing comes back -/
theorem After.unit {st s : St} {w' : World} (ht : s.tm = st.tm) (hm : MemR e.E e.g e.ν s.lo s.hp w') : After e.E e.clr e.dst e.g e.ν st .un s undef w' e.g e.ν :=
  ⟨ht, hm, GLe.refl _, .inl rfl, .ofA (.un _), fun _ _ _ _ hx => by cases hx⟩

theorem ok_sto (h : e.St) {t : TypeId} {x y : Operand} {xa ya : A} {n : Nat} (hs : Ev.size e.P t = some n) (hx : cA x = some xa) (hy : cA y = some ya) (ho : e.o.op = .store t x y) (us : List Nat) (d : Nat) :
    Res e (iSto n xa ya us e.clr d e.st) := by
  refine .bif (G := fun _ _ => .bad) (fun hb0 => ?_) (fun _ => .bad fun _ _ => rfl)
  refine .bif (G := fun _ _ => .bad) (fun hb => ?_) (fun _ => .bad fun _ _ => rfl)
  have hlen := Nat.eq_of_beq_eq_true hb0
  obtain ⟨hn, hk, hr⟩ := ((h.rep hy).toA (keepLp hb)).cells hb
  have hone : ∀ c, c ∈ (e.a.eval y).cells.toList → oneC c = true := fun c hc => by
    obtain ⟨j, hj⟩ := List.getElem?_of_mem hc
    have hjl := lt_of_get hj
    simp only [Array.length_toList] at hjl
    have h1 := hr j (((get e.st.tm ya).cells)[j]'(by omega)) (by rw [List.getElem?_eq_getElem])
    have h2 := h1.oneC (hk _ (List.getElem_mem _))
    have : (e.a.eval y).cells.getD j undef = c := by simp only [Array.getElem?_toList] at hj; simp [Array.getD_eq_getD_getElem?, hj]
    rw [this] at h2; exact h2
  have hget' : ∀ (j : Nat) (c : V), (get e.st.tm ya).cells[j]? = some c → ∃ cv, (e.a.eval y).cells.toList[j]? = some cv ∧ RepA e.g c cv := fun j c hj => by
    have hjl := lt_of_get hj
    refine ⟨(e.a.eval y).cells.getD j undef, ?_, hr j c hj⟩
    simp [Array.getD_eq_getD_getElem?, Array.getElem?_eq_getElem (by omega : j < (e.a.eval y).cells.size)]
  have hrun : ∀ b o, e.a.eval x = .pointer (some (ad b o)) → (∀ j, j < (e.a.eval y).cells.size → (∃ u, e.w.cell? (ad b (o + j)) = some u) ∧ e.w.frozen? (ad b (o + j)) = false) →
      (execOp e.a.eval e.o).run e.P e.w = .ok .skip (setCs e.w b o (e.a.eval y).cells.toList) := fun b o hp hc => by
    have := run_storeVar (P := e.P) (t := t) (w := e.w) (b := b) (o := o) (v := e.a.eval y) (by rw [hs, hn, hlen]) (fun j hj => by obtain ⟨u, hu⟩ := (hc j hj).1; simp [hu]) (fun j hj => (hc j hj).2) hone
    simp [execOp, ho, hp, Instr.storeAt, Instr.sureAddr, this]
  have hra := h.rep hx
  cases hv : get e.st.tm xa with
  | lp t' off =>
    rw [hv] at hra
    obtain ⟨b, hb', hp⟩ := hra
    cases hlo : e.st.lo t' with
    | none => exact .bad fun k kp => by simp [storeD, hlo]
    | some cs =>
      refine .eq (F' := fun k _ => bif fresh us e.st.tm t' then .chk (Nat.ble (off + (get e.st.tm ya).cells.length) cs.length) (k .un (e.st.setLo t' (over off (get e.st.tm ya).cells cs))) else .bad) (fun k kp => by simp [storeD, hlo]) ?_
      refine .bif (F := fun k _ => .chk (Nat.ble (off + (get e.st.tm ya).cells.length) cs.length) (k .un (e.st.setLo t' (over off (get e.st.tm ya).cells cs)))) (G := fun _ _ => .bad) (fun _ => ?_) (fun _ => .bad fun _ _ => rfl)
      refine .chk fun hc => ?_
      have hc := Nat.le_of_ble_eq_true hc
      obtain ⟨b', hb'', hx1, _⟩ := h.mem.lo.box t' cs hlo
      rw [hb'] at hb''; cases hb''
      refine .out (.skip _ (hrun b off hp fun j hj => ?_)) (.unit (s := e.st.setLo t' _) rfl ?_)
      · obtain ⟨_, ⟨u, hu, _⟩, hf⟩ := hx1 (off + j) (cs[off + j]'(by omega)) (by rw [List.getElem?_eq_getElem])
        exact ⟨⟨u, hu⟩, hf⟩
      · exact h.mem.setBox hlo hb' off _ _ hc (by simpa using hn) hk hget'
  | pt id i off =>
    rw [hv] at hra
    obtain ⟨a, hp, hx1⟩ := RepA.pt_inv hra
    cases hg : hget e.st.hp id with
    | none => exact .bad fun k kp => by simp [storeD, hg]
    | some bk =>
      refine .eq (F' := fun k _ => bif bk.fr then .bad else bif Nat.blt id e.st.hp.lim then .bad else bif freshH us e.st.tm id then
        .chk (Nat.blt i bk.es.length) (.chk (Nat.ble (off + (get e.st.tm ya).cells.length) (bk.es.getD i []).length)
        (k .un (e.st.setHp (hset e.st.hp id (some ⟨bk.sz, bk.fr, bk.es.set i (over off (get e.st.tm ya).cells (bk.es.getD i []))⟩))))) else .bad) (fun k kp => by simp [storeD, hg]) ?_
      refine .bif (F := fun _ _ => .bad) (G := fun k _ => bif Nat.blt id e.st.hp.lim then .bad else bif freshH us e.st.tm id then
        .chk (Nat.blt i bk.es.length) (.chk (Nat.ble (off + (get e.st.tm ya).cells.length) (bk.es.getD i []).length)
        (k .un (e.st.setHp (hset e.st.hp id (some ⟨bk.sz, bk.fr, bk.es.set i (over off (get e.st.tm ya).cells (bk.es.getD i []))⟩))))) else .bad) (fun _ => .bad fun _ _ => rfl) (fun hfr => ?_)
      refine .bif (F := fun _ _ => .bad) (G := fun k _ => bif freshH us e.st.tm id then
        .chk (Nat.blt i bk.es.length) (.chk (Nat.ble (off + (get e.st.tm ya).cells.length) (bk.es.getD i []).length)
        (k .un (e.st.setHp (hset e.st.hp id (some ⟨bk.sz, bk.fr, bk.es.set i (over off (get e.st.tm ya).cells (bk.es.getD i []))⟩))))) else .bad) (fun _ => .bad fun _ _ => rfl) (fun hlm => ?_)
      refine .bif (F := fun k _ => .chk (Nat.blt i bk.es.length) (.chk (Nat.ble (off + (get e.st.tm ya).cells.length) (bk.es.getD i []).length)
        (k .un (e.st.setHp (hset e.st.hp id (some ⟨bk.sz, bk.fr, bk.es.set i (over off (get e.st.tm ya).cells (bk.es.getD i []))⟩)))))) (G := fun _ _ => .bad) (fun _ => ?_) (fun _ => .bad fun _ _ => rfl)
      refine .chk fun hi => .chk fun hc => ?_
      have hc := Nat.le_of_ble_eq_true hc
      have hi : i < bk.es.length := Nat.le_of_ble_eq_true hi
      have hlim : e.st.hp.lim ≤ id := by
        rcases Nat.lt_or_ge id e.st.hp.lim with q | q
        · have : Nat.blt id e.st.hp.lim = true := by simpa [Nat.blt_eq] using q
          rw [this] at hlm; cases hlm
        · exact q
      rcases hx1 with hx1 | ⟨r, hl, rfl⟩
      · rw [h.mem.hr.dead id hx1] at hg; cases hg
      · obtain ⟨bk0, e0, z⟩ := h.mem.hr.live id r hl
        rw [hg] at e0; cases e0
        have hrow : bk.es[i]? = some (bk.es.getD i []) := by simp [List.getD, List.getElem?_eq_getElem hi]
        have hrl : (bk.es.getD i []).length = bk.sz := z.row _ (List.mem_of_getElem? hrow)
        have hmul : i * r.sz + bk.sz ≤ r.cap * r.sz := by
          have : (i + 1) * r.sz ≤ r.cap * r.sz := Nat.mul_le_mul_right _ (by have := z.len; omega)
          rw [Nat.add_mul, Nat.one_mul, z.sz] at this
          rw [z.sz]; exact this
        refine .out (.skip _ (hrun r.b _ hp fun j hj => ?_)) (.unit (s := e.st.setHp _) rfl ?_)
        · have hx2 := z.rw hfr (i * r.sz + off + j) (by omega)
          rw [show r.base + i * r.sz + off + j = r.base + (i * r.sz + off + j) by omega]
          exact ⟨hx2.1, hx2.2.1⟩
        · have := h.mem.write hl hg hfr hlim (bk' := ⟨bk.sz, bk.fr, bk.es.set i (over off (get e.st.tm ya).cells (bk.es.getD i []))⟩) (i * r.sz + off) (e.a.eval y).cells.toList (by simp; omega) rfl hfr (by simpa using z.len)
            (fun x hx => by
              rcases List.mem_or_eq_of_mem_set hx with hx | hx
              · exact z.row x hx
              · rw [hx, over_len hc]; exact hrl)
            (fun i' j x c hx' hc' => by
              have hvl : (e.a.eval y).cells.toList.length = (get e.st.tm ya).cells.length := by simpa using hn
              rw [List.getElem?_set] at hx'
              by_cases hii : i = i'
              · subst hii
                simp only [if_true, hi, Option.some.injEq] at hx'
                subst hx'
                have hjl := lt_of_get hc'
                rw [over_len hc] at hjl
                rw [over_get hc] at hc'
                by_cases hin : off ≤ j ∧ j < off + (get e.st.tm ya).cells.length
                · rw [if_pos hin] at hc'
                  rw [z.sz, if_pos (by omega)]
                  refine ⟨hk c (List.mem_of_getElem? hc'), ?_⟩
                  have := hget' _ c hc'
                  rwa [show i * bk.sz + j - (i * bk.sz + off) = j - off by omega]
                · rw [if_neg hin] at hc'
                  rw [z.sz, if_neg (by omega)]
                  obtain ⟨k1, u, k2, k3⟩ := z.cont i j _ c hrow hc'
                  refine ⟨k1, u, ?_, k3⟩
                  rw [z.sz, Nat.add_assoc] at k2; exact k2
              · simp only [hii, if_false] at hx'
                have hjl := lt_of_get hc'
                rw [z.row x (List.mem_of_getElem? hx')] at hjl
                obtain ⟨k1, u, k2, k3⟩ := z.cont i' j _ c hx' hc'
                have hout : ¬ (i * r.sz + off ≤ i' * bk.sz + j ∧ i' * bk.sz + j < i * r.sz + off + (e.a.eval y).cells.toList.length) := by
                  rw [z.sz]
                  rcases Nat.lt_or_gt_of_ne hii with q | q
                  · have : (i + 1) * bk.sz ≤ i' * bk.sz := Nat.mul_le_mul_right _ q
                    rw [Nat.add_mul, Nat.one_mul] at this
                    omega
                  · have : (i' + 1) * bk.sz ≤ i * bk.sz := Nat.mul_le_mul_right _ q
                    rw [Nat.add_mul, Nat.one_mul] at this
                    omega
                rw [if_neg hout]
                refine ⟨k1, u, ?_, k3⟩
                rw [z.sz, Nat.add_assoc] at k2; exact k2)
          rwa [show r.base + (i * r.sz + off) = r.base + i * r.sz + off by omega] at this
  | _ => exact .bad fun k kp => by simp [storeD]

end
end Ev
