import Derived.Test.YtgofadnggipkpaaEvIns9
set_option linter.unusedVariables false
namespace Ev
open Go
section
variable {e : Env}

/-- the zeros of 'append(b, make([]byte, n)...)' as a string's bytes -/
def zeroS (n : Nat) : ByteArray := ⟨(List.replicate n (0 : UInt8)).toArray⟩

theorem zeroS_size (n : Nat) : (zeroS n).size = n := by
  show (List.replicate n (0 : UInt8)).toArray.size = n
  simp

theorem append_zeros {P : Program} {w : World} {t ti ty el : TypeId} {i : TypeInfo} {ki k : IntKind} {z : Int} {n : Nat} {base : Option Addr} {sLen sCap : Nat} (hu : P.underlying t = some (.slice el)) (hui : P.underlying ti = some (.int ki)) (hi : P.info? el = some i)
    (h1 : i.size = 1) (h2 : i.bytes = 1) (hz : i.zero = some (.int .u8 0)) (hz0 : 0 ≤ z) (h0 : n ≠ 0) (hzn : z.toNat = n) (hn : n ≤ maxB) (hf : Fits 1 sLen n sCap) :
    (Builtin.append_ #[t, ti] ty #[.slice base sLen sCap, .int k z]).run P w = (Builtin.append_ #[t, t] ty #[.slice base sLen sCap, .string (zeroS n)]).run P w := by
  unfold maxB at hn
  have hw : IntKind.i64.wrap z = z := by
    simp [IntKind.wrap, IntKind.bits, IntKind.signed]; omega
  have hfc : ∀ w : World, (Builtin.firstCells 1 n (.string (zeroS n))).run P w = .ok (Array.replicate n (.int .u8 0)) w := fun w => by
    have : (zeroS n).extract 0 n = zeroS n := by
      apply ByteArray.ext
      rw [ByteArray.data_extract]
      apply Array.ext'
      simp [zeroS]
    simp only [Builtin.firstCells, this, Sem.run_pure]
    congr 1
    show ((List.replicate n (0 : UInt8)).toArray.map fun b => Value.int .u8 b.toNat) = _
    apply Array.ext'
    simp
  have hzc : ∀ m, Builtin.zeroCells #[.int .u8 0] m = Array.replicate m (.int .u8 0) := fun m => by
    unfold Builtin.zeroCells
    apply Array.ext
    · simp
    · intro j hj1 hj2
      simp [Nat.mod_one]
  have hsz := zeroS_size n
  have hl : ¬ (z < 0) := by omega
  have hl2 : ¬ (z * (i.bytes : Int) > 2 ^ 48) := by rw [h2]; omega
  have hl3 : ¬ (281474976710656 < z) := by omega
  have hai : ∀ w : World, (asInt (.int k z)).run P w = .ok z w := fun w => by simp [asInt, asIntOf]
  have hinfo : ∀ w : World, (typeInfo el).run P w = .ok i w := fun w => by simp [typeInfo, hi]
  have hzv : ∀ w : World, (zeroValue el).run P w = .ok (.int .u8 0) w := fun w => by simp [zeroValue, hinfo, hz]
  have hzc2 : ∀ m, Builtin.zeroCells (Value.int .u8 0).cells m = Array.replicate m (.int .u8 0) := hzc
  have hnn : ¬ z ≤ 0 := by omega
  by_cases hroom : sLen + n ≤ sCap
  · simp [Builtin.append_, run_underlying hu, run_underlying hui, Go.sizeOf, hinfo, h1, h2, hai, hw, hzn, Builtin.lenOf, hsz, hroom, hfc, h0, hl, hl3, hzv, hzc2]
  · rcases hf with hf | ⟨f1, f2⟩
    · exact absurd hf hroom
    · have f1' : ¬ (9223372036854775807 < (sLen : Int) + max z 0) := by omega
      have f2' : ¬ (281474976710656 < Builtin.nextslicecap (sLen + n) sCap) := by omega
      simp [Builtin.append_, run_underlying hu, run_underlying hui, Go.sizeOf, hinfo, h1, h2, hai, hw, hzn, Builtin.lenOf, hsz, hroom, hfc, h0, hl, hl3, hzv, hzc2, f1', f2']

theorem ok_apz (h : e.St) {c : Go.Call} {x y : Operand} {xa ya : A} {t ti el : TypeId} {ki : IntKind} (hargs : c.args = #[x, y]) (htys : c.argTypes = #[t, ti]) (ho : e.o.op = .call c) (hc : c.callee = .builtin .append)
    (hu : e.P.underlying t = some (.slice el)) (hui : e.P.underlying ti = some (.int ki)) (hs : Ev.size e.P el = some 1) (hb : Ev.bytesOf e.P el = some 1) (hz : Ev.isZ ((e.P.info? el).bind (·.zero)) = true)
    (hx : cA x = some xa) (hy : cA y = some ya) (us : List Nat) (d : Nat) : Res e (iApz xa ya us e.clr d e.st) := by
  obtain ⟨i, hi, his⟩ := size_info hs
  have hbytes : i.bytes = 1 := by simpa [Ev.bytesOf, hi] using hb
  have hiz : i.zero = some (.int .u8 0) := by
    rw [hi] at hz
    simp only [Option.bind_some] at hz
    cases hq : i.zero with
    | none => simp [hq, isZ] at hz
    | some v =>
      rw [hq] at hz
      unfold isZ at hz
      split at hz
      · rename_i n hn
        cases hn
        have : n = 0 := by simpa using hz
        subst this; rfl
      · cases hz
  have hzo : Ev.zeroOf e.P el = some [.it .u8 0] := by
    simp [Ev.zeroOf, hi, hiz, ofVal, ofAtom, V.cells]
  refine Res.nat' h hy (f := fun n k _ => .chk (Nat.blt 0 n) (.chk (Nat.ble n maxB) (appendD us e.st 1 1 (get e.st.tm xa) ((List.replicate n 0).map fun n => [byte n]) k))) fun k z hyv hz0 => ?_
  refine .chk fun q0 => .chk fun q => ?_
  have q0 := bltL q0
  have q := Nat.le_of_ble_eq_true q
  have hk : (∃ e', e.P.underlying t = some (.slice e')) ∨ e.P.underlying t = some .string := .inl ⟨el, hu⟩
  have hn := news_of_string (P := e.P) (g := e.g) (w := e.w) (s := zeroS z.toNat) (l := List.replicate z.toNat 0) hk (by simp [zeroS])
  refine ok_appN h (t := t) (tx := t) (el := el) (z := [.it .u8 0]) (fun cv w' base sLen sCap hxv hf hrun => ?_) hu hk hs hb hzo (by omega) (by omega) rfl hx us hn
  refine app_run hargs htys ho hc ?_
  rw [hxv, hyv] at *
  simp only [List.length_map, List.length_replicate] at hf
  rw [append_zeros hu hui hi his hbytes hiz hz0 (by omega) rfl q hf]
  exact hrun

/-- a block is marked behind its last cell -/
def marked (w : World) (b n : Nat) : World := w.freeze ⟨b, n, none⟩ 1

theorem marked_ok {w : World} {b : Nat} {C : Array Value} {el : TypeId} {fr : Nat × Nat} (hb : w.heap[b]? = some (.cells C el fr)) (hf : fr.1 = fr.2 ∨ C.size ≤ fr.1) :
    (∀ a, (marked w b C.size).cell? a = w.cell? a) ∧ (∀ b' o v, w.cell? (ad b' o) = some v → (marked w b C.size).frozen? (ad b' o) = w.frozen? (ad b' o)) ∧ (marked w b C.size).heap.size = w.heap.size ∧
    (∀ b', Unf w b' → Unf (marked w b C.size) b') ∧ (∀ b', b' ≠ b → (marked w b C.size).heap[b']? = w.heap[b']?) ∧ (marked w b C.size).os = w.os ∧ (marked w b C.size).output = w.output := by
  obtain ⟨lo, hi⟩ := fr
  simp only at hf
  have hat : ∀ b', (marked w b C.size).heap[b']? = if b' = b then some (.cells C el (if lo == hi then (C.size, C.size + 1) else (min lo C.size, max hi (C.size + 1)))) else w.heap[b']? := by
    intro b'
    unfold marked World.freeze
    simp only [Nat.one_ne_zero, if_false, Array.getElem?_modify]
    by_cases e : b = b'
    · subst e; simp [hb]
    · simp [e, Ne.symm e]
  refine ⟨fun a => ?_, fun b' o v hc => ?_, ?_, fun b' hu => ?_, fun b' hne => by rw [hat, if_neg hne], rfl, rfl⟩
  · unfold World.cell?
    rw [hat]
    by_cases e : a.block = b
    · simp [e, hb]
    · simp [e]
  · by_cases e : b' = b
    · subst e
      have ho : o < C.size := by
        unfold World.cell? ad at hc
        simp only [hb] at hc
        rcases Nat.lt_or_ge o C.size with q | q
        · exact q
        · simp [Array.getElem?_eq_none q] at hc
      unfold World.frozen? ad
      simp only [hat, if_true, hb]
      have r1 : (decide (lo ≤ o) && decide (o < hi)) = false := by
        simp only [Bool.and_eq_false_iff, decide_eq_false_iff_not]; omega
      rw [r1]
      by_cases e2 : lo = hi
      · subst e2
        simp only [beq_self_eq_true, if_true, Bool.and_eq_false_iff, decide_eq_false_iff_not]; omega
      · have hl : C.size ≤ lo := hf.resolve_left e2
        have : (lo == hi) = false := by simpa using e2
        simp only [this, Bool.false_eq_true, if_false, Bool.and_eq_false_iff, decide_eq_false_iff_not]; omega
    · unfold World.frozen? ad
      simp only [hat, e, if_false]
  · unfold marked World.freeze; simp
  · by_cases e : b' = b
    · subst e
      refine ⟨C, el, _, by rw [hat, if_pos rfl], ?_⟩
      by_cases e2 : lo = hi
      · subst e2; simp
      · have hl : C.size ≤ lo := hf.resolve_left e2
        have : (lo == hi) = false := by simpa using e2
        simp only [this]
        right; simp; omega
    · obtain ⟨C', e', fr', h1, h2⟩ := hu
      exact ⟨C', e', fr', by rw [hat, if_neg e]; exact h1, h2⟩

theorem MemR.mark {E : Ent} {g : G} {ν : Nat → Option Nat} {lo : Lo} {hp : Hp} {w : World} (h : MemR E g ν lo hp w) {b : Nat} {C : Array Value} {el : TypeId} {fr : Nat × Nat} (hb : w.heap[b]? = some (.cells C el fr)) (hf : fr.1 = fr.2 ∨ C.size ≤ fr.1)
    (ho : ∃ o, Own g hp b o) : MemR E g ν lo hp (marked w b C.size) := by
  obtain ⟨hc, hfz, hs, hu, hne, hos, hout⟩ := marked_ok hb hf
  obtain ⟨o0, ho0⟩ := ho
  refine ⟨⟨h.hr.mp.mono (fun b' es c x => by rw [hne b' (fun q => by rw [q, hb] at x; cases x)]; exact x) (fun _ _ x => x) (fun _ _ x => x) (fun _ _ _ => rfl), h.hr.lim, h.hr.nil, h.hr.bnd, fun b o v x => by rw [hc]; exact h.hr.kap b o v x, h.hr.unb, h.hr.dead, fun id r x => ?_, h.hr.sep⟩, ⟨fun t cs x => ?_, h.lo.inj⟩, ?_⟩
  · obtain ⟨bk, a, z⟩ := h.hr.live id r x
    exact ⟨bk, a, z.grow (GLe.refl g) (fun _ _ _ y => by rw [hc]; exact y) hfz (fun _ _ y _ => y) hu⟩
  · obtain ⟨b', h1, h2, h3, h4, h5, h6⟩ := h.lo.box t cs x
    exact ⟨b', h1, h2.grow (GLe.refl g) (fun _ _ y => by rw [hc]; exact y) (fun _ _ y => hfz _ _ _ y), h3, h4, h5, by omega⟩
  · have v := h.evo
    have key : Evo g hp w g hp (marked w b C.size) := ⟨GLe.refl g, Nat.le_refl _, rfl, fun _ _ => rfl, by omega, fun b' o v x _ => by rw [hc]; exact x, fun b' o v x _ => hfz b' o v x, fun _ _ x => .inl x, fun _ _ _ x => .inl x, ⟨hos, hout⟩, hu, fun b' _ y _ => hne b' fun q => y o0 (by rw [q]; exact ho0), fun _ x => .inl x⟩
    exact v.trans key

theorem ok_mrk (h : e.St) {s : TypeId} {x : Operand} {xa : A} {el : TypeId} (hu : e.P.underlying s = some (.slice el)) (hby : isByte e.P el = true) (hx : cA x = some xa) (ho : e.o.op = .convert s s x) (us : List Nat) (d : Nat) :
    Res e (iMrk xa us e.clr d e.st) := by
  have hue := isByte_u hby
  have hr := h.rep hx
  show Res e (fun k _ => match get e.st.tm xa with
    | .hs id i n => match Ev.hget e.st.hp id with
      | some b => bif b.fr then .bad else bif Nat.beq b.sz 1 then .chk (Nat.blt 0 n) (k (.hs id i n) e.st) else .bad
      | none => .bad
    | _ => .bad)
  cases hg : get e.st.tm xa with
  | hs id i n =>
    refine Res.hget (F := fun b k _ => bif b.fr then .bad else bif Nat.beq b.sz 1 then .chk (Nat.blt 0 n) (k (.hs id i n) e.st) else .bad) fun bk hbk => ?_
    refine .bif (F := fun _ _ => .bad) (fun _ => .bad fun _ _ => rfl) (fun hfr => ?_)
    refine .bif (G := fun _ _ => .bad) (fun hsz => ?_) (fun _ => .bad fun _ _ => rfl)
    refine .chk fun hn => ?_
    have hn := bltL hn
    have hsz := Nat.eq_of_beq_eq_true hsz
    rw [hg] at hr
    obtain ⟨a, cap, hv, c1, c2⟩ := RepA.hs_inv hr
    rcases c2 with c2 | ⟨r, hl, c2⟩
    · rw [h.mem.hr.dead id c2] at hbk; cases hbk
    · obtain ⟨bk0, e0, z⟩ := h.mem.hr.live id r hl
      rw [hbk] at e0; cases e0
      rcases c2 with c2 | ⟨rfl, c3⟩
      · omega
      · obtain ⟨C, e', fr, hb, hf⟩ := z.blk hfr
        have hrun : (convert s s (e.a.eval x)).run e.P e.w = .ok (e.a.eval x) (marked e.w r.b C.size) := by
          rw [hv]
          simp [convert, run_underlying hu, run_underlying hue, markStringish, ad, World.shape?, hb, marked]
        have hrs : r.sz = 1 := z.sz.trans hsz
        have hown : Own e.g e.st.hp r.b (r.base + 0) := ⟨id, r, bk, 0, hl, hbk, hfr, by rw [hrs]; omega, rfl, rfl⟩
        exact .out (.value _ _ (conv_run ho hrun)) ⟨rfl, h.mem.mark hb hf ⟨_, hown⟩, GLe.refl _, .inl rfl, .ofA hr, fun _ _ _ _ hx => by cases hx⟩
  | _ => exact .bad fun _ _ => rfl

/-- rows laid over rows -/
theorem ok_cpy (h : e.St) {c : Go.Call} {x y : Operand} {xa ya : A} {t tx el : TypeId} {sz : Nat} (hargs : c.args = #[x, y]) (htys : c.argTypes = #[t, tx]) (ho : e.o.op = .call c) (hc : c.callee = .builtin .copy)
    (hu : e.P.underlying t = some (.slice el)) (hs : Ev.size e.P el = some sz) (hsz : 0 < sz) (hx : cA x = some xa) (hy : cA y = some ya) (us : List Nat) (d : Nat) : Res e (iCpy sz xa ya us e.clr d e.st) := by
  have hrx := h.rep hx
  refine Res.elems h (h.rep hy) (F := fun new k _ => cpyD us e.st sz new (get e.st.tm xa) k) fun new hnew => ?_
  show Res e (fun k _ => cpyD us e.st sz new (get e.st.tm xa) k)
  cases hg : get e.st.tm xa with
  | hs id i n =>
    refine Res.hget (F := fun b k _ => bif b.fr then .bad else bif Nat.blt id e.st.hp.lim then .bad else bif Nat.beq b.sz sz then bif freshH us e.st.tm id then
      .chk (Nat.ble (i + n) b.es.length) (k (i64 (.ofNat (new.take n).length)) (e.st.setHp (hset e.st.hp id (some ⟨b.sz, b.fr, over i (new.take n) b.es⟩)))) else .bad else .bad) fun bk hbk => ?_
    refine .bif (F := fun _ _ => .bad) (fun _ => .bad fun _ _ => rfl) (fun hfr => ?_)
    refine .bif (F := fun _ _ => .bad) (fun _ => .bad fun _ _ => rfl) (fun hlm => ?_)
    refine .bif (G := fun _ _ => .bad) (fun hm => ?_) (fun _ => .bad fun _ _ => rfl)
    refine .bif (G := fun _ _ => .bad) (fun _ => ?_) (fun _ => .bad fun _ _ => rfl)
    refine .chk fun hin => ?_
    have hin := Nat.le_of_ble_eq_true hin
    have hm := Nat.eq_of_beq_eq_true hm
    have hlim : e.st.hp.lim ≤ id := bltG hlm
    rw [hg] at hrx
    obtain ⟨a, cap, hv, c1, c2⟩ := RepA.hs_inv hrx
    obtain ⟨sa, scap, hsv, srow, scp, scell⟩ := hnew
    rcases c2 with c2 | ⟨r, hl, c2⟩
    · rw [h.mem.hr.dead id c2] at hbk; cases hbk
    · obtain ⟨bk0, e0, z⟩ := h.mem.hr.live id r hl
      rw [hbk] at e0; cases e0
      have hrs : r.sz = sz := z.sz.trans hm
      have hml : (new.take n).length = Nat.min new.length n := by rw [List.length_take, Nat.min_comm]
      have hle : (new.take n).length ≤ n := by rw [List.length_take]; exact Nat.min_le_left _ _
      obtain ⟨i', hi, his⟩ := size_info hs
      -- the cells that go over
      have hcells : ∃ vals : List Value, vals.length = (new.take n).length * sz ∧ (Builtin.firstCells sz (new.take n).length (e.a.eval y)).run e.P e.w = .ok vals.toArray e.w ∧
          (∀ (k j : Nat) (x : List V) (c : V), (new.take n)[k]? = some x → x[j]? = some c → c.keep = true ∧ ∃ cv, vals[k * sz + j]? = some cv ∧ RepA e.g c cv) ∧ ∀ v, v ∈ vals → oneC v = true := by
        have hrow' : ∀ x, x ∈ new.take n → x.length = sz := fun x hx => srow x (List.mem_of_mem_take hx)
        rcases scell with hnil | ⟨b, o, f, rfl, hf⟩
        · subst hnil
          refine ⟨[], by simp, ?_, fun k j x c hx => by simp at hx, fun v hv => by cases hv⟩
          rw [hsv]
          cases sa with
          | none => simpa using run_firstCells_none (P := e.P) e.w sz 0 0 scap
          | some a => simpa using run_firstCells_some (P := e.P) e.w sz 0 a 0 scap [] (by simp) (by simp)
        · have hf' : ∀ (k j : Nat) (x : List V) (c : V), (new.take n)[k]? = some x → x[j]? = some c → c.keep = true ∧ e.w.cell? (ad b (o + k * sz + j)) = some (f k j) ∧ RepA e.g c (f k j) := fun k j x c hx hc => by
            have hk := lt_of_get hx
            rw [List.getElem?_take_of_lt (by omega)] at hx
            exact hf k j x c hx hc
          obtain ⟨o1, o2⟩ := elems_cells hrow' hf'
          refine ⟨flatF f sz (new.take n).length, flatF_len _ _ _, ?_, fun k j x c hx hc => ?_, fun v hv => ?_⟩
          · rw [hsv]
            exact run_firstCells_some (P := e.P) e.w sz _ _ _ scap _ (flatF_len _ _ _) fun j v hv => (o1 j v hv).1
          · obtain ⟨k1, _, k3⟩ := hf' k j x c hx hc
            have hj := lt_of_get hc
            rw [hrow' x (List.mem_of_getElem? hx)] at hj
            exact ⟨k1, f k j, flatF_get (lt_of_get hx) hj, k3⟩
          · obtain ⟨k, hk⟩ := List.getElem?_of_mem hv
            exact (o1 k v hk).2
      obtain ⟨vals, v1, v2, v3, v4⟩ := hcells
      have hdone : ∀ w' v, (Builtin.copy_ #[t, tx] e.o.type #[e.a.eval x, e.a.eval y]).run e.P e.w = .ok v w' → (execOp e.a.eval e.o).run e.P e.w = .ok (.value v) w' := fun w' v hq =>
        run_builtin ho hc (by simp [Go.builtin, hargs, htys, hq])
      have hlen : ∀ w : World, (Builtin.lenOf (e.a.eval y)).run e.P w = .ok new.length w := fun w => by rw [hsv]; rfl
      by_cases h0 : (new.take n).length = 0
      · have hv0 : vals = [] := List.eq_nil_of_length_eq_zero (by rw [v1, h0]; simp)
        subst hv0
        have ht0 : new.take n = [] := List.eq_nil_of_length_eq_zero h0
        have hrun : (Builtin.copy_ #[t, tx] e.o.type #[e.a.eval x, e.a.eval y]).run e.P e.w = .ok (goInt 0) e.w := by
          rw [hv]
          have hmin : Nat.min new.length n = 0 := by rw [← hml]; exact h0
          rw [h0] at v2
          simp only [Builtin.copy_]
          simp only [List.getElem?_toArray, List.getElem?_cons_zero, List.getElem?_cons_succ, Sem.run_bind, run_underlying hu, Result.andThen_ok, hlen, run_size hs, hmin, v2]
          cases a <;> simp [storeCells]
        rw [ht0]
        have hes : over i ([] : List (List V)) bk.es = bk.es := by simp [over]
        rw [hes]
        have hmem := h.mem.hpExt (hp' := hset e.st.hp id (some ⟨bk.sz, bk.fr, bk.es⟩)) rfl rfl (fun j => by
          rw [hget_hset]; split
          · rename_i q; rw [q, hbk]
          · rfl)
        exact .out (.value _ _ (hdone _ _ hrun)) ⟨rfl, hmem, GLe.refl _, .inl rfl, .ofA (.c _ _ (.it _ _)), fun _ _ _ _ hx => by cases hx⟩
      · rcases c2 with c2 | ⟨rfl, c3⟩
        · omega
        · have hmul : (i + (new.take n).length) * r.sz ≤ r.cap * r.sz := Nat.mul_le_mul_right _ (by omega)
          have hoff : i * r.sz + vals.length = (i + (new.take n).length) * r.sz := by rw [v1, ← hrs, Nat.add_mul]
          have hplace : ∀ j, r.base + i * r.sz + 0 + j = r.base + (i * r.sz + j) := fun j => by omega
          have hst := run_storeCells_cells (P := e.P) r.b (r.base + i * r.sz) vals 0 e.w (fun j hj => by
              obtain ⟨⟨u, hu'⟩, _⟩ := z.rw hfr (i * r.sz + j) (by omega)
              rw [hplace]; simp only [ad] at hu'; rw [hu']; rfl) (fun j hj => by
              have h2 := (z.rw hfr (i * r.sz + j) (by omega)).2.1
              rw [hplace]; simp only [ad] at h2; exact h2) (fun v hv => oneC' (v4 v hv))
          have hrun : (Builtin.copy_ #[t, tx] e.o.type #[e.a.eval x, e.a.eval y]).run e.P e.w = .ok (goInt (new.take n).length) (setCs e.w r.b (r.base + i * r.sz) vals) := by
            rw [hv]
            rw [hml] at v2 ⊢
            simp only [Builtin.copy_]
            simp only [List.getElem?_toArray, List.getElem?_cons_zero, List.getElem?_cons_succ, Sem.run_bind, run_underlying hu, Result.andThen_ok, hlen, run_size hs, v2]
            simp only [ad]
            rw [hst]
            simp only [Nat.add_zero, Result.andThen_ok, Sem.run_pure, setCs_eq]
          have hol : (bk.es.take i).length = i := by rw [List.length_take]; omega
          have hw := h.mem.write hl hbk hfr hlim (bk' := ⟨bk.sz, bk.fr, over i (new.take n) bk.es⟩) (i * r.sz) vals (by omega) rfl hfr (by
              have := z.len
              simp only [over, List.length_append, List.length_drop, hol]; omega)
            (fun x hx => by
              simp only [over] at hx
              rcases List.mem_append.1 hx with hx | hx
              · exact z.row x (List.mem_of_mem_take hx)
              · rcases List.mem_append.1 hx with hx | hx
                · rw [hm]; exact srow x (List.mem_of_mem_take hx)
                · exact z.row x (List.mem_of_mem_drop hx))
            (fun i' j x c hx hc => by
              simp only [over] at hx
              rw [hm]
              have hj := lt_of_get hc
              have hold : bk.es[i']? = some x → (i' < i ∨ i + (new.take n).length ≤ i') → c.keep = true ∧ if i * r.sz ≤ i' * sz + j ∧ i' * sz + j < i * r.sz + vals.length then ∃ cv, vals[i' * sz + j - i * r.sz]? = some cv ∧ RepA e.g c cv
                  else ∃ cv, e.w.cell? (ad r.b (r.base + (i' * sz + j))) = some cv ∧ RepA e.g c cv := by
                intro hx' hor
                rw [z.row x (List.mem_of_getElem? hx'), hm] at hj
                obtain ⟨k1, u, k2, k3⟩ := z.cont i' j x c hx' hc
                have hcond : ¬ (i * r.sz ≤ i' * sz + j ∧ i' * sz + j < i * r.sz + vals.length) := by
                  rw [hoff, hrs]
                  rcases hor with q | q
                  · have := Nat.mul_le_mul_right sz (show i' + 1 ≤ i by omega)
                    rw [Nat.add_mul, Nat.one_mul] at this; omega
                  · have := Nat.mul_le_mul_right sz q; omega
                rw [if_neg hcond]
                exact ⟨k1, u, by rw [← hrs, ← Nat.add_assoc]; exact k2, k3⟩
              by_cases p1 : i' < i
              · rw [List.getElem?_append_left (by omega), List.getElem?_take_of_lt p1] at hx
                exact hold hx (.inl p1)
              · rw [List.getElem?_append_right (by omega), hol] at hx
                by_cases p2 : i' < i + (new.take n).length
                · rw [List.getElem?_append_left (by omega)] at hx
                  rw [srow x (List.mem_of_mem_take (List.mem_of_getElem? hx))] at hj
                  obtain ⟨k1, cv, k2, k3⟩ := v3 _ j x c hx hc
                  have hlt := idx_lt (lt_of_get hx) hj
                  have e1 : i' * sz = i * sz + (i' - i) * sz := by rw [← Nat.add_mul]; congr 1; omega
                  refine ⟨k1, ?_⟩
                  rw [hrs, if_pos ⟨by omega, by omega⟩]
                  exact ⟨cv, by rw [show i' * sz + j - i * sz = (i' - i) * sz + j by omega]; exact k2, k3⟩
                · rw [List.getElem?_append_right (by omega), List.getElem?_drop] at hx
                  rw [show i + (new.take n).length + (i' - i - (new.take n).length) = i' by omega] at hx
                  exact hold hx (.inr (by omega)))
          exact .out (.value _ _ (hdone _ _ hrun)) ⟨rfl, hw, GLe.refl _, .inl rfl, .ofA (.c _ _ (.it _ _)), fun _ _ _ _ hx => by cases hx⟩
  | _ => exact .bad fun _ _ => rfl

end
end Ev
