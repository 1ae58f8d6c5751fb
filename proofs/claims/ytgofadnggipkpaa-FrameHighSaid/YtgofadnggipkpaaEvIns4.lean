import Derived.Test.YtgofadnggipkpaaEvIns3
import Derived.Test.YtgofadnggipkpaaEvArith
import Derived.Laws.Slices
import Derived.Laws.BytesString
namespace Ev
open Go

section
variable {e : Env}

theorem ok_un (h : e.St) {t : TypeId} {x : Operand} {xa : A} {op : UnOp} (hx : cA x = some xa) (ho : e.o.op = .unOp op t x) (us : List Nat) (d : Nat) : Res e (iUn op xa us e.clr d e.st) := by
  have hr := h.rep hx
  refine Res.oneD (f := fun v k _ => k v e.st) fun v hv => ?_
  cases hg : get e.st.tm xa with
  | bo b =>
    rw [hg] at hr hv
    have hb := RepA.bo_inv hr
    cases op <;> simp only [unop, Option.some.injEq, reduceCtorEq] at hv
    subst hv
    exact Res.val h (by simp [execOp, ho, hb, Op.unary]) (.c _ _ (.bo _)) rfl
  | it k n =>
    rw [hg] at hr hv
    have hb := RepA.it_inv hr
    cases op <;> simp only [unop, Option.some.injEq, reduceCtorEq] at hv
    · subst hv
      refine Res.val h (cv := .int k (k.wrap (0 - n))) (by simp [execOp, ho, hb, Op.unary, Op.intArith]) ?_ rfl
      rw [wr_eq]; exact .c _ _ (.it _ _)
    · subst hv
      have e1 : (BitVec.ofInt k.bits (if k.signed then -1 else k.max)) = BitVec.ofInt k.bits (-1) := by
        cases k <;> rfl
      refine Res.val h (cv := .int k (k.wrap ((BitVec.ofInt k.bits (-1) ^^^ BitVec.ofInt k.bits n).toNat))) (by
        simp only [execOp, ho, hb, Op.unary, Op.intBits, e1]; rfl) ?_ rfl
      rw [wr_eq, kbits_eq, toU_eq, toU_eq, show Nat.xor (BitVec.ofInt k.bits (-1)).toNat (BitVec.ofInt k.bits n).toNat = (BitVec.ofInt k.bits (-1) ^^^ BitVec.ofInt k.bits n).toNat from (BitVec.toNat_xor _ _).symm]
      exact .c _ _ (.it _ _)
  | _ => rw [hg] at hv; cases op <;> simp [unop] at hv

theorem run_sliceB {P : Program} {w : World} {v : Value} {k : IntKind} {n : Int} (hv : v = .int k n) {y : Nat} {code : BoundsCode} (h0 : 0 ≤ n) (h1 : n.toNat ≤ y) : (Instr.sliceBound v y code).run P w = .ok n.toNat w := by
  subst hv; exact run_sliceBound w k n y code h0 (by omega)

theorem Res.nat' (h : e.St) {x : Operand} {xa : A} (hx : cA x = some xa) {f : Nat → (V → St → D) → (V → St → D) → D} (hf : ∀ k n, e.a.eval x = .int k n → 0 ≤ n → Res e (f n.toNat)) :
    Res e (fun k kp => natD (get e.st.tm xa) fun v => f v k kp) :=
  Res.nat fun k n hg h0 => hf k n (by have := h.rep hx; rw [hg] at this; exact RepA.it_inv this) h0

theorem Res.hget {id : Nat} {F : Bk → (V → St → D) → (V → St → D) → D} (hf : ∀ bk, Ev.hget e.st.hp id = some bk → Res e (F bk)) :
    Res e (fun k kp => match Ev.hget e.st.hp id with | some b => F b k kp | none => .bad) := by
  cases hg : Ev.hget e.st.hp id with
  | none => exact .bad fun _ _ => rfl
  | some bk => exact hf bk hg

theorem ok_ias (h : e.St) {t elem : TypeId} {x i : Operand} {xa ia : A} {sz : Nat} (hu : e.P.underlying t = some (.slice elem)) (hs : Ev.size e.P elem = some sz) (hx : cA x = some xa) (hi : cA i = some ia)
    (ho : e.o.op = .indexAddr t x i) (us : List Nat) (d : Nat) : Res e (iIas sz xa ia us e.clr d e.st) := by
  refine Res.nat' h hi (f := fun n k _ => match get e.st.tm xa with
    | .vs m es => bif Nat.beq m sz then .chk (Nat.blt n es.length) (k (.ip (es.getD n [])) e.st) else .bad
    | .hs id i0 len => match Ev.hget e.st.hp id with
      | some b => bif Nat.beq b.sz sz then .chk (Nat.blt n len) (k (.pt id (i0 + n) 0) e.st) else .bad
      | none => .bad
    | _ => .bad) fun kk n hiv h0 => ?_
  have hr := h.rep hx
  have hrun : ∀ a len cap, e.a.eval x = .slice (some a) len cap → n.toNat < len → (execOp e.a.eval e.o).run e.P e.w = .ok (.value (.pointer (some (a.add (n.toNat * sz))))) e.w := by
    intro a len cap hxv hlt
    have hc : 0 ≤ n ∧ n < (len : Int) := ⟨h0, by omega⟩
    simp [execOp, ho, hxv, hiv, Instr.indexAt, asIntOf, run_underlying hu, hc, run_size hs]
  cases hg : get e.st.tm xa with
  | vs m es =>
    refine .bif (F := fun k _ => .chk (Nat.blt n.toNat es.length) (k (.ip (es.getD n.toNat [])) e.st)) (G := fun _ _ => .bad) (fun hm => ?_) (fun _ => .bad fun _ _ => rfl)
    have hm := Nat.eq_of_beq_eq_true hm
    subst hm
    refine .chk fun hb => ?_
    have hb := bltL hb
    rw [hg] at hr
    obtain ⟨a, cap, b, o, f, hxv, h1, h2, h3, h4, h5⟩ := RepA.vs_inv hr
    have ha := h2 (by intro q; subst q; simp at hb)
    subst ha
    have hrow : es[n.toNat]? = some (es.getD n.toNat []) := by simp [List.getD, List.getElem?_eq_getElem hb]
    refine Res.val h (hrun _ _ _ hxv hb) ?_ rfl
    rw [ad_add]
    exact .ip _ b _ (f n.toNat) (fun j c hc => h4 _ j _ c hrow hc) (fun j c hc => h5 _ j _ c hrow hc)
  | hs id i0 len =>
    refine Res.hget (F := fun b k _ => bif Nat.beq b.sz sz then .chk (Nat.blt n.toNat len) (k (.pt id (i0 + n.toNat) 0) e.st) else .bad) fun bk hbk => ?_
    refine .bif (F := fun k _ => .chk (Nat.blt n.toNat len) (k (.pt id (i0 + n.toNat) 0) e.st)) (G := fun _ _ => .bad) (fun hm => ?_) (fun _ => .bad fun _ _ => rfl)
    have hm := Nat.eq_of_beq_eq_true hm
    refine .chk fun hb => ?_
    have hb := bltL hb
    rw [hg] at hr
    obtain ⟨a, cap, hxv, h1, h2⟩ := RepA.hs_inv hr
    rcases h2 with h2 | ⟨r, hl, h2⟩
    · rw [h.mem.hr.dead id h2] at hbk; cases hbk
    · obtain ⟨bk0, e0, z⟩ := h.mem.hr.live id r hl
      rw [hbk] at e0; cases e0
      rcases h2 with h2 | ⟨h2, h3⟩
      · omega
      · subst h2
        refine Res.val h (hrun _ _ _ hxv hb) ?_ rfl
        rw [ad_add]
        refine .pt _ _ _ _ (.inr ⟨r, hl, ?_⟩)
        rw [z.sz, hm, Nat.add_mul]; congr 1; omega
  | _ => exact .bad fun _ _ => rfl

theorem ok_iaa (h : e.St) {t elem : TypeId} {x i : Operand} {xa ia : A} {len sz : Nat} (hu : e.P.underlying t = some (.array len elem)) (hs : Ev.size e.P elem = some sz) (hx : cA x = some xa) (hi : cA i = some ia)
    (ho : e.o.op = .indexAddr t x i) (us : List Nat) {d : Nat} (hd : ∀ d', e.dst = some d' → d' = d) : Res e (iIaa len sz xa ia us e.clr d e.st) := by
  refine Res.nat' h hi (f := fun n k _ => .chk (Nat.blt n len) (moveD e.clr d (n * sz) (get e.st.tm xa) fun v => k v e.st)) fun kk n hiv h0 => ?_
  refine .chk fun hb => ?_
  have hb := bltL hb
  refine Res.move h (h.rep hx) hd fun a ha => ?_
  have hc : 0 ≤ n ∧ n < (len : Int) := ⟨h0, by omega⟩
  simp [execOp, ho, ha, hiv, Instr.indexAt, Instr.sureAddr, asIntOf, run_underlying hu, hc, run_size hs]

theorem ok_ixs (h : e.St) {t : TypeId} {x i : Operand} {xa ia : A} (hu : e.P.underlying t = some .string) (hx : cA x = some xa) (hi : cA i = some ia) (ho : e.o.op = .index t x i) (us : List Nat) (d : Nat) :
    Res e (iIxs xa ia us e.clr d e.st) := by
  refine Res.nat' h hi (f := fun n k _ => match get e.st.tm xa with
    | .st s => .chk (Nat.blt n s.length) (k (byte (s.getD n 0)) e.st)
    | _ => .bad) fun kk n hiv h0 => ?_
  have hr := h.rep hx
  cases hg : get e.st.tm xa with
  | st l =>
    refine .chk fun hb => ?_
    have hb := bltL hb
    rw [hg] at hr
    obtain ⟨s, hs, hl⟩ := RepA.st_inv hr
    have hsz : s.size = l.length := by rw [← hl, List.length_map, Array.length_toList]; rfl
    have hc : 0 ≤ n ∧ n < (s.size : Int) := ⟨h0, by omega⟩
    have hv : byte (l.getD n.toNat 0) = .it .u8 ((s[n.toNat]'(by omega)).toNat : Int) := by
      subst hl
      unfold byte
      simp only [List.getD_eq_getElem?_getD, List.getElem?_map, Array.getElem?_toList, Int.ofNat_eq_natCast]
      have hlt : n.toNat < s.data.size := by have : s.size = s.data.size := rfl; omega
      rw [Array.getElem?_eq_getElem hlt]
      rfl
    rw [hv]
    refine Res.val h (cv := .int .u8 ((s[n.toNat]'(by omega)).toNat : Int)) ?_ (.c _ _ (.it _ _)) rfl
    simp only [execOp, ho, hs, hiv, Sem.run_bind, run_index_string e.w t s kk n hu, hc, and_self, dif_pos, Result.andThen_ok, Sem.run_pure]
  | _ => exact .bad fun _ _ => rfl

theorem ok_ixa (h : e.St) {t elem : TypeId} {x i : Operand} {xa ia : A} {len sz : Nat} {gg : Bool} (hu : e.P.underlying t = some (.array len elem)) (hs : Ev.size e.P elem = some sz) (hgg : Ev.isAgg e.P elem = some gg) (hx : cA x = some xa) (hi : cA i = some ia)
    (ho : e.o.op = .index t x i) (us : List Nat) (d : Nat) : Res e (iIxa len sz gg xa ia us e.clr d e.st) := by
  refine Res.nat' h hi (f := fun n k _ => match get e.st.tm xa with
    | .ag cs => .chk (Nat.blt n len) (cutD sz (n * sz) cs fun cs => Ev.oneD (pickC sz gg cs) fun v => k v e.st)
    | _ => .bad) fun kk n hiv h0 => ?_
  have hr := h.rep hx
  cases hg : get e.st.tm xa with
  | ag cs =>
    refine .chk fun hb => ?_
    have hb := bltL hb
    rw [hg] at hr
    refine Res.part h rfl hr hs hgg fun arr cv' ha hrun => ?_
    have hc : 0 ≤ n ∧ n < (len : Int) := ⟨h0, by omega⟩
    simp [execOp, ho, ha, hiv, Instr.index, asIntOf, run_underlying hu, hc, run_size hs, hrun]
  | _ => exact .bad fun _ _ => rfl

/-- a builtin's arguments -/
theorem run_builtin {P : Program} {w : World} {ρ : Operand → Value} {o : Oper} {c : Go.Call} {b : Builtin} (ho : o.op = .call c) (hc : c.callee = .builtin b) {r : Result Next}
    (h : (Go.builtin b c.argTypes o.type (c.args.map fun | .const _ => true | _ => false) (c.args.map ρ)).run P w = r) : (execOp ρ o).run P w = r := by
  simp only [execOp, ho, resolve, hc, Sem.run_bind, Sem.run_pure, Result.andThen_ok, invoke]
  exact h

theorem args1 {ops : Array Operand} {xa : A} (h : allSome cA ops.toList = some [xa]) : ∃ x, ops = #[x] ∧ cA x = some xa := by
  have hl := allSome_len h
  obtain ⟨x, hx, hc⟩ := allSome_get h 0 xa rfl
  refine ⟨x, ?_, hc⟩
  apply Array.ext'
  cases ho : ops.toList with
  | nil => simp [ho] at hl
  | cons y r =>
    rw [ho] at hx hl
    simp at hx hl
    subst hx
    simp [hl]

theorem args2 {ops : Array Operand} {xa ya : A} (h : allSome cA ops.toList = some [xa, ya]) : ∃ x y, ops = #[x, y] ∧ cA x = some xa ∧ cA y = some ya := by
  have hl := allSome_len h
  obtain ⟨x, hx, hc⟩ := allSome_get h 0 xa rfl
  obtain ⟨y, hy, hc'⟩ := allSome_get h 1 ya rfl
  refine ⟨x, y, ?_, hc, hc'⟩
  apply Array.ext'
  cases ho : ops.toList with
  | nil => simp [ho] at hl
  | cons u r =>
    cases r with
    | nil => simp [ho] at hl
    | cons v r =>
      rw [ho] at hx hl hy
      simp at hx hl hy
      subst hx; subst hy
      simp [hl]

theorem ok_len (h : e.St) {c : Go.Call} {xa : A} {b : Bool} (ha : allSome cA c.args.toList = some [xa]) (ho : e.o.op = .call c) (hc : c.callee = .builtin .len) {t : TypeId}
    (ht : c.argTypes[0]? = some t) (hu : if b then e.P.underlying t = some .string else ∃ el, e.P.underlying t = some (.slice el)) (us : List Nat) (d : Nat) : Res e (iLen b xa us e.clr d e.st) := by
  obtain ⟨x, hargs, hx⟩ := args1 ha
  have hr := h.rep hx
  refine Res.oneD (f := fun n k _ => k (i64 (.ofNat n)) e.st) fun v hv => ?_
  have hslice : ∀ a n cap, b = false → e.a.eval x = .slice a n cap → (execOp e.a.eval e.o).run e.P e.w = .ok (.value (goInt n)) e.w := by
    intro a n cap hb hxv
    rw [hb] at hu
    obtain ⟨el, hel⟩ := hu
    exact run_builtin ho hc (by simp [Go.builtin, hargs, Builtin.len_, ht, hxv, run_underlying hel])
  cases hg : get e.st.tm xa with
  | st l =>
    rw [hg] at hr hv
    cases b <;> simp only [lenOf, cond_true, cond_false, Option.some.injEq, reduceCtorEq] at hv
    subst hv
    obtain ⟨s, hs, hl⟩ := RepA.st_inv hr
    have hsz : s.size = l.length := by rw [← hl, List.length_map, Array.length_toList]; rfl
    simp only [if_true] at hu
    refine Res.val h (cv := goInt s.size) (run_builtin ho hc (by simp [Go.builtin, hargs, Builtin.len_, ht, hs, run_underlying hu])) (by rw [hsz]; exact .c _ _ (.it _ _)) rfl
  | ns =>
    rw [hg] at hr hv
    cases b <;> simp only [lenOf, cond_true, cond_false, Option.some.injEq, reduceCtorEq] at hv
    subst hv
    exact Res.val h (hslice _ _ _ rfl (RepA.ns_inv hr)) (.c _ _ (.it _ _)) rfl
  | vs sz es =>
    rw [hg] at hr hv
    cases b <;> simp only [lenOf, cond_true, cond_false, Option.some.injEq, reduceCtorEq] at hv
    subst hv
    obtain ⟨a, cap, _, _, _, hxv, _⟩ := RepA.vs_inv hr
    exact Res.val h (hslice _ _ _ rfl hxv) (.c _ _ (.it _ _)) rfl
  | hs id i len =>
    rw [hg] at hr hv
    cases b <;> simp only [lenOf, cond_true, cond_false, Option.some.injEq, reduceCtorEq] at hv
    subst hv
    obtain ⟨a, cap, hxv, _⟩ := RepA.hs_inv hr
    exact Res.val h (hslice _ _ _ rfl hxv) (.c _ _ (.it _ _)) rfl
  | _ => rw [hg] at hv; simp [lenOf] at hv

theorem ok_mnx (h : e.St) {c : Go.Call} {xa ya : A} {mx : Bool} (ha : allSome cA c.args.toList = some [xa, ya]) (ho : e.o.op = .call c) (hc : c.callee = .builtin (if mx then .max else .min)) (us : List Nat) (d : Nat) :
    Res e (iMnx mx xa ya us e.clr d e.st) := by
  obtain ⟨x, y, hargs, hx, hy⟩ := args2 ha
  have hr := h.rep hx
  have hr' := h.rep hy
  refine Res.oneD (f := fun v k _ => k v e.st) fun v hv => ?_
  cases hg : get e.st.tm xa with
  | it k a =>
    cases hg' : get e.st.tm ya with
    | it k' b =>
      rw [hg] at hr; rw [hg'] at hr'
      rw [hg, hg'] at hv
      have h1 := RepA.it_inv hr
      have h2 := RepA.it_inv hr'
      simp only [minmax] at hv
      cases hk : keq k k' with
      | false => simp [hk] at hv
      | true =>
        have hk := keq_eq hk
        subst hk
        simp only [show keq k k = true by cases k <;> rfl, cond_true, Option.some.injEq] at hv
        subst hv
        cases mx with
        | true =>
          refine Res.val h (cv := .int k (if b > a then b else a)) (run_builtin ho hc (by simp [Go.builtin, hargs, Builtin.max_, Builtin.max2, h1, h2])) ?_ rfl
          have : (bif true then (bif ilt a b then b else a) else (bif ilt b a then b else a)) = (if b > a then b else a) := by
            rw [ilt_eq]; by_cases q : a < b <;> simp [q]
          rw [this]; exact .c _ _ (.it _ _)
        | false =>
          refine Res.val h (cv := .int k (if b < a then b else a)) (run_builtin ho hc (by simp [Go.builtin, hargs, Builtin.min_, Builtin.min2, h1, h2])) ?_ rfl
          have : (bif false then (bif ilt a b then b else a) else (bif ilt b a then b else a)) = (if b < a then b else a) := by
            rw [ilt_eq b a]; by_cases q : b < a <;> simp [q]
          rw [this]; exact .c _ _ (.it _ _)
    | _ => rw [hg, hg'] at hv; simp [minmax] at hv
  | _ => rw [hg] at hv; simp [minmax] at hv

end
end Ev
