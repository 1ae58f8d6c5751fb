import Derived.Laws.StructEq
import Derived.Test.YtgofadnggipkpaaEvIns4
namespace Ev
open Go

section
variable {e : Env}

theorem wr_rep {g : G} (k : IntKind) (n : Int) : RepA g (.it k (wr k n)) (.int k (k.wrap n)) := by rw [wr_eq]; exact .c _ _ (.it _ _)

theorem bin_run {op : BinOp} {t : TypeId} {x y : Operand} {b : TypeId} {vx vy cv : Value} (ho : e.o.op = .binOp op t x y b) (hx : e.a.eval x = vx) (hy : e.a.eval y = vy) (h1 : vx ≠ .nilIface) (h2 : ∀ a, vx ≠ .agg a)
    (h : (binOp op t vx vy).run e.P e.w = .ok cv e.w) : (execOp e.a.eval e.o).run e.P e.w = .ok (.value cv) e.w := by
  have hg : (eqGuard op t x y vx vy).run e.P e.w = .ok () e.w := by
    cases vx <;> first | exact absurd rfl h1 | exact absurd rfl (h2 _) | (cases op <;> rfl)
  simp only [execOp, ho, hx, hy, Sem.run_bind, hg, Result.andThen_ok, h, Sem.run_pure]

theorem ok_binI (h : e.St) {op : BinOp} {k : IntKind} {a b : Int} (hop : isSh op = false)
    (hf : ∀ cv, (∀ t, (binOp op t (.int k a) (.int k b)).run e.P e.w = .ok cv e.w) → (execOp e.a.eval e.o).run e.P e.w = .ok (.value cv) e.w) :
    Res e (fun c _ => binI op k a b fun v => c v e.st) := by
  have ite : ∀ {α : Type} (x y : α), (if k ≠ k then x else y) = y := fun x y => by simp
  have bit : ∀ {v : V}, bitop op k a b = some v → ∃ r : BitVec k.bits, v = .it k (wr k r.toNat) ∧ ∀ t, (binOp op t (.int k a) (.int k b)).run e.P e.w = .ok (.int k (k.wrap r.toNat)) e.w := by
    intro v hv
    cases op <;> simp only [bitop, reduceCtorEq, Option.some.injEq] at hv
    · subst hv
      refine ⟨BitVec.ofInt k.bits a &&& BitVec.ofInt k.bits b, ?_, fun t => by simp [binOp, Op.intBits]⟩
      rw [kbits_eq, toU_eq, toU_eq, BitVec.toNat_and]; rfl
    · subst hv
      refine ⟨BitVec.ofInt k.bits a ||| BitVec.ofInt k.bits b, ?_, fun t => by simp [binOp, Op.intBits]⟩
      rw [kbits_eq, toU_eq, toU_eq, BitVec.toNat_or]; rfl
    · subst hv
      refine ⟨BitVec.ofInt k.bits a ^^^ BitVec.ofInt k.bits b, ?_, fun t => by simp [binOp, Op.intBits]⟩
      rw [kbits_eq, toU_eq, toU_eq, BitVec.toNat_xor]; rfl
    · subst hv
      refine ⟨BitVec.ofInt k.bits a &&& ~~~ BitVec.ofInt k.bits b, ?_, fun t => by simp [binOp, Op.intBits]⟩
      rw [kbits_eq, toU_eq, toU_eq, BitVec.toNat_and, ← BitVec.xor_allOnes, BitVec.toNat_xor, BitVec.toNat_allOnes]; rfl
  cases op <;> simp only [isSh, Bool.true_eq_false] at hop
  case add => exact Res.val h (hf _ fun t => by simp [binOp, Op.intArith]) (wr_rep k _) rfl
  case sub => exact Res.val h (hf _ fun t => by simp [binOp, Op.intArith]) (wr_rep k _) rfl
  case mul => exact Res.val h (hf _ fun t => by simp [binOp, Op.intArith]) (wr_rep k _) rfl
  case quo =>
    refine .chk fun hb => ?_
    have hb : b ≠ 0 := by rw [ieq_eq] at hb; simpa using hb
    exact Res.val h (hf _ fun t => by simp [binOp, Op.intDiv, hb]) (wr_rep k _) rfl
  case rem =>
    refine .chk fun hb => ?_
    have hb : b ≠ 0 := by rw [ieq_eq] at hb; simpa using hb
    exact Res.val h (cv := .int k (a.tmod b)) (hf _ fun t => by simp [binOp, Op.intDiv, hb]) (.c _ _ (.it _ _)) rfl
  case eql => exact Res.val h (cv := .bool (a == b)) (hf _ fun t => by simp [binOp, Op.intCmp]) (by rw [← ieq_eq]; exact .c _ _ (.bo _)) rfl
  case neq => exact Res.val h (cv := .bool (a != b)) (hf _ fun t => by simp [binOp, Op.intCmp]) (by rw [ieq_eq]; exact .c _ _ (.bo _)) rfl
  case lss => exact Res.val h (cv := .bool (a < b)) (hf _ fun t => by simp [binOp, Op.intCmp]) (by rw [ilt_eq]; exact .c _ _ (.bo _)) rfl
  case leq => exact Res.val h (cv := .bool (a ≤ b)) (hf _ fun t => by simp [binOp, Op.intCmp]) (by rw [show decide (a ≤ b) = !(ilt b a) by rw [ilt_eq]; by_cases q : a ≤ b <;> simp [q] <;> omega]; exact .c _ _ (.bo _)) rfl
  case gtr => exact Res.val h (cv := .bool (a > b)) (hf _ fun t => by simp [binOp, Op.intCmp]) (by rw [ilt_eq]; exact .c _ _ (.bo _)) rfl
  case geq => exact Res.val h (cv := .bool (a ≥ b)) (hf _ fun t => by simp [binOp, Op.intCmp]) (by rw [show decide (a ≥ b) = !(ilt a b) by rw [ilt_eq]; by_cases q : b ≤ a <;> simp [q] <;> omega]; exact .c _ _ (.bo _)) rfl
  case and =>
    refine Res.eq (F' := fun c _ => Ev.oneD (bitop .and k a b) fun v => c v e.st) (fun _ _ => rfl) ?_
    refine Res.oneD (f := fun v c _ => c v e.st) fun v hv => ?_
    obtain ⟨r, rfl, hr⟩ := bit hv
    exact Res.val h (hf _ hr) (wr_rep k _) rfl
  case or =>
    refine Res.eq (F' := fun c _ => Ev.oneD (bitop .or k a b) fun v => c v e.st) (fun _ _ => rfl) ?_
    refine Res.oneD (f := fun v c _ => c v e.st) fun v hv => ?_
    obtain ⟨r, rfl, hr⟩ := bit hv
    exact Res.val h (hf _ hr) (wr_rep k _) rfl
  case xor =>
    refine Res.eq (F' := fun c _ => Ev.oneD (bitop .xor k a b) fun v => c v e.st) (fun _ _ => rfl) ?_
    refine Res.oneD (f := fun v c _ => c v e.st) fun v hv => ?_
    obtain ⟨r, rfl, hr⟩ := bit hv
    exact Res.val h (hf _ hr) (wr_rep k _) rfl
  case andNot =>
    refine Res.eq (F' := fun c _ => Ev.oneD (bitop .andNot k a b) fun v => c v e.st) (fun _ _ => rfl) ?_
    refine Res.oneD (f := fun v c _ => c v e.st) fun v hv => ?_
    obtain ⟨r, rfl, hr⟩ := bit hv
    exact Res.val h (hf _ hr) (wr_rep k _) rfl

theorem ok_shift (h : e.St) {op : BinOp} {k k' : IntKind} {a b : Int} (hop : isSh op = true)
    (hf : ∀ cv, (∀ t, (binOp op t (.int k a) (.int k' b)).run e.P e.w = .ok cv e.w) → (execOp e.a.eval e.o).run e.P e.w = .ok (.value cv) e.w) :
    Res e (fun c _ => shiftD op k a b fun v => c v e.st) := by
  have hb0 : (!(ilt b 0)) = true → ¬ b < 0 := fun q => by rw [ilt_eq] at q; simpa using q
  have hm : Nat.min b.toNat (kbits k) = min b.toNat k.bits := by rw [kbits_eq]
  cases op <;> simp only [isSh, Bool.false_eq_true] at hop
  · refine .chk fun hb => ?_
    have hb := hb0 hb
    refine Res.val h (cv := .int k (k.wrap (a * 2 ^ min b.toNat k.bits))) (hf _ fun t => by simp [binOp, Op.shift, hb]) ?_ rfl
    rw [hm]
    have : a * Int.ofNat (2 ^ min b.toNat k.bits) = a * 2 ^ min b.toNat k.bits := by congr 1
    rw [this]; exact wr_rep k _
  · refine .chk fun hb => ?_
    have hb := hb0 hb
    refine Res.val h (cv := .int k (a.fdiv (2 ^ min b.toNat k.bits))) (hf _ fun t => by simp [binOp, Op.shift, hb]) ?_ rfl
    rw [hm]
    have : Int.ofNat (2 ^ min b.toNat k.bits) = 2 ^ min b.toNat k.bits := by simp
    rw [this]; exact .c _ _ (.it _ _)

theorem ok_binS (h : e.St) {op : BinOp} {a b : ByteArray} {la lb : List Nat} (ha : a.data.toList.map UInt8.toNat = la) (hb : b.data.toList.map UInt8.toNat = lb)
    (hf : ∀ cv, (∀ t, (binOp op t (.string a) (.string b)).run e.P e.w = .ok cv e.w) → (execOp e.a.eval e.o).run e.P e.w = .ok (.value cv) e.w) :
    Res e (fun c _ => binS op la lb fun v => c v e.st) := by
  have he : (a.toList == b.toList) = beqL la lb := by rw [← ha, ← hb, beqL_bytes, ByteArray.toList_eq, ByteArray.toList_eq]
  have hl : Op.bytesLess a.toList b.toList = strLt la lb := by rw [← ha, ← hb, strLt_bytes, ByteArray.toList_eq, ByteArray.toList_eq]
  have hsa : a.size = la.length := by rw [← ha, List.length_map, Array.length_toList]; rfl
  have hsb : b.size = lb.length := by rw [← hb, List.length_map, Array.length_toList]; rfl
  cases op
  case add =>
    refine .chk fun hc => ?_
    have hc := Nat.le_of_ble_eq_true hc
    refine Res.val h (cv := .string (a ++ b)) (hf _ fun t => ?_) (.c _ _ (.st _ _ (by simp [ha, hb]))) rfl
    have : ¬ (((a.size + b.size : Nat) : Int) > IntKind.i64.max) := by
      rw [hsa, hsb]; simp [IntKind.max, IntKind.signed, IntKind.bits]; omega
    simp only [binOp, Op.stringOp, if_neg this, Sem.run_pure]
  case eql => exact Res.val h (cv := .bool (a.toList == b.toList)) (hf _ fun t => by simp [binOp, Op.stringOp]) (by rw [he]; exact .c _ _ (.bo _)) rfl
  case neq => exact Res.val h (cv := .bool (!(a.toList == b.toList))) (hf _ fun t => by simp [binOp, Op.stringOp]) (by rw [he]; exact .c _ _ (.bo _)) rfl
  case lss => exact Res.val h (cv := .bool (Op.bytesLess a.toList b.toList)) (hf _ fun t => by simp [binOp, Op.stringOp]) (by rw [hl]; exact .c _ _ (.bo _)) rfl
  case leq => exact Res.val h (cv := .bool (Op.bytesLess a.toList b.toList || (a.toList == b.toList))) (hf _ fun t => by simp [binOp, Op.stringOp]) (by rw [hl, he]; exact .c _ _ (.bo _)) rfl
  case gtr => exact Res.val h (cv := .bool (!(Op.bytesLess a.toList b.toList || (a.toList == b.toList)))) (hf _ fun t => by simp [binOp, Op.stringOp]) (by rw [hl, he]; exact .c _ _ (.bo _)) rfl
  case geq => exact Res.val h (cv := .bool (!(Op.bytesLess a.toList b.toList))) (hf _ fun t => by simp [binOp, Op.stringOp]) (by rw [hl]; exact .c _ _ (.bo _)) rfl
  all_goals exact .bad fun _ _ => rfl

/-- equal or not, of a pointer, a truth value, a slice -/
theorem eqv_run {P : Program} {w : World} {g : G} {t : TypeId} {q : Qk} {x y : V} {vx vy : Value} {r : Bool} (hq : qkOf P t = some q) (hna : ∀ n, q ≠ .ag n) (hr : eqv q x y = some r) (hx : RepA g x vx) (hy : RepA g y vy) :
    (Op.equal t vx vy).run P w = .ok r w ∧ vx ≠ .nilIface ∧ (∀ a, vx ≠ .agg a) ∧ (∀ op, isEq op = true → ∃ cv, (binOp op t vx vy).run P w = .ok cv w ∧ RepA g (eqRes op r) cv) := by
  have key : (Op.equal t vx vy).run P w = .ok r w → vx ≠ .nilIface → (∀ a, vx ≠ .agg a) → (∀ k n, vx ≠ .int k n) → (∀ s, vx ≠ .string s) → (∀ k n, vx ≠ .float k n) → (∀ k a b, vx ≠ .complex k a b) →
      (Op.equal t vx vy).run P w = .ok r w ∧ vx ≠ .nilIface ∧ (∀ a, vx ≠ .agg a) ∧ (∀ op, isEq op = true → ∃ cv, (binOp op t vx vy).run P w = .ok cv w ∧ RepA g (eqRes op r) cv) := by
    intro h1 h2 h3 h4 h5 h6 h7
    refine ⟨h1, h2, h3, fun op hop => ?_⟩
    cases op <;> simp only [isEq, Bool.false_eq_true] at hop
    · refine ⟨.bool r, ?_, .c _ _ (.bo _)⟩
      have : binOp .eql t vx vy = (do pure (.bool (← Op.equal t vx vy))) := by
        unfold binOp
        split <;> first | rfl | (exfalso; first | exact h4 _ _ rfl | exact h5 _ rfl | exact h6 _ _ rfl | exact h7 _ _ _ rfl | simp_all)
      simp [this, h1]
    · refine ⟨.bool (!r), ?_, .c _ _ (.bo _)⟩
      have : binOp .neq t vx vy = (do pure (.bool (!(← Op.equal t vx vy)))) := by
        unfold binOp
        split <;> first | rfl | (exfalso; first | exact h4 _ _ rfl | exact h5 _ rfl | exact h6 _ _ rfl | exact h7 _ _ _ rfl | simp_all)
      simp [this, h1]
  unfold qkOf at hq
  cases hu : P.underlying t with
  | none => simp [hu] at hq
  | some d =>
    have hrun := fun w => run_underlying hu w
    have heq : ∀ (vx vy : Value) (r : Bool), (∀ d, (Op.equalIn (d + 1) t vx vy).run P w = .ok r w) → (Op.equal t vx vy).run P w = .ok r w := fun _ _ _ h => h 9999
    rw [hu] at hq
    cases d <;> simp only [reduceCtorEq, Option.some.injEq] at hq
    case bool =>
      subst hq
      cases x <;> simp only [eqv, reduceCtorEq] at hr
      cases y <;> try simp only [reduceCtorEq, Option.some.injEq] at hr
      have hx := RepA.bo_inv hx; have hy := RepA.bo_inv hy
      subst hx; subst hy; subst hr
      exact key (heq _ _ _ fun d => by simp [Op.equalIn, hrun]) (by simp) (by simp) (by simp) (by simp) (by simp) (by simp)
    case int => subst hq; simp [eqv] at hr
    case string => subst hq; simp [eqv] at hr
    case struct fs =>
      cases hk : flatS P fs.toList with
      | none => simp [hk] at hq
      | some ks =>
        simp only [hk] at hq
        split at hq
        · cases hq
        · simp only [Option.some.injEq] at hq; exact absurd hq.symm (hna _)
    case slice el =>
      subst hq
      cases x <;> simp only [eqv, reduceCtorEq] at hr
      · cases y <;> try simp only [reduceCtorEq, Option.some.injEq] at hr
        · have hx := RepA.ns_inv hx; have hy := RepA.ns_inv hy
          subst hx; subst hy; subst hr
          exact key (heq _ _ _ fun d => by simp [Op.equalIn, hrun]) (by simp) (by simp) (by simp) (by simp) (by simp) (by simp)
        · rename_i sz es
          cases es with
          | nil => cases hr
          | cons e es =>
            have hr := Option.some.inj hr
            have hx := RepA.ns_inv hx
            obtain ⟨a, cap, b, o, f, hy, _, h2, _⟩ := RepA.vs_inv hy
            have := h2 (by simp)
            subst this; subst hx; subst hy; subst hr
            exact key (heq _ _ _ fun d => by simp [Op.equalIn, hrun]) (by simp) (by simp) (by simp) (by simp) (by simp) (by simp)
      · rename_i sz es
        cases y <;> try simp only [reduceCtorEq] at hr
        cases es with
        | nil => cases hr
        | cons e es =>
          have hr := Option.some.inj hr
          have hy := RepA.ns_inv hy
          obtain ⟨a, cap, b, o, f, hx, _, h2, _⟩ := RepA.vs_inv hx
          have := h2 (by simp)
          subst this; subst hx; subst hy; subst hr
          exact key (heq _ _ _ fun d => by simp [Op.equalIn, hrun]) (by simp) (by simp) (by simp) (by simp) (by simp) (by simp)
    case pointer el =>
      have hq : q = .ptr := by
        cases hi : P.info? el with
        | none => simp [hi] at hq
        | some i =>
          simp only [hi] at hq
          split at hq
          · cases hq
          · simpa using hq.symm
      subst hq
      cases x <;> simp only [eqv, reduceCtorEq] at hr
      · cases y <;> try simp only [reduceCtorEq, Option.some.injEq] at hr
        · have hx := RepA.np_inv hx; have hy := RepA.np_inv hy
          subst hx; subst hy; subst hr
          exact key (heq _ _ _ fun d => by simp [Op.equalIn, hrun]) (by simp) (by simp) (by simp) (by simp) (by simp) (by simp)
        · have hx := RepA.np_inv hx
          obtain ⟨a, hy, _⟩ := RepA.pt_inv hy
          subst hx; subst hy; subst hr
          exact key (heq _ _ _ fun d => by simp [Op.equalIn, hrun]) (by simp) (by simp) (by simp) (by simp) (by simp) (by simp)
      · cases y <;> try simp only [reduceCtorEq, Option.some.injEq] at hr
        have hy := RepA.np_inv hy
        obtain ⟨a, hx, _⟩ := RepA.pt_inv hx
        subst hx; subst hy; subst hr
        exact key (heq _ _ _ fun d => by simp [Op.equalIn, hrun]) (by simp) (by simp) (by simp) (by simp) (by simp) (by simp)

theorem part_one {P : Program} {w : World} {t : TypeId} {d : TypeDesc} (hu : P.underlying t = some d) (hd : (∃ k, d = .int k) ∨ d = .string ∨ d = .bool) {xs : Array Value} {n : Nat} {v : Value} (hx : xs[n]? = some v) : (part t xs n).run P w = .ok v w := by
  rcases hd with ⟨k, rfl⟩ | rfl | rfl <;> simp [part, Go.isAgg, run_underlying hu, hx]

theorem eqFields_ok {P : Program} {w : World} {g : G} (d : Nat) {ax ay : Array Value} : ∀ (fs : List Field) (n : Nat) (ks : List Nat) (xs ys : List V) (r : Bool), flatS P fs = some ks → inRow n fs = true → ax.size = n + xs.length → ay.size = n + ys.length →
    (∀ (i : Nat) (c : V), xs[i]? = some c → RepA g c (ax.getD (n + i) undef)) → (∀ (i : Nat) (c : V), ys[i]? = some c → RepA g c (ay.getD (n + i) undef)) → eqAll ks xs ys = some r → (Op.eqFields (d + 1) ax ay fs).run P w = .ok r w := by
  intro fs
  induction fs with
  | nil =>
    intro n ks xs ys r hf _ _ _ _ _ he
    simp only [flatS, Option.some.injEq] at hf; subst hf
    cases xs with
    | nil => cases ys with
      | nil => simp only [eqAll, Option.some.injEq] at he; subst he; simp [Op.eqFields]
      | cons => simp [eqAll] at he
    | cons => simp [eqAll] at he
  | cons f fs ih =>
    intro n ks xs ys r hf hi h1 h2 hx hy he
    simp only [flatS] at hf
    cases hu : P.underlying f.type with
    | none => simp [hu] at hf
    | some dd =>
      cases hk : flatS P fs with
      | none => simp [hu, hk] at hf
      | some ks' =>
        simp only [hu, hk] at hf
        by_cases f3 : f.name = "_"
        · simp [f3] at hf
        · simp only [f3, if_false] at hf
          simp only [inRow, Bool.and_eq_true] at hi
          have ho : f.offset = n := Nat.eq_of_beq_eq_true hi.1
          have hne : ∃ x xs' y ys', xs = x :: xs' ∧ ys = y :: ys' := by
            cases dd <;> simp only [Option.some.injEq, reduceCtorEq] at hf <;> subst hf <;> (cases xs with
              | nil => simp [eqAll] at he
              | cons x xs => cases ys with
                | nil => cases x <;> simp [eqAll] at he
                | cons y ys => exact ⟨x, xs, y, ys, rfl, rfl⟩)
          obtain ⟨x, xs', y, ys', rfl, rfl⟩ := hne
          have gx : ax[n]? = some (ax.getD n undef) := by
            have : n < ax.size := by simp at h1; omega
            simp [Array.getD_eq_getD_getElem?, Array.getElem?_eq_getElem this]
          have gy : ay[n]? = some (ay.getD n undef) := by
            have : n < ay.size := by simp at h2; omega
            simp [Array.getD_eq_getD_getElem?, Array.getElem?_eq_getElem this]
          have rx := hx 0 x rfl
          have ry := hy 0 y rfl
          rw [Nat.add_zero] at rx ry
          have rest : ∀ r', eqAll ks' xs' ys' = some r' → (Op.eqFields (d + 1) ax ay fs).run P w = .ok r' w := fun r' hr' =>
            ih (n + 1) ks' xs' ys' r' hk hi.2 (by simp at h1; omega) (by simp at h2; omega) (fun i c hc => by have := hx (i + 1) c hc; rw [show n + 1 + i = n + (i + 1) by omega]; exact this)
              (fun i c hc => by have := hy (i + 1) c hc; rw [show n + 1 + i = n + (i + 1) by omega]; exact this) hr'
          have fin : ∀ (b r' : Bool), ((∃ k, dd = .int k) ∨ dd = .string ∨ dd = .bool) → (Op.equalIn (d + 1) f.type (ax.getD n undef) (ay.getD n undef)).run P w = .ok b w → eqAll ks' xs' ys' = some r' → (Op.eqFields (d + 1) ax ay (f :: fs)).run P w = .ok (b && r') w := by
            intro b r' hd hb hr'
            simp only [Op.eqFields, ne_eq, f3, not_false_eq_true, if_true, Sem.run_bind, ho, part_one hu hd gx, part_one hu hd gy, Result.andThen_ok, hb]
            cases b with
            | true => simp [rest r' hr']
            | false => simp
          cases dd <;> simp only [Option.some.injEq, reduceCtorEq] at hf <;> subst hf
          case bool =>
            cases x <;> try (simp [eqAll] at he; done)
            cases y <;> try (simp [eqAll] at he; done)
            simp only [eqAll] at he
            cases hr' : eqAll ks' xs' ys' with
            | none => simp [hr'] at he
            | some r' =>
              simp only [hr', Option.some.injEq] at he; subst he
              refine fin _ r' (.inr (.inr rfl)) ?_ hr'
              rw [RepA.bo_inv rx, RepA.bo_inv ry]
              simp [Op.equalIn, run_underlying hu]
          case int kk =>
            cases x <;> try (simp [eqAll] at he; done)
            cases y <;> try (simp [eqAll] at he; done)
            simp only [eqAll] at he
            rename_i k1 a1 k2 a2
            cases hkq : keq k1 k2 with
            | false => simp [hkq] at he
            | true =>
              simp only [hkq, cond_true] at he
              cases hr' : eqAll ks' xs' ys' with
              | none => simp [hr'] at he
              | some r' =>
                simp only [hr', Option.some.injEq] at he; subst he
                refine fin _ r' (.inl ⟨_, rfl⟩) ?_ hr'
                have hkk := keq_eq hkq; subst hkk
                rw [RepA.it_inv rx, RepA.it_inv ry, ieq_eq]
                simp [Op.equalIn, run_underlying hu]
          case string =>
            cases x <;> try (simp [eqAll] at he; done)
            cases y <;> try (simp [eqAll] at he; done)
            simp only [eqAll] at he
            cases hr' : eqAll ks' xs' ys' with
            | none => simp [hr'] at he
            | some r' =>
              simp only [hr', Option.some.injEq] at he; subst he
              refine fin _ r' (.inr (.inl rfl)) ?_ hr'
              obtain ⟨sa, ea, ha⟩ := RepA.st_inv rx
              obtain ⟨sb, eb, hb⟩ := RepA.st_inv ry
              rw [ea, eb, ← ha, ← hb, beqL_bytes]
              rw [run_equalIn_string w d f.type sa sb hu]
              simp [ByteArray.toList_eq]

theorem eqv_ag {P : Program} {w : World} {g : G} {t : TypeId} {ks : List Nat} {x y : V} {vx vy : Value} {r : Bool} (hq : qkOf P t = some (.ag ks)) (hr : eqv (.ag ks) x y = some r) (hx : RepA g x vx) (hy : RepA g y vy) {op : BinOp} (hop : isEq op = true) {xo yo : Operand} :
    ∃ cv, (do eqGuard op t xo yo vx vy; binOp op t vx vy : Sem Value).run P w = .ok cv w ∧ RepA g (eqRes op r) cv := by
  unfold qkOf at hq
  cases hu : P.underlying t with
  | none => simp [hu] at hq
  | some d =>
    rw [hu] at hq
    cases d <;> simp only [reduceCtorEq, Option.some.injEq] at hq
    case pointer el =>
      cases hi : P.info? el with
      | none => simp [hi] at hq
      | some i => simp only [hi] at hq; split at hq <;> simp at hq
    case struct fs =>
      cases hk : flatS P fs.toList with
      | none => simp [hk] at hq
      | some ks' =>
        simp only [hk] at hq
        split at hq
        · cases hq
        · rename_i hc
          simp only [Option.some.injEq, Qk.ag.injEq] at hq; subst hq
          simp only [Bool.or_eq_true, not_or, Bool.not_eq_true, Bool.not_eq_true', Bool.not_eq_false] at hc
          obtain ⟨⟨c1, c2⟩, c3⟩ := hc
          cases x <;> simp only [eqv, reduceCtorEq] at hr
          cases y <;> try simp only [reduceCtorEq] at hr
          obtain ⟨ax, rfl, n1, _, q1⟩ := RepA.ag_inv hx
          obtain ⟨ay, rfl, n2, _, q2⟩ := RepA.ag_inv hy
          have hfo : P.fieldsOf t = fs := by simp [Program.fieldsOf, hu]
          have hrun : (Op.equalIn 10000 t (.agg ax) (.agg ay)).run P w = .ok r w := by
            rw [run_equalIn_struct w 9999 t ax ay (by rw [hfo]; exact hu) c1, hfo]
            exact eqFields_ok 9998 fs.toList 0 ks' _ _ r hk c3 (by simpa using n1) (by simpa using n2) (fun i c hc => by rw [Nat.zero_add]; exact q1 i c hc) (fun i c hc => by rw [Nat.zero_add]; exact q2 i c hc) hr
          have hguard := run_eqGuard_agg (P := P) w op t xo yo ax ay c2
          cases op <;> simp only [isEq, Bool.false_eq_true] at hop
          · exact ⟨.bool r, by simp only [Sem.run_bind, hguard, Result.andThen_ok]; rw [run_eql_struct]; simp [hrun], .c _ _ (.bo _)⟩
          · exact ⟨.bool (!r), by simp only [Sem.run_bind, hguard, Result.andThen_ok]; rw [run_neq_struct]; simp [hrun], .c _ _ (.bo _)⟩

theorem ok_bin (h : e.St) {q : Qk} {op : BinOp} {t : TypeId} {x y : Operand} {b : TypeId} {xa ya : A} (hq : isEq op = true → qkOf e.P t = some q) (hx : cA x = some xa) (hy : cA y = some ya) (ho : e.o.op = .binOp op t x y b) (us : List Nat) (d : Nat) :
    Res e (iBin q op xa ya us e.clr d e.st) := by
  have hr := h.rep hx
  have hr' := h.rep hy
  have hgen : Res e (fun k _ => bif isEq op then Ev.oneD (eqv q (get e.st.tm xa) (get e.st.tm ya)) fun b => k (eqRes op b) e.st else .bad) := by
    refine .bif (F := fun k _ => Ev.oneD (eqv q (get e.st.tm xa) (get e.st.tm ya)) fun b => k (eqRes op b) e.st) (G := fun _ _ => .bad) (fun hop => ?_) (fun _ => .bad fun _ _ => rfl)
    refine Res.oneD (f := fun b k _ => k (eqRes op b) e.st) fun r hv => ?_
    by_cases hag : ∃ ks, q = .ag ks
    · obtain ⟨ks, rfl⟩ := hag
      have nl : isLp (get e.st.tm xa) = false ∧ isLp (get e.st.tm ya) = false := by
        simp only [eqv] at hv
        cases hxx : get e.st.tm xa <;> simp only [hxx, reduceCtorEq] at hv <;> cases hyy : get e.st.tm ya <;> simp only [hyy, reduceCtorEq] at hv <;> exact ⟨rfl, rfl⟩
      obtain ⟨cv, h4, h5⟩ := eqv_ag (P := e.P) (w := e.w) (g := e.g) (hq hop) hv (hr.toA nl.1) (hr'.toA nl.2) hop (xo := x) (yo := y)
      refine Res.val h (cv := cv) ?_ h5 (by cases op <;> rfl)
      simp only [execOp, ho]
      simp only [Sem.run_bind] at h4 ⊢
      rw [h4]; rfl
    have hna : ∀ n, q ≠ .ag n := fun n e => hag ⟨n, e⟩
    have nl : isLp (get e.st.tm xa) = false ∧ isLp (get e.st.tm ya) = false := by
      cases q <;> simp only [eqv, reduceCtorEq] at hv <;> (cases hxx : get e.st.tm xa <;> simp only [hxx, reduceCtorEq] at hv <;> cases hyy : get e.st.tm ya <;> simp only [hyy, reduceCtorEq] at hv <;> exact ⟨rfl, rfl⟩)
    obtain ⟨_, h1, h2, h3⟩ := eqv_run (P := e.P) (w := e.w) (g := e.g) (hq hop) hna hv (hr.toA nl.1) (hr'.toA nl.2)
    obtain ⟨cv, h4, h5⟩ := h3 op hop
    exact Res.val h (bin_run ho rfl rfl h1 h2 h4) h5 (by cases op <;> rfl)
  cases hg : get e.st.tm xa with
  | it k a =>
    cases hg' : get e.st.tm ya with
    | it k' b =>
      rw [hg] at hr; rw [hg'] at hr'
      have h1 := RepA.it_inv hr; have h2 := RepA.it_inv hr'
      refine .eq (F' := fun c _ => bif isSh op then shiftD op k a b (fun v => c v e.st) else bif keq k k' then binI op k a b (fun v => c v e.st) else .bad) (fun k kp => by simp only [iBin, hg, hg', binD]) ?_
      refine .bif (F := fun c _ => shiftD op k a b (fun v => c v e.st)) (G := fun c _ => bif keq k k' then binI op k a b (fun v => c v e.st) else .bad) (fun hs => ?_) (fun hs => ?_)
      · exact ok_shift h hs fun cv hc => bin_run ho h1 h2 (by simp) (by simp) (hc t)
      · refine .bif (F := fun c _ => binI op k a b (fun v => c v e.st)) (G := fun _ _ => .bad) (fun hk => ?_) (fun _ => .bad fun _ _ => rfl)
        have hk := keq_eq hk
        subst hk
        exact ok_binI h hs fun cv hc => bin_run ho h1 h2 (by simp) (by simp) (hc t)
    | _ => exact .bad fun _ _ => by simp only [iBin, hg, hg', binD]
  | st la =>
    cases hg' : get e.st.tm ya with
    | st lb =>
      rw [hg] at hr; rw [hg'] at hr'
      obtain ⟨sa, h1, ha⟩ := RepA.st_inv hr; obtain ⟨sb, h2, hb⟩ := RepA.st_inv hr'
      refine .eq (F' := fun c _ => binS op la lb (fun v => c v e.st)) (fun k kp => by simp only [iBin, hg, hg', binD]) ?_
      exact ok_binS h ha hb fun cv hc => bin_run ho h1 h2 (by simp) (by simp) (hc t)
    | _ => exact .bad fun _ _ => by simp only [iBin, hg, hg', binD]
  | _ =>
    rw [hg] at hgen
    refine .eq (fun k kp => ?_) hgen
    simp only [iBin, hg, binD]

end
end Ev
