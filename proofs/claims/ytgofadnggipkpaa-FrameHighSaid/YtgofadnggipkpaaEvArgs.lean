import Derived.Test.YtgofadnggipkpaaEvSpec
import Derived.ChangeArms
import Derived.OpenShut
namespace Ev
open Go Go.ChangeShapes Go.WideShapes Go.ChangeAt Go.RowKit

/-- what stands in a cell of an argument -/
inductive TD where
  | bo
  | it (k : IntKind)
  | fl (k : FloatKind)
  | st
  | sl (ts : List TD)
  deriving Inhabited

def tdFields (P : Program) (r : TypeId → Option (List TD)) : Nat → List Field → Option (Nat × List TD)
  | off, [] => some (off, [])
  | off, f :: fs =>
    if f.offset = off then
      match r f.type with
      | some ts => if ts.length = P.cellsOf f.type then (tdFields P r (off + P.cellsOf f.type) fs).map fun x => (x.1, ts ++ x.2) else none
      | none => none
    else none

def tdOf (P : Program) : Nat → TypeId → Option (List TD)
  | 0, _ => none
  | n + 1, t => match P.underlying t with
    | some .bool => some [.bo]
    | some (.int k) => some [.it k]
    | some (.float k) => some [.fl k]
    | some .string => some [.st]
    | some (.slice e) => match tdOf P n e with
      | some ts => if ts.length = P.cellsOf e ∧ 0 < ts.length then some [.sl ts] else none
      | none => none
    | some (.struct fs) => match tdFields P (tdOf P n) 0 fs.toList with
      | some (m, ts) => if m = P.cellsOf t then some ts else none
      | none => none
    | _ => none

mutual
inductive Sh1 : TD → V → Prop
  | bo (b : Bool) : Sh1 .bo (.bo b)
  | it (k : IntKind) (n : Int) (h : (Lit.int k n).wf = true) : Sh1 (.it k) (.it k n)
  | fl (k : FloatKind) (b : Nat) : Sh1 (.fl k) (.fl k b)
  | st (l : List UInt8) : Sh1 .st (.st (l.map UInt8.toNat))
  | sl (ts : List TD) (n : Nat) (hn : ts.length = n) (es : List (List V)) (h : ShE ts es) : Sh1 (.sl ts) (.vs n es)
inductive ShL : List TD → List V → Prop
  | nil : ShL [] []
  | cons {t : TD} {v : V} {ts : List TD} {vs : List V} (h : Sh1 t v) (r : ShL ts vs) : ShL (t :: ts) (v :: vs)
inductive ShE : List TD → List (List V) → Prop
  | nil (ts : List TD) : ShE ts []
  | cons {ts : List TD} {e : List V} {es : List (List V)} (h : ShL ts e) (r : ShE ts es) : ShE ts (e :: es)
end

mutual
def siz : V → Nat
  | .st l => l.length + 1
  | .vs _ es => sizE es + 1
  | _ => 1
def sizL : List V → Nat
  | [] => 0
  | v :: r => siz v + sizL r
def sizE : List (List V) → Nat
  | [] => 0
  | e :: r => sizL e + sizE r
end

theorem sizL_append (a b : List V) : sizL (a ++ b) = sizL a + sizL b := by
  induction a with
  | nil => simp [sizL]
  | cons x a ih => simp only [List.cons_append, sizL, ih]; omega

theorem ShL.length {ts : List TD} {vs : List V} (h : ShL ts vs) : vs.length = ts.length := by
  induction vs generalizing ts with
  | nil => cases h; rfl
  | cons v vs ih => cases h with | cons a r => simp [ih r]

theorem ShL.append {ts us : List TD} {vs ws : List V} (h : ShL ts vs) (h' : ShL us ws) : ShL (ts ++ us) (vs ++ ws) := by
  induction vs generalizing ts with
  | nil => cases h; exact h'
  | cons v vs ih => cases h with | cons a r => exact .cons a (ih r)

theorem Sh1.keep {t : TD} {v : V} (h : Sh1 t v) : v.keep = true ∧ isLp v = false := by cases h <;> exact ⟨rfl, rfl⟩

theorem ShL.mem {ts : List TD} {vs : List V} (h : ShL ts vs) {v : V} (hv : v ∈ vs) : ∃ t, Sh1 t v := by
  induction vs generalizing ts with
  | nil => cases hv
  | cons x vs ih =>
    cases h with
    | cons a r =>
      rcases List.mem_cons.1 hv with e | e
      · subst e; exact ⟨_, a⟩
      · exact ih r e

/-- values side by side with what stands for them -/
inductive RepL (κ : K) : List V → List Value → Prop
  | nil : RepL κ [] []
  | cons {v : V} {c : Value} {vs : List V} {cs : List Value} (h : RepC κ v c) (r : RepL κ vs cs) : RepL κ (v :: vs) (c :: cs)

theorem RepC.keep' {κ : K} {v : V} {c : Value} (h : RepC κ v c) : v.keep = true := by cases h <;> rfl
theorem RepL.append {κ : K} {a b : List V} {x y : List Value} (h : RepL κ a x) (h' : RepL κ b y) : RepL κ (a ++ b) (x ++ y) := by
  induction h with
  | nil => exact h'
  | cons h r ih => exact .cons h ih
theorem RepL.length {κ : K} {a : List V} {x : List Value} (h : RepL κ a x) : a.length = x.length := by
  induction h with
  | nil => rfl
  | cons h r ih => simp [ih]
theorem RepL.get {κ : K} {a : List V} {x : List Value} (h : RepL κ a x) : ∀ (i : Nat) (v : V), a[i]? = some v → RepC κ v (x.getD i undef) := by
  induction h with
  | nil => intro i v h; simp at h
  | cons h r ih =>
    intro i v e
    cases i with
    | zero => simp at e; subst e; simpa using h
    | succ i => simpa using ih i v (by simpa using e)

/-- how much an argument holds -/
structure Bulk {H : Type} (u : DataW H → Nat) (ul : List (DataW H) → Nat) : Prop where
  nil : ul [] = 0
  cons : ∀ d r, ul (d :: r) = u d + ul r
  str : ∀ b, u (.lit (.string b)) = b.length + 1
  one : ∀ d, 1 ≤ u d
  sl : ∀ a b, u (.slice a b) = ul a + ul b + 1
  ag : ∀ a, u (.agg a) = ul a + 1

section
variable {H : Type} {enc : TypeId × Value → H} {P : Program} {w : World} {u : DataW H → Nat} {ul : List (DataW H) → Nat}

theorem cells_get {base n : Nat} {a : Addr} {cs : List Value} (h : w.cells? base a n = some cs) : cs.length = n ∧ ∀ i, i < n → w.cell? (a.add i) = some (cs.getD i undef) := by
  unfold World.cells? at h
  split at h
  · refine ⟨by simpa using mapM_some_length h, fun i hi => ?_⟩
    have := mapM_some_get h i i (by simp [hi])
    rw [this]
    have hl : cs.length = n := by simpa using mapM_some_length h
    have : i < cs.length := by omega
    simp [List.getD, this]
  · cases h

/-- rows of cells at a slice's place -/
theorem rows_read (hB : Bulk u ul) {base n sz : Nat} {a : Addr} {ts : List TD} {tr : List Value → Option (DataW H × List MemPlace)}
    (ih : ∀ cs d ps, tr cs = some (d, ps) → ∃ vs, RepL (kAll w) vs cs ∧ ShL ts vs ∧ sizL vs ≤ u d) :
    ∀ (elems : List (DataW H × List MemPlace)) (k : Nat), (∀ i, i < elems.length → (w.cells? base (a.add ((k + i) * sz)) sz).bind tr = elems[i]?) →
      ∃ (es : List (List V)) (f : Nat → List Value), es.length = elems.length ∧ ShE ts es ∧ sizE es ≤ ul (elems.map (·.1)) ∧
        ∀ i e, es[i]? = some e → w.cells? base (a.add ((k + i) * sz)) sz = some (f i) ∧ RepL (kAll w) e (f i)
  | [], k, _ => ⟨[], fun _ => [], rfl, .nil _, by simp [sizE], by simp⟩
  | x :: r, k, h => by
    obtain ⟨es, f, h1, h2, h3, h4⟩ := rows_read hB (base := base) (n := n) (a := a) ih r (k + 1) (fun i hi => by
      have := h (i + 1) (by simp; omega)
      rw [show k + 1 + i = k + (i + 1) by omega]; simpa using this)
    have h0 := h 0 (by simp)
    simp only [Nat.add_zero, List.getElem?_cons_zero] at h0
    cases hc : w.cells? base (a.add (k * sz)) sz with
    | none => rw [hc] at h0; simp at h0
    | some cs =>
      rw [hc] at h0
      simp only [Option.bind_some] at h0
      obtain ⟨vs, q1, q2, q3⟩ := ih cs x.1 x.2 h0
      refine ⟨vs :: es, fun i => match i with | 0 => cs | i + 1 => f i, by simp [h1], .cons q2 h2, ?_, fun i e he => ?_⟩
      · simp only [sizE, List.map_cons, hB.cons]; omega
      · cases i with
        | zero => simp at he; subst he; exact ⟨by simpa using hc, q1⟩
        | succ i =>
          have := h4 i e (by simpa using he)
          rw [show k + 1 + i = k + (i + 1) by omega] at this
          exact this

theorem fields_read {m : Nat} (hB : Bulk u ul) {base : Nat} {sp : Nat → Bool} {hd : Bool} {n : Nat}
    (ih : ∀ t cs d ps ts, tdOf P m t = some ts → DataW.trod enc P w base sp hd n t cs = some (d, ps) → ∃ vs, RepL (kAll w) vs cs ∧ ShL ts vs ∧ sizL vs ≤ u d) (cs : List Value) :
    ∀ (fs : List Field) (off e : Nat) (ts : List TD) (xs : List (DataW H × List MemPlace)), tdFields P (tdOf P m) off fs = some (e, ts) → xs.length = fs.length → e ≤ cs.length →
      (∀ (i : Nat) (f : Field), fs[i]? = some f → DataW.trod enc P w base sp hd n f.type ((cs.drop f.offset).take (P.cellsOf f.type)) = xs[i]?) →
      off ≤ e ∧ ∃ vs, RepL (kAll w) vs ((cs.drop off).take (e - off)) ∧ ShL ts vs ∧ sizL vs ≤ ul (xs.map (·.1))
  | [], off, e, ts, xs, h, hl, he, hx => by
    simp only [tdFields, Option.some.injEq, Prod.mk.injEq] at h
    obtain ⟨rfl, rfl⟩ := h
    exact ⟨Nat.le_refl _, [], by simp; exact .nil, .nil, by simp [sizL]⟩
  | f :: fs, off, e, ts, [], h, hl, he, hx => by simp at hl
  | f :: fs, off, e, ts, x :: xs, h, hl, he, hx => by
    simp only [tdFields] at h
    split at h
    · rename_i ho
      split at h
      · rename_i us hus
        split at h
        · rename_i hlen
          simp only [Option.map_eq_some_iff] at h
          obtain ⟨⟨e', ts'⟩, h1, h2⟩ := h
          simp only [Prod.mk.injEq] at h2
          obtain ⟨rfl, rfl⟩ := h2
          obtain ⟨q0, vs', q1, q2, q3⟩ := fields_read hB ih cs fs _ _ _ xs h1 (by simpa using hl) he (fun i g hg => by have := hx (i + 1) g (by simpa using hg); simpa using this)
          have h0 := hx 0 f (by simp)
          simp only [List.getElem?_cons_zero] at h0
          obtain ⟨vs, p1, p2, p3⟩ := ih _ _ x.1 x.2 us hus h0
          refine ⟨by omega, vs ++ vs', ?_, p2.append q2, ?_⟩
          · have := p1.append q1
            rw [ho] at this
            have e1 : ((cs.drop off).take (P.cellsOf f.type)) ++ ((cs.drop (off + P.cellsOf f.type)).take (e' - (off + P.cellsOf f.type))) = (cs.drop off).take (e' - off) := by
              have := List.take_append_drop (P.cellsOf f.type) ((cs.drop off).take (e' - off))
              rw [List.take_take, List.drop_take, List.drop_drop, Nat.min_eq_left (by omega)] at this
              rw [show e' - (off + P.cellsOf f.type) = e' - off - P.cellsOf f.type by omega]
              exact this
            rw [e1] at this
            exact this
          · rw [sizL_append]; simp only [List.map_cons, hB.cons]; omega
        · cases h
      · cases h
    · cases h

theorem data_read (hB : Bulk u ul) {base : Nat} {sp : Nat → Bool} {hd : Bool} : ∀ (m n : Nat) (t : TypeId) (cs : List Value) (d : DataW H) (ps : List MemPlace) (ts : List TD),
    tdOf P m t = some ts → DataW.trod enc P w base sp hd n t cs = some (d, ps) → ∃ vs, RepL (kAll w) vs cs ∧ ShL ts vs ∧ sizL vs ≤ u d
  | 0, _, _, _, _, _, _, h, _ => by simp [tdOf] at h
  | m + 1, n, t, cs, d, ps, ts, h, hr => by
    simp only [tdOf] at h
    split at h
    · rename_i ht
      simp only [Option.some.injEq] at h; subst h
      obtain ⟨b, rfl, hx⟩ := DataW.trod_bool ht hr
      exact ⟨[.bo b], .cons (.bo b) .nil, .cons (.bo b) .nil, by have := hB.one d; simpa [sizL, siz] using this⟩
    · rename_i k ht
      simp only [Option.some.injEq] at h; subst h
      obtain ⟨b, rfl, hx, hw⟩ := DataW.trod_int ht hr
      exact ⟨[.it k b], .cons (.it k b) .nil, .cons (.it k b hw) .nil, by have := hB.one d; simpa [sizL, siz] using this⟩
    · rename_i k ht
      simp only [Option.some.injEq] at h; subst h
      cases n with
      | zero => simp [DataW.trod] at hr
      | succ n =>
        unfold DataW.trod at hr
        rw [ht] at hr
        split at hr <;> simp_all
        refine ⟨[.fl _ _], .cons (.fl _ _) .nil, .cons (.fl _ _) .nil, ?_⟩
        have := hB.one d; simpa [sizL, siz] using this
    · rename_i ht
      simp only [Option.some.injEq] at h; subst h
      obtain ⟨s, rfl, hx, hw⟩ := DataW.trod_string ht hr
      simp only [Prod.mk.injEq] at hx
      obtain ⟨rfl, rfl⟩ := hx
      refine ⟨[.st (s.data.toList.map UInt8.toNat)], .cons (.st _ _ rfl) .nil, .cons (.st _) .nil, ?_⟩
      rw [hB.str]; simp [sizL, siz]
    · rename_i e ht
      split at h
      · rename_i us hus
        split at h
        · rename_i hlen
          simp only [Option.some.injEq] at h; subst h
          rcases DataW.trod_slice ht hr with ⟨rfl, hx⟩ | ⟨a, len, cap, elems, rest, n', rfl, rfl, hx, hb, hlc, _, hel, hread, _, _⟩
          · refine ⟨[.vs us.length []], .cons ?_ .nil, .cons (.sl us _ rfl [] (.nil _)) .nil, ?_⟩
            · exact .vs us.length [] none 0 0 0 (fun _ _ => undef) (by simp) (by simp) (by simp) (by simp) (by simp)
            · have := hB.one d; simpa [sizL, siz, sizE] using this
          · simp only [Prod.mk.injEq] at hx
            obtain ⟨rfl, rfl⟩ := hx
            obtain ⟨es, f, h1, h2, h3, h4⟩ := rows_read hB (ts := us) (n := 0) (fun cs d ps hc => data_read hB m n' e cs d ps us hus hc) elems 0 (fun i hi => by rw [Nat.zero_add]; exact hread i (by omega))
            refine ⟨[.vs us.length es], .cons ?_ .nil, .cons (.sl us _ rfl es h2) .nil, ?_⟩
            · obtain ⟨ab, ao, as⟩ := a
              have hrow : ∀ (i : Nat) (x : List V), es[i]? = some x → x.length = us.length := by
                intro i x hx
                have := (h4 i x hx).2.length
                have h5 := (cells_get (h4 i x hx).1).1
                omega
              have hlen2 : es.length = len := by omega
              have spot : ∀ (i : Nat) (x : List V), es[i]? = some x → as = none := by
                intro i x hx
                have h0 : 0 < es.length := by
                  rcases Nat.lt_or_ge i es.length with q | q
                  · omega
                  · simp [List.getElem?_eq_none q] at hx
                have h5 := cells_get (h4 0 es[0] (by simp [h0])).1
                have h6 := h5.2 0 (by omega)
                have := World.cell?_spot h6
                simpa [Addr.add] using this
              rw [← hlen2]
              refine .vs us.length es _ cap ab ao (fun i j => (f i).getD j undef) ?_ ?_ (by omega) ?_ ?_
              · intro x hx
                obtain ⟨i, hi, rfl⟩ := List.mem_iff_getElem.1 hx
                exact hrow i _ (List.getElem?_eq_getElem hi)
              · intro hne
                cases hes : es with
                | nil => exact absurd hes hne
                | cons x r =>
                  rw [spot 0 x (by rw [hes]; rfl)]; rfl
              · intro i j x c hx hc
                have hl := hrow i x hx
                have hj : j < x.length := by
                  rcases Nat.lt_or_ge j x.length with q | q
                  · exact q
                  · simp [List.getElem?_eq_none q] at hc
                have h5 := cells_get (h4 i x hx).1
                have h6 := h5.2 j (by omega)
                have h7 := spot i x hx
                subst h7
                refine ⟨((h4 i x hx).2.get j c hc).keep', ?_⟩
                simp only [kAll]
                have e1 : ad ab (ao + i * us.length + j) = (Addr.add (Addr.add ⟨ab, ao, none⟩ ((0 + i) * P.cellsOf e)) j) := by
                  rw [add_plain, add_plain, Nat.zero_add, hlen.1]; rfl
                rw [e1]
                exact h6
              · intro i j x c hx hc
                exact (h4 i x hx).2.get j c hc
            · simp only [sizL, siz, hB.sl]; omega
        · cases h
      · cases h
    · rename_i fs ht
      split at h
      · rename_i e us hus
        split at h
        · rename_i hm
          simp only [Option.some.injEq] at h; subst h
          obtain ⟨xs, n', rfl, hx, hlen, hxl, hxs⟩ := DataW.trod_struct ht hr
          simp only [Prod.mk.injEq] at hx
          obtain ⟨rfl, rfl⟩ := hx
          obtain ⟨_, vs, q1, q2, q3⟩ := fields_read hB (n := n') (fun t cs d ps ts a b => data_read hB m n' t cs d ps ts a b) cs fs.toList 0 e us xs hus (by simpa using hxl) (by omega) (fun i f hf => hxs i f (by simpa using hf))
          refine ⟨vs, ?_, q2, by rw [hB.ag]; omega⟩
          have : (cs.drop 0).take (e - 0) = cs := by simp only [List.drop_zero, Nat.sub_zero]; exact List.take_of_length_le (by omega)
          rw [this] at q1
          exact q1
        · cases h
      · cases h
    · cases h
end
end Ev
