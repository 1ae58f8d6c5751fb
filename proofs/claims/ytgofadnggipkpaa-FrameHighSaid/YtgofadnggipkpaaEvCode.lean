import Derived.Test.YtgofadnggipkpaaEvDraw3
import Derived.LoopN
import Derived.Scope
namespace Ev
open Go

section
variable {P : Program} {pol : Pol} {call : Call} {L : Nat} {E : Ent} {ntm : Nat}

theorem rel_of {ops : Array Oper} {l : List DOp} (h : allSome (cOp0 P pol ntm ops) ops.toList = some l) {clr : List Nat} {i : Nat} {o : DOp} (hi : l[i]? = some o) {us : List Nat} (hus : o.ins.boxes = true → ∀ t, hasN clr t = true → t ∈ us) :
    ∃ op, Rel P pol ntm clr ops i ⟨o.dst, o.gd, us, o.ins⟩ op := by
  obtain ⟨op, h1, h2⟩ := allSome_get h i o hi
  refine ⟨op, ?_⟩
  unfold cOp0 at h2
  split at h2
  · rename_i g ins hg hins
    split at h2
    · rename_i hc
      simp only [Option.some.injEq] at h2; subst h2
      simp only [Bool.and_eq_true, Bool.not_eq_true'] at hc
      exact ⟨by simpa using h1, hins, rfl, hg, hc.1, hc.2, hus⟩
    · cases h2
  · cases h2

theorem relL_of {clr : List Nat} {ops : Array Oper} : ∀ (os : List DOp) (n : Nat), (∀ k o, os[k]? = some o → ∃ op, Rel P pol ntm clr ops (n + k) o op) → RelL P pol ntm clr ops (List.range' n os.length) os := by
  intro os
  induction os with
  | nil => intro n _; exact .nil
  | cons o os ih =>
    intro n h
    obtain ⟨op, hr⟩ := h 0 o rfl
    exact .cons hr (ih (n + 1) fun k o' hk => by have := h (k + 1) o' hk; rw [show n + 1 + k = n + (k + 1) by omega]; exact this)

theorem hasN_of {l : List Nat} {d : Nat} (h : d ∈ l) : hasN l d = true := by
  induction l with
  | nil => cases h
  | cons a r ih =>
    simp only [hasN]
    rcases List.mem_cons.1 h with rfl | h
    · simp
    · rw [ih h]; cases Nat.beq a d <;> rfl

/-- what stands behind a piece of code -/
structure CPost (call : Call) (L : Nat) (E : Ent) (ntm : Nat) (k : R → D) (r0 : R) (Q : Exit → Act → World → Prop) : Prop where
  bad : run call L (k .bad) = .bad
  norm : ∀ st a w g ν, StR E ntm [] g ν st a w → run call L (k (.norm st)) = r0 → Q .normal a w
  exit : ∀ id st a w g ν, StR E ntm [] g ν st a w → run call L (k (.exit id st)) = r0 → Q (.exit id) a w
  ret : ∀ st a w g ν, StR E ntm [] g ν st a w → run call L (k (.ret st)) = r0 → Q .ret a w
  pan : ∀ v s a w cv, a.defers = [] → PanS E v s cv w → run call L (k (.pan v s)) = r0 → Q (.panic [{ v := cv, recovered := false }]) a w

theorem drawOk_spec {b : Array Nat} {ds : Array DOp} : ∀ (l done : List Nat), drawOk b ds done l = true → ∀ (k r i j : Nat), k < r → l[k]? = some i → l[r]? = some j → loose b i j = true →
    ∃ x y, ds[i]? = some x ∧ ds[j]? = some y ∧ pairOk x y = true ∧ ownOk x = true ∧ ∀ z, z ∈ done ∨ z ∈ l.take k → ∃ zz, ds[z]? = some zz ∧ leaves zz x = true := by
  intro l
  induction l with
  | nil => intro done _ k r i j _ h; simp at h
  | cons a l ih =>
    intro done h k r i j hkr hk hr hlo
    simp only [drawOk, Bool.and_eq_true] at h
    obtain ⟨h1, h2⟩ := h
    cases r with
    | zero => omega
    | succ r =>
      simp only [List.getElem?_cons_succ] at hr
      cases k with
      | zero =>
        simp only [List.getElem?_cons_zero, Option.some.injEq] at hk; subst hk
        have := List.all_eq_true.1 h1 j (List.mem_of_getElem? hr)
        rw [hlo] at this
        simp only [Bool.not_true, Bool.false_or] at this
        cases hx : ds[a]? with
        | none => simp [hx] at this
        | some x =>
          cases hy : ds[j]? with
          | none => simp [hx, hy] at this
          | some y =>
            simp only [hx, hy, Bool.and_eq_true] at this
            obtain ⟨p1, p2, p3⟩ := this
            refine ⟨x, y, rfl, rfl, p1, p3, fun z hz => ?_⟩
            rcases hz with hz | hz
            · have := List.all_eq_true.1 p2 z hz
              cases hzz : ds[z]? with
              | none => simp [hzz] at this
              | some zz => simp only [hzz] at this; exact ⟨zz, rfl, this⟩
            · simp at hz
      | succ k =>
        simp only [List.getElem?_cons_succ] at hk
        obtain ⟨x, y, q1, q2, q3, q4, q5⟩ := ih (a :: done) h2 k r i j (by omega) hk hr hlo
        refine ⟨x, y, q1, q2, q3, q4, fun z hz => q5 z ?_⟩
        simp only [List.take_succ_cons, List.mem_cons] at hz
        rcases hz with hz | rfl | hz
        · exact .inl (.tail _ hz)
        · exact .inl (by simp)
        · exact .inr hz

theorem reg_ok (hcall : CallOK P call) (hm : P.follows .mixedOrders = true) (hkc : ∀ f, pol.mds f ≠ .rw → KeepC call f) {id : Nat} {ops : Array Oper} {draw : Bool} {c : C} (hc : cReg1 P pol ntm id ops draw = some c)
    {st : St} {a : Act} {w : World} {g : G} {ν : Nat → Option Nat} {k : R → D} {r0 : R} {Q : Exit → Act → World → Prop} (hs : StR E ntm [] g ν st a w) (hrun : run call L (c.den st k) = r0) (hb : r0 ≠ .bad) (hp : CPost call L E ntm k r0 Q) :
    (Code.region id ops draw).wp P Q a w := by
  unfold cReg1 at hc
  cases hl : allSome (cOp0 P pol ntm ops) ops.toList with
  | none => simp [hl] at hc
  | some l =>
    have hlen : l.length = ops.size := by have := allSome_len hl; simpa using this
    simp only [hl] at hc
    cases draw with
    | false =>
      simp only [Bool.false_eq_true, if_false, Option.some.injEq] at hc
      subst hc
      refine wp_region ?_
      have hrange : List.range ops.size = List.range' 0 ops.size := List.range_eq_range'
      simp only [C.den, cond_false, cReg] at hrun
      generalize hos : (l.zipIdx.map fun (x : DOp × Nat) => (⟨x.1.dst, x.1.gd, (match x.1.ins with | .alc _ | .box _ => (assoc pol.clr id).getD [] | _ => []), x.1.ins⟩ : DOp)) = os at hrun
      obtain ⟨h1, h2⟩ := group_ok os
      have hosl : os.length = ops.size := by rw [← hos]; simp [hlen]
      have hrel : RelL P pol ntm ((assoc pol.clr id).getD []) ops (List.range ops.size) ((group os).flatMap (·.ops)) := by
        rw [h1, hrange, ← hosl]
        refine relL_of os 0 fun i o hi => ?_
        rw [← hos] at hi
        simp only [List.getElem?_map, List.getElem?_zipIdx] at hi
        cases hx : l[i]? with
        | none => simp [hx] at hi
        | some x =>
          simp only [hx, Option.map_some, Option.some.injEq] at hi
          subst hi
          rw [Nat.zero_add]
          refine rel_of hl hx fun hbx t ht => ?_
          cases hins : x.ins <;> simp only [hins, I.boxes, Bool.false_eq_true] at hbx <;> simp only [] <;> exact hasN_mem ht
      exact evGs_ok hcall hb hp.norm hp.pan (group os) _ st a w g ν hrel h2 hs.weaken hrun
    | true =>
      simp only [if_true] at hc
      generalize hclr : (assoc pol.clr id).getD [] = clr at hc
      generalize hpp : (assoc pol.ord id).getD (List.range ops.size) = p at hc
      split at hc
      · rename_i hok
        simp only [Bool.and_eq_true] at hok
        obtain ⟨hord, hdraw⟩ := hok
        simp only [Option.map_eq_some_iff] at hc
        obtain ⟨l', hl', rfl⟩ := hc
        let od : Nat → DOp := fun i => ((l.toArray[i]?).map fun (o : DOp) => (⟨o.dst, o.gd, usOf (Region.before ops) l.toArray clr i o.ins, o.ins⟩ : DOp)).getD ⟨none, none, [], .pan (.k .un)⟩
        have hod : l' = p.map od := by
          refine List.ext_getElem? fun n => ?_
          rw [List.getElem?_map]
          cases hn : l'[n]? with
          | none =>
            have : p.length ≤ n := by
              have h1 := allSome_len hl'
              have h2 := List.getElem?_eq_none_iff.1 hn
              omega
            rw [List.getElem?_eq_none this]; rfl
          | some o =>
            obtain ⟨i, h1, h2⟩ := allSome_get hl' n o hn
            rw [h1]
            simp only [Option.map_some, Option.some.injEq, od]
            rw [h2]; rfl
        simp only [orderOk, Bool.and_eq_true, List.all_eq_true] at hord
        obtain ⟨⟨_, hcov⟩, hordp⟩ := hord
        have hzip : ∀ k i, p[k]? = some i → (i, k) ∈ p.zipIdx := fun k i h => List.mem_iff_getElem?.2 ⟨k, by rw [List.getElem?_zipIdx]; simp [h]⟩
        have hat : ∀ k i, p[k]? = some i → ∃ o, ops[i]? = some o ∧ i ∉ p.take k ∧ ∀ e, e ∈ o.after → Region.binds .any e = true → e.on ∈ p.take k := by
          intro k i hk
          have := hordp (i, k) (hzip k i hk)
          simp only [] at this
          cases ho : ops[i]? with
          | none => simp [ho] at this
          | some o =>
            simp only [ho, Bool.and_eq_true, Bool.not_eq_true', Array.all_eq_true_iff_forall_mem, Bool.or_eq_true] at this
            refine ⟨o, rfl, fun q => ?_, fun e he hbn => ?_⟩
            · rw [hasN_of q] at this; cases this.1
            · rcases this.2 e he with q | q
              · rw [hbn] at q; cases q
              · exact hasN_mem q
        have hlt : ∀ i, i ∈ p → i < ops.size := fun i hi => by
          obtain ⟨k, hk⟩ := List.mem_iff_getElem?.1 hi
          obtain ⟨o, ho, _⟩ := hat k i hk
          exact (Array.getElem?_eq_some_iff.1 ho).1
        have hli : ∀ i, i ∈ p → ∃ o, l[i]? = some o ∧ od i = ⟨o.dst, o.gd, usOf (Region.before ops) l.toArray clr i o.ins, o.ins⟩ := fun i hi => by
          have : i < l.length := by rw [hlen]; exact hlt i hi
          refine ⟨l[i], List.getElem?_eq_getElem this, ?_⟩
          simp only [od, List.getElem?_toArray, List.getElem?_eq_getElem this, Option.map_some, Option.getD_some]
        have C0 : Dc P pol ntm clr ops call p od := by
          refine ⟨fun i hi => hasN_mem (hcov i (List.mem_range.2 hi)), fun k i hk => (hat k i hk).choose_spec.2.1, fun k i o hk ho => ?_, fun i hi => ?_, ?_, ?_, hkc⟩
          · obtain ⟨o', h1, _, h3⟩ := hat k i hk
            rw [h1] at ho; cases ho; exact h3
          · obtain ⟨o, h1, h2⟩ := hli i hi
            rw [h2]
            refine rel_of hl h1 fun hbx t ht => ?_
            cases hins : o.ins <;> simp only [hins, I.boxes, Bool.false_eq_true] at hbx <;> exact List.mem_append_left _ (hasN_mem ht)
          · intro k r i j hkr hk hr hlo
            obtain ⟨x, y, q1, q2, q3, q4, q5⟩ := drawOk_spec p [] hdraw k r i j hkr hk hr hlo
            obtain ⟨xi, h1, h2⟩ := hli i (List.mem_of_getElem? hk)
            obtain ⟨xj, h3, h4⟩ := hli j (List.mem_of_getElem? hr)
            simp only [List.getElem?_toArray] at q1 q2
            rw [h1] at q1; cases q1
            rw [h3] at q2; cases q2
            rw [h2, h4]
            refine ⟨q3, fun z hz => ?_, q4⟩
            obtain ⟨zz, z1, z2⟩ := q5 z (.inr hz)
            obtain ⟨xz, h5, h6⟩ := hli z (by obtain ⟨m', _, hm⟩ := mem_take_lt hz; exact List.mem_of_getElem? hm)
            simp only [List.getElem?_toArray] at z1
            rw [h5] at z1; cases z1
            rw [h6]; exact z2
          · intro i j hi hj hne hlo hmd t ht
            obtain ⟨xi, h1, h2⟩ := hli i hi
            obtain ⟨xj, h3, h4⟩ := hli j hj
            rw [h4] at hmd ⊢
            rw [h2] at ht
            have hne' : (i != j) = true := by simpa using hne
            have hlo' := loose_symm hlo
            have hil : i < l.toArray.size := by simpa using lt_of_get h1
            have hx : l.toArray[i]? = some xi := by simpa using h1
            cases hins : xj.ins <;> simp only [hins, I.minds, Bool.false_eq_true] at hmd
            · refine List.mem_append_right _ (List.mem_flatMap.2 ⟨i, List.mem_range.2 hil, ?_⟩)
              simp only [hx, hne', hlo', Bool.and_self, if_true]; exact ht
            · refine List.mem_append_right _ (List.mem_flatMap.2 ⟨i, List.mem_range.2 hil, ?_⟩)
              simp only [hx, hne', hlo', Bool.and_self, if_true]; exact ht
            · refine List.mem_flatMap.2 ⟨i, List.mem_range.2 hil, ?_⟩
              simp only [hx, hne', hlo', Bool.and_self, if_true]; exact List.mem_append_left _ ht
            all_goals
              refine List.mem_flatMap.2 ⟨i, List.mem_range.2 hil, ?_⟩
              simp only [hx, hne', hlo', Bool.and_self, if_true]; exact ht
        refine wp_region_any hm ?_
        simp only [C.den, cond_true, cReg] at hrun
        have hmap : (alone l').map DGr.den = p.map fun i => sg (od i) := by
          rw [hod]; unfold alone sg; simp only [List.map_map]; rfl
        rw [hmap] at hrun
        have hstr : StR E ntm clr g ν st a { w with drawn := w.drawn + 1 } := ⟨hs.size, hs.defers, hs.tm, (hs.weaken (clr := clr)).lps, hs.mem.same rfl ⟨rfl, rfl⟩⟩
        refine draw_any hcall C0 hb (K := fun x => match x with | .pan _ _ => .bad | x => k x) (fun _ _ => rfl) (fun st' a' w' g' ν' h1 h2 => hp.norm st' a' w' g' ν' h1 h2) ops.size 0 _ st st a _ ⟨by simp, fun i o h => ?_, fun k' i _ _ => ?_, ?_, ⟨g, ν, hstr⟩, rfl, rfl, fun k' i d h => by omega, fun t _ => rfl, fun k' i h => by omega⟩ ?_
        · simp only [Array.getD_eq_getD_getElem?, Array.getElem?_replicate] at h
          split at h <;> cases h
        · simp only [Array.getD_eq_getD_getElem?, Array.getElem?_replicate]; split <;> rfl
        · rw [List.drop_zero]; exact hrun
        · exact Nat.le_trans List.countP_le_length (by simp)
      · cases hc

end
end Ev
