import Derived.Test.YtmlmljnjgoekiaaGreatDoorEvB
import Derived.Lib.Bytealg
import Derived.KernelRfl
import Derived.WideKeyRuns
set_option linter.unusedVariables false
set_option linter.unusedSimpArgs false
set_option linter.unusedSectionVars false
set_option linter.constructorNameAsVariable false
namespace Ev
variable [Glob]
open Go
theorem run_clear_at {P : Program} (w : World) (t e ty : TypeId) (zv : Value) (sz : Nat) (ht : P.underlying t = some (.slice e)) (hv : ∀ w, (zeroValue e).run P w = .ok zv w) (hz : zv.cells.size = sz) (h1 : ∀ v, v ∈ zv.cells.toList → v.oneCell' = true) (h0 : 0 < sz) (b o n c : Nat) (hn : 0 < n)
    (hc : ∀ j, j < n * sz → (w.cell? ⟨b, o + j, none⟩).isSome = true) (hf : ∀ j, j < n * sz → w.frozen? ⟨b, o + j, none⟩ = false) :
    (Builtin.clear_ #[t] ty #[.slice (some ⟨b, o, none⟩) n c]).run P w = .ok (.tuple #[]) (setCs w b o (Builtin.zeroCells zv.cells n).toList) := by
  have hlen : (Builtin.zeroCells zv.cells n).toList.length = n * sz := by rw [Array.length_toList, zeroCells_size, hz]
  have hst := run_storeCells_cells (P := P) b o (Builtin.zeroCells zv.cells n).toList 0 w (by rw [hlen]; simpa using hc) (by rw [hlen]; simpa using hf) (by
    intro v hv'
    have hv2 : v ∈ Builtin.zeroCells zv.cells n := Array.mem_toList_iff.1 hv'
    simp only [Builtin.zeroCells, Array.mem_map, Array.mem_range] at hv2
    obtain ⟨i, hi, rfl⟩ := hv2
    have hm : i % zv.cells.size < zv.cells.size := Nat.mod_lt _ (by omega)
    rw [getElem!_pos zv.cells _ hm]
    exact h1 _ (Array.mem_toList_iff.2 (Array.getElem_mem hm)))
  simp only [Nat.add_zero] at hst
  obtain ⟨m, rfl⟩ : ∃ m, n = m + 1 := ⟨n - 1, by omega⟩
  rw [setCs_eq]
  simp [Builtin.clear_, run_underlying ht, hv, hst]
section
variable {e : Env}
theorem ok_clr (h : e.St) {c : Go.Call} {x : Operand} {xa : A} {t el : TypeId} {sz : Nat} {zr : List V} (hargs : c.args = #[x]) (htys : c.argTypes = #[t]) (ho : e.o.op = .call c) (hc : c.callee = .builtin .clear)
    (hu : e.P.underlying t = some (.slice el)) (hs : Ev.size e.P el = some sz) (hz : Ev.zeroOf e.P el = some zr) (hsz : 0 < sz) (hzl : zr.length = sz) (hx : cA x = some xa) (us : List Nat) (d : Nat) : Res e (iClr sz zr xa us e.clr d e.st) := by
  have hrx := h.rep hx
  have hdone : ∀ w' v, (Builtin.clear_ #[t] e.o.type #[e.a.eval x]).run e.P e.w = .ok v w' → (execOp e.a.eval e.o).run e.P e.w = .ok (.value v) w' := fun w' v hq =>
    run_builtin ho hc (by simp [Go.builtin, hargs, htys, hq])
  have htu : ∀ g : G, RepT g e.ν (.tu []) (.tuple #[]) := fun g => .ofA (.tu [] #[] rfl (fun x hx => by cases hx) (fun i x hx => by simp at hx))
  show Res e (fun k _ => clrD us e.st sz zr (get e.st.tm xa) k)
  cases hg : get e.st.tm xa with
  | ns =>
    rw [hg] at hrx
    have hv := RepA.ns_inv hrx
    have hrun : (Builtin.clear_ #[t] e.o.type #[e.a.eval x]).run e.P e.w = .ok (.tuple #[]) e.w := by
      rw [hv]; simp [Builtin.clear_, run_underlying hu]
    exact .out (.value _ _ (hdone _ _ hrun)) ⟨rfl, h.mem, GLe.refl _, .inl rfl, htu _, fun _ _ _ _ hx => by cases hx⟩
  | hs id i n =>
    rw [hg] at hrx
    obtain ⟨a, cap, hv, c1, c2⟩ := RepA.hs_inv hrx
    show Res e (fun k _ => bif Nat.beq n 0 then k (.tu []) e.st else match hget e.st.hp id with
      | some b => bif b.fr then .bad else bif Nat.blt id e.st.hp.lim then .bad else bif Nat.beq b.sz sz then bif freshH us e.st.tm id then
        .chk (Nat.ble (i + n) b.es.length) (k (.tu []) (e.st.setHp (hset e.st.hp id (some ⟨b.sz, b.fr, over i (List.replicate n zr) b.es⟩)))) else .bad else .bad
      | none => .bad)
    refine .bif (F := fun k _ => k (.tu []) e.st) (G := fun k _ => match hget e.st.hp id with
      | some b => bif b.fr then .bad else bif Nat.blt id e.st.hp.lim then .bad else bif Nat.beq b.sz sz then bif freshH us e.st.tm id then
        .chk (Nat.ble (i + n) b.es.length) (k (.tu []) (e.st.setHp (hset e.st.hp id (some ⟨b.sz, b.fr, over i (List.replicate n zr) b.es⟩)))) else .bad else .bad
      | none => .bad) (fun h0 => ?_) (fun h0 => ?_)
    · have h0 : n = 0 := Nat.eq_of_beq_eq_true h0
      subst h0
      have hrun : (Builtin.clear_ #[t] e.o.type #[e.a.eval x]).run e.P e.w = .ok (.tuple #[]) e.w := by
        rw [hv]; cases a <;> simp [Builtin.clear_, run_underlying hu]
      exact .out (.value _ _ (hdone _ _ hrun)) ⟨rfl, h.mem, GLe.refl _, .inl rfl, htu _, fun _ _ _ _ hx => by cases hx⟩
    have hn : 0 < n := by
      rcases Nat.eq_zero_or_pos n with q | q
      · subst q; simp at h0
      · exact q
    refine Res.hget (F := fun b k _ => bif b.fr then .bad else bif Nat.blt id e.st.hp.lim then .bad else bif Nat.beq b.sz sz then bif freshH us e.st.tm id then
      .chk (Nat.ble (i + n) b.es.length) (k (.tu []) (e.st.setHp (hset e.st.hp id (some ⟨b.sz, b.fr, over i (List.replicate n zr) b.es⟩)))) else .bad else .bad) fun bk hbk => ?_
    refine .bif (F := fun _ _ => .bad) (fun _ => .bad fun _ _ => rfl) (fun hfr => ?_)
    refine .bif (F := fun _ _ => .bad) (fun _ => .bad fun _ _ => rfl) (fun hlm => ?_)
    refine .bif (G := fun _ _ => .bad) (fun hm => ?_) (fun _ => .bad fun _ _ => rfl)
    refine .bif (G := fun _ _ => .bad) (fun _ => ?_) (fun _ => .bad fun _ _ => rfl)
    refine .chk fun hin => ?_
    have hin := Nat.le_of_ble_eq_true hin
    have hm := Nat.eq_of_beq_eq_true hm
    have hlim : e.st.hp.lim ≤ id := bltG hlm
    rcases c2 with c2 | ⟨r, hl, c2⟩
    · rw [h.mem.hr.dead id c2] at hbk; cases hbk
    · obtain ⟨bk0, e0, z⟩ := h.mem.hr.live id r hl
      rw [hbk] at e0; cases e0
      have hrs : r.sz = sz := z.sz.trans hm
      obtain ⟨iz, zv, vz, hi', hzz, _, _, hzn, hzk, hzr⟩ := zero_info (g := e.g) hz
      have hzs : zv.cells.size = sz := by rw [hzn, hzl]
      have hone : ∀ v, v ∈ zv.cells.toList → oneC v = true := by
        intro v hv
        obtain ⟨j, hj⟩ := List.getElem?_of_mem hv
        have hj' : j < zr.length := by have := lt_of_get hj; simp at this; omega
        have := hzr j zr[j] (List.getElem?_eq_getElem hj')
        have e2 : zv.cells.getD j undef = v := by
          rw [Array.getD_eq_getD_getElem?, ← Array.getElem?_toList, hj]; rfl
        rw [e2] at this
        exact this.oneC (hzk _ (List.getElem_mem hj'))
      generalize hvals : (Builtin.zeroCells zv.cells n).toList = vals
      have v1 : vals.length = n * sz := by rw [← hvals, Array.length_toList, zeroCells_size, hzs]
      have vget : ∀ k j, k < n → j < sz → vals[k * sz + j]? = some (zv.cells.getD j undef) := by
        intro k j hk hj
        have hlt : k * sz + j < n * sz := idx_lt hk hj
        have hmod : (k * sz + j) % sz = j := by rw [Nat.mul_comm, Nat.mul_add_mod, Nat.mod_eq_of_lt hj]
        rw [← hvals]
        simp only [Builtin.zeroCells, Array.getElem?_toList, Array.getElem?_map, Array.getElem?_range, hzs, hlt, if_true, Option.map_some, hmod]
        rw [getElem!_pos zv.cells j (by omega)]
        simp [Array.getD_eq_getD_getElem?, Array.getElem?_eq_getElem (show j < zv.cells.size by omega)]
      have v4 : ∀ v, v ∈ vals → oneC v = true := by
        intro v hv
        rw [← hvals] at hv
        have hv2 : v ∈ Builtin.zeroCells zv.cells n := Array.mem_toList_iff.1 hv
        simp only [Builtin.zeroCells, Array.mem_map, Array.mem_range] at hv2
        obtain ⟨i, hi, rfl⟩ := hv2
        have hm : i % zv.cells.size < zv.cells.size := Nat.mod_lt _ (by omega)
        rw [getElem!_pos zv.cells _ hm]
        exact hone _ (Array.mem_toList_iff.2 (Array.getElem_mem hm))
      rcases c2 with c2 | ⟨rfl, c3⟩
      · omega
      · have hmul : (i + n) * r.sz ≤ r.cap * r.sz := Nat.mul_le_mul_right _ (by omega)
        have hoff : i * r.sz + vals.length = (i + n) * r.sz := by rw [v1, ← hrs, Nat.add_mul]
        have hplace : ∀ j, r.base + i * r.sz + j = r.base + (i * r.sz + j) := fun j => by omega
        have hrun : (Builtin.clear_ #[t] e.o.type #[e.a.eval x]).run e.P e.w = .ok (.tuple #[]) (setCs e.w r.b (r.base + i * r.sz) vals) := by
          rw [hv, ← hvals]
          refine run_clear_at e.w t el e.o.type zv sz hu (run_zero hi' hzz) hzs (fun v hv => oneC' (hone v hv)) hsz r.b (r.base + i * r.sz) n cap hn (fun j hj => ?_) (fun j hj => ?_)
          · obtain ⟨⟨u, hu'⟩, _⟩ := z.rw hfr (i * r.sz + j) (by omega)
            rw [hplace]; simp only [ad] at hu'; rw [hu']; rfl
          · have h2 := (z.rw hfr (i * r.sz + j) (by omega)).2.1
            rw [hplace]; simp only [ad] at h2; exact h2
        have hol : (bk.es.take i).length = i := by rw [List.length_take]; omega
        have hw := h.mem.write hl hbk hfr hlim (bk' := ⟨bk.sz, bk.fr, over i (List.replicate n zr) bk.es⟩) (i * r.sz) vals (by omega) rfl hfr (by
            have := z.len
            simp only [over_eq, List.length_append, List.length_drop, hol, List.length_replicate]; omega)
          (fun x hx => by
            simp only [over_eq] at hx
            rcases List.mem_append.1 hx with hx | hx
            · exact z.row x (List.mem_of_mem_take hx)
            · rcases List.mem_append.1 hx with hx | hx
              · rw [hm, (List.mem_replicate.1 hx).2, hzl]
              · exact z.row x (List.mem_of_mem_drop hx))
          (fun i' j x c hx hc => by
            simp only [over_eq, List.length_replicate] at hx
            rw [hm]
            have hj := lt_of_get hc
            have hold : bk.es[i']? = some x → (i' < i ∨ i + n ≤ i') → c.keep = true ∧ if i * r.sz ≤ i' * sz + j ∧ i' * sz + j < i * r.sz + vals.length then ∃ cv, vals[i' * sz + j - i * r.sz]? = some cv ∧ RepA e.g c cv
                else ∃ cv, e.w.cell? (ad r.b (r.base + (i' * sz + j))) = some cv ∧ RepA e.g c cv := by
              intro hx' hor
              rw [z.row x (List.mem_of_getElem? hx'), hm] at hj
              obtain ⟨k1, u, k2, k3⟩ := z.cont i' j x c hx' hc
              have hcond : ¬ (i * r.sz ≤ i' * sz + j ∧ i' * sz + j < i * r.sz + vals.length) := by
                rw [hoff, hrs]
                rcases hor with q | q
                · have := Nat.mul_le_mul_right sz (show i' + 1 ≤ i by omega)
                  rw [Nat.add_mul, Nat.one_mul] at this; omega
                · have := Nat.mul_le_mul_right sz q; omega
              rw [if_neg hcond]
              exact ⟨k1, u, by rw [← hrs, ← Nat.add_assoc]; exact k2, k3⟩
            by_cases p1 : i' < i
            · rw [List.getElem?_append_left (by omega), List.getElem?_take_of_lt p1] at hx
              exact hold hx (.inl p1)
            · rw [List.getElem?_append_right (by omega), hol] at hx
              by_cases p2 : i' < i + n
              · rw [List.getElem?_append_left (by simp; omega)] at hx
                have hxz := (List.mem_replicate.1 (List.mem_of_getElem? hx)).2
                subst hxz
                have hj2 : j < sz := by omega
                have e1 : i' * sz = i * sz + (i' - i) * sz := by rw [← Nat.add_mul]; congr 1; omega
                have hlt : (i' - i) * sz + j < n * sz := idx_lt (by omega) hj2
                refine ⟨hzk c (List.mem_of_getElem? hc), ?_⟩
                rw [hrs, if_pos ⟨by omega, by omega⟩]
                exact ⟨_, by rw [show i' * sz + j - i * sz = (i' - i) * sz + j by omega]; exact vget _ _ (by omega) hj2, hzr j c hc⟩
              · rw [List.getElem?_append_right (by simp; omega), List.length_replicate, List.getElem?_drop] at hx
                rw [show i + n + (i' - i - n) = i' by omega] at hx
                exact hold hx (.inr (by omega)))
        exact .out (.value _ _ (hdone _ _ hrun)) ⟨rfl, hw, GLe.refl _, .inl rfl, htu _, fun _ _ _ _ hx => by cases hx⟩
  | _ => exact .bad fun _ _ => rfl
end
end Ev
namespace Ev
variable [Glob]
open Go
structure MapsOnly (w w' : World) (X : Nat → Prop) : Prop where
  cell : ∀ b o, w'.cell? (ad b o) = w.cell? (ad b o)
  frozen : ∀ b o, w'.frozen? (ad b o) = w.frozen? (ad b o)
  size : w.heap.size ≤ w'.heap.size
  unf : ∀ n b, Unf n w b → Unf n w' b
  heap : ∀ b, b < w.heap.size → ¬ X b → w'.heap[b]? = w.heap[b]?
  os : w'.os = w.os ∧ w'.output = w.output
theorem at_map {w : World} {b : Nat} {es : Array MapEntry} {c : Nat} (h : w.heap[b]? = some (Obj.map es c)) (o : Nat) : w.cell? (ad b o) = none ∧ w.frozen? (ad b o) = false := by
  unfold World.cell? World.frozen? ad
  simp only [h, and_self]
theorem maps_alloc (w : World) (es : Array MapEntry) (c : Nat) : MapsOnly w (w.alloc (.map es c)) (fun _ => False) := by
  have hat : ∀ b, (w.alloc (.map es c)).heap[b]? = if b = w.heap.size then some (Obj.map es c) else w.heap[b]? := fun b => by
    show (w.heap.push _)[b]? = _
    rw [Array.getElem?_push]
  have hno : ∀ o, w.cell? (ad w.heap.size o) = none ∧ w.frozen? (ad w.heap.size o) = false := fun o => by
    unfold World.cell? World.frozen? ad
    simp
  refine ⟨fun b o => ?_, fun b o => ?_, by show _ ≤ (w.heap.push _).size; simp, fun n b hu => ?_, fun b hb _ => by rw [hat, if_neg (by omega)], rfl, rfl⟩
  · by_cases e : b = w.heap.size
    · subst e; rw [(at_map (w := w.alloc (.map es c)) (by rw [hat, if_pos rfl]) o).1, (hno o).1]
    · unfold World.cell? ad; simp only [hat, e, if_false]
  · by_cases e : b = w.heap.size
    · subst e; rw [(at_map (w := w.alloc (.map es c)) (by rw [hat, if_pos rfl]) o).2, (hno o).2]
    · unfold World.frozen? ad; simp only [hat, e, if_false]
  · obtain ⟨C, e', fr, h1, h2⟩ := hu
    exact ⟨C, e', fr, by rw [hat, if_neg (by have := (Array.getElem?_eq_some_iff.1 h1).1; omega)]; exact h1, h2⟩
def putMap (w : World) (b : Nat) (es : Array MapEntry) (c : Nat) : World := { w with heap := w.heap.setIfInBounds b (.map es c) }
theorem maps_put {w : World} {b : Nat} {es es' : Array MapEntry} {c c' : Nat} (h : w.heap[b]? = some (Obj.map es c)) : MapsOnly w (putMap w b es' c') (fun x => x = b) ∧ (putMap w b es' c').heap[b]? = some (Obj.map es' c') := by
  have hlt := (Array.getElem?_eq_some_iff.1 h).1
  have hat : ∀ x, (putMap w b es' c').heap[x]? = if x = b then some (Obj.map es' c') else w.heap[x]? := fun x => by
    show (w.heap.setIfInBounds b _)[x]? = _
    rw [Array.getElem?_setIfInBounds]
    by_cases e : b = x
    · subst e; simp [hlt]
    · simp [e, Ne.symm e]
  have hb : (putMap w b es' c').heap[b]? = some (Obj.map es' c') := by rw [hat, if_pos rfl]
  refine ⟨⟨fun x o => ?_, fun x o => ?_, by show _ ≤ (w.heap.setIfInBounds b _).size; simp, fun n x hu => ?_, fun x _ hx => by rw [hat, if_neg hx], rfl, rfl⟩, hb⟩
  · by_cases e : x = b
    · subst e; rw [(at_map hb o).1, (at_map h o).1]
    · unfold World.cell? ad; simp only [hat, e, if_false]
  · by_cases e : x = b
    · subst e; rw [(at_map hb o).2, (at_map h o).2]
    · unfold World.frozen? ad; simp only [hat, e, if_false]
  · obtain ⟨C, e', fr, h1, h2⟩ := hu
    refine ⟨C, e', fr, ?_, h2⟩
    rw [hat, if_neg (fun e => by subst e; rw [h] at h1; cases h1)]; exact h1
def bornM (g : G) (hp : Hp) (b : Nat) : G := ⟨g.κ, fun id => if id = hp.next then .mlive b else g.lf id⟩
theorem MemR.newMap {E : Ent} {g : G} {ν : Nat → Option Nat} {lo : Lo} {hp : Hp} {w : World} (h : MemR E g ν lo hp w) (n : Nat) :
    MemR E (bornM g hp w.heap.size) ν lo (hnew hp ⟨n, false, []⟩) (w.alloc (.map #[] 0)) ∧ GLe g (bornM g hp w.heap.size) := by
  have mo := maps_alloc w #[] 0
  have hle : GLe g (bornM g hp w.heap.size) := ⟨fun _ _ _ x => x, fun id => by
    by_cases e : id = hp.next
    · rw [h.hr.unb id (by omega)]; trivial
    · simp only [bornM, e, if_false]; cases g.lf id <;> simp [Life.le]⟩
  have hl : ∀ id r, (bornM g hp w.heap.size).lf id = .live r → id ≠ hp.next ∧ g.lf id = .live r := fun id r x => by
    simp only [bornM] at x
    split at x
    · cases x
    · exact ⟨‹_›, x⟩
  have hlm : ∀ id b, (bornM g hp w.heap.size).lf id = .mlive b → (id = hp.next ∧ b = w.heap.size) ∨ (id ≠ hp.next ∧ g.lf id = .mlive b) := fun id b x => by
    simp only [bornM] at x
    split at x
    · cases x; exact .inl ⟨‹_›, rfl⟩
    · exact .inr ⟨‹_›, x⟩
  have hmb : ∀ id b, g.lf id = .mlive b → b < w.heap.size := fun id b x => by
    obtain ⟨bk, _, ⟨_, es, c, q, _⟩⟩ := h.hr.mp.live id b x
    exact (Array.getElem?_eq_some_iff.1 q).1
  have hown : ∀ b o, Own (bornM g hp w.heap.size) (hnew hp ⟨n, false, []⟩) b o → Own g hp b o := by
    intro b o ⟨id, r, bk, k, x, y, z⟩
    obtain ⟨h1, h2⟩ := hl id r x
    rw [hget_hnew, if_neg h1] at y
    exact ⟨id, r, bk, k, h2, y, z⟩
  have hnx : (w.alloc (.map #[] 0)).heap[w.heap.size]? = some (.map #[] 0) := by show (w.heap.push _)[w.heap.size]? = _; simp
  refine ⟨⟨⟨⟨fun id b x => ?_, fun id id' b hne x x' => ?_⟩, by simp only [hnew]; have := h.hr.lim; omega, fun id hid => by
      simp only [hnew] at hid
      rw [hget_hnew, if_neg (by omega)]; exact h.hr.nil id (by omega), fun id hid => by
      simp only [hnew] at hid
      simp only [bornM]; split
      · simp
      · exact h.hr.bnd id (by omega), fun b o v x => by rw [mo.cell]; exact h.hr.kap b o v x, fun id hid => by
      simp only [hnew] at hid
      simp only [bornM, show id ≠ hp.next by omega, if_false]; exact h.hr.unb id (by omega), fun id x => ?_, fun id r x => ?_, fun id id' r1 r2 b1 b2 hne x x' y y' z z' => ?_⟩, ⟨fun t cs b x h1 => ?_, h.lo.inj⟩, h.evo.trans ⟨hle, by simp [hnew], rfl, fun id hid => by rw [hget_hnew, if_neg (by have := h.hr.lim; omega)], mo.size, fun b o v x _ => by rw [mo.cell]; exact x, fun b o v x _ => mo.frozen b o, fun b o x => .inl (hown b o x), fun _ _ _ x => .inl x, mo.os, mo.unf 1, fun b hb _ _ => mo.heap b hb (fun x => x), fun b ⟨id, x⟩ => ?_⟩⟩, hle⟩
  · rcases hlm id b x with ⟨rfl, rfl⟩ | ⟨h1, h2⟩
    · exact ⟨⟨n, false, []⟩, by rw [hget_hnew, if_pos rfl], rfl, #[], 0, hnx, rfl, fun i x hx => by simp at hx⟩
    · obtain ⟨bk, k1, ⟨k3, es, c, k4, k5, k6⟩⟩ := h.hr.mp.live id b h2
      refine ⟨bk, by rw [hget_hnew, if_neg h1]; exact k1, k3, es, c, by rw [mo.heap b (hmb id b h2) (fun x => x)]; exact k4, k5, fun i x hx => ?_⟩
      obtain ⟨l, v, en, q1, q2, q3, q4, q6⟩ := k6 i x hx
      exact ⟨l, v, en, q1, q2, q3, q4, q6.mono hle⟩
  · rcases hlm id b x with ⟨e1, e2⟩ | ⟨h1, h2⟩
    · rcases hlm id' b x' with ⟨e1', _⟩ | ⟨h1', h2'⟩
      · exact hne (e1.trans e1'.symm)
      · have := hmb id' b h2'; omega
    · rcases hlm id' b x' with ⟨e1', e2'⟩ | ⟨h1', h2'⟩
      · have := hmb id b h2; omega
      · exact h.hr.mp.sep id id' b hne h2 h2'
  · simp only [bornM] at x
    split at x
    · cases x
    · rename_i e; rw [hget_hnew, if_neg e]; exact h.hr.dead id x
  · obtain ⟨h1, h2⟩ := hl id r x
    obtain ⟨bk, k1, k2⟩ := h.hr.live id r h2
    exact ⟨bk, by rw [hget_hnew, if_neg h1]; exact k1, k2.grow hle (fun _ _ _ y => by rw [mo.cell]; exact y) (fun _ _ _ _ => mo.frozen _ _) (fun _ _ y _ => y) (fun _ _ => mo.unf _ _)⟩
  · obtain ⟨h1, h2⟩ := hl id r1 x
    obtain ⟨h1', h2'⟩ := hl id' r2 x'
    rw [hget_hnew, if_neg h1] at y
    rw [hget_hnew, if_neg h1'] at y'
    exact h.hr.sep id id' r1 r2 b1 b2 hne h2 h2' y y' z z'
  · obtain ⟨h2, h3, h4, h5, h6⟩ := h.lo.box t cs b x h1
    exact ⟨h2.grow hle (fun _ _ y => by rw [mo.cell]; exact y) (fun _ _ _ => mo.frozen _ _), h3, fun o y => h4 o (hown b o y), h5, mo.unf _ _ h6⟩
  · rcases hlm id b x with ⟨_, rfl⟩ | ⟨_, h2⟩
    · exact .inr (Nat.le_refl _)
    · exact .inl ⟨id, h2⟩
theorem MemR.setMap {E : Ent} {g : G} {ν : Nat → Option Nat} {lo : Lo} {hp : Hp} {w : World} (h : MemR E g ν lo hp w) {id b : Nat} {bk bk' : Bk} (hl : g.lf id = .mlive b) (hb : hget hp id = some bk) (hlim : hp.lim ≤ id)
    {es' : Array MapEntry} {c' : Nat} (hm : MpR g (putMap w b es' c') b bk') : MemR E g ν lo (hset hp id (some bk')) (putMap w b es' c') := by
  obtain ⟨bk0, k1, ⟨_, es, c, k4, _⟩⟩ := h.hr.mp.live id b hl
  obtain ⟨mo, _⟩ := maps_put (es' := es') (c' := c') k4
  have hgets : ∀ j, hget (hset hp id (some bk')) j = if j = id then some bk' else hget hp j := hget_hset hp id _
  have hne : ∀ j r, g.lf j = .live r → j ≠ id := fun j r x e => by subst e; rw [hl] at x; cases x
  have hown : ∀ b o, Own g (hset hp id (some bk')) b o → Own g hp b o := by
    intro b o ⟨j, r, bk, k, x, y, z⟩
    rw [hgets, if_neg (hne j r x)] at y
    exact ⟨j, r, bk, k, x, y, z⟩
  refine ⟨⟨⟨fun j b2 x => ?_, h.hr.mp.sep⟩, h.hr.lim, fun j x => ?_, h.hr.bnd, fun b o v x => by rw [mo.cell]; exact h.hr.kap b o v x, h.hr.unb, fun j x => ?_, fun j r x => ?_, fun j j' r1 r2 b1 b2 hne' x x' y y' z z' => ?_⟩, ⟨fun t cs b x h1 => ?_, h.lo.inj⟩, h.evo.trans ⟨GLe.refl g, Nat.le_refl _, rfl, fun j hj => by rw [hgets, if_neg (by omega)], mo.size, fun b o v x _ => by rw [mo.cell]; exact x, fun b o v x _ => mo.frozen b o, fun b o x => .inl (hown b o x), fun _ _ _ x => .inl x, mo.os, mo.unf 1, fun b' hb' _ hn => mo.heap b' hb' (fun e => hn ⟨id, by rw [e]; exact hl⟩), fun _ x => .inl x⟩⟩
  · by_cases e : j = id
    · subst e; rw [hl] at x; cases x
      exact ⟨bk', by rw [hgets, if_pos rfl], hm⟩
    · have hbb : b2 ≠ b := fun q => h.hr.mp.sep j id b2 e x (by rw [q]; exact hl)
      obtain ⟨bk2, q1, ⟨q3, es2, c2, q4, q5, q6⟩⟩ := h.hr.mp.live j b2 x
      exact ⟨bk2, by rw [hgets, if_neg e]; exact q1, q3, es2, c2, by rw [mo.heap b2 (Array.getElem?_eq_some_iff.1 q4).1 hbb]; exact q4, q5, q6⟩
  · have : j ≠ id := fun e => by subst e; rw [h.hr.nil _ x] at hb; cases hb
    rw [hgets, if_neg this]; exact h.hr.nil j x
  · have : j ≠ id := fun e => by subst e; rw [hl] at x; cases x
    rw [hgets, if_neg this]; exact h.hr.dead j x
  · obtain ⟨bk, k1, k2⟩ := h.hr.live j r x
    exact ⟨bk, by rw [hgets, if_neg (hne j r x)]; exact k1, k2.grow (GLe.refl g) (fun _ _ _ y => by rw [mo.cell]; exact y) (fun _ _ _ _ => mo.frozen _ _) (fun _ _ y _ => y) (fun _ _ => mo.unf _ _)⟩
  · rw [hgets, if_neg (hne j r1 x)] at y
    rw [hgets, if_neg (hne j' r2 x')] at y'
    exact h.hr.sep j j' r1 r2 b1 b2 hne' x x' y y' z z'
  · obtain ⟨h2, h3, h4, h5, h6⟩ := h.lo.box t cs b x h1
    exact ⟨h2.grow (GLe.refl g) (fun _ _ y => by rw [mo.cell]; exact y) (fun _ _ _ => mo.frozen _ _), h3, fun o y => h4 o (hown b o y), h5, mo.unf _ _ h6⟩
theorem find_map {g : G} {s : ByteArray} {l : List Nat} (hs : s.data.toList.map UInt8.toNat = l) : ∀ (rows : List (List V)) (es : List MapEntry) (n : Nat), es.length = rows.length →
    (∀ (i : Nat) (x : List V), rows[i]? = some x → ∃ (l : List Nat) (v : V) (e : MapEntry) (s : ByteArray), x = [.st l, v] ∧ v.keep = true ∧ es[i]? = some e ∧ e.key = .string s ∧ s.data.toList.map UInt8.toNat = l ∧ RepA g v e.val) →
    (mapGet l rows = none ∧ Instr.findNow .string (.string s) es n = some none ∧ ∀ v, mapPut l v rows = rows ++ [[.st l, v]]) ∨
    (∃ (i : Nat) (u : V) (e : MapEntry) (sk : ByteArray), mapGet l rows = some u ∧ rows[i]? = some [.st l, u] ∧ es[i]? = some e ∧ e.key = .string sk ∧ sk.data.toList.map UInt8.toNat = l ∧ RepA g u e.val ∧ u.keep = true ∧ Instr.findNow .string (.string s) es n = some (some (n + i, e.val)) ∧ ∀ v, mapPut l v rows = rows.set i [.st l, v]) := by
  intro rows
  induction rows with
  | nil =>
    intro es n hn _
    have : es = [] := List.eq_nil_of_length_eq_zero hn
    subst this
    exact .inl ⟨rfl, rfl, fun _ => rfl⟩
  | cons x rows ih =>
    intro es n hn h
    cases es with
    | nil => simp at hn
    | cons e es =>
      obtain ⟨k, v, e', sk, q1, q2, q3, q4, q5, q6⟩ := h 0 x rfl
      simp only [List.getElem?_cons_zero, Option.some.injEq] at q3; subst q3; subst q1
      have heq : beqL k l = (sk.data.toList == s.data.toList) := by rw [← q5, ← hs, beqL_bytes]
      have hnow : Instr.sameNow .string (.string s) e.key = some (beqL k l) := by
        rw [q4, heq]
        simp only [Instr.sameNow]
        congr 1
        rw [beq_toListBytes, ByteArray.toList_eq, ByteArray.toList_eq]
        rw [Bool.eq_iff_iff]; simp only [beq_iff_eq]; exact ⟨fun h => h.symm, fun h => h.symm⟩
      cases hk : beqL k l with
      | true =>
        have hkl : k = l := by rw [beqL_eq] at hk; simpa using hk
        subst hkl
        refine .inr ⟨0, v, e, sk, by simp [mapGet, hk], rfl, rfl, q4, q5, q6, q2, ?_, fun u => by simp [mapPut, hk]⟩
        simp only [Instr.findNow, hnow, hk, Nat.add_zero]
      | false =>
        rcases ih es (n + 1) (by simpa using hn) (fun i x hx => by simpa using h (i + 1) x (by simpa using hx)) with ⟨a1, a2, a3⟩ | ⟨i, u, e2, sk2, a1, a2, a3, a4, a5, a6, a7, a8, a9⟩
        · exact .inl ⟨by simp [mapGet, hk, a1], by simp [Instr.findNow, hnow, hk, a2], fun v' => by simp [mapPut, hk, a3]⟩
        · exact .inr ⟨i + 1, u, e2, sk2, by simp [mapGet, hk, a1], by simpa using a2, by simpa using a3, a4, a5, a6, a7, by simp only [Instr.findNow, hnow, hk, a8]; rw [show n + 1 + i = n + (i + 1) by omega], fun v' => by simp [mapPut, hk, a9]⟩
section
variable {e : Env}
theorem mapOk_inv {P : Program} {t : TypeId} (h : mapOk P t = true) : ∃ k el, P.underlying t = some (.map k el) ∧ P.underlying k = some .string := by
  unfold mapOk at h
  split at h
  · rename_i k el hu
    split at h
    · rename_i hk; exact ⟨k, el, hu, hk⟩
    · cases h
  · cases h
theorem str_row {g : G} {n : Nat} {x : List V} {oe : Option MapEntry} (hn : n = 2) (h : ∃ (l : List Nat) (v : V) (e : MapEntry), x = [.st l, v] ∧ v.keep = true ∧ oe = some e ∧ KeyR n l e.key ∧ RepA g v e.val) :
    ∃ (l : List Nat) (v : V) (e : MapEntry) (s : ByteArray), x = [.st l, v] ∧ v.keep = true ∧ oe = some e ∧ e.key = .string s ∧ s.data.toList.map UInt8.toNat = l ∧ RepA g v e.val := by
  obtain ⟨l, v, e, q1, q2, q3, q4, q5⟩ := h
  rcases q4 with ⟨_, s, k1, k2⟩ | ⟨k0, k, _⟩
  · exact ⟨l, v, e, s, q1, q2, q3, k1, k2, q5⟩
  · omega
theorem ok_mmk (h : e.St) {t : TypeId} (ho : e.o.op = .makeMap t none) (us : List Nat) (d : Nat) : Res e (iMmk us e.clr d e.st) := by
  obtain ⟨h1, h2⟩ := h.mem.newMap 2
  refine .out (.value (.map (some e.w.heap.size)) _ (by simp [execOp, ho, Instr.makeMap, newObj, Sem.run])) ⟨rfl, h1, h2, .inl rfl, .ofA (.mp _ _ (.inr (by simp [bornM]))), fun _ _ _ _ x => by cases x⟩
theorem run_checkKey {P : Program} {w : World} {k : TypeId} (hk : P.underlying k = some .string) (em : Bool) (s : ByteArray) : (Instr.checkKey em 10000 k (.string s)).run P w = .ok () w := by
  have key : ∀ n, (Instr.checkKey em (n + 1) k (.string s)).run P w = .ok () w := fun n => by simp [Instr.checkKey, run_underlying hk]
  exact key 9999
theorem run_getMap {P : Program} {w : World} {b : Nat} {es : Array MapEntry} {c : Nat} (h : w.heap[b]? = some (Obj.map es c)) : (getObj b).run P w = .ok (.map es c) w := by
  simp only [getObj, Sem.run, h]
theorem run_setMap {P : Program} {w : World} {b : Nat} {es es' : Array MapEntry} {c c' : Nat} (h : w.heap[b]? = some (Obj.map es c)) : (setObj b (.map es' c')).run P w = .ok () (putMap w b es' c') := by
  simp only [setObj, Sem.run, h]
  rfl
theorem run_find {P : Program} {w : World} {k : TypeId} (hk : P.underlying k = some .string) {s : ByteArray} {es : List MapEntry} {r : Option (Nat × Value)} (h : Instr.findNow .string (.string s) es 0 = some r) : (Instr.findKey k (.string s) es).run P w = .ok r w := by
  simp [Instr.findKey, run_underlying hk, h]
theorem same_str {a b : ByteArray} (h : a.data.toList.map UInt8.toNat = b.data.toList.map UInt8.toNat) : a = b := by
  have h1 : (a.data.toList == b.data.toList) = true := by rw [← beqL_bytes, beqL_eq, h]; simp
  have h2 : a.data.toList = b.data.toList := by simpa using h1
  cases a; cases b; congr 1; exact Array.ext' h2
theorem run_stays {P : Program} {w : World} (s : ByteArray) : (Instr.keyThatStays (.string s) (.string s)).run P w = .ok (.string s) w := by
  have : Instr.sameBits 10000 (.string s) (.string s) = true := by
    show (s == s) = true
    rw [beq_toListBytes]; simp
  simp [Instr.keyThatStays, this]
theorem ok_mlk (h : e.St) {t key el : TypeId} {ok : Bool} {z : V} {x i : Operand} {xa ia : A} (hm : mapOk e.P t = true) (hu : e.P.underlying t = some (.map key el)) (hz : zeroV e.P el = some z) (hx : cA x = some xa) (hi : cA i = some ia) (ho : e.o.op = .lookup t x i ok) (us : List Nat) (d : Nat) :
    Res e (iMlk ok z xa ia us e.clr d e.st) := by
  obtain ⟨k', el', hu', hks⟩ := mapOk_inv hm
  rw [hu] at hu'; cases hu'
  have hrx := h.rep hx
  have hri := h.rep hi
  unfold zeroV at hz
  cases hinf : e.P.info? el with
  | none => simp [hinf] at hz
  | some inf =>
  cases hzz : inf.zero with
  | none => simp [hinf, hzz] at hz
  | some zv =>
  simp only [hinf, hzz, Option.bind_some] at hz
  obtain ⟨z1, z2, _⟩ := ofVal_rep (g := e.g) hz
  have hzero := run_zero hinf hzz e.w
  have pair : ∀ {u : V} {cv : Value} (b : Bool), RepA e.g u cv → isLp u = false → RepA e.g (.tu [u, .bo b]) (.tuple #[cv, .bool b]) := fun {u cv} b hr hlu => by
    refine .tu _ _ rfl (fun x hx => by simp only [List.mem_cons, List.not_mem_nil, or_false] at hx; rcases hx with rfl | rfl <;> first | exact hlu | rfl) fun j c hc => ?_
    match j with
    | 0 => simp only [List.getElem?_cons_zero, Option.some.injEq] at hc; subst hc; exact hr
    | 1 => simp only [List.getElem?_cons_succ, List.getElem?_cons_zero, Option.some.injEq] at hc; subst hc; exact .c _ _ (.bo b)
    | j + 2 => simp at hc
  show Res e (fun k kp => iMlk ok z xa ia us e.clr d e.st k kp)
  simp only [iMlk]
  cases hgi : get e.st.tm ia with
  | st l =>
    rw [hgi] at hri
    obtain ⟨s, hs, hl⟩ := RepA.st_inv hri
    cases hgx : get e.st.tm xa with
    | nm =>
      rw [hgx] at hrx
      have hxv := RepA.nm_inv hrx
      have hf : Instr.findNow .string (.string s) ([] : List MapEntry) 0 = some none := rfl
      cases ok with
      | true => exact Res.val h (cv := .tuple #[zv, .bool false]) (by simp [execOp, ho, Instr.lookup, run_underlying hu, hxv, hs, run_checkKey hks, run_find hks hf, hzero]) (pair false z1 z2) rfl
      | false => exact Res.val h (cv := zv) (by simp [execOp, ho, Instr.lookup, run_underlying hu, hxv, hs, run_checkKey hks, run_find hks hf, hzero]) z1 z2
    | mp id =>
      rw [hgx] at hrx
      simp only []
      cases hb : hget e.st.hp id with
      | none => exact .bad fun _ _ => rfl
      | some bk =>
        simp only []
        obtain ⟨b, hxv, hlf⟩ := RepA.mp_inv hrx
        rcases hlf with hd | hlf
        · have := h.mem.hr.dead id hd; rw [hb] at this; cases this
        obtain ⟨bk', k1, ⟨_, es, c, k4, k5, k6⟩⟩ := h.mem.hr.mp.live id b hlf
        rw [hb] at k1; cases k1
        have hg := run_getMap (P := e.P) k4
        refine Res.bif (F := fun k _ => mgetD ok z bk.es l e.st k) (G := fun _ _ => .bad) (fun hsz => ?_) (fun _ => .bad fun _ _ => rfl)
        have hsz := Nat.eq_of_beq_eq_true hsz
        rcases find_map hl bk.es es.toList 0 (by simpa using k5) (fun i x hx => by simpa using str_row hsz (k6 i x hx)) with ⟨a1, a2, _⟩ | ⟨j, u, en, sk, a1, _, _, _, _, a6, a7, a8, _⟩
        · simp only [mgetD, a1]
          cases ok with
          | true => exact Res.val h (cv := .tuple #[zv, .bool false]) (by simp [execOp, ho, Instr.lookup, run_underlying hu, hxv, hs, hg, run_checkKey hks, run_find hks a2, hzero]) (pair false z1 z2) rfl
          | false => exact Res.val h (cv := zv) (by simp [execOp, ho, Instr.lookup, run_underlying hu, hxv, hs, hg, run_checkKey hks, run_find hks a2, hzero]) z1 z2
        · simp only [mgetD, a1]
          have hul : isLp u = false := by cases u <;> first | rfl | simp [V.keep] at a7
          cases ok with
          | true => exact Res.val h (cv := .tuple #[en.val, .bool true]) (by simp [execOp, ho, Instr.lookup, run_underlying hu, hxv, hs, hg, run_checkKey hks, run_find hks a8]) (pair true a6 hul) rfl
          | false => exact Res.val h (cv := en.val) (by simp [execOp, ho, Instr.lookup, run_underlying hu, hxv, hs, hg, run_checkKey hks, run_find hks a8]) a6 hul
    | _ => exact .bad fun _ _ => rfl
  | _ => exact .bad fun _ _ => rfl
theorem ok_mup (h : e.St) {t : TypeId} {x i v : Operand} {xa ia va : A} (hm : mapOk e.P t = true) (hx : cA x = some xa) (hi : cA i = some ia) (hv : cA v = some va) (ho : e.o.op = .mapUpdate t x i v) (us : List Nat) (d : Nat) :
    Res e (iMup xa ia va us e.clr d e.st) := by
  obtain ⟨key, el, hu, hks⟩ := mapOk_inv hm
  have hrx := h.rep hx
  have hri := h.rep hi
  have hrv := h.rep hv
  show Res e (fun k kp => iMup xa ia va us e.clr d e.st k kp)
  simp only [iMup]
  cases hgi : get e.st.tm ia with
  | st l =>
    rw [hgi] at hri
    obtain ⟨s, hs, hl⟩ := RepA.st_inv hri
    cases hgx : get e.st.tm xa with
    | mp id =>
      rw [hgx] at hrx
      simp only []
      cases hb : hget e.st.hp id with
      | none => exact .bad fun _ _ => rfl
      | some bk =>
        simp only []
        refine Res.bif (F := fun k _ => bif Nat.blt id e.st.hp.lim then .bad else bif freshH us e.st.tm id then bif (get e.st.tm va).keep then k .un (e.st.setHp (hset e.st.hp id (some ⟨2, false, mapPut l (get e.st.tm va) bk.es⟩))) else .bad else .bad) (G := fun _ _ => .bad) (fun hsz => ?_) (fun _ => .bad fun _ _ => rfl)
        have hsz := Nat.eq_of_beq_eq_true hsz
        refine Res.bif (F := fun _ _ => .bad) (G := fun k _ => bif freshH us e.st.tm id then bif (get e.st.tm va).keep then k .un (e.st.setHp (hset e.st.hp id (some ⟨2, false, mapPut l (get e.st.tm va) bk.es⟩))) else .bad else .bad) (fun _ => .bad fun _ _ => rfl) (fun hlim => ?_)
        refine Res.bif (F := fun k _ => bif (get e.st.tm va).keep then k .un (e.st.setHp (hset e.st.hp id (some ⟨2, false, mapPut l (get e.st.tm va) bk.es⟩))) else .bad) (G := fun _ _ => .bad) (fun hfr => ?_) (fun _ => .bad fun _ _ => rfl)
        refine Res.bif (F := fun k _ => k .un (e.st.setHp (hset e.st.hp id (some ⟨2, false, mapPut l (get e.st.tm va) bk.es⟩)))) (G := fun _ _ => .bad) (fun hkp => ?_) (fun _ => .bad fun _ _ => rfl)
        have hlim' : e.st.hp.lim ≤ id := by
          have : ¬ id < e.st.hp.lim := fun q => by rw [show Nat.blt id e.st.hp.lim = true from by simpa [Nat.blt_eq] using q] at hlim; cases hlim
          omega
        obtain ⟨b, hxv, hlf⟩ := RepA.mp_inv hrx
        rcases hlf with hd | hlf
        · have := h.mem.hr.dead id hd; rw [hb] at this; cases this
        obtain ⟨bk', k1, ⟨k3, es, c, k4, k5, k6⟩⟩ := h.mem.hr.mp.live id b hlf
        rw [hb] at k1; cases k1
        have hg := run_getMap (P := e.P) k4
        have hul : isLp (get e.st.tm va) = false := by cases hq : get e.st.tm va <;> first | rfl | (rw [hq] at hkp; simp [V.keep] at hkp)
        have hrv' := hrv.toA hul
        rcases find_map hl bk.es es.toList 0 (by simpa using k5) (fun i x hx => by simpa using str_row hsz (k6 i x hx)) with ⟨a1, a2, a3⟩ | ⟨j, u, en, sk, a1, a2, a3, a4, a5, a6, a7, a8, a9⟩
        · have hset := run_setMap (P := e.P) (es' := es.push ⟨.string s, e.a.eval v, c⟩) (c' := c + 1) k4
          have hheap := (maps_put (es' := es.push ⟨.string s, e.a.eval v, c⟩) (c' := c + 1) k4).2
          have hmem := h.mem.setMap (es' := es.push ⟨.string s, e.a.eval v, c⟩) (c' := c + 1) (bk' := ⟨2, false, mapPut l (get e.st.tm va) bk.es⟩) hlf hb hlim' (by
            refine ⟨rfl, _, _, hheap, by rw [a3]; simp [k5], fun j x hx => ?_⟩
            rw [a3] at hx
            by_cases hj : j < bk.es.length
            · rw [List.getElem?_append_left hj] at hx
              obtain ⟨l', v', en', q1, q2, q3, q4, q5⟩ := k6 j x hx
              exact ⟨l', v', en', q1, q2, by rw [Array.getElem?_push, if_neg (by omega)]; exact q3, by rw [hsz] at q4; exact q4, q5⟩
            · rw [List.getElem?_append_right (by omega)] at hx
              have hj0 : j - bk.es.length = 0 := by
                cases hq : j - bk.es.length with
                | zero => rfl
                | succ n => rw [hq] at hx; simp at hx
              rw [hj0] at hx
              simp only [List.getElem?_cons_zero, Option.some.injEq] at hx; subst hx
              exact ⟨l, get e.st.tm va, ⟨.string s, e.a.eval v, c⟩, rfl, hkp, by rw [Array.getElem?_push, if_pos (by omega)], .inl ⟨rfl, s, rfl, hl⟩, hrv'⟩)
          exact .out (.skip _ (by simp [execOp, ho, Instr.mapUpdate, run_underlying hu, hxv, hs, hg, run_checkKey hks, run_find hks a2, hset])) ⟨rfl, hmem, GLe.refl _, .inl rfl, .ofA (.un _), fun _ _ _ _ x => by cases x⟩
        · have hsk : sk = s := same_str (a5.trans hl.symm)
          subst hsk
          simp only [Array.getElem?_toList] at a3
          have hkey : ((es[j]?).map (·.key)).getD (.string sk) = .string sk := by rw [a3]; simp [a4]
          have hset := run_setMap (P := e.P) (es' := es.modify j fun e' => { e' with key := .string sk, val := e.a.eval v }) (c' := c) k4
          have hheap := (maps_put (es' := es.modify j fun e' => { e' with key := .string sk, val := e.a.eval v }) (c' := c) k4).2
          have hmem := h.mem.setMap (es' := es.modify j fun e' => { e' with key := .string sk, val := e.a.eval v }) (c' := c) (bk' := ⟨2, false, mapPut l (get e.st.tm va) bk.es⟩) hlf hb hlim' (by
            refine ⟨rfl, _, _, hheap, by rw [a9]; simp [k5], fun j' x hx => ?_⟩
            rw [a9, List.getElem?_set] at hx
            by_cases hj : j = j'
            · subst hj
              have : j < bk.es.length := (List.getElem?_eq_some_iff.1 a2).1
              simp only [if_true, this, Option.some.injEq] at hx; subst hx
              exact ⟨l, get e.st.tm va, { en with key := .string sk, val := e.a.eval v }, rfl, hkp, by simp [Array.getElem?_modify, a3], .inl ⟨rfl, sk, rfl, hl⟩, hrv'⟩
            · rw [if_neg hj] at hx
              obtain ⟨l', v', en', q1, q2, q3, q4, q5⟩ := k6 j' x hx
              exact ⟨l', v', en', q1, q2, by simp [Array.getElem?_modify, hj, q3], by rw [hsz] at q4; exact q4, q5⟩)
          exact .out (.skip _ (by simp [execOp, ho, Instr.mapUpdate, run_underlying hu, hxv, hs, hg, run_checkKey hks, run_find hks a8, hkey, run_stays, hset])) ⟨rfl, hmem, GLe.refl _, .inl rfl, .ofA (.un _), fun _ _ _ _ x => by cases x⟩
    | _ => exact .bad fun _ _ => rfl
  | _ => exact .bad fun _ _ => rfl
theorem ixb_find {fn : Func} (hn : fn.name = "internal/bytealg.IndexByteString") : Extern.find fn = some Extern.BytealgIndexByte.indexByte := by
  have a : Extern.allGenericRows.lookup "internal/bytealg.IndexByteString" = none := by kernel_rfl
  have b : Extern.allTypedRows.lookup "internal/bytealg.IndexByteString" = none := by kernel_rfl
  have c : Extern.allRows.lookup "internal/bytealg.IndexByteString" = some Extern.BytealgIndexByte.indexByte := by kernel_rfl
  unfold Extern.find
  simp only [hn, a, b, c]
  rfl
theorem idxB_eq (c : UInt8) : ∀ l : List UInt8, idxB c.toNat (l.map UInt8.toNat) = Lib.indexByte l c
  | [] => rfl
  | b :: r => by
    have hb : Nat.beq b.toNat c.toNat = (b == c) := by
      rw [Bool.eq_iff_iff, Nat.beq_eq, beq_iff_eq]
      exact ⟨fun h => UInt8.toNat_inj.1 h, fun h => by rw [h]⟩
    have ih := idxB_eq c r
    have hge := Lib.indexByte_ge r c
    simp only [List.map_cons, idxB, Lib.indexByte, hb, ih]
    cases b == c with
    | true => rfl
    | false =>
      simp only [cond_false, Bool.false_eq_true, if_false]
      cases hq : Lib.indexByte r c with
      | ofNat n =>
        have : (Int.ofNat n == -1) = false := by simp
        simp only [this, Bool.false_eq_true, if_false]
        rfl
      | negSucc n =>
        rw [hq] at hge
        have : n = 0 := by omega
        subst this
        rfl
theorem ok_ixb (h : e.St) {c : Go.Call} {f : FuncId} {xa ya : A} (hf : isIxb e.P f = true) (hcal : c.callee = .value (.func f)) (ha : allSome cA c.args.toList = some [xa, ya]) (ho : e.o.op = .call c) (us : List Nat) (d : Nat) :
    Res e (iIxb xa ya us e.clr d e.st) := by
  obtain ⟨x, y, hargs, hx, hy⟩ := args2 ha
  have hrx := h.rep hx
  have hry := h.rep hy
  unfold isIxb at hf
  cases hfn : e.P.funcs[f]? with
  | none => simp [hfn] at hf
  | some fn =>
  cases hbd : fn.body with
  | some b => simp [hfn, hbd] at hf
  | none =>
  simp only [hfn, hbd, Bool.and_eq_true, beq_iff_eq, Option.isNone_iff_eq_none] at hf
  obtain ⟨hn, hnx⟩ := hf
  show Res e (fun k kp => iIxb xa ya us e.clr d e.st k kp)
  simp only [iIxb]
  cases hgx : get e.st.tm xa with
  | st l =>
    rw [hgx] at hrx
    obtain ⟨s, hs, hl⟩ := RepA.st_inv hrx
    cases hgy : get e.st.tm ya with
    | it k n =>
      rw [hgy] at hry
      cases k with
      | u8 =>
        have hyv := RepA.it_inv hry
        have hrun : (execOp e.a.eval e.o).run e.P e.w = .ok (.value (.int .i64 (idxB (n.toNat % 256) l))) e.w := by
          simp only [execOp, ho, resolve, hcal, Deferred.ofValue, Sem.run_bind, Act.eval, Sem.run_pure, Result.andThen_ok, invoke]
          have hname : (fn.name == "runtime.NumGoroutine") = false := by rw [hn]; decide
          have hrc := run_callFunc_extern (P := e.P) hfn hname (by simp [hbd]) hnx (ixb_find hn) #[.string s, .int .u8 n] e.w
          rw [Lib.run_indexByteString] at hrc
          have hi : idxB (n.toNat % 256) l = Lib.indexByte s.data.toList n.toNat.toUInt8 := by
            rw [← idxB_eq, hl]
            congr 1
          rw [hi, hargs]
          simp only [List.map_toArray, List.map_cons, List.map_nil, hs, hyv, Array.append_empty, Array.empty_append]
          simpa using hrc
        exact Res.val h hrun (.c _ _ (.it _ _)) rfl
      | _ => exact .bad fun _ _ => rfl
    | _ => exact .bad fun _ _ => rfl
  | _ => exact .bad fun _ _ => rfl
theorem ctb_find {fn : Func} (hn : fn.name = "internal/bytealg.CountString") : Extern.find fn = some Extern.BytealgCount.count := by
  have a : Extern.allGenericRows.lookup "internal/bytealg.CountString" = none := by kernel_rfl
  have b : Extern.allTypedRows.lookup "internal/bytealg.CountString" = none := by kernel_rfl
  have c : Extern.allRows.lookup "internal/bytealg.CountString" = some Extern.BytealgCount.count := by kernel_rfl
  unfold Extern.find
  simp only [hn, a, b, c]
  rfl
theorem cntB_eq (c : UInt8) : ∀ l : List UInt8, cntB c.toNat (l.map UInt8.toNat) = Lib.countByte l c
  | [] => rfl
  | b :: r => by
    have hb : Nat.beq b.toNat c.toNat = (b == c) := by
      rw [Bool.eq_iff_iff, Nat.beq_eq, beq_iff_eq]
      exact ⟨fun h => UInt8.toNat_inj.1 h, fun h => by rw [h]⟩
    have ih := cntB_eq c r
    unfold Lib.countByte at ih ⊢
    rw [List.count_cons]
    simp only [List.map_cons, cntB, hb, ih]
    cases b == c <;> rfl
theorem ok_ctb (h : e.St) {c : Go.Call} {f : FuncId} {xa ya : A} (hf : isCtb e.P f = true) (hcal : c.callee = .value (.func f)) (ha : allSome cA c.args.toList = some [xa, ya]) (ho : e.o.op = .call c) (us : List Nat) (d : Nat) :
    Res e (iCtb xa ya us e.clr d e.st) := by
  obtain ⟨x, y, hargs, hx, hy⟩ := args2 ha
  have hrx := h.rep hx
  have hry := h.rep hy
  unfold isCtb at hf
  cases hfn : e.P.funcs[f]? with
  | none => simp [hfn] at hf
  | some fn =>
  cases hbd : fn.body with
  | some b => simp [hfn, hbd] at hf
  | none =>
  simp only [hfn, hbd, Bool.and_eq_true, beq_iff_eq, Option.isNone_iff_eq_none] at hf
  obtain ⟨hn, hnx⟩ := hf
  show Res e (fun k kp => iCtb xa ya us e.clr d e.st k kp)
  simp only [iCtb]
  cases hgx : get e.st.tm xa with
  | st l =>
    rw [hgx] at hrx
    obtain ⟨s, hs, hl⟩ := RepA.st_inv hrx
    cases hgy : get e.st.tm ya with
    | it k n =>
      rw [hgy] at hry
      cases k with
      | u8 =>
        have hyv := RepA.it_inv hry
        have hrun : (execOp e.a.eval e.o).run e.P e.w = .ok (.value (.int .i64 (Int.ofNat (cntB (n.toNat % 256) l)))) e.w := by
          simp only [execOp, ho, resolve, hcal, Deferred.ofValue, Sem.run_bind, Act.eval, Sem.run_pure, Result.andThen_ok, invoke]
          have hname : (fn.name == "runtime.NumGoroutine") = false := by rw [hn]; decide
          have hrc := run_callFunc_extern (P := e.P) hfn hname (by simp [hbd]) hnx (ctb_find hn) #[.string s, .int .u8 n] e.w
          rw [Lib.run_countString] at hrc
          have hi : Int.ofNat (cntB (n.toNat % 256) l) = ((Lib.countByte s.data.toList n.toNat.toUInt8 : Nat) : Int) := by
            rw [← cntB_eq, hl]
            rfl
          rw [hi, hargs]
          simp only [List.map_toArray, List.map_cons, List.map_nil, hs, hyv, Array.append_empty, Array.empty_append]
          simpa using hrc
        exact Res.val h hrun (.c _ _ (.it _ _)) rfl
      | _ => exact .bad fun _ _ => rfl
    | _ => exact .bad fun _ _ => rfl
  | _ => exact .bad fun _ _ => rfl
end
end Ev
namespace Ev
variable [Glob]
open Go
theorem cHnd_form (P : Program) (o : Oper) : ∃ h xs, cHnd P o = .hnd h xs := by
  unfold cHnd
  repeat' (first | exact ⟨_, _, rfl⟩ | split)
theorem cIns_not {P : Program} {pol : Pol} {o : Oper} {i : I} (h : cIns P pol o = some i) (hn : ∀ h xs, i ≠ .hnd h xs) : cIns0 P pol o = some i := by
  obtain ⟨hh, xs, hq⟩ := cHnd_form P o
  unfold cIns at h
  split at h
  · simp only [Option.some.injEq] at h; subst h; exact absurd hq (hn _ _)
  · split at h
    · rename_i i' h0
      simp only [Option.some.injEq] at h; subst h; exact h0
    · simp only [Option.some.injEq] at h; subst h; exact absurd hq (hn _ _)
def bornE (g : G) (hp : Hp) (sz : Nat) : G := ⟨g.κ, fun id => if id = hp.next then .live ⟨0, 0, sz, 0⟩ else g.lf id⟩
theorem MemR.newEmpty {E : Ent} {g : G} {ν : Nat → Option Nat} {lo : Lo} {hp : Hp} {w : World} (h : MemR E g ν lo hp w) (sz : Nat) :
    MemR E (bornE g hp sz) ν lo (hnew hp ⟨sz, false, []⟩) w ∧ GLe g (bornE g hp sz) := by
  have hle : GLe g (bornE g hp sz) := ⟨fun _ _ _ x => x, fun id => by
    by_cases e : id = hp.next
    · rw [h.hr.unb id (by omega)]; trivial
    · simp only [bornE, e, if_false]; cases g.lf id <;> simp [Life.le]⟩
  have hl : ∀ id r, (bornE g hp sz).lf id = .live r → (id = hp.next ∧ r = ⟨0, 0, sz, 0⟩) ∨ (id ≠ hp.next ∧ g.lf id = .live r) := fun id r x => by
    simp only [bornE] at x
    split at x
    · cases x; exact .inl ⟨‹_›, rfl⟩
    · exact .inr ⟨‹_›, x⟩
  have hlm : ∀ id b, (bornE g hp sz).lf id = .mlive b → id ≠ hp.next ∧ g.lf id = .mlive b := fun id b x => by
    simp only [bornE] at x
    split at x
    · cases x
    · exact ⟨‹_›, x⟩
  have hown : ∀ b o, Own (bornE g hp sz) (hnew hp ⟨sz, false, []⟩) b o → Own g hp b o := by
    intro b o ⟨id, r, bk, k, x, y, z, u, v⟩
    rcases hl id r x with ⟨_, rfl⟩ | ⟨h1, h2⟩
    · simp at u
    · rw [hget_hnew, if_neg h1] at y
      exact ⟨id, r, bk, k, h2, y, z, u, v⟩
  refine ⟨⟨⟨h.hr.mp.mono (fun _ _ _ x => x) (fun _ _ x => x.mono hle) (fun id b x => (hlm id b x).2) (fun id b x => by rw [hget_hnew, if_neg (hlm id b x).1]), by simp only [hnew]; have := h.hr.lim; omega, fun id hid => by
      simp only [hnew] at hid
      rw [hget_hnew, if_neg (by omega)]; exact h.hr.nil id (by omega), fun id hid => by
      simp only [hnew] at hid
      simp only [bornE]; split
      · simp
      · exact h.hr.bnd id (by omega), h.hr.kap, fun id hid => by
      simp only [hnew] at hid
      simp only [bornE, show id ≠ hp.next by omega, if_false]; exact h.hr.unb id (by omega), fun id x => ?_, fun id r x => ?_, fun id id' r1 r2 b1 b2 hne x x' y y' z z' => ?_⟩, ⟨fun t cs b x h1 => ?_, h.lo.inj⟩, h.evo.trans ⟨hle, by simp [hnew], rfl, fun id hid => by rw [hget_hnew, if_neg (by have := h.hr.lim; omega)], Nat.le_refl _, fun _ _ _ x _ => x, fun _ _ _ _ _ => rfl, fun b o x => .inl (hown b o x), fun _ _ _ x => .inl x, ⟨rfl, rfl⟩, fun _ x => x, fun _ _ _ _ => rfl, fun b ⟨id, x⟩ => .inl ⟨id, (hlm id b x).2⟩⟩⟩, hle⟩
  · simp only [bornE] at x
    split at x
    · cases x
    · rename_i e; rw [hget_hnew, if_neg e]; exact h.hr.dead id x
  · rcases hl id r x with ⟨rfl, rfl⟩ | ⟨h1, h2⟩
    · exact ⟨⟨sz, false, []⟩, by rw [hget_hnew, if_pos rfl], ⟨rfl, Nat.le_refl _, fun e he => (by cases he), fun i j e c he => (by simp at he), fun _ k hk => (by simp at hk), fun q => (by cases q), fun _ hn => (by simp at hn)⟩⟩
    · obtain ⟨bk, k1, k2⟩ := h.hr.live id r h2
      exact ⟨bk, by rw [hget_hnew, if_neg h1]; exact k1, k2.grow hle (fun _ _ _ y => y) (fun _ _ _ _ => rfl) (fun _ _ y _ => y) (fun _ _ x => x)⟩
  · rcases hl id r1 x with ⟨_, rfl⟩ | ⟨h1, h2⟩
    · intro q; simp at q
    · rcases hl id' r2 x' with ⟨_, rfl⟩ | ⟨h1', h2'⟩
      · intro _ q; simp at q
      · rw [hget_hnew, if_neg h1] at y
        rw [hget_hnew, if_neg h1'] at y'
        exact h.hr.sep id id' r1 r2 b1 b2 hne h2 h2' y y' z z'
  · obtain ⟨h2, h3, h4, h5, h6⟩ := h.lo.box t cs b x h1
    exact ⟨h2.grow hle (fun _ _ y => y) (fun _ _ _ => rfl), h3, fun o y => h4 o (hown b o y), h5, h6⟩
theorem unf_frozen {w : World} {n b : Nat} (h : Unf n w b) (hn : n ≠ 1) (o : Nat) : w.frozen? ⟨b, o, none⟩ = false := by
  obtain ⟨C, e, fr, hb, hf⟩ := h
  have hf : fr.1 = fr.2 := hf.resolve_right fun q => hn q.1
  unfold World.frozen?
  rcases fr with ⟨lo, hi⟩
  simp only at hf; subst hf
  simp only [hb, Bool.and_eq_false_iff, decide_eq_false_iff_not]
  omega
theorem run_sameAddr_apart {P : Program} {w : World} {n m b b' o o' : Nat} (hne : b ≠ b') (h1 : Unf n w b) (hn : n ≠ 1) (h2 : Unf m w b') (hm : m ≠ 1) : (sameAddr (ad b o) (ad b' o')).run P w = .ok false w := by
  have f1 := unf_frozen h1 hn
  have f2 := unf_frozen h2 hm
  obtain ⟨C, e, fr, hb, _⟩ := h1
  obtain ⟨C', e', fr', hb', _⟩ := h2
  simp [sameAddr, ad, hne, f1, f2, noView, viewAt, World.shape?, hb, hb', mayBeOne, stringish]
theorem okBk_inv {hp : Hp} {id i off : Nat} (h : okBk hp id i off = true) : ∃ bk, hget hp id = some bk ∧ bk.fr = false ∧ bk.sz ≠ 1 ∧ i < bk.es.length ∧ off < bk.sz := by
  unfold okBk at h
  cases hb : hget hp id with
  | none => simp [hb] at h
  | some bk =>
    simp only [hb] at h
    cases hf : bk.fr with
    | true => simp [hf] at h
    | false =>
      simp only [hf, cond_false] at h
      cases hs : Nat.beq bk.sz 1 with
      | true => simp [hs] at h
      | false =>
        simp only [hs, cond_false] at h
        cases hi : Nat.blt i bk.es.length with
        | false => simp [hi] at h
        | true =>
          simp only [hi, cond_true] at h
          exact ⟨bk, rfl, hf, fun q => by rw [q] at hs; simp at hs, by simpa [Nat.blt_eq] using hi, by simpa [Nat.blt_eq] using h⟩
theorem okBk_at {g : G} {hp : Hp} {w : World} (hr : HR g hp w) {id i off : Nat} (h : okBk hp id i off = true) {vx : Value} (hx : RepA g (.pt id i off) vx) :
    ∃ r bk, vx = .pointer (some (ad r.b (r.base + i * r.sz + off))) ∧ g.lf id = .live r ∧ hget hp id = some bk ∧ bk.fr = false ∧ 0 < r.cap * r.sz ∧ Unf bk.sz w r.b ∧ bk.sz ≠ 1 ∧ off < r.sz := by
  obtain ⟨bk, h1, h2, h3, h4, h5⟩ := okBk_inv h
  obtain ⟨a, rfl, q⟩ := RepA.pt_inv hx
  rcases q with q | ⟨r, q, rfl⟩
  · rw [hr.dead id q] at h1; cases h1
  · obtain ⟨bk', e, z⟩ := hr.live id r q
    rw [h1] at e; cases e
    have hpos : 0 < r.cap * r.sz := Nat.mul_pos (by have := z.len; omega) (by rw [z.sz]; omega)
    exact ⟨r, bk, rfl, q, h1, h2, hpos, z.blk h2 hpos, h3, by rw [z.sz]; exact h5⟩
theorem off_inj {base sz i j o p : Nat} (h1 : o < sz) (h2 : p < sz) (h : base + i * sz + o = base + j * sz + p) : i = j ∧ o = p := by
  have hij : i = j := by
    rcases Nat.lt_trichotomy i j with q | q | q
    · have := Nat.mul_le_mul_right sz (show i + 1 ≤ j from q)
      rw [Nat.add_mul, Nat.one_mul] at this; omega
    · exact q
    · have := Nat.mul_le_mul_right sz (show j + 1 ≤ i from q)
      rw [Nat.add_mul, Nat.one_mul] at this; omega
  subst hij
  exact ⟨rfl, by omega⟩
theorem eqp_run {P : Program} {w : World} {g : G} {hp : Hp} {t : TypeId} {x y : V} {vx vy : Value} {r : Bool} (hq : qkOf P t = some .ptr) (hr : HR g hp w) (he : eqpV hp x y = some r) (hx : RepA g x vx) (hy : RepA g y vy) :
    vx ≠ .nilIface ∧ (∀ a, vx ≠ .agg a) ∧ (∀ op, isEq op = true → ∃ cv, (binOp op t vx vy).run P w = .ok cv w ∧ RepA g (eqRes op r) cv) := by
  have old : eqv .ptr x y = some r → vx ≠ .nilIface ∧ (∀ a, vx ≠ .agg a) ∧ (∀ op, isEq op = true → ∃ cv, (binOp op t vx vy).run P w = .ok cv w ∧ RepA g (eqRes op r) cv) := fun h =>
    (eqv_run hq (by simp) h hx hy).2
  cases x with
  | np => cases y with
    | np => exact old he
    | pt => exact old he
    | _ => simp [eqpV] at he
  | pt id i o => cases y with
    | np => exact old he
    | pt id' j p =>
      simp only [eqpV] at he
      cases k1 : okBk hp id i o with
      | false => simp [k1] at he
      | true =>
        cases k2 : okBk hp id' j p with
        | false => simp [k1, k2] at he
        | true =>
          simp only [k1, k2, cond_true, Option.some.injEq] at he
          obtain ⟨r1, b1, rfl, l1, g1, f1, p1, u1, s1, o1⟩ := okBk_at hr k1 hx
          obtain ⟨r2, b2, rfl, l2, g2, f2, p2, u2, s2, o2⟩ := okBk_at hr k2 hy
          have hs : (sameAddr (ad r1.b (r1.base + i * r1.sz + o)) (ad r2.b (r2.base + j * r2.sz + p))).run P w = .ok r w := by
            by_cases e : id = id'
            · subst e
              rw [l1] at l2; cases l2
              rw [beqT rfl, cond_true] at he
              subst he
              have : (ad r1.b (r1.base + i * r1.sz + o) == ad r1.b (r1.base + j * r1.sz + p)) = (Nat.beq i j && Nat.beq o p) := by
                rw [Bool.eq_iff_iff]
                simp only [beq_iff_eq, Bool.and_eq_true, Nat.beq_eq]
                constructor
                · intro h
                  simp only [ad, Addr.mk.injEq, true_and, and_true] at h
                  exact off_inj o1 o2 h
                · rintro ⟨rfl, rfl⟩; rfl
              rw [← this]
              simp [sameAddr, ad]
            · rw [beqF e, cond_false] at he
              subst he
              exact run_sameAddr_apart (hr.sep id id' r1 r2 b1 b2 e l1 l2 g1 g2 f1 f2 p1 p2) u1 s1 u2 s2
          unfold qkOf at hq
          cases hu : P.underlying t with
          | none => simp [hu] at hq
          | some d =>
            rw [hu] at hq
            cases d <;> simp only [reduceCtorEq, Option.some.injEq] at hq
            case struct fs =>
              cases hk : flatS P fs.toList with
              | none => simp [hk] at hq
              | some ks => simp only [hk] at hq; split at hq <;> simp at hq
            case pointer el =>
              cases hi : P.info? el with
              | none => simp [hi] at hq
              | some inf =>
                simp only [hi] at hq
                split at hq
                · cases hq
                · rename_i hz
                  have heq : (Op.equal t (.pointer (some (ad r1.b (r1.base + i * r1.sz + o)))) (.pointer (some (ad r2.b (r2.base + j * r2.sz + p))))).run P w = .ok r w := by
                    have : ∀ d, (Op.equalIn (d + 1) t (.pointer (some (ad r1.b (r1.base + i * r1.sz + o)))) (.pointer (some (ad r2.b (r2.base + j * r2.sz + p))))).run P w = .ok r w := fun d => by
                      simp [Op.equalIn, run_underlying hu, Go.sizeOf, typeInfo, hi, hz, hs]
                    exact this 9999
                  refine ⟨by simp, by simp, fun op hop => ?_⟩
                  cases op <;> simp only [isEq, Bool.false_eq_true] at hop
                  · exact ⟨.bool r, by simp [binOp, heq], .c _ _ (.bo _)⟩
                  · exact ⟨.bool (!r), by simp [binOp, heq], .c _ _ (.bo _)⟩
    | _ => simp [eqpV] at he
  | _ => simp [eqpV] at he
theorem eqAll_split : ∀ (ks ks' : List Nat) (xs ys : List V) (r : Bool), eqAll (ks ++ ks') xs ys = some r →
    ∃ r1 r2, eqAll ks (xs.take ks.length) (ys.take ks.length) = some r1 ∧ eqAll ks' (xs.drop ks.length) (ys.drop ks.length) = some r2 ∧ r = (r1 && r2) ∧ ks.length ≤ xs.length ∧ ks.length ≤ ys.length
  | [], ks', xs, ys, r, h => ⟨true, r, by simp [eqAll], by simpa using h, by simp, by simp, by simp⟩
  | k :: ks, ks', [], ys, r, h => by simp only [List.cons_append, eqAll, reduceCtorEq] at h
  | k :: ks, ks', x :: xs, [], r, h => by
    simp only [List.cons_append] at h
    cases x <;> simp only [eqAll, reduceCtorEq] at h
  | k :: ks, ks', x :: xs, y :: ys, r, h => by
    simp only [List.cons_append] at h
    match k with
    | 0 =>
      cases x <;> try (simp only [eqAll, reduceCtorEq] at h; done)
      cases y <;> try (simp only [eqAll, reduceCtorEq] at h; done)
      rename_i k1 a k2 b
      simp only [eqAll] at h
      cases hk : keq k1 k2 with
      | false => simp [hk] at h
      | true =>
        simp only [hk, cond_true] at h
        cases he : eqAll (ks ++ ks') xs ys with
        | none => simp [he] at h
        | some r' =>
          simp only [he, Option.some.injEq] at h; subst h
          obtain ⟨r1, r2, h1, h2, rfl, h3, h4⟩ := eqAll_split ks ks' xs ys r' he
          exact ⟨ieq a b && r1, r2, by simp [eqAll, hk, h1], by simpa using h2, by rw [Bool.and_assoc], by simpa using h3, by simpa using h4⟩
    | 1 =>
      cases x <;> try (simp only [eqAll, reduceCtorEq] at h; done)
      cases y <;> try (simp only [eqAll, reduceCtorEq] at h; done)
      rename_i a b
      simp only [eqAll] at h
      cases he : eqAll (ks ++ ks') xs ys with
      | none => simp [he] at h
      | some r' =>
        simp only [he, Option.some.injEq] at h; subst h
        obtain ⟨r1, r2, h1, h2, rfl, h3, h4⟩ := eqAll_split ks ks' xs ys r' he
        exact ⟨beqL a b && r1, r2, by simp [eqAll, h1], by simpa using h2, by rw [Bool.and_assoc], by simpa using h3, by simpa using h4⟩
    | 2 =>
      cases x <;> try (simp only [eqAll, reduceCtorEq] at h; done)
      cases y <;> try (simp only [eqAll, reduceCtorEq] at h; done)
      rename_i a b
      simp only [eqAll] at h
      cases he : eqAll (ks ++ ks') xs ys with
      | none => simp [he] at h
      | some r' =>
        simp only [he, Option.some.injEq] at h; subst h
        obtain ⟨r1, r2, h1, h2, rfl, h3, h4⟩ := eqAll_split ks ks' xs ys r' he
        exact ⟨(a == b) && r1, r2, by simp [eqAll, h1], by simpa using h2, by rw [Bool.and_assoc], by simpa using h3, by simpa using h4⟩
    | n + 3 => cases x <;> cases y <;> simp [eqAll] at h
def At (g : G) (arr : Array Value) (off : Nat) (xs : List V) : Prop := off + xs.length ≤ arr.size ∧ ∀ (i : Nat) (c : V), xs[i]? = some c → RepA g c (arr.getD (off + i) undef)
theorem At.take {g : G} {arr : Array Value} {off n : Nat} {xs : List V} (h : At g arr off xs) (hn : n ≤ xs.length) : At g arr off (xs.take n) := by
  refine ⟨by have := h.1; rw [List.length_take]; omega, fun i c hc => ?_⟩
  have := lt_of_get hc
  rw [List.getElem?_take_of_lt (by simp at this; omega)] at hc
  exact h.2 i c hc
theorem At.drop {g : G} {arr : Array Value} {off n : Nat} {xs : List V} (h : At g arr off xs) (hn : n ≤ xs.length) : At g arr (off + n) (xs.drop n) := by
  refine ⟨by have := h.1; rw [List.length_drop]; omega, fun i c hc => ?_⟩
  rw [List.getElem?_drop] at hc
  rw [Nat.add_assoc]; exact h.2 (n + i) c hc
theorem At.extract {g : G} {arr : Array Value} {off n : Nat} {xs : List V} (h : At g arr off xs) (hn : xs.length = n) : At g (arr.extract off (off + n)) 0 xs := by
  have h1 := h.1
  refine ⟨by rw [Array.size_extract]; omega, fun i c hc => ?_⟩
  have hi := lt_of_get hc
  have := h.2 i c hc
  rw [Array.getD_eq_getD_getElem?] at this ⊢
  rw [Nat.zero_add, Array.getElem?_extract, if_pos (by omega)]
  exact this
theorem run_part_one {P : Program} {w : World} {t : TypeId} {d : TypeDesc} (hu : P.underlying t = some d) (hd : (∃ k, d = .int k) ∨ d = .string ∨ d = .bool) {g : G} {xs : Array Value} {n : Nat} {x : V} (h : At g xs n [x]) : (part t xs n).run P w = .ok (xs.getD n undef) w := by
  refine part_one hu hd ?_
  have : n < xs.size := by have := h.1; simp at this; omega
  simp [Array.getD_eq_getD_getElem?, Array.getElem?_eq_getElem this]
def FlatT (P : Program) (n : Nat) : Prop := ∀ (t : TypeId) (ks : List Nat), flatT P n t = some ks → ∀ (w : World) (g : G) (d : Nat), n ≤ d → ∀ (ax ay : Array Value) (off : Nat) (xs ys : List V) (r : Bool), At g ax off xs → At g ay off ys → eqAll ks xs ys = some r →
  ∃ vx vy, (part t ax off).run P w = .ok vx w ∧ (part t ay off).run P w = .ok vy w ∧ (Op.equalIn d t vx vy).run P w = .ok r w
def FlatFs (P : Program) (n : Nat) : Prop := ∀ (fs : List Field) (off : Nat) (ks : List Nat), flatFs P n off fs = some ks → ∀ (w : World) (g : G) (d : Nat), n ≤ d → ∀ (ax ay : Array Value) (xs ys : List V) (r : Bool), At g ax off xs → At g ay off ys → eqAll ks xs ys = some r →
  (Op.eqFields d ax ay fs).run P w = .ok r w
theorem eqAll_len : ∀ {ks : List Nat} {xs ys : List V} {r : Bool}, eqAll ks xs ys = some r → xs.length = ks.length ∧ ys.length = ks.length := by
  intro ks xs ys r h
  obtain ⟨r1, r2, h1, h2, _, h3, h4⟩ := eqAll_split ks [] xs ys r (by simpa using h)
  have hx : xs.drop ks.length = [] := by
    cases hd : xs.drop ks.length with
    | nil => rfl
    | cons => rw [hd] at h2; simp [eqAll] at h2
  have hy : ys.drop ks.length = [] := by
    cases hd : ys.drop ks.length with
    | nil => rfl
    | cons => rw [hx, hd] at h2; simp [eqAll] at h2
  have l1 := congrArg List.length hx
  have l2 := congrArg List.length hy
  simp at l1 l2
  omega
theorem flat_ok (P : Program) : ∀ n, FlatT P n ∧ FlatFs P n := by
  intro n
  induction n with
  | zero => exact ⟨fun t ks h => by simp [flatT] at h, fun fs off ks h => by simp [flatFs] at h⟩
  | succ n ih =>
    obtain ⟨ihT, ihF⟩ := ih
    refine ⟨fun t ks h w g d hd ax ay off xs ys r hx hy he => ?_, fun fs off ks h w g d hd ax ay xs ys r hx hy he => ?_⟩
    · obtain ⟨d, rfl⟩ : ∃ d', d = d' + 1 := ⟨d - 1, by omega⟩
      simp only [flatT] at h
      cases hu : P.underlying t with
      | none => simp [hu] at h
      | some de =>
        simp only [hu] at h
        obtain ⟨lx, ly⟩ := eqAll_len he
        cases de <;> simp only [Option.some.injEq, reduceCtorEq] at h
        case int k =>
          subst h
          obtain ⟨x, rfl⟩ : ∃ x, xs = [x] := List.length_eq_one_iff.1 (by simpa using lx)
          obtain ⟨y, rfl⟩ : ∃ y, ys = [y] := List.length_eq_one_iff.1 (by simpa using ly)
          have rx := hx.2 0 x rfl
          have ry := hy.2 0 y rfl
          rw [Nat.add_zero] at rx ry
          refine ⟨_, _, run_part_one hu (.inl ⟨_, rfl⟩) hx, run_part_one hu (.inl ⟨_, rfl⟩) hy, ?_⟩
          cases x <;> try (simp only [eqAll, reduceCtorEq] at he; done)
          cases y <;> try (simp only [eqAll, reduceCtorEq] at he; done)
          rename_i k1 a k2 b
          simp only [eqAll] at he
          cases hk : keq k1 k2 with
          | false => simp [hk] at he
          | true =>
            simp only [hk, cond_true, Bool.and_true, Option.some.injEq] at he; subst he
            have hkk := keq_eq hk; subst hkk
            rw [RepA.it_inv rx, RepA.it_inv ry, ieq_eq]
            simp [Op.equalIn, run_underlying hu]
        case string =>
          subst h
          obtain ⟨x, rfl⟩ : ∃ x, xs = [x] := List.length_eq_one_iff.1 (by simpa using lx)
          obtain ⟨y, rfl⟩ : ∃ y, ys = [y] := List.length_eq_one_iff.1 (by simpa using ly)
          have rx := hx.2 0 x rfl
          have ry := hy.2 0 y rfl
          rw [Nat.add_zero] at rx ry
          refine ⟨_, _, run_part_one hu (.inr (.inl rfl)) hx, run_part_one hu (.inr (.inl rfl)) hy, ?_⟩
          cases x <;> try (simp only [eqAll, reduceCtorEq] at he; done)
          cases y <;> try (simp only [eqAll, reduceCtorEq] at he; done)
          rename_i a b
          simp only [eqAll, Bool.and_true, Option.some.injEq] at he; subst he
          obtain ⟨sa, ea, ha⟩ := RepA.st_inv rx
          obtain ⟨sb, eb, hb⟩ := RepA.st_inv ry
          rw [ea, eb, ← ha, ← hb, beqL_bytes]
          rw [run_equalIn_string w d t sa sb hu]
          simp [ByteArray.toList_eq]
        case bool =>
          subst h
          obtain ⟨x, rfl⟩ : ∃ x, xs = [x] := List.length_eq_one_iff.1 (by simpa using lx)
          obtain ⟨y, rfl⟩ : ∃ y, ys = [y] := List.length_eq_one_iff.1 (by simpa using ly)
          have rx := hx.2 0 x rfl
          have ry := hy.2 0 y rfl
          rw [Nat.add_zero] at rx ry
          refine ⟨_, _, run_part_one hu (.inr (.inr rfl)) hx, run_part_one hu (.inr (.inr rfl)) hy, ?_⟩
          cases x <;> try (simp only [eqAll, reduceCtorEq] at he; done)
          cases y <;> try (simp only [eqAll, reduceCtorEq] at he; done)
          simp only [eqAll, Bool.and_true, Option.some.injEq] at he; subst he
          rw [RepA.bo_inv rx, RepA.bo_inv ry]
          simp [Op.equalIn, run_underlying hu]
        case struct fs =>
          split at h
          · cases h
          · rename_i hst
            cases hf : flatFs P n 0 fs.toList with
            | none => simp [hf] at h
            | some ks' =>
              simp only [hf] at h
              split at h
              · rename_i hsz
                simp only [Option.some.injEq] at h; subst h
                have hag : ∀ w, (Go.isAgg t).run P w = .ok true w := fun w => by simp [Go.isAgg, run_underlying hu]
                have hp : ∀ a : Array Value, (part t a off).run P w = .ok (.agg (a.extract off (off + ks'.length))) w := fun a => by
                  simp [part, hag, run_size hsz]
                refine ⟨_, _, hp ax, hp ay, ?_⟩
                have hfo : P.fieldsOf t = fs := by simp [Program.fieldsOf, hu]
                rw [run_equalIn_struct w d t _ _ (by rw [hfo]; exact hu) (by simpa using hst), hfo]
                exact ihF fs.toList 0 ks' hf w g d (by omega) _ _ xs ys r (hx.extract lx) (hy.extract ly) he
              · cases h
    · cases fs with
      | nil =>
        simp only [flatFs, Option.some.injEq] at h; subst h
        obtain ⟨lx, ly⟩ := eqAll_len he
        have : xs = [] := List.eq_nil_of_length_eq_zero lx
        have : ys = [] := List.eq_nil_of_length_eq_zero ly
        subst_vars
        simp only [eqAll, Option.some.injEq] at he; subst he
        simp [Op.eqFields]
      | cons f fs =>
        simp only [flatFs] at h
        split at h
        · cases h
        · rename_i hc
          simp only [not_or, Decidable.not_not] at hc
          obtain ⟨hn, ho⟩ := hc
          cases h1 : flatT P n f.type with
          | none => simp [h1] at h
          | some k1 =>
            cases h2 : flatFs P n (off + k1.length) fs with
            | none => simp [h1, h2] at h
            | some k2 =>
              simp only [h1, h2, Option.some.injEq] at h; subst h
              obtain ⟨r1, r2, e1, e2, rfl, l1, l2⟩ := eqAll_split k1 k2 xs ys r he
              obtain ⟨vx, vy, p1, p2, p3⟩ := ihT f.type k1 h1 w g d (by omega) ax ay off _ _ r1 (hx.take l1) (hy.take l2) e1
              have p4 := ihF fs (off + k1.length) k2 h2 w g d (by omega) ax ay _ _ r2 (hx.drop l1) (hy.drop l2) e2
              simp only [Op.eqFields, ne_eq, hn, not_false_eq_true, if_true, Sem.run_bind, ho, p1, p2, p3, Result.andThen_ok]
              cases r1 with
              | true => simp [p4]
              | false => simp
theorem eqa_run {P : Program} {w : World} {g : G} {t : TypeId} {fs : Array Field} {ks : List Nat} {xs ys : List V} {r : Bool} (hu : P.underlying t = some (.struct fs)) (hf : flatT P 40 t = some ks) (hr : eqAll ks xs ys = some r) {ax ay : Array Value}
    (hx : At g ax 0 xs) (hy : At g ay 0 ys) : (Op.equalIn 10000 t (.agg ax) (.agg ay)).run P w = .ok r w := by
  simp only [flatT, hu] at hf
  split at hf
  · cases hf
  · rename_i hst
    cases h1 : flatFs P 39 0 fs.toList with
    | none => simp [h1] at hf
    | some ks' =>
      simp only [h1] at hf
      split at hf
      · simp only [Option.some.injEq] at hf; subst hf
        have hfo : P.fieldsOf t = fs := by simp [Program.fieldsOf, hu]
        rw [run_equalIn_struct w 9999 t _ _ (by rw [hfo]; exact hu) (by simpa using hst), hfo]
        exact (flat_ok P 39).2 fs.toList 0 ks' h1 w g 9999 (by omega) ax ay xs ys r hx hy hr
      · cases hf
theorem keyLen_inv {P : Program} {k : TypeId} {n : Nat} (h : keyLen P k = some n) : ∃ fs ks, P.underlying k = some (.struct fs) ∧ flatS P fs.toList = some ks ∧ P.stoodInHeld k = false ∧ inRow 0 fs.toList = true ∧ (∀ x, x ∈ ks → x = 0) ∧ ks.length = n ∧ 0 < n := by
  unfold keyLen at h
  split at h
  · rename_i fs hu
    split at h
    · rename_i k0 ks hf
      split at h
      · cases h
      · rename_i hc
        simp only [Bool.or_eq_true, not_or, Bool.not_eq_true, Bool.not_eq_true', Bool.not_eq_false] at hc
        simp only [Option.some.injEq] at h
        refine ⟨fs, _, hu, hf, hc.1, hc.2.1, fun x hx => ?_, h, by simp at h; omega⟩
        have := List.all_eq_true.1 hc.2.2 x hx
        exact (Nat.eq_of_beq_eq_true this).symm
    · cases h
  · cases h
theorem keyNs_inv : ∀ {n : Nat} {cs : List V} {l : List Nat}, keyNs n cs = some l → cs = l.map (fun a => .it .i64 (Int.ofNat a)) ∧ l.length = n
  | 0, [], l, h => by simp only [keyNs, Option.some.injEq] at h; subst h; exact ⟨rfl, rfl⟩
  | 0, _ :: _, l, h => by simp [keyNs] at h
  | n + 1, [], l, h => by simp [keyNs] at h
  | n + 1, x :: r, l, h => by
    cases x <;> try (simp [keyNs] at h; done)
    rename_i k m
    cases k <;> try (simp [keyNs] at h; done)
    cases m <;> try (simp [keyNs] at h; done)
    rename_i a
    simp only [keyNs] at h
    cases hr : keyNs n r with
    | none => simp [hr] at h
    | some l' =>
      simp only [hr, Option.some.injEq] at h; subst h
      obtain ⟨rfl, h2⟩ := keyNs_inv hr
      exact ⟨rfl, by simp [h2]⟩
theorem key_val {g : G} {n : Nat} {v : V} {l : List Nat} {cv : Value} (h : keyOf n v = some l) (hr : RepA g v cv) : cv = keyV l ∧ l.length = n := by
  cases v <;> simp only [keyOf, reduceCtorEq] at h
  rename_i cs
  obtain ⟨rfl, h2⟩ := keyNs_inv h
  obtain ⟨arr, rfl, h3, _, h5⟩ := RepA.ag_inv hr
  refine ⟨?_, h2⟩
  unfold keyV
  congr 1
  apply Array.ext
  · simp [h3]
  · intro i hi hj
    have := h5 i (.it .i64 (Int.ofNat (l[i]'(by simp at hj; exact hj)))) (by rw [List.getElem?_map, List.getElem?_eq_getElem (by simp at hj; exact hj)]; rfl)
    have := RepA.it_inv this
    rw [Array.getD_eq_getD_getElem?, Array.getElem?_eq_getElem hi] at this
    simpa using this
theorem key_at {g : G} (l : List Nat) : At g (l.map fun a => Value.int .i64 (Int.ofNat a)).toArray 0 (l.map fun a => V.it .i64 (Int.ofNat a)) := by
  refine ⟨by simp, fun i c hc => ?_⟩
  have hi := lt_of_get hc
  simp at hi
  simp only [List.getElem?_map, List.getElem?_eq_getElem hi, Option.map_some, Option.some.injEq] at hc
  subst hc
  rw [Nat.zero_add, Array.getD_eq_getD_getElem?]
  simp only [List.getElem?_toArray, List.getElem?_map, List.getElem?_eq_getElem hi, Option.map_some, Option.getD_some]
  exact .c _ _ (.it _ _)
theorem eqAll_zeros : ∀ (ks l l' : List Nat), (∀ x, x ∈ ks → x = 0) → l.length = ks.length → l'.length = ks.length → eqAll ks (l.map fun a => V.it .i64 (Int.ofNat a)) (l'.map fun a => V.it .i64 (Int.ofNat a)) = some (beqL l' l)
  | [], l, l', _, h1, h2 => by
    have e1 : l = [] := List.eq_nil_of_length_eq_zero h1
    have e2 : l' = [] := List.eq_nil_of_length_eq_zero h2
    subst e1; subst e2; rfl
  | k :: ks, [], _, _, h1, _ => by simp at h1
  | k :: ks, _ :: _, [], _, _, h2 => by simp at h2
  | k :: ks, a :: l, b :: l', hk, h1, h2 => by
    have hk0 := hk k (by simp)
    subst hk0
    have ih := eqAll_zeros ks l l' (fun x hx => hk x (by simp [hx])) (by simpa using h1) (by simpa using h2)
    simp only [List.map_cons, eqAll, keq, cond_true, ih, beqL]
    congr 1
    have : ieq (Int.ofNat a) (Int.ofNat b) = Nat.beq b a := by
      show Nat.beq a b = Nat.beq b a
      rw [Bool.eq_iff_iff, Nat.beq_eq, Nat.beq_eq]; exact eq_comm
    rw [this]
    cases Nat.beq b a <;> rfl
theorem key_equal {P : Program} {w : World} {k : TypeId} {n : Nat} (hk : keyLen P k = some n) {l l' : List Nat} (h1 : l.length = n) (h2 : l'.length = n) : (Op.equal k (keyV l) (keyV l')).run P w = .ok (beqL l' l) w := by
  obtain ⟨fs, ks, q1, q2, q3, q4, q5, q6, _⟩ := keyLen_inv hk
  have hfo : P.fieldsOf k = fs := by simp [Program.fieldsOf, q1]
  show (Op.equalIn 10000 k (.agg _) (.agg _)).run P w = _
  rw [run_equalIn_struct w 9999 k _ _ (by rw [hfo]; exact q1) q3, hfo]
  have a1 := key_at (g := ⟨fun _ _ => none, fun _ => .unb⟩) l
  have a2 := key_at (g := ⟨fun _ _ => none, fun _ => .unb⟩) l'
  exact eqFields_ok 9998 fs.toList 0 ks _ _ _ q2 q4 (by simp) (by simp) (fun i c hc => by have := a1.2 i c hc; exact this) (fun i c hc => by have := a2.2 i c hc; exact this) (eqAll_zeros ks l l' q5 (by omega) (by omega))
theorem key_check {P : Program} {w : World} {k : TypeId} {n : Nat} (hk : keyLen P k = some n) (em : Bool) {l : List Nat} (h1 : l.length = n) : (Instr.checkKey em 10000 k (keyV l)).run P w = .ok () w := by
  obtain ⟨fs, ks, q1, q2, q3, q4, q5, q6, _⟩ := keyLen_inv hk
  have a1 := key_at (g := ⟨fun _ _ => none, fun _ => .unb⟩) l
  have each : ∀ (L : List Field) (off : Nat) (ks : List Nat), flatS P L = some ks → inRow off L = true → (∀ x, x ∈ ks → x = 0) → off + ks.length ≤ l.length →
      ∀ f ∈ L, f.name ≠ "_" ∧ ∃ v, (part f.type (l.map fun a => Value.int .i64 (Int.ofNat a)).toArray f.offset).run P w = .ok v w ∧ (Instr.checkKey em 9999 f.type v).run P w = .ok () w := by
    intro L
    induction L with
    | nil => intro off ks _ _ _ _ f hf; cases hf
    | cons f L ih =>
      intro off ks hf hr hz hl
      simp only [flatS] at hf
      cases hu : P.underlying f.type with
      | none => simp [hu] at hf
      | some de =>
        cases hk' : flatS P L with
        | none => simp [hu, hk'] at hf
        | some ks' =>
          simp only [hu, hk'] at hf
          by_cases f3 : f.name = "_"
          · simp [f3] at hf
          · simp only [f3, if_false] at hf
            simp only [inRow, Bool.and_eq_true] at hr
            have ho : f.offset = off := Nat.eq_of_beq_eq_true hr.1
            cases de <;> simp only [Option.some.injEq, reduceCtorEq] at hf <;> subst hf
            case int kk =>
              have hlt : off < l.length := by simp at hl; omega
              intro f' hf'
              rcases List.mem_cons.1 hf' with rfl | hf'
              · refine ⟨f3, .int .i64 (Int.ofNat l[off]), ?_, ?_⟩
                · refine part_one hu (.inl ⟨_, rfl⟩) ?_
                  rw [ho]; simp [List.getElem?_eq_getElem hlt]
                · have ck : ∀ n v, (Instr.checkKey em (n + 1) f'.type v).run P w = .ok () w := fun n v => by simp [Instr.checkKey, run_underlying hu]
                  exact ck 9998 _
              · exact ih (off + 1) ks' hk' hr.2 (fun x hx => hz x (by simp [hx])) (by simp at hl; omega) f' hf'
            case bool => have := hz 2 (by simp); omega
            case string => have := hz 1 (by simp); omega
  have each := each fs.toList 0 ks q2 q4 q5 (by omega)
  show (Instr.checkKey em (9999 + 1) k (.agg _)).run P w = _
  rw [Instr.checkKey]
  simp only [Sem.run_bind, run_underlying q1, Result.andThen_ok]
  rw [← Array.forIn_toList]
  generalize fs.toList = L at each
  induction L with
  | nil => simp
  | cons f L ih =>
    obtain ⟨hn, v, p1, p2⟩ := each f (by simp)
    simp only [List.forIn_cons, Sem.run_bind, hn, ne_eq, not_false_eq_true, if_true, Result.andThen_ok, p1, p2, Sem.run_pure]
    exact ih (fun y hy => each y (by simp [hy]))
theorem sameBits_int (n : Nat) (k : IntKind) (a : Int) : Instr.sameBits n (.int k a) (.int k a) = true := by
  cases n <;> simp [Instr.sameBits]
theorem key_stays {P : Program} {w : World} (l : List Nat) : (Instr.keyThatStays (keyV l) (keyV l)).run P w = .ok (keyV l) w := by
  have hs : Instr.sameBits 10000 (keyV l) (keyV l) = true := by
    show Instr.sameBits (9999 + 1) (.agg _) (.agg _) = true
    simp only [Instr.sameBits, beq_self_eq_true, Bool.true_and, List.all_eq_true]
    intro p hp
    obtain ⟨i, hi, e⟩ := List.getElem_of_mem hp
    rw [List.getElem_zip] at e
    rw [← e]
    simp only [List.getElem_map]
    exact sameBits_int 9999 _ _
  simp only [Instr.keyThatStays, hs, if_true, Sem.run_pure]
theorem key_find {P : Program} {w : World} {g : G} {k : TypeId} {n : Nat} (hk : keyLen P k = some n) {l : List Nat} (hl : l.length = n) : ∀ (rows : List (List V)) (es : List MapEntry) (i0 : Nat), es.length = rows.length →
    (∀ (i : Nat) (x : List V), rows[i]? = some x → ∃ (l' : List Nat) (v : V) (e : MapEntry), x = [.st l', v] ∧ v.keep = true ∧ es[i]? = some e ∧ (l'.length = n ∧ e.key = keyV l') ∧ RepA g v e.val) →
    (mapGet l rows = none ∧ (Instr.findAsking k (keyV l) es i0).run P w = .ok none w ∧ ∀ v, mapPut l v rows = rows ++ [[.st l, v]]) ∨
    (∃ (i : Nat) (u : V) (e : MapEntry), mapGet l rows = some u ∧ rows[i]? = some [.st l, u] ∧ es[i]? = some e ∧ e.key = keyV l ∧ RepA g u e.val ∧ u.keep = true ∧ (Instr.findAsking k (keyV l) es i0).run P w = .ok (some (i0 + i, e.val)) w ∧ ∀ v, mapPut l v rows = rows.set i [.st l, v]) := by
  intro rows
  induction rows with
  | nil =>
    intro es i0 hn _
    have : es = [] := List.eq_nil_of_length_eq_zero hn
    subst this
    exact .inl ⟨rfl, by simp [Instr.findAsking], fun v => rfl⟩
  | cons x rows ih =>
    intro es i0 hn h
    cases es with
    | nil => simp at hn
    | cons e es =>
      obtain ⟨l', v, e', q1, q2, q3, ⟨q4, q5⟩, q6⟩ := h 0 x rfl
      simp only [List.getElem?_cons_zero, Option.some.injEq] at q3; subst q3; subst q1
      have heq : (Op.equal k (keyV l) e.key).run P w = .ok (beqL l' l) w := by rw [q5]; exact key_equal hk hl q4
      cases hb : beqL l' l with
      | true =>
        have hkl : l' = l := by rw [beqL_eq] at hb; simpa using hb
        subst hkl
        exact .inr ⟨0, v, e, by simp [mapGet, hb], rfl, rfl, q5, q6, q2, by simp [Instr.findAsking, heq, hb], fun u => by simp [mapPut, hb]⟩
      | false =>
        rcases ih es (i0 + 1) (by simpa using hn) (fun i x hx => by simpa using h (i + 1) x (by simpa using hx)) with ⟨a1, a2, a3⟩ | ⟨i, u, e2, a1, a2, a3, a4, a6, a7, a8, a9⟩
        · exact .inl ⟨by simp [mapGet, hb, a1], by simp [Instr.findAsking, heq, hb, a2], fun v' => by simp [mapPut, hb, a3]⟩
        · exact .inr ⟨i + 1, u, e2, by simp [mapGet, hb, a1], by simpa using a2, by simpa using a3, a4, a6, a7, by simp [Instr.findAsking, heq, hb, a8]; omega, fun v' => by simp [mapPut, hb, a9]⟩
theorem key_row {g : G} {m n : Nat} {x : List V} {oe : Option MapEntry} (hn : m = n + 2) (h0 : 0 < n) (h : ∃ (l : List Nat) (v : V) (e : MapEntry), x = [.st l, v] ∧ v.keep = true ∧ oe = some e ∧ KeyR m l e.key ∧ RepA g v e.val) :
    ∃ (l : List Nat) (v : V) (e : MapEntry), x = [.st l, v] ∧ v.keep = true ∧ oe = some e ∧ (l.length = n ∧ e.key = keyV l) ∧ RepA g v e.val := by
  obtain ⟨l, v, e, q1, q2, q3, q4, q5⟩ := h
  rcases q4 with ⟨k, _⟩ | ⟨_, k, k2⟩
  · omega
  · exact ⟨l, v, e, q1, q2, q3, ⟨by omega, k2⟩, q5⟩
section
variable {e : Env}
theorem bin_of {P : Program} {w : World} {op : BinOp} {t : TypeId} {x y : Value} {r : Bool} {g : G} (hop : isEq op = true) (h : (Op.equal t x y).run P w = .ok r w) (h1 : ∀ k n, x ≠ .int k n) (h2 : ∀ s, x ≠ .string s) (h3 : ∀ k n, x ≠ .float k n) (h4 : ∀ k a b, x ≠ .complex k a b) :
    ∃ cv, (binOp op t x y).run P w = .ok cv w ∧ RepA g (eqRes op r) cv := by
  cases op <;> simp only [isEq, Bool.false_eq_true] at hop
  · refine ⟨.bool r, ?_, .c _ _ (.bo _)⟩
    have : binOp .eql t x y = (do pure (.bool (← Op.equal t x y))) := by
      unfold binOp
      split <;> first | rfl | (exfalso; first | exact h1 _ _ rfl | exact h2 _ rfl | exact h3 _ _ rfl | exact h4 _ _ _ rfl | simp_all)
    simp [this, h]
  · refine ⟨.bool (!r), ?_, .c _ _ (.bo _)⟩
    have : binOp .neq t x y = (do pure (.bool (!(← Op.equal t x y)))) := by
      unfold binOp
      split <;> first | rfl | (exfalso; first | exact h1 _ _ rfl | exact h2 _ rfl | exact h3 _ _ rfl | exact h4 _ _ _ rfl | simp_all)
    simp [this, h]
theorem eqRes_lp (op : BinOp) (r : Bool) : isLp (eqRes op r) = false := by cases op <;> rfl
theorem isNf_inv {y : Operand} (h : isNf y = true) : y = .const .nilIface := by
  unfold isNf at h
  split at h
  · rfl
  · cases h
theorem isNs_inv {y : Operand} (h : isNs y = true) : y = .const (.slice none 0 0) := by
  unfold isNs at h
  split at h
  · rfl
  · cases h
theorem isZero_inv {y : Operand} (h : isZero y = true) : y = .const (.int .i64 0) := by
  unfold isZero at h
  split at h
  · rfl
  · cases h
theorem kMap_inv {P : Program} {t : TypeId} {n : Nat} (h : kMap P t = some n) : ∃ k el, P.underlying t = some (.map k el) ∧ keyLen P k = some n := by
  unfold kMap at h
  split at h
  · rename_i k el hu; exact ⟨k, el, hu, h⟩
  · cases h
theorem run_findKey_key {P : Program} {w : World} {k : TypeId} {n : Nat} (hk : keyLen P k = some n) (x : Value) (es : List MapEntry) : (Instr.findKey k x es).run P w = (Instr.findAsking k x es).run P w := by
  obtain ⟨fs, _, hu, _⟩ := keyLen_inv hk
  exact run_findKey_eq w (by rw [hu]) x es
theorem hnd_none {k : Hk} {xs : List A} {us : List Nat} {d : Nat} (h : hndR k (xs.map (get e.st.tm)) e.st.hp = none) : Res e (iHnd k xs us e.clr d e.st) :=
  .bad fun k kp => by simp only [iHnd, h, Ev.oneD]
theorem hnd_some {k : Hk} {xs : List A} {us : List Nat} {d : Nat} {v : V} {hp : Hp} (h : hndR k (xs.map (get e.st.tm)) e.st.hp = some (v, hp)) (r : Res e (fun k _ => k v (e.st.setHp hp))) : Res e (iHnd k xs us e.clr d e.st) :=
  .eq (F' := fun k _ => k v (e.st.setHp hp)) (fun k kp => by simp only [iHnd, h, Ev.oneD]) r
theorem ok_bad (us : List Nat) (d : Nat) (xs : List A) : Res e (iHnd .bad xs us e.clr d e.st) := hnd_none (by unfold hndR; split <;> first | rfl | simp_all)
theorem ok_eqp (h : e.St) {op : BinOp} {t yt : TypeId} {x y : Operand} {xa ya : A} (ho : e.o.op = .binOp op t x y yt) (hop : isEq op = true) (hq : qkOf e.P t = some .ptr) (hx : cA x = some xa) (hy : cA y = some ya) (us : List Nat) (d : Nat) :
    Res e (iHnd (.eqp op) [xa, ya] us e.clr d e.st) := by
  have hr := h.rep hx
  have hr' := h.rep hy
  cases he : eqpV e.st.hp (get e.st.tm xa) (get e.st.tm ya) with
  | none => exact hnd_none (by simp only [List.map, hndR, he])
  | some r =>
    have nl : isLp (get e.st.tm xa) = false ∧ isLp (get e.st.tm ya) = false := by
      cases hxx : get e.st.tm xa <;> simp only [hxx, eqpV, reduceCtorEq] at he <;> cases hyy : get e.st.tm ya <;> simp only [hyy, eqpV, reduceCtorEq] at he <;> exact ⟨rfl, rfl⟩
    obtain ⟨h1, h2, h3⟩ := eqp_run (P := e.P) hq h.mem.hr he (hr.toA nl.1) (hr'.toA nl.2)
    obtain ⟨cv, h4, h5⟩ := h3 op hop
    exact hnd_some (by simp only [List.map, hndR, he]) (Res.val h (bin_run ho rfl rfl h1 h2 h4) h5 (eqRes_lp _ _))
theorem ok_eqi (h : e.St) {op : BinOp} {t yt : TypeId} {x y : Operand} {xa ya : A} (ho : e.o.op = .binOp op t x y yt) (hop : isEq op = true) {ms : Array (String × TypeId)} (hu : e.P.underlying t = some (.interface ms)) (hnf : isNf y = true) (hx : cA x = some xa) (hy : cA y = some ya) (us : List Nat) (d : Nat) :
    Res e (iHnd (.eqi op) [xa, ya] us e.clr d e.st) := by
  have hr := h.rep hx
  have hyc := isNf_inv hnf
  subst hyc
  have hya : ya = .k .nf := by simpa [cA, ofVal, ofAtom] using hy.symm
  subst hya
  cases he : eqiV (get e.st.tm xa) .nf with
  | none => exact hnd_none (by show hndR (.eqi op) [get e.st.tm xa, .nf] _ = _; simp only [hndR, he])
  | some r =>
    refine hnd_some (v := eqRes op r) (hp := e.st.hp) (by show hndR (.eqi op) [get e.st.tm xa, .nf] _ = _; simp only [hndR, he]) ?_
    have heq : ∀ vx, RepA e.g (get e.st.tm xa) vx → (Op.equal t vx .nilIface).run e.P e.w = .ok r e.w ∧ (∀ o, (eqGuard o t x (.const .nilIface) vx .nilIface).run e.P e.w = .ok () e.w) ∧ (∀ k n, vx ≠ .int k n) ∧ (∀ s, vx ≠ .string s) ∧ (∀ k n, vx ≠ .float k n) ∧ (∀ k a b, vx ≠ .complex k a b) := fun vx hv => by
      have key : ∀ (vx : Value), (∀ d, (Op.equalIn (d + 1) t vx .nilIface).run e.P e.w = .ok r e.w) → (Op.equal t vx .nilIface).run e.P e.w = .ok r e.w := fun _ h => h 9999
      cases hg : get e.st.tm xa with
      | nf =>
        rw [hg] at he hv
        simp only [eqiV, Option.some.injEq] at he; subst he
        have hv := RepA.nf_inv hv
        subst hv
        exact ⟨key _ fun d => by simp [Op.equalIn, run_underlying hu], fun o => by cases o <;> simp [eqGuard], by simp, by simp, by simp, by simp⟩
      | fc t' v' =>
        rw [hg] at he hv
        simp only [eqiV, Option.some.injEq] at he; subst he
        obtain ⟨x', rfl, _⟩ := RepA.fc_inv hv
        exact ⟨key _ fun d => by simp [Op.equalIn, run_underlying hu], fun o => by cases o <;> simp [eqGuard], by simp, by simp, by simp, by simp⟩
      | _ => rw [hg] at he; simp [eqiV] at he
    have nl : isLp (get e.st.tm xa) = false := by
      cases hxx : get e.st.tm xa <;> simp only [hxx, eqiV, reduceCtorEq] at he <;> rfl
    obtain ⟨h1, h2, h3, h4, h5, h6⟩ := heq _ (hr.toA nl)
    obtain ⟨cv, k1, k2⟩ := bin_of (g := e.g) hop h1 h3 h4 h5 h6
    refine Res.val h (cv := cv) ?_ k2 (eqRes_lp _ _)
    have : e.a.eval (.const .nilIface) = .nilIface := rfl
    simp only [execOp, ho, this, Sem.run_bind, h2, Result.andThen_ok, k1, Sem.run_pure]
theorem ok_eqs (h : e.St) {op : BinOp} {t yt el : TypeId} {x y : Operand} {xa ya : A} (ho : e.o.op = .binOp op t x y yt) (hop : isEq op = true) (hu : e.P.underlying t = some (.slice el)) (hns : isNs y = true) (hx : cA x = some xa) (hy : cA y = some ya) (us : List Nat) (d : Nat) :
    Res e (iHnd (.eqs op) [xa, ya] us e.clr d e.st) := by
  have hr := h.rep hx
  have hyc := isNs_inv hns
  subst hyc
  have hya : ya = .k .ns := by simpa [cA, ofVal, ofAtom] using hy.symm
  subst hya
  cases he : eqsV e.st.hp (get e.st.tm xa) .ns with
  | none => exact hnd_none (by show hndR (.eqs op) [get e.st.tm xa, .ns] _ = _; simp only [hndR, he])
  | some r =>
    refine hnd_some (v := eqRes op r) (hp := e.st.hp) (by show hndR (.eqs op) [get e.st.tm xa, .ns] _ = _; simp only [hndR, he]) ?_
    have key : ∀ (vx : Value), (∀ d, (Op.equalIn (d + 1) t vx (.slice none 0 0)).run e.P e.w = .ok r e.w) → (Op.equal t vx (.slice none 0 0)).run e.P e.w = .ok r e.w := fun _ h => h 9999
    have fin : ∀ a n c, e.a.eval x = .slice a n c → (Op.equal t (.slice a n c) (.slice none 0 0)).run e.P e.w = .ok r e.w → Res e (fun k _ => k (eqRes op r) (e.st.setHp e.st.hp)) := fun a n c hv hq => by
      obtain ⟨cv, k1, k2⟩ := bin_of (g := e.g) hop hq (by simp) (by simp) (by simp) (by simp)
      exact Res.val h (bin_run ho hv rfl (by simp) (by simp) k1) k2 (eqRes_lp _ _)
    cases hg : get e.st.tm xa with
    | ns =>
      rw [hg] at he hr
      simp only [eqsV, Option.some.injEq] at he; subst he
      exact fin _ _ _ (RepA.ns_inv hr) (key _ fun d => by simp [Op.equalIn, run_underlying hu])
    | vs sz es =>
      rw [hg] at he hr
      cases es with
      | nil => simp [eqsV] at he
      | cons x0 es =>
        simp only [eqsV, Option.some.injEq] at he; subst he
        obtain ⟨a, cap, b, o, f, hv, _, h2, _⟩ := RepA.vs_inv hr
        have := h2 (by simp)
        subst this
        exact fin _ _ _ hv (key _ fun d => by simp [Op.equalIn, run_underlying hu])
    | hs id i n =>
      rw [hg] at he hr
      simp only [eqsV] at he
      cases hb : hget e.st.hp id with
      | none => simp [hb] at he
      | some bk =>
        simp only [hb, Option.some.injEq] at he; subst he
        obtain ⟨a, cap, hv, h0, hq⟩ := RepA.hs_inv' hr
        have hsome : ∃ a', a = some a' := by
          rcases hq with hq | ⟨rg, _, hq⟩
          · rw [h.mem.hr.dead id hq] at hb; cases hb
          · rcases hq with ⟨_, hq⟩ | ⟨hq, _⟩
            · exact hq
            · exact ⟨_, hq⟩
        obtain ⟨a', rfl⟩ := hsome
        exact fin _ _ _ hv (key _ fun d => by simp [Op.equalIn, run_underlying hu])
    | _ => rw [hg] at he; simp [eqsV] at he
theorem ok_eqa (h : e.St) {op : BinOp} {t yt : TypeId} {x y : Operand} {xa ya : A} {fs : Array Field} {ks : List Nat} (ho : e.o.op = .binOp op t x y yt) (hop : isEq op = true) (hu : e.P.underlying t = some (.struct fs)) (hf : flatT e.P 40 t = some ks) (hgd : e.P.eqGuardType e.P.depth t = false) (hx : cA x = some xa) (hy : cA y = some ya) (us : List Nat) (d : Nat) :
    Res e (iHnd (.eqa op ks) [xa, ya] us e.clr d e.st) := by
  have hr := h.rep hx
  have hr' := h.rep hy
  cases hg : get e.st.tm xa with
  | ag xs =>
    cases hg' : get e.st.tm ya with
    | ag ys =>
      rw [hg] at hr
      rw [hg'] at hr'
      cases he : eqAll ks xs ys with
      | none => exact hnd_none (by simp only [List.map, hndR, hg, hg', he])
      | some r =>
        refine hnd_some (v := eqRes op r) (hp := e.st.hp) (by simp only [List.map, hndR, hg, hg', he]) ?_
        obtain ⟨ax, hvx, n1, _, q1⟩ := RepA.ag_inv hr
        obtain ⟨ay, hvy, n2, _, q2⟩ := RepA.ag_inv hr'
        have hrun := eqa_run (P := e.P) (w := e.w) hu hf he (g := e.g) (ax := ax) (ay := ay) ⟨by omega, fun i c hc => by rw [Nat.zero_add]; exact q1 i c hc⟩ ⟨by omega, fun i c hc => by rw [Nat.zero_add]; exact q2 i c hc⟩
        have hguard := run_eqGuard_agg (P := e.P) e.w op t x y ax ay hgd
        have : ∃ cv, (binOp op t (.agg ax) (.agg ay)).run e.P e.w = .ok cv e.w ∧ RepA e.g (eqRes op r) cv := by
          cases op <;> simp only [isEq, Bool.false_eq_true] at hop
          · exact ⟨.bool r, by rw [run_eql_struct]; simp [hrun], .c _ _ (.bo _)⟩
          · exact ⟨.bool (!r), by rw [run_neq_struct]; simp [hrun], .c _ _ (.bo _)⟩
        obtain ⟨cv, k1, k2⟩ := this
        refine Res.val h (cv := cv) ?_ k2 (eqRes_lp _ _)
        simp only [execOp, ho, hvx, hvy, Sem.run_bind, hguard, Result.andThen_ok, k1, Sem.run_pure]
    | _ => exact hnd_none (by simp only [List.map, hndR, hg, hg'])
  | _ => exact hnd_none (by simp only [List.map, hndR, hg])
theorem ok_cln (h : e.St) {t el : TypeId} {sz : Nat} {x hi mx : Operand} {lo : Option Operand} {xa : A} (ho : e.o.op = .slice t x lo (some hi) (some mx)) (hu : e.P.underlying t = some (.slice el)) (hs : Ev.size e.P el = some sz) (hl : noneOrZero lo = true) (hh : isZero hi = true) (hm : isZero mx = true) (hx : cA x = some xa) (us : List Nat) (d : Nat) :
    Res e (iHnd (.cln sz) [xa] us e.clr d e.st) := by
  have hr := h.rep hx
  have e1 := isZero_inv hh
  have e2 := isZero_inv hm
  subst e1; subst e2
  have hrun : ∀ a n c, e.a.eval x = .slice a n c → (execOp e.a.eval e.o).run e.P e.w = .ok (.value (.slice a 0 0)) e.w := fun a n c hv => by
    have e3 : e.a.eval (.const (.int .i64 0)) = .int .i64 0 := rfl
    cases lo with
    | none => simp [execOp, ho, hv, e3, Instr.sliceAt, Instr.slice, run_underlying hu, run_size hs, Instr.sliceBounds, Instr.sliceBound, asIntOf]
    | some l =>
      have e4 := isZero_inv hl
      subst e4
      simp [execOp, ho, hv, e3, Instr.sliceAt, Instr.slice, run_underlying hu, run_size hs, Instr.sliceBounds, Instr.sliceBound, asIntOf]
  have new : ∀ a n c, e.a.eval x = .slice (some a) n c → Res e (fun k _ => k (.hs e.st.hp.next 0 0) (e.st.setHp (hnew e.st.hp ⟨sz, false, []⟩))) := fun a n c hv => by
    obtain ⟨m1, m2⟩ := h.mem.newEmpty sz
    exact .out (.value _ _ (hrun a n c hv)) ⟨rfl, m1, m2, .inl rfl, .ofA (.hs _ _ _ _ _ (Nat.le_refl _) (.inr ⟨⟨0, 0, sz, 0⟩, by simp [bornE], .inl ⟨rfl, _, rfl⟩⟩)), fun _ _ _ _ q => by cases q⟩
  cases hg : get e.st.tm xa with
  | ns =>
    rw [hg] at hr
    exact hnd_some (v := .ns) (hp := e.st.hp) (by simp only [List.map, hndR, hg]) (Res.val h (hrun none 0 0 (RepA.ns_inv hr)) (.c _ _ .ns) rfl)
  | vs n es =>
    rw [hg] at hr
    cases es with
    | nil => exact hnd_none (by simp only [List.map, hndR, hg])
    | cons x0 es =>
      obtain ⟨a, cap, b, o, f, hv, _, h2, _⟩ := RepA.vs_inv hr
      have := h2 (by simp)
      subst this
      exact hnd_some (by simp only [List.map, hndR, hg]) (new _ _ _ hv)
  | _ => exact hnd_none (by simp only [List.map, hndR, hg])
theorem ok_kmk (h : e.St) {t : TypeId} {n : Nat} (ho : e.o.op = .makeMap t none) (us : List Nat) (d : Nat) : Res e (iHnd (.kmk n) [] us e.clr d e.st) := by
  obtain ⟨h1, h2⟩ := h.mem.newMap (n + 2)
  refine hnd_some (v := .mp e.st.hp.next) (hp := hnew e.st.hp ⟨n + 2, false, []⟩) (by simp only [List.map, hndR]) ?_
  refine .out (.value (.map (some e.w.heap.size)) _ (by simp [execOp, ho, Instr.makeMap, newObj, Sem.run])) ⟨rfl, h1, h2, .inl rfl, .ofA (.mp _ _ (.inr (by simp [bornM]))), fun _ _ _ _ x => by cases x⟩
theorem ok_klk (h : e.St) {t key el : TypeId} {n : Nat} {ok : Bool} {z : V} {x i : Operand} {xa ia : A} (hu : e.P.underlying t = some (.map key el)) (hk : keyLen e.P key = some n) (hz : zeroV e.P el = some z) (hx : cA x = some xa) (hi : cA i = some ia) (ho : e.o.op = .lookup t x i ok) (us : List Nat) (d : Nat) :
    Res e (iHnd (.klk n ok z) [xa, ia] us e.clr d e.st) := by
  have hrx := h.rep hx
  have hri := h.rep hi
  obtain ⟨_, _, _, _, _, _, _, _, hn0⟩ := keyLen_inv hk
  unfold zeroV at hz
  cases hinf : e.P.info? el with
  | none => simp [hinf] at hz
  | some inf =>
  cases hzz : inf.zero with
  | none => simp [hinf, hzz] at hz
  | some zv =>
  simp only [hinf, hzz, Option.bind_some] at hz
  obtain ⟨z1, z2, _⟩ := ofVal_rep (g := e.g) hz
  have hzero := run_zero hinf hzz e.w
  have pair : ∀ {u : V} {cv : Value} (b : Bool), RepA e.g u cv → isLp u = false → RepA e.g (.tu [u, .bo b]) (.tuple #[cv, .bool b]) := fun {u cv} b hr hlu => by
    refine .tu _ _ rfl (fun x hx => by simp only [List.mem_cons, List.not_mem_nil, or_false] at hx; rcases hx with rfl | rfl <;> first | exact hlu | rfl) fun j c hc => ?_
    match j with
    | 0 => simp only [List.getElem?_cons_zero, Option.some.injEq] at hc; subst hc; exact hr
    | 1 => simp only [List.getElem?_cons_succ, List.getElem?_cons_zero, Option.some.injEq] at hc; subst hc; exact .c _ _ (.bo b)
    | j + 2 => simp at hc
  cases hko : keyOf n (get e.st.tm ia) with
  | none => exact hnd_none (by simp only [List.map, hndR, hko])
  | some l =>
    have nl : isLp (get e.st.tm ia) = false := by
      cases hxx : get e.st.tm ia <;> first | rfl | simp [hxx, keyOf] at hko
    obtain ⟨hkv, hll⟩ := key_val hko (hri.toA nl)
    cases hgx : get e.st.tm xa with
    | mp id =>
      rw [hgx] at hrx
      cases hb : hget e.st.hp id with
      | none => exact hnd_none (by simp only [List.map, hndR, hko, hgx, hb])
      | some bk =>
        cases hsz : Nat.beq bk.sz (n + 2) with
        | false => exact hnd_none (by simp only [List.map, hndR, hko, hgx, hb, hsz, cond_false])
        | true =>
          have hsz' := Nat.eq_of_beq_eq_true hsz
          obtain ⟨b, hxv, hlf⟩ := RepA.mp_inv hrx
          rcases hlf with hd | hlf
          · have := h.mem.hr.dead id hd; rw [hb] at this; cases this
          obtain ⟨bk', k1, ⟨_, es, c, k4, k5, k6⟩⟩ := h.mem.hr.mp.live id b hlf
          rw [hb] at k1; cases k1
          have hg := run_getMap (P := e.P) k4
          have hck := fun em => key_check (w := e.w) hk em hll
          have hfk := fun es => run_findKey_key (w := e.w) hk (keyV l) es
          rcases key_find (w := e.w) hk hll bk.es es.toList 0 (by simpa using k5) (fun i x hx => by simpa using key_row hsz' hn0 (k6 i x hx)) with ⟨a1, a2, _⟩ | ⟨j, u, en, a1, _, _, _, a6, a7, a8, _⟩
          · cases ok with
            | true => exact hnd_some (v := .tu [z, .bo false]) (hp := e.st.hp) (by simp only [List.map, hndR, hko, hgx, hb, hsz, cond_true, a1]) (Res.val h (cv := .tuple #[zv, .bool false]) (by simp [execOp, ho, Instr.lookup, run_underlying hu, hxv, hkv, hg, hck, hfk, a2, hzero]) (pair false z1 z2) rfl)
            | false => exact hnd_some (v := z) (hp := e.st.hp) (by simp only [List.map, hndR, hko, hgx, hb, hsz, cond_true, a1, cond_false]) (Res.val h (cv := zv) (by simp [execOp, ho, Instr.lookup, run_underlying hu, hxv, hkv, hg, hck, hfk, a2, hzero]) z1 z2)
          · have hul : isLp u = false := by cases u <;> first | rfl | simp [V.keep] at a7
            cases ok with
            | true => exact hnd_some (v := .tu [u, .bo true]) (hp := e.st.hp) (by simp only [List.map, hndR, hko, hgx, hb, hsz, cond_true, a1]) (Res.val h (cv := .tuple #[en.val, .bool true]) (by simp [execOp, ho, Instr.lookup, run_underlying hu, hxv, hkv, hg, hck, hfk, a8]) (pair true a6 hul) rfl)
            | false => exact hnd_some (v := u) (hp := e.st.hp) (by simp only [List.map, hndR, hko, hgx, hb, hsz, cond_true, a1, cond_false]) (Res.val h (cv := en.val) (by simp [execOp, ho, Instr.lookup, run_underlying hu, hxv, hkv, hg, hck, hfk, a8]) a6 hul)
    | _ => exact hnd_none (by simp only [List.map, hndR, hko, hgx])
theorem ok_kup (h : e.St) {t key el : TypeId} {n : Nat} {x i v : Operand} {xa ia va : A} (hu : e.P.underlying t = some (.map key el)) (hk : keyLen e.P key = some n) (hx : cA x = some xa) (hi : cA i = some ia) (hv : cA v = some va) (ho : e.o.op = .mapUpdate t x i v) (us : List Nat) (d : Nat) :
    Res e (iHnd (.kup n) [xa, ia, va] us e.clr d e.st) := by
  have hrx := h.rep hx
  have hri := h.rep hi
  have hrv := h.rep hv
  obtain ⟨_, _, _, _, _, _, _, _, hn0⟩ := keyLen_inv hk
  cases hko : keyOf n (get e.st.tm ia) with
  | none => exact hnd_none (by simp only [List.map, hndR, hko])
  | some l =>
    have nl : isLp (get e.st.tm ia) = false := by
      cases hxx : get e.st.tm ia <;> first | rfl | simp [hxx, keyOf] at hko
    obtain ⟨hkv, hll⟩ := key_val hko (hri.toA nl)
    cases hgx : get e.st.tm xa with
    | mp id =>
      rw [hgx] at hrx
      cases hb : hget e.st.hp id with
      | none => exact hnd_none (by simp only [List.map, hndR, hko, hgx, hb])
      | some bk =>
        cases hsz : Nat.beq bk.sz (n + 2) with
        | false => exact hnd_none (by simp only [List.map, hndR, hko, hgx, hb, hsz, cond_false])
        | true =>
          cases hlim : Nat.blt id e.st.hp.lim with
          | true => exact hnd_none (by simp only [List.map, hndR, hko, hgx, hb, hsz, hlim, cond_true])
          | false =>
            cases hkp : (get e.st.tm va).keep with
            | false => exact hnd_none (by simp only [List.map, hndR, hko, hgx, hb, hsz, hlim, hkp, cond_true, cond_false])
            | true =>
              have hsz' := Nat.eq_of_beq_eq_true hsz
              have hlim' : e.st.hp.lim ≤ id := by
                have : ¬ id < e.st.hp.lim := fun q => by rw [show Nat.blt id e.st.hp.lim = true from by simpa [Nat.blt_eq] using q] at hlim; cases hlim
                omega
              obtain ⟨b, hxv, hlf⟩ := RepA.mp_inv hrx
              rcases hlf with hd | hlf
              · have := h.mem.hr.dead id hd; rw [hb] at this; cases this
              obtain ⟨bk', k1, ⟨k3, es, c, k4, k5, k6⟩⟩ := h.mem.hr.mp.live id b hlf
              rw [hb] at k1; cases k1
              have hg := run_getMap (P := e.P) k4
              have hul : isLp (get e.st.tm va) = false := by cases hq : get e.st.tm va <;> first | rfl | (rw [hq] at hkp; simp [V.keep] at hkp)
              have hrv' := hrv.toA hul
              have hck := fun em => key_check (w := e.w) hk em hll
              have hfk := fun es => run_findKey_key (w := e.w) hk (keyV l) es
              refine hnd_some (v := .un) (hp := hset e.st.hp id (some ⟨n + 2, false, mapPut l (get e.st.tm va) bk.es⟩)) (by simp only [List.map, hndR, hko, hgx, hb, hsz, hlim, hkp, cond_true, cond_false]) ?_
              rcases key_find (w := e.w) hk hll bk.es es.toList 0 (by simpa using k5) (fun i x hx => by simpa using key_row hsz' hn0 (k6 i x hx)) with ⟨a1, a2, a3⟩ | ⟨j, u, en, a1, a2, a3, a4, a6, a7, a8, a9⟩
              · have hset := run_setMap (P := e.P) (es' := es.push ⟨keyV l, e.a.eval v, c⟩) (c' := c + 1) k4
                have hheap := (maps_put (es' := es.push ⟨keyV l, e.a.eval v, c⟩) (c' := c + 1) k4).2
                have hmem := h.mem.setMap (es' := es.push ⟨keyV l, e.a.eval v, c⟩) (c' := c + 1) (bk' := ⟨n + 2, false, mapPut l (get e.st.tm va) bk.es⟩) hlf hb hlim' (by
                  refine ⟨rfl, _, _, hheap, by rw [a3]; simp [k5], fun j x hx => ?_⟩
                  rw [a3] at hx
                  by_cases hj : j < bk.es.length
                  · rw [List.getElem?_append_left hj] at hx
                    obtain ⟨l', v', en', q1, q2, q3, q4, q5⟩ := k6 j x hx
                    exact ⟨l', v', en', q1, q2, by rw [Array.getElem?_push, if_neg (by omega)]; exact q3, by rw [hsz'] at q4; exact q4, q5⟩
                  · rw [List.getElem?_append_right (by omega)] at hx
                    have hj0 : j - bk.es.length = 0 := by
                      cases hq : j - bk.es.length with
                      | zero => rfl
                      | succ n => rw [hq] at hx; simp at hx
                    rw [hj0] at hx
                    simp only [List.getElem?_cons_zero, Option.some.injEq] at hx; subst hx
                    exact ⟨l, get e.st.tm va, ⟨keyV l, e.a.eval v, c⟩, rfl, hkp, by rw [Array.getElem?_push, if_pos (by omega)], .inr ⟨by omega, by show n + 2 = l.length + 2; omega, rfl⟩, hrv'⟩)
                exact .out (.skip _ (by simp [execOp, ho, Instr.mapUpdate, run_underlying hu, hxv, hkv, hg, hck, hfk, a2, hset])) ⟨rfl, hmem, GLe.refl _, .inl rfl, .ofA (.un _), fun _ _ _ _ x => by cases x⟩
              · simp only [Array.getElem?_toList] at a3
                have hkey : ((es[j]?).map (·.key)).getD (keyV l) = keyV l := by rw [a3]; simp [a4]
                have hset := run_setMap (P := e.P) (es' := es.modify j fun e' => { e' with key := keyV l, val := e.a.eval v }) (c' := c) k4
                have hheap := (maps_put (es' := es.modify j fun e' => { e' with key := keyV l, val := e.a.eval v }) (c' := c) k4).2
                have hmem := h.mem.setMap (es' := es.modify j fun e' => { e' with key := keyV l, val := e.a.eval v }) (c' := c) (bk' := ⟨n + 2, false, mapPut l (get e.st.tm va) bk.es⟩) hlf hb hlim' (by
                  refine ⟨rfl, _, _, hheap, by rw [a9]; simp [k5], fun j' x hx => ?_⟩
                  rw [a9, List.getElem?_set] at hx
                  by_cases hj : j = j'
                  · subst hj
                    have : j < bk.es.length := (List.getElem?_eq_some_iff.1 a2).1
                    simp only [if_true, this, Option.some.injEq] at hx; subst hx
                    exact ⟨l, get e.st.tm va, { en with key := keyV l, val := e.a.eval v }, rfl, hkp, by simp [Array.getElem?_modify, a3], .inr ⟨by omega, by show n + 2 = l.length + 2; omega, rfl⟩, hrv'⟩
                  · rw [if_neg hj] at hx
                    obtain ⟨l', v', en', q1, q2, q3, q4, q5⟩ := k6 j' x hx
                    exact ⟨l', v', en', q1, q2, by simp [Array.getElem?_modify, hj, q3], by rw [hsz'] at q4; exact q4, q5⟩)
                exact .out (.skip _ (by simp [execOp, ho, Instr.mapUpdate, run_underlying hu, hxv, hkv, hg, hck, hfk, a8, hkey, key_stays, hset])) ⟨rfl, hmem, GLe.refl _, .inl rfl, .ofA (.un _), fun _ _ _ _ x => by cases x⟩
    | _ => exact hnd_none (by simp only [List.map, hndR, hko, hgx])
theorem ok_hnd (h : e.St) (us : List Nat) (d : Nat) : Res e ((cHnd e.P e.o).den us e.clr d e.st) := by
  have B : ∀ xs, Res e ((I.hnd .bad xs).den us e.clr d e.st) := fun xs => ok_bad us d xs
  unfold cHnd
  cases ho : e.o.op
  case binOp op t x y yt =>
    simp only []
    split
    · rename_i xa ya hx hy
      split
      · rename_i hop
        split
        · split
          · rename_i hq; exact ok_eqp h ho hop hq hx hy us d
          · exact B _
        · rename_i ms hu
          split
          · rename_i hnf; exact ok_eqi h ho hop hu hnf hx hy us d
          · exact B _
        · rename_i el hu
          split
          · rename_i hns; exact ok_eqs h ho hop hu hns hx hy us d
          · exact B _
        · rename_i fs hu
          split
          · rename_i ks hf
            split
            · exact B _
            · rename_i hgd; exact ok_eqa h ho hop hu hf (by simpa using hgd) hx hy us d
          · exact B _
        · exact B _
      · exact B _
    · exact B _
  case slice t x lo hi mx =>
    cases hi <;> cases mx <;> try exact B _
    simp only []
    split
    · rename_i xa el hx hu
      split
      · rename_i s hs
        split
        · rename_i hc
          simp only [Bool.and_eq_true] at hc
          exact ok_cln h ho hu hs hc.1 hc.2.1 hc.2.2 hx us d
        · exact B _
      · exact B _
    · exact B _
  case makeMap t hint =>
    cases hint <;> try exact B _
    simp only []
    split
    · exact ok_kmk h ho us d
    · exact B _
  case lookup t x i ok =>
    simp only []
    split
    · rename_i xa ia key el hx hi hu
      split
      · rename_i n z hk hz
        obtain ⟨k', el', hu', hk'⟩ := kMap_inv hk
        rw [hu] at hu'; cases hu'
        exact ok_klk h hu hk' hz hx hi ho us d
      · exact B _
    · exact B _
  case mapUpdate t x i v =>
    simp only []
    split
    · rename_i xa ia va hx hi hv
      split
      · rename_i n hk
        obtain ⟨k', el', hu, hk'⟩ := kMap_inv hk
        exact ok_kup h hu hk' hx hi hv ho us d
      · exact B _
    · exact B _
  all_goals exact B _
end
end Ev
namespace Ev
variable [Glob]
open Go
theorem MemR.promote {E : Ent} {g : G} {ν : Nat → Option Nat} {lo : Lo} {hp : Hp} {w : World} (h : MemR E g ν lo hp w) {t b : Nat} {cs : List V} (hlt : lo t = some cs) (hbt : ν t = some b) :
    MemR E (born g hp ⟨b, 0, cs.length, 1⟩) ν (lno lo t) (hnew hp ⟨cs.length, false, [cs]⟩) w ∧ GLe g (born g hp ⟨b, 0, cs.length, 1⟩) := by
  obtain ⟨x2, x3, x4, x5, x6⟩ := h.lo.box t cs b hlt hbt
  have hle := born_le h.hr ⟨b, 0, cs.length, 1⟩
  have hmono : ∀ {r' bk'}, BkR g w r' bk' → BkR (born g hp ⟨b, 0, cs.length, 1⟩) w r' bk' := fun z =>
    ⟨z.sz, z.len, z.row, fun i j e c he hc => by obtain ⟨a, cv, b, x⟩ := z.cont i j e c he hc; exact ⟨a, cv, b, x.mono hle⟩, z.rw, z.frz, z.blk⟩
  have hz : BkR (born g hp ⟨b, 0, cs.length, 1⟩) w ⟨b, 0, cs.length, 1⟩ ⟨cs.length, false, [cs]⟩ := by
    refine ⟨rfl, Nat.le_refl _, fun e he => ?_, fun i j e c he hc => ?_, fun _ k hk => ?_, fun q => by simp at q, fun _ _ => ?_⟩
    · simp only [List.mem_singleton] at he; rw [he]
    · have hi := lt_of_get he
      have hi0 : i = 0 := by simp at hi; omega
      subst hi0
      simp only [List.getElem?_cons_zero, Option.some.injEq] at he; subst he
      obtain ⟨k, ⟨cv, a, r⟩, _⟩ := x2 j c hc
      refine ⟨k, cv, ?_, r.mono hle⟩
      simp only [Nat.zero_mul, Nat.zero_add]; exact a
    · simp only [Nat.one_mul] at hk
      obtain ⟨_, ⟨cv, a, _⟩, f⟩ := x2 k (cs[k]'hk) (by rw [List.getElem?_eq_getElem hk])
      simp only [Nat.zero_add]
      exact ⟨⟨cv, a⟩, f, x3 k⟩
    · obtain ⟨C, e, fr, q1, q2⟩ := x6
      exact ⟨C, e, fr, q1, .inl (q2.resolve_right fun q => by omega)⟩
  have hlive : ∀ id r', (born g hp ⟨b, 0, cs.length, 1⟩).lf id = .live r' → (id = hp.next ∧ r' = ⟨b, 0, cs.length, 1⟩) ∨ (id ≠ hp.next ∧ g.lf id = .live r') := fun id r' x => by
    simp only [born] at x
    by_cases e : id = hp.next
    · simp only [e, if_true, Life.live.injEq] at x; exact .inl ⟨e, x.symm⟩
    · simp only [e, if_false] at x; exact .inr ⟨e, x⟩
  have hapart : ∀ id r' bk', g.lf id = .live r' → hget hp id = some bk' → bk'.fr = false → 0 < r'.cap * r'.sz → ¬ b = r'.b := fun id r' bk' x y z k q =>
    x4 (r'.base + 0) ⟨id, r', bk', 0, x, y, z, k, q, rfl⟩
  have hbl : ∀ id b', (born g hp ⟨b, 0, cs.length, 1⟩).lf id = .mlive b' → id ≠ hp.next ∧ g.lf id = .mlive b' := fun id b' x => by
    simp only [born] at x
    split at x
    · cases x
    · exact ⟨‹_›, x⟩
  have hln : ∀ t' cs', lno lo t t' = some cs' → t' ≠ t ∧ lo t' = some cs' := fun t' cs' x => by
    simp only [lno] at x
    by_cases e : t' = t
    · subst e; simp at x
    · simp only [beqF e, cond_false] at x; exact ⟨e, x⟩
  have hln' : ∀ t', lno lo t t' ≠ none → t' ≠ t ∧ lo t' ≠ none := fun t' x => by
    simp only [lno] at x
    by_cases e : t' = t
    · subst e; simp at x
    · simp only [beqF e, cond_false] at x; exact ⟨e, x⟩
  refine ⟨⟨⟨h.hr.mp.mono (fun _ _ _ x => x) (fun _ _ x => x.mono hle) (fun id b x => (hbl id b x).2) (fun id b x => by rw [hget_hnew, if_neg (hbl id b x).1]), by have := h.hr.lim; simp only [hnew]; omega, fun id hid => by
      simp only [hnew] at hid
      rw [hget_hnew, if_neg (by omega)]; exact h.hr.nil id (by omega), fun id hid => by
      simp only [hnew] at hid
      simp only [born]; split
      · simp
      · exact h.hr.bnd id (by omega), h.hr.kap, fun id hid => ?_, fun id x => ?_, fun id r' x => ?_, fun id id' r1 r2 b1 b2 hne x x' y y' z z' => ?_⟩, ⟨fun t' cs' b' x a1 => ?_, fun t1 t2 b' htt y1 y2 e1 e2 => h.lo.inj t1 t2 b' htt (hln' t1 y1).2 (hln' t2 y2).2 e1 e2⟩, ⟨h.evo.le.trans hle, by have := h.evo.next; simp only [hnew]; omega, h.evo.lim, fun id hid => ?_, h.evo.size, h.evo.cell, h.evo.frozen, fun b' o x => ?_, h.evo.κ, h.evo.wd.1, h.evo.wd.2.1, h.evo.wd.2.2.1, fun b' ⟨id, x⟩ => h.evo.wd.2.2.2 b' ⟨id, (hbl id b' x).2⟩⟩⟩, hle⟩
  · simp only [hnew] at hid
    simp only [born]; rw [if_neg (by omega)]; exact h.hr.unb id (by omega)
  · simp only [born] at x
    by_cases e : id = hp.next
    · simp [e] at x
    · simp only [e, if_false] at x; rw [hget_hnew, if_neg e]; exact h.hr.dead id x
  · rcases hlive id r' x with ⟨rfl, rfl⟩ | ⟨e, x⟩
    · exact ⟨_, by rw [hget_hnew, if_pos rfl], hz⟩
    · obtain ⟨bk', a, b⟩ := h.hr.live id r' x
      exact ⟨bk', by rw [hget_hnew, if_neg e]; exact a, hmono b⟩
  · rcases hlive id r1 x with ⟨e, er1⟩ | ⟨e, x1⟩
    · rcases hlive id' r2 x' with ⟨e', _⟩ | ⟨e', x1'⟩
      · exact absurd (e.trans e'.symm) hne
      · rw [hget_hnew, if_neg e'] at y'
        intro k k' q
        rw [er1] at q
        exact hapart id' r2 b2 x1' y' z' k' q
    · rw [hget_hnew, if_neg e] at y
      rcases hlive id' r2 x' with ⟨e', er⟩ | ⟨e', x1'⟩
      · intro k k' q
        rw [er] at q
        exact hapart id r1 b1 x1 y z k q.symm
      · rw [hget_hnew, if_neg e'] at y'
        exact h.hr.sep id id' r1 r2 b1 b2 hne x1 x1' y y' z z'
  · obtain ⟨n1, n2⟩ := hln t' cs' x
    obtain ⟨a2, a3, a4, a5, a6⟩ := h.lo.box t' cs' b' n2 a1
    refine ⟨a2.grow hle (fun _ _ y => y) (fun _ _ _ => rfl), a3, fun o ho => ?_, a5, a6⟩
    rcases own_born h.hr ho with ho | ⟨e, _⟩
    · exact a4 o ho
    · simp only at e
      subst e
      exact h.lo.inj t' t b' n1 (by rw [n2]; simp) (by rw [hlt]; simp) a1 hbt
  · rw [hget_hnew, if_neg (by have := h.hr.lim; have := h.evo.lim; omega)]; exact h.evo.ro id hid
  · rcases own_born h.hr x with x | ⟨e, _⟩
    · exact h.evo.own b' o x
    · simp only at e
      subst e
      exact .inr x5
theorem RepT.mono {g g' : G} {ν ν' : Nat → Option Nat} (hg : GLe g g') {v : V} {cv : Value} (h : RepT g ν v cv) (hn : ∀ e off, v = .lp e off → ν' e = ν e) : RepT g' ν' v cv := by
  cases v with
  | lp t off => obtain ⟨b, h1, h2⟩ := h; exact ⟨b, (hn t off rfl).trans h1, h2⟩
  | _ => exact RepA.mono hg h
section
variable {e : Env}
theorem store_one {st : St} {g : G} {ν : Nat → Option Nat} (hm : MemR e.E g ν st.lo st.hp e.w) (hle : GLe e.g g) (hν : ν = e.ν) (htm : st.tm = e.st.tm) {t : TypeId} {x y : Operand} {va vy : V} {cv : Value} (hs : Ev.size e.P t = some 1) (ho : e.o.op = .store t x y)
    (hra : RepT g ν va (e.a.eval x)) (hcv : e.a.eval y = cv) (hr : RepA g vy cv) (hk : vy.keep = true) (hcc : cv.cells = #[cv]) (hone : oneC cv = true) :
    Res e (fun k _ => storeD [] st [vy] va fun s => k .un s) := by
  have hrun : ∀ b o, e.a.eval x = .pointer (some (ad b o)) → (∃ u, e.w.cell? (ad b o) = some u) → e.w.frozen? (ad b o) = false → (execOp e.a.eval e.o).run e.P e.w = .ok .skip (setCs e.w b o [cv]) := fun b o hp hc hf => by
    have := run_storeVar (P := e.P) (t := t) (w := e.w) (b := b) (o := o) (v := cv) (by rw [hs, hcc]; rfl) (fun j hj => by
      rw [hcc] at hj
      have : j = 0 := by simp at hj; omega
      subst this; obtain ⟨u, hu⟩ := hc; simp [hu]) (fun j hj => by
      rw [hcc] at hj
      have : j = 0 := by simp at hj; omega
      subst this; exact hf) (fun c hc => by rw [hcc] at hc; simp at hc; rw [hc]; exact hone)
    rw [hcc] at this
    simp [execOp, ho, hp, hcv, Instr.storeAt, Instr.sureAddr, this]
  have hunit : ∀ (s : St) (w' : World), s.tm = e.st.tm → MemR e.E g ν s.lo s.hp w' → After e.E e.clr e.dst e.g e.ν e.st .un s undef w' g ν := fun s w' h1 h2 =>
    ⟨h1, h2, hle, .inl hν, .ofA (.un _), fun _ _ _ _ hx => by cases hx⟩
  have hget' : ∀ (j : Nat) (c : V), [vy][j]? = some c → ∃ u, [cv][j]? = some u ∧ RepA g c u := fun j c hj => by
    have := lt_of_get hj
    have : j = 0 := by simp at this; omega
    subst this
    simp only [List.getElem?_cons_zero, Option.some.injEq] at hj; subst hj
    exact ⟨cv, rfl, hr⟩
  cases va with
  | lp t' off =>
    obtain ⟨b, hb', hp⟩ := hra
    cases hlo : st.lo t' with
    | none => exact .bad fun k kp => by simp [storeD, hlo]
    | some cs =>
      refine .eq (F' := fun k _ => .chk (Nat.ble (off + 1) cs.length) (k .un (st.setLo t' (over off [vy] cs)))) (fun k kp => by simp [storeD, hlo, fresh]) ?_
      refine .chk fun hc => ?_
      have hc := Nat.le_of_ble_eq_true hc
      obtain ⟨hx1, _⟩ := hm.lo.box t' cs b hlo hb'
      obtain ⟨_, ⟨u, hu, _⟩, hf⟩ := hx1 off (cs[off]'(by omega)) (by rw [List.getElem?_eq_getElem])
      refine .out (.skip _ (hrun b off hp ⟨u, hu⟩ hf)) (hunit (st.setLo t' _) _ htm ?_)
      exact hm.setBox hlo hb' off [vy] [cv] (by simpa using hc) rfl (fun c hc => by simp at hc; rw [hc]; exact hk) hget'
  | pt id i off =>
    obtain ⟨a, hp, hx1⟩ := RepA.pt_inv hra
    cases hg : hget st.hp id with
    | none => exact .bad fun k kp => by simp [storeD, hg]
    | some bk =>
      refine .eq (F' := fun k _ => bif bk.fr then .bad else bif Nat.blt id st.hp.lim then .bad else
        .chk (Nat.blt i bk.es.length) (.chk (Nat.ble (off + 1) (bk.es.getD i []).length)
        (k .un (st.setHp (hset st.hp id (some ⟨bk.sz, bk.fr, bk.es.set i (over off [vy] (bk.es.getD i []))⟩)))))) (fun k kp => by simp [storeD, hg, freshH]) ?_
      refine .bif (F := fun _ _ => .bad) (fun _ => .bad fun _ _ => rfl) (fun hfr => ?_)
      refine .bif (F := fun _ _ => .bad) (fun _ => .bad fun _ _ => rfl) (fun hlm => ?_)
      refine .chk fun hi => .chk fun hc => ?_
      have hc := Nat.le_of_ble_eq_true hc
      have hi : i < bk.es.length := Nat.le_of_ble_eq_true hi
      have hlim : st.hp.lim ≤ id := by
        rcases Nat.lt_or_ge id st.hp.lim with q | q
        · have : Nat.blt id st.hp.lim = true := by simpa [Nat.blt_eq] using q
          rw [this] at hlm; cases hlm
        · exact q
      rcases hx1 with hx1 | ⟨r, hl, rfl⟩
      · rw [hm.hr.dead id hx1] at hg; cases hg
      · obtain ⟨bk0, e0, z⟩ := hm.hr.live id r hl
        rw [hg] at e0; cases e0
        have hrow : bk.es[i]? = some (bk.es.getD i []) := by simp [List.getD, List.getElem?_eq_getElem hi]
        have hrl : (bk.es.getD i []).length = bk.sz := z.row _ (List.mem_of_getElem? hrow)
        have hmul : i * r.sz + bk.sz ≤ r.cap * r.sz := by
          have : (i + 1) * r.sz ≤ r.cap * r.sz := Nat.mul_le_mul_right _ (by have := z.len; omega)
          rw [Nat.add_mul, Nat.one_mul, z.sz] at this
          rw [z.sz]; exact this
        have hx2 := z.rw hfr (i * r.sz + off) (by omega)
        refine .out (.skip _ (hrun r.b _ hp (by rw [Nat.add_assoc]; exact hx2.1) (by rw [Nat.add_assoc]; exact hx2.2.1))) (hunit (st.setHp _) _ htm ?_)
        have hxc : off + ([vy] : List V).length ≤ (bk.es.getD i []).length := by simpa using hc
        have := hm.write hl hg hfr hlim (bk' := ⟨bk.sz, bk.fr, bk.es.set i (over off [vy] (bk.es.getD i []))⟩) (i * r.sz + off) [cv] (by simp; omega) rfl hfr (by simpa using z.len)
          (fun x hx => by
            rcases List.mem_or_eq_of_mem_set hx with hx | hx
            · exact z.row x hx
            · rw [hx, over_len hxc]; exact hrl)
          (fun i' j x c hx' hc' => by
            rw [List.getElem?_set] at hx'
            by_cases hii : i = i'
            · subst hii
              simp only [if_true, hi, Option.some.injEq] at hx'
              subst hx'
              have hjl := lt_of_get hc'
              rw [over_len hxc] at hjl
              rw [over_get hxc] at hc'
              by_cases hin : off ≤ j ∧ j < off + ([vy] : List V).length
              · rw [if_pos hin] at hc'
                simp only [List.length_singleton] at hin ⊢
                rw [z.sz, if_pos (by omega)]
                obtain ⟨u, k1, k2⟩ := hget' _ c hc'
                have hj0 : j - off = 0 := by omega
                rw [hj0] at hc' k1
                simp only [List.getElem?_cons_zero, Option.some.injEq] at hc' k1
                refine ⟨by rw [← hc']; exact hk, u, ?_, k2⟩
                rw [show i * bk.sz + j - (i * bk.sz + off) = 0 by omega, ← k1]; rfl
              · rw [if_neg hin] at hc'
                simp only [List.length_singleton] at hin ⊢
                rw [z.sz, if_neg (by omega)]
                obtain ⟨k1, u, k2, k3⟩ := z.cont i j _ c hrow hc'
                refine ⟨k1, u, ?_, k3⟩
                rw [z.sz, Nat.add_assoc] at k2; exact k2
            · simp only [hii, if_false] at hx'
              have hjl := lt_of_get hc'
              rw [z.row x (List.mem_of_getElem? hx')] at hjl
              obtain ⟨k1, u, k2, k3⟩ := z.cont i' j x c hx' hc'
              have hcond : ¬ (i * r.sz + off ≤ i' * bk.sz + j ∧ i' * bk.sz + j < i * r.sz + off + ([cv] : List Value).length) := by
                simp only [List.length_singleton]
                rw [z.sz]
                rcases Nat.lt_or_gt_of_ne hii with q | q
                · have := Nat.mul_le_mul_right bk.sz (show i + 1 ≤ i' from q)
                  rw [Nat.add_mul, Nat.one_mul] at this
                  have hoff : off < bk.sz := by omega
                  omega
                · have := Nat.mul_le_mul_right bk.sz (show i' + 1 ≤ i from q)
                  rw [Nat.add_mul, Nat.one_mul] at this
                  omega
              rw [if_neg hcond]
              refine ⟨k1, u, ?_, k3⟩
              rw [z.sz, Nat.add_assoc] at k2; exact k2)
        rw [Nat.add_assoc]
        exact this
  | _ => exact .bad fun _ _ => rfl
theorem ok_stp (h : e.St) {t : TypeId} {x y : Operand} {xa ya : A} (hs : Ev.size e.P t = some 1) (hx : cA x = some xa) (hy : cA y = some ya) (ho : e.o.op = .store t x y) (us : List Nat) (d : Nat) :
    Res e (iStp xa ya us e.clr d e.st) := by
  have hrx := h.rep hx
  have hry := h.rep hy
  cases hg : get e.st.tm ya with
  | lp t' off =>
    rw [hg] at hry
    obtain ⟨b, hb', hp⟩ := hry
    cases hz : Nat.beq off 0 with
    | false => exact .bad fun k kp => by simp only [iStp, hg, hz, cond_false]
    | true =>
      have hz' := Nat.eq_of_beq_eq_true hz
      subst hz'
      cases hlo : e.st.lo t' with
      | none => exact .bad fun k kp => by simp only [iStp, hg, hz, cond_true, hlo]
      | some cs =>
        obtain ⟨m1, m2⟩ := h.mem.promote hlo hb'
        refine .eq (F' := fun k _ => storeD [] ⟨e.st.tm, lno e.st.lo t', hnew e.st.hp ⟨cs.length, false, [cs]⟩⟩ [.pt e.st.hp.next 0 0] (get e.st.tm xa) fun s => k .un s) (fun k kp => by simp only [iStp, hg, hz, cond_true, hlo]) ?_
        refine store_one (st := ⟨e.st.tm, lno e.st.lo t', hnew e.st.hp ⟨cs.length, false, [cs]⟩⟩) m1 m2 rfl rfl hs ho ?_ hp (.pt _ _ _ _ (.inr ⟨⟨b, 0, cs.length, 1⟩, by simp [born], by simp⟩)) rfl rfl rfl
        exact hrx.mono m2 (fun _ _ _ => rfl)
  | _ => exact .bad fun k kp => by simp only [iStp, hg]
end
end Ev
namespace Ev
variable [Glob]
open Go
def I.calls : I → Bool
  | .call .. | .cpf .. | .calv .. | .pan _ => true
  | _ => false
def I.boxes : I → Bool
  | .alc _ | .box _ => true
  | _ => false
section
variable {e : Env}
theorem ins0_ok (h : e.St) {pol : Pol} {i : I} {d : Nat} {us : List Nat} (hi : cIns0 e.P pol e.o = some i) (hnc : i.calls = false) (hde : e.dst = e.o.dst) (hd : ∀ d', e.dst = some d' → d' = d)
    (hus : i.boxes = true → ∀ t, hasN e.clr t = true → t ∈ us) : Res e (i.den us e.clr d e.st) := by
  have hdd : ∀ {x}, e.o.dst = some x → e.dst = some d := fun {x} q => by
    have q' := hde.trans q
    rw [← hd x q']; exact q'
  unfold cIns0 at hi
  cases ho : e.o.op <;> simp only [ho, reduceCtorEq] at hi
  case move x =>
    cases hx : cA x <;> simp only [hx, Option.map_none, Option.map_some, reduceCtorEq, Option.some.injEq] at hi
    subst hi; exact ok_mov h hx (.inl ho) us d
  case assign x =>
    cases hx : cA x <;> simp only [hx, Option.map_none, Option.map_some, reduceCtorEq, Option.some.injEq] at hi
    subst hi; exact ok_mov h hx (.inr ho) us d
  case pick c a b =>
    split at hi
    · rename_i hc ha hb
      simp only [Option.some.injEq] at hi; subst hi
      exact ok_pick h hc ha hb ho us d
    · cases hi
  case alloc el =>
    split at hi
    · rename_i z s dd hz hs hdst
      split at hi
      · simp only [Option.some.injEq] at hi
        split at hi
        · subst hi; exact ok_alc h hz ho (hus rfl) (hdd hdst)
        · subst hi; exact ok_alh h hz ho us d
      · cases hi
    · cases hi
  case box el x =>
    split at hi
    · rename_i dd xa s hdst hx hs
      simp only [Option.some.injEq] at hi
      split at hi
      · subst hi; exact ok_box h hx ho (hus rfl) (hdd hdst)
      · subst hi; exact ok_bxh h hx ho us d
    · cases hi
  case build t ps =>
    split at hi
    · rename_i z s fs hz hs hu
      split at hi
      · rename_i pl hpl
        split at hi
        · cases hm : allSome (partS pl) ps.toList with
          | none => simp only [hm, Option.map_none, reduceCtorEq] at hi
          | some ms =>
            simp only [hm, Option.map_some, Option.some.injEq] at hi; subst hi
            refine ok_bld h (place := (pl.toArray[·]?)) hz (fun i x o n xa hx => ?_) hm (fun i zv l cells hinfo hzv hf => ?_) ho us d
            · unfold partS at hx
              split at hx
              · rename_i h1 h2
                simp only [Option.some.injEq, Prod.mk.injEq] at hx
                obtain ⟨rfl, rfl, rfl⟩ := hx
                exact ⟨by simpa using h1, h2⟩
              · cases hx
            · unfold Program.built
              simp only [hinfo, hu, hzv, hpl]
              exact hf
        · cases hi
      · cases hi
    · rename_i z s k el hz hs hu
      split at hi
      · split at hi
        · rename_i n hn
          cases hm : allSome (partA n) ps.toList with
          | none => simp only [hm, Option.map_none, reduceCtorEq] at hi
          | some ms =>
            simp only [hm, Option.map_some, Option.some.injEq] at hi; subst hi
            obtain ⟨ie, hie, hien⟩ := size_info hn
            refine ok_bld h (place := fun i => some (i * n, n)) hz (fun i x o m xa hx => ?_) hm (fun i zv l cells hinfo hzv hf => ?_) ho us d
            · unfold partA at hx
              cases hc : cA x with
              | none => simp [hc] at hx
              | some y => simp only [hc, Option.map_some, Option.some.injEq, Prod.mk.injEq] at hx; obtain ⟨rfl, rfl, rfl⟩ := hx; exact ⟨rfl, rfl⟩
            · unfold Program.built
              simp only [hinfo, hu, hzv, hie, hien]
              exact hf
        · cases hi
      · cases hi
    · cases hi
  case buildSlice t n ps =>
    split at hi
    · rename_i el hel
      have hu : e.P.underlying t = some (.slice el) := by
        unfold Ev.elemOf at hel
        split at hel <;> simp_all
      split at hi
      · rename_i s z ms ts dd hs hz hm hts hdst
        split at hi
        · rename_i hcond
          obtain ⟨c1, c2, c3, c4⟩ := hcond
          simp only [Option.some.injEq] at hi
          split at hi
          · subst hi; exact ok_bsl h hu hs hz hm c1 c2 c3 ho us d
          · subst hi; exact ok_bsv h hu hs hz hm c1 c2 c3 ho us d
        · cases hi
      · cases hi
    · cases hi
  case load t a =>
    split at hi
    · rename_i hs hg ha
      simp only [Option.some.injEq] at hi
      split at hi
      · subst hi; exact ok_ldl h hs hg ha ho us d
      · subst hi; exact ok_ld h hs hg ha ho us d
    · cases hi
  case store t a x =>
    split at hi
    · rename_i n aa xa hs ha hx
      simp only [Option.some.injEq] at hi
      split at hi
      · rename_i hc
        simp only [Bool.and_eq_true] at hc
        have h1 := Nat.eq_of_beq_eq_true hc.2
        subst h1; subst hi
        exact ok_stp h hs ha hx ho us d
      · subst hi; exact ok_sto h hs ha hx ho us d
    · cases hi
  case nilCheck x =>
    cases hx : cA x <;> simp only [hx, Option.map_none, Option.map_some, reduceCtorEq, Option.some.injEq] at hi
    subst hi; exact ok_nck h hx ho us hd
  case binOp op t x y yt =>
    split at hi
    · rename_i hx hy
      split at hi
      · rename_i hop
        cases hq : qkOf e.P t <;> simp only [hq, Option.map_none, Option.map_some, reduceCtorEq, Option.some.injEq] at hi
        subst hi
        exact ok_bin h (fun _ => hq) hx hy ho us d
      · rename_i hop
        simp only [Option.some.injEq] at hi; subst hi
        exact ok_bin h (fun q => absurd q hop) hx hy ho us d
    · cases hi
  case unOp op t x =>
    cases hx : cA x <;> simp only [hx, Option.map_none, Option.map_some, reduceCtorEq, Option.some.injEq] at hi
    subst hi; exact ok_un h hx ho us d
  case convert s t x =>
    split at hi
    · split at hi
      · rename_i c xa hc hx
        simp only [Option.some.injEq] at hi; subst hi
        exact ok_cnv h hc hx ho us d
      · rename_i xa _ hx
        split at hi
        · rename_i hst
          subst hst
          split at hi
          · rename_i el hu
            split at hi
            · rename_i hby
              simp only [Option.some.injEq] at hi; subst hi
              exact ok_mrk h hu hby hx ho us d
            · cases hi
          · cases hi
        · cases hi
      · cases hi
    · cases hi
  case makeInterface t x =>
    split at hi
    · cases hi
    · rename_i dd xa hne hu hx
      simp only [Option.some.injEq] at hi; subst hi
      exact ok_mki h hu (fun m q => hne m q) hx ho us d
    · cases hi
  case makeFunc f first cap =>
    cases f <;> simp only [reduceCtorEq] at hi
    split at hi
    · rename_i ha hb
      simp only [Option.some.injEq] at hi; subst hi
      exact ok_mkf h ha hb ho us d
    · cases hi
  case makeSlice t l c =>
    split at hi
    · rename_i el hel
      have hu : e.P.underlying t = some (.slice el) := by
        unfold Ev.elemOf at hel
        split at hel <;> simp_all
      split at hi
      · rename_i s z b xa ya hs hz hb hx hy
        split at hi
        · rename_i hcond
          simp only [Option.some.injEq] at hi; subst hi
          exact ok_mks h hu hs hz hb hcond.1 hcond.2 hx hy ho us d
        · cases hi
      · cases hi
    · cases hi
  case slice t x lo hh mx =>
    cases mx <;> simp only [reduceCtorEq] at hi
    split at hi
    · rename_i xa la ha hx hl hh'
      have hl' : cOpt lo = some la := by cases lo <;> exact hl
      have hh'' : cOpt hh = some ha := by cases hh <;> exact hh'
      split at hi
      · rename_i hu
        simp only [Option.some.injEq] at hi; subst hi
        exact ok_slc h (s := true) (by simpa using hu) hx hl' hh'' ho us d
      · rename_i el hu
        cases hs : Ev.size e.P el <;> simp only [hs, Option.map_none, Option.map_some, reduceCtorEq, Option.some.injEq] at hi
        subst hi
        exact ok_slc h (s := false) (by simpa using ⟨el, hu, hs⟩) hx hl' hh'' ho us d
      · cases hi
    · cases hi
  case fieldAddr s a k =>
    split at hi
    · rename_i f xa hf hx
      split at hi
      · rename_i n hn
        split at hi
        · cases hi
        · rename_i h0
          simp only [Option.some.injEq] at hi; subst hi
          exact ok_fad h hf hn h0 hx ho us hd
      · cases hi
    · cases hi
  case field s x k =>
    split at hi
    · rename_i f xa hf hx
      split at hi
      · rename_i n g hn hg
        simp only [Option.some.injEq] at hi; subst hi
        exact ok_fld h hf hn hg hx ho us d
      · cases hi
    · cases hi
  case indexAddr t x k =>
    split at hi
    · rename_i el xa ia hu hx hk
      cases hs : Ev.size e.P el <;> simp only [hs, Option.map_none, Option.map_some, reduceCtorEq, Option.some.injEq] at hi
      subst hi
      exact ok_ias h hu hs hx hk ho us d
    · rename_i n el xa ia hu hx hk
      cases hs : Ev.size e.P el <;> simp only [hs, Option.map_none, Option.map_some, reduceCtorEq, Option.some.injEq] at hi
      subst hi
      exact ok_iaa h hu hs hx hk ho us hd
    · cases hi
  case index t x k =>
    split at hi
    · rename_i xa ia hu hx hk
      simp only [Option.some.injEq] at hi; subst hi
      exact ok_ixs h hu hx hk ho us d
    · rename_i n el xa ia hu hx hk
      split at hi
      · rename_i s g hs hg
        simp only [Option.some.injEq] at hi; subst hi
        exact ok_ixa h hu hs hg hx hk ho us d
      · cases hi
    · cases hi
  case makeMap t hint =>
    cases hint <;> simp only [reduceCtorEq] at hi
    split at hi
    · simp only [Option.some.injEq] at hi; subst hi; exact ok_mmk h ho us d
    · cases hi
  case lookup t x k ok =>
    split at hi
    · rename_i key el xa ia hu hx hk
      split at hi
      · rename_i hm
        split at hi
        · rename_i z hz
          simp only [Option.some.injEq] at hi; subst hi
          exact ok_mlk h hm hu hz hx hk ho us d
        · cases hi
      · cases hi
    · cases hi
  case mapUpdate t x k y =>
    split at hi
    · rename_i xa ia va hx hk hv
      split at hi
      · rename_i hm
        simp only [Option.some.injEq] at hi; subst hi
        exact ok_mup h hm hx hk hv ho us d
      · cases hi
    · cases hi
  case extract x k =>
    cases hx : cA x <;> simp only [hx, Option.map_none, Option.map_some, reduceCtorEq, Option.some.injEq] at hi
    subst hi; exact ok_ext h hx ho us d
  case panic x =>
    cases hx : cA x <;> simp only [hx, Option.map_none, Option.map_some, reduceCtorEq, Option.some.injEq] at hi
    subst hi; cases hnc
  case call c =>
    split at hi
    · rename_i f xs hcal ha
      split at hi
      · rename_i hix
        split at hi
        · simp only [Option.some.injEq] at hi; subst hi
          exact ok_ixb h hix hcal ha ho us d
        · cases hi
      · split at hi
        · rename_i hcx
          split at hi
          · simp only [Option.some.injEq] at hi; subst hi
            exact ok_ctb h hcx hcal ha ho us d
          · cases hi
        · split at hi <;> (simp only [Option.some.injEq] at hi; subst hi; cases hnc)
    · rename_i f xs _ _ _
      cases hf : cA f <;> simp only [hf, Option.map_none, Option.map_some, reduceCtorEq, Option.some.injEq] at hi
      subst hi; cases hnc
    · rename_i b xs hb ha
      split at hi
      · rename_i xa
        split at hi
        · rename_i n el hu
          simp only [Option.some.injEq] at hi; subst hi
          obtain ⟨x, hargs, hx⟩ := args1 ha
          cases ht : c.argTypes[0]? with
          | none => simp [ht] at hu
          | some t =>
            have hu' : e.P.underlying t = some (.array n el) := by simpa [ht] using hu
            exact Res.val h (cv := goInt n) (run_builtin ho hb (by simp [Go.builtin, hargs, Builtin.len_, ht, run_underlying hu'])) (.c _ _ (.it _ _)) rfl
        · rename_i ar hu
          split at hi
          · rename_i n el hu2
            simp only [Option.some.injEq] at hi; subst hi
            obtain ⟨x, hargs, hx⟩ := args1 ha
            cases ht : c.argTypes[0]? with
            | none => simp [ht] at hu
            | some t =>
              have hu' : e.P.underlying t = some (.pointer ar) := by simpa [ht] using hu
              exact Res.val h (cv := goInt n) (run_builtin ho hb (by simp [Go.builtin, hargs, Builtin.len_, ht, run_underlying hu', run_underlying hu2])) (.c _ _ (.it _ _)) rfl
          · cases hi
        · rename_i hu
          simp only [Option.some.injEq] at hi; subst hi
          cases ht : c.argTypes[0]? with
          | none => simp [ht] at hu
          | some t => exact ok_len h ha ho hb ht (by simpa [ht] using hu) us d
        · rename_i el hu
          simp only [Option.some.injEq] at hi; subst hi
          cases ht : c.argTypes[0]? with
          | none => simp [ht] at hu
          | some t => exact ok_len h ha ho hb ht (by simpa [ht] using ⟨el, by simpa [ht] using hu⟩) us d
        · cases hi
      · rename_i xa ya
        obtain ⟨x, y, hargs, hx, hy⟩ := args2 ha
        split at hi
        · rename_i t tx htys
          have htys' : c.argTypes = #[t, tx] := by apply Array.ext'; simpa using htys
          split at hi
          · rename_i el u hu hux
            split at hi
            · rename_i s b z hs hbb hz
              split at hi
              · rename_i hcond
                obtain ⟨c1, c2, c3⟩ := hcond
                split at hi
                · simp only [Option.some.injEq] at hi; subst hi
                  exact ok_app h hargs htys' ho hb hu (.inl ⟨_, hux⟩) hs hbb hz c1 c2 c3 hx hy us d
                · simp only [Option.some.injEq] at hi; subst hi
                  exact ok_app h hargs htys' ho hb hu (.inr hux) hs hbb hz c1 c2 c3 hx hy us d
                · split at hi
                  · rename_i hq
                    obtain ⟨_, rfl, rfl, q4⟩ := hq
                    simp only [Option.some.injEq] at hi; subst hi
                    exact ok_apz h hargs htys' ho hb hu hux hs hbb q4 hx hy us d
                  · cases hi
                · cases hi
              · cases hi
            · cases hi
          · cases hi
        · cases hi
      · rename_i xa ya
        obtain ⟨x, y, hargs, hx, hy⟩ := args2 ha
        split at hi
        · rename_i t tx htys
          have htys' : c.argTypes = #[t, tx] := by apply Array.ext'; simpa using htys
          split at hi
          · rename_i el u hu hux
            split at hi
            · rename_i s hs
              split at hi
              · rename_i hsz
                split at hi
                · simp only [Option.some.injEq] at hi; subst hi
                  exact ok_cpy h hargs htys' ho hb hu hs hsz hx hy us d
                · simp only [Option.some.injEq] at hi; subst hi
                  exact ok_cpy h hargs htys' ho hb hu hs hsz hx hy us d
                · cases hi
              · cases hi
            · cases hi
          · cases hi
        · cases hi
      · rename_i xa
        obtain ⟨x, hargs, hx⟩ := args1 ha
        split at hi
        · rename_i t htys
          have htys' : c.argTypes = #[t] := by apply Array.ext'; simpa using htys
          split at hi
          · rename_i el hu
            split at hi
            · rename_i s z hs hz
              split at hi
              · rename_i hcond
                simp only [Option.some.injEq] at hi; subst hi
                exact ok_clr h hargs htys' ho hb hu hs hz hcond.1 hcond.2 hx us d
              · cases hi
            · cases hi
          · cases hi
        · cases hi
      · simp only [Option.some.injEq] at hi; subst hi
        exact ok_mnx h (mx := false) ha ho hb us d
      · simp only [Option.some.injEq] at hi; subst hi
        exact ok_mnx h (mx := true) ha ho hb us d
      · simp only [Option.some.injEq] at hi; subst hi
        exact ok_mn3 h (mx := false) ha ho hb us d
      · simp only [Option.some.injEq] at hi; subst hi
        exact ok_mn3 h (mx := true) ha ho hb us d
      · cases hi
    · cases hi
theorem ins_ok (h : e.St) {pol : Pol} {i : I} {d : Nat} {us : List Nat} (hi : cIns e.P pol e.o = some i) (hnc : i.calls = false) (hde : e.dst = e.o.dst) (hd : ∀ d', e.dst = some d' → d' = d)
    (hus : i.boxes = true → ∀ t, hasN e.clr t = true → t ∈ us) : Res e (i.den us e.clr d e.st) := by
  unfold cIns at hi
  split at hi
  · simp only [Option.some.injEq] at hi; subst hi; exact ok_hnd h us d
  · split at hi
    · rename_i i' h0
      simp only [Option.some.injEq] at hi; subst hi
      exact ins0_ok h h0 hnc hde hd hus
    · simp only [Option.some.injEq] at hi; subst hi; exact ok_hnd h us d
end
end Ev
namespace Ev
variable [Glob]
open Go
theorem force_eq {α : Type} (k : V → α) (v : V) : force k v = k v := by
  cases v with
  | bo x => cases x <;> rfl
  | _ => rfl
theorem forceL_eq {α : Type} : ∀ (l : List V) (k : List V → α), forceL k l = k l
  | [], _ => rfl
  | v :: r, k => by simp only [forceL]; rw [force_eq, forceL_eq r]
abbrev FF := (V → St → D) → (V → St → D) → D
def EO (call : Call) (L : Nat) (st st' : St) (F F' : FF) : Prop :=
  Bad call L F ∨ ∃ v, (∀ k kp, run call L (F k kp) = run call L (k v st)) ∧ (∀ k kp, run call L (F' k kp) = run call L (k v st'))
section
variable {call : Call} {L : Nat} {st st' : St}
theorem EO.bad {F F' : FF} (h : ∀ k kp, F k kp = .bad) : EO call L st st' F F' := .inl fun k kp => by rw [h]; rfl
theorem EO.val (v : V) : EO call L st st' (fun k _ => k v st) (fun k _ => k v st') := .inr ⟨v, fun _ _ => rfl, fun _ _ => rfl⟩
theorem EO.chk {b : Bool} {F F' : FF} (h : EO call L st st' F F') : EO call L st st' (fun k kp => .chk b (F k kp)) (fun k kp => .chk b (F' k kp)) := by
  cases b with
  | false => exact .inl fun k kp => by simp [run]
  | true =>
    rcases h with h | ⟨v, h, h'⟩
    · exact .inl fun k kp => by simp only [run, cond_true]; exact h k kp
    · exact .inr ⟨v, fun k kp => by simp only [run, cond_true]; exact h k kp, fun k kp => by simp only [run, cond_true]; exact h' k kp⟩
theorem EO.br {b : Bool} {F G F' G' : FF} (h : EO call L st st' F F') (h' : EO call L st st' G G') : EO call L st st' (fun k kp => .br b (F k kp) (G k kp)) (fun k kp => .br b (F' k kp) (G' k kp)) := by
  cases b with
  | false =>
    rcases h' with h | ⟨v, h, h'⟩
    · exact .inl fun k kp => by simp only [run, cond_false]; exact h k kp
    · exact .inr ⟨v, fun k kp => by simp only [run, cond_false]; exact h k kp, fun k kp => by simp only [run, cond_false]; exact h' k kp⟩
  | true =>
    rcases h with h | ⟨v, h, h'⟩
    · exact .inl fun k kp => by simp only [run, cond_true]; exact h k kp
    · exact .inr ⟨v, fun k kp => by simp only [run, cond_true]; exact h k kp, fun k kp => by simp only [run, cond_true]; exact h' k kp⟩
theorem EO.bif {b : Bool} {F G F' G' : FF} (h : b = true → EO call L st st' F F') (h' : b = false → EO call L st st' G G') : EO call L st st' (fun k kp => bif b then F k kp else G k kp) (fun k kp => bif b then F' k kp else G' k kp) := by
  cases b with
  | false => exact h' rfl
  | true => exact h rfl
theorem EO.oneD {α : Type} {o : Option α} {f f' : α → FF} (h : ∀ v, o = some v → EO call L st st' (f v) (f' v)) : EO call L st st' (fun k kp => Ev.oneD o fun v => f v k kp) (fun k kp => Ev.oneD o fun v => f' v k kp) := by
  cases o with
  | none => exact .bad fun k kp => rfl
  | some v => exact h v rfl
theorem EO.notLp {v : V} : EO call L st st' (fun k _ => notLpD v fun v => k v st) (fun k _ => notLpD v fun v => k v st') := by
  cases v <;> first | exact .bad fun k kp => rfl | exact .val _
theorem EO.nat {v : V} {f f' : Nat → FF} (h : ∀ n, EO call L st st' (f n) (f' n)) : EO call L st st' (fun k kp => natD v fun v => f v k kp) (fun k kp => natD v fun v => f' v k kp) := by
  cases v <;> first | exact .chk (h _) | exact .bad fun k kp => rfl
theorem EO.cut {n off : Nat} {cs : List V} {f f' : List V → FF} (h : ∀ cs, EO call L st st' (f cs) (f' cs)) : EO call L st st' (fun k kp => cutD n off cs fun v => f v k kp) (fun k kp => cutD n off cs fun v => f' v k kp) := .chk (h _)
theorem EO.move {clr : List Nat} {d off : Nat} {v : V} : EO call L st st' (fun k _ => moveD clr d off v fun v => k v st) (fun k _ => moveD clr d off v fun v => k v st') := by
  cases v with
  | pt => exact .val _
  | lp => exact .bif (F := fun k _ => k _ st) (F' := fun k _ => k _ st') (G := fun _ _ => .bad) (G' := fun _ _ => .bad) (fun _ => .val _) (fun _ => .bad fun _ _ => rfl)
  | ip => exact .chk (.val _)
  | _ => exact .bad fun _ _ => rfl
theorem EO.shift {op : BinOp} {k : IntKind} {a b : Int} : EO call L st st' (fun c _ => shiftD op k a b fun v => c v st) (fun c _ => shiftD op k a b fun v => c v st') := by
  cases op <;> exact .chk (.val _)
theorem EO.binI {op : BinOp} {k : IntKind} {a b : Int} : EO call L st st' (fun c _ => Ev.binI op k a b fun v => c v st) (fun c _ => Ev.binI op k a b fun v => c v st') := by
  cases op <;> first | exact .val _ | exact .chk (.val _) | exact .oneD (f := fun v c _ => c v st) (f' := fun v c _ => c v st') fun v _ => .val v | exact .bad fun _ _ => rfl
theorem EO.binS {op : BinOp} {a b : List Nat} : EO call L st st' (fun c _ => Ev.binS op a b fun v => c v st) (fun c _ => Ev.binS op a b fun v => c v st') := by
  cases op <;> first | exact .val _ | exact .chk (.val _) | exact .bad fun _ _ => rfl
theorem EO.bin {hp hp' : Hp} {q : Qk} {op : BinOp} {x y : V} : EO call L st st' (fun c _ => binD hp q op x y fun v => c v st) (fun c _ => binD hp' q op x y fun v => c v st') := by
  have gen : EO call L st st' (fun c _ => bif isEq op then Ev.oneD (eqv q x y) fun b => c (eqRes op b) st else .bad) (fun c _ => bif isEq op then Ev.oneD (eqv q x y) fun b => c (eqRes op b) st' else .bad) :=
    .bif (F := fun c _ => Ev.oneD (eqv q x y) fun b => c (eqRes op b) st) (F' := fun c _ => Ev.oneD (eqv q x y) fun b => c (eqRes op b) st') (G := fun _ _ => .bad) (G' := fun _ _ => .bad)
      (fun _ => .oneD (f := fun b c _ => c (eqRes op b) st) (f' := fun b c _ => c (eqRes op b) st') fun b _ => .val _) (fun _ => .bad fun _ _ => rfl)
  cases x with
  | it k a =>
    cases y with
    | it k' b =>
      exact .bif (F := fun c _ => shiftD op k a b fun v => c v st) (F' := fun c _ => shiftD op k a b fun v => c v st') (G := fun c _ => bif keq k k' then Ev.binI op k a b (fun v => c v st) else .bad) (G' := fun c _ => bif keq k k' then Ev.binI op k a b (fun v => c v st') else .bad)
        (fun _ => .shift) (fun _ => .bif (F := fun c _ => Ev.binI op k a b fun v => c v st) (F' := fun c _ => Ev.binI op k a b fun v => c v st') (G := fun _ _ => .bad) (G' := fun _ _ => .bad) (fun _ => .binI) (fun _ => .bad fun _ _ => rfl))
    | _ => exact .bad fun _ _ => rfl
  | st a =>
    cases y with
    | st b => exact .binS
    | _ => exact .bad fun _ _ => rfl
  | _ => exact gen
def Same (st st' : St) (v : V) : Prop :=
  match v with
  | .lp t _ => st'.lo t = st.lo t
  | .pt id _ _ => ∀ bk, hget st.hp id = some bk → ∃ bk', hget st'.hp id = some bk' ∧ bk'.sz = bk.sz ∧ bk'.es = bk.es
  | .hs id _ _ => ∀ bk, hget st.hp id = some bk → ∃ bk', hget st'.hp id = some bk' ∧ bk'.sz = bk.sz ∧ bk'.es = bk.es
  | .mp id => ∀ bk, hget st.hp id = some bk → ∃ bk', hget st'.hp id = some bk' ∧ bk'.sz = bk.sz ∧ bk'.es = bk.es
  | _ => True
theorem EO.load {n : Nat} {v : V} (hs : Same st st' v) {f f' : List V → FF} (h : ∀ cs, EO call L st st' (f cs) (f' cs)) : EO call L st st' (fun k kp => loadD st n v fun cs => f cs k kp) (fun k kp => loadD st' n v fun cs => f' cs k kp) := by
  cases v with
  | ip cs => exact .cut h
  | lp t off =>
    have hs : st'.lo t = st.lo t := hs
    simp only [loadD, hs]
    cases st.lo t with
    | none => exact .bad fun _ _ => rfl
    | some cs => exact .cut h
  | pt id i off =>
    simp only [loadD]
    cases hg : hget st.hp id with
    | none => exact .bad fun _ _ => rfl
    | some bk =>
      obtain ⟨bk', h1, _, h3⟩ := hs bk hg
      simp only [h1, h3]
      exact .chk (.cut h)
  | _ => exact .bad fun _ _ => rfl
theorem EO.elems {n : Nat} {v : V} (hs : Same st st' v) {f f' : List (List V) → FF} (h : ∀ cs, EO call L st st' (f cs) (f' cs)) : EO call L st st' (fun k kp => elemsD st.hp n v fun cs => f cs k kp) (fun k kp => elemsD st'.hp n v fun cs => f' cs k kp) := by
  cases v with
  | ns => exact h []
  | vs m es => exact .bif (F := f es) (F' := f' es) (G := fun _ _ => .bad) (G' := fun _ _ => .bad) (fun _ => h es) (fun _ => .bad fun _ _ => rfl)
  | hs id i len =>
    simp only [elemsD]
    cases hg : hget st.hp id with
    | none => exact .bad fun _ _ => rfl
    | some bk =>
      obtain ⟨bk', h1, h2, h3⟩ := hs bk hg
      simp only [h1, h2, h3]
      exact .bif (F := fun k kp => .chk (Nat.ble (i + len) bk.es.length) (f ((bk.es.drop i).take len) k kp)) (F' := fun k kp => .chk (Nat.ble (i + len) bk.es.length) (f' ((bk.es.drop i).take len) k kp)) (G := fun _ _ => .bad) (G' := fun _ _ => .bad)
        (fun _ => .chk (h _)) (fun _ => .bad fun _ _ => rfl)
  | _ => exact .bad fun _ _ => rfl
theorem EO.szs {sz : Nat} {v : V} (hs : Same st st' v) {F F' : FF} (h : EO call L st st' F F') : EO call L st st' (fun k kp => szD st.hp sz v (F k kp)) (fun k kp => szD st'.hp sz v (F' k kp)) := by
  cases v with
  | vs n es => exact .bif (F := F) (F' := F') (G := fun _ _ => .bad) (G' := fun _ _ => .bad) (fun _ => h) (fun _ => .bad fun _ _ => rfl)
  | hs id i len =>
    simp only [szD]
    cases hg : hget st.hp id with
    | none => exact .bad fun _ _ => rfl
    | some bk =>
      obtain ⟨bk', h1, h2, h3⟩ := hs bk hg
      simp only [h1, h2]
      exact .bif (F := F) (F' := F') (G := fun _ _ => .bad) (G' := fun _ _ => .bad) (fun _ => h) (fun _ => .bad fun _ _ => rfl)
  | _ => exact h
theorem EO.bound {tm : Tm} {d : Nat} {a : Option A} {f f' : Nat → FF} (h : ∀ n, EO call L st st' (f n) (f' n)) : EO call L st st' (fun k kp => boundD tm d a fun n => f n k kp) (fun k kp => boundD tm d a fun n => f' n k kp) := by
  cases a with
  | none => exact h _
  | some a => exact .nat h
theorem get_eq {tm tm' : Tm} {x : A} (h : ∀ t, t ∈ slotsA x → tm' t = tm t) : get tm' x = get tm x := by
  cases x with
  | t n => exact h n (by simp [slotsA])
  | k v => rfl
theorem map_get_eq {tm tm' : Tm} {xs : List A} (h : ∀ t, t ∈ xs.flatMap slotsA → tm' t = tm t) : xs.map (get tm') = xs.map (get tm) := by
  apply List.map_congr_left
  intro x hx
  exact get_eq fun t ht => h t (List.mem_flatMap.2 ⟨x, hx, ht⟩)
theorem boundD_eq {tm tm' : Tm} {d : Nat} {a : Option A} (h : ∀ t, t ∈ slotsO a → tm' t = tm t) (k : Nat → D) : boundD tm' d a k = boundD tm d a k := by
  cases a with
  | none => rfl
  | some a => simp only [boundD, get_eq h]
def I.easy (i : I) : Bool := match i.cl with
  | .p | .r | .q => true
  | _ => false
theorem easy_frame {i : I} (hi : i.easy = true) {us us' clr : List Nat} {d : Nat} (hsl : ∀ t, t ∈ i.sl → st'.tm t = st.tm t) (hrd : ∀ x, x ∈ i.rdA → Same st st' (get st.tm x)) :
    EO call L st st' (i.den us clr d st) (i.den us' clr d st') := by
  show EO call L st st' (fun k kp => i.den us clr d st k kp) (fun k kp => i.den us' clr d st' k kp)
  have g1 : ∀ x : A, (∀ t, t ∈ slotsA x → t ∈ i.sl) → get st'.tm x = get st.tm x := fun x hx => get_eq fun t ht => hsl t (hx t ht)
  cases i with
  | mov x =>
    have e := g1 x (fun t ht => ht)
    simp only [I.den, iMov, e]; exact .notLp
  | pick c a b =>
    have e1 := g1 c (fun t ht => by simp [I.sl, ht])
    have e2 := g1 a (fun t ht => by simp [I.sl, ht])
    have e3 := g1 b (fun t ht => by simp [I.sl, ht])
    simp only [I.den, iPick, e1, e2, e3]
    cases get st.tm c <;> first | exact .br .notLp .notLp | exact .bad fun _ _ => rfl
  | bld z ps =>
    have e : (ps.map fun (o, n, a) => (o, n, get st'.tm a)) = ps.map fun (o, n, a) => (o, n, get st.tm a) := by
      apply List.map_congr_left
      rintro ⟨o, n, a⟩ hx
      simp only [g1 a (fun t ht => by simp only [I.sl, List.mem_flatMap]; exact ⟨_, hx, ht⟩)]
    simp only [I.den, iBld, e]
    exact .oneD (f := fun v k _ => k v st) (f' := fun v k _ => k v st') fun v _ => .val v
  | bsv ts sz es ps =>
    have e : (ps.map fun (i, a) => (i, get st'.tm a)) = ps.map fun (i, a) => (i, get st.tm a) := by
      apply List.map_congr_left
      rintro ⟨o, a⟩ hx
      simp only [g1 a (fun t ht => by simp only [I.sl, List.mem_flatMap]; exact ⟨_, hx, ht⟩)]
    simp only [I.den, iBsv, e]
    cases fillE sz (ps.map fun (i, a) => (i, get st.tm a)) es with
    | none => exact .bad fun _ _ => rfl
    | some es' =>
      simp only []
      cases closeEs depth ts es' h0 with
      | none => exact .bad fun _ _ => rfl
      | some q => exact .val _
  | ld n g a =>
    have e := g1 a (fun t ht => ht)
    simp only [I.den, iLd, e]
    exact .load (hrd a (by simp [I.rdA])) (f := fun cs k _ => Ev.oneD (pickC n g cs) fun v => k v st) (f' := fun cs k _ => Ev.oneD (pickC n g cs) fun v => k v st') fun cs => .oneD (f := fun v k _ => k v st) (f' := fun v k _ => k v st') fun v _ => .val v
  | ldl n g a =>
    have e := g1 a (fun t ht => ht)
    have hs := hrd a (by simp [I.rdA])
    simp only [I.den, iLdl, e]
    cases hv : get st.tm a with
    | lp t off =>
      rw [hv] at hs
      exact .load (v := .lp t off) hs (f := fun cs k _ => Ev.oneD (pickC n g cs) fun v => k v st) (f' := fun cs k _ => Ev.oneD (pickC n g cs) fun v => k v st') fun cs => .oneD (f := fun v k _ => k v st) (f' := fun v k _ => k v st') fun v _ => .val v
    | _ => exact .bad fun _ _ => rfl
  | nck x =>
    have e := g1 x (fun t ht => ht)
    simp only [I.den, iNck, e]; exact .move
  | bin q op x y =>
    have e1 := g1 x (fun t ht => by simp [I.sl, ht])
    have e2 := g1 y (fun t ht => by simp [I.sl, ht])
    simp only [I.den, iBin, e1, e2]; exact .bin
  | un op x =>
    have e := g1 x (fun t ht => ht)
    simp only [I.den, iUn, e]
    exact .oneD (f := fun v k _ => k v st) (f' := fun v k _ => k v st') fun v _ => .val v
  | cnv c x =>
    have e := g1 x (fun t ht => ht)
    simp only [I.den, iCnv, e]
    cases c with
    | b2s =>
      simp only [convD]
      exact .elems (hrd x (by simp [I.rdA])) (f := fun es k _ => Ev.oneD ((allSome unbyte es).map .st) fun v => k v st) (f' := fun es k _ => Ev.oneD ((allSome unbyte es).map .st) fun v => k v st') fun es => .oneD (f := fun v k _ => k v st) (f' := fun v k _ => k v st') fun v _ => .val v
    | s2b => cases hi
    | _ => cases get st.tm x <;> first | exact .val _ | exact .bad fun _ _ => rfl
  | cpf f xs =>
    have e : xs.map (get st'.tm) = xs.map (get st.tm) := map_get_eq fun t ht => hsl t ht
    simp only [I.den, iCpf, e]
    refine .bif (F := fun k _ => .call false f (xs.map (get st.tm)) h0 fun c => match c with
      | .ret v _ => k v st
      | _ => .bad) (F' := fun k _ => .call false f (xs.map (get st.tm)) h0 fun c => match c with
      | .ret v _ => k v st'
      | _ => .bad) (G := fun _ _ => .bad) (G' := fun _ _ => .bad) (fun _ => ?_) (fun _ => .bad fun _ _ => rfl)
    cases hq : call false f (xs.map (get st.tm)) h0 with
    | ret v h => exact .inr ⟨v, fun k kp => by simp only [run, forceL_eq, hq], fun k kp => by simp only [run, forceL_eq, hq]⟩
    | bad => exact .inl fun k kp => by simp only [run, forceL_eq, hq]
    | pan v h => exact .inl fun k kp => by simp only [run, forceL_eq, hq]
  | ixb x y =>
    have e1 := g1 x (fun t ht => by simp [I.sl, ht])
    have e2 := g1 y (fun t ht => by simp [I.sl, ht])
    simp only [I.den, iIxb, e1, e2]
    cases get st.tm x with
    | st l =>
      simp only []
      cases get st.tm y with
      | it k n => cases k <;> first | exact .val _ | exact .bad fun _ _ => rfl
      | _ => exact .bad fun _ _ => rfl
    | _ => exact .bad fun _ _ => rfl
  | ctb x y =>
    have e1 := g1 x (fun t ht => by simp [I.sl, ht])
    have e2 := g1 y (fun t ht => by simp [I.sl, ht])
    simp only [I.den, iCtb, e1, e2]
    cases get st.tm x with
    | st l =>
      simp only []
      cases get st.tm y with
      | it k n => cases k <;> first | exact .val _ | exact .bad fun _ _ => rfl
      | _ => exact .bad fun _ _ => rfl
    | _ => exact .bad fun _ _ => rfl
  | mlk ok z x i =>
    have e1 := g1 x (fun t ht => by simp [I.sl, ht])
    have e2 := g1 i (fun t ht => by simp [I.sl, ht])
    have hs := hrd x (by simp [I.rdA])
    simp only [I.den, iMlk, e1, e2]
    cases get st.tm i with
    | st l =>
      simp only []
      cases hx : get st.tm x with
      | mp id =>
        simp only []
        cases hg : hget st.hp id with
        | none => exact .bad fun _ _ => rfl
        | some b =>
          rw [hx] at hs
          obtain ⟨b', h1, h2, h3⟩ := hs b hg
          simp only [h1, mgetD, h2, h3]
          cases Nat.beq b.sz 2 with
          | false => exact .bad fun _ _ => rfl
          | true =>
            simp only [cond_true]
            cases mapGet l b.es with
            | none => cases ok <;> exact .val _
            | some u => cases ok <;> exact .val _
      | nm => cases ok <;> exact .val _
      | _ => exact .bad fun _ _ => rfl
    | _ => exact .bad fun _ _ => rfl
  | mki t x =>
    have e := g1 x (fun t ht => ht)
    simp only [I.den, iMki, e]
    cases get st.tm x <;> first | exact .bad fun _ _ => rfl | exact .val _
  | mkf f a b =>
    have e1 : a.map (get st'.tm) = a.map (get st.tm) := map_get_eq fun t ht => hsl t (by simp only [I.sl, List.mem_append]; exact .inl ht)
    have e2 : b.map (get st'.tm) = b.map (get st.tm) := map_get_eq fun t ht => hsl t (by simp only [I.sl, List.mem_append]; exact .inr ht)
    simp only [I.den, iMkf, e1, e2]
    cases (a.map (get st.tm)).any isLp with
    | true => exact .bad fun _ _ => rfl
    | false => cases (b.map (get st.tm)).any isLp with
      | true => exact .bad fun _ _ => rfl
      | false => exact .val _
  | slc b s x lo hi' =>
    have e := g1 x (fun t ht => by simp [I.sl, ht])
    have e1 : ∀ d k, boundD st'.tm d lo k = boundD st.tm d lo k := fun d k => boundD_eq (fun t ht => hsl t (by simp [I.sl, ht])) k
    have e2 : ∀ d k, boundD st'.tm d hi' k = boundD st.tm d hi' k := fun d k => boundD_eq (fun t ht => hsl t (by simp [I.sl, ht])) k
    simp only [I.den, iSlc, e, e1, e2]
    refine .szs (hrd x (by simp [I.rdA])) ?_
    exact .oneD (f := fun n k _ => boundD st.tm 0 lo fun l => boundD st.tm n hi' fun h => .chk (Nat.ble l h) (.chk (Nat.ble h n) (Ev.oneD (sliceV (get st.tm x) l h) fun v => k v st)))
        (f' := fun n k _ => boundD st.tm 0 lo fun l => boundD st.tm n hi' fun h => .chk (Nat.ble l h) (.chk (Nat.ble h n) (Ev.oneD (sliceV (get st.tm x) l h) fun v => k v st'))) fun n _ =>
        .bound (f := fun l k _ => boundD st.tm n hi' fun h => .chk (Nat.ble l h) (.chk (Nat.ble h n) (Ev.oneD (sliceV (get st.tm x) l h) fun v => k v st)))
          (f' := fun l k _ => boundD st.tm n hi' fun h => .chk (Nat.ble l h) (.chk (Nat.ble h n) (Ev.oneD (sliceV (get st.tm x) l h) fun v => k v st'))) fun l =>
          .bound (f := fun h k _ => .chk (Nat.ble l h) (.chk (Nat.ble h n) (Ev.oneD (sliceV (get st.tm x) l h) fun v => k v st))) (f' := fun h k _ => .chk (Nat.ble l h) (.chk (Nat.ble h n) (Ev.oneD (sliceV (get st.tm x) l h) fun v => k v st'))) fun h =>
            .chk (.chk (.oneD (f := fun v k _ => k v st) (f' := fun v k _ => k v st') fun v _ => .val v))
  | fad o a =>
    have e := g1 a (fun t ht => ht)
    simp only [I.den, iFad, e]; exact .move
  | fld o n g x =>
    have e := g1 x (fun t ht => ht)
    simp only [I.den, iFld, e]
    cases get st.tm x with
    | ag cs => exact .cut (f := fun cs k _ => Ev.oneD (pickC n g cs) fun v => k v st) (f' := fun cs k _ => Ev.oneD (pickC n g cs) fun v => k v st') fun cs => .oneD (f := fun v k _ => k v st) (f' := fun v k _ => k v st') fun v _ => .val v
    | _ => exact .bad fun _ _ => rfl
  | ias sz x y =>
    have e1 := g1 x (fun t ht => by simp [I.sl, ht])
    have e2 := g1 y (fun t ht => by simp [I.sl, ht])
    have hs := hrd x (by simp [I.rdA])
    simp only [I.den, iIas, e1, e2]
    refine .nat (f := fun i k _ => match get st.tm x with
      | .vs n es => bif Nat.beq n sz then .chk (Nat.blt i es.length) (k (.ip (es.getD i [])) st) else .bad
      | .hs id i0 len => match hget st.hp id with
        | some b => bif Nat.beq b.sz sz then .chk (Nat.blt i len) (k (.pt id (i0 + i) 0) st) else .bad
        | none => .bad
      | _ => .bad) (f' := fun i k _ => match get st.tm x with
      | .vs n es => bif Nat.beq n sz then .chk (Nat.blt i es.length) (k (.ip (es.getD i [])) st') else .bad
      | .hs id i0 len => match hget st'.hp id with
        | some b => bif Nat.beq b.sz sz then .chk (Nat.blt i len) (k (.pt id (i0 + i) 0) st') else .bad
        | none => .bad
      | _ => .bad) fun i => ?_
    cases hx : get st.tm x with
    | vs n es =>
      exact .bif (F := fun k _ => .chk (Nat.blt i es.length) (k (.ip (es.getD i [])) st)) (F' := fun k _ => .chk (Nat.blt i es.length) (k (.ip (es.getD i [])) st')) (G := fun _ _ => .bad) (G' := fun _ _ => .bad) (fun _ => .chk (.val _)) (fun _ => .bad fun _ _ => rfl)
    | hs id i0 len =>
      rw [hx] at hs
      simp only []
      cases hg : hget st.hp id with
      | none => exact .bad fun _ _ => rfl
      | some bk =>
        obtain ⟨bk', h1, h2, h3⟩ := hs bk hg
        simp only [h1, h2]
        exact .bif (F := fun k _ => .chk (Nat.blt i len) (k (.pt id (i0 + i) 0) st)) (F' := fun k _ => .chk (Nat.blt i len) (k (.pt id (i0 + i) 0) st')) (G := fun _ _ => .bad) (G' := fun _ _ => .bad) (fun _ => .chk (.val _)) (fun _ => .bad fun _ _ => rfl)
    | _ => exact .bad fun _ _ => rfl
  | iaa n s a y =>
    have e1 := g1 a (fun t ht => by simp [I.sl, ht])
    have e2 := g1 y (fun t ht => by simp [I.sl, ht])
    simp only [I.den, iIaa, e1, e2]
    exact .nat (f := fun i k _ => .chk (Nat.blt i n) (moveD clr d (i * s) (get st.tm a) fun v => k v st)) (f' := fun i k _ => .chk (Nat.blt i n) (moveD clr d (i * s) (get st.tm a) fun v => k v st')) fun i => .chk .move
  | ixs x y =>
    have e1 := g1 x (fun t ht => by simp [I.sl, ht])
    have e2 := g1 y (fun t ht => by simp [I.sl, ht])
    simp only [I.den, iIxs, e1, e2]
    refine .nat (f := fun i k _ => match get st.tm x with
      | .st s => .chk (Nat.blt i s.length) (k (byte (s.getD i 0)) st)
      | _ => .bad) (f' := fun i k _ => match get st.tm x with
      | .st s => .chk (Nat.blt i s.length) (k (byte (s.getD i 0)) st')
      | _ => .bad) fun i => ?_
    cases get st.tm x <;> first | exact .chk (.val _) | exact .bad fun _ _ => rfl
  | ixa n s g x y =>
    have e1 := g1 x (fun t ht => by simp [I.sl, ht])
    have e2 := g1 y (fun t ht => by simp [I.sl, ht])
    simp only [I.den, iIxa, e1, e2]
    refine .nat (f := fun i k _ => match get st.tm x with
      | .ag cs => .chk (Nat.blt i n) (cutD s (i * s) cs fun cs => Ev.oneD (pickC s g cs) fun v => k v st)
      | _ => .bad) (f' := fun i k _ => match get st.tm x with
      | .ag cs => .chk (Nat.blt i n) (cutD s (i * s) cs fun cs => Ev.oneD (pickC s g cs) fun v => k v st')
      | _ => .bad) fun i => ?_
    cases get st.tm x with
    | ag cs => exact .chk (.cut (f := fun cs k _ => Ev.oneD (pickC s g cs) fun v => k v st) (f' := fun cs k _ => Ev.oneD (pickC s g cs) fun v => k v st') fun cs => .oneD (f := fun v k _ => k v st) (f' := fun v k _ => k v st') fun v _ => .val v)
    | _ => exact .bad fun _ _ => rfl
  | ext x n =>
    have e := g1 x (fun t ht => ht)
    simp only [I.den, iExt, e]
    cases get st.tm x with
    | tu xs => exact .oneD (f := fun v k _ => notLpD v fun v => k v st) (f' := fun v k _ => notLpD v fun v => k v st') fun v _ => .notLp
    | _ => exact .bad fun _ _ => rfl
  | len s x =>
    have e := g1 x (fun t ht => ht)
    simp only [I.den, iLen, e]
    exact .oneD (f := fun n k _ => k (i64 (.ofNat n)) st) (f' := fun n k _ => k (i64 (.ofNat n)) st') fun n _ => .val _
  | mn3 m x y z =>
    have e1 := g1 x (fun t ht => by simp [I.sl, ht])
    have e2 := g1 y (fun t ht => by simp [I.sl, ht])
    have e3 := g1 z (fun t ht => by simp [I.sl, ht])
    simp only [I.den, iMn3, e1, e2, e3]
    exact .oneD (f := fun u k _ => Ev.oneD (minmax m u (get st.tm z)) fun v => k v st) (f' := fun u k _ => Ev.oneD (minmax m u (get st.tm z)) fun v => k v st') fun u _ => .oneD (f := fun v k _ => k v st) (f' := fun v k _ => k v st') fun v _ => .val v
  | mnx m x y =>
    have e1 := g1 x (fun t ht => by simp [I.sl, ht])
    have e2 := g1 y (fun t ht => by simp [I.sl, ht])
    simp only [I.den, iMnx, e1, e2]
    exact .oneD (f := fun v k _ => k v st) (f' := fun v k _ => k v st') fun v _ => .val v
  | call o md f xs => cases md <;> cases hi
  | calv fs f xs => cases fs <;> cases hi
  | _ => cases hi
end
end Ev
namespace Ev
variable [Glob]
open Go
def GO (call : Call) (L : Nat) (tm : Tm) (F F' : FF) : Prop :=
  Bad call L F ∨ ∀ k kp, run call L (F k kp) = run call L (F' (fun v s => k v ⟨tm, s.lo, s.hp⟩) (fun v s => kp v ⟨tm, s.lo, s.hp⟩))
theorem same_refl {st st' : St} (hl : st'.lo = st.lo) (hh : st'.hp = st.hp) (v : V) : Same st st' v := by
  cases v <;> simp only [Same, hl, hh] <;> exact fun bk h => ⟨bk, h, rfl, rfl⟩
theorem fresh_sub {us us' : List Nat} {tm tm' : Tm} (h : ∀ t, t ∈ us' → t ∈ us ∧ (tm' t = tm t ∨ tm' t = .un)) {d : Nat} (hf : fresh us tm d = true) : fresh us' tm' d = true := by
  induction us' with
  | nil => rfl
  | cons a r ih =>
    have ih' := ih fun t ht => h t (.tail _ ht)
    obtain ⟨h1, h2⟩ := h a (by simp)
    simp only [fresh]
    rcases h2 with h2 | h2
    · rw [h2]
      have := fresh_ne hf h1
      cases hv : tm a with
      | lp e off =>
        have hne : e ≠ d := fun q => this off (by rw [hv, q])
        simp only [beqF hne, cond_false]; exact ih'
      | _ => exact ih'
    · rw [h2]; exact ih'
theorem freshH_ne {us : List Nat} {tm : Tm} {id : Nat} (h : freshH us tm id = true) {t : Nat} (ht : t ∈ us) : (∀ i off, tm t ≠ .pt id i off) ∧ (∀ i len, tm t ≠ .hs id i len) ∧ tm t ≠ .mp id := by
  induction us with
  | nil => cases ht
  | cons a r ih =>
    simp only [freshH] at h
    rcases List.mem_cons.1 ht with rfl | ht
    · refine ⟨fun i off e => ?_, fun i off e => ?_, fun e => ?_⟩ <;> simp [e] at h
    · refine ih ?_ ht
      split at h
      · rename_i e' i' o' _
        cases hb : Nat.beq e' id with
        | true => simp [hb] at h
        | false => simpa [hb] using h
      · rename_i e' i' o' _
        cases hb : Nat.beq e' id with
        | true => simp [hb] at h
        | false => simpa [hb] using h
      · rename_i e' _
        cases hb : Nat.beq e' id with
        | true => simp [hb] at h
        | false => simpa [hb] using h
      · exact h
theorem freshH_sub {us us' : List Nat} {tm tm' : Tm} (h : ∀ t, t ∈ us' → t ∈ us ∧ (tm' t = tm t ∨ tm' t = .un)) {id : Nat} (hf : freshH us tm id = true) : freshH us' tm' id = true := by
  induction us' with
  | nil => rfl
  | cons a r ih =>
    have ih' := ih fun t ht => h t (.tail _ ht)
    obtain ⟨h1, h2⟩ := h a (by simp)
    simp only [freshH]
    rcases h2 with h2 | h2
    · rw [h2]
      obtain ⟨n1, n2, n3⟩ := freshH_ne hf h1
      cases hv : tm a with
      | mp e =>
        have hne : e ≠ id := fun q => n3 (by rw [hv, q])
        simp only [beqF hne, cond_false]; exact ih'
      | pt e i off =>
        have hne : e ≠ id := fun q => n1 i off (by rw [hv, q])
        simp only [beqF hne, cond_false]; exact ih'
      | hs e i off =>
        have hne : e ≠ id := fun q => n2 i off (by rw [hv, q])
        simp only [beqF hne, cond_false]; exact ih'
      | _ => exact ih'
    · rw [h2]; exact ih'
theorem keepsB_sub {us us' : List Nat} {tm tm' : Tm} {hp h : Hp} (hus : ∀ t, t ∈ us' → t ∈ us ∧ (tm' t = tm t ∨ tm' t = .un)) (hk : keepsB us tm hp h = true) : keepsB us' tm' hp h = true := by
  unfold keepsB at *
  rw [List.all_eq_true] at *
  intro t ht
  obtain ⟨h1, h2⟩ := hus t ht
  rcases h2 with h2 | h2
  · rw [h2]; exact hk t h1
  · rw [h2]; rfl
section
variable {call : Call} {L : Nat} {tm tm' : Tm} {lo : Lo} {hp : Hp}
theorem GO.bad {F F' : FF} (h : ∀ k kp, F k kp = .bad) : GO call L tm F F' := .inl fun k kp => by rw [h]; rfl
theorem GO.same {F F' : FF} (h : ∀ k kp, F k kp = F' (fun v s => k v ⟨tm, s.lo, s.hp⟩) (fun v s => kp v ⟨tm, s.lo, s.hp⟩)) : GO call L tm F F' := .inr fun k kp => by rw [h]
theorem elemsD_bad {sz : Nat} {v : V} : run call L (elemsD hp sz v fun _ => .bad) = .bad := by
  cases v <;> simp only [elemsD] <;> (try rfl)
  · rename_i n es; cases Nat.beq n sz <;> rfl
  · rename_i id i len
    cases hget hp id with
    | none => rfl
    | some b =>
      simp only []
      cases Nat.beq b.sz sz with
      | false => rfl
      | true => simp only [cond_true, run]; cases Nat.ble (i + len) b.es.length <;> rfl
theorem rowsD_bad {sz : Nat} {v : V} : run call L (rowsD hp sz v fun _ => .bad) = .bad := by
  have hel := elemsD_bad (call := call) (L := L) (hp := hp) (sz := sz) (v := v)
  cases v <;> first | exact hel | (simp only [rowsD]; cases Nat.beq sz 1 <;> rfl)
theorem app_key {us us' : List Nat} (hus : ∀ t, t ∈ us' → t ∈ us ∧ (tm' t = tm t ∨ tm' t = .un)) {s b : Nat} : ∀ v, (∀ (k : V → St → D) new, appendD us ⟨tm, lo, hp⟩ s b v new k = .bad) ∨ ∀ (k : V → St → D) new, appendD us ⟨tm, lo, hp⟩ s b v new k = appendD us' ⟨tm', lo, hp⟩ s b v new (fun v s => k v ⟨tm, s.lo, s.hp⟩) := by
  intro v
  cases v with
  | ns => exact .inr fun k new => by cases new <;> simp only [appendD, Ev.mk, St.setHp]
  | vs m es => exact .inr fun k new => by simp only [appendD]
  | hs id i n =>
    cases hg : hget hp id with
    | none => exact .inl fun k new => by simp only [appendD, hg]
    | some bk =>
      cases hf : freshH us tm id with
      | false => exact .inl fun k new => by simp only [appendD, hg, hf, cond_false]; cases bk.fr <;> cases Nat.blt id hp.lim <;> cases Nat.beq bk.sz s <;> rfl
      | true => exact .inr fun k new => by simp only [appendD, hg, hf, freshH_sub hus hf, cond_true, St.setHp]
  | _ => exact .inl fun k new => rfl
theorem frame {i : I} {us us' clr : List Nat} {d : Nat} (hsl : ∀ t, t ∈ i.sl → tm' t = tm t) (hus : ∀ t, t ∈ us' → t ∈ us ∧ (tm' t = tm t ∨ tm' t = .un)) :
    GO call L tm (i.den us clr d ⟨tm, lo, hp⟩) (i.den us' clr d ⟨tm', lo, hp⟩) := by
  have g1 : ∀ x : A, (∀ t, t ∈ slotsA x → t ∈ i.sl) → get tm' x = get tm x := fun x hx => get_eq fun t ht => hsl t (hx t ht)
  by_cases he : i.easy = true
  · rcases easy_frame (call := call) (L := L) (st := ⟨tm, lo, hp⟩) (st' := ⟨tm', lo, hp⟩) (us := us) (us' := us') (clr := clr) (d := d) he hsl (fun x _ => same_refl rfl rfl _) with h | ⟨v, h, h'⟩
    · exact .inl h
    · exact .inr fun k kp => by rw [h, h']
  · show GO call L tm (fun k kp => i.den us clr d ⟨tm, lo, hp⟩ k kp) (fun k kp => i.den us' clr d ⟨tm', lo, hp⟩ k kp)
    cases i with
    | alc z =>
      cases hf : fresh us tm d with
      | false => exact .bad fun k kp => by simp only [I.den, iAlc, hf, cond_false]
      | true => exact .same fun k kp => by simp only [I.den, iAlc, hf, fresh_sub hus hf, cond_true, St.setLo]
    | alh z => exact .same fun k kp => by simp only [I.den, iAlh, Ev.mk, St.setHp]
    | box x =>
      have e := g1 x (fun t ht => ht)
      cases hf : fresh us tm d with
      | false => exact .bad fun k kp => by simp only [I.den, iBox, hf, cond_false]; cases (get tm x).cells.all V.keep <;> rfl
      | true => exact .same fun k kp => by simp only [I.den, iBox, e, hf, fresh_sub hus hf, cond_true, St.setLo]
    | bxh x =>
      have e := g1 x (fun t ht => ht)
      exact .same fun k kp => by simp only [I.den, iBxh, e, Ev.mk, St.setHp]
    | bsl sz es ps =>
      have e : (ps.map fun (i, a) => (i, get tm' a)) = ps.map fun (i, a) => (i, get tm a) := by
        apply List.map_congr_left
        rintro ⟨o, a⟩ hx
        simp only [g1 a (fun t ht => by simp only [I.sl, List.mem_flatMap]; exact ⟨_, hx, ht⟩)]
      exact .same fun k kp => by
        simp only [I.den, iBsl, e]
        cases fillE sz (ps.map fun (i, a) => (i, get tm a)) es <;> simp only [Ev.mk, St.setHp]
    | sto n a x =>
      have e1 := g1 a (fun t ht => by simp [I.sl, ht])
      have e2 := g1 x (fun t ht => by simp [I.sl, ht])
      have key : ∀ xs v, (∀ k : V → St → D, storeD us ⟨tm, lo, hp⟩ xs v (fun s => k .un s) = .bad) ∨ ∀ k : V → St → D, storeD us ⟨tm, lo, hp⟩ xs v (fun s => k .un s) = storeD us' ⟨tm', lo, hp⟩ xs v (fun s => k .un ⟨tm, s.lo, s.hp⟩) := by
        intro xs v
        cases v with
        | lp t off =>
          cases hl : lo t with
          | none => exact .inl fun k => by simp only [storeD, hl]
          | some cs =>
            cases hf : fresh us tm t with
            | false => exact .inl fun k => by simp only [storeD, hl, hf, cond_false]
            | true => exact .inr fun k => by simp only [storeD, hl, hf, fresh_sub hus hf, cond_true, St.setLo]
        | pt id j off =>
          cases hg : hget hp id with
          | none => exact .inl fun k => by simp only [storeD, hg]
          | some b =>
            cases hf : freshH us tm id with
            | false => exact .inl fun k => by simp only [storeD, hg, hf, cond_false]; cases b.fr <;> cases Nat.blt id hp.lim <;> rfl
            | true => exact .inr fun k => by simp only [storeD, hg, hf, freshH_sub hus hf, cond_true, St.setHp]
        | _ => exact .inl fun k => rfl
      rcases key (get tm x).cells (get tm a) with h | h
      · exact .bad fun k kp => by
          simp only [I.den, iSto, h]
          cases Nat.beq (get tm x).cells.length n <;> cases (get tm x).cells.all V.keep <;> rfl
      · exact .same fun k kp => by simp only [I.den, iSto, e1, e2, h]
    | cnv c x =>
      have e := g1 x (fun t ht => ht)
      cases c with
      | s2b => exact .same fun k kp => by
                simp only [I.den, iCnv, e]
                cases get tm x <;> simp only [convD, Ev.mk, St.setHp]
      | _ => exact absurd rfl he
    | mks s b z l c =>
      have e1 := g1 l (fun t ht => by simp [I.sl, ht])
      have e2 := g1 c (fun t ht => by simp [I.sl, ht])
      exact .same fun k kp => by simp only [I.den, iMks, e1, e2, Ev.mk, St.setHp]
    | app s b x y =>
      have e1 := g1 x (fun t ht => by simp [I.sl, ht])
      have e2 := g1 y (fun t ht => by simp [I.sl, ht])
      have key := app_key (lo := lo) (hp := hp) hus (s := s) (b := b)
      rcases key (get tm x) with h | h
      · refine .inl fun k kp => ?_
        simp only [I.den, iApp, h]
        exact rowsD_bad
      · exact .same fun k kp => by simp only [I.den, iApp, e1, e2, h]
    | apz x n =>
      have e1 := g1 x (fun t ht => by simp [I.sl, ht])
      have e2 := g1 n (fun t ht => by simp [I.sl, ht])
      have key : ∀ v, (∀ (k : V → St → D) new, appendD us ⟨tm, lo, hp⟩ 1 1 v new k = .bad) ∨ ∀ (k : V → St → D) new, appendD us ⟨tm, lo, hp⟩ 1 1 v new k = appendD us' ⟨tm', lo, hp⟩ 1 1 v new (fun v s => k v ⟨tm, s.lo, s.hp⟩) := app_key hus
      rcases key (get tm x) with h | h
      · refine .inl fun k kp => ?_
        simp only [I.den, iApz, h]
        cases get tm n with
        | it kk z =>
          simp only [natD, run]
          cases (!(ilt z 0)) with
          | false => rfl
          | true =>
            simp only [cond_true]
            cases Nat.blt 0 z.toNat with
            | false => rfl
            | true =>
              simp only [cond_true]
              cases Nat.ble z.toNat maxB <;> rfl
        | _ => rfl
      · exact .same fun k kp => by simp only [I.den, iApz, e1, e2, h]
    | cpy sz x y =>
      have e1 := g1 x (fun t ht => by simp [I.sl, ht])
      have e2 := g1 y (fun t ht => by simp [I.sl, ht])
      have key : ∀ v, (∀ (k : V → St → D) new, cpyD us ⟨tm, lo, hp⟩ sz new v k = .bad) ∨ ∀ (k : V → St → D) new, cpyD us ⟨tm, lo, hp⟩ sz new v k = cpyD us' ⟨tm', lo, hp⟩ sz new v (fun v s => k v ⟨tm, s.lo, s.hp⟩) := by
        intro v
        cases v with
        | hs id i n =>
          cases hg : hget hp id with
          | none => exact .inl fun k new => by simp only [cpyD, hg]
          | some bk =>
            cases hf : freshH us tm id with
            | false => exact .inl fun k new => by simp only [cpyD, hg, hf, cond_false]; cases bk.fr <;> cases Nat.blt id hp.lim <;> cases Nat.beq bk.sz sz <;> rfl
            | true => exact .inr fun k new => by simp only [cpyD, hg, hf, freshH_sub hus hf, cond_true, St.setHp]
        | _ => exact .inl fun k new => rfl
      rcases key (get tm x) with h | h
      · refine .inl fun k kp => ?_
        simp only [I.den, iCpy, h]
        exact elemsD_bad
      · exact .same fun k kp => by simp only [I.den, iCpy, e1, e2, h]
    | clr sz z x =>
      have e1 := g1 x (fun t ht => ht)
      cases hx : get tm x with
      | ns => exact .same fun k kp => by simp only [I.den, iClr, e1, hx, clrD]
      | hs id i n =>
        cases hn : Nat.beq n 0 with
        | true => exact .same fun k kp => by simp only [I.den, iClr, e1, hx, clrD, hn, cond_true]
        | false =>
          cases hg : hget hp id with
          | none => exact .bad fun k kp => by simp only [I.den, iClr, hx, clrD, hn, cond_false, hg]
          | some bk =>
            cases hf : freshH us tm id with
            | false => exact .bad fun k kp => by simp only [I.den, iClr, hx, clrD, hn, hg, hf, cond_false]; cases bk.fr <;> cases Nat.blt id hp.lim <;> cases Nat.beq bk.sz sz <;> rfl
            | true => exact .same fun k kp => by simp only [I.den, iClr, e1, hx, clrD, hn, hg, hf, freshH_sub hus hf, cond_true, cond_false, St.setHp]
      | _ => exact .bad fun k kp => by simp only [I.den, iClr, hx, clrD]
    | mmk => exact .same fun k kp => by simp only [I.den, iMmk, Ev.mk, St.setHp]
    | mup x i v =>
      have e1 := g1 x (fun t ht => by simp [I.sl, ht])
      have e2 := g1 i (fun t ht => by simp [I.sl, ht])
      have e3 := g1 v (fun t ht => by simp [I.sl, ht])
      cases hi : get tm i with
      | st l =>
        cases hx : get tm x with
        | mp id =>
          cases hg : hget hp id with
          | none => exact .bad fun k kp => by simp only [I.den, iMup, hi, hx, hg]
          | some bk =>
            cases hf : freshH us tm id with
            | false => exact .bad fun k kp => by simp only [I.den, iMup, hi, hx, hg, hf, cond_false]; cases Nat.beq bk.sz 2 <;> cases Nat.blt id hp.lim <;> rfl
            | true => exact .same fun k kp => by simp only [I.den, iMup, e1, e2, e3, hi, hx, hg, hf, freshH_sub hus hf, cond_true, St.setHp]
        | _ => exact .bad fun k kp => by simp only [I.den, iMup, hi, hx]
      | _ => exact .bad fun k kp => by simp only [I.den, iMup, hi]
    | mrk x =>
      have e1 := g1 x (fun t ht => by simp [I.sl, ht])
      exact .same fun k kp => by
        simp only [I.den, iMrk, e1]
    | call o md f xs =>
      have e : xs.map (get tm') = xs.map (get tm) := map_get_eq fun t ht => hsl t ht
      cases hl : (xs.map (get tm)).any isLp with
      | true => exact .bad fun k kp => by simp only [I.den, iCall, callD, hl, cond_true]
      | false =>
        cases hq : call o f (xs.map (get tm)) hp with
        | bad => exact .inl fun k kp => by simp only [I.den, iCall, callD, hl, cond_false, run, forceL_eq, hq]
        | ret v h =>
          cases hk : keepsB us tm hp h with
          | false => exact .inl fun k kp => by simp only [I.den, iCall, callD, hl, cond_false, run, forceL_eq, hq, St.setHp, hk]
          | true =>
            have hk' : keepsB us' tm' hp h = true := keepsB_sub hus hk
            exact .inr fun k kp => by simp only [I.den, iCall, e, callD, hl, cond_false, run, forceL_eq, hq, St.setHp, hk, hk', cond_true]
        | pan v h => exact .inr fun k kp => by simp only [I.den, iCall, e, callD, hl, cond_false, run, forceL_eq, hq, St.setHp]
    | calv fs f xs =>
      have e1 := g1 f (fun t ht => by simp [I.sl, ht])
      have e : xs.map (get tm') = xs.map (get tm) := map_get_eq fun t ht => hsl t (by simp only [I.sl, List.mem_append]; exact .inr ht)
      refine .inr fun k kp => ?_
      simp only [I.den, iClv, e, e1]
      cases get tm f with
      | fn f first cap =>
        simp only [callD]
        cases goodF fs f with
        | false => rfl
        | true =>
          simp only [cond_true]
          cases (first ++ xs.map (get tm) ++ cap).any isLp with
          | true => rfl
          | false =>
            simp only [cond_false, run]
            congr 1
      | _ => rfl
    | pan x =>
      have e := g1 x (fun t ht => ht)
      exact .same fun k kp => by
        simp only [I.den, iPan, e]
    | stp a x =>
      have e1 := g1 a (fun t ht => by simp [I.sl, ht])
      have e2 := g1 x (fun t ht => by simp [I.sl, ht])
      cases hx : get tm x with
      | lp t off =>
        cases hb : Nat.beq off 0 with
        | false => exact .bad fun k kp => by simp only [I.den, iStp, hx, hb, cond_false]
        | true =>
          cases hl : lo t with
          | none => exact .bad fun k kp => by simp only [I.den, iStp, hx, hb, cond_true, hl]
          | some cs =>
            have key : ∀ (v : V) (k : V → St → D), storeD [] ⟨tm, lno lo t, hnew hp ⟨cs.length, false, [cs]⟩⟩ [.pt hp.next 0 0] v (fun s => k .un s) = storeD [] ⟨tm', lno lo t, hnew hp ⟨cs.length, false, [cs]⟩⟩ [.pt hp.next 0 0] v (fun s => k .un ⟨tm, s.lo, s.hp⟩) := fun v k => by
              cases v <;> rfl
            exact .same fun k kp => by
              simp only [I.den, iStp, e1, e2, hx, hb, cond_true, hl]
              exact key _ _
      | _ => exact .bad fun k kp => by simp only [I.den, iStp, hx]
    | hnd hk xs =>
      have e : xs.map (get tm') = xs.map (get tm) := map_get_eq fun t ht => hsl t ht
      exact .same fun k kp => by
        simp only [I.den, iHnd, e, St.setHp]
    | _ => exact absurd rfl he
end
end Ev
namespace Ev
variable [Glob]
open Go
def Enters (P : Program) (f : FuncId) : Prop := ∃ fn, P.funcs[f]? = some fn ∧ fn.name ≠ "runtime.NumGoroutine" ∧ fn.body.isSome = true
structure Args (g : G) (xs : List V) (cs : Array Value) : Prop where
  size : cs.size = xs.length
  lp : ∀ x, x ∈ xs → isLp x = false
  rep : ∀ (i : Nat) (x : V), xs[i]? = some x → RepA g x (cs.getD i undef)
def EndR (R : Value → World → G → Prop) : Ending → World → Prop := fun e w => ∃ cv g, e = .returned cv ∧ R cv w g
def EndP (R : Value → World → G → Prop) : Ending → World → Prop := fun e w => ∃ cv g, e = .panicked [{ v := cv, recovered := false }] ∧ R cv w g
def CallOK (P : Program) (call : Call) : Prop :=
  ∀ own f xs cs E g ν lo hp w, MemR E g ν lo hp w → Args g xs cs →
    match call own f xs hp with
    | .bad => True
    | .ret v hp' => Enters P f ∧ Calls P f cs w (EndR fun cv w' g' => MemR E g' ν lo hp' w' ∧ GLe g g' ∧ RepA g' v cv ∧ isLp v = false)
    | .pan v hp' => Enters P f ∧ Calls P f cs w (EndP fun cv w' g' => MemR E g' ν lo hp' w' ∧ GLe g g' ∧ RepA g' v cv ∧ isLp v = false)
def FlatC (call : Call) (f : Nat) : Prop := ∀ xs hp v h', xs.all flatV = true → call false f xs h0 = .ret v h' → call false f xs hp = .ret v hp
theorem flat_lp : ∀ {xs : List V}, xs.all flatV = true → xs.any isLp = false := by
  intro xs
  induction xs with
  | nil => intro _; rfl
  | cons a r ih =>
    intro h
    simp only [List.all_cons, Bool.and_eq_true] at h
    simp only [List.any_cons, ih h.2, Bool.or_false]
    cases a <;> first | rfl | (exact absurd h.1 (by decide)) | (simp [flatV, flatC] at h)
def RunOK (P : Program) (call : Call) (L : Nat) (f : FuncId) (fn : Fn) : Prop :=
  ∀ xs cs g hp w, GlobW g hp w → HR g hp w → Args g xs cs →
    match runF call L fn xs hp with
    | .bad => True
    | .ret v hp' => Enters P f ∧ Calls P f cs w (EndR fun cv w' g' => HR g' hp' w' ∧ Evo g hp w g' hp' w' ∧ RepA g' v cv ∧ isLp v = false)
    | .pan v hp' => Enters P f ∧ Calls P f cs w (EndP fun cv w' g' => HR g' hp' w' ∧ Evo g hp w g' hp' w' ∧ RepA g' v cv ∧ isLp v = false)
theorem EndR.mono {R R' : Value → World → G → Prop} (h : ∀ cv w g, R cv w g → ∃ g', R' cv w g') {e : Ending} {w : World} (x : EndR R e w) : EndR R' e w := by
  obtain ⟨cv, g, rfl, hr⟩ := x
  obtain ⟨g', hr'⟩ := h cv w g hr
  exact ⟨cv, g', rfl, hr'⟩
theorem EndP.mono {R R' : Value → World → G → Prop} (h : ∀ cv w g, R cv w g → ∃ g', R' cv w g') {e : Ending} {w : World} (x : EndP R e w) : EndP R' e w := by
  obtain ⟨cv, g, rfl, hr⟩ := x
  obtain ⟨g', hr'⟩ := h cv w g hr
  exact ⟨cv, g', rfl, hr'⟩
theorem MemR.back {E : Ent} {g g' : G} {ν : Nat → Option Nat} {lo : Lo} {hp hp' : Hp} {w w' : World} (h : MemR E g ν lo hp w) (hr : HR g' hp' w') (ev : Evo g hp w g' hp' w') : MemR E g' ν lo hp' w' := by
  refine ⟨hr, ⟨fun t cs b x h1 => ?_, h.lo.inj⟩, h.evo.trans ev⟩
  obtain ⟨h2, h3, h4, h5, h6⟩ := h.lo.box t cs b x h1
  have hnm : ¬ OwnM g b := fun ⟨id, q⟩ => by
    obtain ⟨_, _, ⟨_, es, c, q4, _⟩⟩ := h.hr.mp.live id b q
    obtain ⟨C, e, fr, q5, _⟩ := h6
    rw [q4] at q5; cases q5
  have h7 : Unf 2 w' b := by
    unfold Unf
    rw [ev.wd.2.2.1 b h6.lt h4 hnm]; exact h6
  have h6 := h6.lt
  refine ⟨fun j c hj => ?_, fun o => ?_, fun o ho => ?_, h5, h7⟩
  · obtain ⟨k, ⟨cv, a, r⟩, f⟩ := h2 j c hj
    exact ⟨k, ⟨cv, ev.cell _ _ _ a (h4 j), r.mono ev.le⟩, by rw [ev.frozen _ _ _ a (h4 j)]; exact f⟩
  · cases e : g'.κ b o with
    | none => rfl
    | some v =>
      rcases ev.κ b o v e with e' | e' | e'
      · rw [h3 o] at e'; cases e'
      · exact absurd e' (h4 o)
      · omega
  · rcases ev.own b o ho with e | e
    · exact h4 o e
    · omega
theorem rw_ok {P : Program} {call : Call} {L : Nat} {f : FuncId} {fn : Fn} (hrun : RunOK P call L f fn) {xs : List V} {cs : Array Value} {E : Ent} {g : G} {ν : Nat → Option Nat} {lo : Lo} {hp : Hp} {w : World} (h : MemR E g ν lo hp w) (ha : Args g xs cs) :
    match runF call L fn xs hp with
    | .bad => True
    | .ret v hp' => Enters P f ∧ Calls P f cs w (EndR fun cv w' g' => MemR E g' ν lo hp' w' ∧ GLe g g' ∧ RepA g' v cv ∧ isLp v = false)
    | .pan v hp' => Enters P f ∧ Calls P f cs w (EndP fun cv w' g' => MemR E g' ν lo hp' w' ∧ GLe g g' ∧ RepA g' v cv ∧ isLp v = false) := by
  have := hrun xs cs g hp w h.globW h.hr ha
  cases hc : runF call L fn xs hp with
  | bad => trivial
  | ret v hp' =>
    rw [hc] at this
    exact ⟨this.1, Calls.mono this.2 fun e w' x => EndR.mono (fun cv w g' ⟨h1, h2, h3⟩ => ⟨g', h.back h1 h2, h2.le, h3⟩) x⟩
  | pan v hp' =>
    rw [hc] at this
    exact ⟨this.1, Calls.mono this.2 fun e w' x => EndP.mono (fun cv w g' ⟨h1, h2, h3⟩ => ⟨g', h.back h1 h2, h2.le, h3⟩) x⟩
theorem old_mono {g g' : G} {n : Nat} (hk : KLe g.κ g'.κ) (hl : ∀ id, id < n → g'.lf id = g.lf id) :
    (∀ v cv, RepA g v cv → oldC n v = true → RepA g' v cv) ∧ (∀ v cv, RepA g v cv → oldV n v = true → RepA g' v cv) ∧ (∀ v cv, RepA g v cv → oldT n v = true → RepA g' v cv) := by
  have hC : ∀ v cv, RepA g v cv → oldC n v = true → RepA g' v cv := by
    intro v cv h ho
    cases h with
    | un => simp [oldC] at ho
    | c v cv e => exact .c _ _ (e.mono hk)
    | pt id i off a e =>
      have hid := bltL ho
      exact .pt _ _ _ _ (by rw [hl id hid]; exact e)
    | hs id i len a cap h0 e =>
      have hid := bltL ho
      exact .hs _ _ _ _ _ h0 (by rw [hl id hid]; exact e)
    | mp id b e =>
      have hid := bltL ho
      exact .mp _ _ (by rw [hl id hid]; exact e)
    | ip cs b o f h1 h2 => exact .ip _ b o f (fun i c hc => ⟨(h1 i c hc).1, hk _ _ _ (h1 i c hc).2⟩) (fun i c hc => (h2 i c hc).mono hk)
    | ag => simp [oldC] at ho
    | tu => simp [oldC] at ho
    | fc => simp [oldC] at ho
    | fn => simp [oldC] at ho
  have hV : ∀ v cv, RepA g v cv → oldV n v = true → RepA g' v cv := by
    intro v cv h ho
    by_cases hag : ∃ cs, v = .ag cs
    · obtain ⟨cs, rfl⟩ := hag
      obtain ⟨arr, rfl, h1, h2, h3⟩ := h.ag_inv
      exact .ag cs arr h1 h2 fun i c hc => hC _ _ (h3 i c hc) (List.all_eq_true.1 ho c (List.mem_of_getElem? hc))
    · refine hC _ _ h ?_
      cases v <;> first | exact ho | exact absurd ⟨_, rfl⟩ hag
  refine ⟨hC, hV, fun v cv h ho => ?_⟩
  by_cases htu : ∃ xs, v = .tu xs
  · obtain ⟨xs, rfl⟩ := htu
    obtain ⟨arr, rfl, h1, h2, h3⟩ := h.tu_inv
    exact .tu xs arr h1 h2 fun i x hx => hV _ _ (h3 i x hx) (List.all_eq_true.1 ho x (List.mem_of_getElem? hx))
  · refine hV _ _ h ?_
    cases v <;> first | exact ho | exact absurd ⟨_, rfl⟩ htu
theorem old_rep {g g' : G} {n : Nat} (hu : ∀ id, n ≤ id → g.lf id = .unb) (hl : ∀ id, id < n → g'.lf id = g.lf id) {v : V} {cv0 : Value} (h : RepA g v cv0) : ∀ cv, RepA g' v cv → RepA ⟨g'.κ, g.lf⟩ v cv := by
  have hid : ∀ id, (g.lf id = .dead ∨ (∃ r, g.lf id = .live r) ∨ ∃ b, g.lf id = .mlive b) → g'.lf id = g.lf id := fun id x => by
    refine hl id ?_
    rcases Nat.lt_or_ge id n with q | q
    · exact q
    · have := hu id q
      rcases x with x | ⟨r, x⟩ | ⟨r, x⟩ <;> rw [this] at x <;> cases x
  induction h with
  | un => exact fun cv _ => .un cv
  | c v cv0 e =>
    intro cv h'
    cases e <;> cases h' <;> exact .c _ _ ‹_›
  | pt id i off a e =>
    intro cv h'
    obtain ⟨a', rfl, h2⟩ := h'.pt_inv
    refine .pt _ _ _ _ ?_
    rw [hid id (e.imp (fun q => q) (fun ⟨r, q, _⟩ => .inl ⟨r, q⟩))] at h2
    exact h2
  | mp id b e =>
    intro cv h'
    obtain ⟨b', rfl, h2⟩ := h'.mp_inv
    refine .mp _ _ ?_
    rw [hid id (e.imp (fun q => q) (fun q => .inr ⟨b, q⟩))] at h2
    exact h2
  | hs id i len a cap h0 e =>
    intro cv h'
    obtain ⟨a', cap', rfl, h1, h2⟩ := h'.hs_inv'
    refine .hs _ _ _ _ _ h1 ?_
    rw [hid id (e.imp (fun q => q) (fun ⟨r, q, _⟩ => .inl ⟨r, q⟩))] at h2
    exact h2
  | ip cs b o f h1 h2 =>
    intro cv h'
    obtain ⟨b', o', f', rfl, k1, k2⟩ := h'.ip_inv
    exact .ip _ _ _ f' k1 k2
  | ag cs arr hn h1 h2 ih =>
    intro cv h'
    obtain ⟨arr', rfl, k1, k2, k3⟩ := h'.ag_inv
    exact .ag cs arr' k1 k2 fun i c hc => ih i c hc _ (k3 i c hc)
  | tu xs arr hn h1 h2 ih =>
    intro cv h'
    obtain ⟨arr', rfl, k1, k2, k3⟩ := h'.tu_inv
    exact .tu xs arr' k1 k2 fun i c hc => ih i c hc _ (k3 i c hc)
  | fc t v cv0 hl e ih =>
    intro cv h'
    obtain ⟨x, rfl, k1, k2⟩ := h'.fc_inv
    exact .fc t v x k1 (ih _ k2)
  | fn f first cap a1 a2 hn1 hn2 hl1 hl2 h1 h2 i1 i2 =>
    intro cv h'
    obtain ⟨b1, b2, rfl, k1, k2, k3, k4, k5, k6⟩ := h'.fn_inv
    exact .fn f first cap b1 b2 k1 k2 k3 k4 (fun i x hx => i1 i x hx _ (k5 i x hx)) (fun i x hx => i2 i x hx _ (k6 i x hx))
theorem HR.restore {g g' : G} {hp hp' : Hp} {w w' : World} (h : HR g hp w) (hr : HR g' hp' w') (ev : Evo g ⟨hp.next, hp.next, hp.tr⟩ w g' hp' w') :
    HR ⟨g'.κ, g.lf⟩ hp w' ∧ Evo g hp w ⟨g'.κ, g.lf⟩ hp w' ∧ ∀ id, id < hp.next → g'.lf id = g.lf id := by
  have hlf : ∀ id, id < hp.next → g'.lf id = g.lf id := by
    intro id hid
    have hro : hget hp' id = hget hp id := ev.ro id hid
    have hle := ev.le.lf id
    cases e : g.lf id with
    | unb => exact absurd e (h.bnd id hid)
    | dead => rw [e] at hle; exact hle
    | live r =>
      rw [e] at hle
      rcases hle with q | q
      · exact q
      · obtain ⟨bk, h1, _⟩ := h.live id r e
        have := hr.dead id q
        rw [hro, h1] at this; cases this
    | mlive b =>
      rw [e] at hle
      rcases hle with q | q
      · exact q
      · obtain ⟨bk, h1, _⟩ := h.mp.live id b e
        have := hr.dead id q
        rw [hro, h1] at this; cases this
  have hold : ∀ {v cv0 cv}, RepA g v cv0 → RepA g' v cv → RepA ⟨g'.κ, g.lf⟩ v cv := fun a b => old_rep h.unb hlf a _ b
  have hlt : ∀ id b, g.lf id = .mlive b → id < hp.next := fun id b e => by
    rcases Nat.lt_or_ge id hp.next with q | q
    · exact q
    · have := h.unb id q; rw [e] at this; cases this
  refine ⟨⟨⟨fun id b e => ?_, h.mp.sep⟩, h.lim, h.nil, h.bnd, hr.kap, h.unb, h.dead, fun id r e => ?_, h.sep⟩, ⟨⟨ev.le.κ, (GLe.refl g).lf⟩, Nat.le_refl _, rfl, fun _ _ => rfl, ev.size, ev.cell, ev.frozen, fun b o x => .inl x, ev.κ, ev.wd.1, ev.wd.2.1, ev.wd.2.2.1, fun b x => .inl x⟩, hlf⟩
  · have hid := hlt id b e
    have hro : hget hp' id = hget hp id := ev.ro id hid
    obtain ⟨bk0, k1, ⟨_, es0, c0, _, _, k6⟩⟩ := h.mp.live id b e
    obtain ⟨bk, z1, ⟨z3, es, c, z4, z5, z6⟩⟩ := hr.mp.live id b (by rw [hlf id hid, e])
    rw [hro, k1] at z1; cases z1
    refine ⟨bk0, k1, z3, es, c, z4, z5, fun i x hx => ?_⟩
    obtain ⟨l, v, en, q1, q2, q3, q4, q6⟩ := z6 i x hx
    obtain ⟨l', v', en', p1, _, _, _, p6⟩ := k6 i x hx
    rw [q1] at p1; cases p1
    exact ⟨l, v, en, q1, q2, q3, q4, hold p6 q6⟩
  have hid : id < hp.next := by
    rcases Nat.lt_or_ge id hp.next with q | q
    · exact q
    · have := h.unb id q; rw [e] at this; cases this
  have hro : hget hp' id = hget hp id := ev.ro id hid
  obtain ⟨bk0, k1, k2⟩ := h.live id r e
  obtain ⟨bk, z1, z2⟩ := hr.live id r (by rw [hlf id hid, e])
  rw [hro, k1] at z1; cases z1
  refine ⟨bk0, k1, ⟨z2.sz, z2.len, z2.row, fun i j x c hx hc => ?_, z2.rw, z2.frz, z2.blk⟩⟩
  obtain ⟨_, cv0, _, r0⟩ := k2.cont i j x c hx hc
  obtain ⟨a, cv, b, r1⟩ := z2.cont i j x c hx hc
  exact ⟨a, cv, b, hold r0 r1⟩
theorem ro_ok {P : Program} {call : Call} {L : Nat} {f : FuncId} {fn : Fn} (hrun : RunOK P call L f fn) {xs : List V} {cs : Array Value} {E : Ent} {g : G} {ν : Nat → Option Nat} {lo : Lo} {hp : Hp} {w : World} (h : MemR E g ν lo hp w) (ha : Args g xs cs) :
    match runR call L fn xs hp with
    | .bad => True
    | .ret v hp' => Enters P f ∧ Calls P f cs w (EndR fun cv w' g' => MemR E g' ν lo hp' w' ∧ GLe g g' ∧ RepA g' v cv ∧ isLp v = false)
    | .pan v hp' => Enters P f ∧ Calls P f cs w (EndP fun cv w' g' => MemR E g' ν lo hp' w' ∧ GLe g g' ∧ RepA g' v cv ∧ isLp v = false) := by
  have hr0 : HR g ⟨hp.next, hp.next, hp.tr⟩ w := ⟨h.hr.mp.mono (fun _ _ _ x => x) (fun _ _ x => x) (fun _ _ x => x) (fun _ _ _ => rfl), Nat.le_refl _, h.hr.nil, h.hr.bnd, h.hr.kap, h.hr.unb, h.hr.dead, h.hr.live, h.hr.sep⟩
  have hg0 : GlobW g ⟨hp.next, hp.next, hp.tr⟩ w := ⟨h.globW.ok, h.globW.blk⟩
  have := hrun xs cs g _ w hg0 hr0 ha
  unfold runR
  cases hc : runF call L fn xs ⟨hp.next, hp.next, hp.tr⟩ with
  | bad => trivial
  | pan v hp' => trivial
  | ret v hp' =>
    rw [hc] at this
    simp only []
    cases ho : oldT hp.next v with
    | false => trivial
    | true =>
      simp only [cond_true]
      refine ⟨this.1, Calls.mono this.2 fun e w' x => EndR.mono (fun cv w' g' ⟨h1, h2, h3, h4⟩ => ?_) x⟩
      obtain ⟨r1, r2, r3⟩ := h.hr.restore h1 h2
      refine ⟨_, h.back r1 r2, r2.le, ?_, h4⟩
      exact (old_mono (g := g') (g' := ⟨g'.κ, g.lf⟩) (fun _ _ _ x => x) (fun id hid => (r3 id hid).symm)).2.2 v cv h3 ho
end Ev