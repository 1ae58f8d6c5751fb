import Derived.Test.YtgofadnggipkpaaEvIns10
import Derived.Lib.Bytealg
import Derived.KernelRfl
namespace Ev
open Go

/-- worlds that part at maps alone -/
structure MapsOnly (w w' : World) (X : Nat → Prop) : Prop where
  cell : ∀ b o, w'.cell? (ad b o) = w.cell? (ad b o)
  frozen : ∀ b o, w'.frozen? (ad b o) = w.frozen? (ad b o)
  size : w.heap.size ≤ w'.heap.size
  unf : ∀ b, Unf w b → Unf w' b
  heap : ∀ b, b < w.heap.size → ¬ X b → w'.heap[b]? = w.heap[b]?
  os : w'.os = w.os ∧ w'.output = w.output

theorem at_map {w : World} {b : Nat} {es : Array MapEntry} {c : Nat} (h : w.heap[b]? = some (Obj.map es c)) (o : Nat) : w.cell? (ad b o) = none ∧ w.frozen? (ad b o) = false := by
  unfold World.cell? World.frozen? ad
  simp only [h, and_self]

theorem maps_alloc (w : World) (es : Array MapEntry) (c : Nat) : MapsOnly w (w.alloc (.map es c)) (fun _ => False) := by
  have hat : ∀ b, (w.alloc (.map es c)).heap[b]? = if b = w.heap.size then some (Obj.map es c) else w.heap[b]? := fun b => by
    show (w.heap.push _)[b]? = _
    rw [Array.getElem?_push]
  have hno : ∀ o, w.cell? (ad w.heap.size o) = none ∧ w.frozen? (ad w.heap.size o) = false := fun o => by
    unfold World.cell? World.frozen? ad
    simp
  refine ⟨fun b o => ?_, fun b o => ?_, by show _ ≤ (w.heap.push _).size; simp, fun b hu => ?_, fun b hb _ => by rw [hat, if_neg (by omega)], rfl, rfl⟩
  · by_cases e : b = w.heap.size
    · subst e; rw [(at_map (w := w.alloc (.map es c)) (by rw [hat, if_pos rfl]) o).1, (hno o).1]
    · unfold World.cell? ad; simp only [hat, e, if_false]
  · by_cases e : b = w.heap.size
    · subst e; rw [(at_map (w := w.alloc (.map es c)) (by rw [hat, if_pos rfl]) o).2, (hno o).2]
    · unfold World.frozen? ad; simp only [hat, e, if_false]
  · obtain ⟨C, e', fr, h1, h2⟩ := hu
    exact ⟨C, e', fr, by rw [hat, if_neg (by have := (Array.getElem?_eq_some_iff.1 h1).1; omega)]; exact h1, h2⟩

/-- a map is laid anew -/
def putMap (w : World) (b : Nat) (es : Array MapEntry) (c : Nat) : World := { w with heap := w.heap.setIfInBounds b (.map es c) }

theorem maps_put {w : World} {b : Nat} {es es' : Array MapEntry} {c c' : Nat} (h : w.heap[b]? = some (Obj.map es c)) : MapsOnly w (putMap w b es' c') (fun x => x = b) ∧ (putMap w b es' c').heap[b]? = some (Obj.map es' c') := by
  have hlt := (Array.getElem?_eq_some_iff.1 h).1
  have hat : ∀ x, (putMap w b es' c').heap[x]? = if x = b then some (Obj.map es' c') else w.heap[x]? := fun x => by
    show (w.heap.setIfInBounds b _)[x]? = _
    rw [Array.getElem?_setIfInBounds]
    by_cases e : b = x
    · subst e; simp [hlt]
    · simp [e, Ne.symm e]
  have hb : (putMap w b es' c').heap[b]? = some (Obj.map es' c') := by rw [hat, if_pos rfl]
  refine ⟨⟨fun x o => ?_, fun x o => ?_, by show _ ≤ (w.heap.setIfInBounds b _).size; simp, fun x hu => ?_, fun x _ hx => by rw [hat, if_neg hx], rfl, rfl⟩, hb⟩
  · by_cases e : x = b
    · subst e; rw [(at_map hb o).1, (at_map h o).1]
    · unfold World.cell? ad; simp only [hat, e, if_false]
  · by_cases e : x = b
    · subst e; rw [(at_map hb o).2, (at_map h o).2]
    · unfold World.frozen? ad; simp only [hat, e, if_false]
  · obtain ⟨C, e', fr, h1, h2⟩ := hu
    refine ⟨C, e', fr, ?_, h2⟩
    rw [hat, if_neg (fun e => by subst e; rw [h] at h1; cases h1)]; exact h1

/-- a new map -/
def bornM (g : G) (hp : Hp) (b : Nat) : G := ⟨g.κ, fun id => if id = hp.next then .mlive b else g.lf id⟩

theorem MemR.newMap {E : Ent} {g : G} {ν : Nat → Option Nat} {lo : Lo} {hp : Hp} {w : World} (h : MemR E g ν lo hp w) :
    MemR E (bornM g hp w.heap.size) ν lo (hnew hp ⟨2, false, []⟩) (w.alloc (.map #[] 0)) ∧ GLe g (bornM g hp w.heap.size) := by
  have mo := maps_alloc w #[] 0
  have hle : GLe g (bornM g hp w.heap.size) := ⟨fun _ _ _ x => x, fun id => by
    by_cases e : id = hp.next
    · rw [h.hr.unb id (by omega)]; trivial
    · simp only [bornM, e, if_false]; cases g.lf id <;> simp [Life.le]⟩
  have hl : ∀ id r, (bornM g hp w.heap.size).lf id = .live r → id ≠ hp.next ∧ g.lf id = .live r := fun id r x => by
    simp only [bornM] at x
    split at x
    · cases x
    · exact ⟨‹_›, x⟩
  have hlm : ∀ id b, (bornM g hp w.heap.size).lf id = .mlive b → (id = hp.next ∧ b = w.heap.size) ∨ (id ≠ hp.next ∧ g.lf id = .mlive b) := fun id b x => by
    simp only [bornM] at x
    split at x
    · cases x; exact .inl ⟨‹_›, rfl⟩
    · exact .inr ⟨‹_›, x⟩
  have hmb : ∀ id b, g.lf id = .mlive b → b < w.heap.size := fun id b x => by
    obtain ⟨bk, _, ⟨_, _, es, c, q, _⟩⟩ := h.hr.mp.live id b x
    exact (Array.getElem?_eq_some_iff.1 q).1
  have hown : ∀ b o, Own (bornM g hp w.heap.size) (hnew hp ⟨2, false, []⟩) b o → Own g hp b o := by
    intro b o ⟨id, r, bk, k, x, y, z⟩
    obtain ⟨h1, h2⟩ := hl id r x
    rw [hget_hnew, if_neg h1] at y
    exact ⟨id, r, bk, k, h2, y, z⟩
  have hnx : (w.alloc (.map #[] 0)).heap[w.heap.size]? = some (.map #[] 0) := by show (w.heap.push _)[w.heap.size]? = _; simp
  refine ⟨⟨⟨⟨fun id b x => ?_, fun id id' b hne x x' => ?_⟩, by simp only [hnew]; have := h.hr.lim; omega, fun id hid => by
      simp only [hnew] at hid
      rw [hget_hnew, if_neg (by omega)]; exact h.hr.nil id (by omega), fun id hid => by
      simp only [hnew] at hid
      simp only [bornM]; split
      · simp
      · exact h.hr.bnd id (by omega), fun b o v x => by rw [mo.cell]; exact h.hr.kap b o v x, fun id hid => by
      simp only [hnew] at hid
      simp only [bornM, show id ≠ hp.next by omega, if_false]; exact h.hr.unb id (by omega), fun id x => ?_, fun id r x => ?_, fun id id' r1 r2 b1 b2 hne x x' y y' z z' => ?_⟩, ⟨fun t cs x => ?_, h.lo.inj⟩, h.evo.trans ⟨hle, by simp [hnew], rfl, fun id hid => by rw [hget_hnew, if_neg (by have := h.hr.lim; omega)], mo.size, fun b o v x _ => by rw [mo.cell]; exact x, fun b o v x _ => mo.frozen b o, fun b o x => .inl (hown b o x), fun _ _ _ x => .inl x, mo.os, mo.unf, fun b hb _ _ => mo.heap b hb (fun x => x), fun b ⟨id, x⟩ => ?_⟩⟩, hle⟩
  · rcases hlm id b x with ⟨rfl, rfl⟩ | ⟨h1, h2⟩
    · exact ⟨⟨2, false, []⟩, by rw [hget_hnew, if_pos rfl], rfl, rfl, #[], 0, hnx, rfl, fun i x hx => by simp at hx⟩
    · obtain ⟨bk, k1, ⟨k2, k3, es, c, k4, k5, k6⟩⟩ := h.hr.mp.live id b h2
      refine ⟨bk, by rw [hget_hnew, if_neg h1]; exact k1, k2, k3, es, c, by rw [mo.heap b (hmb id b h2) (fun x => x)]; exact k4, k5, fun i x hx => ?_⟩
      obtain ⟨l, v, en, s, q1, q2, q3, q4, q5, q6⟩ := k6 i x hx
      exact ⟨l, v, en, s, q1, q2, q3, q4, q5, q6.mono hle⟩
  · rcases hlm id b x with ⟨e1, e2⟩ | ⟨h1, h2⟩
    · rcases hlm id' b x' with ⟨e1', _⟩ | ⟨h1', h2'⟩
      · exact hne (e1.trans e1'.symm)
      · have := hmb id' b h2'; omega
    · rcases hlm id' b x' with ⟨e1', e2'⟩ | ⟨h1', h2'⟩
      · have := hmb id b h2; omega
      · exact h.hr.mp.sep id id' b hne h2 h2'
  · simp only [bornM] at x
    split at x
    · cases x
    · rename_i e; rw [hget_hnew, if_neg e]; exact h.hr.dead id x
  · obtain ⟨h1, h2⟩ := hl id r x
    obtain ⟨bk, k1, k2⟩ := h.hr.live id r h2
    exact ⟨bk, by rw [hget_hnew, if_neg h1]; exact k1, k2.grow hle (fun _ _ _ y => by rw [mo.cell]; exact y) (fun _ _ _ _ => mo.frozen _ _) (fun _ _ y _ => y) mo.unf⟩
  · obtain ⟨h1, h2⟩ := hl id r1 x
    obtain ⟨h1', h2'⟩ := hl id' r2 x'
    rw [hget_hnew, if_neg h1] at y
    rw [hget_hnew, if_neg h1'] at y'
    exact h.hr.sep id id' r1 r2 b1 b2 hne h2 h2' y y' z z'
  · obtain ⟨b, h1, h2, h3, h4, h5, h6⟩ := h.lo.box t cs x
    exact ⟨b, h1, h2.grow hle (fun _ _ y => by rw [mo.cell]; exact y) (fun _ _ _ => mo.frozen _ _), h3, fun o y => h4 o (hown b o y), h5, by have := mo.size; omega⟩
  · rcases hlm id b x with ⟨_, rfl⟩ | ⟨_, h2⟩
    · exact .inr (Nat.le_refl _)
    · exact .inl ⟨id, h2⟩

/-- a map is written -/
theorem MemR.setMap {E : Ent} {g : G} {ν : Nat → Option Nat} {lo : Lo} {hp : Hp} {w : World} (h : MemR E g ν lo hp w) {id b : Nat} {bk bk' : Bk} (hl : g.lf id = .mlive b) (hb : hget hp id = some bk) (hlim : hp.lim ≤ id)
    {es' : Array MapEntry} {c' : Nat} (hm : MpR g (putMap w b es' c') b bk') : MemR E g ν lo (hset hp id (some bk')) (putMap w b es' c') := by
  obtain ⟨bk0, k1, ⟨_, _, es, c, k4, _⟩⟩ := h.hr.mp.live id b hl
  obtain ⟨mo, _⟩ := maps_put (es' := es') (c' := c') k4
  have hgets : ∀ j, hget (hset hp id (some bk')) j = if j = id then some bk' else hget hp j := hget_hset hp id _
  have hne : ∀ j r, g.lf j = .live r → j ≠ id := fun j r x e => by subst e; rw [hl] at x; cases x
  have hown : ∀ b o, Own g (hset hp id (some bk')) b o → Own g hp b o := by
    intro b o ⟨j, r, bk, k, x, y, z⟩
    rw [hgets, if_neg (hne j r x)] at y
    exact ⟨j, r, bk, k, x, y, z⟩
  refine ⟨⟨⟨fun j b2 x => ?_, h.hr.mp.sep⟩, h.hr.lim, fun j x => ?_, h.hr.bnd, fun b o v x => by rw [mo.cell]; exact h.hr.kap b o v x, h.hr.unb, fun j x => ?_, fun j r x => ?_, fun j j' r1 r2 b1 b2 hne' x x' y y' z z' => ?_⟩, ⟨fun t cs x => ?_, h.lo.inj⟩, h.evo.trans ⟨GLe.refl g, Nat.le_refl _, rfl, fun j hj => by rw [hgets, if_neg (by omega)], mo.size, fun b o v x _ => by rw [mo.cell]; exact x, fun b o v x _ => mo.frozen b o, fun b o x => .inl (hown b o x), fun _ _ _ x => .inl x, mo.os, mo.unf, fun b' hb' _ hn => mo.heap b' hb' (fun e => hn ⟨id, by rw [e]; exact hl⟩), fun _ x => .inl x⟩⟩
  · by_cases e : j = id
    · subst e; rw [hl] at x; cases x
      exact ⟨bk', by rw [hgets, if_pos rfl], hm⟩
    · have hbb : b2 ≠ b := fun q => h.hr.mp.sep j id b2 e x (by rw [q]; exact hl)
      obtain ⟨bk2, q1, ⟨q2, q3, es2, c2, q4, q5, q6⟩⟩ := h.hr.mp.live j b2 x
      exact ⟨bk2, by rw [hgets, if_neg e]; exact q1, q2, q3, es2, c2, by rw [mo.heap b2 (Array.getElem?_eq_some_iff.1 q4).1 hbb]; exact q4, q5, q6⟩
  · have : j ≠ id := fun e => by subst e; rw [h.hr.nil _ x] at hb; cases hb
    rw [hgets, if_neg this]; exact h.hr.nil j x
  · have : j ≠ id := fun e => by subst e; rw [hl] at x; cases x
    rw [hgets, if_neg this]; exact h.hr.dead j x
  · obtain ⟨bk, k1, k2⟩ := h.hr.live j r x
    exact ⟨bk, by rw [hgets, if_neg (hne j r x)]; exact k1, k2.grow (GLe.refl g) (fun _ _ _ y => by rw [mo.cell]; exact y) (fun _ _ _ _ => mo.frozen _ _) (fun _ _ y _ => y) mo.unf⟩
  · rw [hgets, if_neg (hne j r1 x)] at y
    rw [hgets, if_neg (hne j' r2 x')] at y'
    exact h.hr.sep j j' r1 r2 b1 b2 hne' x x' y y' z z'
  · obtain ⟨b, h1, h2, h3, h4, h5, h6⟩ := h.lo.box t cs x
    exact ⟨b, h1, h2.grow (GLe.refl g) (fun _ _ y => by rw [mo.cell]; exact y) (fun _ _ _ => mo.frozen _ _), h3, fun o y => h4 o (hown b o y), h5, by have := mo.size; omega⟩

/-- what is found under a key -/
theorem find_map {g : G} {s : ByteArray} {l : List Nat} (hs : s.data.toList.map UInt8.toNat = l) : ∀ (rows : List (List V)) (es : List MapEntry) (n : Nat), es.length = rows.length →
    (∀ (i : Nat) (x : List V), rows[i]? = some x → ∃ (l : List Nat) (v : V) (e : MapEntry) (s : ByteArray), x = [.st l, v] ∧ v.keep = true ∧ es[i]? = some e ∧ e.key = .string s ∧ s.data.toList.map UInt8.toNat = l ∧ RepA g v e.val) →
    (mapGet l rows = none ∧ Instr.findNow .string (.string s) es n = some none ∧ ∀ v, mapPut l v rows = rows ++ [[.st l, v]]) ∨
    (∃ (i : Nat) (u : V) (e : MapEntry) (sk : ByteArray), mapGet l rows = some u ∧ rows[i]? = some [.st l, u] ∧ es[i]? = some e ∧ e.key = .string sk ∧ sk.data.toList.map UInt8.toNat = l ∧ RepA g u e.val ∧ u.keep = true ∧ Instr.findNow .string (.string s) es n = some (some (n + i, e.val)) ∧ ∀ v, mapPut l v rows = rows.set i [.st l, v]) := by
  intro rows
  induction rows with
  | nil =>
    intro es n hn _
    have : es = [] := List.eq_nil_of_length_eq_zero hn
    subst this
    exact .inl ⟨rfl, rfl, fun _ => rfl⟩
  | cons x rows ih =>
    intro es n hn h
    cases es with
    | nil => simp at hn
    | cons e es =>
      obtain ⟨k, v, e', sk, q1, q2, q3, q4, q5, q6⟩ := h 0 x rfl
      simp only [List.getElem?_cons_zero, Option.some.injEq] at q3; subst q3; subst q1
      have heq : beqL k l = (sk.data.toList == s.data.toList) := by rw [← q5, ← hs, beqL_bytes]
      have hnow : Instr.sameNow .string (.string s) e.key = some (beqL k l) := by
        rw [q4, heq]
        simp only [Instr.sameNow]
        congr 1
        rw [beq_toListBytes, ByteArray.toList_eq, ByteArray.toList_eq]
        rw [Bool.eq_iff_iff]; simp only [beq_iff_eq]; exact ⟨fun h => h.symm, fun h => h.symm⟩
      cases hk : beqL k l with
      | true =>
        have hkl : k = l := by rw [beqL_eq] at hk; simpa using hk
        subst hkl
        refine .inr ⟨0, v, e, sk, by simp [mapGet, hk], rfl, rfl, q4, q5, q6, q2, ?_, fun u => by simp [mapPut, hk]⟩
        simp only [Instr.findNow, hnow, hk, Nat.add_zero]
      | false =>
        rcases ih es (n + 1) (by simpa using hn) (fun i x hx => by simpa using h (i + 1) x (by simpa using hx)) with ⟨a1, a2, a3⟩ | ⟨i, u, e2, sk2, a1, a2, a3, a4, a5, a6, a7, a8, a9⟩
        · exact .inl ⟨by simp [mapGet, hk, a1], by simp [Instr.findNow, hnow, hk, a2], fun v' => by simp [mapPut, hk, a3]⟩
        · exact .inr ⟨i + 1, u, e2, sk2, by simp [mapGet, hk, a1], by simpa using a2, by simpa using a3, a4, a5, a6, a7, by simp only [Instr.findNow, hnow, hk, a8]; rw [show n + 1 + i = n + (i + 1) by omega], fun v' => by simp [mapPut, hk, a9]⟩

section
variable {e : Env}

theorem mapOk_inv {P : Program} {t : TypeId} (h : mapOk P t = true) : ∃ k el, P.underlying t = some (.map k el) ∧ P.underlying k = some .string := by
  unfold mapOk at h
  split at h
  · rename_i k el hu
    split at h
    · rename_i hk; exact ⟨k, el, hu, hk⟩
    · cases h
  · cases h

theorem ok_mmk (h : e.St) {t : TypeId} (ho : e.o.op = .makeMap t none) (us : List Nat) (d : Nat) : Res e (iMmk us e.clr d e.st) := by
  obtain ⟨h1, h2⟩ := h.mem.newMap
  refine .out (.value (.map (some e.w.heap.size)) _ (by simp [execOp, ho, Instr.makeMap, newObj, Sem.run])) ⟨rfl, h1, h2, .inl rfl, .ofA (.mp _ _ (.inr (by simp [bornM]))), fun _ _ _ _ x => by cases x⟩

theorem run_checkKey {P : Program} {w : World} {k : TypeId} (hk : P.underlying k = some .string) (em : Bool) (s : ByteArray) : (Instr.checkKey em 10000 k (.string s)).run P w = .ok () w := by
  have key : ∀ n, (Instr.checkKey em (n + 1) k (.string s)).run P w = .ok () w := fun n => by simp [Instr.checkKey, run_underlying hk]
  exact key 9999

theorem run_getMap {P : Program} {w : World} {b : Nat} {es : Array MapEntry} {c : Nat} (h : w.heap[b]? = some (Obj.map es c)) : (getObj b).run P w = .ok (.map es c) w := by
  simp only [getObj, Sem.run, h]

theorem run_setMap {P : Program} {w : World} {b : Nat} {es es' : Array MapEntry} {c c' : Nat} (h : w.heap[b]? = some (Obj.map es c)) : (setObj b (.map es' c')).run P w = .ok () (putMap w b es' c') := by
  simp only [setObj, Sem.run, h]
  rfl

theorem run_find {P : Program} {w : World} {k : TypeId} (hk : P.underlying k = some .string) {s : ByteArray} {es : List MapEntry} {r : Option (Nat × Value)} (h : Instr.findNow .string (.string s) es 0 = some r) : (Instr.findKey k (.string s) es).run P w = .ok r w := by
  simp [Instr.findKey, run_underlying hk, h]

theorem same_str {a b : ByteArray} (h : a.data.toList.map UInt8.toNat = b.data.toList.map UInt8.toNat) : a = b := by
  have h1 : (a.data.toList == b.data.toList) = true := by rw [← beqL_bytes, beqL_eq, h]; simp
  have h2 : a.data.toList = b.data.toList := by simpa using h1
  cases a; cases b; congr 1; exact Array.ext' h2

theorem run_stays {P : Program} {w : World} (s : ByteArray) : (Instr.keyThatStays (.string s) (.string s)).run P w = .ok (.string s) w := by
  have : Instr.sameBits 10000 (.string s) (.string s) = true := by
    show (s == s) = true
    rw [beq_toListBytes]; simp
  simp [Instr.keyThatStays, this]

theorem ok_mlk (h : e.St) {t key el : TypeId} {ok : Bool} {z : V} {x i : Operand} {xa ia : A} (hm : mapOk e.P t = true) (hu : e.P.underlying t = some (.map key el)) (hz : zeroV e.P el = some z) (hx : cA x = some xa) (hi : cA i = some ia) (ho : e.o.op = .lookup t x i ok) (us : List Nat) (d : Nat) :
    Res e (iMlk ok z xa ia us e.clr d e.st) := by
  obtain ⟨k', el', hu', hks⟩ := mapOk_inv hm
  rw [hu] at hu'; cases hu'
  have hrx := h.rep hx
  have hri := h.rep hi
  unfold zeroV at hz
  cases hinf : e.P.info? el with
  | none => simp [hinf] at hz
  | some inf =>
  cases hzz : inf.zero with
  | none => simp [hinf, hzz] at hz
  | some zv =>
  simp only [hinf, hzz, Option.bind_some] at hz
  obtain ⟨z1, z2, _⟩ := ofVal_rep (g := e.g) hz
  have hzero := run_zero hinf hzz e.w
  have pair : ∀ {u : V} {cv : Value} (b : Bool), RepA e.g u cv → isLp u = false → RepA e.g (.tu [u, .bo b]) (.tuple #[cv, .bool b]) := fun {u cv} b hr hlu => by
    refine .tu _ _ rfl (fun x hx => by simp only [List.mem_cons, List.not_mem_nil, or_false] at hx; rcases hx with rfl | rfl <;> first | exact hlu | rfl) fun j c hc => ?_
    match j with
    | 0 => simp only [List.getElem?_cons_zero, Option.some.injEq] at hc; subst hc; exact hr
    | 1 => simp only [List.getElem?_cons_succ, List.getElem?_cons_zero, Option.some.injEq] at hc; subst hc; exact .c _ _ (.bo b)
    | j + 2 => simp at hc
  show Res e (fun k kp => iMlk ok z xa ia us e.clr d e.st k kp)
  simp only [iMlk]
  cases hgi : get e.st.tm ia with
  | st l =>
    rw [hgi] at hri
    obtain ⟨s, hs, hl⟩ := RepA.st_inv hri
    cases hgx : get e.st.tm xa with
    | nm =>
      rw [hgx] at hrx
      have hxv := RepA.nm_inv hrx
      have hf : Instr.findNow .string (.string s) ([] : List MapEntry) 0 = some none := rfl
      cases ok with
      | true => exact Res.val h (cv := .tuple #[zv, .bool false]) (by simp [execOp, ho, Instr.lookup, run_underlying hu, hxv, hs, run_checkKey hks, run_find hks hf, hzero]) (pair false z1 z2) rfl
      | false => exact Res.val h (cv := zv) (by simp [execOp, ho, Instr.lookup, run_underlying hu, hxv, hs, run_checkKey hks, run_find hks hf, hzero]) z1 z2
    | mp id =>
      rw [hgx] at hrx
      simp only []
      cases hb : hget e.st.hp id with
      | none => exact .bad fun _ _ => rfl
      | some bk =>
        simp only []
        obtain ⟨b, hxv, hlf⟩ := RepA.mp_inv hrx
        rcases hlf with hd | hlf
        · have := h.mem.hr.dead id hd; rw [hb] at this; cases this
        obtain ⟨bk', k1, ⟨_, _, es, c, k4, k5, k6⟩⟩ := h.mem.hr.mp.live id b hlf
        rw [hb] at k1; cases k1
        have hg := run_getMap (P := e.P) k4
        rcases find_map hl bk.es es.toList 0 (by simpa using k5) (fun i x hx => by simpa using k6 i x hx) with ⟨a1, a2, _⟩ | ⟨j, u, en, sk, a1, _, _, _, _, a6, a7, a8, _⟩
        · simp only [mgetD, a1]
          cases ok with
          | true => exact Res.val h (cv := .tuple #[zv, .bool false]) (by simp [execOp, ho, Instr.lookup, run_underlying hu, hxv, hs, hg, run_checkKey hks, run_find hks a2, hzero]) (pair false z1 z2) rfl
          | false => exact Res.val h (cv := zv) (by simp [execOp, ho, Instr.lookup, run_underlying hu, hxv, hs, hg, run_checkKey hks, run_find hks a2, hzero]) z1 z2
        · simp only [mgetD, a1]
          have hul : isLp u = false := by cases u <;> first | rfl | simp [V.keep] at a7
          cases ok with
          | true => exact Res.val h (cv := .tuple #[en.val, .bool true]) (by simp [execOp, ho, Instr.lookup, run_underlying hu, hxv, hs, hg, run_checkKey hks, run_find hks a8]) (pair true a6 hul) rfl
          | false => exact Res.val h (cv := en.val) (by simp [execOp, ho, Instr.lookup, run_underlying hu, hxv, hs, hg, run_checkKey hks, run_find hks a8]) a6 hul
    | _ => exact .bad fun _ _ => rfl
  | _ => exact .bad fun _ _ => rfl

theorem ok_mup (h : e.St) {t : TypeId} {x i v : Operand} {xa ia va : A} (hm : mapOk e.P t = true) (hx : cA x = some xa) (hi : cA i = some ia) (hv : cA v = some va) (ho : e.o.op = .mapUpdate t x i v) (us : List Nat) (d : Nat) :
    Res e (iMup xa ia va us e.clr d e.st) := by
  obtain ⟨key, el, hu, hks⟩ := mapOk_inv hm
  have hrx := h.rep hx
  have hri := h.rep hi
  have hrv := h.rep hv
  show Res e (fun k kp => iMup xa ia va us e.clr d e.st k kp)
  simp only [iMup]
  cases hgi : get e.st.tm ia with
  | st l =>
    rw [hgi] at hri
    obtain ⟨s, hs, hl⟩ := RepA.st_inv hri
    cases hgx : get e.st.tm xa with
    | mp id =>
      rw [hgx] at hrx
      simp only []
      cases hb : hget e.st.hp id with
      | none => exact .bad fun _ _ => rfl
      | some bk =>
        simp only []
        refine Res.bif (F := fun _ _ => .bad) (G := fun k _ => bif freshH us e.st.tm id then bif (get e.st.tm va).keep then k .un (e.st.setHp (hset e.st.hp id (some ⟨2, false, mapPut l (get e.st.tm va) bk.es⟩))) else .bad else .bad) (fun _ => .bad fun _ _ => rfl) (fun hlim => ?_)
        refine Res.bif (F := fun k _ => bif (get e.st.tm va).keep then k .un (e.st.setHp (hset e.st.hp id (some ⟨2, false, mapPut l (get e.st.tm va) bk.es⟩))) else .bad) (G := fun _ _ => .bad) (fun hfr => ?_) (fun _ => .bad fun _ _ => rfl)
        refine Res.bif (F := fun k _ => k .un (e.st.setHp (hset e.st.hp id (some ⟨2, false, mapPut l (get e.st.tm va) bk.es⟩)))) (G := fun _ _ => .bad) (fun hkp => ?_) (fun _ => .bad fun _ _ => rfl)
        have hlim' : e.st.hp.lim ≤ id := by
          have : ¬ id < e.st.hp.lim := fun q => by rw [show Nat.blt id e.st.hp.lim = true from by simpa [Nat.blt_eq] using q] at hlim; cases hlim
          omega
        obtain ⟨b, hxv, hlf⟩ := RepA.mp_inv hrx
        rcases hlf with hd | hlf
        · have := h.mem.hr.dead id hd; rw [hb] at this; cases this
        obtain ⟨bk', k1, ⟨k2, k3, es, c, k4, k5, k6⟩⟩ := h.mem.hr.mp.live id b hlf
        rw [hb] at k1; cases k1
        have hg := run_getMap (P := e.P) k4
        have hul : isLp (get e.st.tm va) = false := by cases hq : get e.st.tm va <;> first | rfl | (rw [hq] at hkp; simp [V.keep] at hkp)
        have hrv' := hrv.toA hul
        rcases find_map hl bk.es es.toList 0 (by simpa using k5) (fun i x hx => by simpa using k6 i x hx) with ⟨a1, a2, a3⟩ | ⟨j, u, en, sk, a1, a2, a3, a4, a5, a6, a7, a8, a9⟩
        · have hset := run_setMap (P := e.P) (es' := es.push ⟨.string s, e.a.eval v, c⟩) (c' := c + 1) k4
          have hheap := (maps_put (es' := es.push ⟨.string s, e.a.eval v, c⟩) (c' := c + 1) k4).2
          have hmem := h.mem.setMap (es' := es.push ⟨.string s, e.a.eval v, c⟩) (c' := c + 1) (bk' := ⟨2, false, mapPut l (get e.st.tm va) bk.es⟩) hlf hb hlim' (by
            refine ⟨rfl, rfl, _, _, hheap, by rw [a3]; simp [k5], fun j x hx => ?_⟩
            rw [a3] at hx
            by_cases hj : j < bk.es.length
            · rw [List.getElem?_append_left hj] at hx
              obtain ⟨l', v', en', s', q1, q2, q3, q4⟩ := k6 j x hx
              exact ⟨l', v', en', s', q1, q2, by rw [Array.getElem?_push, if_neg (by omega)]; exact q3, q4⟩
            · rw [List.getElem?_append_right (by omega)] at hx
              have hj0 : j - bk.es.length = 0 := by
                cases hq : j - bk.es.length with
                | zero => rfl
                | succ n => rw [hq] at hx; simp at hx
              rw [hj0] at hx
              simp only [List.getElem?_cons_zero, Option.some.injEq] at hx; subst hx
              exact ⟨l, get e.st.tm va, ⟨.string s, e.a.eval v, c⟩, s, rfl, hkp, by rw [Array.getElem?_push, if_pos (by omega)], rfl, hl, hrv'⟩)
          exact .out (.skip _ (by simp [execOp, ho, Instr.mapUpdate, run_underlying hu, hxv, hs, hg, run_checkKey hks, run_find hks a2, hset])) ⟨rfl, hmem, GLe.refl _, .inl rfl, .ofA (.un _), fun _ _ _ _ x => by cases x⟩
        · have hsk : sk = s := same_str (a5.trans hl.symm)
          subst hsk
          simp only [Array.getElem?_toList] at a3
          have hkey : ((es[j]?).map (·.key)).getD (.string sk) = .string sk := by rw [a3]; simp [a4]
          have hset := run_setMap (P := e.P) (es' := es.modify j fun e' => { e' with key := .string sk, val := e.a.eval v }) (c' := c) k4
          have hheap := (maps_put (es' := es.modify j fun e' => { e' with key := .string sk, val := e.a.eval v }) (c' := c) k4).2
          have hmem := h.mem.setMap (es' := es.modify j fun e' => { e' with key := .string sk, val := e.a.eval v }) (c' := c) (bk' := ⟨2, false, mapPut l (get e.st.tm va) bk.es⟩) hlf hb hlim' (by
            refine ⟨rfl, rfl, _, _, hheap, by rw [a9]; simp [k5], fun j' x hx => ?_⟩
            rw [a9, List.getElem?_set] at hx
            by_cases hj : j = j'
            · subst hj
              have : j < bk.es.length := (List.getElem?_eq_some_iff.1 a2).1
              simp only [if_true, this, Option.some.injEq] at hx; subst hx
              exact ⟨l, get e.st.tm va, { en with key := .string sk, val := e.a.eval v }, sk, rfl, hkp, by simp [Array.getElem?_modify, a3], rfl, hl, hrv'⟩
            · rw [if_neg hj] at hx
              obtain ⟨l', v', en', s', q1, q2, q3, q4⟩ := k6 j' x hx
              exact ⟨l', v', en', s', q1, q2, by simp [Array.getElem?_modify, hj, q3], q4⟩)
          exact .out (.skip _ (by simp [execOp, ho, Instr.mapUpdate, run_underlying hu, hxv, hs, hg, run_checkKey hks, run_find hks a8, hkey, run_stays, hset])) ⟨rfl, hmem, GLe.refl _, .inl rfl, .ofA (.un _), fun _ _ _ _ x => by cases x⟩
    | _ => exact .bad fun _ _ => rfl
  | _ => exact .bad fun _ _ => rfl
theorem ixb_find {fn : Func} (hn : fn.name = "internal/bytealg.IndexByteString") : Extern.find fn = some Extern.BytealgIndexByte.indexByte := by
  have a : Extern.allGenericRows.lookup "internal/bytealg.IndexByteString" = none := by kernel_rfl
  have b : Extern.allTypedRows.lookup "internal/bytealg.IndexByteString" = none := by kernel_rfl
  have c : Extern.allRows.lookup "internal/bytealg.IndexByteString" = some Extern.BytealgIndexByte.indexByte := by kernel_rfl
  unfold Extern.find
  simp only [hn, a, b, c]
  rfl

theorem idxB_eq (c : UInt8) : ∀ l : List UInt8, idxB c.toNat (l.map UInt8.toNat) = Lib.indexByte l c
  | [] => rfl
  | b :: r => by
    have hb : Nat.beq b.toNat c.toNat = (b == c) := by
      rw [Bool.eq_iff_iff, Nat.beq_eq, beq_iff_eq]
      exact ⟨fun h => UInt8.toNat_inj.1 h, fun h => by rw [h]⟩
    have ih := idxB_eq c r
    have hge := Lib.indexByte_ge r c
    simp only [List.map_cons, idxB, Lib.indexByte, hb, ih]
    cases b == c with
    | true => rfl
    | false =>
      simp only [cond_false, Bool.false_eq_true, if_false]
      cases hq : Lib.indexByte r c with
      | ofNat n =>
        have : (Int.ofNat n == -1) = false := by simp
        simp only [this, Bool.false_eq_true, if_false]
        rfl
      | negSucc n =>
        rw [hq] at hge
        have : n = 0 := by omega
        subst this
        rfl

theorem ok_ixb (h : e.St) {c : Go.Call} {f : FuncId} {xa ya : A} (hf : isIxb e.P f = true) (hcal : c.callee = .value (.func f)) (ha : allSome cA c.args.toList = some [xa, ya]) (ho : e.o.op = .call c) (us : List Nat) (d : Nat) :
    Res e (iIxb xa ya us e.clr d e.st) := by
  obtain ⟨x, y, hargs, hx, hy⟩ := args2 ha
  have hrx := h.rep hx
  have hry := h.rep hy
  unfold isIxb at hf
  cases hfn : e.P.funcs[f]? with
  | none => simp [hfn] at hf
  | some fn =>
  cases hbd : fn.body with
  | some b => simp [hfn, hbd] at hf
  | none =>
  simp only [hfn, hbd, Bool.and_eq_true, beq_iff_eq, Option.isNone_iff_eq_none] at hf
  obtain ⟨hn, hnx⟩ := hf
  show Res e (fun k kp => iIxb xa ya us e.clr d e.st k kp)
  simp only [iIxb]
  cases hgx : get e.st.tm xa with
  | st l =>
    rw [hgx] at hrx
    obtain ⟨s, hs, hl⟩ := RepA.st_inv hrx
    cases hgy : get e.st.tm ya with
    | it k n =>
      rw [hgy] at hry
      cases k with
      | u8 =>
        have hyv := RepA.it_inv hry
        have hrun : (execOp e.a.eval e.o).run e.P e.w = .ok (.value (.int .i64 (idxB (n.toNat % 256) l))) e.w := by
          simp only [execOp, ho, resolve, hcal, Deferred.ofValue, Sem.run_bind, Act.eval, Sem.run_pure, Result.andThen_ok, invoke]
          have hname : (fn.name == "runtime.NumGoroutine") = false := by rw [hn]; decide
          have hrc := run_callFunc_extern (P := e.P) hfn hname (by simp [hbd]) hnx (ixb_find hn) #[.string s, .int .u8 n] e.w
          rw [Lib.run_indexByteString] at hrc
          have hi : idxB (n.toNat % 256) l = Lib.indexByte s.data.toList n.toNat.toUInt8 := by
            rw [← idxB_eq, hl]
            congr 1
          rw [hi, hargs]
          simp only [List.map_toArray, List.map_cons, List.map_nil, hs, hyv, Array.append_empty, Array.empty_append]
          simpa using hrc
        exact Res.val h hrun (.c _ _ (.it _ _)) rfl
      | _ => exact .bad fun _ _ => rfl
    | _ => exact .bad fun _ _ => rfl
  | _ => exact .bad fun _ _ => rfl
end
end Ev
