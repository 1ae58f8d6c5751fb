import Derived.Test.YtndodhmfdjcjgaaGreatDoorEvB
import Derived.Lib.Bytealg
import Derived.KernelRfl
set_option linter.unusedVariables false
set_option linter.unusedSimpArgs false
set_option linter.unusedSectionVars false
set_option linter.constructorNameAsVariable false
namespace Ev
variable [Glob]
open Go
structure MapsOnly (w w' : World) (X : Nat -> Prop) : Prop where
 cell : ∀ b o, w'.cell? (ad b o) = w.cell? (ad b o)
 frozen : ∀ b o, w'.frozen? (ad b o) = w.frozen? (ad b o)
 size : w.heap.size <= w'.heap.size
 unf : ∀ n b, Unf n w b -> Unf n w' b
 heap : ∀ b, b < w.heap.size -> ¬ X b -> w'.heap[b]? = w.heap[b]?
 os : w'.os = w.os /\ w'.output = w.output
theorem at_map {w : World} {b : Nat} {es : Array MapEntry} {c : Nat} (h : w.heap[b]? = some (Obj.map es c)) (o : Nat) : w.cell? (ad b o) = none /\ w.frozen? (ad b o) = false := by
 unfold World.cell? World.frozen? ad
 simp only [h, and_self]
theorem maps_alloc (w : World) (es : Array MapEntry) (c : Nat) : MapsOnly w (w.alloc (.map es c)) (fun _ => False) := by
 have hat : ∀ b, (w.alloc (.map es c)).heap[b]? = if b = w.heap.size then some (Obj.map es c) else w.heap[b]? := fun b => by
  show (w.heap.push _)[b]? = _
  rw [Array.getElem?_push]
 have hno : ∀ o, w.cell? (ad w.heap.size o) = none /\ w.frozen? (ad w.heap.size o) = false := fun o => by
  unfold World.cell? World.frozen? ad
  simp
 refine ⟨fun b o => ?_, fun b o => ?_, by show _ <= (w.heap.push _).size; simp, fun n b hu => ?_, fun b hb _ => by rw [hat, if_neg (by omega)], rfl, rfl⟩
 ·by_cases e : b = w.heap.size
  ·subst e; rw [(at_map (w := w.alloc (.map es c)) (by rw [hat, if_pos rfl]) o).1, (hno o).1]
  ·unfold World.cell? ad; simp only [hat, e, if_false]
 ·by_cases e : b = w.heap.size
  ·subst e; rw [(at_map (w := w.alloc (.map es c)) (by rw [hat, if_pos rfl]) o).2, (hno o).2]
  ·unfold World.frozen? ad; simp only [hat, e, if_false]
 ·obtain ⟨C, e', fr, h1, h2⟩ := hu
  exact ⟨C, e', fr, by rw [hat, if_neg (by have := (Array.getElem?_eq_some_iff.1 h1).1; omega)]; exact h1, h2⟩
def putMap (w : World) (b : Nat) (es : Array MapEntry) (c : Nat) : World := { w with heap := w.heap.setIfInBounds b (.map es c) }
theorem maps_put {w : World} {b : Nat} {es es' : Array MapEntry} {c c' : Nat} (h : w.heap[b]? = some (Obj.map es c)) : MapsOnly w (putMap w b es' c') (fun x => x = b) /\ (putMap w b es' c').heap[b]? = some (Obj.map es' c') := by
 have hlt := (Array.getElem?_eq_some_iff.1 h).1
 have hat : ∀ x, (putMap w b es' c').heap[x]? = if x = b then some (Obj.map es' c') else w.heap[x]? := fun x => by
  show (w.heap.setIfInBounds b _)[x]? = _
  rw [Array.getElem?_setIfInBounds]
  by_cases e : b = x
  ·subst e; simp [hlt]
  ·simp [e, Ne.symm e]
 have hb : (putMap w b es' c').heap[b]? = some (Obj.map es' c') := by rw [hat, if_pos rfl]
 refine ⟨⟨fun x o => ?_, fun x o => ?_, by show _ <= (w.heap.setIfInBounds b _).size; simp, fun n x hu => ?_, fun x _ hx => by rw [hat, if_neg hx], rfl, rfl⟩, hb⟩
 ·by_cases e : x = b
  ·subst e; rw [(at_map hb o).1, (at_map h o).1]
  ·unfold World.cell? ad; simp only [hat, e, if_false]
 ·by_cases e : x = b
  ·subst e; rw [(at_map hb o).2, (at_map h o).2]
  ·unfold World.frozen? ad; simp only [hat, e, if_false]
 ·obtain ⟨C, e', fr, h1, h2⟩ := hu
  refine ⟨C, e', fr, ?_, h2⟩
  rw [hat, if_neg (fun e => by subst e; rw [h] at h1; cases h1)]; exact h1
def bornM (g : G) (hp : Hp) (b : Nat) : G := ⟨g.κ, fun id => if id = hp.next then .mlive b else g.lf id⟩
theorem MemR.newMap {E : Ent} {g : G} {ν : Nat -> Option Nat} {lo : Lo} {hp : Hp} {w : World} (h : MemR E g ν lo hp w) (n : Nat) :
  MemR E (bornM g hp w.heap.size) ν lo (hnew hp ⟨n, false, []⟩) (w.alloc (.map #[] 0)) /\ GLe g (bornM g hp w.heap.size) := by
 have mo := maps_alloc w #[] 0
 have hle : GLe g (bornM g hp w.heap.size) := ⟨fun _ _ _ x => x, fun id => by
  by_cases e : id = hp.next
  ·rw [h.hr.unb id (by omega)]; trivial
  ·simp only [bornM, e, if_false]; cases g.lf id <;> simp [Life.le]⟩
 have hl : ∀ id r, (bornM g hp w.heap.size).lf id = .live r -> id ≠ hp.next /\ g.lf id = .live r := fun id r x => by
  simp only [bornM] at x
  split at x
  ·cases x
  ·exact ⟨‹_›, x⟩
 have hlm : ∀ id b, (bornM g hp w.heap.size).lf id = .mlive b -> (id = hp.next /\ b = w.heap.size) \/ (id ≠ hp.next /\ g.lf id = .mlive b) := fun id b x => by
  simp only [bornM] at x
  split at x
  ·cases x; exact .inl ⟨‹_›, rfl⟩
  ·exact .inr ⟨‹_›, x⟩
 have hmb : ∀ id b, g.lf id = .mlive b -> b < w.heap.size := fun id b x => by
  obtain ⟨bk, _, ⟨_, es, c, q, _⟩⟩ := h.hr.mp.live id b x
  exact (Array.getElem?_eq_some_iff.1 q).1
 have hown : ∀ b o, Own (bornM g hp w.heap.size) (hnew hp ⟨n, false, []⟩) b o -> Own g hp b o := by
  intro b o ⟨id, r, bk, k, x, y, z⟩
  obtain ⟨h1, h2⟩ := hl id r x
  rw [hget_hnew, if_neg h1] at y
  exact ⟨id, r, bk, k, h2, y, z⟩
 have hnx : (w.alloc (.map #[] 0)).heap[w.heap.size]? = some (.map #[] 0) := by show (w.heap.push _)[w.heap.size]? = _; simp
 refine ⟨⟨⟨⟨fun id b x => ?_, fun id id' b hne x x' => ?_⟩, by simp only [hnew]; have := h.hr.lim; omega, fun id hid => by
   simp only [hnew] at hid
   rw [hget_hnew, if_neg (by omega)]; exact h.hr.nil id (by omega), fun id hid => by
   simp only [hnew] at hid
   simp only [bornM]; split
   ·simp
   ·exact h.hr.bnd id (by omega), fun b o v x => by rw [mo.cell]; exact h.hr.kap b o v x, fun id hid => by
   simp only [hnew] at hid
   simp only [bornM, show id ≠ hp.next by omega, if_false]; exact h.hr.unb id (by omega), fun id x => ?_, fun id r x => ?_, fun id id' r1 r2 b1 b2 hne x x' y y' z z' => ?_⟩, ⟨fun t cs b x h1 => ?_, h.lo.inj⟩, h.evo.trans ⟨hle, by simp [hnew], rfl, fun id hid => by rw [hget_hnew, if_neg (by have := h.hr.lim; omega)], mo.size, fun b o v x _ => by rw [mo.cell]; exact x, fun b o v x _ => mo.frozen b o, fun b o x => .inl (hown b o x), fun _ _ _ x => .inl x, mo.os, mo.unf 1, fun b hb _ _ => mo.heap b hb (fun x => x), fun b ⟨id, x⟩ => ?_⟩⟩, hle⟩
 ·rcases hlm id b x with ⟨rfl, rfl⟩ | ⟨h1, h2⟩
  ·exact ⟨⟨n, false, []⟩, by rw [hget_hnew, if_pos rfl], rfl, #[], 0, hnx, rfl, fun i x hx => by simp at hx⟩
  ·obtain ⟨bk, k1, ⟨k3, es, c, k4, k5, k6⟩⟩ := h.hr.mp.live id b h2
   refine ⟨bk, by rw [hget_hnew, if_neg h1]; exact k1, k3, es, c, by rw [mo.heap b (hmb id b h2) (fun x => x)]; exact k4, k5, fun i x hx => ?_⟩
   obtain ⟨l, v, en, q1, q2, q3, q4, q6⟩ := k6 i x hx
   exact ⟨l, v, en, q1, q2, q3, q4, q6.mono hle⟩
 ·rcases hlm id b x with ⟨e1, e2⟩ | ⟨h1, h2⟩
  ·rcases hlm id' b x' with ⟨e1', _⟩ | ⟨h1', h2'⟩
   ·exact hne (e1.trans e1'.symm)
   ·have := hmb id' b h2'; omega
  ·rcases hlm id' b x' with ⟨e1', e2'⟩ | ⟨h1', h2'⟩
   ·have := hmb id b h2; omega
   ·exact h.hr.mp.sep id id' b hne h2 h2'
 ·simp only [bornM] at x
  split at x
  ·cases x
  ·rename_i e; rw [hget_hnew, if_neg e]; exact h.hr.dead id x
 ·obtain ⟨h1, h2⟩ := hl id r x
  obtain ⟨bk, k1, k2⟩ := h.hr.live id r h2
  exact ⟨bk, by rw [hget_hnew, if_neg h1]; exact k1, k2.grow hle (fun _ _ _ y => by rw [mo.cell]; exact y) (fun _ _ _ _ => mo.frozen _ _) (fun _ _ y _ => y) (fun _ _ => mo.unf _ _)⟩
 ·obtain ⟨h1, h2⟩ := hl id r1 x
  obtain ⟨h1', h2'⟩ := hl id' r2 x'
  rw [hget_hnew, if_neg h1] at y
  rw [hget_hnew, if_neg h1'] at y'
  exact h.hr.sep id id' r1 r2 b1 b2 hne h2 h2' y y' z z'
 ·obtain ⟨h2, h3, h4, h5, h6⟩ := h.lo.box t cs b x h1
  exact ⟨h2.grow hle (fun _ _ y => by rw [mo.cell]; exact y) (fun _ _ _ => mo.frozen _ _), h3, fun o y => h4 o (hown b o y), h5, mo.unf _ _ h6⟩
 ·rcases hlm id b x with ⟨_, rfl⟩ | ⟨_, h2⟩
  ·exact .inr (Nat.le_refl _)
  ·exact .inl ⟨id, h2⟩
theorem MemR.setMap {E : Ent} {g : G} {ν : Nat -> Option Nat} {lo : Lo} {hp : Hp} {w : World} (h : MemR E g ν lo hp w) {id b : Nat} {bk bk' : Bk} (hl : g.lf id = .mlive b) (hb : hget hp id = some bk) (hlim : hp.lim <= id)
  {es' : Array MapEntry} {c' : Nat} (hm : MpR g (putMap w b es' c') b bk') : MemR E g ν lo (hset hp id (some bk')) (putMap w b es' c') := by
 obtain ⟨bk0, k1, ⟨_, es, c, k4, _⟩⟩ := h.hr.mp.live id b hl
 obtain ⟨mo, _⟩ := maps_put (es' := es') (c' := c') k4
 have hgets : ∀ j, hget (hset hp id (some bk')) j = if j = id then some bk' else hget hp j := hget_hset hp id _
 have hne : ∀ j r, g.lf j = .live r -> j ≠ id := fun j r x e => by subst e; rw [hl] at x; cases x
 have hown : ∀ b o, Own g (hset hp id (some bk')) b o -> Own g hp b o := by
  intro b o ⟨j, r, bk, k, x, y, z⟩
  rw [hgets, if_neg (hne j r x)] at y
  exact ⟨j, r, bk, k, x, y, z⟩
 refine ⟨⟨⟨fun j b2 x => ?_, h.hr.mp.sep⟩, h.hr.lim, fun j x => ?_, h.hr.bnd, fun b o v x => by rw [mo.cell]; exact h.hr.kap b o v x, h.hr.unb, fun j x => ?_, fun j r x => ?_, fun j j' r1 r2 b1 b2 hne' x x' y y' z z' => ?_⟩, ⟨fun t cs b x h1 => ?_, h.lo.inj⟩, h.evo.trans ⟨GLe.refl g, Nat.le_refl _, rfl, fun j hj => by rw [hgets, if_neg (by omega)], mo.size, fun b o v x _ => by rw [mo.cell]; exact x, fun b o v x _ => mo.frozen b o, fun b o x => .inl (hown b o x), fun _ _ _ x => .inl x, mo.os, mo.unf 1, fun b' hb' _ hn => mo.heap b' hb' (fun e => hn ⟨id, by rw [e]; exact hl⟩), fun _ x => .inl x⟩⟩
 ·by_cases e : j = id
  ·subst e; rw [hl] at x; cases x
   exact ⟨bk', by rw [hgets, if_pos rfl], hm⟩
  ·have hbb : b2 ≠ b := fun q => h.hr.mp.sep j id b2 e x (by rw [q]; exact hl)
   obtain ⟨bk2, q1, ⟨q3, es2, c2, q4, q5, q6⟩⟩ := h.hr.mp.live j b2 x
   exact ⟨bk2, by rw [hgets, if_neg e]; exact q1, q3, es2, c2, by rw [mo.heap b2 (Array.getElem?_eq_some_iff.1 q4).1 hbb]; exact q4, q5, q6⟩
 ·have : j ≠ id := fun e => by subst e; rw [h.hr.nil _ x] at hb; cases hb
  rw [hgets, if_neg this]; exact h.hr.nil j x
 ·have : j ≠ id := fun e => by subst e; rw [hl] at x; cases x
  rw [hgets, if_neg this]; exact h.hr.dead j x
 ·obtain ⟨bk, k1, k2⟩ := h.hr.live j r x
  exact ⟨bk, by rw [hgets, if_neg (hne j r x)]; exact k1, k2.grow (GLe.refl g) (fun _ _ _ y => by rw [mo.cell]; exact y) (fun _ _ _ _ => mo.frozen _ _) (fun _ _ y _ => y) (fun _ _ => mo.unf _ _)⟩
 ·rw [hgets, if_neg (hne j r1 x)] at y
  rw [hgets, if_neg (hne j' r2 x')] at y'
  exact h.hr.sep j j' r1 r2 b1 b2 hne' x x' y y' z z'
 ·obtain ⟨h2, h3, h4, h5, h6⟩ := h.lo.box t cs b x h1
  exact ⟨h2.grow (GLe.refl g) (fun _ _ y => by rw [mo.cell]; exact y) (fun _ _ _ => mo.frozen _ _), h3, fun o y => h4 o (hown b o y), h5, mo.unf _ _ h6⟩
theorem find_map {g : G} {s : ByteArray} {l : List Nat} (hs : s.data.toList.map UInt8.toNat = l) : ∀ (rows : List (List V)) (es : List MapEntry) (n : Nat), es.length = rows.length ->
  (∀ (i : Nat) (x : List V), rows[i]? = some x -> ∃ (l : List Nat) (v : V) (e : MapEntry) (s : ByteArray), x = [.st l, v] /\ v.keep = true /\ es[i]? = some e /\ e.key = .string s /\ s.data.toList.map UInt8.toNat = l /\ RepA g v e.val) ->
  (mapGet l rows = none /\ Instr.findNow .string (.string s) es n = some none /\ ∀ v, mapPut l v rows = rows ++ [[.st l, v]]) \/
  (∃ (i : Nat) (u : V) (e : MapEntry) (sk : ByteArray), mapGet l rows = some u /\ rows[i]? = some [.st l, u] /\ es[i]? = some e /\ e.key = .string sk /\ sk.data.toList.map UInt8.toNat = l /\ RepA g u e.val /\ u.keep = true /\ Instr.findNow .string (.string s) es n = some (some (n + i, e.val)) /\ ∀ v, mapPut l v rows = rows.set i [.st l, v]) := by
 intro rows
 induction rows with
 | nil =>
  intro es n hn _
  have : es = [] := List.eq_nil_of_length_eq_zero hn
  subst this
  exact .inl ⟨rfl, rfl, fun _ => rfl⟩
 | cons x rows ih =>
  intro es n hn h
  cases es with
  | nil => simp at hn
  | cons e es =>
   obtain ⟨k, v, e', sk, q1, q2, q3, q4, q5, q6⟩ := h 0 x rfl
   simp only [List.getElem?_cons_zero, Option.some.injEq] at q3; subst q3; subst q1
   have heq : beqL k l = (sk.data.toList == s.data.toList) := by rw [<- q5, <- hs, beqL_bytes]
   have hnow : Instr.sameNow .string (.string s) e.key = some (beqL k l) := by
    rw [q4, heq]
    simp only [Instr.sameNow]
    congr 1
    rw [beq_toListBytes, ByteArray.toList_eq, ByteArray.toList_eq]
    rw [Bool.eq_iff_iff]; simp only [beq_iff_eq]; exact ⟨fun h => h.symm, fun h => h.symm⟩
   cases hk : beqL k l with
   | true =>
    have hkl : k = l := by rw [beqL_eq] at hk; simpa using hk
    subst hkl
    refine .inr ⟨0, v, e, sk, by simp [mapGet, hk], rfl, rfl, q4, q5, q6, q2, ?_, fun u => by simp [mapPut, hk]⟩
    simp only [Instr.findNow, hnow, hk, Nat.add_zero]
   | false =>
    rcases ih es (n + 1) (by simpa using hn) (fun i x hx => by simpa using h (i + 1) x (by simpa using hx)) with ⟨a1, a2, a3⟩ | ⟨i, u, e2, sk2, a1, a2, a3, a4, a5, a6, a7, a8, a9⟩
    ·exact .inl ⟨by simp [mapGet, hk, a1], by simp [Instr.findNow, hnow, hk, a2], fun v' => by simp [mapPut, hk, a3]⟩
    ·exact .inr ⟨i + 1, u, e2, sk2, by simp [mapGet, hk, a1], by simpa using a2, by simpa using a3, a4, a5, a6, a7, by simp only [Instr.findNow, hnow, hk, a8]; rw [show n + 1 + i = n + (i + 1) by omega], fun v' => by simp [mapPut, hk, a9]⟩
section
variable {e : Env}
theorem mapOk_inv {P : Program} {t : TypeId} (h : mapOk P t = true) : ∃ k el, P.underlying t = some (.map k el) /\ P.underlying k = some .string := by
 unfold mapOk at h
 split at h
 ·rename_i k el hu
  split at h
  ·rename_i hk; exact ⟨k, el, hu, hk⟩
  ·cases h
 ·cases h
theorem str_row {g : G} {n : Nat} {x : List V} {oe : Option MapEntry} (hn : n = 2) (h : ∃ (l : List Nat) (v : V) (e : MapEntry), x = [.st l, v] /\ v.keep = true /\ oe = some e /\ KeyR n l e.key /\ RepA g v e.val) :
  ∃ (l : List Nat) (v : V) (e : MapEntry) (s : ByteArray), x = [.st l, v] /\ v.keep = true /\ oe = some e /\ e.key = .string s /\ s.data.toList.map UInt8.toNat = l /\ RepA g v e.val := by
 obtain ⟨l, v, e, q1, q2, q3, q4, q5⟩ := h
 rcases q4 with ⟨_, s, k1, k2⟩ | ⟨k0, k, _⟩
 ·exact ⟨l, v, e, s, q1, q2, q3, k1, k2, q5⟩
 ·omega
theorem ok_mmk (h : e.St) {t : TypeId} (ho : e.o.op = .makeMap t none) (us : List Nat) (d : Nat) : Res e (iMmk us e.clr d e.st) := by
 obtain ⟨h1, h2⟩ := h.mem.newMap 2
 refine .out (.value (.map (some e.w.heap.size)) _ (by simp [execOp, ho, Instr.makeMap, newObj, Sem.run])) ⟨rfl, h1, h2, .inl rfl, .ofA (.mp _ _ (.inr (by simp [bornM]))), fun _ _ _ _ x => by cases x⟩
theorem run_checkKey {P : Program} {w : World} {k : TypeId} (hk : P.underlying k = some .string) (em : Bool) (s : ByteArray) : (Instr.checkKey em 10000 k (.string s)).run P w = .ok () w := by
 have key : ∀ n, (Instr.checkKey em (n + 1) k (.string s)).run P w = .ok () w := fun n => by simp [Instr.checkKey, run_underlying hk]
 exact key 9999
theorem run_getMap {P : Program} {w : World} {b : Nat} {es : Array MapEntry} {c : Nat} (h : w.heap[b]? = some (Obj.map es c)) : (getObj b).run P w = .ok (.map es c) w := by
 simp only [getObj, Sem.run, h]
theorem run_setMap {P : Program} {w : World} {b : Nat} {es es' : Array MapEntry} {c c' : Nat} (h : w.heap[b]? = some (Obj.map es c)) : (setObj b (.map es' c')).run P w = .ok () (putMap w b es' c') := by
 simp only [setObj, Sem.run, h]
 rfl
theorem run_find {P : Program} {w : World} {k : TypeId} (hk : P.underlying k = some .string) {s : ByteArray} {es : List MapEntry} {r : Option (Nat × Value)} (h : Instr.findNow .string (.string s) es 0 = some r) : (Instr.findKey k (.string s) es).run P w = .ok r w := by
 simp [Instr.findKey, run_underlying hk, h]
theorem same_str {a b : ByteArray} (h : a.data.toList.map UInt8.toNat = b.data.toList.map UInt8.toNat) : a = b := by
 have h1 : (a.data.toList == b.data.toList) = true := by rw [<- beqL_bytes, beqL_eq, h]; simp
 have h2 : a.data.toList = b.data.toList := by simpa using h1
 cases a; cases b; congr 1; exact Array.ext' h2
theorem run_stays {P : Program} {w : World} (s : ByteArray) : (Instr.keyThatStays (.string s) (.string s)).run P w = .ok (.string s) w := by
 have : Instr.sameBits 10000 (.string s) (.string s) = true := by
  show (s == s) = true
  rw [beq_toListBytes]; simp
 simp [Instr.keyThatStays, this]
theorem ok_mlk (h : e.St) {t key el : TypeId} {ok : Bool} {z : V} {x i : Operand} {xa ia : A} (hm : mapOk e.P t = true) (hu : e.P.underlying t = some (.map key el)) (hz : zeroV e.P el = some z) (hx : cA x = some xa) (hi : cA i = some ia) (ho : e.o.op = .lookup t x i ok) (us : List Nat) (d : Nat) :
  Res e (iMlk ok z xa ia us e.clr d e.st) := by
 obtain ⟨k', el', hu', hks⟩ := mapOk_inv hm
 rw [hu] at hu'; cases hu'
 have hrx := h.rep hx
 have hri := h.rep hi
 unfold zeroV at hz
 cases hinf : e.P.info? el with
 | none => simp [hinf] at hz
 | some inf =>
 cases hzz : inf.zero with
 | none => simp [hinf, hzz] at hz
 | some zv =>
 simp only [hinf, hzz, Option.bind_some] at hz
 obtain ⟨z1, z2, _⟩ := ofVal_rep (g := e.g) hz
 have hzero := run_zero hinf hzz e.w
 have pair : ∀ {u : V} {cv : Value} (b : Bool), RepA e.g u cv -> isLp u = false -> RepA e.g (.tu [u, .bo b]) (.tuple #[cv, .bool b]) := fun {u cv} b hr hlu => by
  refine .tu _ _ rfl (fun x hx => by simp only [List.mem_cons, List.not_mem_nil, or_false] at hx; rcases hx with rfl | rfl <;> first | exact hlu | rfl) fun j c hc => ?_
  match j with
  | 0 => simp only [List.getElem?_cons_zero, Option.some.injEq] at hc; subst hc; exact hr
  | 1 => simp only [List.getElem?_cons_succ, List.getElem?_cons_zero, Option.some.injEq] at hc; subst hc; exact .c _ _ (.bo b)
  | j + 2 => simp at hc
 show Res e (fun k kp => iMlk ok z xa ia us e.clr d e.st k kp)
 simp only [iMlk]
 cases hgi : get e.st.tm ia with
 | st l =>
  rw [hgi] at hri
  obtain ⟨s, hs, hl⟩ := RepA.st_inv hri
  cases hgx : get e.st.tm xa with
  | nm =>
   rw [hgx] at hrx
   have hxv := RepA.nm_inv hrx
   have hf : Instr.findNow .string (.string s) ([] : List MapEntry) 0 = some none := rfl
   cases ok with
   | true => exact Res.val h (cv := .tuple #[zv, .bool false]) (by simp [execOp, ho, Instr.lookup, run_underlying hu, hxv, hs, run_checkKey hks, run_find hks hf, hzero]) (pair false z1 z2) rfl
   | false => exact Res.val h (cv := zv) (by simp [execOp, ho, Instr.lookup, run_underlying hu, hxv, hs, run_checkKey hks, run_find hks hf, hzero]) z1 z2
  | mp id =>
   rw [hgx] at hrx
   simp only []
   cases hb : hget e.st.hp id with
   | none => exact .bad fun _ _ => rfl
   | some bk =>
    simp only []
    obtain ⟨b, hxv, hlf⟩ := RepA.mp_inv hrx
    rcases hlf with hd | hlf
    ·have := h.mem.hr.dead id hd; rw [hb] at this; cases this
    obtain ⟨bk', k1, ⟨_, es, c, k4, k5, k6⟩⟩ := h.mem.hr.mp.live id b hlf
    rw [hb] at k1; cases k1
    have hg := run_getMap (P := e.P) k4
    refine Res.bif (F := fun k _ => mgetD ok z bk.es l e.st k) (G := fun _ _ => .bad) (fun hsz => ?_) (fun _ => .bad fun _ _ => rfl)
    have hsz := Nat.eq_of_beq_eq_true hsz
    rcases find_map hl bk.es es.toList 0 (by simpa using k5) (fun i x hx => by simpa using str_row hsz (k6 i x hx)) with ⟨a1, a2, _⟩ | ⟨j, u, en, sk, a1, _, _, _, _, a6, a7, a8, _⟩
    ·simp only [mgetD, a1]
     cases ok with
     | true => exact Res.val h (cv := .tuple #[zv, .bool false]) (by simp [execOp, ho, Instr.lookup, run_underlying hu, hxv, hs, hg, run_checkKey hks, run_find hks a2, hzero]) (pair false z1 z2) rfl
     | false => exact Res.val h (cv := zv) (by simp [execOp, ho, Instr.lookup, run_underlying hu, hxv, hs, hg, run_checkKey hks, run_find hks a2, hzero]) z1 z2
    ·simp only [mgetD, a1]
     have hul : isLp u = false := by cases u <;> first | rfl | simp [V.keep] at a7
     cases ok with
     | true => exact Res.val h (cv := .tuple #[en.val, .bool true]) (by simp [execOp, ho, Instr.lookup, run_underlying hu, hxv, hs, hg, run_checkKey hks, run_find hks a8]) (pair true a6 hul) rfl
     | false => exact Res.val h (cv := en.val) (by simp [execOp, ho, Instr.lookup, run_underlying hu, hxv, hs, hg, run_checkKey hks, run_find hks a8]) a6 hul
  | _ => exact .bad fun _ _ => rfl
 | _ => exact .bad fun _ _ => rfl
theorem ok_mup (h : e.St) {t : TypeId} {x i v : Operand} {xa ia va : A} (hm : mapOk e.P t = true) (hx : cA x = some xa) (hi : cA i = some ia) (hv : cA v = some va) (ho : e.o.op = .mapUpdate t x i v) (us : List Nat) (d : Nat) :
  Res e (iMup xa ia va us e.clr d e.st) := by
 obtain ⟨key, el, hu, hks⟩ := mapOk_inv hm
 have hrx := h.rep hx
 have hri := h.rep hi
 have hrv := h.rep hv
 show Res e (fun k kp => iMup xa ia va us e.clr d e.st k kp)
 simp only [iMup]
 cases hgi : get e.st.tm ia with
 | st l =>
  rw [hgi] at hri
  obtain ⟨s, hs, hl⟩ := RepA.st_inv hri
  cases hgx : get e.st.tm xa with
  | mp id =>
   rw [hgx] at hrx
   simp only []
   cases hb : hget e.st.hp id with
   | none => exact .bad fun _ _ => rfl
   | some bk =>
    simp only []
    refine Res.bif (F := fun k _ => bif Nat.blt id e.st.hp.lim then .bad else bif freshH us e.st.tm id then bif (get e.st.tm va).keep then k .un (e.st.setHp (hset e.st.hp id (some ⟨2, false, mapPut l (get e.st.tm va) bk.es⟩))) else .bad else .bad) (G := fun _ _ => .bad) (fun hsz => ?_) (fun _ => .bad fun _ _ => rfl)
    have hsz := Nat.eq_of_beq_eq_true hsz
    refine Res.bif (F := fun _ _ => .bad) (G := fun k _ => bif freshH us e.st.tm id then bif (get e.st.tm va).keep then k .un (e.st.setHp (hset e.st.hp id (some ⟨2, false, mapPut l (get e.st.tm va) bk.es⟩))) else .bad else .bad) (fun _ => .bad fun _ _ => rfl) (fun hlim => ?_)
    refine Res.bif (F := fun k _ => bif (get e.st.tm va).keep then k .un (e.st.setHp (hset e.st.hp id (some ⟨2, false, mapPut l (get e.st.tm va) bk.es⟩))) else .bad) (G := fun _ _ => .bad) (fun hfr => ?_) (fun _ => .bad fun _ _ => rfl)
    refine Res.bif (F := fun k _ => k .un (e.st.setHp (hset e.st.hp id (some ⟨2, false, mapPut l (get e.st.tm va) bk.es⟩)))) (G := fun _ _ => .bad) (fun hkp => ?_) (fun _ => .bad fun _ _ => rfl)
    have hlim' : e.st.hp.lim <= id := by
     have : ¬ id < e.st.hp.lim := fun q => by rw [show Nat.blt id e.st.hp.lim = true from by simpa [Nat.blt_eq] using q] at hlim; cases hlim
     omega
    obtain ⟨b, hxv, hlf⟩ := RepA.mp_inv hrx
    rcases hlf with hd | hlf
    ·have := h.mem.hr.dead id hd; rw [hb] at this; cases this
    obtain ⟨bk', k1, ⟨k3, es, c, k4, k5, k6⟩⟩ := h.mem.hr.mp.live id b hlf
    rw [hb] at k1; cases k1
    have hg := run_getMap (P := e.P) k4
    have hul : isLp (get e.st.tm va) = false := by cases hq : get e.st.tm va <;> first | rfl | (rw [hq] at hkp; simp [V.keep] at hkp)
    have hrv' := hrv.toA hul
    rcases find_map hl bk.es es.toList 0 (by simpa using k5) (fun i x hx => by simpa using str_row hsz (k6 i x hx)) with ⟨a1, a2, a3⟩ | ⟨j, u, en, sk, a1, a2, a3, a4, a5, a6, a7, a8, a9⟩
    ·have hset := run_setMap (P := e.P) (es' := es.push ⟨.string s, e.a.eval v, c⟩) (c' := c + 1) k4
     have hheap := (maps_put (es' := es.push ⟨.string s, e.a.eval v, c⟩) (c' := c + 1) k4).2
     have hmem := h.mem.setMap (es' := es.push ⟨.string s, e.a.eval v, c⟩) (c' := c + 1) (bk' := ⟨2, false, mapPut l (get e.st.tm va) bk.es⟩) hlf hb hlim' (by
      refine ⟨rfl, _, _, hheap, by rw [a3]; simp [k5], fun j x hx => ?_⟩
      rw [a3] at hx
      by_cases hj : j < bk.es.length
      ·rw [List.getElem?_append_left hj] at hx
       obtain ⟨l', v', en', q1, q2, q3, q4, q5⟩ := k6 j x hx
       exact ⟨l', v', en', q1, q2, by rw [Array.getElem?_push, if_neg (by omega)]; exact q3, by rw [hsz] at q4; exact q4, q5⟩
      ·rw [List.getElem?_append_right (by omega)] at hx
       have hj0 : j - bk.es.length = 0 := by
        cases hq : j - bk.es.length with
        | zero => rfl
        | succ n => rw [hq] at hx; simp at hx
       rw [hj0] at hx
       simp only [List.getElem?_cons_zero, Option.some.injEq] at hx; subst hx
       exact ⟨l, get e.st.tm va, ⟨.string s, e.a.eval v, c⟩, rfl, hkp, by rw [Array.getElem?_push, if_pos (by omega)], .inl ⟨rfl, s, rfl, hl⟩, hrv'⟩)
     exact .out (.skip _ (by simp [execOp, ho, Instr.mapUpdate, run_underlying hu, hxv, hs, hg, run_checkKey hks, run_find hks a2, hset])) ⟨rfl, hmem, GLe.refl _, .inl rfl, .ofA (.un _), fun _ _ _ _ x => by cases x⟩
    ·have hsk : sk = s := same_str (a5.trans hl.symm)
     subst hsk
     simp only [Array.getElem?_toList] at a3
     have hkey : ((es[j]?).map (·.key)).getD (.string sk) = .string sk := by rw [a3]; simp [a4]
     have hset := run_setMap (P := e.P) (es' := es.modify j fun e' => { e' with key := .string sk, val := e.a.eval v }) (c' := c) k4
     have hheap := (maps_put (es' := es.modify j fun e' => { e' with key := .string sk, val := e.a.eval v }) (c' := c) k4).2
     have hmem := h.mem.setMap (es' := es.modify j fun e' => { e' with key := .string sk, val := e.a.eval v }) (c' := c) (bk' := ⟨2, false, mapPut l (get e.st.tm va) bk.es⟩) hlf hb hlim' (by
      refine ⟨rfl, _, _, hheap, by rw [a9]; simp [k5], fun j' x hx => ?_⟩
      rw [a9, List.getElem?_set] at hx
      by_cases hj : j = j'
      ·subst hj
       have : j < bk.es.length := (List.getElem?_eq_some_iff.1 a2).1
       simp only [if_true, this, Option.some.injEq] at hx; subst hx
       exact ⟨l, get e.st.tm va, { en with key := .string sk, val := e.a.eval v }, rfl, hkp, by simp [Array.getElem?_modify, a3], .inl ⟨rfl, sk, rfl, hl⟩, hrv'⟩
      ·rw [if_neg hj] at hx
       obtain ⟨l', v', en', q1, q2, q3, q4, q5⟩ := k6 j' x hx
       exact ⟨l', v', en', q1, q2, by simp [Array.getElem?_modify, hj, q3], by rw [hsz] at q4; exact q4, q5⟩)
     exact .out (.skip _ (by simp [execOp, ho, Instr.mapUpdate, run_underlying hu, hxv, hs, hg, run_checkKey hks, run_find hks a8, hkey, run_stays, hset])) ⟨rfl, hmem, GLe.refl _, .inl rfl, .ofA (.un _), fun _ _ _ _ x => by cases x⟩
  | _ => exact .bad fun _ _ => rfl
 | _ => exact .bad fun _ _ => rfl
theorem ixb_find {fn : Func} (hn : fn.name = "internal/bytealg.IndexByteString") : Extern.find fn = some Extern.BytealgIndexByte.indexByte := by
 have a : Extern.allGenericRows.lookup "internal/bytealg.IndexByteString" = none := by kernel_rfl
 have b : Extern.allTypedRows.lookup "internal/bytealg.IndexByteString" = none := by kernel_rfl
 have c : Extern.allRows.lookup "internal/bytealg.IndexByteString" = some Extern.BytealgIndexByte.indexByte := by kernel_rfl
 unfold Extern.find
 simp only [hn, a, b, c]
 rfl
theorem idxB_eq (c : UInt8) : ∀ l : List UInt8, idxB c.toNat (l.map UInt8.toNat) = Lib.indexByte l c
 | [] => rfl
 | b :: r => by
  have hb : Nat.beq b.toNat c.toNat = (b == c) := by
   rw [Bool.eq_iff_iff, Nat.beq_eq, beq_iff_eq]
   exact ⟨fun h => UInt8.toNat_inj.1 h, fun h => by rw [h]⟩
  have ih := idxB_eq c r
  have hge := Lib.indexByte_ge r c
  simp only [List.map_cons, idxB, Lib.indexByte, hb, ih]
  cases b == c with
  | true => rfl
  | false =>
   simp only [cond_false, Bool.false_eq_true, if_false]
   cases hq : Lib.indexByte r c with
   | ofNat n =>
    have : (Int.ofNat n == -1) = false := by simp
    simp only [this, Bool.false_eq_true, if_false]
    rfl
   | negSucc n =>
    rw [hq] at hge
    have : n = 0 := by omega
    subst this
    rfl
theorem ok_ixb (h : e.St) {c : Go.Call} {f : FuncId} {xa ya : A} (hf : isIxb e.P f = true) (hcal : c.callee = .value (.func f)) (ha : allSome cA c.args.toList = some [xa, ya]) (ho : e.o.op = .call c) (us : List Nat) (d : Nat) :
  Res e (iIxb xa ya us e.clr d e.st) := by
 obtain ⟨x, y, hargs, hx, hy⟩ := args2 ha
 have hrx := h.rep hx
 have hry := h.rep hy
 unfold isIxb at hf
 cases hfn : e.P.funcs[f]? with
 | none => simp [hfn] at hf
 | some fn =>
 cases hbd : fn.body with
 | some b => simp [hfn, hbd] at hf
 | none =>
 simp only [hfn, hbd, Bool.and_eq_true, beq_iff_eq, Option.isNone_iff_eq_none] at hf
 obtain ⟨hn, hnx⟩ := hf
 show Res e (fun k kp => iIxb xa ya us e.clr d e.st k kp)
 simp only [iIxb]
 cases hgx : get e.st.tm xa with
 | st l =>
  rw [hgx] at hrx
  obtain ⟨s, hs, hl⟩ := RepA.st_inv hrx
  cases hgy : get e.st.tm ya with
  | it k n =>
   rw [hgy] at hry
   cases k with
   | u8 =>
    have hyv := RepA.it_inv hry
    have hrun : (execOp e.a.eval e.o).run e.P e.w = .ok (.value (.int .i64 (idxB (n.toNat % 256) l))) e.w := by
     simp only [execOp, ho, resolve, hcal, Deferred.ofValue, Sem.run_bind, Act.eval, Sem.run_pure, Result.andThen_ok, invoke]
     have hname : (fn.name == "runtime.NumGoroutine") = false := by rw [hn]; decide
     have hrc := run_callFunc_extern (P := e.P) hfn hname (by simp [hbd]) hnx (ixb_find hn) #[.string s, .int .u8 n] e.w
     rw [Lib.run_indexByteString] at hrc
     have hi : idxB (n.toNat % 256) l = Lib.indexByte s.data.toList n.toNat.toUInt8 := by
      rw [<- idxB_eq, hl]
      congr 1
     rw [hi, hargs]
     simp only [List.map_toArray, List.map_cons, List.map_nil, hs, hyv, Array.append_empty, Array.empty_append]
     simpa using hrc
    exact Res.val h hrun (.c _ _ (.it _ _)) rfl
   | _ => exact .bad fun _ _ => rfl
  | _ => exact .bad fun _ _ => rfl
 | _ => exact .bad fun _ _ => rfl
theorem ctb_find {fn : Func} (hn : fn.name = "internal/bytealg.CountString") : Extern.find fn = some Extern.BytealgCount.count := by
 have a : Extern.allGenericRows.lookup "internal/bytealg.CountString" = none := by kernel_rfl
 have b : Extern.allTypedRows.lookup "internal/bytealg.CountString" = none := by kernel_rfl
 have c : Extern.allRows.lookup "internal/bytealg.CountString" = some Extern.BytealgCount.count := by kernel_rfl
 unfold Extern.find
 simp only [hn, a, b, c]
 rfl
theorem cntB_eq (c : UInt8) : ∀ l : List UInt8, cntB c.toNat (l.map UInt8.toNat) = Lib.countByte l c
 | [] => rfl
 | b :: r => by
  have hb : Nat.beq b.toNat c.toNat = (b == c) := by
   rw [Bool.eq_iff_iff, Nat.beq_eq, beq_iff_eq]
   exact ⟨fun h => UInt8.toNat_inj.1 h, fun h => by rw [h]⟩
  have ih := cntB_eq c r
  unfold Lib.countByte at ih ⊢
  rw [List.count_cons]
  simp only [List.map_cons, cntB, hb, ih]
  cases b == c <;> rfl
theorem ok_ctb (h : e.St) {c : Go.Call} {f : FuncId} {xa ya : A} (hf : isCtb e.P f = true) (hcal : c.callee = .value (.func f)) (ha : allSome cA c.args.toList = some [xa, ya]) (ho : e.o.op = .call c) (us : List Nat) (d : Nat) :
  Res e (iCtb xa ya us e.clr d e.st) := by
 obtain ⟨x, y, hargs, hx, hy⟩ := args2 ha
 have hrx := h.rep hx
 have hry := h.rep hy
 unfold isCtb at hf
 cases hfn : e.P.funcs[f]? with
 | none => simp [hfn] at hf
 | some fn =>
 cases hbd : fn.body with
 | some b => simp [hfn, hbd] at hf
 | none =>
 simp only [hfn, hbd, Bool.and_eq_true, beq_iff_eq, Option.isNone_iff_eq_none] at hf
 obtain ⟨hn, hnx⟩ := hf
 show Res e (fun k kp => iCtb xa ya us e.clr d e.st k kp)
 simp only [iCtb]
 cases hgx : get e.st.tm xa with
 | st l =>
  rw [hgx] at hrx
  obtain ⟨s, hs, hl⟩ := RepA.st_inv hrx
  cases hgy : get e.st.tm ya with
  | it k n =>
   rw [hgy] at hry
   cases k with
   | u8 =>
    have hyv := RepA.it_inv hry
    have hrun : (execOp e.a.eval e.o).run e.P e.w = .ok (.value (.int .i64 (Int.ofNat (cntB (n.toNat % 256) l)))) e.w := by
     simp only [execOp, ho, resolve, hcal, Deferred.ofValue, Sem.run_bind, Act.eval, Sem.run_pure, Result.andThen_ok, invoke]
     have hname : (fn.name == "runtime.NumGoroutine") = false := by rw [hn]; decide
     have hrc := run_callFunc_extern (P := e.P) hfn hname (by simp [hbd]) hnx (ctb_find hn) #[.string s, .int .u8 n] e.w
     rw [Lib.run_countString] at hrc
     have hi : Int.ofNat (cntB (n.toNat % 256) l) = ((Lib.countByte s.data.toList n.toNat.toUInt8 : Nat) : Int) := by
      rw [<- cntB_eq, hl]
      rfl
     rw [hi, hargs]
     simp only [List.map_toArray, List.map_cons, List.map_nil, hs, hyv, Array.append_empty, Array.empty_append]
     simpa using hrc
    exact Res.val h hrun (.c _ _ (.it _ _)) rfl
   | _ => exact .bad fun _ _ => rfl
  | _ => exact .bad fun _ _ => rfl
 | _ => exact .bad fun _ _ => rfl
end
end Ev
namespace Ev
variable [Glob]
open Go
theorem cHnd_form (P : Program) (o : Oper) : ∃ h xs, cHnd P o = .hnd h xs := by
 exact ⟨_, _, rfl⟩
theorem cIns_not {P : Program} {pol : Pol} {o : Oper} {i : I} (h : cIns P pol o = some i) (hn : ∀ h xs, i ≠ .hnd h xs) : cIns0 P pol o = some i := by
 obtain ⟨hh, xs, hq⟩ := cHnd_form P o
 unfold cIns at h
 split at h
 ·simp only [Option.some.injEq] at h; subst h; exact absurd hq (hn _ _)
 ·split at h
  ·rename_i i' h0
   simp only [Option.some.injEq] at h; subst h; exact h0
  ·simp only [Option.some.injEq] at h; subst h; exact absurd hq (hn _ _)
section
variable {e : Env}
theorem hnd_none {k : Hk} {xs : List A} {us : List Nat} {d : Nat} (h : hndR k (xs.map (get e.st.tm)) e.st.hp = none) : Res e (iHnd k xs us e.clr d e.st) :=
 .bad fun k kp => by simp only [iHnd, h, Ev.oneD]
theorem ok_bad (us : List Nat) (d : Nat) (xs : List A) : Res e (iHnd .bad xs us e.clr d e.st) := hnd_none (by unfold hndR; split <;> first | rfl | simp_all)
theorem ok_hnd (h : e.St) (us : List Nat) (d : Nat) : Res e ((cHnd e.P e.o).den us e.clr d e.st) := ok_bad us d []
end
end Ev
namespace Ev
variable [Glob]
open Go
theorem MemR.promote {E : Ent} {g : G} {ν : Nat -> Option Nat} {lo : Lo} {hp : Hp} {w : World} (h : MemR E g ν lo hp w) {t b : Nat} {cs : List V} (hlt : lo t = some cs) (hbt : ν t = some b) :
  MemR E (born g hp ⟨b, 0, cs.length, 1⟩) ν (lno lo t) (hnew hp ⟨cs.length, false, [cs]⟩) w /\ GLe g (born g hp ⟨b, 0, cs.length, 1⟩) := by
 obtain ⟨x2, x3, x4, x5, x6⟩ := h.lo.box t cs b hlt hbt
 have hle := born_le h.hr ⟨b, 0, cs.length, 1⟩
 have hmono : ∀ {r' bk'}, BkR g w r' bk' -> BkR (born g hp ⟨b, 0, cs.length, 1⟩) w r' bk' := fun z =>
  ⟨z.sz, z.len, z.row, fun i j e c he hc => by obtain ⟨a, cv, b, x⟩ := z.cont i j e c he hc; exact ⟨a, cv, b, x.mono hle⟩, z.rw, z.frz, z.blk⟩
 have hz : BkR (born g hp ⟨b, 0, cs.length, 1⟩) w ⟨b, 0, cs.length, 1⟩ ⟨cs.length, false, [cs]⟩ := by
  refine ⟨rfl, Nat.le_refl _, fun e he => ?_, fun i j e c he hc => ?_, fun _ k hk => ?_, fun q => by simp at q, fun _ _ => ?_⟩
  ·simp only [List.mem_singleton] at he; rw [he]
  ·have hi := lt_of_get he
   have hi0 : i = 0 := by simp at hi; omega
   subst hi0
   simp only [List.getElem?_cons_zero, Option.some.injEq] at he; subst he
   obtain ⟨k, ⟨cv, a, r⟩, _⟩ := x2 j c hc
   refine ⟨k, cv, ?_, r.mono hle⟩
   simp only [Nat.zero_mul, Nat.zero_add]; exact a
  ·simp only [Nat.one_mul] at hk
   obtain ⟨_, ⟨cv, a, _⟩, f⟩ := x2 k (cs[k]'hk) (by rw [List.getElem?_eq_getElem hk])
   simp only [Nat.zero_add]
   exact ⟨⟨cv, a⟩, f, x3 k⟩
  ·obtain ⟨C, e, fr, q1, q2⟩ := x6
   exact ⟨C, e, fr, q1, .inl (q2.resolve_right fun q => by omega)⟩
 have hlive : ∀ id r', (born g hp ⟨b, 0, cs.length, 1⟩).lf id = .live r' -> (id = hp.next /\ r' = ⟨b, 0, cs.length, 1⟩) \/ (id ≠ hp.next /\ g.lf id = .live r') := fun id r' x => by
  simp only [born] at x
  by_cases e : id = hp.next
  ·simp only [e, if_true, Life.live.injEq] at x; exact .inl ⟨e, x.symm⟩
  ·simp only [e, if_false] at x; exact .inr ⟨e, x⟩
 have hapart : ∀ id r' bk', g.lf id = .live r' -> hget hp id = some bk' -> bk'.fr = false -> 0 < r'.cap * r'.sz -> ¬ b = r'.b := fun id r' bk' x y z k q =>
  x4 (r'.base + 0) ⟨id, r', bk', 0, x, y, z, k, q, rfl⟩
 have hbl : ∀ id b', (born g hp ⟨b, 0, cs.length, 1⟩).lf id = .mlive b' -> id ≠ hp.next /\ g.lf id = .mlive b' := fun id b' x => by
  simp only [born] at x
  split at x
  ·cases x
  ·exact ⟨‹_›, x⟩
 have hln : ∀ t' cs', lno lo t t' = some cs' -> t' ≠ t /\ lo t' = some cs' := fun t' cs' x => by
  simp only [lno] at x
  by_cases e : t' = t
  ·subst e; simp at x
  ·simp only [beqF e, cond_false] at x; exact ⟨e, x⟩
 have hln' : ∀ t', lno lo t t' ≠ none -> t' ≠ t /\ lo t' ≠ none := fun t' x => by
  simp only [lno] at x
  by_cases e : t' = t
  ·subst e; simp at x
  ·simp only [beqF e, cond_false] at x; exact ⟨e, x⟩
 refine ⟨⟨⟨h.hr.mp.mono (fun _ _ _ x => x) (fun _ _ x => x.mono hle) (fun id b x => (hbl id b x).2) (fun id b x => by rw [hget_hnew, if_neg (hbl id b x).1]), by have := h.hr.lim; simp only [hnew]; omega, fun id hid => by
   simp only [hnew] at hid
   rw [hget_hnew, if_neg (by omega)]; exact h.hr.nil id (by omega), fun id hid => by
   simp only [hnew] at hid
   simp only [born]; split
   ·simp
   ·exact h.hr.bnd id (by omega), h.hr.kap, fun id hid => ?_, fun id x => ?_, fun id r' x => ?_, fun id id' r1 r2 b1 b2 hne x x' y y' z z' => ?_⟩, ⟨fun t' cs' b' x a1 => ?_, fun t1 t2 b' htt y1 y2 e1 e2 => h.lo.inj t1 t2 b' htt (hln' t1 y1).2 (hln' t2 y2).2 e1 e2⟩, ⟨h.evo.le.trans hle, by have := h.evo.next; simp only [hnew]; omega, h.evo.lim, fun id hid => ?_, h.evo.size, h.evo.cell, h.evo.frozen, fun b' o x => ?_, h.evo.κ, h.evo.wd.1, h.evo.wd.2.1, h.evo.wd.2.2.1, fun b' ⟨id, x⟩ => h.evo.wd.2.2.2 b' ⟨id, (hbl id b' x).2⟩⟩⟩, hle⟩
 ·simp only [hnew] at hid
  simp only [born]; rw [if_neg (by omega)]; exact h.hr.unb id (by omega)
 ·simp only [born] at x
  by_cases e : id = hp.next
  ·simp [e] at x
  ·simp only [e, if_false] at x; rw [hget_hnew, if_neg e]; exact h.hr.dead id x
 ·rcases hlive id r' x with ⟨rfl, rfl⟩ | ⟨e, x⟩
  ·exact ⟨_, by rw [hget_hnew, if_pos rfl], hz⟩
  ·obtain ⟨bk', a, b⟩ := h.hr.live id r' x
   exact ⟨bk', by rw [hget_hnew, if_neg e]; exact a, hmono b⟩
 ·rcases hlive id r1 x with ⟨e, er1⟩ | ⟨e, x1⟩
  ·rcases hlive id' r2 x' with ⟨e', _⟩ | ⟨e', x1'⟩
   ·exact absurd (e.trans e'.symm) hne
   ·rw [hget_hnew, if_neg e'] at y'
    intro k k' q
    rw [er1] at q
    exact hapart id' r2 b2 x1' y' z' k' q
  ·rw [hget_hnew, if_neg e] at y
   rcases hlive id' r2 x' with ⟨e', er⟩ | ⟨e', x1'⟩
   ·intro k k' q
    rw [er] at q
    exact hapart id r1 b1 x1 y z k q.symm
   ·rw [hget_hnew, if_neg e'] at y'
    exact h.hr.sep id id' r1 r2 b1 b2 hne x1 x1' y y' z z'
 ·obtain ⟨n1, n2⟩ := hln t' cs' x
  obtain ⟨a2, a3, a4, a5, a6⟩ := h.lo.box t' cs' b' n2 a1
  refine ⟨a2.grow hle (fun _ _ y => y) (fun _ _ _ => rfl), a3, fun o ho => ?_, a5, a6⟩
  rcases own_born h.hr ho with ho | ⟨e, _⟩
  ·exact a4 o ho
  ·simp only at e
   subst e
   exact h.lo.inj t' t b' n1 (by rw [n2]; simp) (by rw [hlt]; simp) a1 hbt
 ·rw [hget_hnew, if_neg (by have := h.hr.lim; have := h.evo.lim; omega)]; exact h.evo.ro id hid
 ·rcases own_born h.hr x with x | ⟨e, _⟩
  ·exact h.evo.own b' o x
  ·simp only at e
   subst e
   exact .inr x5
theorem RepT.mono {g g' : G} {ν ν' : Nat -> Option Nat} (hg : GLe g g') {v : V} {cv : Value} (h : RepT g ν v cv) (hn : ∀ e off, v = .lp e off -> ν' e = ν e) : RepT g' ν' v cv := by
 cases v with
 | lp t off => obtain ⟨b, h1, h2⟩ := h; exact ⟨b, (hn t off rfl).trans h1, h2⟩
 | _ => exact RepA.mono hg h
section
variable {e : Env}
theorem store_one {st : St} {g : G} {ν : Nat -> Option Nat} (hm : MemR e.E g ν st.lo st.hp e.w) (hle : GLe e.g g) (hν : ν = e.ν) (htm : st.tm = e.st.tm) {t : TypeId} {x y : Operand} {va vy : V} {cv : Value} (hs : Ev.size e.P t = some 1) (ho : e.o.op = .store t x y)
  (hra : RepT g ν va (e.a.eval x)) (hcv : e.a.eval y = cv) (hr : RepA g vy cv) (hk : vy.keep = true) (hcc : cv.cells = #[cv]) (hone : oneC cv = true) :
  Res e (fun k _ => storeD [] st [vy] va fun s => k .un s) := by
 have hrun : ∀ b o, e.a.eval x = .pointer (some (ad b o)) -> (∃ u, e.w.cell? (ad b o) = some u) -> e.w.frozen? (ad b o) = false -> (execOp e.a.eval e.o).run e.P e.w = .ok .skip (setCs e.w b o [cv]) := fun b o hp hc hf => by
  have := run_storeVar (P := e.P) (t := t) (w := e.w) (b := b) (o := o) (v := cv) (by rw [hs, hcc]; rfl) (fun j hj => by
   rw [hcc] at hj
   have : j = 0 := by simp at hj; omega
   subst this; obtain ⟨u, hu⟩ := hc; simp [hu]) (fun j hj => by
   rw [hcc] at hj
   have : j = 0 := by simp at hj; omega
   subst this; exact hf) (fun c hc => by rw [hcc] at hc; simp at hc; rw [hc]; exact hone)
  rw [hcc] at this
  simp [execOp, ho, hp, hcv, Instr.storeAt, Instr.sureAddr, this]
 have hunit : ∀ (s : St) (w' : World), s.tm = e.st.tm -> MemR e.E g ν s.lo s.hp w' -> After e.E e.clr e.dst e.g e.ν e.st .un s undef w' g ν := fun s w' h1 h2 =>
  ⟨h1, h2, hle, .inl hν, .ofA (.un _), fun _ _ _ _ hx => by cases hx⟩
 have hget' : ∀ (j : Nat) (c : V), [vy][j]? = some c -> ∃ u, [cv][j]? = some u /\ RepA g c u := fun j c hj => by
  have := lt_of_get hj
  have : j = 0 := by simp at this; omega
  subst this
  simp only [List.getElem?_cons_zero, Option.some.injEq] at hj; subst hj
  exact ⟨cv, rfl, hr⟩
 cases va with
 | lp t' off =>
  obtain ⟨b, hb', hp⟩ := hra
  cases hlo : st.lo t' with
  | none => exact .bad fun k kp => by simp [storeD, hlo]
  | some cs =>
   refine .eq (F' := fun k _ => .chk (Nat.ble (off + 1) cs.length) (k .un (st.setLo t' (over off [vy] cs)))) (fun k kp => by simp [storeD, hlo, fresh]) ?_
   refine .chk fun hc => ?_
   have hc := Nat.le_of_ble_eq_true hc
   obtain ⟨hx1, _⟩ := hm.lo.box t' cs b hlo hb'
   obtain ⟨_, ⟨u, hu, _⟩, hf⟩ := hx1 off (cs[off]'(by omega)) (by rw [List.getElem?_eq_getElem])
   refine .out (.skip _ (hrun b off hp ⟨u, hu⟩ hf)) (hunit (st.setLo t' _) _ htm ?_)
   exact hm.setBox hlo hb' off [vy] [cv] (by simpa using hc) rfl (fun c hc => by simp at hc; rw [hc]; exact hk) hget'
 | pt id i off =>
  obtain ⟨a, hp, hx1⟩ := RepA.pt_inv hra
  cases hg : hget st.hp id with
  | none => exact .bad fun k kp => by simp [storeD, hg]
  | some bk =>
   refine .eq (F' := fun k _ => bif bk.fr then .bad else bif Nat.blt id st.hp.lim then .bad else
    .chk (Nat.blt i bk.es.length) (.chk (Nat.ble (off + 1) (bk.es.getD i []).length)
    (k .un (st.setHp (hset st.hp id (some ⟨bk.sz, bk.fr, bk.es.set i (over off [vy] (bk.es.getD i []))⟩)))))) (fun k kp => by simp [storeD, hg, freshH]) ?_
   refine .bif (F := fun _ _ => .bad) (fun _ => .bad fun _ _ => rfl) (fun hfr => ?_)
   refine .bif (F := fun _ _ => .bad) (fun _ => .bad fun _ _ => rfl) (fun hlm => ?_)
   refine .chk fun hi => .chk fun hc => ?_
   have hc := Nat.le_of_ble_eq_true hc
   have hi : i < bk.es.length := Nat.le_of_ble_eq_true hi
   have hlim : st.hp.lim <= id := by
    rcases Nat.lt_or_ge id st.hp.lim with q | q
    ·have : Nat.blt id st.hp.lim = true := by simpa [Nat.blt_eq] using q
     rw [this] at hlm; cases hlm
    ·exact q
   rcases hx1 with hx1 | ⟨r, hl, rfl⟩
   ·rw [hm.hr.dead id hx1] at hg; cases hg
   ·obtain ⟨bk0, e0, z⟩ := hm.hr.live id r hl
    rw [hg] at e0; cases e0
    have hrow : bk.es[i]? = some (bk.es.getD i []) := by simp [List.getD, List.getElem?_eq_getElem hi]
    have hrl : (bk.es.getD i []).length = bk.sz := z.row _ (List.mem_of_getElem? hrow)
    have hmul : i * r.sz + bk.sz <= r.cap * r.sz := by
     have : (i + 1) * r.sz <= r.cap * r.sz := Nat.mul_le_mul_right _ (by have := z.len; omega)
     rw [Nat.add_mul, Nat.one_mul, z.sz] at this
     rw [z.sz]; exact this
    have hx2 := z.rw hfr (i * r.sz + off) (by omega)
    refine .out (.skip _ (hrun r.b _ hp (by rw [Nat.add_assoc]; exact hx2.1) (by rw [Nat.add_assoc]; exact hx2.2.1))) (hunit (st.setHp _) _ htm ?_)
    have hxc : off + ([vy] : List V).length <= (bk.es.getD i []).length := by simpa using hc
    have := hm.write hl hg hfr hlim (bk' := ⟨bk.sz, bk.fr, bk.es.set i (over off [vy] (bk.es.getD i []))⟩) (i * r.sz + off) [cv] (by simp; omega) rfl hfr (by simpa using z.len)
     (fun x hx => by
      rcases List.mem_or_eq_of_mem_set hx with hx | hx
      ·exact z.row x hx
      ·rw [hx, over_len hxc]; exact hrl)
     (fun i' j x c hx' hc' => by
      rw [List.getElem?_set] at hx'
      by_cases hii : i = i'
      ·subst hii
       simp only [if_true, hi, Option.some.injEq] at hx'
       subst hx'
       have hjl := lt_of_get hc'
       rw [over_len hxc] at hjl
       rw [over_get hxc] at hc'
       by_cases hin : off <= j /\ j < off + ([vy] : List V).length
       ·rw [if_pos hin] at hc'
        simp only [List.length_singleton] at hin ⊢
        rw [z.sz, if_pos (by omega)]
        obtain ⟨u, k1, k2⟩ := hget' _ c hc'
        have hj0 : j - off = 0 := by omega
        rw [hj0] at hc' k1
        simp only [List.getElem?_cons_zero, Option.some.injEq] at hc' k1
        refine ⟨by rw [<- hc']; exact hk, u, ?_, k2⟩
        rw [show i * bk.sz + j - (i * bk.sz + off) = 0 by omega, <- k1]; rfl
       ·rw [if_neg hin] at hc'
        simp only [List.length_singleton] at hin ⊢
        rw [z.sz, if_neg (by omega)]
        obtain ⟨k1, u, k2, k3⟩ := z.cont i j _ c hrow hc'
        refine ⟨k1, u, ?_, k3⟩
        rw [z.sz, Nat.add_assoc] at k2; exact k2
      ·simp only [hii, if_false] at hx'
       have hjl := lt_of_get hc'
       rw [z.row x (List.mem_of_getElem? hx')] at hjl
       obtain ⟨k1, u, k2, k3⟩ := z.cont i' j x c hx' hc'
       have hcond : ¬ (i * r.sz + off <= i' * bk.sz + j /\ i' * bk.sz + j < i * r.sz + off + ([cv] : List Value).length) := by
        simp only [List.length_singleton]
        rw [z.sz]
        rcases Nat.lt_or_gt_of_ne hii with q | q
        ·have := Nat.mul_le_mul_right bk.sz (show i + 1 <= i' from q)
         rw [Nat.add_mul, Nat.one_mul] at this
         have hoff : off < bk.sz := by omega
         omega
        ·have := Nat.mul_le_mul_right bk.sz (show i' + 1 <= i from q)
         rw [Nat.add_mul, Nat.one_mul] at this
         omega
       rw [if_neg hcond]
       refine ⟨k1, u, ?_, k3⟩
       rw [z.sz, Nat.add_assoc] at k2; exact k2)
    rw [Nat.add_assoc]
    exact this
 | _ => exact .bad fun _ _ => rfl
theorem ok_stp (h : e.St) {t : TypeId} {x y : Operand} {xa ya : A} (hs : Ev.size e.P t = some 1) (hx : cA x = some xa) (hy : cA y = some ya) (ho : e.o.op = .store t x y) (us : List Nat) (d : Nat) :
  Res e (iStp xa ya us e.clr d e.st) := by
 have hrx := h.rep hx
 have hry := h.rep hy
 cases hg : get e.st.tm ya with
 | lp t' off =>
  rw [hg] at hry
  obtain ⟨b, hb', hp⟩ := hry
  cases hz : Nat.beq off 0 with
  | false => exact .bad fun k kp => by simp only [iStp, hg, hz, cond_false]
  | true =>
   have hz' := Nat.eq_of_beq_eq_true hz
   subst hz'
   cases hlo : e.st.lo t' with
   | none => exact .bad fun k kp => by simp only [iStp, hg, hz, cond_true, hlo]
   | some cs =>
    obtain ⟨m1, m2⟩ := h.mem.promote hlo hb'
    refine .eq (F' := fun k _ => storeD [] ⟨e.st.tm, lno e.st.lo t', hnew e.st.hp ⟨cs.length, false, [cs]⟩⟩ [.pt e.st.hp.next 0 0] (get e.st.tm xa) fun s => k .un s) (fun k kp => by simp only [iStp, hg, hz, cond_true, hlo]) ?_
    refine store_one (st := ⟨e.st.tm, lno e.st.lo t', hnew e.st.hp ⟨cs.length, false, [cs]⟩⟩) m1 m2 rfl rfl hs ho ?_ hp (.pt _ _ _ _ (.inr ⟨⟨b, 0, cs.length, 1⟩, by simp [born], by simp⟩)) rfl rfl rfl
    exact hrx.mono m2 (fun _ _ _ => rfl)
 | _ => exact .bad fun k kp => by simp only [iStp, hg]
end
end Ev
namespace Ev
variable [Glob]
open Go
def I.calls : I -> Bool
 | .call .. | .cpf .. | .calv .. | .pan _ => true
 | _ => false
def I.boxes : I -> Bool
 | .alc _ | .box _ => true
 | _ => false
section
variable {e : Env}
theorem ins0_ok (h : e.St) {pol : Pol} {i : I} {d : Nat} {us : List Nat} (hi : cIns0 e.P pol e.o = some i) (hnc : i.calls = false) (hde : e.dst = e.o.dst) (hd : ∀ d', e.dst = some d' -> d' = d)
  (hus : i.boxes = true -> ∀ t, hasN e.clr t = true -> t ∈ us) : Res e (i.den us e.clr d e.st) := by
 have hdd : ∀ {x}, e.o.dst = some x -> e.dst = some d := fun {x} q => by
  have q' := hde.trans q
  rw [<- hd x q']; exact q'
 unfold cIns0 at hi
 cases ho : e.o.op <;> simp only [ho, reduceCtorEq] at hi
 case move x =>
  cases hx : cA x <;> simp only [hx, Option.map_none, Option.map_some, reduceCtorEq, Option.some.injEq] at hi
  subst hi; exact ok_mov h hx (.inl ho) us d
 case assign x =>
  cases hx : cA x <;> simp only [hx, Option.map_none, Option.map_some, reduceCtorEq, Option.some.injEq] at hi
  subst hi; exact ok_mov h hx (.inr ho) us d
 case pick c a b =>
  split at hi
  ·rename_i hc ha hb
   simp only [Option.some.injEq] at hi; subst hi
   exact ok_pick h hc ha hb ho us d
  ·cases hi
 case alloc el =>
  split at hi
  ·rename_i z s dd hz hs hdst
   split at hi
   ·simp only [Option.some.injEq] at hi
    split at hi
    ·subst hi; exact ok_alc h hz ho (hus rfl) (hdd hdst)
    ·subst hi; exact ok_alh h hz ho us d
   ·cases hi
  ·cases hi
 case box el x =>
  split at hi
  ·rename_i dd xa s hdst hx hs
   simp only [Option.some.injEq] at hi
   split at hi
   ·subst hi; exact ok_box h hx ho (hus rfl) (hdd hdst)
   ·subst hi; exact ok_bxh h hx ho us d
  ·cases hi
 case build t ps =>
  split at hi
  ·rename_i z s fs hz hs hu
   split at hi
   ·rename_i pl hpl
    split at hi
    ·cases hm : allSome (partS pl) ps.toList with
     | none => simp only [hm, Option.map_none, reduceCtorEq] at hi
     | some ms =>
      simp only [hm, Option.map_some, Option.some.injEq] at hi; subst hi
      refine ok_bld h (place := (pl.toArray[·]?)) hz (fun i x o n xa hx => ?_) hm (fun i zv l cells hinfo hzv hf => ?_) ho us d
      ·unfold partS at hx
       split at hx
       ·rename_i h1 h2
        simp only [Option.some.injEq, Prod.mk.injEq] at hx
        obtain ⟨rfl, rfl, rfl⟩ := hx
        exact ⟨by simpa using h1, h2⟩
       ·cases hx
      ·unfold Program.built
       simp only [hinfo, hu, hzv, hpl]
       exact hf
    ·cases hi
   ·cases hi
  ·rename_i z s k el hz hs hu
   split at hi
   ·split at hi
    ·rename_i n hn
     cases hm : allSome (partA n) ps.toList with
     | none => simp only [hm, Option.map_none, reduceCtorEq] at hi
     | some ms =>
      simp only [hm, Option.map_some, Option.some.injEq] at hi; subst hi
      obtain ⟨ie, hie, hien⟩ := size_info hn
      refine ok_bld h (place := fun i => some (i * n, n)) hz (fun i x o m xa hx => ?_) hm (fun i zv l cells hinfo hzv hf => ?_) ho us d
      ·unfold partA at hx
       cases hc : cA x with
       | none => simp [hc] at hx
       | some y => simp only [hc, Option.map_some, Option.some.injEq, Prod.mk.injEq] at hx; obtain ⟨rfl, rfl, rfl⟩ := hx; exact ⟨rfl, rfl⟩
      ·unfold Program.built
       simp only [hinfo, hu, hzv, hie, hien]
       exact hf
    ·cases hi
   ·cases hi
  ·cases hi
 case buildSlice t n ps =>
  split at hi
  ·rename_i el hel
   have hu : e.P.underlying t = some (.slice el) := by
    unfold Ev.elemOf at hel
    split at hel <;> simp_all
   split at hi
   ·rename_i s z ms ts dd hs hz hm hts hdst
    split at hi
    ·rename_i hcond
     obtain ⟨c1, c2, c3, c4⟩ := hcond
     simp only [Option.some.injEq] at hi
     split at hi
     ·subst hi; exact ok_bsl h hu hs hz hm c1 c2 c3 ho us d
     ·subst hi; exact ok_bsv h hu hs hz hm c1 c2 c3 ho us d
    ·cases hi
   ·cases hi
  ·cases hi
 case load t a =>
  split at hi
  ·rename_i hs hg ha
   simp only [Option.some.injEq] at hi
   split at hi
   ·subst hi; exact ok_ldl h hs hg ha ho us d
   ·subst hi; exact ok_ld h hs hg ha ho us d
  ·cases hi
 case store t a x =>
  split at hi
  ·rename_i n aa xa hs ha hx
   simp only [Option.some.injEq] at hi
   split at hi
   ·rename_i hc
    simp only [Bool.and_eq_true] at hc
    have h1 := Nat.eq_of_beq_eq_true hc.2
    subst h1; subst hi
    exact ok_stp h hs ha hx ho us d
   ·subst hi; exact ok_sto h hs ha hx ho us d
  ·cases hi
 case nilCheck x =>
  cases hx : cA x <;> simp only [hx, Option.map_none, Option.map_some, reduceCtorEq, Option.some.injEq] at hi
  subst hi; exact ok_nck h hx ho us hd
 case binOp op t x y yt =>
  split at hi
  ·rename_i hx hy
   split at hi
   ·rename_i hop
    cases hq : qkOf e.P t <;> simp only [hq, Option.map_none, Option.map_some, reduceCtorEq, Option.some.injEq] at hi
    subst hi
    exact ok_bin h (fun _ => hq) hx hy ho us d
   ·rename_i hop
    simp only [Option.some.injEq] at hi; subst hi
    exact ok_bin h (fun q => absurd q hop) hx hy ho us d
  ·cases hi
 case unOp op t x =>
  cases hx : cA x <;> simp only [hx, Option.map_none, Option.map_some, reduceCtorEq, Option.some.injEq] at hi
  subst hi; exact ok_un h hx ho us d
 case convert s t x =>
  split at hi
  ·split at hi
   ·rename_i c xa hc hx
    simp only [Option.some.injEq] at hi; subst hi
    exact ok_cnv h hc hx ho us d
   ·rename_i xa _ hx
    split at hi
    ·rename_i hst
     subst hst
     split at hi
     ·rename_i el hu
      split at hi
      ·rename_i hby
       simp only [Option.some.injEq] at hi; subst hi
       exact ok_mrk h hu hby hx ho us d
      ·cases hi
     ·cases hi
    ·cases hi
   ·cases hi
  ·cases hi
 case makeInterface t x =>
  split at hi
  ·cases hi
  ·rename_i dd xa hne hu hx
   simp only [Option.some.injEq] at hi; subst hi
   exact ok_mki h hu (fun m q => hne m q) hx ho us d
  ·cases hi
 case makeFunc f first cap =>
  cases f <;> simp only [reduceCtorEq] at hi
  split at hi
  ·rename_i ha hb
   simp only [Option.some.injEq] at hi; subst hi
   exact ok_mkf h ha hb ho us d
  ·cases hi
 case makeSlice t l c =>
  split at hi
  ·rename_i el hel
   have hu : e.P.underlying t = some (.slice el) := by
    unfold Ev.elemOf at hel
    split at hel <;> simp_all
   split at hi
   ·rename_i s z b xa ya hs hz hb hx hy
    split at hi
    ·rename_i hcond
     simp only [Option.some.injEq] at hi; subst hi
     exact ok_mks h hu hs hz hb hcond.1 hcond.2 hx hy ho us d
    ·cases hi
   ·cases hi
  ·cases hi
 case slice t x lo hh mx =>
  cases mx <;> simp only [reduceCtorEq] at hi
  split at hi
  ·rename_i xa la ha hx hl hh'
   have hl' : cOpt lo = some la := by cases lo <;> exact hl
   have hh'' : cOpt hh = some ha := by cases hh <;> exact hh'
   split at hi
   ·rename_i hu
    simp only [Option.some.injEq] at hi; subst hi
    exact ok_slc h (s := true) (by simpa using hu) hx hl' hh'' ho us d
   ·rename_i el hu
    cases hs : Ev.size e.P el <;> simp only [hs, Option.map_none, Option.map_some, reduceCtorEq, Option.some.injEq] at hi
    subst hi
    exact ok_slc h (s := false) (by simpa using ⟨el, hu, hs⟩) hx hl' hh'' ho us d
   ·cases hi
  ·cases hi
 case fieldAddr s a k =>
  split at hi
  ·rename_i f xa hf hx
   split at hi
   ·rename_i n hn
    split at hi
    ·cases hi
    ·rename_i h0
     simp only [Option.some.injEq] at hi; subst hi
     exact ok_fad h hf hn h0 hx ho us hd
   ·cases hi
  ·cases hi
 case field s x k =>
  split at hi
  ·rename_i f xa hf hx
   split at hi
   ·rename_i n g hn hg
    simp only [Option.some.injEq] at hi; subst hi
    exact ok_fld h hf hn hg hx ho us d
   ·cases hi
  ·cases hi
 case indexAddr t x k =>
  split at hi
  ·rename_i el xa ia hu hx hk
   cases hs : Ev.size e.P el <;> simp only [hs, Option.map_none, Option.map_some, reduceCtorEq, Option.some.injEq] at hi
   subst hi
   exact ok_ias h hu hs hx hk ho us d
  ·rename_i n el xa ia hu hx hk
   cases hs : Ev.size e.P el <;> simp only [hs, Option.map_none, Option.map_some, reduceCtorEq, Option.some.injEq] at hi
   subst hi
   exact ok_iaa h hu hs hx hk ho us hd
  ·cases hi
 case index t x k =>
  split at hi
  ·rename_i xa ia hu hx hk
   simp only [Option.some.injEq] at hi; subst hi
   exact ok_ixs h hu hx hk ho us d
  ·rename_i n el xa ia hu hx hk
   split at hi
   ·rename_i s g hs hg
    simp only [Option.some.injEq] at hi; subst hi
    exact ok_ixa h hu hs hg hx hk ho us d
   ·cases hi
  ·cases hi
 case makeMap t hint =>
  cases hint <;> simp only [reduceCtorEq] at hi
  split at hi
  ·simp only [Option.some.injEq] at hi; subst hi; exact ok_mmk h ho us d
  ·cases hi
 case lookup t x k ok =>
  split at hi
  ·rename_i key el xa ia hu hx hk
   split at hi
   ·rename_i hm
    split at hi
    ·rename_i z hz
     simp only [Option.some.injEq] at hi; subst hi
     exact ok_mlk h hm hu hz hx hk ho us d
    ·cases hi
   ·cases hi
  ·cases hi
 case mapUpdate t x k y =>
  split at hi
  ·rename_i xa ia va hx hk hv
   split at hi
   ·rename_i hm
    simp only [Option.some.injEq] at hi; subst hi
    exact ok_mup h hm hx hk hv ho us d
   ·cases hi
  ·cases hi
 case extract x k =>
  cases hx : cA x <;> simp only [hx, Option.map_none, Option.map_some, reduceCtorEq, Option.some.injEq] at hi
  subst hi; exact ok_ext h hx ho us d
 case panic x =>
  cases hx : cA x <;> simp only [hx, Option.map_none, Option.map_some, reduceCtorEq, Option.some.injEq] at hi
  subst hi; cases hnc
 case call c =>
  split at hi
  ·rename_i f xs hcal ha
   split at hi
   ·rename_i hix
    split at hi
    ·simp only [Option.some.injEq] at hi; subst hi
     exact ok_ixb h hix hcal ha ho us d
    ·cases hi
   ·split at hi
    ·rename_i hcx
     split at hi
     ·simp only [Option.some.injEq] at hi; subst hi
      exact ok_ctb h hcx hcal ha ho us d
     ·cases hi
    ·split at hi <;> (simp only [Option.some.injEq] at hi; subst hi; cases hnc)
  ·rename_i f xs _ _ _
   cases hf : cA f <;> simp only [hf, Option.map_none, Option.map_some, reduceCtorEq, Option.some.injEq] at hi
   subst hi; cases hnc
  ·rename_i b xs hb ha
   split at hi
   ·rename_i xa
    split at hi
    ·rename_i n el hu
     simp only [Option.some.injEq] at hi; subst hi
     obtain ⟨x, hargs, hx⟩ := args1 ha
     cases ht : c.argTypes[0]? with
     | none => simp [ht] at hu
     | some t =>
      have hu' : e.P.underlying t = some (.array n el) := by simpa [ht] using hu
      exact Res.val h (cv := goInt n) (run_builtin ho hb (by simp [Go.builtin, hargs, Builtin.len_, ht, run_underlying hu'])) (.c _ _ (.it _ _)) rfl
    ·rename_i ar hu
     split at hi
     ·rename_i n el hu2
      simp only [Option.some.injEq] at hi; subst hi
      obtain ⟨x, hargs, hx⟩ := args1 ha
      cases ht : c.argTypes[0]? with
      | none => simp [ht] at hu
      | some t =>
       have hu' : e.P.underlying t = some (.pointer ar) := by simpa [ht] using hu
       exact Res.val h (cv := goInt n) (run_builtin ho hb (by simp [Go.builtin, hargs, Builtin.len_, ht, run_underlying hu', run_underlying hu2])) (.c _ _ (.it _ _)) rfl
     ·cases hi
    ·rename_i hu
     simp only [Option.some.injEq] at hi; subst hi
     cases ht : c.argTypes[0]? with
     | none => simp [ht] at hu
     | some t => exact ok_len h ha ho hb ht (by simpa [ht] using hu) us d
    ·rename_i el hu
     simp only [Option.some.injEq] at hi; subst hi
     cases ht : c.argTypes[0]? with
     | none => simp [ht] at hu
     | some t => exact ok_len h ha ho hb ht (by simpa [ht] using ⟨el, by simpa [ht] using hu⟩) us d
    ·cases hi
   ·rename_i xa ya
    obtain ⟨x, y, hargs, hx, hy⟩ := args2 ha
    split at hi
    ·rename_i t tx htys
     have htys' : c.argTypes = #[t, tx] := by apply Array.ext'; simpa using htys
     split at hi
     ·rename_i el u hu hux
      split at hi
      ·rename_i s b z hs hbb hz
       split at hi
       ·rename_i hcond
        obtain ⟨c1, c2, c3⟩ := hcond
        split at hi
        ·simp only [Option.some.injEq] at hi; subst hi
         exact ok_app h hargs htys' ho hb hu (.inl ⟨_, hux⟩) hs hbb hz c1 c2 c3 hx hy us d
        ·simp only [Option.some.injEq] at hi; subst hi
         exact ok_app h hargs htys' ho hb hu (.inr hux) hs hbb hz c1 c2 c3 hx hy us d
        ·split at hi
         ·rename_i hq
          obtain ⟨_, rfl, rfl, q4⟩ := hq
          simp only [Option.some.injEq] at hi; subst hi
          exact ok_apz h hargs htys' ho hb hu hux hs hbb q4 hx hy us d
         ·cases hi
        ·cases hi
       ·cases hi
      ·cases hi
     ·cases hi
    ·cases hi
   ·rename_i xa ya
    obtain ⟨x, y, hargs, hx, hy⟩ := args2 ha
    split at hi
    ·rename_i t tx htys
     have htys' : c.argTypes = #[t, tx] := by apply Array.ext'; simpa using htys
     split at hi
     ·rename_i el u hu hux
      split at hi
      ·rename_i s hs
       split at hi
       ·rename_i hsz
        split at hi
        ·simp only [Option.some.injEq] at hi; subst hi
         exact ok_cpy h hargs htys' ho hb hu hs hsz hx hy us d
        ·simp only [Option.some.injEq] at hi; subst hi
         exact ok_cpy h hargs htys' ho hb hu hs hsz hx hy us d
        ·cases hi
       ·cases hi
      ·cases hi
     ·cases hi
    ·cases hi
   ·rename_i xa
    obtain ⟨x, hargs, hx⟩ := args1 ha
    split at hi
    ·rename_i t htys
     have htys' : c.argTypes = #[t] := by apply Array.ext'; simpa using htys
     split at hi
     ·rename_i el hu
      split at hi
      ·rename_i s z hs hz
       split at hi
       ·rename_i hcond
        simp only [Option.some.injEq] at hi; subst hi
        exact ok_clr h hargs htys' ho hb hu hs hz hcond.1 hcond.2 hx us d
       ·cases hi
      ·cases hi
     ·cases hi
    ·cases hi
   ·simp only [Option.some.injEq] at hi; subst hi
    exact ok_mnx h (mx := false) ha ho hb us d
   ·simp only [Option.some.injEq] at hi; subst hi
    exact ok_mnx h (mx := true) ha ho hb us d
   ·simp only [Option.some.injEq] at hi; subst hi
    exact ok_mn3 h (mx := false) ha ho hb us d
   ·simp only [Option.some.injEq] at hi; subst hi
    exact ok_mn3 h (mx := true) ha ho hb us d
   ·cases hi
  ·cases hi
theorem ins_ok (h : e.St) {pol : Pol} {i : I} {d : Nat} {us : List Nat} (hi : cIns e.P pol e.o = some i) (hnc : i.calls = false) (hde : e.dst = e.o.dst) (hd : ∀ d', e.dst = some d' -> d' = d)
  (hus : i.boxes = true -> ∀ t, hasN e.clr t = true -> t ∈ us) : Res e (i.den us e.clr d e.st) := by
 unfold cIns at hi
 split at hi
 ·simp only [Option.some.injEq] at hi; subst hi; exact ok_hnd h us d
 ·split at hi
  ·rename_i i' h0
   simp only [Option.some.injEq] at hi; subst hi
   exact ins0_ok h h0 hnc hde hd hus
  ·simp only [Option.some.injEq] at hi; subst hi; exact ok_hnd h us d
end
end Ev
namespace Ev
variable [Glob]
open Go
theorem force_eq {α : Type} (k : V -> α) (v : V) : force k v = k v := by
 cases v with
 | bo x => cases x <;> rfl
 | _ => rfl
theorem forceL_eq {α : Type} : ∀ (l : List V) (k : List V -> α), forceL k l = k l
 | [], _ => rfl
 | v :: r, k => by simp only [forceL]; rw [force_eq, forceL_eq r]
abbrev FF := (V -> St -> D) -> (V -> St -> D) -> D
def EO (call : Call) (L : Nat) (st st' : St) (F F' : FF) : Prop :=
 Bad call L F \/ ∃ v, (∀ k kp, run call L (F k kp) = run call L (k v st)) /\ (∀ k kp, run call L (F' k kp) = run call L (k v st'))
section
variable {call : Call} {L : Nat} {st st' : St}
theorem EO.bad {F F' : FF} (h : ∀ k kp, F k kp = .bad) : EO call L st st' F F' := .inl fun k kp => by rw [h]; rfl
theorem EO.val (v : V) : EO call L st st' (fun k _ => k v st) (fun k _ => k v st') := .inr ⟨v, fun _ _ => rfl, fun _ _ => rfl⟩
theorem EO.chk {b : Bool} {F F' : FF} (h : EO call L st st' F F') : EO call L st st' (fun k kp => .chk b (F k kp)) (fun k kp => .chk b (F' k kp)) := by
 cases b with
 | false => exact .inl fun k kp => by simp [run]
 | true =>
  rcases h with h | ⟨v, h, h'⟩
  ·exact .inl fun k kp => by simp only [run, cond_true]; exact h k kp
  ·exact .inr ⟨v, fun k kp => by simp only [run, cond_true]; exact h k kp, fun k kp => by simp only [run, cond_true]; exact h' k kp⟩
theorem EO.br {b : Bool} {F G F' G' : FF} (h : EO call L st st' F F') (h' : EO call L st st' G G') : EO call L st st' (fun k kp => .br b (F k kp) (G k kp)) (fun k kp => .br b (F' k kp) (G' k kp)) := by
 cases b with
 | false =>
  rcases h' with h | ⟨v, h, h'⟩
  ·exact .inl fun k kp => by simp only [run, cond_false]; exact h k kp
  ·exact .inr ⟨v, fun k kp => by simp only [run, cond_false]; exact h k kp, fun k kp => by simp only [run, cond_false]; exact h' k kp⟩
 | true =>
  rcases h with h | ⟨v, h, h'⟩
  ·exact .inl fun k kp => by simp only [run, cond_true]; exact h k kp
  ·exact .inr ⟨v, fun k kp => by simp only [run, cond_true]; exact h k kp, fun k kp => by simp only [run, cond_true]; exact h' k kp⟩
theorem EO.bif {b : Bool} {F G F' G' : FF} (h : b = true -> EO call L st st' F F') (h' : b = false -> EO call L st st' G G') : EO call L st st' (fun k kp => bif b then F k kp else G k kp) (fun k kp => bif b then F' k kp else G' k kp) := by
 cases b with
 | false => exact h' rfl
 | true => exact h rfl
theorem EO.oneD {α : Type} {o : Option α} {f f' : α -> FF} (h : ∀ v, o = some v -> EO call L st st' (f v) (f' v)) : EO call L st st' (fun k kp => Ev.oneD o fun v => f v k kp) (fun k kp => Ev.oneD o fun v => f' v k kp) := by
 cases o with
 | none => exact .bad fun k kp => rfl
 | some v => exact h v rfl
theorem EO.notLp {v : V} : EO call L st st' (fun k _ => notLpD v fun v => k v st) (fun k _ => notLpD v fun v => k v st') := by
 cases v <;> first | exact .bad fun k kp => rfl | exact .val _
theorem EO.nat {v : V} {f f' : Nat -> FF} (h : ∀ n, EO call L st st' (f n) (f' n)) : EO call L st st' (fun k kp => natD v fun v => f v k kp) (fun k kp => natD v fun v => f' v k kp) := by
 cases v <;> first | exact .chk (h _) | exact .bad fun k kp => rfl
theorem EO.cut {n off : Nat} {cs : List V} {f f' : List V -> FF} (h : ∀ cs, EO call L st st' (f cs) (f' cs)) : EO call L st st' (fun k kp => cutD n off cs fun v => f v k kp) (fun k kp => cutD n off cs fun v => f' v k kp) := .chk (h _)
theorem EO.move {clr : List Nat} {d off : Nat} {v : V} : EO call L st st' (fun k _ => moveD clr d off v fun v => k v st) (fun k _ => moveD clr d off v fun v => k v st') := by
 cases v with
 | pt => exact .val _
 | lp => exact .bif (F := fun k _ => k _ st) (F' := fun k _ => k _ st') (G := fun _ _ => .bad) (G' := fun _ _ => .bad) (fun _ => .val _) (fun _ => .bad fun _ _ => rfl)
 | ip => exact .chk (.val _)
 | _ => exact .bad fun _ _ => rfl
theorem EO.shift {op : BinOp} {k : IntKind} {a b : Int} : EO call L st st' (fun c _ => shiftD op k a b fun v => c v st) (fun c _ => shiftD op k a b fun v => c v st') := by
 cases op <;> exact .chk (.val _)
theorem EO.binI {op : BinOp} {k : IntKind} {a b : Int} : EO call L st st' (fun c _ => Ev.binI op k a b fun v => c v st) (fun c _ => Ev.binI op k a b fun v => c v st') := by
 cases op <;> first | exact .val _ | exact .chk (.val _) | exact .oneD (f := fun v c _ => c v st) (f' := fun v c _ => c v st') fun v _ => .val v | exact .bad fun _ _ => rfl
theorem EO.binS {op : BinOp} {a b : List Nat} : EO call L st st' (fun c _ => Ev.binS op a b fun v => c v st) (fun c _ => Ev.binS op a b fun v => c v st') := by
 cases op <;> first | exact .val _ | exact .chk (.val _) | exact .bad fun _ _ => rfl
theorem EO.bin {hp hp' : Hp} {q : Qk} {op : BinOp} {x y : V} : EO call L st st' (fun c _ => binD hp q op x y fun v => c v st) (fun c _ => binD hp' q op x y fun v => c v st') := by
 have gen : EO call L st st' (fun c _ => bif isEq op then Ev.oneD (eqv q x y) fun b => c (eqRes op b) st else .bad) (fun c _ => bif isEq op then Ev.oneD (eqv q x y) fun b => c (eqRes op b) st' else .bad) :=
  .bif (F := fun c _ => Ev.oneD (eqv q x y) fun b => c (eqRes op b) st) (F' := fun c _ => Ev.oneD (eqv q x y) fun b => c (eqRes op b) st') (G := fun _ _ => .bad) (G' := fun _ _ => .bad)
   (fun _ => .oneD (f := fun b c _ => c (eqRes op b) st) (f' := fun b c _ => c (eqRes op b) st') fun b _ => .val _) (fun _ => .bad fun _ _ => rfl)
 cases x with
 | it k a =>
  cases y with
  | it k' b =>
   exact .bif (F := fun c _ => shiftD op k a b fun v => c v st) (F' := fun c _ => shiftD op k a b fun v => c v st') (G := fun c _ => bif keq k k' then Ev.binI op k a b (fun v => c v st) else .bad) (G' := fun c _ => bif keq k k' then Ev.binI op k a b (fun v => c v st') else .bad)
    (fun _ => .shift) (fun _ => .bif (F := fun c _ => Ev.binI op k a b fun v => c v st) (F' := fun c _ => Ev.binI op k a b fun v => c v st') (G := fun _ _ => .bad) (G' := fun _ _ => .bad) (fun _ => .binI) (fun _ => .bad fun _ _ => rfl))
  | _ => exact .bad fun _ _ => rfl
 | st a =>
  cases y with
  | st b => exact .binS
  | _ => exact .bad fun _ _ => rfl
 | _ => exact gen
def Same (st st' : St) (v : V) : Prop :=
 match v with
 | .lp t _ => st'.lo t = st.lo t
 | .pt id _ _ => ∀ bk, hget st.hp id = some bk -> ∃ bk', hget st'.hp id = some bk' /\ bk'.sz = bk.sz /\ bk'.es = bk.es
 | .hs id _ _ => ∀ bk, hget st.hp id = some bk -> ∃ bk', hget st'.hp id = some bk' /\ bk'.sz = bk.sz /\ bk'.es = bk.es
 | .mp id => ∀ bk, hget st.hp id = some bk -> ∃ bk', hget st'.hp id = some bk' /\ bk'.sz = bk.sz /\ bk'.es = bk.es
 | _ => True
theorem EO.load {n : Nat} {v : V} (hs : Same st st' v) {f f' : List V -> FF} (h : ∀ cs, EO call L st st' (f cs) (f' cs)) : EO call L st st' (fun k kp => loadD st n v fun cs => f cs k kp) (fun k kp => loadD st' n v fun cs => f' cs k kp) := by
 cases v with
 | ip cs => exact .cut h
 | lp t off =>
  have hs : st'.lo t = st.lo t := hs
  simp only [loadD, hs]
  cases st.lo t with
  | none => exact .bad fun _ _ => rfl
  | some cs => exact .cut h
 | pt id i off =>
  simp only [loadD]
  cases hg : hget st.hp id with
  | none => exact .bad fun _ _ => rfl
  | some bk =>
   obtain ⟨bk', h1, _, h3⟩ := hs bk hg
   simp only [h1, h3]
   exact .chk (.cut h)
 | _ => exact .bad fun _ _ => rfl
theorem EO.elems {n : Nat} {v : V} (hs : Same st st' v) {f f' : List (List V) -> FF} (h : ∀ cs, EO call L st st' (f cs) (f' cs)) : EO call L st st' (fun k kp => elemsD st.hp n v fun cs => f cs k kp) (fun k kp => elemsD st'.hp n v fun cs => f' cs k kp) := by
 cases v with
 | ns => exact h []
 | vs m es => exact .bif (F := f es) (F' := f' es) (G := fun _ _ => .bad) (G' := fun _ _ => .bad) (fun _ => h es) (fun _ => .bad fun _ _ => rfl)
 | hs id i len =>
  simp only [elemsD]
  cases hg : hget st.hp id with
  | none => exact .bad fun _ _ => rfl
  | some bk =>
   obtain ⟨bk', h1, h2, h3⟩ := hs bk hg
   simp only [h1, h2, h3]
   exact .bif (F := fun k kp => .chk (Nat.ble (i + len) bk.es.length) (f ((bk.es.drop i).take len) k kp)) (F' := fun k kp => .chk (Nat.ble (i + len) bk.es.length) (f' ((bk.es.drop i).take len) k kp)) (G := fun _ _ => .bad) (G' := fun _ _ => .bad)
    (fun _ => .chk (h _)) (fun _ => .bad fun _ _ => rfl)
 | _ => exact .bad fun _ _ => rfl
theorem EO.szs {sz : Nat} {v : V} (hs : Same st st' v) {F F' : FF} (h : EO call L st st' F F') : EO call L st st' (fun k kp => szD st.hp sz v (F k kp)) (fun k kp => szD st'.hp sz v (F' k kp)) := by
 cases v with
 | vs n es => exact .bif (F := F) (F' := F') (G := fun _ _ => .bad) (G' := fun _ _ => .bad) (fun _ => h) (fun _ => .bad fun _ _ => rfl)
 | hs id i len =>
  simp only [szD]
  cases hg : hget st.hp id with
  | none => exact .bad fun _ _ => rfl
  | some bk =>
   obtain ⟨bk', h1, h2, h3⟩ := hs bk hg
   simp only [h1, h2]
   exact .bif (F := F) (F' := F') (G := fun _ _ => .bad) (G' := fun _ _ => .bad) (fun _ => h) (fun _ => .bad fun _ _ => rfl)
 | _ => exact h
theorem EO.bound {tm : Tm} {d : Nat} {a : Option A} {f f' : Nat -> FF} (h : ∀ n, EO call L st st' (f n) (f' n)) : EO call L st st' (fun k kp => boundD tm d a fun n => f n k kp) (fun k kp => boundD tm d a fun n => f' n k kp) := by
 cases a with
 | none => exact h _
 | some a => exact .nat h
theorem get_eq {tm tm' : Tm} {x : A} (h : ∀ t, t ∈ slotsA x -> tm' t = tm t) : get tm' x = get tm x := by
 cases x with
 | t n => exact h n (by simp [slotsA])
 | k v => rfl
theorem map_get_eq {tm tm' : Tm} {xs : List A} (h : ∀ t, t ∈ xs.flatMap slotsA -> tm' t = tm t) : xs.map (get tm') = xs.map (get tm) := by
 apply List.map_congr_left
 intro x hx
 exact get_eq fun t ht => h t (List.mem_flatMap.2 ⟨x, hx, ht⟩)
theorem boundD_eq {tm tm' : Tm} {d : Nat} {a : Option A} (h : ∀ t, t ∈ slotsO a -> tm' t = tm t) (k : Nat -> D) : boundD tm' d a k = boundD tm d a k := by
 cases a with
 | none => rfl
 | some a => simp only [boundD, get_eq h]
def I.easy (i : I) : Bool := match i.cl with
 | .p | .r | .q => true
 | _ => false
theorem easy_frame {i : I} (hi : i.easy = true) {us us' clr : List Nat} {d : Nat} (hsl : ∀ t, t ∈ i.sl -> st'.tm t = st.tm t) (hrd : ∀ x, x ∈ i.rdA -> Same st st' (get st.tm x)) :
  EO call L st st' (i.den us clr d st) (i.den us' clr d st') := by
 show EO call L st st' (fun k kp => i.den us clr d st k kp) (fun k kp => i.den us' clr d st' k kp)
 have g1 : ∀ x : A, (∀ t, t ∈ slotsA x -> t ∈ i.sl) -> get st'.tm x = get st.tm x := fun x hx => get_eq fun t ht => hsl t (hx t ht)
 cases i with
 | mov x =>
  have e := g1 x (fun t ht => ht)
  simp only [I.den, iMov, e]; exact .notLp
 | pick c a b =>
  have e1 := g1 c (fun t ht => by simp [I.sl, ht])
  have e2 := g1 a (fun t ht => by simp [I.sl, ht])
  have e3 := g1 b (fun t ht => by simp [I.sl, ht])
  simp only [I.den, iPick, e1, e2, e3]
  cases get st.tm c <;> first | exact .br .notLp .notLp | exact .bad fun _ _ => rfl
 | bld z ps =>
  have e : (ps.map fun (o, n, a) => (o, n, get st'.tm a)) = ps.map fun (o, n, a) => (o, n, get st.tm a) := by
   apply List.map_congr_left
   rintro ⟨o, n, a⟩ hx
   simp only [g1 a (fun t ht => by simp only [I.sl, List.mem_flatMap]; exact ⟨_, hx, ht⟩)]
  simp only [I.den, iBld, e]
  exact .oneD (f := fun v k _ => k v st) (f' := fun v k _ => k v st') fun v _ => .val v
 | bsv ts sz es ps =>
  have e : (ps.map fun (i, a) => (i, get st'.tm a)) = ps.map fun (i, a) => (i, get st.tm a) := by
   apply List.map_congr_left
   rintro ⟨o, a⟩ hx
   simp only [g1 a (fun t ht => by simp only [I.sl, List.mem_flatMap]; exact ⟨_, hx, ht⟩)]
  simp only [I.den, iBsv, e]
  cases fillE sz (ps.map fun (i, a) => (i, get st.tm a)) es with
  | none => exact .bad fun _ _ => rfl
  | some es' =>
   simp only []
   cases closeEs depth ts es' h0 with
   | none => exact .bad fun _ _ => rfl
   | some q => exact .val _
 | ld n g a =>
  have e := g1 a (fun t ht => ht)
  simp only [I.den, iLd, e]
  exact .load (hrd a (by simp [I.rdA])) (f := fun cs k _ => Ev.oneD (pickC n g cs) fun v => k v st) (f' := fun cs k _ => Ev.oneD (pickC n g cs) fun v => k v st') fun cs => .oneD (f := fun v k _ => k v st) (f' := fun v k _ => k v st') fun v _ => .val v
 | ldl n g a =>
  have e := g1 a (fun t ht => ht)
  have hs := hrd a (by simp [I.rdA])
  simp only [I.den, iLdl, e]
  cases hv : get st.tm a with
  | lp t off =>
   rw [hv] at hs
   exact .load (v := .lp t off) hs (f := fun cs k _ => Ev.oneD (pickC n g cs) fun v => k v st) (f' := fun cs k _ => Ev.oneD (pickC n g cs) fun v => k v st') fun cs => .oneD (f := fun v k _ => k v st) (f' := fun v k _ => k v st') fun v _ => .val v
  | _ => exact .bad fun _ _ => rfl
 | nck x =>
  have e := g1 x (fun t ht => ht)
  simp only [I.den, iNck, e]; exact .move
 | bin q op x y =>
  have e1 := g1 x (fun t ht => by simp [I.sl, ht])
  have e2 := g1 y (fun t ht => by simp [I.sl, ht])
  simp only [I.den, iBin, e1, e2]; exact .bin
 | un op x =>
  have e := g1 x (fun t ht => ht)
  simp only [I.den, iUn, e]
  exact .oneD (f := fun v k _ => k v st) (f' := fun v k _ => k v st') fun v _ => .val v
 | cnv c x =>
  have e := g1 x (fun t ht => ht)
  simp only [I.den, iCnv, e]
  cases c with
  | b2s =>
   simp only [convD]
   exact .elems (hrd x (by simp [I.rdA])) (f := fun es k _ => Ev.oneD ((allSome unbyte es).map .st) fun v => k v st) (f' := fun es k _ => Ev.oneD ((allSome unbyte es).map .st) fun v => k v st') fun es => .oneD (f := fun v k _ => k v st) (f' := fun v k _ => k v st') fun v _ => .val v
  | s2b => cases hi
  | _ => cases get st.tm x <;> first | exact .val _ | exact .bad fun _ _ => rfl
 | cpf f xs =>
  have e : xs.map (get st'.tm) = xs.map (get st.tm) := map_get_eq fun t ht => hsl t ht
  simp only [I.den, iCpf, e]
  refine .bif (F := fun k _ => .call false f (xs.map (get st.tm)) h0 fun c => match c with
   | .ret v _ => k v st
   | _ => .bad) (F' := fun k _ => .call false f (xs.map (get st.tm)) h0 fun c => match c with
   | .ret v _ => k v st'
   | _ => .bad) (G := fun _ _ => .bad) (G' := fun _ _ => .bad) (fun _ => ?_) (fun _ => .bad fun _ _ => rfl)
  cases hq : call false f (xs.map (get st.tm)) h0 with
  | ret v h => exact .inr ⟨v, fun k kp => by simp only [run, forceL_eq, hq], fun k kp => by simp only [run, forceL_eq, hq]⟩
  | bad => exact .inl fun k kp => by simp only [run, forceL_eq, hq]
  | pan v h => exact .inl fun k kp => by simp only [run, forceL_eq, hq]
 | ixb x y =>
  have e1 := g1 x (fun t ht => by simp [I.sl, ht])
  have e2 := g1 y (fun t ht => by simp [I.sl, ht])
  simp only [I.den, iIxb, e1, e2]
  cases get st.tm x with
  | st l =>
   simp only []
   cases get st.tm y with
   | it k n => cases k <;> first | exact .val _ | exact .bad fun _ _ => rfl
   | _ => exact .bad fun _ _ => rfl
  | _ => exact .bad fun _ _ => rfl
 | ctb x y =>
  have e1 := g1 x (fun t ht => by simp [I.sl, ht])
  have e2 := g1 y (fun t ht => by simp [I.sl, ht])
  simp only [I.den, iCtb, e1, e2]
  cases get st.tm x with
  | st l =>
   simp only []
   cases get st.tm y with
   | it k n => cases k <;> first | exact .val _ | exact .bad fun _ _ => rfl
   | _ => exact .bad fun _ _ => rfl
  | _ => exact .bad fun _ _ => rfl
 | mlk ok z x i =>
  have e1 := g1 x (fun t ht => by simp [I.sl, ht])
  have e2 := g1 i (fun t ht => by simp [I.sl, ht])
  have hs := hrd x (by simp [I.rdA])
  simp only [I.den, iMlk, e1, e2]
  cases get st.tm i with
  | st l =>
   simp only []
   cases hx : get st.tm x with
   | mp id =>
    simp only []
    cases hg : hget st.hp id with
    | none => exact .bad fun _ _ => rfl
    | some b =>
     rw [hx] at hs
     obtain ⟨b', h1, h2, h3⟩ := hs b hg
     simp only [h1, mgetD, h2, h3]
     cases Nat.beq b.sz 2 with
     | false => exact .bad fun _ _ => rfl
     | true =>
      simp only [cond_true]
      cases mapGet l b.es with
      | none => cases ok <;> exact .val _
      | some u => cases ok <;> exact .val _
   | nm => cases ok <;> exact .val _
   | _ => exact .bad fun _ _ => rfl
  | _ => exact .bad fun _ _ => rfl
 | mki t x =>
  have e := g1 x (fun t ht => ht)
  simp only [I.den, iMki, e]
  cases get st.tm x <;> first | exact .bad fun _ _ => rfl | exact .val _
 | mkf f a b =>
  have e1 : a.map (get st'.tm) = a.map (get st.tm) := map_get_eq fun t ht => hsl t (by simp only [I.sl, List.mem_append]; exact .inl ht)
  have e2 : b.map (get st'.tm) = b.map (get st.tm) := map_get_eq fun t ht => hsl t (by simp only [I.sl, List.mem_append]; exact .inr ht)
  simp only [I.den, iMkf, e1, e2]
  cases (a.map (get st.tm)).any isLp with
  | true => exact .bad fun _ _ => rfl
  | false => cases (b.map (get st.tm)).any isLp with
   | true => exact .bad fun _ _ => rfl
   | false => exact .val _
 | slc b s x lo hi' =>
  have e := g1 x (fun t ht => by simp [I.sl, ht])
  have e1 : ∀ d k, boundD st'.tm d lo k = boundD st.tm d lo k := fun d k => boundD_eq (fun t ht => hsl t (by simp [I.sl, ht])) k
  have e2 : ∀ d k, boundD st'.tm d hi' k = boundD st.tm d hi' k := fun d k => boundD_eq (fun t ht => hsl t (by simp [I.sl, ht])) k
  simp only [I.den, iSlc, e, e1, e2]
  refine .szs (hrd x (by simp [I.rdA])) ?_
  exact .oneD (f := fun n k _ => boundD st.tm 0 lo fun l => boundD st.tm n hi' fun h => .chk (Nat.ble l h) (.chk (Nat.ble h n) (Ev.oneD (sliceV (get st.tm x) l h) fun v => k v st)))
    (f' := fun n k _ => boundD st.tm 0 lo fun l => boundD st.tm n hi' fun h => .chk (Nat.ble l h) (.chk (Nat.ble h n) (Ev.oneD (sliceV (get st.tm x) l h) fun v => k v st'))) fun n _ =>
    .bound (f := fun l k _ => boundD st.tm n hi' fun h => .chk (Nat.ble l h) (.chk (Nat.ble h n) (Ev.oneD (sliceV (get st.tm x) l h) fun v => k v st)))
     (f' := fun l k _ => boundD st.tm n hi' fun h => .chk (Nat.ble l h) (.chk (Nat.ble h n) (Ev.oneD (sliceV (get st.tm x) l h) fun v => k v st'))) fun l =>
     .bound (f := fun h k _ => .chk (Nat.ble l h) (.chk (Nat.ble h n) (Ev.oneD (sliceV (get st.tm x) l h) fun v => k v st))) (f' := fun h k _ => .chk (Nat.ble l h) (.chk (Nat.ble h n) (Ev.oneD (sliceV (get st.tm x) l h) fun v => k v st'))) fun h =>
      .chk (.chk (.oneD (f := fun v k _ => k v st) (f' := fun v k _ => k v st') fun v _ => .val v))
 | fad o a =>
  have e := g1 a (fun t ht => ht)
  simp only [I.den, iFad, e]; exact .move
 | fld o n g x =>
  have e := g1 x (fun t ht => ht)
  simp only [I.den, iFld, e]
  cases get st.tm x with
  | ag cs => exact .cut (f := fun cs k _ => Ev.oneD (pickC n g cs) fun v => k v st) (f' := fun cs k _ => Ev.oneD (pickC n g cs) fun v => k v st') fun cs => .oneD (f := fun v k _ => k v st) (f' := fun v k _ => k v st') fun v _ => .val v
  | _ => exact .bad fun _ _ => rfl
 | ias sz x y =>
  have e1 := g1 x (fun t ht => by simp [I.sl, ht])
  have e2 := g1 y (fun t ht => by simp [I.sl, ht])
  have hs := hrd x (by simp [I.rdA])
  simp only [I.den, iIas, e1, e2]
  refine .nat (f := fun i k _ => match get st.tm x with
   | .vs n es => bif Nat.beq n sz then .chk (Nat.blt i es.length) (k (.ip (es.getD i [])) st) else .bad
   | .hs id i0 len => match hget st.hp id with
    | some b => bif Nat.beq b.sz sz then .chk (Nat.blt i len) (k (.pt id (i0 + i) 0) st) else .bad
    | none => .bad
   | _ => .bad) (f' := fun i k _ => match get st.tm x with
   | .vs n es => bif Nat.beq n sz then .chk (Nat.blt i es.length) (k (.ip (es.getD i [])) st') else .bad
   | .hs id i0 len => match hget st'.hp id with
    | some b => bif Nat.beq b.sz sz then .chk (Nat.blt i len) (k (.pt id (i0 + i) 0) st') else .bad
    | none => .bad
   | _ => .bad) fun i => ?_
  cases hx : get st.tm x with
  | vs n es =>
   exact .bif (F := fun k _ => .chk (Nat.blt i es.length) (k (.ip (es.getD i [])) st)) (F' := fun k _ => .chk (Nat.blt i es.length) (k (.ip (es.getD i [])) st')) (G := fun _ _ => .bad) (G' := fun _ _ => .bad) (fun _ => .chk (.val _)) (fun _ => .bad fun _ _ => rfl)
  | hs id i0 len =>
   rw [hx] at hs
   simp only []
   cases hg : hget st.hp id with
   | none => exact .bad fun _ _ => rfl
   | some bk =>
    obtain ⟨bk', h1, h2, h3⟩ := hs bk hg
    simp only [h1, h2]
    exact .bif (F := fun k _ => .chk (Nat.blt i len) (k (.pt id (i0 + i) 0) st)) (F' := fun k _ => .chk (Nat.blt i len) (k (.pt id (i0 + i) 0) st')) (G := fun _ _ => .bad) (G' := fun _ _ => .bad) (fun _ => .chk (.val _)) (fun _ => .bad fun _ _ => rfl)
  | _ => exact .bad fun _ _ => rfl
 | iaa n s a y =>
  have e1 := g1 a (fun t ht => by simp [I.sl, ht])
  have e2 := g1 y (fun t ht => by simp [I.sl, ht])
  simp only [I.den, iIaa, e1, e2]
  exact .nat (f := fun i k _ => .chk (Nat.blt i n) (moveD clr d (i * s) (get st.tm a) fun v => k v st)) (f' := fun i k _ => .chk (Nat.blt i n) (moveD clr d (i * s) (get st.tm a) fun v => k v st')) fun i => .chk .move
 | ixs x y =>
  have e1 := g1 x (fun t ht => by simp [I.sl, ht])
  have e2 := g1 y (fun t ht => by simp [I.sl, ht])
  simp only [I.den, iIxs, e1, e2]
  refine .nat (f := fun i k _ => match get st.tm x with
   | .st s => .chk (Nat.blt i s.length) (k (byte (s.getD i 0)) st)
   | _ => .bad) (f' := fun i k _ => match get st.tm x with
   | .st s => .chk (Nat.blt i s.length) (k (byte (s.getD i 0)) st')
   | _ => .bad) fun i => ?_
  cases get st.tm x <;> first | exact .chk (.val _) | exact .bad fun _ _ => rfl
 | ixa n s g x y =>
  have e1 := g1 x (fun t ht => by simp [I.sl, ht])
  have e2 := g1 y (fun t ht => by simp [I.sl, ht])
  simp only [I.den, iIxa, e1, e2]
  refine .nat (f := fun i k _ => match get st.tm x with
   | .ag cs => .chk (Nat.blt i n) (cutD s (i * s) cs fun cs => Ev.oneD (pickC s g cs) fun v => k v st)
   | _ => .bad) (f' := fun i k _ => match get st.tm x with
   | .ag cs => .chk (Nat.blt i n) (cutD s (i * s) cs fun cs => Ev.oneD (pickC s g cs) fun v => k v st')
   | _ => .bad) fun i => ?_
  cases get st.tm x with
  | ag cs => exact .chk (.cut (f := fun cs k _ => Ev.oneD (pickC s g cs) fun v => k v st) (f' := fun cs k _ => Ev.oneD (pickC s g cs) fun v => k v st') fun cs => .oneD (f := fun v k _ => k v st) (f' := fun v k _ => k v st') fun v _ => .val v)
  | _ => exact .bad fun _ _ => rfl
 | ext x n =>
  have e := g1 x (fun t ht => ht)
  simp only [I.den, iExt, e]
  cases get st.tm x with
  | tu xs => exact .oneD (f := fun v k _ => notLpD v fun v => k v st) (f' := fun v k _ => notLpD v fun v => k v st') fun v _ => .notLp
  | _ => exact .bad fun _ _ => rfl
 | len s x =>
  have e := g1 x (fun t ht => ht)
  simp only [I.den, iLen, e]
  exact .oneD (f := fun n k _ => k (i64 (.ofNat n)) st) (f' := fun n k _ => k (i64 (.ofNat n)) st') fun n _ => .val _
 | mn3 m x y z =>
  have e1 := g1 x (fun t ht => by simp [I.sl, ht])
  have e2 := g1 y (fun t ht => by simp [I.sl, ht])
  have e3 := g1 z (fun t ht => by simp [I.sl, ht])
  simp only [I.den, iMn3, e1, e2, e3]
  exact .oneD (f := fun u k _ => Ev.oneD (minmax m u (get st.tm z)) fun v => k v st) (f' := fun u k _ => Ev.oneD (minmax m u (get st.tm z)) fun v => k v st') fun u _ => .oneD (f := fun v k _ => k v st) (f' := fun v k _ => k v st') fun v _ => .val v
 | mnx m x y =>
  have e1 := g1 x (fun t ht => by simp [I.sl, ht])
  have e2 := g1 y (fun t ht => by simp [I.sl, ht])
  simp only [I.den, iMnx, e1, e2]
  exact .oneD (f := fun v k _ => k v st) (f' := fun v k _ => k v st') fun v _ => .val v
 | call o md f xs => cases md <;> cases hi
 | calv fs f xs => cases fs <;> cases hi
 | _ => cases hi
end
end Ev
namespace Ev
variable [Glob]
open Go
def GO (call : Call) (L : Nat) (tm : Tm) (F F' : FF) : Prop :=
 Bad call L F \/ ∀ k kp, run call L (F k kp) = run call L (F' (fun v s => k v ⟨tm, s.lo, s.hp⟩) (fun v s => kp v ⟨tm, s.lo, s.hp⟩))
theorem same_refl {st st' : St} (hl : st'.lo = st.lo) (hh : st'.hp = st.hp) (v : V) : Same st st' v := by
 cases v <;> simp only [Same, hl, hh] <;> exact fun bk h => ⟨bk, h, rfl, rfl⟩
theorem fresh_sub {us us' : List Nat} {tm tm' : Tm} (h : ∀ t, t ∈ us' -> t ∈ us /\ (tm' t = tm t \/ tm' t = .un)) {d : Nat} (hf : fresh us tm d = true) : fresh us' tm' d = true := by
 induction us' with
 | nil => rfl
 | cons a r ih =>
  have ih' := ih fun t ht => h t (.tail _ ht)
  obtain ⟨h1, h2⟩ := h a (by simp)
  simp only [fresh]
  rcases h2 with h2 | h2
  ·rw [h2]
   have := fresh_ne hf h1
   cases hv : tm a with
   | lp e off =>
    have hne : e ≠ d := fun q => this off (by rw [hv, q])
    simp only [beqF hne, cond_false]; exact ih'
   | _ => exact ih'
  ·rw [h2]; exact ih'
theorem freshH_ne {us : List Nat} {tm : Tm} {id : Nat} (h : freshH us tm id = true) {t : Nat} (ht : t ∈ us) : (∀ i off, tm t ≠ .pt id i off) /\ (∀ i len, tm t ≠ .hs id i len) /\ tm t ≠ .mp id := by
 induction us with
 | nil => cases ht
 | cons a r ih =>
  simp only [freshH] at h
  rcases List.mem_cons.1 ht with rfl | ht
  ·refine ⟨fun i off e => ?_, fun i off e => ?_, fun e => ?_⟩ <;> simp [e] at h
  ·refine ih ?_ ht
   split at h
   ·rename_i e' i' o' _
    cases hb : Nat.beq e' id with
    | true => simp [hb] at h
    | false => simpa [hb] using h
   ·rename_i e' i' o' _
    cases hb : Nat.beq e' id with
    | true => simp [hb] at h
    | false => simpa [hb] using h
   ·rename_i e' _
    cases hb : Nat.beq e' id with
    | true => simp [hb] at h
    | false => simpa [hb] using h
   ·exact h
theorem freshH_sub {us us' : List Nat} {tm tm' : Tm} (h : ∀ t, t ∈ us' -> t ∈ us /\ (tm' t = tm t \/ tm' t = .un)) {id : Nat} (hf : freshH us tm id = true) : freshH us' tm' id = true := by
 induction us' with
 | nil => rfl
 | cons a r ih =>
  have ih' := ih fun t ht => h t (.tail _ ht)
  obtain ⟨h1, h2⟩ := h a (by simp)
  simp only [freshH]
  rcases h2 with h2 | h2
  ·rw [h2]
   obtain ⟨n1, n2, n3⟩ := freshH_ne hf h1
   cases hv : tm a with
   | mp e =>
    have hne : e ≠ id := fun q => n3 (by rw [hv, q])
    simp only [beqF hne, cond_false]; exact ih'
   | pt e i off =>
    have hne : e ≠ id := fun q => n1 i off (by rw [hv, q])
    simp only [beqF hne, cond_false]; exact ih'
   | hs e i off =>
    have hne : e ≠ id := fun q => n2 i off (by rw [hv, q])
    simp only [beqF hne, cond_false]; exact ih'
   | _ => exact ih'
  ·rw [h2]; exact ih'
theorem keepsB_sub {us us' : List Nat} {tm tm' : Tm} {hp h : Hp} (hus : ∀ t, t ∈ us' -> t ∈ us /\ (tm' t = tm t \/ tm' t = .un)) (hk : keepsB us tm hp h = true) : keepsB us' tm' hp h = true := by
 unfold keepsB at *
 rw [List.all_eq_true] at *
 intro t ht
 obtain ⟨h1, h2⟩ := hus t ht
 rcases h2 with h2 | h2
 ·rw [h2]; exact hk t h1
 ·rw [h2]; rfl
section
variable {call : Call} {L : Nat} {tm tm' : Tm} {lo : Lo} {hp : Hp}
theorem GO.bad {F F' : FF} (h : ∀ k kp, F k kp = .bad) : GO call L tm F F' := .inl fun k kp => by rw [h]; rfl
theorem GO.same {F F' : FF} (h : ∀ k kp, F k kp = F' (fun v s => k v ⟨tm, s.lo, s.hp⟩) (fun v s => kp v ⟨tm, s.lo, s.hp⟩)) : GO call L tm F F' := .inr fun k kp => by rw [h]
theorem elemsD_bad {sz : Nat} {v : V} : run call L (elemsD hp sz v fun _ => .bad) = .bad := by
 cases v <;> simp only [elemsD] <;> (try rfl)
 ·rename_i n es; cases Nat.beq n sz <;> rfl
 ·rename_i id i len
  cases hget hp id with
  | none => rfl
  | some b =>
   simp only []
   cases Nat.beq b.sz sz with
   | false => rfl
   | true => simp only [cond_true, run]; cases Nat.ble (i + len) b.es.length <;> rfl
theorem rowsD_bad {sz : Nat} {v : V} : run call L (rowsD hp sz v fun _ => .bad) = .bad := by
 have hel := elemsD_bad (call := call) (L := L) (hp := hp) (sz := sz) (v := v)
 cases v <;> first | exact hel | (simp only [rowsD]; cases Nat.beq sz 1 <;> rfl)
theorem app_key {us us' : List Nat} (hus : ∀ t, t ∈ us' -> t ∈ us /\ (tm' t = tm t \/ tm' t = .un)) {s b : Nat} : ∀ v, (∀ (k : V -> St -> D) new, appendD us ⟨tm, lo, hp⟩ s b v new k = .bad) \/ ∀ (k : V -> St -> D) new, appendD us ⟨tm, lo, hp⟩ s b v new k = appendD us' ⟨tm', lo, hp⟩ s b v new (fun v s => k v ⟨tm, s.lo, s.hp⟩) := by
 intro v
 cases v with
 | ns => exact .inr fun k new => by cases new <;> simp only [appendD, Ev.mk, St.setHp]
 | vs m es => exact .inr fun k new => by simp only [appendD]
 | hs id i n =>
  cases hg : hget hp id with
  | none => exact .inl fun k new => by simp only [appendD, hg]
  | some bk =>
   cases hf : freshH us tm id with
   | false => exact .inl fun k new => by simp only [appendD, hg, hf, cond_false]; cases bk.fr <;> cases Nat.blt id hp.lim <;> cases Nat.beq bk.sz s <;> rfl
   | true => exact .inr fun k new => by simp only [appendD, hg, hf, freshH_sub hus hf, cond_true, St.setHp]
 | _ => exact .inl fun k new => rfl
theorem frame {i : I} {us us' clr : List Nat} {d : Nat} (hsl : ∀ t, t ∈ i.sl -> tm' t = tm t) (hus : ∀ t, t ∈ us' -> t ∈ us /\ (tm' t = tm t \/ tm' t = .un)) :
  GO call L tm (i.den us clr d ⟨tm, lo, hp⟩) (i.den us' clr d ⟨tm', lo, hp⟩) := by
 have g1 : ∀ x : A, (∀ t, t ∈ slotsA x -> t ∈ i.sl) -> get tm' x = get tm x := fun x hx => get_eq fun t ht => hsl t (hx t ht)
 by_cases he : i.easy = true
 ·rcases easy_frame (call := call) (L := L) (st := ⟨tm, lo, hp⟩) (st' := ⟨tm', lo, hp⟩) (us := us) (us' := us') (clr := clr) (d := d) he hsl (fun x _ => same_refl rfl rfl _) with h | ⟨v, h, h'⟩
  ·exact .inl h
  ·exact .inr fun k kp => by rw [h, h']
 ·show GO call L tm (fun k kp => i.den us clr d ⟨tm, lo, hp⟩ k kp) (fun k kp => i.den us' clr d ⟨tm', lo, hp⟩ k kp)
  cases i with
  | alc z =>
   cases hf : fresh us tm d with
   | false => exact .bad fun k kp => by simp only [I.den, iAlc, hf, cond_false]
   | true => exact .same fun k kp => by simp only [I.den, iAlc, hf, fresh_sub hus hf, cond_true, St.setLo]
  | alh z => exact .same fun k kp => by simp only [I.den, iAlh, Ev.mk, St.setHp]
  | box x =>
   have e := g1 x (fun t ht => ht)
   cases hf : fresh us tm d with
   | false => exact .bad fun k kp => by simp only [I.den, iBox, hf, cond_false]; cases (get tm x).cells.all V.keep <;> rfl
   | true => exact .same fun k kp => by simp only [I.den, iBox, e, hf, fresh_sub hus hf, cond_true, St.setLo]
  | bxh x =>
   have e := g1 x (fun t ht => ht)
   exact .same fun k kp => by simp only [I.den, iBxh, e, Ev.mk, St.setHp]
  | bsl sz es ps =>
   have e : (ps.map fun (i, a) => (i, get tm' a)) = ps.map fun (i, a) => (i, get tm a) := by
    apply List.map_congr_left
    rintro ⟨o, a⟩ hx
    simp only [g1 a (fun t ht => by simp only [I.sl, List.mem_flatMap]; exact ⟨_, hx, ht⟩)]
   exact .same fun k kp => by
    simp only [I.den, iBsl, e]
    cases fillE sz (ps.map fun (i, a) => (i, get tm a)) es <;> simp only [Ev.mk, St.setHp]
  | sto n a x =>
   have e1 := g1 a (fun t ht => by simp [I.sl, ht])
   have e2 := g1 x (fun t ht => by simp [I.sl, ht])
   have key : ∀ xs v, (∀ k : V -> St -> D, storeD us ⟨tm, lo, hp⟩ xs v (fun s => k .un s) = .bad) \/ ∀ k : V -> St -> D, storeD us ⟨tm, lo, hp⟩ xs v (fun s => k .un s) = storeD us' ⟨tm', lo, hp⟩ xs v (fun s => k .un ⟨tm, s.lo, s.hp⟩) := by
    intro xs v
    cases v with
    | lp t off =>
     cases hl : lo t with
     | none => exact .inl fun k => by simp only [storeD, hl]
     | some cs =>
      cases hf : fresh us tm t with
      | false => exact .inl fun k => by simp only [storeD, hl, hf, cond_false]
      | true => exact .inr fun k => by simp only [storeD, hl, hf, fresh_sub hus hf, cond_true, St.setLo]
    | pt id j off =>
     cases hg : hget hp id with
     | none => exact .inl fun k => by simp only [storeD, hg]
     | some b =>
      cases hf : freshH us tm id with
      | false => exact .inl fun k => by simp only [storeD, hg, hf, cond_false]; cases b.fr <;> cases Nat.blt id hp.lim <;> rfl
      | true => exact .inr fun k => by simp only [storeD, hg, hf, freshH_sub hus hf, cond_true, St.setHp]
    | _ => exact .inl fun k => rfl
   rcases key (get tm x).cells (get tm a) with h | h
   ·exact .bad fun k kp => by
     simp only [I.den, iSto, h]
     cases Nat.beq (get tm x).cells.length n <;> cases (get tm x).cells.all V.keep <;> rfl
   ·exact .same fun k kp => by simp only [I.den, iSto, e1, e2, h]
  | cnv c x =>
   have e := g1 x (fun t ht => ht)
   cases c with
   | s2b => exact .same fun k kp => by
             simp only [I.den, iCnv, e]
             cases get tm x <;> simp only [convD, Ev.mk, St.setHp]
   | _ => exact absurd rfl he
  | mks s b z l c =>
   have e1 := g1 l (fun t ht => by simp [I.sl, ht])
   have e2 := g1 c (fun t ht => by simp [I.sl, ht])
   exact .same fun k kp => by simp only [I.den, iMks, e1, e2, Ev.mk, St.setHp]
  | app s b x y =>
   have e1 := g1 x (fun t ht => by simp [I.sl, ht])
   have e2 := g1 y (fun t ht => by simp [I.sl, ht])
   have key := app_key (lo := lo) (hp := hp) hus (s := s) (b := b)
   rcases key (get tm x) with h | h
   ·refine .inl fun k kp => ?_
    simp only [I.den, iApp, h]
    exact rowsD_bad
   ·exact .same fun k kp => by simp only [I.den, iApp, e1, e2, h]
  | apz x n =>
   have e1 := g1 x (fun t ht => by simp [I.sl, ht])
   have e2 := g1 n (fun t ht => by simp [I.sl, ht])
   have key : ∀ v, (∀ (k : V -> St -> D) new, appendD us ⟨tm, lo, hp⟩ 1 1 v new k = .bad) \/ ∀ (k : V -> St -> D) new, appendD us ⟨tm, lo, hp⟩ 1 1 v new k = appendD us' ⟨tm', lo, hp⟩ 1 1 v new (fun v s => k v ⟨tm, s.lo, s.hp⟩) := app_key hus
   rcases key (get tm x) with h | h
   ·refine .inl fun k kp => ?_
    simp only [I.den, iApz, h]
    cases get tm n with
    | it kk z =>
     simp only [natD, run]
     cases (!(ilt z 0)) with
     | false => rfl
     | true =>
      simp only [cond_true]
      cases Nat.blt 0 z.toNat with
      | false => rfl
      | true =>
       simp only [cond_true]
       cases Nat.ble z.toNat maxB <;> rfl
    | _ => rfl
   ·exact .same fun k kp => by simp only [I.den, iApz, e1, e2, h]
  | cpy sz x y =>
   have e1 := g1 x (fun t ht => by simp [I.sl, ht])
   have e2 := g1 y (fun t ht => by simp [I.sl, ht])
   have key : ∀ v, (∀ (k : V -> St -> D) new, cpyD us ⟨tm, lo, hp⟩ sz new v k = .bad) \/ ∀ (k : V -> St -> D) new, cpyD us ⟨tm, lo, hp⟩ sz new v k = cpyD us' ⟨tm', lo, hp⟩ sz new v (fun v s => k v ⟨tm, s.lo, s.hp⟩) := by
    intro v
    cases v with
    | hs id i n =>
     cases hg : hget hp id with
     | none => exact .inl fun k new => by simp only [cpyD, hg]
     | some bk =>
      cases hf : freshH us tm id with
      | false => exact .inl fun k new => by simp only [cpyD, hg, hf, cond_false]; cases bk.fr <;> cases Nat.blt id hp.lim <;> cases Nat.beq bk.sz sz <;> rfl
      | true => exact .inr fun k new => by simp only [cpyD, hg, hf, freshH_sub hus hf, cond_true, St.setHp]
    | _ => exact .inl fun k new => rfl
   rcases key (get tm x) with h | h
   ·refine .inl fun k kp => ?_
    simp only [I.den, iCpy, h]
    exact elemsD_bad
   ·exact .same fun k kp => by simp only [I.den, iCpy, e1, e2, h]
  | clr sz z x =>
   have e1 := g1 x (fun t ht => ht)
   cases hx : get tm x with
   | ns => exact .same fun k kp => by simp only [I.den, iClr, e1, hx, clrD]
   | hs id i n =>
    cases hn : Nat.beq n 0 with
    | true => exact .same fun k kp => by simp only [I.den, iClr, e1, hx, clrD, hn, cond_true]
    | false =>
     cases hg : hget hp id with
     | none => exact .bad fun k kp => by simp only [I.den, iClr, hx, clrD, hn, cond_false, hg]
     | some bk =>
      cases hf : freshH us tm id with
      | false => exact .bad fun k kp => by simp only [I.den, iClr, hx, clrD, hn, hg, hf, cond_false]; cases bk.fr <;> cases Nat.blt id hp.lim <;> cases Nat.beq bk.sz sz <;> rfl
      | true => exact .same fun k kp => by simp only [I.den, iClr, e1, hx, clrD, hn, hg, hf, freshH_sub hus hf, cond_true, cond_false, St.setHp]
   | _ => exact .bad fun k kp => by simp only [I.den, iClr, hx, clrD]
  | mmk => exact .same fun k kp => by simp only [I.den, iMmk, Ev.mk, St.setHp]
  | mup x i v =>
   have e1 := g1 x (fun t ht => by simp [I.sl, ht])
   have e2 := g1 i (fun t ht => by simp [I.sl, ht])
   have e3 := g1 v (fun t ht => by simp [I.sl, ht])
   cases hi : get tm i with
   | st l =>
    cases hx : get tm x with
    | mp id =>
     cases hg : hget hp id with
     | none => exact .bad fun k kp => by simp only [I.den, iMup, hi, hx, hg]
     | some bk =>
      cases hf : freshH us tm id with
      | false => exact .bad fun k kp => by simp only [I.den, iMup, hi, hx, hg, hf, cond_false]; cases Nat.beq bk.sz 2 <;> cases Nat.blt id hp.lim <;> rfl
      | true => exact .same fun k kp => by simp only [I.den, iMup, e1, e2, e3, hi, hx, hg, hf, freshH_sub hus hf, cond_true, St.setHp]
    | _ => exact .bad fun k kp => by simp only [I.den, iMup, hi, hx]
   | _ => exact .bad fun k kp => by simp only [I.den, iMup, hi]
  | mrk x =>
   have e1 := g1 x (fun t ht => by simp [I.sl, ht])
   exact .same fun k kp => by
    simp only [I.den, iMrk, e1]
  | call o md f xs =>
   have e : xs.map (get tm') = xs.map (get tm) := map_get_eq fun t ht => hsl t ht
   cases hl : (xs.map (get tm)).any isLp with
   | true => exact .bad fun k kp => by simp only [I.den, iCall, callD, hl, cond_true]
   | false =>
    cases hq : call o f (xs.map (get tm)) hp with
    | bad => exact .inl fun k kp => by simp only [I.den, iCall, callD, hl, cond_false, run, forceL_eq, hq]
    | ret v h =>
     cases hk : keepsB us tm hp h with
     | false => exact .inl fun k kp => by simp only [I.den, iCall, callD, hl, cond_false, run, forceL_eq, hq, St.setHp, hk]
     | true =>
      have hk' : keepsB us' tm' hp h = true := keepsB_sub hus hk
      exact .inr fun k kp => by simp only [I.den, iCall, e, callD, hl, cond_false, run, forceL_eq, hq, St.setHp, hk, hk', cond_true]
    | pan v h => exact .inr fun k kp => by simp only [I.den, iCall, e, callD, hl, cond_false, run, forceL_eq, hq, St.setHp]
  | calv fs f xs =>
   have e1 := g1 f (fun t ht => by simp [I.sl, ht])
   have e : xs.map (get tm') = xs.map (get tm) := map_get_eq fun t ht => hsl t (by simp only [I.sl, List.mem_append]; exact .inr ht)
   refine .inr fun k kp => ?_
   simp only [I.den, iClv, e, e1]
   cases get tm f with
   | fn f first cap =>
    simp only [callD]
    cases goodF fs f with
    | false => rfl
    | true =>
     simp only [cond_true]
     cases (first ++ xs.map (get tm) ++ cap).any isLp with
     | true => rfl
     | false =>
      simp only [cond_false, run]
      congr 1
   | _ => rfl
  | pan x =>
   have e := g1 x (fun t ht => ht)
   exact .same fun k kp => by
    simp only [I.den, iPan, e]
  | stp a x =>
   have e1 := g1 a (fun t ht => by simp [I.sl, ht])
   have e2 := g1 x (fun t ht => by simp [I.sl, ht])
   cases hx : get tm x with
   | lp t off =>
    cases hb : Nat.beq off 0 with
    | false => exact .bad fun k kp => by simp only [I.den, iStp, hx, hb, cond_false]
    | true =>
     cases hl : lo t with
     | none => exact .bad fun k kp => by simp only [I.den, iStp, hx, hb, cond_true, hl]
     | some cs =>
      have key : ∀ (v : V) (k : V -> St -> D), storeD [] ⟨tm, lno lo t, hnew hp ⟨cs.length, false, [cs]⟩⟩ [.pt hp.next 0 0] v (fun s => k .un s) = storeD [] ⟨tm', lno lo t, hnew hp ⟨cs.length, false, [cs]⟩⟩ [.pt hp.next 0 0] v (fun s => k .un ⟨tm, s.lo, s.hp⟩) := fun v k => by
       cases v <;> rfl
      exact .same fun k kp => by
       simp only [I.den, iStp, e1, e2, hx, hb, cond_true, hl]
       exact key _ _
   | _ => exact .bad fun k kp => by simp only [I.den, iStp, hx]
  | hnd hk xs =>
   have e : xs.map (get tm') = xs.map (get tm) := map_get_eq fun t ht => hsl t ht
   exact .same fun k kp => by
    simp only [I.den, iHnd, e, St.setHp]
  | _ => exact absurd rfl he
end
end Ev
namespace Ev
variable [Glob]
open Go
def Enters (P : Program) (f : FuncId) : Prop := ∃ fn, P.funcs[f]? = some fn /\ fn.name ≠ "runtime.NumGoroutine" /\ fn.body.isSome = true
structure Args (g : G) (xs : List V) (cs : Array Value) : Prop where
 size : cs.size = xs.length
 lp : ∀ x, x ∈ xs -> isLp x = false
 rep : ∀ (i : Nat) (x : V), xs[i]? = some x -> RepA g x (cs.getD i undef)
def EndR (R : Value -> World -> G -> Prop) : Ending -> World -> Prop := fun e w => ∃ cv g, e = .returned cv /\ R cv w g
def EndP (R : Value -> World -> G -> Prop) : Ending -> World -> Prop := fun e w => ∃ cv g, e = .panicked [{ v := cv, recovered := false }] /\ R cv w g
def CallOK (P : Program) (call : Call) : Prop :=
 ∀ own f xs cs E g ν lo hp w, MemR E g ν lo hp w -> Args g xs cs ->
  match call own f xs hp with
  | .bad => True
  | .ret v hp' => Enters P f /\ Calls P f cs w (EndR fun cv w' g' => MemR E g' ν lo hp' w' /\ GLe g g' /\ RepA g' v cv /\ isLp v = false)
  | .pan v hp' => Enters P f /\ Calls P f cs w (EndP fun cv w' g' => MemR E g' ν lo hp' w' /\ GLe g g' /\ RepA g' v cv /\ isLp v = false)
def FlatC (call : Call) (f : Nat) : Prop := ∀ xs hp v h', xs.all flatV = true -> call false f xs h0 = .ret v h' -> call false f xs hp = .ret v hp
theorem flat_lp : ∀ {xs : List V}, xs.all flatV = true -> xs.any isLp = false := by
 intro xs
 induction xs with
 | nil => intro _; rfl
 | cons a r ih =>
  intro h
  simp only [List.all_cons, Bool.and_eq_true] at h
  simp only [List.any_cons, ih h.2, Bool.or_false]
  cases a <;> first | rfl | (exact absurd h.1 (by decide)) | (simp [flatV, flatC] at h)
def RunOK (P : Program) (call : Call) (L : Nat) (f : FuncId) (fn : Fn) : Prop :=
 ∀ xs cs g hp w, GlobW g hp w -> HR g hp w -> Args g xs cs ->
  match runF call L fn xs hp with
  | .bad => True
  | .ret v hp' => Enters P f /\ Calls P f cs w (EndR fun cv w' g' => HR g' hp' w' /\ Evo g hp w g' hp' w' /\ RepA g' v cv /\ isLp v = false)
  | .pan v hp' => Enters P f /\ Calls P f cs w (EndP fun cv w' g' => HR g' hp' w' /\ Evo g hp w g' hp' w' /\ RepA g' v cv /\ isLp v = false)
theorem EndR.mono {R R' : Value -> World -> G -> Prop} (h : ∀ cv w g, R cv w g -> ∃ g', R' cv w g') {e : Ending} {w : World} (x : EndR R e w) : EndR R' e w := by
 obtain ⟨cv, g, rfl, hr⟩ := x
 obtain ⟨g', hr'⟩ := h cv w g hr
 exact ⟨cv, g', rfl, hr'⟩
theorem EndP.mono {R R' : Value -> World -> G -> Prop} (h : ∀ cv w g, R cv w g -> ∃ g', R' cv w g') {e : Ending} {w : World} (x : EndP R e w) : EndP R' e w := by
 obtain ⟨cv, g, rfl, hr⟩ := x
 obtain ⟨g', hr'⟩ := h cv w g hr
 exact ⟨cv, g', rfl, hr'⟩
theorem MemR.back {E : Ent} {g g' : G} {ν : Nat -> Option Nat} {lo : Lo} {hp hp' : Hp} {w w' : World} (h : MemR E g ν lo hp w) (hr : HR g' hp' w') (ev : Evo g hp w g' hp' w') : MemR E g' ν lo hp' w' := by
 refine ⟨hr, ⟨fun t cs b x h1 => ?_, h.lo.inj⟩, h.evo.trans ev⟩
 obtain ⟨h2, h3, h4, h5, h6⟩ := h.lo.box t cs b x h1
 have hnm : ¬ OwnM g b := fun ⟨id, q⟩ => by
  obtain ⟨_, _, ⟨_, es, c, q4, _⟩⟩ := h.hr.mp.live id b q
  obtain ⟨C, e, fr, q5, _⟩ := h6
  rw [q4] at q5; cases q5
 have h7 : Unf 2 w' b := by
  unfold Unf
  rw [ev.wd.2.2.1 b h6.lt h4 hnm]; exact h6
 have h6 := h6.lt
 refine ⟨fun j c hj => ?_, fun o => ?_, fun o ho => ?_, h5, h7⟩
 ·obtain ⟨k, ⟨cv, a, r⟩, f⟩ := h2 j c hj
  exact ⟨k, ⟨cv, ev.cell _ _ _ a (h4 j), r.mono ev.le⟩, by rw [ev.frozen _ _ _ a (h4 j)]; exact f⟩
 ·cases e : g'.κ b o with
  | none => rfl
  | some v =>
   rcases ev.κ b o v e with e' | e' | e'
   ·rw [h3 o] at e'; cases e'
   ·exact absurd e' (h4 o)
   ·omega
 ·rcases ev.own b o ho with e | e
  ·exact h4 o e
  ·omega
theorem rw_ok {P : Program} {call : Call} {L : Nat} {f : FuncId} {fn : Fn} (hrun : RunOK P call L f fn) {xs : List V} {cs : Array Value} {E : Ent} {g : G} {ν : Nat -> Option Nat} {lo : Lo} {hp : Hp} {w : World} (h : MemR E g ν lo hp w) (ha : Args g xs cs) :
  match runF call L fn xs hp with
  | .bad => True
  | .ret v hp' => Enters P f /\ Calls P f cs w (EndR fun cv w' g' => MemR E g' ν lo hp' w' /\ GLe g g' /\ RepA g' v cv /\ isLp v = false)
  | .pan v hp' => Enters P f /\ Calls P f cs w (EndP fun cv w' g' => MemR E g' ν lo hp' w' /\ GLe g g' /\ RepA g' v cv /\ isLp v = false) := by
 have := hrun xs cs g hp w h.globW h.hr ha
 cases hc : runF call L fn xs hp with
 | bad => trivial
 | ret v hp' =>
  rw [hc] at this
  exact ⟨this.1, Calls.mono this.2 fun e w' x => EndR.mono (fun cv w g' ⟨h1, h2, h3⟩ => ⟨g', h.back h1 h2, h2.le, h3⟩) x⟩
 | pan v hp' =>
  rw [hc] at this
  exact ⟨this.1, Calls.mono this.2 fun e w' x => EndP.mono (fun cv w g' ⟨h1, h2, h3⟩ => ⟨g', h.back h1 h2, h2.le, h3⟩) x⟩
theorem old_mono {g g' : G} {n : Nat} (hk : KLe g.κ g'.κ) (hl : ∀ id, id < n -> g'.lf id = g.lf id) :
  (∀ v cv, RepA g v cv -> oldC n v = true -> RepA g' v cv) /\ (∀ v cv, RepA g v cv -> oldV n v = true -> RepA g' v cv) /\ (∀ v cv, RepA g v cv -> oldT n v = true -> RepA g' v cv) := by
 have hC : ∀ v cv, RepA g v cv -> oldC n v = true -> RepA g' v cv := by
  intro v cv h ho
  cases h with
  | un => simp [oldC] at ho
  | c v cv e => exact .c _ _ (e.mono hk)
  | pt id i off a e =>
   have hid := bltL ho
   exact .pt _ _ _ _ (by rw [hl id hid]; exact e)
  | hs id i len a cap h0 e =>
   have hid := bltL ho
   exact .hs _ _ _ _ _ h0 (by rw [hl id hid]; exact e)
  | mp id b e =>
   have hid := bltL ho
   exact .mp _ _ (by rw [hl id hid]; exact e)
  | ip cs b o f h1 h2 => exact .ip _ b o f (fun i c hc => ⟨(h1 i c hc).1, hk _ _ _ (h1 i c hc).2⟩) (fun i c hc => (h2 i c hc).mono hk)
  | ag => simp [oldC] at ho
  | tu => simp [oldC] at ho
  | fc => simp [oldC] at ho
  | fn => simp [oldC] at ho
 have hV : ∀ v cv, RepA g v cv -> oldV n v = true -> RepA g' v cv := by
  intro v cv h ho
  by_cases hag : ∃ cs, v = .ag cs
  ·obtain ⟨cs, rfl⟩ := hag
   obtain ⟨arr, rfl, h1, h2, h3⟩ := h.ag_inv
   exact .ag cs arr h1 h2 fun i c hc => hC _ _ (h3 i c hc) (List.all_eq_true.1 ho c (List.mem_of_getElem? hc))
  ·refine hC _ _ h ?_
   cases v <;> first | exact ho | exact absurd ⟨_, rfl⟩ hag
 refine ⟨hC, hV, fun v cv h ho => ?_⟩
 by_cases htu : ∃ xs, v = .tu xs
 ·obtain ⟨xs, rfl⟩ := htu
  obtain ⟨arr, rfl, h1, h2, h3⟩ := h.tu_inv
  exact .tu xs arr h1 h2 fun i x hx => hV _ _ (h3 i x hx) (List.all_eq_true.1 ho x (List.mem_of_getElem? hx))
 ·refine hV _ _ h ?_
  cases v <;> first | exact ho | exact absurd ⟨_, rfl⟩ htu
theorem old_rep {g g' : G} {n : Nat} (hu : ∀ id, n <= id -> g.lf id = .unb) (hl : ∀ id, id < n -> g'.lf id = g.lf id) {v : V} {cv0 : Value} (h : RepA g v cv0) : ∀ cv, RepA g' v cv -> RepA ⟨g'.κ, g.lf⟩ v cv := by
 have hid : ∀ id, (g.lf id = .dead \/ (∃ r, g.lf id = .live r) \/ ∃ b, g.lf id = .mlive b) -> g'.lf id = g.lf id := fun id x => by
  refine hl id ?_
  rcases Nat.lt_or_ge id n with q | q
  ·exact q
  ·have := hu id q
   rcases x with x | ⟨r, x⟩ | ⟨r, x⟩ <;> rw [this] at x <;> cases x
 induction h with
 | un => exact fun cv _ => .un cv
 | c v cv0 e =>
  intro cv h'
  cases e <;> cases h' <;> exact .c _ _ ‹_›
 | pt id i off a e =>
  intro cv h'
  obtain ⟨a', rfl, h2⟩ := h'.pt_inv
  refine .pt _ _ _ _ ?_
  rw [hid id (e.imp (fun q => q) (fun ⟨r, q, _⟩ => .inl ⟨r, q⟩))] at h2
  exact h2
 | mp id b e =>
  intro cv h'
  obtain ⟨b', rfl, h2⟩ := h'.mp_inv
  refine .mp _ _ ?_
  rw [hid id (e.imp (fun q => q) (fun q => .inr ⟨b, q⟩))] at h2
  exact h2
 | hs id i len a cap h0 e =>
  intro cv h'
  obtain ⟨a', cap', rfl, h1, h2⟩ := h'.hs_inv'
  refine .hs _ _ _ _ _ h1 ?_
  rw [hid id (e.imp (fun q => q) (fun ⟨r, q, _⟩ => .inl ⟨r, q⟩))] at h2
  exact h2
 | ip cs b o f h1 h2 =>
  intro cv h'
  obtain ⟨b', o', f', rfl, k1, k2⟩ := h'.ip_inv
  exact .ip _ _ _ f' k1 k2
 | ag cs arr hn h1 h2 ih =>
  intro cv h'
  obtain ⟨arr', rfl, k1, k2, k3⟩ := h'.ag_inv
  exact .ag cs arr' k1 k2 fun i c hc => ih i c hc _ (k3 i c hc)
 | tu xs arr hn h1 h2 ih =>
  intro cv h'
  obtain ⟨arr', rfl, k1, k2, k3⟩ := h'.tu_inv
  exact .tu xs arr' k1 k2 fun i c hc => ih i c hc _ (k3 i c hc)
 | fc t v cv0 hl e ih =>
  intro cv h'
  obtain ⟨x, rfl, k1, k2⟩ := h'.fc_inv
  exact .fc t v x k1 (ih _ k2)
 | fn f first cap a1 a2 hn1 hn2 hl1 hl2 h1 h2 i1 i2 =>
  intro cv h'
  obtain ⟨b1, b2, rfl, k1, k2, k3, k4, k5, k6⟩ := h'.fn_inv
  exact .fn f first cap b1 b2 k1 k2 k3 k4 (fun i x hx => i1 i x hx _ (k5 i x hx)) (fun i x hx => i2 i x hx _ (k6 i x hx))
theorem HR.restore {g g' : G} {hp hp' : Hp} {w w' : World} (h : HR g hp w) (hr : HR g' hp' w') (ev : Evo g ⟨hp.next, hp.next, hp.tr⟩ w g' hp' w') :
  HR ⟨g'.κ, g.lf⟩ hp w' /\ Evo g hp w ⟨g'.κ, g.lf⟩ hp w' /\ ∀ id, id < hp.next -> g'.lf id = g.lf id := by
 have hlf : ∀ id, id < hp.next -> g'.lf id = g.lf id := by
  intro id hid
  have hro : hget hp' id = hget hp id := ev.ro id hid
  have hle := ev.le.lf id
  cases e : g.lf id with
  | unb => exact absurd e (h.bnd id hid)
  | dead => rw [e] at hle; exact hle
  | live r =>
   rw [e] at hle
   rcases hle with q | q
   ·exact q
   ·obtain ⟨bk, h1, _⟩ := h.live id r e
    have := hr.dead id q
    rw [hro, h1] at this; cases this
  | mlive b =>
   rw [e] at hle
   rcases hle with q | q
   ·exact q
   ·obtain ⟨bk, h1, _⟩ := h.mp.live id b e
    have := hr.dead id q
    rw [hro, h1] at this; cases this
 have hold : ∀ {v cv0 cv}, RepA g v cv0 -> RepA g' v cv -> RepA ⟨g'.κ, g.lf⟩ v cv := fun a b => old_rep h.unb hlf a _ b
 have hlt : ∀ id b, g.lf id = .mlive b -> id < hp.next := fun id b e => by
  rcases Nat.lt_or_ge id hp.next with q | q
  ·exact q
  ·have := h.unb id q; rw [e] at this; cases this
 refine ⟨⟨⟨fun id b e => ?_, h.mp.sep⟩, h.lim, h.nil, h.bnd, hr.kap, h.unb, h.dead, fun id r e => ?_, h.sep⟩, ⟨⟨ev.le.κ, (GLe.refl g).lf⟩, Nat.le_refl _, rfl, fun _ _ => rfl, ev.size, ev.cell, ev.frozen, fun b o x => .inl x, ev.κ, ev.wd.1, ev.wd.2.1, ev.wd.2.2.1, fun b x => .inl x⟩, hlf⟩
 ·have hid := hlt id b e
  have hro : hget hp' id = hget hp id := ev.ro id hid
  obtain ⟨bk0, k1, ⟨_, es0, c0, _, _, k6⟩⟩ := h.mp.live id b e
  obtain ⟨bk, z1, ⟨z3, es, c, z4, z5, z6⟩⟩ := hr.mp.live id b (by rw [hlf id hid, e])
  rw [hro, k1] at z1; cases z1
  refine ⟨bk0, k1, z3, es, c, z4, z5, fun i x hx => ?_⟩
  obtain ⟨l, v, en, q1, q2, q3, q4, q6⟩ := z6 i x hx
  obtain ⟨l', v', en', p1, _, _, _, p6⟩ := k6 i x hx
  rw [q1] at p1; cases p1
  exact ⟨l, v, en, q1, q2, q3, q4, hold p6 q6⟩
 have hid : id < hp.next := by
  rcases Nat.lt_or_ge id hp.next with q | q
  ·exact q
  ·have := h.unb id q; rw [e] at this; cases this
 have hro : hget hp' id = hget hp id := ev.ro id hid
 obtain ⟨bk0, k1, k2⟩ := h.live id r e
 obtain ⟨bk, z1, z2⟩ := hr.live id r (by rw [hlf id hid, e])
 rw [hro, k1] at z1; cases z1
 refine ⟨bk0, k1, ⟨z2.sz, z2.len, z2.row, fun i j x c hx hc => ?_, z2.rw, z2.frz, z2.blk⟩⟩
 obtain ⟨_, cv0, _, r0⟩ := k2.cont i j x c hx hc
 obtain ⟨a, cv, b, r1⟩ := z2.cont i j x c hx hc
 exact ⟨a, cv, b, hold r0 r1⟩
theorem ro_ok {P : Program} {call : Call} {L : Nat} {f : FuncId} {fn : Fn} (hrun : RunOK P call L f fn) {xs : List V} {cs : Array Value} {E : Ent} {g : G} {ν : Nat -> Option Nat} {lo : Lo} {hp : Hp} {w : World} (h : MemR E g ν lo hp w) (ha : Args g xs cs) :
  match runR call L fn xs hp with
  | .bad => True
  | .ret v hp' => Enters P f /\ Calls P f cs w (EndR fun cv w' g' => MemR E g' ν lo hp' w' /\ GLe g g' /\ RepA g' v cv /\ isLp v = false)
  | .pan v hp' => Enters P f /\ Calls P f cs w (EndP fun cv w' g' => MemR E g' ν lo hp' w' /\ GLe g g' /\ RepA g' v cv /\ isLp v = false) := by
 have hr0 : HR g ⟨hp.next, hp.next, hp.tr⟩ w := ⟨h.hr.mp.mono (fun _ _ _ x => x) (fun _ _ x => x) (fun _ _ x => x) (fun _ _ _ => rfl), Nat.le_refl _, h.hr.nil, h.hr.bnd, h.hr.kap, h.hr.unb, h.hr.dead, h.hr.live, h.hr.sep⟩
 have hg0 : GlobW g ⟨hp.next, hp.next, hp.tr⟩ w := ⟨h.globW.ok, h.globW.blk⟩
 have := hrun xs cs g _ w hg0 hr0 ha
 unfold runR
 cases hc : runF call L fn xs ⟨hp.next, hp.next, hp.tr⟩ with
 | bad => trivial
 | pan v hp' => trivial
 | ret v hp' =>
  rw [hc] at this
  simp only []
  cases ho : oldT hp.next v with
  | false => trivial
  | true =>
   simp only [cond_true]
   refine ⟨this.1, Calls.mono this.2 fun e w' x => EndR.mono (fun cv w' g' ⟨h1, h2, h3, h4⟩ => ?_) x⟩
   obtain ⟨r1, r2, r3⟩ := h.hr.restore h1 h2
   refine ⟨_, h.back r1 r2, r2.le, ?_, h4⟩
   exact (old_mono (g := g') (g' := ⟨g'.κ, g.lf⟩) (fun _ _ _ x => x) (fun id hid => (r3 id hid).symm)).2.2 v cv h3 ho
end Ev
namespace Ev
variable [Glob]
open Go
section
variable {E : Ent} {ν : Nat -> Option Nat} {lo : Lo} {w : World}
theorem closeP_sound {t : PT} {v x : V} {hp hp' : Hp} {g : G} {cv : Value} (h : closeP t v hp = some (x, hp')) (m : MemR E g ν lo hp w) (hr : RepA g v cv) : ∃ g', Closed E g ν lo hp w g' hp' /\ RepP g'.κ x cv := by
 unfold closeP at h
 split at h
 ·obtain ⟨g', h1, h2⟩ := (close_sound E ν lo w depth).1 _ _ _ _ _ g cv h m hr
  exact ⟨g', h1, .c _ _ h2⟩
 ·rename_i ts cs
  cases hc : closeCs depth ts cs hp with
  | none => simp [hc] at h
  | some q =>
   obtain ⟨xs, h1⟩ := q
   simp only [hc, Option.some.injEq, Prod.mk.injEq] at h
   obtain ⟨rfl, rfl⟩ := h
   obtain ⟨arr, rfl, a1, a2, a3⟩ := hr.ag_inv
   obtain ⟨g', k1, k2, k3⟩ := (close_sound E ν lo w depth).2.1 _ _ _ _ _ g (fun i => arr.getD i undef) hc m a3
   exact ⟨g', k1, .ag xs arr (by omega) (fun c hc' => by obtain ⟨i, hi⟩ := List.getElem?_of_mem hc'; exact (k3 i c hi).keep) k3⟩
 ·cases h
theorem closeAll_sound : ∀ {ts : List PT} {vs xs : List V} {hp hp' : Hp} {g : G} {f : Nat -> Value}, closeAll ts vs hp = some (xs, hp') -> MemR E g ν lo hp w -> (∀ (i : Nat) (v : V), vs[i]? = some v -> RepA g v (f i)) ->
  ∃ g', Closed E g ν lo hp w g' hp' /\ xs.length = vs.length /\ vs.length = ts.length /\ ∀ (i : Nat) (x : V), xs[i]? = some x -> RepP g'.κ x (f i)
 | [], [], xs, hp, hp', g, f, h, m, hr => by
  simp only [closeAll, Option.some.injEq, Prod.mk.injEq] at h; obtain ⟨rfl, rfl⟩ := h
  exact ⟨g, Closed.refl m, rfl, rfl, by simp⟩
 | [], _ :: _, _, _, _, _, _, h, _, _ => by simp [closeAll] at h
 | _ :: _, [], _, _, _, _, _, h, _, _ => by simp [closeAll] at h
 | t :: ts, v :: vs, xs, hp, hp', g, f, h, m, hr => by
  simp only [closeAll] at h
  cases hc : closeP t v hp with
  | none => simp [hc] at h
  | some q =>
   obtain ⟨x, h1⟩ := q
   simp only [hc] at h
   cases hcs : closeAll ts vs h1 with
   | none => simp [hcs] at h
   | some q =>
    obtain ⟨xs', h2⟩ := q
    simp only [hcs, Option.some.injEq, Prod.mk.injEq] at h
    obtain ⟨rfl, rfl⟩ := h
    obtain ⟨g1, c1, r1⟩ := closeP_sound hc m (hr 0 v rfl)
    obtain ⟨g2, c2, l2, l3, r2⟩ := closeAll_sound (f := fun i => f (i + 1)) hcs c1.mem (fun i u hu => (hr (i + 1) u (by simpa using hu)).mono c1.le)
    refine ⟨g2, c1.trans c2, by simp [l2], by simp [l3], fun i u hu => ?_⟩
    cases i with
    | zero => simp at hu; subst hu; exact r1.mono c2.le.κ
    | succ i => exact r2 i u (by simpa using hu)
end
theorem HR.apart {g : G} {hp : Hp} {w w' : World} {κ' : K} (h : HR g hp w) (hk : KLe g.κ κ') (kap : ∀ b o v, κ' b o = some v -> w'.cell? (ad b o) = some v) (hn : ∀ b o v, κ' b o = some v -> g.κ b o = some v \/ w.heap.size <= b)
  (hc : ∀ b o v, w.cell? (ad b o) = some v -> w'.cell? (ad b o) = some v) (hf : ∀ b o v, w.cell? (ad b o) = some v -> w'.frozen? (ad b o) = w.frozen? (ad b o)) (hs : w.heap.size <= w'.heap.size)
  (hwd : (w'.os = w.os /\ w'.output = w.output) /\ (∀ b, Unf 1 w b -> Unf 1 w' b) /\ ∀ b, b < w.heap.size -> w'.heap[b]? = w.heap[b]?) :
  HR ⟨κ', g.lf⟩ hp w' /\ Evo g hp w ⟨κ', g.lf⟩ hp w' := by
 have le : GLe g ⟨κ', g.lf⟩ := ⟨hk, (GLe.refl g).lf⟩
 refine ⟨⟨h.mp.mono (fun b es c x => by rw [hwd.2.2 b (Array.getElem?_eq_some_iff.1 x).1]; exact x) (fun _ _ x => x.mono le) (fun _ _ x => x) (fun _ _ _ => rfl), h.lim, h.nil, h.bnd, kap, h.unb, h.dead, fun id r e => ?_, h.sep⟩, ⟨le, Nat.le_refl _, rfl, fun _ _ => rfl, hs, fun b o v x _ => hc b o v x, fun b o v x _ => hf b o v x, fun b o x => .inl x, fun b o v x => (hn b o v x).imp id .inr, hwd.1, hwd.2.1, fun b x _ _ => hwd.2.2 b x, fun b x => .inl x⟩⟩
 obtain ⟨bk, k1, k2⟩ := h.live id r e
 refine ⟨bk, k1, k2.grow le hc hf (fun b o x ⟨v, y⟩ => ?_) fun _ _ ⟨C, q, fr, h1, h2⟩ => ⟨C, q, fr, by rw [hwd.2.2 _ (Array.getElem?_eq_some_iff.1 h1).1]; exact h1, h2⟩⟩
 cases e' : κ' b o with
 | none => exact e'
 | some u =>
  rcases hn b o u e' with q | q
  ·rw [x] at q; cases q
  ·have := cell_block y; omega
theorem HR.empty {κ : K} {w : World} (h : ∀ b o v, κ b o = some v -> w.cell? (ad b o) = some v) : HR ⟨κ, fun _ => .unb⟩ h0 w where
 mp := ⟨(fun _ _ x => nomatch x), (fun _ _ _ _ x => nomatch x)⟩
 lim := Nat.le_refl _
 nil := fun _ _ => rfl
 bnd := fun id hid => absurd hid (Nat.not_lt_zero _)
 kap := h
 unb := fun _ _ => rfl
 dead := fun _ _ => rfl
 live := fun _ _ x => nomatch x
 sep := fun _ _ _ _ _ _ _ x => nomatch x
theorem own_empty {κ : K} {b o : Nat} (x : Own ⟨κ, fun _ => .unb⟩ h0 b o) : False := by
 obtain ⟨id, r, bk, k, hl, _⟩ := x
 cases hl
theorem pure_start {E : Ent} {ν : Nat -> Option Nat} {lo : Lo} {g1 : G} {hp1 : Hp} {w : World} (m : MemR E g1 ν lo hp1 w) {xs : List V} {cs : Array Value} (hn : cs.size = xs.length) (hr : ∀ (i : Nat) (x : V), xs[i]? = some x -> RepP g1.κ x (cs.getD i undef)) :
  HR ⟨g1.κ, fun _ => .unb⟩ h0 w /\ Args ⟨g1.κ, fun _ => .unb⟩ xs cs :=
 ⟨HR.empty m.hr.kap, hn, fun x hx => by obtain ⟨i, hi⟩ := List.getElem?_of_mem hx; exact (hr i x hi).notLp, fun i x hx => (hr i x hx).toA (g := ⟨g1.κ, fun _ => .unb⟩)⟩
theorem pure_end {E : Ent} {ν : Nat -> Option Nat} {lo : Lo} {g1 : G} {hp1 : Hp} {w w' : World} (m : MemR E g1 ν lo hp1 w) {g' : G} {h : Hp} (hr : HR g' h w') (ev : Evo ⟨g1.κ, fun _ => .unb⟩ h0 w g' h w')
  {κ2 : K} (hk : KLe g'.κ κ2) (kap : ∀ b o v, κ2 b o = some v -> w'.cell? (ad b o) = some v) (hκ : ∀ b o v, κ2 b o = some v -> g'.κ b o = some v \/ Own g' h b o) :
  MemR E ⟨κ2, g1.lf⟩ ν lo hp1 w' /\ GLe g1 ⟨κ2, g1.lf⟩ := by
 have hcell : ∀ b o v, w.cell? (ad b o) = some v -> w'.cell? (ad b o) = some v := fun b o v x => ev.cell b o v x own_empty
 have hfr : ∀ b o v, w.cell? (ad b o) = some v -> w'.frozen? (ad b o) = w.frozen? (ad b o) := fun b o v x => ev.frozen b o v x own_empty
 have hkn : ∀ b o v, g'.κ b o = some v -> g1.κ b o = some v \/ w.heap.size <= b := fun b o v x => by
  rcases ev.κ b o v x with q | q | q
  ·exact .inl q
  ·exact absurd q own_empty
  ·exact .inr q
 have hle : KLe g1.κ κ2 := fun b o v x => hk b o v (ev.le.κ b o v x)
 obtain ⟨r1, r2⟩ := m.hr.apart (κ' := κ2) hle kap (fun b o v x => by
  rcases hκ b o v x with q | q
  ·exact hkn b o v q
  ·rcases ev.own b o q with q | q
   ·exact absurd q own_empty
   ·exact .inr q) hcell hfr ev.size ⟨ev.wd.1, ev.wd.2.1, fun b hb => ev.wd.2.2.1 b hb (fun o q => own_empty q) (fun ⟨_, q⟩ => by cases q)⟩
 exact ⟨m.back r1 r2, r2.le⟩
theorem untuple_len {n : Nat} {v : V} {ts : List PT} (h : (untuple n v).length = ts.length) (hn : n = ts.length) : (n = 1 /\ untuple n v = [v]) \/ (n ≠ 1 /\ ∃ xs, v = .tu xs /\ untuple n v = xs) := by
 unfold untuple at h ⊢
 cases hb : Nat.beq n 1 with
 | true => exact .inl ⟨Nat.eq_of_beq_eq_true hb, rfl⟩
 | false =>
  have hne : n ≠ 1 := fun e => by subst e; simp at hb
  simp only [hb, cond_false] at h ⊢
  split at h
  ·exact .inr ⟨hne, _, rfl, rfl⟩
  ·simp at h; omega
theorem tuple_rep {g : G} {ys : List V} {f : Nat -> Value} {cv : Value} (hr : ∀ (i : Nat) (x : V), ys[i]? = some x -> RepP g.κ x (f i)) (h1 : ys.length = 1 -> cv = f 0) (h2 : ys.length ≠ 1 -> ∃ arr : Array Value, cv = .tuple arr /\ arr.size = ys.length /\ ∀ i, i < ys.length -> f i = arr.getD i undef) :
  RepA g (tuple ys) cv /\ isLp (tuple ys) = false := by
 by_cases hl : ys.length = 1
 ·obtain ⟨y, rfl⟩ := List.length_eq_one_iff.1 hl
  have := hr 0 y rfl
  rw [h1 hl]
  exact ⟨this.toA, this.notLp⟩
 ·obtain ⟨arr, rfl, a1, a2⟩ := h2 hl
  have ht : tuple ys = .tu ys := by
   unfold tuple
   split
   ·simp at hl
   ·rfl
  rw [ht]
  refine ⟨.tu ys arr a1 (fun x hx => by obtain ⟨i, hi⟩ := List.getElem?_of_mem hx; exact (hr i x hi).notLp) fun i x hx => ?_, rfl⟩
  rw [<- a2 i (lt_of_get hx)]
  exact (hr i x hx).toA
theorem closeAll_len : ∀ {ts : List PT} {vs xs : List V} {hp hp' : Hp}, closeAll ts vs hp = some (xs, hp') -> vs.length = ts.length /\ xs.length = ts.length
 | [], [], xs, hp, hp', h => by simp only [closeAll, Option.some.injEq, Prod.mk.injEq] at h; obtain ⟨rfl, rfl⟩ := h; exact ⟨rfl, rfl⟩
 | [], _ :: _, _, _, _, h => by simp [closeAll] at h
 | _ :: _, [], _, _, _, h => by simp [closeAll] at h
 | t :: ts, v :: vs, xs, hp, hp', h => by
  simp only [closeAll] at h
  cases hc : closeP t v hp with
  | none => simp [hc] at h
  | some q =>
   obtain ⟨x, h1⟩ := q
   simp only [hc] at h
   cases hcs : closeAll ts vs h1 with
   | none => simp [hcs] at h
   | some q =>
    obtain ⟨xs', h2⟩ := q
    simp only [hcs, Option.some.injEq, Prod.mk.injEq] at h
    obtain ⟨rfl, rfl⟩ := h
    have := closeAll_len hcs
    exact ⟨by simp [this.1], by simp [this.2]⟩
theorem pure_back {E : Ent} {ν : Nat -> Option Nat} {lo : Lo} {g1 : G} {hp1 : Hp} {w w' : World} (m : MemR E g1 ν lo hp1 w) {g' : G} {h : Hp} (hr : HR g' h w') (ev : Evo ⟨g1.κ, fun _ => .unb⟩ h0 w g' h w') {rs : List PT} {v : V} {cv : Value}
  (hv : RepA g' v cv) {ys : List V} {h' : Hp} (hc : closeAll rs (untuple rs.length v) h = some (ys, h')) : ∃ g2, MemR E g2 ν lo hp1 w' /\ GLe g1 g2 /\ RepA g2 (tuple ys) cv /\ isLp (tuple ys) = false := by
 have m' : MemR ⟨⟨g1.κ, fun _ => .unb⟩, h0, w, m.globW.pure⟩ g' (fun _ => none) (fun _ => none) h w' := ⟨hr, ⟨(fun _ _ _ x _ => nomatch x), (fun _ _ _ _ x => absurd rfl x)⟩, ev⟩
 have fin : ∀ {f : Nat -> Value}, (∀ (i : Nat) (x : V), (untuple rs.length v)[i]? = some x -> RepA g' x (f i)) -> (ys.length = 1 -> cv = f 0) -> (ys.length ≠ 1 -> ∃ arr : Array Value, cv = .tuple arr /\ arr.size = ys.length /\ ∀ i, i < ys.length -> f i = arr.getD i undef) ->
   ∃ g2, MemR E g2 ν lo hp1 w' /\ GLe g1 g2 /\ RepA g2 (tuple ys) cv /\ isLp (tuple ys) = false := by
  intro f hf h1 h2
  obtain ⟨g'', c, l1, l2, r⟩ := closeAll_sound hc m' hf
  obtain ⟨e1, e2⟩ := pure_end m hr ev c.le.κ c.mem.hr.kap c.κ
  obtain ⟨t1, t2⟩ := tuple_rep (g := ⟨g''.κ, g1.lf⟩) (f := f) (cv := cv) r h1 h2
  exact ⟨_, e1, e2, t1, t2⟩
 have hl := closeAll_len hc
 rcases untuple_len hl.1 rfl with ⟨h1, h2⟩ | ⟨h1, xs, h2, h3⟩
 ·refine fin (f := fun _ => cv) (fun i x hx => ?_) (fun _ => rfl) (fun q => absurd (by rw [hl.2]; exact h1) q)
  rw [h2] at hx
  cases i with
  | zero => simp at hx; subst hx; exact hv
  | succ i => simp at hx
 ·subst h2
  obtain ⟨arr, rfl, a1, a2, a3⟩ := hv.tu_inv
  refine fin (f := fun i => arr.getD i undef) (fun i x hx => ?_) (fun q => absurd (by rw [<- hl.2]; exact q) h1) (fun _ => ⟨arr, rfl, ?_, fun _ _ => rfl⟩)
  ·rw [h3] at hx; exact a3 i x hx
  ·rw [a1, hl.2, <- hl.1, h3]
end Ev
namespace Ev
variable [Glob]
open Go
theorem MemR.adopt {E : Ent} {g : G} {ν : Nat -> Option Nat} {lo : Lo} {hp : Hp} {w0 w : World} (h : MemR E g ν lo hp w) {r : Rg} {bk : Bk} (hz : BkR g w r bk) (hfr : bk.fr = false)
  (h0 : ∀ b o, Own g hp b o -> b < w0.heap.size) (h1 : ∀ t b cs, lo t = some cs -> ν t = some b -> b < w0.heap.size) (h2 : E.w.heap.size <= w0.heap.size) (hb : 0 < r.cap * r.sz -> w0.heap.size <= r.b) :
  MemR E (born g hp r) ν lo (hnew hp bk) w := by
 have hle := born_le h.hr r
 have hnxt : g.lf hp.next = .unb := h.hr.unb _ (Nat.le_refl _)
 have hmono : ∀ {r' bk'}, BkR g w r' bk' -> BkR (born g hp r) w r' bk' := fun z =>
  ⟨z.sz, z.len, z.row, fun i j e c he hc => by obtain ⟨a, cv, b, x⟩ := z.cont i j e c he hc; exact ⟨a, cv, b, x.mono hle⟩, z.rw, z.frz, z.blk⟩
 have hlive : ∀ id r', (born g hp r).lf id = .live r' -> (id = hp.next /\ r' = r) \/ (id ≠ hp.next /\ g.lf id = .live r') := fun id r' x => by
  simp only [born] at x
  by_cases e : id = hp.next
  ·simp only [e, if_true, Life.live.injEq] at x; exact .inl ⟨e, x.symm⟩
  ·simp only [e, if_false] at x; exact .inr ⟨e, x⟩
 have hapart : ∀ id r' bk', g.lf id = .live r' -> hget hp id = some bk' -> bk'.fr = false -> r.apart r' := fun id r' bk' x y z k k' q => by
  have := h0 r'.b (r'.base + 0) ⟨id, r', bk', 0, x, y, z, k', rfl, rfl⟩
  have := hb k
  omega
 have hbl : ∀ id b, (born g hp r).lf id = .mlive b -> id ≠ hp.next /\ g.lf id = .mlive b := fun id b x => by
  simp only [born] at x
  split at x
  ·cases x
  ·exact ⟨‹_›, x⟩
 refine ⟨⟨h.hr.mp.mono (fun _ _ _ x => x) (fun _ _ x => x.mono hle) (fun id b x => (hbl id b x).2) (fun id b x => by rw [hget_hnew, if_neg (hbl id b x).1]), by have := h.hr.lim; simp only [hnew]; omega, fun id hid => by
   simp only [hnew] at hid
   rw [hget_hnew, if_neg (by omega)]; exact h.hr.nil id (by omega), fun id hid => by
   simp only [hnew] at hid
   simp only [born]; split
   ·simp
   ·exact h.hr.bnd id (by omega), h.hr.kap, fun id hid => ?_, fun id x => ?_, fun id r' x => ?_, fun id id' r1 r2 b1 b2 hne x x' y y' z z' => ?_⟩, ⟨fun t cs b x a1 => ?_, h.lo.inj⟩, ⟨h.evo.le.trans hle, by have := h.evo.next; simp only [hnew]; omega, h.evo.lim, fun id hid => ?_, h.evo.size, h.evo.cell, h.evo.frozen, fun b o x => ?_, h.evo.κ, h.evo.wd.1, h.evo.wd.2.1, h.evo.wd.2.2.1, fun b ⟨id, x⟩ => h.evo.wd.2.2.2 b ⟨id, (hbl id b x).2⟩⟩⟩
 ·simp only [hnew] at hid
  simp only [born]; rw [if_neg (by omega)]; exact h.hr.unb id (by omega)
 ·simp only [born] at x
  by_cases e : id = hp.next
  ·simp [e] at x
  ·simp only [e, if_false] at x; rw [hget_hnew, if_neg e]; exact h.hr.dead id x
 ·rcases hlive id r' x with ⟨rfl, rfl⟩ | ⟨e, x⟩
  ·exact ⟨bk, by rw [hget_hnew, if_pos rfl], hmono hz⟩
  ·obtain ⟨bk', a, b⟩ := h.hr.live id r' x
   exact ⟨bk', by rw [hget_hnew, if_neg e]; exact a, hmono b⟩
 ·rcases hlive id r1 x with ⟨e, rfl⟩ | ⟨e, x⟩
  ·rcases hlive id' r2 x' with ⟨e', rfl⟩ | ⟨e', x'⟩
   ·exact absurd (e.trans e'.symm) hne
   ·rw [hget_hnew, if_neg e'] at y'
    exact hapart id' r2 b2 x' y' z'
  ·rw [hget_hnew, if_neg e] at y
   rename_i x1
   rcases hlive id' r2 x' with ⟨e', er⟩ | ⟨e', x'⟩
   ·intro k k' q
    rw [er] at k' q
    exact hapart id r1 b1 x y z k' k q.symm
   ·rw [hget_hnew, if_neg e'] at y'
    exact h.hr.sep id id' r1 r2 b1 b2 hne x x' y y' z z'
 ·obtain ⟨a2, a3, a4, a5, a6⟩ := h.lo.box t cs b x a1
  have a7 := a6
  have a6 := a6.lt
  refine ⟨fun j c hj => ?_, a3, fun o ho => ?_, a5, a7⟩
  ·obtain ⟨k, ⟨cv, p, q⟩, s⟩ := a2 j c hj
   exact ⟨k, ⟨cv, p, q.mono hle⟩, s⟩
  ·rcases own_born h.hr ho with ho | ⟨e, k, hk, _⟩
   ·exact a4 o ho
   ·have := h1 t b cs x a1
    have := hb (by omega)
    omega
 ·rw [hget_hnew, if_neg (by have := h.hr.lim; have := h.evo.lim; omega)]; exact h.evo.ro id hid
 ·rcases own_born h.hr x with x | ⟨e, k, hk, _⟩
  ·exact h.evo.own b o x
  ·have := hb (by omega)
   exact .inr (by omega)
theorem own_back {E : Ent} {ν : Nat -> Option Nat} {lo : Lo} {g1 : G} {hp1 : Hp} {w w' : World} (m : MemR E g1 ν lo hp1 w) {g' : G} {h : Hp} (hr : HR g' h w') (ev : Evo ⟨g1.κ, fun _ => .unb⟩ h0 w g' h w') {t : PT} {v x : V} {cv : Value} {hp2 : Hp}
  (hv : RepA g' v cv) (hc : ownP t v h hp1 = some (x, hp2)) : ∃ g2, MemR E g2 ν lo hp2 w' /\ GLe g1 g2 /\ RepA g2 x cv /\ isLp x = false := by
 have m' : MemR ⟨⟨g1.κ, fun _ => .unb⟩, h0, w, m.globW.pure⟩ g' (fun _ => none) (fun _ => none) h w' := ⟨hr, ⟨(fun _ _ _ x _ => nomatch x), (fun _ _ _ _ x => absurd rfl x)⟩, ev⟩
 unfold ownP at hc
 split at hc
 ·rename_i ts id i len
  cases hg : hget h id with
  | none => simp [hg] at hc
  | some bk =>
   simp only [hg] at hc
   cases hfr : bk.fr with
   | true => simp [hfr] at hc
   | false =>
    simp only [hfr, cond_false] at hc
    cases hlm : Nat.blt id h.lim with
    | true => simp [hlm] at hc
    | false =>
     simp only [hlm, cond_false] at hc
     cases hsz : Nat.beq bk.sz ts.length with
     | false => simp [hsz] at hc
     | true =>
      simp only [hsz, cond_true] at hc
      cases hln : Nat.ble (i + len) bk.es.length with
      | false => simp [hln] at hc
      | true =>
       simp only [hln, cond_true] at hc
       have hln := Nat.le_of_ble_eq_true hln
       have hlim := bltG hlm
       cases hes : closeEs depth ts ((bk.es.drop i).take len) (hset h id none) with
       | none => simp [hes] at hc
       | some q =>
        obtain ⟨es, h'⟩ := q
        simp only [hes, Option.some.injEq, Prod.mk.injEq] at hc
        obtain ⟨rfl, rfl⟩ := hc
        obtain ⟨a, cap, rfl, c1, c2⟩ := hv.hs_inv
        rcases c2 with c2 | ⟨r, hl, c2⟩
        ·rw [hr.dead id c2] at hg; cases hg
        ·obtain ⟨bk0, e0, z⟩ := hr.live id r hl
         rw [hg] at e0; cases e0
         have mk := m'.kill hl hlim
         have hkl := killed_le hl
         have hgt : ∀ (k : Nat) (e : List V), ((bk.es.drop i).take len)[k]? = some e -> k < len /\ bk.es[i + k]? = some e := by
          intro k e he
          have hk := lt_of_get he
          rw [List.getElem?_take_of_lt (by simp at hk; omega), List.getElem?_drop] at he
          exact ⟨by simp at hk; omega, he⟩
         obtain ⟨g2, k1, k2, k3⟩ := (close_sound _ _ _ w' depth).2.2 ts _ (hset h id none) es h' (killed g' id) (fun k j => (w'.cell? (ad r.b (r.base + (i + k) * r.sz + j))).getD undef) hes mk (fun k j e c he hcc => by
          obtain ⟨_, u, b1, b2⟩ := z.cont (i + k) j e c (hgt k e he).2 hcc
          simp only [b1, Option.getD_some]; exact b2.mono hkl)
         have hlen : es.length = len := by rw [k2, List.length_take, List.length_drop]; omega
         have hicap : i + cap <= r.cap := by
          rcases c2 with c2 | ⟨_, c3⟩
          ·have := z.len; omega
          ·exact c3
         have hmul : (i + cap) * r.sz <= r.cap * r.sz := Nat.mul_le_mul_right _ hicap
         rw [Nat.add_mul] at hmul
         obtain ⟨e1, e2⟩ := pure_end m hr ev (κ2 := g2.κ) k1.le.κ k1.mem.hr.kap (fun b o v x => (k1.κ b o v x).imp (fun q => q) own_killed)
         have hbk : BkR ⟨g2.κ, g1.lf⟩ w' ⟨r.b, r.base + i * r.sz, r.sz, cap⟩ ⟨bk.sz, false, es⟩ := by
          refine ⟨z.sz, by simp only; omega, fun x hx => ?_, fun k j x c hx hcc => ?_, fun _ k hk => ?_, fun q => by simp at q, fun _ hn => z.blk hfr (by simp only at hn; omega)⟩
          ·obtain ⟨k, hk⟩ := List.getElem?_of_mem hx
           obtain ⟨⟨e, he, hl'⟩, _⟩ := k3 k x hk
           rw [hl']; exact z.row e (List.mem_of_getElem? (hgt k e he).2)
          ·obtain ⟨⟨e, he, hl'⟩, hrr⟩ := k3 k x hx
           have hj := lt_of_get hcc
           rw [hl'] at hj
           obtain ⟨_, u, b1, _⟩ := z.cont (i + k) j e (e[j]) (hgt k e he).2 (by rw [List.getElem?_eq_getElem hj])
           have hrep := hrr j c hcc
           simp only [b1, Option.getD_some] at hrep
           refine ⟨hrep.keep, u, ?_, .c _ _ hrep⟩
           simp only []
           rw [show r.base + i * r.sz + k * r.sz + j = r.base + (i + k) * r.sz + j by rw [Nat.add_mul]; omega]
           exact b1
          ·simp only at hk ⊢
           obtain ⟨b1, b2, b3⟩ := z.rw hfr (i * r.sz + k) (by omega)
           rw [show r.base + i * r.sz + k = r.base + (i * r.sz + k) by omega]
           refine ⟨b1, b2, ?_⟩
           cases q : g2.κ r.b (r.base + (i * r.sz + k)) with
           | none => rfl
           | some u =>
            rcases k1.κ _ _ u q with q | q
            ·have : g'.κ r.b (r.base + (i * r.sz + k)) = some u := q
             rw [b3] at this; cases this
            ·obtain ⟨id2, r3, bk3, k', l1, l2, l3, l4, l5, l6⟩ := q
             simp only [killed] at l1
             have hne : id2 ≠ id := fun q => by simp [q] at l1
             rw [if_neg hne] at l1
             rw [hget_hset, if_neg hne] at l2
             exact absurd l5 (hr.sep id id2 r r3 bk bk3 hne.symm hl l1 hg l2 hfr l3 (by omega) (by omega))
         have had := e1.adopt (w0 := w) hbk rfl (fun b o x => by
           obtain ⟨id', r', bk', k', x1, x2, x3, x4, x5, x6⟩ := x
           obtain ⟨v, hv⟩ := Own.bound m.hr ⟨id', r', bk', k', x1, x2, x3, x4, x5, x6⟩
           exact cell_block hv) (fun t b cs x1 x2 => by
           exact (m.lo.box t cs b x1 x2).2.2.2.2.lt) m.evo.size (fun hpos => by
           simp only at hpos ⊢
           rcases ev.own r.b (r.base + i * r.sz) ⟨id, r, bk, i * r.sz, hl, hg, hfr, by omega, rfl, rfl⟩ with q | q
           ·exact absurd q own_empty
           ·exact q)
         refine ⟨_, had, e2.trans (born_le e1.hr _), ?_, rfl⟩
         refine .hs _ _ _ _ _ c1 (.inr ⟨⟨r.b, r.base + i * r.sz, r.sz, cap⟩, by simp [born], ?_⟩)
         rcases c2 with c2 | ⟨c2, _⟩
         ·exact .inl ⟨c2, RepA.hs_nn hv hl⟩
         ·exact .inr ⟨by simp [c2], by simp⟩
 ·rename_i hne
  cases hcp : closeP t v h with
  | none => simp [hcp] at hc
  | some q =>
   obtain ⟨y, h'⟩ := q
   simp only [hcp, Option.some.injEq, Prod.mk.injEq] at hc
   obtain ⟨rfl, rfl⟩ := hc
   obtain ⟨g'', c, r⟩ := closeP_sound hcp m' hv
   obtain ⟨e1, e2⟩ := pure_end m hr ev c.le.κ c.mem.hr.kap c.κ
   exact ⟨_, e1, e2, r.toA (g := ⟨g''.κ, g1.lf⟩), r.notLp⟩
theorem pure_ok {P : Program} {call : Call} {L : Nat} {f : FuncId} {fn : Fn} (hrun : RunOK P call L f fn) {own : Bool} {xs : List V} {cs : Array Value} {E : Ent} {g : G} {ν : Nat -> Option Nat} {lo : Lo} {hp : Hp} {w : World} (h : MemR E g ν lo hp w) (ha : Args g xs cs) :
  match runP own call L fn xs hp with
  | .bad => True
  | .ret v hp' => Enters P f /\ Calls P f cs w (EndR fun cv w' g' => MemR E g' ν lo hp' w' /\ GLe g g' /\ RepA g' v cv /\ isLp v = false)
  | .pan v hp' => Enters P f /\ Calls P f cs w (EndP fun cv w' g' => MemR E g' ν lo hp' w' /\ GLe g g' /\ RepA g' v cv /\ isLp v = false) := by
 unfold runP
 cases hc : closeAll fn.ps xs hp with
 | none => trivial
 | some q =>
  obtain ⟨ys, hp1⟩ := q
  obtain ⟨g1, c, l1, l2, r⟩ := closeAll_sound (f := fun i => cs.getD i undef) hc h ha.rep
  obtain ⟨s1, s2⟩ := pure_start c.mem (cs := cs) (by rw [ha.size, l1]) r
  have hr := hrun ys cs ⟨g1.κ, fun _ => .unb⟩ h0 w c.mem.globW.pure s1 s2
  simp only []
  cases hf : runF call L fn ys h0 with
  | bad => trivial
  | pan v hh => simp only [back]
  | ret v hh =>
   rw [hf] at hr
   obtain ⟨he, hcalls⟩ := hr
   have gen : ∀ rs : List PT, match (match closeAll rs (untuple rs.length v) hh with
     | some (xs, _) => CR.ret (tuple xs) hp1
     | none => CR.bad) with
    | .bad => True
    | .ret v hp' => Enters P f /\ Calls P f cs w (EndR fun cv w' g' => MemR E g' ν lo hp' w' /\ GLe g g' /\ RepA g' v cv /\ isLp v = false)
    | .pan v hp' => Enters P f /\ Calls P f cs w (EndP fun cv w' g' => MemR E g' ν lo hp' w' /\ GLe g g' /\ RepA g' v cv /\ isLp v = false) := by
    intro rs
    cases hcl : closeAll rs (untuple rs.length v) hh with
    | none => trivial
    | some q =>
     obtain ⟨zs, h'⟩ := q
     refine ⟨he, Calls.mono hcalls fun e w' x => EndR.mono (fun cv w' g' ⟨x1, x2, x3, _⟩ => ?_) x⟩
     obtain ⟨g2, y1, y2, y3, y4⟩ := pure_back c.mem x1 x2 x3 hcl
     exact ⟨g2, y1, c.le.trans y2, y3, y4⟩
   unfold back
   cases own with
   | false => exact gen fn.rs
   | true =>
    cases hrs : fn.rs with
    | nil => simp only []; exact gen []
    | cons t ts =>
     cases ts with
     | cons t' ts => simp only []; exact gen (t :: t' :: ts)
     | nil =>
      simp only []
      cases hcl : ownP t v hh hp1 with
      | none => trivial
      | some q =>
       obtain ⟨x, hp2⟩ := q
       refine ⟨he, Calls.mono hcalls fun e w' x => EndR.mono (fun cv w' g' ⟨x1, x2, x3, _⟩ => ?_) x⟩
       obtain ⟨g2, y1, y2, y3, y4⟩ := own_back c.mem x1 x2 x3 hcl
       exact ⟨g2, y1, c.le.trans y2, y3, y4⟩
end Ev
namespace Ev
variable [Glob]
open Go
structure PanA (E : Ent) (g : G) (ν : Nat -> Option Nat) (st s : St) (v : V) (cv : Value) (w' : World) (g' : G) : Prop where
 mem : MemR E g' ν s.lo s.hp w'
 le : GLe g g'
 val : RepA g' v cv
 lp : isLp v = false
theorem run_callFunc {P : Program} {w : World} {f : FuncId} {args : Array Value} (h : Enters P f) : (callFunc f args).run P w = .ok (.enter f args) w := by
 obtain ⟨fn, h1, h2, h3⟩ := h
 obtain ⟨b, hb⟩ := Option.isSome_iff_exists.1 h3
 simp [callFunc, h1, h2, hb]
theorem args_of {g : G} {ν : Nat -> Option Nat} {tm : Tm} {a : Act} (hgl : GlobOK g.κ) (ht : ∀ t, RepT g ν (tm t) (a.tmps.getD t undef)) {ops : Array Operand} {as : List A} (ha : allSome cA ops.toList = some as) (hl : (as.map (get tm)).any isLp = false) :
  Args g (as.map (get tm)) (ops.map a.eval) := by
 have hall : ∀ x, x ∈ as.map (get tm) -> isLp x = false := fun x hx => by
  have := List.any_eq_false.1 hl x hx; simpa using this
 refine ⟨by have := allSome_len ha; simp at this ⊢; omega, hall, fun i x hx => ?_⟩
 have hm := hall x (List.mem_of_getElem? hx)
 rw [List.getElem?_map] at hx
 cases hq : as[i]? with
 | none => simp [hq] at hx
 | some q =>
  simp only [hq, Option.map_some, Option.some.injEq] at hx; subst hx
  obtain ⟨y, hy, hcy⟩ := allSome_get ha i q hq
  have : (ops.map a.eval).getD i undef = a.eval y := by
   simp only [Array.getElem?_toList] at hy
   simp [Array.getD_eq_getD_getElem?, hy]
  rw [this]; exact (cA_rep hcy hgl ht).toA hm
theorem Args.append {g : G} {xs ys : List V} {a b : Array Value} (h : Args g xs a) (h' : Args g ys b) : Args g (xs ++ ys) (a ++ b) := by
 refine ⟨by simp [h.size, h'.size], fun x hx => (List.mem_append.1 hx).elim (h.lp x) (h'.lp x), fun i x hx => ?_⟩
 by_cases hi : i < xs.length
 ·rw [List.getElem?_append_left hi] at hx
  have : (a ++ b).getD i undef = a.getD i undef := by
   rw [Array.getD_eq_getD_getElem?, Array.getElem?_append_left (by rw [h.size]; exact hi), Array.getD_eq_getD_getElem?]
  rw [this]; exact h.rep i x hx
 ·rw [List.getElem?_append_right (by omega)] at hx
  have : (a ++ b).getD i undef = b.getD (i - xs.length) undef := by
   rw [Array.getD_eq_getD_getElem?, Array.getElem?_append_right (by rw [h.size]; omega), h.size, Array.getD_eq_getD_getElem?]
  rw [this]; exact h'.rep _ x hx
section
variable {e : Env}
theorem callD_ok (h : e.St) (hcall : CallOK e.P e.call) {own : Bool} {f : FuncId} {vs : List V} {cs : Array Value} (ha : vs.any isLp = false -> Args e.g vs cs) (hx : Enters e.P f -> (execOp e.a.eval e.o).run e.P e.w = .ok (.enter f cs) e.w)
  {k kp : V -> St -> D} {r0 : R} (hrun : run e.call e.L (callD own f vs e.st k kp) = r0) (hb : r0 ≠ .bad) {next : Act -> World -> Prop} {Q : Exit -> Act -> World -> Prop}
  (hk : ∀ v s cv w' g' ν', run e.call e.L (k v s) = r0 -> After e.E e.clr e.dst e.g e.ν e.st v s cv w' g' ν' -> next (e.a.put e.o.dst cv) w')
  (hp : ∀ v s cv w' g', run e.call e.L (kp v s) = r0 -> PanA e.E e.g e.ν e.st s v cv w' g' -> Q (.panic [{ v := cv, recovered := false }]) e.a w') : e.o.wp e.P e.a e.w next Q := by
 unfold callD at hrun
 cases hl : vs.any isLp with
 | true => simp only [hl, cond_true, run] at hrun; exact absurd hrun.symm hb
 | false =>
  simp only [hl, cond_false, run, forceL_eq] at hrun
  have hok := hcall own f vs cs e.E e.g e.ν e.st.lo e.st.hp e.w h.mem (ha hl)
  cases hc : e.call own f vs e.st.hp with
  | bad => simp only [hc, run] at hrun; exact absurd hrun.symm hb
  | ret v hp' =>
   simp only [hc] at hrun hok
   unfold Oper.wp
   rw [hx hok.1, Oper.upon_enter]
   refine Calls.mono hok.2 fun en w' x => ?_
   obtain ⟨cv, g', rfl, h1, h2, h3, h4⟩ := x
   exact hk v (e.st.setHp hp') cv w' g' e.ν hrun ⟨rfl, h1, h2, .inl rfl, .ofA h3, fun _ _ _ _ q => by subst q; simp [isLp] at h4⟩
  | pan v hp' =>
   simp only [hc] at hrun hok
   unfold Oper.wp
   rw [hx hok.1, Oper.upon_enter]
   refine Calls.mono hok.2 fun en w' x => ?_
   obtain ⟨cv, g', rfl, h1, h2, h3, h4⟩ := x
   exact hp v (e.st.setHp hp') cv w' g' hrun ⟨h1, h2, h3, h4⟩
theorem op_ok (h : e.St) (hcall : CallOK e.P e.call) {pol : Pol} (hfl : ∀ f, pol.mds f = .pure -> FlatC e.call f) {i : I} {d : Nat} {us : List Nat} (hi : cIns e.P pol e.o = some i) (hde : e.dst = e.o.dst) (hd : ∀ d', e.dst = some d' -> d' = d) (hus : i.boxes = true -> ∀ t, hasN e.clr t = true -> t ∈ us)
  {k kp : V -> St -> D} {r0 : R} (hrun : run e.call e.L (i.den us e.clr d e.st k kp) = r0) (hb : r0 ≠ .bad) {next : Act -> World -> Prop} {Q : Exit -> Act -> World -> Prop}
  (hk : ∀ v s cv w' g' ν', run e.call e.L (k v s) = r0 -> After e.E e.clr e.dst e.g e.ν e.st v s cv w' g' ν' -> next (e.a.put e.o.dst cv) w')
  (hp : ∀ v s cv w' g', run e.call e.L (kp v s) = r0 -> PanA e.E e.g e.ν e.st s v cv w' g' -> Q (.panic [{ v := cv, recovered := false }]) e.a w') : e.o.wp e.P e.a e.w next Q := by
 by_cases hnc : i.calls = false
 ·rcases ins_ok h (us := us) hi hnc hde hd hus with hbad | ⟨v, s, cv, w', g', ν', ho, hf, ha⟩
  ·rw [hbad] at hrun; exact absurd hrun.symm hb
  ·have := hk v s cv w' g' ν' ((ho k kp).symm.trans hrun) ha
   unfold Oper.wp
   cases hf with
   | value _ _ hf => rw [hf]; exact this
   | skip _ hf => rw [hf]; exact this
 ·have hi : cIns0 e.P pol e.o = some i := by
   obtain ⟨hh, xs, hq⟩ := cHnd_form e.P e.o
   unfold cIns at hi
   split at hi
   ·simp only [Option.some.injEq] at hi; subst hi; rw [hq] at hnc; exact absurd rfl hnc
   ·split at hi
    ·rename_i i' h0
     simp only [Option.some.injEq] at hi; subst hi; exact h0
    ·simp only [Option.some.injEq] at hi; subst hi; rw [hq] at hnc; exact absurd rfl hnc
  unfold cIns0 at hi
  cases ho : e.o.op <;> simp only [ho, reduceCtorEq] at hi
  case panic x =>
   cases hx : cA x <;> simp only [hx, Option.map_none, Option.map_some, reduceCtorEq, Option.some.injEq] at hi
   subst hi
   rename_i xa
   have hr := h.rep hx
   simp only [I.den, iPan] at hrun
   cases hg : get e.st.tm xa with
   | fc t v =>
    rw [hg] at hr
    simp only [hg] at hrun
    obtain ⟨cv, hcv, _, _⟩ := RepA.fc_inv hr
    unfold Oper.wp
    have : (execOp e.a.eval e.o).run e.P e.w = .halt (.panic (.iface t cv)) e.w := by simp [execOp, ho, hcv, Instr.panic]
    rw [this, Oper.upon_panic]
    exact hp (.fc t v) e.st _ e.w e.g hrun ⟨h.mem, GLe.refl _, by rw [hcv] at hr; exact hr, rfl⟩
   | _ => simp only [hg, run] at hrun; exact absurd hrun.symm hb
  case call c =>
   split at hi
   ·rename_i f xs hcal ha
    split at hi
    ·exfalso
     split at hi
     ·simp only [Option.some.injEq] at hi; subst hi; exact hnc rfl
     ·cases hi
    split at hi
    ·exfalso
     split at hi
     ·simp only [Option.some.injEq] at hi; subst hi; exact hnc rfl
     ·cases hi
    split at hi
    ·rename_i hcp
     simp only [Option.some.injEq] at hi; subst hi
     have hpu : pol.mds f = .pure := by
      unfold isCpf at hcp
      cases hmd : pol.mds f <;> simp [hmd] at hcp ⊢
     have hrun2 : run e.call e.L (iCpf f xs us e.clr d e.st k kp) = r0 := hrun
     unfold iCpf at hrun2
     cases hfx : (xs.map (get e.st.tm)).all flatV with
     | false => simp only [hfx, cond_false, run] at hrun2; exact absurd hrun2.symm hb
     | true =>
      simp only [hfx, cond_true, run, forceL_eq] at hrun2
      have hlp : (xs.map (get e.st.tm)).any isLp = false := flat_lp hfx
      cases hq : e.call false f (xs.map (get e.st.tm)) h0 with
      | bad => simp only [hq, run] at hrun2; exact absurd hrun2.symm hb
      | pan v h' => simp only [hq, run] at hrun2; exact absurd hrun2.symm hb
      | ret v h' =>
       simp only [hq] at hrun2
       have hq2 := hfl f hpu _ e.st.hp _ _ hfx hq
       refine callD_ok (k := k) (kp := kp) h hcall (own := false) (f := f) (fun hl => args_of h.mem.glob h.tm ha hl) (fun hen => ?_) (r0 := r0) ?_ hb hk hp
       ·simp only [execOp, ho, resolve, hcal, Deferred.ofValue, Sem.run_bind, Act.eval, Sem.run_pure, Result.andThen_ok, invoke]
        simp [run_callFunc hen]
       ·unfold callD
        simp only [hlp, cond_false, run, forceL_eq, hq2]
        exact hrun2
    simp only [Option.some.injEq] at hi; subst hi
    have hrun2 : run e.call e.L (callD (match e.o.dst with | some d => hasN pol.own d | none => false) f (xs.map (get e.st.tm)) e.st (fun v s => bif keepsB us e.st.tm e.st.hp s.hp then k v s else .bad) kp) = r0 := hrun
    refine callD_ok h hcall (fun hl => args_of h.mem.glob h.tm ha hl) (fun hen => ?_) hrun2 hb (fun v s cv w' g' ν' hr2 haf => ?_) hp
    rotate_left
    ·cases hkb : keepsB us e.st.tm e.st.hp s.hp with
     | false => simp only [hkb, cond_false, run] at hr2; exact absurd hr2.symm hb
     | true => simp only [hkb, cond_true] at hr2; exact hk v s cv w' g' ν' hr2 haf
    simp only [execOp, ho, resolve, hcal, Deferred.ofValue, Sem.run_bind, Act.eval, Sem.run_pure, Result.andThen_ok, invoke]
    simp [run_callFunc hen]
   ·rename_i fx xs _ hcal ha
    cases hf : cA fx <;> simp only [hf, Option.map_none, Option.map_some, reduceCtorEq, Option.some.injEq] at hi
    subst hi
    rename_i fa
    have hr := h.rep hf
    simp only [I.den, iClv] at hrun
    cases hg : get e.st.tm fa with
    | fn f first cap =>
     rw [hg] at hr
     simp only [hg] at hrun
     cases hgf : goodF (bif pol.fns.all (fun g => notRw (pol.mds g)) then pol.fns else []) f with
     | false => simp only [hgf, cond_false, run] at hrun; exact absurd hrun.symm hb
     | true =>
     simp only [hgf, cond_true] at hrun
     obtain ⟨a1, a2, hcv, n1, n2, l1, l2, r1, r2⟩ := RepA.fn_inv hr
     refine callD_ok h hcall (cs := a1 ++ c.args.map e.a.eval ++ a2) (fun hl => ?_) (fun hen => ?_) hrun hb hk hp
     ·have hl' : (xs.map (get e.st.tm)).any isLp = false := by
       rw [List.any_append, List.any_append, Bool.or_eq_false_iff, Bool.or_eq_false_iff] at hl
       exact hl.1.2
      exact (Args.append (Args.append ⟨n1, l1, r1⟩ (args_of h.mem.glob h.tm ha hl')) ⟨n2, l2, r2⟩)
     ·simp only [execOp, ho, resolve, hcal, hcv, Deferred.ofValue, Sem.run_bind, Sem.run_pure, Result.andThen_ok, invoke]
      simp [run_callFunc hen]
    | _ => simp only [hg, run] at hrun; exact absurd hrun.symm hb
   ·rename_i b xs hcal ha
    exfalso
    apply hnc
    clear hk hp hrun hcall
    repeat' (split at hi)
    all_goals first | (simp only [Option.some.injEq] at hi; subst hi; rfl) | cases hi
   ·cases hi
  case' makeFunc f first cap => cases f <;> simp only [reduceCtorEq] at hi
  case' makeMap t hint => cases hint <;> simp only [reduceCtorEq] at hi
  case' slice t x lo hh mx => cases mx <;> simp only [reduceCtorEq] at hi
  all_goals
   exfalso
   apply hnc
   clear hk hp hrun hcall
   revert hi
   repeat' split
   all_goals intro hi
   all_goals first | (simp only [Option.some.injEq] at hi; subst hi; rfl) | (simp only [reduceCtorEq] at hi; done) | (simp only [Option.map_eq_some_iff] at hi; obtain ⟨_, _, rfl⟩ := hi; rfl) | skip
end
end Ev
namespace Ev
variable [Glob]
open Go
theorem StR.put {E : Ent} {ntm : Nat} {clr : List Nat} {g : G} {ν : Nat -> Option Nat} {st : St} {a : Act} {w : World} (h : StR E ntm clr g ν st a w) {dst : Option Nat} (hd : lessN ntm dst = true)
  {v : V} {s : St} {cv : Value} {w' : World} {g' : G} {ν' : Nat -> Option Nat} (ha : After E clr dst g ν st v s cv w' g' ν') : StR E ntm clr g' ν' (Ev.put s dst v) (a.put dst cv) w' := by
 cases dst with
 | none =>
  have hnu : ν' = ν := by
   rcases ha.nu with q | ⟨d, q, _⟩
   ·exact q
   ·cases q
  refine ⟨h.size, h.defers, fun t => ?_, fun t d off x => ?_, ha.mem⟩
  ·show RepT g' ν' (s.tm t) _
   rw [ha.tmeq, hnu]; exact (h.tm t).mono ha.le fun _ _ _ => rfl
  ·have x : s.tm t = .lp d off := x
   rw [ha.tmeq] at x; exact h.lps t d off x
 | some d =>
  have hlt : d < a.tmps.size := by rw [h.size]; exact bltL hd
  refine ⟨by simp [Act.put, h.size], h.defers, fun t => ?_, fun t e off x => ?_, ha.mem⟩
  ·simp only [Ev.put, Act.put, upd]
   by_cases e : t = d
   ·subst e
    simp only [Nat.beq_refl, cond_true]
    have : (a.tmps.setIfInBounds t cv).getD t undef = cv := by simp [Array.getD_eq_getD_getElem?, hlt]
    rw [this]; exact ha.val
   ·simp only [beqF e, cond_false]
    have : (a.tmps.setIfInBounds d cv).getD t undef = a.tmps.getD t undef := by simp [Array.getD_eq_getD_getElem?, Ne.symm e]
    rw [this, ha.tmeq]
    refine (h.tm t).mono ha.le fun x off hx => ?_
    rcases ha.nu with q | ⟨d', q, ⟨y, hy⟩, q'⟩
    ·rw [q]
    ·cases q
     rw [hy]
     have : x ≠ d := fun c => q' t e off (by rw [hx, c])
     simp [this]
  ·simp only [Ev.put, upd] at x
   by_cases c : t = d
   ·subst c
    simp only [Nat.beq_refl, cond_true] at x
    exact ha.lp t rfl e off x
   ·simp only [beqF c, cond_false] at x
    rw [ha.tmeq] at x; exact h.lps t e off x
theorem StR.skip {E : Ent} {ntm : Nat} {clr : List Nat} {g : G} {ν : Nat -> Option Nat} {st : St} {a : Act} {w : World} (h : StR E ntm clr g ν st a w) {dst : Option Nat} (hd : lessN ntm dst = true) :
  StR E ntm clr g ν (Ev.put st dst (.tu [])) (a.put dst undef) w :=
 h.put hd ⟨rfl, h.mem, GLe.refl g, .inl rfl, .ofA (.tu [] #[] rfl (by simp) (by simp)), fun _ _ _ _ x => nomatch x⟩
structure Rel (P : Program) (pol : Pol) (ntm : Nat) (clr : List Nat) (ops : Array Oper) (i : Nat) (o : DOp) (op : Oper) : Prop where
 at_ : ops[i]? = some op
 ins : cIns P pol op = some o.ins
 dst : o.dst = op.dst
 gd : cGd ops op.guard = some o.gd
 less : lessN ntm o.dst = true
 own : sameD o.dst (o.gd.map (·.1)) = false
 us : o.ins.boxes = true -> ∀ t, hasN clr t = true -> t ∈ o.us
theorem wanted_none {P : Program} {pol : Pol} {ntm : Nat} {clr : List Nat} {ops : Array Oper} {i : Nat} {o : DOp} {op : Oper} (r : Rel P pol ntm clr ops i o op) (h : o.gd = none) (f : Nat -> Option Bool) : Region.wanted op f = true := by
 have hg := r.gd
 rw [h] at hg
 unfold Region.wanted
 cases hq : op.guard with
 | none => rfl
 | some q =>
  obtain ⟨j, w⟩ := q
  rw [hq] at hg
  simp only [cGd] at hg
  cases hd : (ops[j]?).bind (·.dst) <;> simp [hd] at hg
theorem yielded_bo {ops : Array Oper} {tmps : Array Value} {j d : Nat} {b : Bool} (hd : (ops[j]?).bind (·.dst) = some d) (h : tmps.getD d undef = .bool b) : yielded ops tmps j = some b := by
 unfold yielded
 rw [hd]
 simp only [Option.bind_some]
 rw [Array.getD_eq_getD_getElem?] at h
 cases q : tmps[d]? with
 | none => rw [q] at h; simp [undef] at h
 | some v => rw [q] at h; simp only [Option.getD_some] at h; subst h; rfl
theorem yielded_tu {ops : Array Oper} {tmps : Array Value} {j d : Nat} {x : Array Value} (hd : (ops[j]?).bind (·.dst) = some d) (h : tmps.getD d undef = .tuple x) : yielded ops tmps j = none := by
 unfold yielded
 rw [hd]
 simp only [Option.bind_some]
 rw [Array.getD_eq_getD_getElem?] at h
 cases q : tmps[d]? with
 | none => rfl
 | some v => rw [q] at h; simp only [Option.getD_some] at h; subst h; rfl
theorem wanted_some {P : Program} {pol : Pol} {ntm : Nat} {clr : List Nat} {ops : Array Oper} {i : Nat} {o : DOp} {op : Oper} (r : Rel P pol ntm clr ops i o op) {t : Nat} {w : Bool} (h : o.gd = some (t, w)) {tmps : Array Value} :
  (∀ b, tmps.getD t undef = .bool b -> Region.wanted op (yielded ops tmps) = (b == w)) /\ (∀ x, tmps.getD t undef = .tuple x -> Region.wanted op (yielded ops tmps) = false) := by
 have hg := r.gd
 rw [h] at hg
 cases hq : op.guard with
 | none => rw [hq] at hg; simp [cGd] at hg
 | some q =>
  obtain ⟨j, w'⟩ := q
  rw [hq] at hg
  simp only [cGd] at hg
  cases hd : (ops[j]?).bind (·.dst) with
  | none => simp [hd] at hg
  | some d =>
   simp only [hd, Option.map_some, Option.some.injEq, Prod.mk.injEq] at hg
   obtain ⟨rfl, rfl⟩ := hg
   unfold Region.wanted
   rw [hq]
   refine ⟨fun b hb => ?_, fun x hx => ?_⟩
   ·show (yielded ops tmps j == some w') = _
    rw [yielded_bo hd hb]; cases b <;> cases w' <;> rfl
   ·show (yielded ops tmps j == some w') = _
    rw [yielded_tu hd hx]; rfl
inductive RelL (P : Program) (pol : Pol) (ntm : Nat) (clr : List Nat) (ops : Array Oper) : List Nat -> List DOp -> Prop
 | nil : RelL P pol ntm clr ops [] []
 | cons {i : Nat} {o : DOp} {op : Oper} {is : List Nat} {os : List DOp} (h : Rel P pol ntm clr ops i o op) (t : RelL P pol ntm clr ops is os) : RelL P pol ntm clr ops (i :: is) (o :: os)
def PanS (E : Ent) (v : V) (s : St) (cv : Value) (w : World) : Prop :=
 ∃ g ν, MemR E g ν s.lo s.hp w /\ RepA g v cv /\ isLp v = false
theorem upd_self {tm : Tm} {t : Nat} {v : V} (h : tm t = v) : upd tm t v = tm := by
 funext j
 simp only [upd]
 by_cases e : j = t
 ·subst e; simp [h]
 ·simp [beqF e]
theorem RepT.tup_nil {g : G} {ν : Nat -> Option Nat} {cv : Value} (h : RepT g ν (.tu []) cv) : ∃ x, cv = .tuple x := by
 obtain ⟨arr, e, _⟩ := RepA.tu_inv h
 exact ⟨arr, e⟩
section
variable {P : Program} {call : Call} {L : Nat} {pol : Pol} {E : Ent} {ntm : Nat} {clr : List Nat} {ops : Array Oper} {Q : Exit -> Act -> World -> Prop}
theorem put_other {st s : St} {dst : Option Nat} {v : V} {t : Nat} (h : sameD dst (some t) = false) (hs : s.tm = st.tm) : (Ev.put s dst v).tm t = st.tm t := by
 cases dst with
 | none => exact congrFun hs t
 | some d =>
  have : t ≠ d := fun e => by subst e; simp [sameD] at h
  simp only [Ev.put, upd, beqF this, cond_false, hs]
theorem evL_ok (hcall : CallOK P call) (hfl : ∀ f, pol.mds f = .pure -> FlatC call f) {gd : Option (Nat × Bool)} {k : R -> D} {r0 : R} (hb : r0 ≠ .bad) {rest : List Nat}
  (hk : ∀ st a w g ν, StR E ntm clr g ν st a w -> run call L (k (.norm st)) = r0 -> wpOps P ops Q rest a w)
  (hp : ∀ v s a w cv, a.defers = [] -> PanS E v s cv w -> run call L (k (.pan v s)) = r0 -> Q (.panic [{ v := cv, recovered := false }]) a w) :
  ∀ (os : List DOp) (is : List Nat) (st : St) (a : Act) (w : World) (g : G) (ν : Nat -> Option Nat), RelL P pol ntm clr ops is os -> (∀ o, o ∈ os -> o.gd = gd) ->
   (∀ t b, gd = some (t, b) -> st.tm t = .bo b) -> StR E ntm clr g ν st a w -> run call L (evL clr (os.map DOp.den) st k) = r0 -> wpOps P ops Q (is ++ rest) a w := by
 intro os
 induction os with
 | nil =>
  intro is st a w g ν hr _ _ hs hrun
  cases hr
  exact hk st a w g ν hs hrun
 | cons o os ih =>
  intro is st a w g ν hr hg ht hs hrun
  cases hr with
  | cons h t =>
   rename_i i op is
   have hog : o.gd = gd := hg o (by simp)
   simp only [List.cons_append, wpOps, h.at_]
   have hw : Region.wanted op (yielded ops a.tmps) = true := by
    cases hgd : gd with
    | none => exact wanted_none h (hog.trans hgd) _
    | some q =>
     obtain ⟨gt, gb⟩ := q
     have h1 := (wanted_some h (hog.trans hgd) (tmps := a.tmps)).1 gb
     have h2 := hs.tm gt
     rw [ht gt gb hgd] at h2
     rw [h1 (RepA.bo_inv h2)]
     cases gb <;> rfl
   rw [if_pos hw]
   refine .inl ?_
   simp only [List.map_cons, evL, DOp.den] at hrun
   refine op_ok (e := ⟨P, E, ntm, clr, o.dst, g, ν, st, a, w, op, call, L⟩) hs hcall (pol := pol) hfl (i := o.ins) (d := o.dst.getD 0) (us := o.us) h.ins h.dst (fun d' hd' => by have q : o.dst = some d' := hd'; simp [q]) h.us hrun hb ?_ ?_
   ·intro v s cv w' g' ν' hrun' ha
    have hst := hs.put h.less ha
    have hdo : op.dst = o.dst := h.dst.symm
    show wpOps P ops Q (is ++ rest) (a.put op.dst cv) w'
    rw [hdo]
    refine ih is _ _ _ g' ν' t (fun o' ho' => hg o' (by simp [ho'])) (fun gt gb hgd => ?_) hst hrun'
    rw [put_other (st := st) ?_ ha.tmeq, ht gt gb hgd]
    have := h.own; rw [hog, hgd] at this; exact this
   ·intro v s cv w' g' hrun' ha
    exact hp v s a w' cv hs.defers ⟨g', ν, ha.mem, ha.val, ha.lp⟩ hrun'
theorem undo_ok {rest : List Nat} {gt : Nat} {gb : Bool} :
  ∀ (os : List DOp) (is : List Nat) (st : St) (a : Act) (w : World) (g : G) (ν : Nat -> Option Nat), RelL P pol ntm clr ops is os -> (∀ o, o ∈ os -> o.gd = some (gt, gb)) ->
   (st.tm gt = .bo (!gb) \/ st.tm gt = .tu []) -> StR E ntm clr g ν st a w ->
   (∀ a g ν, StR E ntm clr g ν (undo (os.map DOp.den) st) a w -> wpOps P ops Q rest a w) -> wpOps P ops Q (is ++ rest) a w := by
 intro os
 induction os with
 | nil =>
  intro is st a w g ν hr _ _ hs hk
  cases hr
  exact hk a g ν hs
 | cons o os ih =>
  intro is st a w g ν hr hg ht hs hk
  cases hr with
  | cons h t =>
   rename_i i op is
   have hog : o.gd = some (gt, gb) := hg o (by simp)
   simp only [List.cons_append, wpOps, h.at_]
   have hw : Region.wanted op (yielded ops a.tmps) = false := by
    obtain ⟨h1, h2⟩ := wanted_some h hog (tmps := a.tmps)
    have h3 := hs.tm gt
    rcases ht with ht | ht
    ·rw [ht] at h3
     rw [h1 _ (RepA.bo_inv h3)]; cases gb <;> rfl
    ·rw [ht] at h3
     obtain ⟨x, hx⟩ := h3.tup_nil
     exact h2 x hx
   rw [if_neg (by rw [hw]; simp)]
   rw [<- h.dst]
   have hne : sameD o.dst (some gt) = false := by have := h.own; rw [hog] at this; exact this
   refine ih is (Ev.put st o.dst (.tu [])) _ w g ν t (fun o' ho' => hg o' (by simp [ho'])) ?_ (hs.skip h.less) hk
   rw [put_other hne rfl]; exact ht
theorem evG_ok (hcall : CallOK P call) (hfl : ∀ f, pol.mds f = .pure -> FlatC call f) {gr : DGr} {k : R -> D} {r0 : R} (hb : r0 ≠ .bad) {rest is : List Nat} {st : St} {a : Act} {w : World} {g : G} {ν : Nat -> Option Nat}
  (hr : RelL P pol ntm clr ops is gr.ops) (hg : ∀ o, o ∈ gr.ops -> o.gd = gr.gd) (hs : StR E ntm clr g ν st a w) (hrun : run call L (evG clr gr.den st k) = r0)
  (hk : ∀ st a w g ν, StR E ntm clr g ν st a w -> run call L (k (.norm st)) = r0 -> wpOps P ops Q rest a w)
  (hp : ∀ v s a w cv, a.defers = [] -> PanS E v s cv w -> run call L (k (.pan v s)) = r0 -> Q (.panic [{ v := cv, recovered := false }]) a w) : wpOps P ops Q (is ++ rest) a w := by
 unfold evG DGr.den at hrun
 cases hgd : gr.gd with
 | none =>
  simp only [hgd] at hrun
  exact evL_ok hcall hfl hb hk hp gr.ops is st a w g ν hr hg (fun t b q => by rw [hgd] at q; cases q) hs hrun
 | some q =>
  obtain ⟨gt, gb⟩ := q
  simp only [hgd] at hrun
  have hskip : (st.tm gt = .bo (!gb) \/ st.tm gt = .tu []) -> run call L (k (.norm (undo (gr.ops.map DOp.den) st))) = r0 -> wpOps P ops Q (is ++ rest) a w := fun h1 h2 =>
   undo_ok gr.ops is st a w g ν hr (fun o ho => (hg o ho).trans hgd) h1 hs fun a' g' ν' hs' => hk _ _ _ _ _ hs' h2
  cases hv : st.tm gt with
  | bo b =>
   simp only [hv, run] at hrun
   by_cases hbw : b = gb
   ·subst hbw
    have : (bif b then b else !b) = true := by cases b <;> rfl
    simp only [this, cond_true, upd_self hv] at hrun
    exact evL_ok hcall hfl hb hk hp gr.ops is st a w g ν hr hg (fun t b' q => by rw [hgd] at q; cases q; exact hv) hs hrun
   ·have : (bif gb then b else !b) = false := by cases b <;> cases gb <;> simp_all
    have hbe : b = !gb := by cases b <;> cases gb <;> simp_all
    rw [hbe] at hv
    simp only [this, cond_false, upd_self hv] at hrun
    exact hskip (.inl hv) hrun
  | tu xs =>
   cases xs with
   | nil => simp only [hv] at hrun; exact hskip (.inr hv) hrun
   | cons => simp only [hv, run] at hrun; exact absurd hrun.symm hb
  | _ => simp only [hv, run] at hrun; exact absurd hrun.symm hb
theorem clear_get : ∀ (l : List Nat) (tm : Tm) (t : Nat), clear l tm t = if t ∈ l then .un else tm t := by
 intro l
 induction l with
 | nil => intro tm t; simp [clear]
 | cons d r ih =>
  intro tm t
  simp only [clear, ih, upd]
  by_cases h : t ∈ r
  ·simp [h]
  ·by_cases e : t = d
   ·subst e; simp
   ·simp [h, e, beqF e]
theorem StR.clear {g : G} {ν : Nat -> Option Nat} {st : St} {a : Act} {w : World} (h : StR E ntm clr g ν st a w) : StR E ntm [] g ν ⟨Ev.clear clr st.tm, st.lo, st.hp⟩ a w := by
 refine ⟨h.size, h.defers, fun t => ?_, fun t d off x => ?_, h.mem⟩
 ·simp only [clear_get]
  split
  ·exact RepA.un _
  ·exact h.tm t
 ·simp only [clear_get] at x
  split at x
  ·cases x
  ·rename_i hn
   rcases h.lps t d off x with q | q
   ·exact .inl q
   ·exact absurd (hasN_mem q) hn
theorem StR.weaken {g : G} {ν : Nat -> Option Nat} {st : St} {a : Act} {w : World} (h : StR E ntm [] g ν st a w) : StR E ntm clr g ν st a w :=
 ⟨h.size, h.defers, h.tm, fun t d off x => .inl ((h.lps t d off x).resolve_right (by simp [hasN])), h.mem⟩
theorem evGs_ok (hcall : CallOK P call) (hfl : ∀ f, pol.mds f = .pure -> FlatC call f) {k : R -> D} {r0 : R} (hb : r0 ≠ .bad)
  (hk : ∀ st a w g ν, StR E ntm [] g ν st a w -> run call L (k (.norm st)) = r0 -> Q .normal a w)
  (hp : ∀ v s a w cv, a.defers = [] -> PanS E v s cv w -> run call L (k (.pan v s)) = r0 -> Q (.panic [{ v := cv, recovered := false }]) a w) :
  ∀ (gs : List DGr) (is : List Nat) (st : St) (a : Act) (w : World) (g : G) (ν : Nat -> Option Nat), RelL P pol ntm clr ops is (gs.flatMap (·.ops)) -> (∀ gr, gr ∈ gs -> ∀ o, o ∈ gr.ops -> o.gd = gr.gd) ->
   StR E ntm clr g ν st a w -> run call L (evGs clr (gs.map DGr.den) st k) = r0 -> wpOps P ops Q is a w := by
 intro gs
 induction gs with
 | nil =>
  intro is st a w g ν hr _ hs hrun
  cases hr
  exact hk _ a w g ν hs.clear hrun
 | cons gr gs ih =>
  intro is st a w g ν hr hg hs hrun
  have hsplit : ∀ (l1 l2 : List DOp) (is : List Nat), RelL P pol ntm clr ops is (l1 ++ l2) -> ∃ i1 i2, is = i1 ++ i2 /\ RelL P pol ntm clr ops i1 l1 /\ RelL P pol ntm clr ops i2 l2 := by
   intro l1
   induction l1 with
   | nil => exact fun l2 is h => ⟨[], is, rfl, .nil, h⟩
   | cons o l1 ih =>
    intro l2 is h
    cases h with
    | cons h t =>
     obtain ⟨i1, i2, rfl, a, b⟩ := ih l2 _ t
     exact ⟨_ :: i1, i2, rfl, .cons h a, b⟩
  rw [List.flatMap_cons] at hr
  obtain ⟨i1, i2, rfl, hr1, hr2⟩ := hsplit _ _ _ hr
  simp only [List.map_cons, evGs] at hrun
  refine evG_ok hcall hfl hb hr1 (hg gr (by simp)) hs hrun ?_ ?_
  ·intro st' a' w' g' ν' hs' hrun'
   exact ih i2 st' a' w' g' ν' hr2 (fun gr' h' => hg gr' (by simp [h'])) hs' hrun'
  ·exact fun v s a' w' cv hd hps hrun' => hp v s a' w' cv hd hps hrun'
theorem sameG_eq {a b : Option (Nat × Bool)} (h : sameG a b = true) : a = b := by
 cases a with
 | none => cases b with
  | none => rfl
  | some q => simp [sameG] at h
 | some p => cases b with
  | none => simp [sameG] at h
  | some q =>
   obtain ⟨a, x⟩ := p
   obtain ⟨b, y⟩ := q
   simp only [sameG, Bool.and_eq_true, beq_iff_eq] at h
   rw [Nat.eq_of_beq_eq_true h.1, h.2]
theorem group_ok : ∀ l : List DOp, (group l).flatMap (·.ops) = l /\ ∀ gr, gr ∈ group l -> ∀ o, o ∈ gr.ops -> o.gd = gr.gd := by
 intro l
 induction l with
 | nil => exact ⟨rfl, fun _ h => by cases h⟩
 | cons o l ih =>
  obtain ⟨h1, h2⟩ := ih
  simp only [group]
  cases hg : group l with
  | nil =>
   rw [hg] at h1
   simp only []
   refine ⟨by simp [<- h1], fun gr hgr o' ho' => ?_⟩
   simp only [List.mem_singleton] at hgr; subst hgr
   simp only [List.mem_singleton] at ho'; subst ho'
   rfl
  | cons gr gs =>
   rw [hg] at h1 h2
   simp only []
   cases hs : sameG o.gd gr.gd with
   | true =>
    simp only [cond_true]
    refine ⟨by rw [<- h1]; simp, fun gr' hgr' o' ho' => ?_⟩
    rcases List.mem_cons.1 hgr' with rfl | hm
    ·rcases List.mem_cons.1 ho' with rfl | hm'
     ·exact sameG_eq hs
     ·exact h2 gr (by simp) o' hm'
    ·exact h2 gr' (by simp [hm]) o' ho'
   | false =>
    simp only [cond_false]
    refine ⟨by rw [<- h1]; simp, fun gr' hgr' o' ho' => ?_⟩
    rcases List.mem_cons.1 hgr' with rfl | hm
    ·simp only [List.mem_singleton] at ho'; subst ho'; rfl
    ·exact h2 gr' hm o' ho'
end
end Ev
namespace Ev
variable [Glob]
open Go
def HpKeep (hp hp' : Hp) : Prop := ∀ id bk, hget hp id = some bk -> ∃ bk', hget hp' id = some bk' /\ bk'.sz = bk.sz /\ bk'.es = bk.es
def HpNil (hp : Hp) : Prop := ∀ id, hp.next <= id -> hget hp id = none
theorem HpKeep.refl (hp : Hp) : HpKeep hp hp := fun _ bk h => ⟨bk, h, rfl, rfl⟩
theorem HpKeep.trans {a b c : Hp} (h : HpKeep a b) (h' : HpKeep b c) : HpKeep a c := fun id bk x => by
 obtain ⟨b1, h1, h2, h3⟩ := h id bk x
 obtain ⟨b2, k1, k2, k3⟩ := h' id b1 h1
 exact ⟨b2, k1, k2.trans h2, k3.trans h3⟩
theorem HpKeep.new {hp : Hp} (hn : HpNil hp) (b : Bk) : HpKeep hp (hnew hp b) := fun id bk x => by
 rw [hget_hnew]
 have : id ≠ hp.next := fun e => by rw [hn id (by omega)] at x; cases x
 simp only [this, if_false]; exact ⟨bk, x, rfl, rfl⟩
theorem HpKeep.freeze (hp : Hp) (id : Nat) : HpKeep hp (freeze hp id) := fun j bk x => by
 unfold Ev.freeze
 cases h : hget hp id with
 | none => exact ⟨bk, x, rfl, rfl⟩
 | some b =>
  simp only [hget_hset]
  by_cases e : j = id
  ·subst e; rw [h] at x; cases x; simp
  ·simp only [e, if_false]; exact ⟨bk, x, rfl, rfl⟩
theorem freeze_old (hp : Hp) (id j : Nat) (h : hget hp j = none) : hget (freeze hp id) j = none := by
 unfold Ev.freeze
 cases e : hget hp id with
 | none => exact h
 | some b =>
  simp only [hget_hset]
  by_cases q : j = id
  ·subst q; rw [e] at h; cases h
  ·simp [q, h]
structure Kp (hp hp' : Hp) : Prop where
 keep : HpKeep hp hp'
 none : ∀ id, hget hp id = none -> hget hp' id = none
 next : hp'.next = hp.next
theorem Kp.refl (hp : Hp) : Kp hp hp := ⟨.refl hp, fun _ h => h, rfl⟩
theorem Kp.trans {a b c : Hp} (h : Kp a b) (h' : Kp b c) : Kp a c := ⟨h.keep.trans h'.keep, fun id x => h'.none id (h.none id x), h'.next.trans h.next⟩
theorem Kp.freeze (hp : Hp) (id : Nat) : Kp hp (Ev.freeze hp id) := ⟨.freeze hp id, fun j h => freeze_old hp id j h, by unfold Ev.freeze; cases hget hp id <;> rfl⟩
theorem close_keep : ∀ n,
  (∀ t v hp x hp', closeC n t v hp = some (x, hp') -> Kp hp hp') /\
  (∀ ts vs hp xs hp', closeCs n ts vs hp = some (xs, hp') -> Kp hp hp') /\
  (∀ ts es hp xs hp', closeEs n ts es hp = some (xs, hp') -> Kp hp hp') := by
 intro n
 induction n with
 | zero => refine ⟨?_, ?_, ?_⟩ <;> intros <;> simp_all [closeC, closeCs, closeEs]
 | succ n ih =>
  obtain ⟨ih1, ih2, ih3⟩ := ih
  refine ⟨?_, ?_, ?_⟩
  ·intro t v hp x hp' h
   cases t with
   | one =>
    cases v <;> simp only [closeC, Option.some.injEq, Prod.mk.injEq, reduceCtorEq] at h <;> (obtain ⟨_, rfl⟩ := h; exact .refl _)
   | sl cs =>
    cases v with
    | ns => simp only [closeC, Option.some.injEq, Prod.mk.injEq] at h; obtain ⟨_, rfl⟩ := h; exact .refl _
    | vs sz es =>
     simp only [closeC] at h
     cases hb : Nat.beq sz cs.length <;> simp only [hb, cond_true, cond_false, Option.some.injEq, Prod.mk.injEq, reduceCtorEq] at h
     obtain ⟨_, rfl⟩ := h; exact .refl _
    | hs id i len =>
     simp only [closeC] at h
     cases hg : hget hp id with
     | none => simp [hg] at h
     | some b =>
      simp only [hg] at h
      cases hb1 : Nat.blt id hp.lim <;> simp only [hb1, cond_true, cond_false, reduceCtorEq] at h
      cases hb2 : Nat.beq b.sz cs.length <;> simp only [hb2, cond_true, cond_false, reduceCtorEq] at h
      cases hb3 : Nat.ble (i + len) b.es.length <;> simp only [hb3, cond_true, cond_false, reduceCtorEq] at h
      cases hc : closeEs n cs ((b.es.drop i).take len) (freeze hp id) with
      | none => simp [hc] at h
      | some q =>
       obtain ⟨es, hh⟩ := q
       simp only [hc, Option.some.injEq, Prod.mk.injEq] at h
       obtain ⟨_, rfl⟩ := h
       exact (Kp.freeze hp id).trans (ih3 _ _ _ _ _ hc)
    | _ => simp [closeC] at h
  ·intro ts vs hp xs hp' h
   cases ts with
   | nil => cases vs with
    | nil => simp only [closeCs, Option.some.injEq, Prod.mk.injEq] at h; obtain ⟨_, rfl⟩ := h; exact .refl _
    | cons => simp [closeCs] at h
   | cons t ts => cases vs with
    | nil => simp [closeCs] at h
    | cons v vs =>
     simp only [closeCs] at h
     cases hc : closeC n t v hp with
     | none => simp [hc] at h
     | some q =>
      obtain ⟨x, h1⟩ := q
      simp only [hc] at h
      cases hc2 : closeCs n ts vs h1 with
      | none => simp [hc2] at h
      | some q =>
       obtain ⟨ys, h2⟩ := q
       simp only [hc2, Option.some.injEq, Prod.mk.injEq] at h
       obtain ⟨_, rfl⟩ := h
       exact (ih1 _ _ _ _ _ hc).trans (ih2 _ _ _ _ _ hc2)
  ·intro ts es hp xs hp' h
   cases es with
   | nil => simp only [closeEs, Option.some.injEq, Prod.mk.injEq] at h; obtain ⟨_, rfl⟩ := h; exact .refl _
   | cons e r =>
    simp only [closeEs] at h
    cases hc : closeCs n ts e hp with
    | none => simp [hc] at h
    | some q =>
     obtain ⟨x, h1⟩ := q
     simp only [hc] at h
     cases hc2 : closeEs n ts r h1 with
     | none => simp [hc2] at h
     | some q =>
      obtain ⟨ys, h2⟩ := q
      simp only [hc2, Option.some.injEq, Prod.mk.injEq] at h
      obtain ⟨_, rfl⟩ := h
      exact (ih2 _ _ _ _ _ hc).trans (ih3 _ _ _ _ _ hc2)
theorem closeP_keep {t : PT} {v x : V} {hp hp' : Hp} (h : closeP t v hp = some (x, hp')) : Kp hp hp' := by
 cases t with
 | c t => exact (close_keep _).1 _ _ _ _ _ h
 | g ts =>
  cases v with
  | ag cs =>
   simp only [closeP] at h
   cases hc : closeCs depth ts cs hp with
   | none => simp [hc] at h
   | some q =>
    obtain ⟨y, h1⟩ := q
    simp only [hc, Option.some.injEq, Prod.mk.injEq] at h
    obtain ⟨_, rfl⟩ := h
    exact (close_keep _).2.1 _ _ _ _ _ hc
  | _ => simp [closeP] at h
theorem closeAll_keep : ∀ {ts : List PT} {vs xs : List V} {hp hp' : Hp}, closeAll ts vs hp = some (xs, hp') -> Kp hp hp' := by
 intro ts
 induction ts with
 | nil =>
  intro vs xs hp hp' h
  cases vs with
  | nil => simp only [closeAll, Option.some.injEq, Prod.mk.injEq] at h; obtain ⟨_, rfl⟩ := h; exact .refl _
  | cons => simp [closeAll] at h
 | cons t ts ih =>
  intro vs xs hp hp' h
  cases vs with
  | nil => simp [closeAll] at h
  | cons v vs =>
   simp only [closeAll] at h
   cases hc : closeP t v hp with
   | none => simp [hc] at h
   | some q =>
    obtain ⟨x, h1⟩ := q
    simp only [hc] at h
    cases hc2 : closeAll ts vs h1 with
    | none => simp [hc2] at h
    | some q =>
     obtain ⟨ys, h2⟩ := q
     simp only [hc2, Option.some.injEq, Prod.mk.injEq] at h
     obtain ⟨_, rfl⟩ := h
     exact (closeP_keep hc).trans (ih hc2)
def KeepC (call : Call) (f : Nat) : Prop := ∀ own xs hp v hp', HpNil hp -> call own f xs hp = .ret v hp' -> HpKeep hp hp'
theorem ownP_keep {t : PT} {v x : V} {h hp hp' : Hp} (hn : HpNil hp) (e : ownP t v h hp = some (x, hp')) : HpKeep hp hp' := by
 have gen : (match closeP t v h with
  | some (x, _) => some (x, hp)
  | none => none) = some (x, hp') -> HpKeep hp hp' := fun q => by
  cases hc : closeP t v h with
  | none => simp [hc] at q
  | some y => obtain ⟨a, b⟩ := y; simp only [hc, Option.some.injEq, Prod.mk.injEq] at q; obtain ⟨_, rfl⟩ := q; exact .refl _
 unfold ownP at e
 split at e
 ·rename_i ts id i len
  cases hg : hget h id with
  | none => simp [hg] at e
  | some b =>
   simp only [hg] at e
   cases hb0 : b.fr <;> simp only [hb0, cond_true, cond_false, reduceCtorEq] at e
   cases hb1 : Nat.blt id h.lim <;> simp only [hb1, cond_true, cond_false, reduceCtorEq] at e
   cases hb2 : Nat.beq b.sz ts.length <;> simp only [hb2, cond_true, cond_false, reduceCtorEq] at e
   cases hb3 : Nat.ble (i + len) b.es.length <;> simp only [hb3, cond_true, cond_false, reduceCtorEq] at e
   cases hc : closeEs depth ts ((b.es.drop i).take len) (hset h id none) with
   | none => simp [hc] at e
   | some q =>
    simp only [hc, Option.some.injEq, Prod.mk.injEq] at e
    obtain ⟨_, rfl⟩ := e
    exact .new hn _
 ·exact gen e
theorem runP_keep {own : Bool} {call : Call} {L : Nat} {fn : Fn} {args : List V} {hp : Hp} {v : V} {hp' : Hp} (hn : HpNil hp) (h : runP own call L fn args hp = .ret v hp') : HpKeep hp hp' := by
 unfold runP at h
 cases hc : closeAll fn.ps args hp with
 | none => simp [hc] at h
 | some q =>
  obtain ⟨xs, h1⟩ := q
  simp only [hc] at h
  obtain ⟨k1, k3, k2⟩ := closeAll_keep hc
  have hn1 : HpNil h1 := fun id hid => k3 id (hn id (by omega))
  refine k1.trans ?_
  cases hr : runF call L fn xs h0 with
  | bad => simp [hr, back] at h
  | pan => simp [hr, back] at h
  | ret v1 hh =>
   simp only [hr, back] at h
   have gen : (match closeAll fn.rs (untuple fn.rs.length v1) hh with
    | some (xs, _) => CR.ret (tuple xs) h1
    | none => .bad) = .ret v hp' -> HpKeep h1 hp' := fun q => by
    cases hq : closeAll fn.rs (untuple fn.rs.length v1) hh with
    | none => simp [hq] at q
    | some y => obtain ⟨a, b⟩ := y; simp only [hq, CR.ret.injEq] at q; obtain ⟨_, rfl⟩ := q; exact .refl _
   split at h
   ·rename_i t hrs
    cases ho : ownP t v1 hh h1 with
    | none => simp [ho] at h
    | some q => obtain ⟨a, b⟩ := q; simp only [ho, CR.ret.injEq] at h; obtain ⟨_, rfl⟩ := h; exact ownP_keep hn1 ho
   ·exact gen h
theorem runR_keep {call : Call} {L : Nat} {fn : Fn} {args : List V} {hp : Hp} {v : V} {hp' : Hp} (h : runR call L fn args hp = .ret v hp') : HpKeep hp hp' := by
 unfold runR at h
 split at h
 ·rename_i v1 _ _
  cases hb : oldT hp.next v1 <;> simp only [hb, cond_true, cond_false, CR.ret.injEq, reduceCtorEq] at h
  obtain ⟨_, rfl⟩ := h; exact .refl _
 ·cases h
end Ev