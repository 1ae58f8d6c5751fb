import Derived.Test.YtmlmljnjgoekiaaGreatDoorEvE
import Derived.Test.YtmlmljnjgoekiaaGreatDoorRows
import Derived.Lib.ItoaNum
import Derived.Lib.LaidTab
import Derived.KernelRfl
set_option linter.unusedVariables false
set_option linter.unusedSimpArgs false
set_option linter.unusedSectionVars false
/- of this seat's package variables one is known: the table of powers of ten -/
namespace Go.Proofs.YtmlmljnjgoekiaaGreatDoor
open Go hiding Fn
open Ev
def powV : List V := Lib.pow10Tab.map fun z => .it .u64 z
instance powGlob : Glob := ⟨fun n => if n = 0 then some powV else none⟩
theorem glob_cs {n : Nat} {cs : List V} (h : Glob.gl n = some cs) : n = 0 ∧ cs = powV := by
  have h : (if n = 0 then some powV else none) = some cs := h
  split at h
  · rename_i e; cases h; exact ⟨e, rfl⟩
  · cases h
theorem powV_at {i : Nat} {c : V} (h : powV[i]? = some c) : ∃ z, Lib.pow10Tab[i]? = some z ∧ c = .it .u64 z := by
  unfold powV at h
  rw [List.getElem?_map] at h
  cases e : Lib.pow10Tab[i]? with
  | none => rw [e] at h; cases h
  | some z => rw [e] at h; cases h; exact ⟨z, rfl, rfl⟩
theorem named : Tryz.prog.globalNamed "internal/strconv.uint64pow10" = some 0 := by kernel_rfl
theorem tab_of {g : G} {hp : Hp} {w : World} (h : GlobW g hp w) (hr : HR g hp w) : Lib.TabIs Tryz.prog w "internal/strconv.uint64pow10" .u64 Lib.pow10Tab := by
  obtain ⟨C, e, fr, q1, q2, -, -⟩ := h.blk 0 powV rfl
  unfold Lib.TabIs World.var?
  rw [named]
  show (match (w.heap[0]? : Option Obj) with | some (Obj.cells cs _ _) => some cs | _ => none) = _
  rw [q1]
  show some C = _
  congr 1
  have hl : powV.length = Lib.pow10Tab.length := by simp [powV]
  apply Array.ext
  · rw [q2, hl]; simp
  · intro i h1 h2
    have hi : i < powV.length := by omega
    obtain ⟨-, cv, k1, k2⟩ := h.ok.vars 0 powV rfl i powV[i] (List.getElem?_eq_getElem hi)
    obtain ⟨z, z1, z2⟩ := powV_at (List.getElem?_eq_getElem hi)
    rw [z2] at k2
    cases k2
    have c := hr.kap 0 i _ k1
    unfold World.cell? ad at c
    simp only [q1] at c
    have hc : C[i]? = some (.int .u64 z) := by simpa using c
    have hz : Lib.pow10Tab[i]'(by omega) = z := by
      have := List.getElem?_eq_getElem (l := Lib.pow10Tab) (i := i) (by omega)
      rw [z1] at this; cases this; rfl
    have : C[i] = Value.int .u64 z := by
      have := Array.getElem?_eq_getElem h1
      exact Option.some.inj (this.symm.trans hc)
    rw [this]
    simp [hz]
theorem glob_of {W : World} (h : Lib.TabIs Tryz.prog W "internal/strconv.uint64pow10" .u64 Lib.pow10Tab) : GlobW ⟨kAll W, fun _ => .unb⟩ h0 W := by
  refine ⟨⟨fun n cs hn i c hc => ?_⟩, fun n cs hn => ?_⟩
  · obtain ⟨rfl, rfl⟩ := glob_cs hn
    obtain ⟨z, z1, rfl⟩ := powV_at hc
    have hi : i < Lib.pow10Tab.length := (List.getElem?_eq_some_iff.1 z1).1
    have := h.cell named i hi
    refine ⟨rfl, .int .u64 z, ?_, .it _ _⟩
    rw [show z = Lib.pow10Tab.getD i 0 by simp [List.getD, z1]]
    exact this
  · obtain ⟨rfl, rfl⟩ := glob_cs hn
    unfold Lib.TabIs World.var? at h
    rw [named] at h
    have h : (match (W.heap[0]? : Option Obj) with | some (Obj.cells cs _ _) => some cs | _ => none) = some (Lib.pow10Tab.map fun z => Value.int .u64 z).toArray := h
    split at h
    · rename_i C e fr q
      cases h
      refine ⟨_, e, fr, q, by simp [powV], fun o x => ?_, fun x => ?_⟩
      · obtain ⟨id, r, bk, k, x, _⟩ := x
        cases x
      · obtain ⟨id, x⟩ := x
        cases x
    · cases h
end Go.Proofs.YtmlmljnjgoekiaaGreatDoor
