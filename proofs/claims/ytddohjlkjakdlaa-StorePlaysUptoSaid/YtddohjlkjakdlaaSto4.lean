import Derived.Test.YtddohjlkjakdlaaEvE
import Derived.Test.YtddohjlkjakdlaaSto3
set_option linter.unusedVariables false
set_option linter.unusedSimpArgs false
set_option linter.unusedSectionVars false
set_option linter.unusedVariables false
set_option linter.unusedSimpArgs false
-- the store: got, peeked at
namespace Go.Proofs.Ytddohjlkjakdlaa
open Go hiding Fn
open Ev tab
attribute [local irreducible] EvP EvD EvL EvC evGds evLs C.run sK bK gK pK fK lpB stepD
def zEn : List V := [.st [], .st [], .st [], .st [], .ns, .it .i64 (Int.ofNat 0), .it .i64 (Int.ofNat 0), .ns, .it .i64 (Int.ofNat 0), .st [], .it .i64 (Int.ofNat 0), .it .i64 (Int.ofNat 0)]
def hitV (l : List En) : Option Nat → V
  | some i => .tu [.ag (rowEn (l.getD i e0)), .bo true]
  | none => .tu [.ag zEn, .bo false]
def gotL (l : List En) : Option Nat → List En
  | some i => l.getD i e0 :: l.eraseIdx i
  | none => l
set_option maxHeartbeats 16000000 in
theorem peek_ok {own : Bool} (hp : Hp) (s : Nat) (v : V) (l : List En) (b : Nat) (q : Rq) (h : StoV hp s v l b) (hq : QOK q) :
    ∃ w hp', EvC F own 20 [.pt s 0 0, .ag (rowRq q)] hp (.ret w hp') ∧ (w = hitV l (idxS l q) ∧ hp' = hp) := by
  have hf := find_ok (own := false) hp s v l b q h hq
  have hlen := h.len
  have hobj := h.obj
  have vl := h.o.lp
  have vc := h.o.cells
  have vk := h.o.keep
  have hR := h.o.sl.rd
  have hge : ∀ i, i < l.length → (l.map rowEn).getD i [] = rowEn (l.getD i e0) := fun i => rows_getD
  have hrl : (l.map rowEn).length = l.length := List.length_map _
  refine EvC.ofQ d20 rfl rfl rfl ?_
  refine EvQ.run ?_
  first | refine EvQ.lift (fun _ zn => X.pcall (hf) X.cq rfl X.al rfl zn) ?_ | refine EvQ.lift (fun _ zn => X.pcallG (hf) rfl X.cq rfl X.al rfl zn) ?_ | refine EvQ.lift (fun _ zn => X.pcallC (hf) rfl X.cq rfl X.al rfl zn) ?_ | refine EvQ.lift (fun _ zn => X.pcallT (hf) (by decide) X.cq rfl X.al rfl zn) ?_ | refine EvQ.lift (fun _ zn => X.call rfl X.al (hf) zn) ?_
  try refine EvQ.run ?_
  cases ho : idxS l q with
  | none =>
    repeat' (first | refine EvQ.run ?_ | (refine EvQ.pickB rfl rfl rfl ?_) | (refine EvQ.cond rfl (fun h => ?_) (fun h => ?_) <;> ((first | replace h := X.nm h | skip); try have hne := ne_len h)) | (refine EvQ.g1 rfl (fun h => ?_) (fun h => ?_) <;> ((first | replace h := X.nm h | skip); try have hne := ne_len h)) | (refine EvQ.pick rfl (fun _ => rfl) (fun _ => rfl) (fun h => ?_) (fun h => ?_) <;> ((first | replace h := X.nm h | skip); try have hne := ne_len h)) | refine EvQ.fin X.rs ?_ | refine EvQ.fin1 (fun _ => rfl) rfl ?_)
    exact ⟨_, _, rfl, rfl, rfl⟩
  | some i =>
    obtain ⟨hi, hfit⟩ := idxS_some ho
    have hge := hge i hi
    have cp := copied_ok (l.getD i e0) (h.ok _ (mem_getD hi))
    have c3 := rowEn_clo (l.getD i e0)
    have e : hitV l (some i) = .tu [.ag (rowEn (l.getD i e0)), .bo true] := rfl
    rw [e]
    generalize l.getD i e0 = en at *
    repeat' (first | refine EvQ.run ?_ | refine EvQ.lift (fun _ zn => X.pcall (cp) X.cq rfl X.al rfl zn) ?_ | refine EvQ.lift (fun _ zn => X.pcallG (cp) rfl X.cq rfl X.al rfl zn) ?_ | refine EvQ.lift (fun _ zn => X.pcallC (cp) rfl X.cq rfl X.al rfl zn) ?_ | refine EvQ.lift (fun _ zn => X.pcallT (cp) (by decide) X.cq rfl X.al rfl zn) ?_ | refine EvQ.lift (fun _ zn => X.call rfl X.al (cp) zn) ?_ | (refine EvQ.pickB rfl rfl rfl ?_) | (refine EvQ.cond rfl (fun h => ?_) (fun h => ?_) <;> ((first | replace h := X.nm h | skip); try have hne := ne_len h)) | (refine EvQ.g1 rfl (fun h => ?_) (fun h => ?_) <;> ((first | replace h := X.nm h | skip); try have hne := ne_len h)) | (refine EvQ.pick rfl (fun _ => rfl) (fun _ => rfl) (fun h => ?_) (fun h => ?_) <;> ((first | replace h := X.nm h | skip); try have hne := ne_len h)) | refine EvQ.fin X.rs ?_ | refine EvQ.fin1 (fun _ => rfl) rfl ?_)
    exact ⟨_, _, rfl, rfl, rfl⟩
set_option maxHeartbeats 16000000 in
theorem get_ok {own : Bool} (hp : Hp) (s : Nat) (v : V) (l : List En) (b : Nat) (q : Rq) (h : StoV hp s v l b) (hq : QOK q) :
    ∃ w hp', EvC F own 13 [.pt s 0 0, .ag (rowRq q)] hp (.ret w hp') ∧ w = hitV l (idxS l q) ∧ ∃ v', StoV hp' s v' (gotL l (idxS l q)) b ∧ Fr s hp v hp' v' := by
  have hf := find_ok (own := false) hp s v l b q h hq
  have hlen := h.len
  refine EvC.ofQ d13 rfl rfl rfl ?_
  refine EvQ.run ?_
  first | refine EvQ.lift (fun _ zn => X.pcall (hf) X.cq rfl X.al rfl zn) ?_ | refine EvQ.lift (fun _ zn => X.pcallG (hf) rfl X.cq rfl X.al rfl zn) ?_ | refine EvQ.lift (fun _ zn => X.pcallC (hf) rfl X.cq rfl X.al rfl zn) ?_ | refine EvQ.lift (fun _ zn => X.pcallT (hf) (by decide) X.cq rfl X.al rfl zn) ?_ | refine EvQ.lift (fun _ zn => X.call rfl X.al (hf) zn) ?_
  try refine EvQ.run ?_
  cases ho : idxS l q with
  | none =>
    repeat' (first | refine EvQ.run ?_ | (refine EvQ.pickB rfl rfl rfl ?_) | (refine EvQ.cond rfl (fun h => ?_) (fun h => ?_) <;> ((first | replace h := X.nm h | skip); try have hne := ne_len h)) | (refine EvQ.g1 rfl (fun h => ?_) (fun h => ?_) <;> ((first | replace h := X.nm h | skip); try have hne := ne_len h)) | (refine EvQ.pick rfl (fun _ => rfl) (fun _ => rfl) (fun h => ?_) (fun h => ?_) <;> ((first | replace h := X.nm h | skip); try have hne := ne_len h)) | refine EvQ.fin X.rs ?_ | refine EvQ.fin1 (fun _ => rfl) rfl ?_)
    exact ⟨_, _, rfl, rfl, v, h, .refl _ _ _⟩
  | some i =>
    obtain ⟨hi, hfit⟩ := idxS_some ho
    have hE := h.ok _ (mem_getD hi)
    have cp := copied_ok (l.getD i e0) hE
    have c3 := rowEn_clo (l.getD i e0)
    have e : hitV l (some i) = .tu [.ag (rowEn (l.getD i e0)), .bo true] := rfl
    have e2 : gotL l (some i) = l.getD i e0 :: l.eraseIdx i := rfl
    have hs := getD_some hi
    have dr := drop_ok (own := false) hp s v l b i _ h hs
    have ht := totS_erase hs
    have htb := h.tot
    rw [e, e2]
    generalize l.getD i e0 = en at *
    repeat (first | refine EvQ.run ?_ | refine EvQ.fin X.rs ?_ | refine EvQ.fin1 (fun _ => rfl) rfl ?_)
    refine EvQ.call rfl X.al dr ?_
    rintro _ hp1 ⟨rfl, v1, h1, f1⟩
    repeat (first | refine EvQ.run ?_ | refine EvQ.fin X.rs ?_ | refine EvQ.fin1 (fun _ => rfl) rfl ?_)
    refine EvQ.call rfl X.al (sput_ok (own := false) hp1 s v1 _ b en h1 hE (by omega)) ?_
    rintro _ hp2 ⟨rfl, v2, h2, f2⟩
    repeat' (first | refine EvQ.run ?_ | refine EvQ.lift (fun _ zn => X.pcall (cp) X.cq rfl X.al rfl zn) ?_ | refine EvQ.lift (fun _ zn => X.pcallG (cp) rfl X.cq rfl X.al rfl zn) ?_ | refine EvQ.lift (fun _ zn => X.pcallC (cp) rfl X.cq rfl X.al rfl zn) ?_ | refine EvQ.lift (fun _ zn => X.pcallT (cp) (by decide) X.cq rfl X.al rfl zn) ?_ | refine EvQ.lift (fun _ zn => X.call rfl X.al (cp) zn) ?_ | (refine EvQ.pickB rfl rfl rfl ?_) | (refine EvQ.cond rfl (fun h => ?_) (fun h => ?_) <;> ((first | replace h := X.nm h | skip); try have hne := ne_len h)) | (refine EvQ.g1 rfl (fun h => ?_) (fun h => ?_) <;> ((first | replace h := X.nm h | skip); try have hne := ne_len h)) | (refine EvQ.pick rfl (fun _ => rfl) (fun _ => rfl) (fun h => ?_) (fun h => ?_) <;> ((first | replace h := X.nm h | skip); try have hne := ne_len h)) | refine EvQ.fin X.rs ?_ | refine EvQ.fin1 (fun _ => rfl) rfl ?_)
    exact ⟨_, _, rfl, rfl, v2, h2, f1.trans f2⟩
end Go.Proofs.Ytddohjlkjakdlaa
