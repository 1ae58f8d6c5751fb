import Derived.Test.YtgofadnggipkpaaEvSound
import Derived.ChangeSame
import Derived.ReadAgain
import Derived.OpenShut
import Derived.ProofKit
import Derived.JoinedCond
import Derived.WalkKit
namespace Ev
open Go Go.ChangeShapes Go.WideShapes Go.ChangeAt Go.RowKit

/-- no slice of a type without cells -/
def fullB (P : Program) : Bool := (List.range P.types.size).all fun t => match P.underlying t with | some (.slice e) => decide (0 < P.cellsOf e) | _ => true

/-- all that is there is known -/
def kAll (W : World) : K := fun b o => W.cell? (ad b o)

/-- what was there is as it was -/
structure Kept (W W' : World) : Prop where
  os : W'.os = W.os
  out : W'.output = W.output
  size : W.heap.size ≤ W'.heap.size
  heap : ∀ b, b < W.heap.size → W'.heap[b]? = W.heap[b]?

theorem law_calls {P : Program} {F : Nat → Option Fn} {mds : Nat → Md} (T : Table P F mds) {L n f : Nat} {fn : Fn} (hF : F f = some fn) {xs : List V} {cs : Array Value} {W : World} (ha : Args ⟨kAll W, fun _ => .unb⟩ xs cs) {hp : Hp}
    (hr : runF (callF F L n) L fn xs h0 = .ret (.bo true) hp) : Calls P f cs W fun e W' => e = .returned (.bool true) ∧ Kept W W' := by
  refine Calls.mono (sound T hF (κ := kAll W) (fun b o v h => h) ha hr) fun e W' h => ?_
  obtain ⟨cv, g', rfl, _, ev, hv, _⟩ := h
  have := RepA.bo_inv hv
  subst this
  exact ⟨rfl, ev.wd.1.1, ev.wd.1.2, ev.size, fun b hb => ev.wd.2.2.1 b hb (fun o h => own_empty h) (fun ⟨_, q⟩ => by cases q)⟩

theorem Kept.kept {W W' : World} (h : Kept W W') (may : MemPlace → Prop) : W.keptBut W' may := by
  refine ⟨h.os, h.out, fun i hi => ?_⟩
  rw [h.heap i hi]
  cases e : W.heap[i]? with
  | none => rfl
  | some o => cases o <;> first | exact ⟨rfl, rfl, rfl, fun _ _ => rfl⟩ | exact .inr ⟨rfl, rfl⟩ | rfl

theorem Kept.same {W W' : World} (h : Kept W W') {p : MemPlace} (hp : p.block < W.heap.size) : W.sameAt W' p := by
  cases p with
  | cell b off => simp only [World.sameAt, World.cell?]; rw [h.heap b hp]
  | map b => exact h.heap b hp

theorem Kept.frozen {W W' : World} (h : Kept W W') {b off : Nat} (hb : b < W.heap.size) : W'.frozen? ⟨b, off, none⟩ = W.frozen? ⟨b, off, none⟩ := by
  simp only [World.frozen?]; rw [h.heap b hb]

section
variable {H : Type} {enc : TypeId × Value → H} {P : Program}

theorem TrodAll.kept {W W' : World} (h : Kept W W') {base : Nat} {sp : Nat → Bool} {held : Bool} : ∀ {ts : List TypeId} {vs : List Value} {ds : List (DataW H)} {ps : List MemPlace}, DataW.TrodAll enc P W base sp held ts vs ds ps → DataW.TrodAll enc P W' base sp held ts vs ds ps
  | [], [], [], _, x => x
  | t :: ts, v :: vs, d :: ds, _, ⟨p, q, ⟨n, h1⟩, h2, e⟩ => ⟨p, q, ⟨n, DataW.trod_carry n _ _ _ h1 fun x hx => h.same (DataW.trod_lt n _ _ _ h1 x hx)⟩, TrodAll.kept h h2, e⟩
  | [], [], _ :: _, _, x => by cases x
  | [], _ :: _, _, _, x => by cases x
  | _ :: _, [], _, _, x => by cases x
  | _ :: _, _ :: _, [], _, x => by cases x

/-- the law's end: true; each argument reads as it did -/
theorem post_kept {f : Func} {s : ChangeSpec} {apart fresh handsOn again : Bool} {W W' : World} {args : Array Value} {ds gs : List (DataW H)} {before : List MemPlace} {tb : TypeId}
    (hW : DataW.Whole enc P f.params.toList s.vars apart W args.toList ds gs before) (hvars : s.vars = []) (hfn : s.fn H (ds ++ gs) = { results := [.lit (.bool true)], args := ds }) (hrt : f.resultTypes = #[tb]) (htb : P.underlying tb = some .bool)
    (hlo : laidOutB P = true) (hmr : mapsRowed P = true) (hz : fullB P = true) (hpt : ∀ t, t ∈ f.params.toList → t < P.types.size) (hk : Kept W W') : s.post enc P f apart fresh handsOn again W args (.bool true) W' := by
  have hlt := hW.lt
  have hW' := hW
  obtain ⟨p, q, hA, hV, hps, hfz, hnd⟩ := hW
  rw [hvars] at hV
  obtain ⟨hgs, hq⟩ := trodVars_none hV
  subst hq
  rw [List.append_nil] at hps
  subst hps
  have hA' : ∀ sp : Nat → Bool, (∀ x ∈ before, sp x.block = true) → DataW.TrodAll enc P W' 0 sp true f.params.toList args.toList ds before := fun sp hsp =>
    DataW.TrodAll.respare (kids_rows hlo hmr) (slices_full_of P (by exact hz)) hpt (TrodAll.kept hk hA) hsp
  have hres : ∀ (b : Nat) (sp : Nat → Bool) (hd : Bool), DataW.TrodAll enc P W' b sp hd f.resultTypes.toList ((Value.bool true).resultList f.resultTypes.size) (s.fn H (ds ++ gs)).results [] := by
    intro b sp hd
    rw [hfn, hrt]
    exact trodAll_cons_mk (shut_bool htb _) trodAll_mk0
  have hvv : ∀ sp, DataW.TrodVars enc P W' sp s.vars (s.fn H (ds ++ gs)).vars [] := by
    intro sp; rw [hvars, hfn]; rfl
  have hold : ∀ x ∈ before, (fun b => decide (b < W.heap.size)) x.block = true := fun x hx => by simpa using hlt x hx
  refine ⟨ds, gs, before, [], before, [], hW', hres _ _ _, by rw [hfn]; exact hA' _ hold, hvv _, World.keptBut_mono (fun x hx => ⟨hx, .inr (.inl hx)⟩) (hk.kept _), fun _ => ?_⟩
  refine ⟨?_, _, _, ([] ++ before) ++ [], ⟨[] ++ before, [], trodAll_append (hA' _ (fun _ _ => rfl)) (hres _ _ _), hvv _, rfl, ?_, ?_⟩, ?_⟩
  · exact ok_one hrt rfl (okWide_bool_mk htb true)
  · intro b off hp
    have hp' : MemPlace.cell b off ∈ before := by simpa using hp
    rw [hk.frozen (show b < W.heap.size from hlt _ hp')]
    exact hfz b off hp'
  · intro ha
    simpa using hnd ha
  · intro x hx _
    simpa using hx
end
/-- a run answers yes -/
def yes : CR → Bool
  | .ret (.bo b) _ => b
  | _ => false

theorem yes_ret {r : CR} (h : yes r = true) : ∃ hp, r = .ret (.bo true) hp := by
  unfold yes at h
  split at h
  · subst h; exact ⟨_, rfl⟩
  · cases h
end Ev
