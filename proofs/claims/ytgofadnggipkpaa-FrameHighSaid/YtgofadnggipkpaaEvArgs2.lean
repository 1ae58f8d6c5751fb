import Derived.Test.YtgofadnggipkpaaEvLib
set_option linter.unusedVariables false
namespace Ev
open Go Go.ChangeShapes Go.WideShapes Go.ChangeAt Go.RowKit

/-- a parameter: is it a row of cells? what stands in them -/
abbrev Par := Bool × List TD

def parOf (P : Program) (t : TypeId) : Option Par :=
  match P.underlying t with
  | some (.struct _) => (tdOf P 40 t).map fun ts => (true, ts)
  | some .bool | some (.int _) | some .string | some (.slice _) => (tdOf P 40 t).map fun ts => (false, ts)
  | _ => none

def parsOf (P : Program) : List TypeId → Option (List Par)
  | [] => some []
  | t :: r => match parOf P t, parsOf P r with
    | some p, some ps => some (p :: ps)
    | _, _ => none

inductive ShP : List Par → List V → Prop
  | nil : ShP [] []
  | one {t : TD} {v : V} {ps : List Par} {xs : List V} (h : Sh1 t v) (r : ShP ps xs) : ShP ((false, [t]) :: ps) (v :: xs)
  | grp {ts : List TD} {vs : List V} {ps : List Par} {xs : List V} (h : ShL ts vs) (r : ShP ps xs) : ShP ((true, ts) :: ps) (.ag vs :: xs)

def sizP : List V → Nat
  | [] => 0
  | .ag vs :: r => sizL vs + sizP r
  | v :: r => siz v + sizP r

theorem ShP.length {ps : List Par} {xs : List V} (h : ShP ps xs) : xs.length = ps.length := by
  induction h <;> simp_all

theorem Sh1.sizP {t : TD} {v : V} {r : List V} (h : Sh1 t v) : sizP (v :: r) = siz v + sizP r := by cases h <;> rfl

section
variable {H : Type} {enc : TypeId × Value → H} {P : Program} {w : World} {u : DataW H → Nat} {ul : List (DataW H) → Nat}

theorem param_read (hB : Bulk u ul) {base b0 : Nat} {sp : Nat → Bool} {hd : Bool} {t : TypeId} {v : Value} {d : DataW H} {ps : List MemPlace} {p : Par} (hp : parOf P t = some p)
    (hv : Value.okWide P w .any b0 t v) (h : DataW.Trod enc P w base sp hd t v d ps) :
    ∃ x, isLp x = false ∧ RepA ⟨kAll w, fun _ => .unb⟩ x v ∧ (∀ qs xs, ShP qs xs → ShP (p :: qs) (x :: xs)) ∧ ∀ xs, sizP (x :: xs) ≤ u d + sizP xs := by
  obtain ⟨n, h⟩ := h
  have single : ∀ ts, tdOf P 40 t = some ts → v.cells.toList = [v] → p = (false, ts) → ∃ x, isLp x = false ∧ RepA ⟨kAll w, fun _ => .unb⟩ x v ∧ (∀ qs xs, ShP qs xs → ShP (p :: qs) (x :: xs)) ∧ ∀ xs, sizP (x :: xs) ≤ u d + sizP xs := by
    intro ts hts hc hpe
    obtain ⟨vs, q1, q2, q3⟩ := data_read hB 40 n t _ d ps ts hts h
    rw [hc] at q1
    cases q1 with
    | cons a r =>
      cases r
      cases q2 with
      | cons b r2 =>
        cases r2
        refine ⟨_, b.keep.2, .c _ _ a, fun qs xs hx => hpe ▸ .one b hx, fun xs => ?_⟩
        rw [b.sizP]; simp only [sizL] at q3; omega
  unfold parOf at hp
  split at hp
  · rename_i fs ht
    simp only [Option.map_eq_some_iff] at hp
    obtain ⟨ts, hts, rfl⟩ := hp
    obtain ⟨cs, rfl, _⟩ := okWide_struct ht hv
    obtain ⟨vs, q1, q2, q3⟩ := data_read hB 40 n t _ d ps ts hts h
    have q1 : RepL (kAll w) vs cs.toList := q1
    refine ⟨.ag vs, rfl, .ag vs cs ?_ ?_ ?_, fun qs xs hx => .grp q2 hx, fun xs => ?_⟩
    · have := q1.length; simpa using this.symm
    · intro c hc
      obtain ⟨t, ht⟩ := q2.mem hc
      exact ht.keep.1
    · intro i c hc
      have := q1.get i c hc
      refine .c _ _ ?_
      simpa [Array.getD_eq_getD_getElem?, List.getD_eq_getElem?_getD] using this
    · simp only [sizP]; omega
  · rename_i ht
    simp only [Option.map_eq_some_iff] at hp
    obtain ⟨ts, hts, e⟩ := hp
    obtain ⟨b, rfl⟩ := okWide_bool ht hv
    exact single ts hts rfl e.symm
  · rename_i k ht
    simp only [Option.map_eq_some_iff] at hp
    obtain ⟨ts, hts, e⟩ := hp
    obtain ⟨b, rfl⟩ := okWide_int ht hv
    exact single ts hts rfl e.symm
  · rename_i ht
    simp only [Option.map_eq_some_iff] at hp
    obtain ⟨ts, hts, e⟩ := hp
    obtain ⟨b, rfl⟩ := okWide_string ht hv
    exact single ts hts rfl e.symm
  · rename_i el ht
    simp only [Option.map_eq_some_iff] at hp
    obtain ⟨ts, hts, e⟩ := hp
    obtain ⟨a, l, c, rfl⟩ := okWide_slice ht hv
    exact single ts hts rfl e.symm
  · cases hp

theorem params_read (hB : Bulk u ul) {base b0 : Nat} {sp : Nat → Bool} {hd : Bool} : ∀ (ts : List TypeId) (vs : List Value) (ds : List (DataW H)) (ps : List MemPlace) (pts : List Par),
    parsOf P ts = some pts → (∀ (j : Nat) t v, ts[j]? = some t → vs[j]? = some v → Value.okWide P w .any b0 t v) → DataW.TrodAll enc P w base sp hd ts vs ds ps →
    ∃ xs, ShP pts xs ∧ vs.length = xs.length ∧ (∀ x, x ∈ xs → isLp x = false) ∧ (∀ (i : Nat) (x : V), xs[i]? = some x → RepA ⟨kAll w, fun _ => .unb⟩ x (vs.getD i undef)) ∧ sizP xs ≤ ul ds ∧ ds.length = pts.length
  | [], vs, ds, ps, pts, hp, _, h => by
    simp only [parsOf, Option.some.injEq] at hp; subst hp
    obtain ⟨rfl, rfl, rfl⟩ := trodAll_nil h
    exact ⟨[], .nil, rfl, by simp, by simp, by simp [sizP], rfl⟩
  | t :: ts, vs, ds, ps, pts, hp, hv, h => by
    simp only [parsOf] at hp
    split at hp
    · rename_i p qs h1 h2
      simp only [Option.some.injEq] at hp; subst hp
      obtain ⟨v, vs', d, ds', p', q', rfl, rfl, rfl, g1, g2⟩ := trodAll_cons h
      obtain ⟨xs, a1, a2, a3, a4, a5, a6⟩ := params_read hB ts vs' ds' q' qs h2 (fun j t v x y => hv (j + 1) t v (by simpa using x) (by simpa using y)) g2
      obtain ⟨x, b1, b2, b3, b4⟩ := param_read hB h1 (hv 0 t v rfl rfl) g1
      refine ⟨x :: xs, b3 _ _ a1, by simp [a2], ?_, ?_, ?_, by simp [a6]⟩
      · intro y hy
        rcases List.mem_cons.1 hy with e | e
        · subst e; exact b1
        · exact a3 y e
      · intro i y hy
        cases i with
        | zero => simp at hy; subst hy; simpa using b2
        | succ i => simpa using a4 i y (by simpa using hy)
      · rw [hB.cons]; have := b4 xs; omega
    · cases hp

def smallB (P : Program) (f : Func) : Bool := f.params.toList.all fun t => decide (t < P.types.size)
/-- a law's contract out of its run -/
theorem law_contract {F : Nat → Option Ev.Fn} {mds : Nat → Md} (T : Table P F mds) {n : Nat} {fn : Ev.Fn} (hF : F n = some fn) (hB : Bulk u ul) {f : Func} {s : ChangeSpec} {W : World} {args : Array Value} {ds gs : List (DataW H)}
    {before : List MemPlace} {tb b0 : Nat} {pts : List Par} (hpar : parsOf P f.params.toList = some pts)
    (hval : ∀ (j : Nat) t v, f.params[j]? = some t → args[j]? = some v → Value.okWide P W .any b0 t v)
    (hW : DataW.Whole enc P f.params.toList s.vars false W args.toList ds gs before) (hvars : s.vars = [])
    (hfn : ∀ ds : List (DataW H), ds.length = pts.length → s.fn H (ds ++ []) = { results := [.lit (.bool true)], args := ds }) (hrt : f.resultTypes = #[tb]) (htb : P.underlying tb = some .bool)
    (hlo : laidOutB P = true) (hmr : mapsRowed P = true) (hz : fullB P = true) (hpt : smallB P f = true)
    (hrun : ∀ xs, ShP pts xs → sizP xs ≤ ul (ds ++ gs) → ∃ L k hp', runF (callF F L k) L fn xs h0 = .ret (.bo true) hp') :
    Calls P n args W fun e W' => ∃ v, e = .returned v ∧ s.post enc P f false true false false W args v W' := by
  have hW' := hW
  obtain ⟨p, q, hA, hV, _⟩ := hW
  rw [hvars] at hV
  obtain ⟨hgs, _⟩ := trodVars_none hV
  subst hgs
  obtain ⟨xs, h1, h2, h3, h4, h5, h6⟩ := params_read hB _ _ _ _ _ hpar (fun j t v x y => hval j t v (by simpa using x) (by simpa using y)) hA
  obtain ⟨L, k, hp', hr⟩ := hrun xs h1 (by rw [List.append_nil]; exact h5)
  have ha : Args ⟨kAll W, fun _ => .unb⟩ xs args := ⟨by simpa using h2, h3, fun i x hx => by
    have := h4 i x hx
    simpa [Array.getD_eq_getD_getElem?, List.getD_eq_getElem?_getD] using this⟩
  refine Calls.mono (law_calls T hF ha hr) fun e W' ⟨he, hk⟩ => ⟨_, he, ?_⟩
  refine post_kept (tb := tb) hW' hvars ?_ hrt htb hlo hmr hz (fun t ht => by simpa using List.all_eq_true.1 (show (f.params.toList.all fun t => decide (t < P.types.size)) = true from hpt) t ht) hk
  exact hfn ds h6
end
end Ev
