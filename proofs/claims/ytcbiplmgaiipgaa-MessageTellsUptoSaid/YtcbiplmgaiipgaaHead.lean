import Derived.Test.YtcbiplmgaiipgaaEvE
import Derived.Test.YtcbiplmgaiipgaaMsg2
set_option linter.unusedVariables false
set_option linter.unusedSimpArgs false
set_option linter.unusedSectionVars false
-- a request's head
namespace Go.Proofs.Ytcbiplmgaiipgaa
open Go hiding Fn
open Ev tab
attribute [local irreducible] EvD EvL EvC evGds evLs C.run sK bK gK pK fK lpB stepD

/-- a head: method, scheme, authority, path -/
structure Hd where
  m : List Nat
  s : List Nat
  a : List Nat
  p : List Nat
def hd0 : Hd := ⟨[], [], [], []⟩
def rowH (h : Hd) : List V := [.st h.m, .st h.s, .st h.a, .st h.p, .ns, .it .i64 0]
def sMethod : List Nat := [58, 109, 101, 116, 104, 111, 100]
def sScheme : List Nat := [58, 115, 99, 104, 101, 109, 101]
def sAuth : List Nat := [58, 97, 117, 116, 104, 111, 114, 105, 116, 121]
def sPath : List Nat := [58, 112, 97, 116, 104]
def putH (h : Hd) (f : Fld) : Option Hd :=
  if f.1 = sMethod then some { h with m := f.2 } else if f.1 = sScheme then some { h with s := f.2 } else if f.1 = sAuth then some { h with a := f.2 } else if f.1 = sPath then some { h with p := f.2 } else none
def headGo (seen : List (List Nat)) (h : Hd) : List Fld → Option Hd
  | [] => some h
  | f :: r => if f.1 ∈ seen ∨ valueB f.2 = false then none else match putH h f with
    | some h' => headGo (seen ++ [f.1]) h' r
    | none => none
def headS (l : List Fld) : Option Hd := headGo [] hd0 l

def ents (seen : List (List Nat)) : List (List V) := seen.map fun n => [.st n, .it .i64 1]
theorem get_ents (n : List Nat) : ∀ seen, mapGet n (ents seen) = if n ∈ seen then some (.it .i64 1) else none
  | [] => rfl
  | a :: r => by
    have ih := get_ents n r
    show (bif beqL a n then some (V.it .i64 1) else mapGet n (ents r)) = _
    rw [ih, beqLD]
    by_cases h : a = n
    · subst h; simp
    · have : ¬ n = a := fun e => h e.symm
      simp [h, this]
theorem put_new (n : List Nat) : ∀ seen, n ∉ seen → mapPut n (.it .i64 1) (ents seen) = ents (seen ++ [n])
  | [], _ => rfl
  | a :: r, h => by
    have ih := put_new n r (fun e => h (List.mem_cons_of_mem _ e))
    have hne : ¬ a = n := fun e => h (by rw [e]; exact List.mem_cons_self)
    show (bif beqL a n then _ else [V.st a, V.it .i64 1] :: mapPut n (.it .i64 1) (ents r)) = _
    rw [beqLD, decide_eq_false hne, ih]; rfl
theorem get_put (n : List Nat) (v : V) : ∀ seen, mapGet n (mapPut n v (ents seen)) = some v
  | [] => by
    show (bif beqL n n then some v else none) = _
    rw [beqLD, decide_eq_true rfl]; rfl
  | a :: r => by
    have ih := get_put n v r
    show mapGet n (bif beqL a n then [V.st n, v] :: ents r else [V.st a, V.it .i64 1] :: mapPut n v (ents r)) = _
    by_cases h : a = n
    · subst h
      rw [beqLD, decide_eq_true rfl]
      show (bif beqL a a then some v else _) = _
      rw [beqLD, decide_eq_true rfl]; rfl
    · rw [beqLD, decide_eq_false h]
      show (bif beqL a n then some (V.it .i64 1) else mapGet n (mapPut n v (ents r))) = _
      rw [beqLD, decide_eq_false h]; exact ih

def L64 : C := d64.body.lps.getD 0 .skip
set_option maxHeartbeats 16000000 in
theorem head_ok (l : List Fld) (hl : FOK l) (hp0 : Hp) (hg0 : hget hp0 0 = some ⟨6, false, [rowH hd0]⟩) (hlim0 : hp0.lim = 0) (hnx0 : hp0.next = 1) : ∃ hp', EvC F false 64 [.vs 2 (fds l), .pt 0 0 0] hp0 (.ret (.bo (headS l).isSome) hp') ∧ hp'.lim = 0 ∧ hp'.next = 2 ∧
    ∀ h, headS l = some h → hget hp' 0 = some ⟨6, false, [rowH h]⟩ := by
  have hlen := fds_length l
  have hll := hl.1
  let hp1 : Hp := hnew hp0 ⟨2, false, []⟩
  have loop : ∀ (tm : Tm) (lo : Lo), [1, 5, 9, 10, 11].map (fun s => (s, tm s)) = [(1, .pt 0 0 0), (5, .mp 1), (9, .vs 2 (fds l)), (10, .it .i64 (Int.ofNat (fds l).length)), (11, .it .i64 (Int.ofNat 0))] → ∃ r, EvL F [1, 5, 9, 10, 11] [7] (lpB L64) ⟨tm, lo, hp1⟩ r ∧
      ((∃ h, headS l = some h ∧ ∃ tm lo hp, r = .exit 0 ⟨tm, lo, hp⟩ ∧ hget hp 0 = some ⟨6, false, [rowH h]⟩ ∧ hp.lim = 0 ∧ hp.next = 2) ∨ (headS l = none ∧ ∃ tm lo hp, r = .ret ⟨tm, lo, hp⟩ ∧ tm 4 = .bo false ∧ hp.lim = 0 ∧ hp.next = 2)) := by
    refine fun tm lo hk => EvL.inv (S := Nat × List (List Nat) × Hd) (fun s => [(1, .pt 0 0 0), (5, .mp 1), (9, .vs 2 (fds l)), (10, .it .i64 (Int.ofNat (fds l).length)), (11, .it .i64 (Int.ofNat s.1))])
      (fun s _ hp => s.1 ≤ l.length ∧ headGo s.2.1 s.2.2 (l.drop s.1) = headS l ∧ hget hp 0 = some ⟨6, false, [rowH s.2.2]⟩ ∧ hget hp 1 = some ⟨2, false, ents s.2.1⟩ ∧ hp.lim = 0 ∧ hp.next = 2) (fun s => l.length - s.1) _ ?_ (0, [], hd0) tm lo hp1
      ⟨by simp, rfl, by show hget (hnew hp0 _) 0 = _; rw [hget_old (by omega)]; exact hg0, by show hget (hnew hp0 _) 1 = _; rw [← hnx0]; exact hget_new _ _, hlim0, by show hp0.next + 1 = 2; omega⟩ hk
    intro ⟨i, seen, h⟩ lo hp ⟨h1, h2, hg, hg1, hlim, hnx⟩
    simp only at h1 h2 hg hg1
    by_cases hi : i < l.length
    · have hge := fds_getD hi
      obtain ⟨ft1, ft2, fl1, fl2⟩ := hl.get hi
      rw [List.drop_eq_getElem_cons hi] at h2
      revert hge ft1 ft2 fl1 fl2 h2
      generalize l[i] = f
      obtain ⟨nm, vl⟩ := f
      intro h2 hge ft1 ft2 fl1 fl2
      have cv := value_ok vl fl2
      simp only [headGo] at h2
      by_cases hseen : nm ∈ seen
      · rw [if_pos (.inl hseen)] at h2
        have hu0 : (mapGet nm (ents seen)).getD (.it .i64 0) = .it .i64 1 := by rw [get_ents, if_pos hseen]; rfl
        have hu1 : (mapGet nm (mapPut nm (.it .i64 2) (ents seen))).getD (.it .i64 0) = .it .i64 2 := by rw [get_put]; rfl
        right
        apply EvL.endR
        · refine X.run ?_
          refine X.mlk (u := .it .i64 1) X.w X.w hg1 hu0 ?_
          refine X.run ?_
          refine X.mup (u := .it .i64 2) X.w X.w hg1 (by omega) rfl rfl rfl ?_
          refine X.run ?_
          refine X.mlk (u := .it .i64 2) X.w X.w (hget_set _ _ _) hu1 ?_
          refine X.run ?_
          exact EvD.done _
        · exact .inr ⟨h2.symm, _, _, _, rfl, rfl, hlim, hnx⟩
      · have hu0 : (mapGet nm (ents seen)).getD (.it .i64 0) = .it .i64 0 := by rw [get_ents, if_neg hseen]; rfl
        have hput := put_new nm seen hseen
        have hu1 : (mapGet nm (ents (seen ++ [nm]))).getD (.it .i64 0) = .it .i64 1 := by rw [get_ents, if_pos (by simp)]; rfl
        have hA0 : hget (hset hp 1 (some ⟨2, false, ents (seen ++ [nm])⟩)) 0 = some ⟨6, false, [rowH h]⟩ := by rw [hget_other (by decide)]; exact hg
        have hA1 : hget (hset hp 1 (some ⟨2, false, ents (seen ++ [nm])⟩)) 1 = some ⟨2, false, ents (seen ++ [nm])⟩ := hget_set _ _ _
        have hAl : (hset hp 1 (some ⟨2, false, ents (seen ++ [nm])⟩)).lim ≤ 0 := by rw [hset_lim]; omega
        cases hv : valueB vl with
        | false =>
          rw [hv] at cv
          rw [if_pos (.inr hv)] at h2
          right
          apply EvL.endR
          · refine X.run ?_
            refine X.mlk (u := .it .i64 0) X.w X.w hg1 hu0 ?_
            refine X.run ?_
            refine X.mup (u := .it .i64 1) X.w X.w hg1 (by omega) rfl rfl rfl ?_
            rw [hput]
            refine X.run ?_
            refine X.mlk (u := .it .i64 1) X.w X.w hA1 hu1 ?_
            refine X.run ?_
            refine X.pcall (cv) X.c rfl rfl rfl ?_
            refine X.run ?_
            exact EvD.done _
          · exact .inr ⟨h2.symm, _, _, _, rfl, rfl, hlim, hnx⟩
        | true =>
          rw [hv] at cv
          by_cases e1 : nm = sMethod
          · obtain ⟨h', hh'⟩ : ∃ h' : Hd, h' = { h with m := vl } := ⟨_, rfl⟩
            have hph : putH h (nm, vl) = some h' := by rw [hh']; simp [putH, e1]
            have bt : beqL nm [58, 109, 101, 116, 104, 111, 100] = true := by rw [beqLD]; exact decide_eq_true e1
            left
            iterate 3 apply Exists.intro
            refine ⟨(i + 1, seen ++ [nm], h'), ?_, ?_, ⟨hi, ?_, ?_, ?_, ?_, ?_⟩, by simp; omega⟩
            · refine X.run ?_
              refine X.mlk (u := .it .i64 0) X.w X.w hg1 hu0 ?_
              refine X.run ?_
              refine X.mup (u := .it .i64 1) X.w X.w hg1 (by omega) rfl rfl rfl ?_
              rw [hput]
              refine X.run ?_
              refine X.mlk (u := .it .i64 1) X.w X.w hA1 hu1 ?_
              refine X.run ?_
              refine X.pcall (cv) X.c rfl rfl rfl ?_
              refine X.run ?_
              exact EvD.done _
            · exact X.kv
            · rw [if_neg (by simp [hseen, hv]), hph] at h2; exact h2
            · rw [hh']; exact hget_set _ _ _
            · show hget (hset _ 0 _) 1 = _
              rw [hget_other (by decide)]; exact hA1
            · exact hlim
            · exact hnx
          · have b1 : beqL nm [58, 109, 101, 116, 104, 111, 100] = false := by rw [beqLD]; exact decide_eq_false e1
            by_cases e2 : nm = sScheme
            · obtain ⟨h', hh'⟩ : ∃ h' : Hd, h' = { h with s := vl } := ⟨_, rfl⟩
              have hph : putH h (nm, vl) = some h' := by rw [hh']; simp only [putH]; rw [if_neg e1, if_pos e2]
              have bt : beqL nm [58, 115, 99, 104, 101, 109, 101] = true := by rw [beqLD]; exact decide_eq_true e2
              left
              iterate 3 apply Exists.intro
              refine ⟨(i + 1, seen ++ [nm], h'), ?_, ?_, ⟨hi, ?_, ?_, ?_, ?_, ?_⟩, by simp; omega⟩
              · refine X.run ?_
                refine X.mlk (u := .it .i64 0) X.w X.w hg1 hu0 ?_
                refine X.run ?_
                refine X.mup (u := .it .i64 1) X.w X.w hg1 (by omega) rfl rfl rfl ?_
                rw [hput]
                refine X.run ?_
                refine X.mlk (u := .it .i64 1) X.w X.w hA1 hu1 ?_
                refine X.run ?_
                refine X.pcall (cv) X.c rfl rfl rfl ?_
                refine X.run ?_
                exact EvD.done _
              · exact X.kv
              · rw [if_neg (by simp [hseen, hv]), hph] at h2; exact h2
              · rw [hh']; exact hget_set _ _ _
              · show hget (hset _ 0 _) 1 = _
                rw [hget_other (by decide)]; exact hA1
              · exact hlim
              · exact hnx
            · have b2 : beqL nm [58, 115, 99, 104, 101, 109, 101] = false := by rw [beqLD]; exact decide_eq_false e2
              by_cases e3 : nm = sAuth
              · obtain ⟨h', hh'⟩ : ∃ h' : Hd, h' = { h with a := vl } := ⟨_, rfl⟩
                have hph : putH h (nm, vl) = some h' := by rw [hh']; simp only [putH]; rw [if_neg e1, if_neg e2, if_pos e3]
                have bt : beqL nm [58, 97, 117, 116, 104, 111, 114, 105, 116, 121] = true := by rw [beqLD]; exact decide_eq_true e3
                left
                iterate 3 apply Exists.intro
                refine ⟨(i + 1, seen ++ [nm], h'), ?_, ?_, ⟨hi, ?_, ?_, ?_, ?_, ?_⟩, by simp; omega⟩
                · refine X.run ?_
                  refine X.mlk (u := .it .i64 0) X.w X.w hg1 hu0 ?_
                  refine X.run ?_
                  refine X.mup (u := .it .i64 1) X.w X.w hg1 (by omega) rfl rfl rfl ?_
                  rw [hput]
                  refine X.run ?_
                  refine X.mlk (u := .it .i64 1) X.w X.w hA1 hu1 ?_
                  refine X.run ?_
                  refine X.pcall (cv) X.c rfl rfl rfl ?_
                  refine X.run ?_
                  exact EvD.done _
                · exact X.kv
                · rw [if_neg (by simp [hseen, hv]), hph] at h2; exact h2
                · rw [hh']; exact hget_set _ _ _
                · show hget (hset _ 0 _) 1 = _
                  rw [hget_other (by decide)]; exact hA1
                · exact hlim
                · exact hnx
              · have b3 : beqL nm [58, 97, 117, 116, 104, 111, 114, 105, 116, 121] = false := by rw [beqLD]; exact decide_eq_false e3
                by_cases e4 : nm = sPath
                · obtain ⟨h', hh'⟩ : ∃ h' : Hd, h' = { h with p := vl } := ⟨_, rfl⟩
                  have hph : putH h (nm, vl) = some h' := by rw [hh']; simp only [putH]; rw [if_neg e1, if_neg e2, if_neg e3, if_pos e4]
                  have bt : beqL nm [58, 112, 97, 116, 104] = true := by rw [beqLD]; exact decide_eq_true e4
                  left
                  iterate 3 apply Exists.intro
                  refine ⟨(i + 1, seen ++ [nm], h'), ?_, ?_, ⟨hi, ?_, ?_, ?_, ?_, ?_⟩, by simp; omega⟩
                  · refine X.run ?_
                    refine X.mlk (u := .it .i64 0) X.w X.w hg1 hu0 ?_
                    refine X.run ?_
                    refine X.mup (u := .it .i64 1) X.w X.w hg1 (by omega) rfl rfl rfl ?_
                    rw [hput]
                    refine X.run ?_
                    refine X.mlk (u := .it .i64 1) X.w X.w hA1 hu1 ?_
                    refine X.run ?_
                    refine X.pcall (cv) X.c rfl rfl rfl ?_
                    refine X.run ?_
                    exact EvD.done _
                  · exact X.kv
                  · rw [if_neg (by simp [hseen, hv]), hph] at h2; exact h2
                  · rw [hh']; exact hget_set _ _ _
                  · show hget (hset _ 0 _) 1 = _
                    rw [hget_other (by decide)]; exact hA1
                  · exact hlim
                  · exact hnx
                · have b4 : beqL nm [58, 112, 97, 116, 104] = false := by rw [beqLD]; exact decide_eq_false e4
                  have hph : putH h (nm, vl) = none := by simp only [putH]; rw [if_neg e1, if_neg e2, if_neg e3, if_neg e4]
                  rw [if_neg (by simp [hseen, hv]), hph] at h2
                  right
                  apply EvL.endR
                  · refine X.run ?_
                    refine X.mlk (u := .it .i64 0) X.w X.w hg1 hu0 ?_
                    refine X.run ?_
                    refine X.mup (u := .it .i64 1) X.w X.w hg1 (by omega) rfl rfl rfl ?_
                    rw [hput]
                    refine X.run ?_
                    refine X.mlk (u := .it .i64 1) X.w X.w hA1 hu1 ?_
                    refine X.run ?_
                    refine X.pcall (cv) X.c rfl rfl rfl ?_
                    refine X.run ?_
                    exact EvD.done _
                  · exact .inr ⟨h2.symm, _, _, _, rfl, rfl, hlim, hnx⟩
    · right
      rw [List.drop_of_length_le (by omega)] at h2
      apply EvL.endE
      · refine X.run ?_
        exact EvD.done _
      · exact .inl ⟨h, h2.symm, _, _, _, rfl, hg, hlim, hnx⟩
  obtain ⟨r, hL, q | q⟩ := loop (tmOf [(1, .pt 0 0 0), (5, .mp 1), (9, .vs 2 (fds l)), (10, .it .i64 (Int.ofNat (fds l).length)), (11, .it .i64 (Int.ofNat 0))]) (fun _ => none) rfl
  · obtain ⟨h, hh, tm, lo, hp, rfl, hg, hlim, hnx⟩ := q
    rw [hh]
    refine ⟨hp, ?_, hlim, hnx, fun h' e => by cases e; exact hg⟩
    refine EvC.ofRw d64 rfl rfl rfl ?_
    refine X.fn ?_
    refine X.run ?_
    refine X.mmk (id' := 1) hnx0 ?_
    refine X.run ?_
    refine X.loop (hL.congr rfl rfl rfl) ?_
    refine X.run ?_
    exact X.fin (fun _ => rfl) rfl rfl
  · obtain ⟨hh, tm, lo, hp, rfl, e4, hlim, hnx⟩ := q
    have hL := hL.pr e4
    rw [hh]
    refine ⟨hp, ?_, hlim, hnx, fun h' e => by cases e⟩
    refine EvC.ofRw d64 rfl rfl rfl ?_
    refine X.fn ?_
    refine X.run ?_
    refine X.mmk (id' := 1) hnx0 ?_
    refine X.run ?_
    refine X.loop (hL.congr rfl rfl rfl) ?_
    refine X.run ?_
    exact X.fin (fun _ => rfl) rfl rfl
end Go.Proofs.Ytcbiplmgaiipgaa
