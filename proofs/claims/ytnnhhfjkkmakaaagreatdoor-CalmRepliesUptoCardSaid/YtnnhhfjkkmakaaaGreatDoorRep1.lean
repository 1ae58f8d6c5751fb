import Derived.Test.YtnnhhfjkkmakaaaGreatDoorEvE
import Derived.Test.YtnnhhfjkkmakaaaGreatDoorMemo
import Derived.Test.YtnnhhfjkkmakaaaGreatDoorRep0
set_option linter.unusedSectionVars false
set_option linter.unusedVariables false
set_option linter.unusedSimpArgs false
-- CalmReplies: the table, rules, and what Reply calls (EvHp EvOwn)
namespace Ev
variable [Glob]
open Go
section
variable {F' : Nat → Option Ev.Fn} {R : Ev.R} {k : Ev.R → D} {clr : List Nat} {tm : Tm} {lo : Lo} {hp hp' : Hp} {r : List DOp} {us : List Nat} {g : Option (Nat × Bool)} {d : Nat}
end
end Ev
namespace Go.Proofs.YtnnhhfjkkmakaaaGreatDoor.rep
open Go hiding Fn
open Ev tab
def crHp : CR → Hp
  | .ret _ h => h
  | _ => h0
/-- what the closed run leaves -/
def hp6 : Hp := crHp (runF (callF F2 20000 200) 20000 c6 [] h0)
def Fq : Nat → Option Ev.Fn := fun i => bif Nat.beq i 6 then some (memoFn c6 (.bo true) hp6) else F i
theorem memo_call {F : Nat → Option Ev.Fn} {f : Nat} {fn : Ev.Fn} {h : Hp} (hF : F f = some (memoFn fn (.bo true) h)) (h1 : fn.md = .pure) (h2 : fn.ps = []) (h3 : fn.rs = [.c .one]) (hp : Hp) : EvC F false f [] hp (.ret (.bo true) hp) := ⟨1, fun L n _ hn => by
  obtain ⟨m, rfl⟩ : ∃ m, n = m + 1 := ⟨n - 1, by omega⟩
  obtain ⟨ps, rs, md, res, body⟩ := fn
  simp only at h1 h2 h3
  subst h1; subst h2; subst h3
  simp only [callF, hF]
  rfl⟩
theorem hF6 : Fq 6 = some (memoFn c6 (.bo true) hp6) := rfl
theorem cr_ok (hp : Hp) : EvC Fq false 6 [] hp (.ret (.bo true) hp) := memo_call hF6 rfl rfl rfl hp
theorem itoa_ok (n : Int) (h : n.natAbs ≤ 9223372036854775807) : EvP Fq 119 itoaFn [.it .i64 n] [.st (itoaL n)] := by
  refine ⟨rfl, rfl, rfl, .st (itoaL n), h0, h0, ⟨0, fun L k _ _ => ?_⟩, .s (clo_st _) (.nil _)⟩
  show run (callF Fq L k) L (.chk (Nat.ble n.natAbs 9223372036854775807) (.done (.ret ⟨fun _ => .st (itoaL n), fun _ => none, h0⟩))) = _
  rw [show Nat.ble n.natAbs 9223372036854775807 = true from Nat.ble_eq_true_of_le h]
  rfl
attribute [local irreducible] EvP EvD EvL EvC evGds evLs C.run sK bK gK pK fK lpB stepD hp6 itoaL
/-- a field's value; the first one of its name -/
def valF : List Fld → List Nat → Option (List Nat)
  | [], _ => none
  | f :: r, n => if f.1 = n then some f.2 else valF r n
set_option maxHeartbeats 8000000 in
theorem val_ok (l : List Fld) (n : List Nat) (hl : l.length ≤ 10000000) : EvP Fq 70 c70 [.vs 2 (fds l), .st n] [.st ((valF l n).getD []), .bo (valF l n).isSome] := by
  refine EvP.ofQ d70 rfl rfl rfl ?_
  generalize ht : valF l n = t
  repeat' (first | refine EvQ.run ?_ | (refine EvQ.pickB rfl rfl rfl ?_) | (refine EvQ.cond rfl (fun h => ?_) (fun h => ?_) <;> ((first | replace h := X.nm h | skip); try have hne := ne_len h)) | (refine EvQ.g1 rfl (fun h => ?_) (fun h => ?_) <;> ((first | replace h := X.nm h | skip); try have hne := ne_len h)) | (refine EvQ.pick rfl (fun _ => rfl) (fun _ => rfl) (fun h => ?_) (fun h => ?_) <;> ((first | replace h := X.nm h | skip); try have hne := ne_len h)) | refine EvQ.fin X.rs ?_ | refine EvQ.fin1 (fun _ => rfl) rfl ?_)
  refine EvQ.loop (QL := fun r => (∃ v, t = some v ∧ RtQ [(4, .st v), (5, .bo true)] (fun _ _ => True) r) ∨ (t = none ∧ XtQ 0 [] (fun _ _ => True) r)) ?_ ?_
  · refine EvL.invQ (S := Nat) (fun i => [(1, .st n), (8, .vs 2 (fds l)), (9, .it .i64 (Int.ofNat l.length)), (10, .it .i64 (Int.ofNat i))]) (fun i lo hp => shed [7] lo = (fun _ => none) ∧ i ≤ l.length ∧ valF (l.drop i) n = t) (fun i => l.length - i) _ ?_ 0 _ _ _ ⟨X.lo, Nat.zero_le _, ht⟩ X.kv
    intro i lo hp ⟨e1, h1, h2⟩
    rw [e1]
    have hd : i < l.length → valF (l.drop i) n = if (l.getD i f0).1 = n then some (l.getD i f0).2 else valF (l.drop (i + 1)) n := fun h => by rw [drop_getD h f0]; rfl
    repeat' (first | refine EvQ.run ?_ | (refine EvQ.pickB rfl rfl rfl ?_) | (refine EvQ.cond rfl (fun h => ?_) (fun h => ?_) <;> ((first | replace h := X.nm h | skip); try have hne := ne_len h)) | (refine EvQ.g1 rfl (fun h => ?_) (fun h => ?_) <;> ((first | replace h := X.nm h | skip); try have hne := ne_len h)) | (refine EvQ.pick rfl (fun _ => rfl) (fun _ => rfl) (fun h => ?_) (fun h => ?_) <;> ((first | replace h := X.nm h | skip); try have hne := ne_len h)) | refine EvQ.fin X.rs ?_ | refine EvQ.fin1 (fun _ => rfl) rfl ?_)
    · rw [hd (by assumption), if_pos (by assumption)] at h2
      exact EvQ.rt (.inl ⟨_, h2.symm, .mk' X.kv trivial⟩)
    · rw [hd (by assumption), if_neg (by assumption)] at h2
      exact EvQ.go (i + 1) X.kv ⟨X.lo, by omega, h2⟩ (by omega)
    · rw [List.drop_of_length_le (by omega)] at h2
      exact EvQ.xt (.inr ⟨h2.symm, .mk' X.kv trivial⟩)
  · rintro _ (⟨v, rfl, tm, lo, hp, rfl, -⟩ | ⟨rfl, tm, lo, hp, rfl, -⟩)
    · repeat' (first | refine EvQ.run ?_ | (refine EvQ.pickB rfl rfl rfl ?_) | (refine EvQ.cond rfl (fun h => ?_) (fun h => ?_) <;> ((first | replace h := X.nm h | skip); try have hne := ne_len h)) | (refine EvQ.g1 rfl (fun h => ?_) (fun h => ?_) <;> ((first | replace h := X.nm h | skip); try have hne := ne_len h)) | (refine EvQ.pick rfl (fun _ => rfl) (fun _ => rfl) (fun h => ?_) (fun h => ?_) <;> ((first | replace h := X.nm h | skip); try have hne := ne_len h)) | refine EvQ.fin X.rs ?_ | refine EvQ.fin1 (fun _ => rfl) rfl ?_)
      exact PQ.of (.s (clo_st _) (.s (clo_bo _) (.nil _)))
    · repeat' (first | refine EvQ.run ?_ | (refine EvQ.pickB rfl rfl rfl ?_) | (refine EvQ.cond rfl (fun h => ?_) (fun h => ?_) <;> ((first | replace h := X.nm h | skip); try have hne := ne_len h)) | (refine EvQ.g1 rfl (fun h => ?_) (fun h => ?_) <;> ((first | replace h := X.nm h | skip); try have hne := ne_len h)) | (refine EvQ.pick rfl (fun _ => rfl) (fun _ => rfl) (fun h => ?_) (fun h => ?_) <;> ((first | replace h := X.nm h | skip); try have hne := ne_len h)) | refine EvQ.fin X.rs ?_ | refine EvQ.fin1 (fun _ => rfl) rfl ?_)
      exact PQ.of (.s (clo_st _) (.s (clo_bo _) (.nil _)))
/-- a talk -/
structure Tk where
  pl : Int
  lf : Int
  sm : Int
  fs : List Fld
  body : List Nat
  en : Bool
  rs : Bool
  code : Int
  at' : Int
def rowTk (t : Tk) : List V := [.it .i64 t.pl, .it .i64 t.lf, .it .i64 t.sm, .vs 2 (fds t.fs), .st t.body, .bo t.en, .bo t.rs, .it .i64 t.code, .it .i64 t.at']
theorem rowTk_clo (t : Tk) : CloL [.one, .one, .one, .sl [.one, .one], .one, .one, .one, .one, .one] (rowTk t) :=
  .cons (clo_it _ _) (.cons (clo_it _ _) (.cons (clo_it _ _) (.cons (clo_vs [.one, .one] _) (.cons (clo_st _) (.cons (clo_bo _) (.cons (clo_bo _) (.cons (clo_it _ _) (.cons (clo_it _ _) .nil))))))))
set_option maxHeartbeats 8000000 in
theorem rval_ok (t : Tk) (n : List Nat) (hl : t.fs.length ≤ 10000000) : EvP Fq 86 c86 [.ag (rowTk t), .st n] [.st ((valF t.fs n).getD [])] := by
  refine EvP.ofQ d86 rfl rfl rfl ?_
  generalize hq : valF t.fs n = q
  repeat' (first | refine EvQ.run ?_ | (refine EvQ.pickB rfl rfl rfl ?_) | (refine EvQ.cond rfl (fun h => ?_) (fun h => ?_) <;> ((first | replace h := X.nm h | skip); try have hne := ne_len h)) | (refine EvQ.g1 rfl (fun h => ?_) (fun h => ?_) <;> ((first | replace h := X.nm h | skip); try have hne := ne_len h)) | (refine EvQ.pick rfl (fun _ => rfl) (fun _ => rfl) (fun h => ?_) (fun h => ?_) <;> ((first | replace h := X.nm h | skip); try have hne := ne_len h)) | refine EvQ.fin X.rs ?_ | refine EvQ.fin1 (fun _ => rfl) rfl ?_)
  refine EvQ.loop (QL := fun r => (∃ v, q = some v ∧ RtQ [(4, .st v)] (fun _ _ => True) r) ∨ (q = none ∧ XtQ 0 [] (fun _ _ => True) r)) ?_ ?_
  · refine EvL.invQ (S := Nat) (fun i => [(1, .st n), (2, .lp 2 0), (5, .it .i64 (Int.ofNat i))]) (fun i lo hp => shed [] lo = lset (fun _ => none) 2 (rowTk t) ∧ i ≤ t.fs.length ∧ valF (t.fs.drop i) n = q) (fun i => t.fs.length - i) _ ?_ 0 _ _ _ ⟨X.lo, Nat.zero_le _, hq⟩ X.kv
    intro i lo hp ⟨e1, h1, h2⟩
    rw [e1]
    have hd : i < t.fs.length → valF (t.fs.drop i) n = if (t.fs.getD i f0).1 = n then some (t.fs.getD i f0).2 else valF (t.fs.drop (i + 1)) n := fun h => by rw [drop_getD h f0]; rfl
    repeat' (first | refine EvQ.run ?_ | (refine EvQ.pickB rfl rfl rfl ?_) | (refine EvQ.cond rfl (fun h => ?_) (fun h => ?_) <;> ((first | replace h := X.nm h | skip); try have hne := ne_len h)) | (refine EvQ.g1 rfl (fun h => ?_) (fun h => ?_) <;> ((first | replace h := X.nm h | skip); try have hne := ne_len h)) | (refine EvQ.pick rfl (fun _ => rfl) (fun _ => rfl) (fun h => ?_) (fun h => ?_) <;> ((first | replace h := X.nm h | skip); try have hne := ne_len h)) | refine EvQ.fin X.rs ?_ | refine EvQ.fin1 (fun _ => rfl) rfl ?_)
    · rw [hd (by assumption), if_pos (by assumption)] at h2
      exact EvQ.rt (.inl ⟨_, h2.symm, .mk' X.kv trivial⟩)
    · rw [hd (by assumption), if_neg (by assumption)] at h2
      exact EvQ.go (i + 1) X.kv ⟨X.lo, by omega, h2⟩ (by omega)
    · rw [List.drop_of_length_le (by omega)] at h2
      exact EvQ.xt (.inr ⟨h2.symm, .mk' X.kv trivial⟩)
  · rintro _ (⟨v, rfl, tm, lo, hp, rfl, -⟩ | ⟨rfl, tm, lo, hp, rfl, -⟩)
    · repeat' (first | refine EvQ.run ?_ | (refine EvQ.pickB rfl rfl rfl ?_) | (refine EvQ.cond rfl (fun h => ?_) (fun h => ?_) <;> ((first | replace h := X.nm h | skip); try have hne := ne_len h)) | (refine EvQ.g1 rfl (fun h => ?_) (fun h => ?_) <;> ((first | replace h := X.nm h | skip); try have hne := ne_len h)) | (refine EvQ.pick rfl (fun _ => rfl) (fun _ => rfl) (fun h => ?_) (fun h => ?_) <;> ((first | replace h := X.nm h | skip); try have hne := ne_len h)) | refine EvQ.fin X.rs ?_ | refine EvQ.fin1 (fun _ => rfl) rfl ?_)
      exact PQ.st rfl
    · repeat' (first | refine EvQ.run ?_ | (refine EvQ.pickB rfl rfl rfl ?_) | (refine EvQ.cond rfl (fun h => ?_) (fun h => ?_) <;> ((first | replace h := X.nm h | skip); try have hne := ne_len h)) | (refine EvQ.g1 rfl (fun h => ?_) (fun h => ?_) <;> ((first | replace h := X.nm h | skip); try have hne := ne_len h)) | (refine EvQ.pick rfl (fun _ => rfl) (fun _ => rfl) (fun h => ?_) (fun h => ?_) <;> ((first | replace h := X.nm h | skip); try have hne := ne_len h)) | refine EvQ.fin X.rs ?_ | refine EvQ.fin1 (fun _ => rfl) rfl ?_)
      exact PQ.st rfl
/-- rows of fields -/
def rw1 (f : Fld) : List V := [.st f.1, .st f.2, .it .i64 1]
def rws (l : List Fld) : List (List V) := l.map rw1
theorem rws_length (l : List Fld) : (rws l).length = l.length := by simp [rws]
theorem rw1_clo (f : Fld) : CloL [.one, .one, .one] (rw1 f) := .cons (clo_st _) (.cons (clo_st _) (.cons (clo_it _ _) .nil))
theorem rws_clo (l : List Fld) : ∀ e, e ∈ rws l → CloL [.one, .one, .one] e := fun e he => by
  simp only [rws, List.mem_map] at he
  obtain ⟨n, _, rfl⟩ := he
  exact rw1_clo n
theorem rws_getD {l : List Fld} {i : Nat} (h : i < l.length) : (rws l).getD i [] = rw1 (l.getD i f0) := by
  unfold rws
  rw [List.getD, List.getD, List.getElem?_map, List.getElem?_eq_getElem h]; rfl
theorem row_ok (a b : List Nat) : EvP Fq 71 c71 [.st a, .st b] [.ag (rw1 (a, b))] := by
  refine EvP.ofQ d71 rfl rfl rfl ?_
  repeat' (first | refine EvQ.run ?_ | (refine EvQ.pickB rfl rfl rfl ?_) | (refine EvQ.cond rfl (fun h => ?_) (fun h => ?_) <;> ((first | replace h := X.nm h | skip); try have hne := ne_len h)) | (refine EvQ.g1 rfl (fun h => ?_) (fun h => ?_) <;> ((first | replace h := X.nm h | skip); try have hne := ne_len h)) | (refine EvQ.pick rfl (fun _ => rfl) (fun _ => rfl) (fun h => ?_) (fun h => ?_) <;> ((first | replace h := X.nm h | skip); try have hne := ne_len h)) | refine EvQ.fin X.rs ?_ | refine EvQ.fin1 (fun _ => rfl) rfl ?_)
  exact PQ.of (.gs (rw1_clo (a, b)) (.nil _))
theorem mx_nat (n : Int) : (bif ilt n 0 then 0 else n) = Int.ofNat n.toNat := by
  rw [ilt_eq]
  by_cases h : n < 0
  · rw [decide_eq_true h]; show (0 : Int) = _; simp only [Int.ofNat_eq_natCast]; omega
  · rw [decide_eq_false h]; show n = _; simp only [Int.ofNat_eq_natCast]; omega
theorem itoaL_tail (m : Nat) : (([48, 48, 48] : List Nat) ++ itoaL (Int.ofNat m)).drop ((([48, 48, 48] : List Nat) ++ itoaL (Int.ofNat m)).length - 3) = dig3 m := by
  rw [show itoaL (Int.ofNat m) = dgs 20 m by unfold itoaL; rfl]
  exact digs3 17 m
theorem dgs_len : ∀ (f u : Nat), (dgs f u).length ≤ f
  | 0, _ => Nat.le_refl _
  | f + 1, u => by
    rcases dgs_cases f u with ⟨_, e⟩ | ⟨_, e⟩
    · rw [e]; simp
    · rw [e]; have := dgs_len f (u / 10); simp; omega
theorem itoaL_len (m : Nat) : (itoaL (Int.ofNat m)).length ≤ 20 := by
  rw [show itoaL (Int.ofNat m) = dgs 20 m by unfold itoaL; rfl]
  exact dgs_len 20 m
end Go.Proofs.YtnnhhfjkkmakaaaGreatDoor.rep
