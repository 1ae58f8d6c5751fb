import Derived.Test.YtpncefcicfhibaaGreatDoorTabx2
import Derived.Test.YtpncefcicfhibaaGreatDoorEvD
set_option linter.unusedVariables false
set_option linter.unusedSimpArgs false
namespace Go.Proofs.YtpncefcicfhibaaGreatDoor.refuses
open Go hiding Fn
open Ev tab
def isW (f : Nat) : Bool := Nat.beq f 25
def cl (N : Nat) : Ev.Call := fun own f xs hp => match f, xs with
  | 3, [] => .ret (.bo true) hp
  | f, xs => callF F (N + 3000) (N + 100) own f xs hp
def D0 (k w : Int) : D := bodyD c8 [.it .i64 k, .it .i64 w] h0
def A1 (N : Nat) (k w : Int) (a : Int) : D := resume (.it .i64 a) (seek (cl N) (N + 3000) isW (D0 k w))
def A2 (N : Nat) (k w : Int) (a b : Int) : D := seekL (cl N) (N + 3000) (resume (.it .i64 b) (seek (cl N) (N + 3000) isW (A1 N k w a)))
def S (N : Nat) (k w : Int) (a b : Int) (i : Nat) : St := rndS (cl N) (N + 3000) (A2 N k w a b) i
def Nm (N : Nat) (k w : Int) (a b : Int) (i : Nat) : Bool := isNorm (run (cl N) (N + 3000) (brX (lpBody (A2 N k w a b) (prepS (A2 N k w a b) (S N k w a b i)))))
def xx (N : Nat) (k w : Int) (a b : Int) (i : Nat) : Bool := isNorm (run (cl N) (N + 3000) (lpBody (A2 N k w a b) (prepS (A2 N k w a b) (setT (S N k w a b i) 6 (.it .i64 (Int.ofNat i))))))
def fin (N : Nat) (k w : Int) (a b : Int) (i : Nat) : Bool := yes (crOf (finL (cl N) (N + 3000) (A2 N k w a b) (setT (S N k w a b i) 6 (.it .i64 (Int.ofNat i)))))
theorem head1 (N : Nat) (k w : Int) : headD (seek (cl N) (N + 3000) isW (D0 k w)) = some (25, [.it .i64 k, .it .i64 1, .it .i64 9]) := by kernel_rfl
theorem head2 (N : Nat) (k w a : Int) : headD (seek (cl N) (N + 3000) isW (A1 N k w a)) = some (25, [.it .i64 w, .it .i64 0, .it .i64 20]) := by kernel_rfl
theorem crR (N : Nat) : yes (runF (callF F (N + 3000) (N + 99)) (N + 3000) c3 [] h0) = true := by kernel_rfl
theorem cr (N : Nat) (own : Bool) (hp : Hp) : callF F (N + 3000) (N + 100) own 3 [] hp = .ret (.bo true) hp := by
  have hF : F 3 = some c3 := rfl
  have hm : c3.md = .pure := rfl
  have hc : closeAll c3.ps [] hp = some ([], hp) := rfl
  obtain ⟨hp', hr⟩ := yes_ret (crR N)
  show callF F (N + 3000) (N + 99 + 1) own 3 [] hp = _
  generalize N + 99 = m at hr ⊢
  simp only [callF, hF, hm, runP, hc, hr]
  cases own <;> rfl
theorem clEq (N : Nat) : cl N = callF F (N + 3000) (N + 100) := by
  funext own f xs hp
  unfold cl
  split
  · exact (cr N own hp).symm
  · rfl
def fk : Ev.Call := fun _ f _ hp => match f with
  | 23 => .ret (.pt 0 0 0) hp
  | _ => .ret (.it .i64 1) hp
/-- the same loop, come to without its beginning's run -/
def Af : D := seekL fk 0 (bodyD c8 [.it .i64 0, .it .i64 0] h0)
theorem af_br (tm : Tm) (lo : Lo) (hp : Hp) (i n : Int) : headBr (lpBody Af ⟨atI tm 10 6 i n, lo, hp⟩) = some (ilt i n) := by kernel_rfl
def Q (N : Nat) (e : St) (j : Nat) : St := rndQ (cl N) (N + 3000) Af e j
def NmQ (N : Nat) (e : St) (j : Nat) : Bool := isNorm (run (cl N) (N + 3000) (brX (lpBody Af (prepS Af (Q N e j)))))
def xxQ (N : Nat) (e : St) (j : Nat) : Bool := isNorm (run (cl N) (N + 3000) (lpBody Af (prepS Af (setT (Q N e j) 6 (.it .i64 (Int.ofNat (j + 11)))))))
def finQ (N : Nat) (e : St) (j : Nat) : Bool := yes (crOf (finL (cl N) (N + 3000) Af (setT (Q N e j) 6 (.it .i64 (Int.ofNat (j + 11))))))
/-- what the first rounds are, for one bound -/
structure FactsA (N : Nat) (k w a b : Int) (e : St) : Prop where
  lp : isLoop (A2 N k w a b) = true
  keep : lpKeep (A2 N k w a b) = [5, 6, 7, 8, 9, 10]
  drop : lpDrop (A2 N k w a b) = lpDrop Af
  body : lpBody (A2 N k w a b) = lpBody Af
  kont : lpK (A2 N k w a b) = lpK Af
  st : prepS (A2 N k w a b) (S N k w a b 10) = e
  c : ∀ i, i ≤ 10 → (S N k w a b i).tm 10 = .it .i64 (Int.ofNat i) ∧ (S N k w a b i).tm 6 = .it .i64 b
  nm : ∀ i, i < 10 → Nm N k w a b i = true
  ex : ∀ i, i ≤ 10 → xx N k w a b i = false ∧ fin N k w a b i = true
/-- and the others -/
structure FactsB (N : Nat) (b : Int) (e : St) : Prop where
  n10 : isNorm (run (cl N) (N + 3000) (brX (lpBody Af e))) = true
  c : ∀ j, j < 10 → (Q N e j).tm 10 = .it .i64 (Int.ofNat (j + 11)) ∧ (Q N e j).tm 6 = .it .i64 b
  nm : ∀ j, j < 9 → NmQ N e j = true
  ex : ∀ j, j < 10 → xxQ N e j = false ∧ finQ N e j = true
abbrev CT (N : Nat) (k w a b : Int) (i : Nat) : Prop := (S N k w a b i).tm 10 = .it .i64 (Int.ofNat i) ∧ (S N k w a b i).tm 6 = .it .i64 b
abbrev XF (N : Nat) (k w a b : Int) (i : Nat) : Prop := xx N k w a b i = false ∧ fin N k w a b i = true
abbrev AllS (N : Nat) (k w a b : Int) (e : St) : Prop := isLoop (A2 N k w a b) = true ∧ lpKeep (A2 N k w a b) = [5, 6, 7, 8, 9, 10] ∧ lpDrop (A2 N k w a b) = lpDrop Af ∧ lpBody (A2 N k w a b) = lpBody Af ∧ lpK (A2 N k w a b) = lpK Af ∧ prepS (A2 N k w a b) (S N k w a b 10) = e ∧
  (Nm N k w a b 0 = true ∧ Nm N k w a b 1 = true ∧ Nm N k w a b 2 = true ∧ Nm N k w a b 3 = true ∧ Nm N k w a b 4 = true ∧ Nm N k w a b 5 = true ∧ Nm N k w a b 6 = true ∧ Nm N k w a b 7 = true ∧ Nm N k w a b 8 = true ∧ Nm N k w a b 9 = true) ∧ (CT N k w a b 0 ∧ CT N k w a b 1 ∧ CT N k w a b 2 ∧ CT N k w a b 3 ∧ CT N k w a b 4 ∧ CT N k w a b 5 ∧ CT N k w a b 6 ∧ CT N k w a b 7 ∧ CT N k w a b 8 ∧ CT N k w a b 9 ∧ CT N k w a b 10)
abbrev XL (N : Nat) (k w a b : Int) : Prop := XF N k w a b 0 ∧ XF N k w a b 1 ∧ XF N k w a b 2 ∧ XF N k w a b 3 ∧ XF N k w a b 4 ∧ XF N k w a b 5
abbrev XH (N : Nat) (k w a b : Int) : Prop := XF N k w a b 6 ∧ XF N k w a b 7 ∧ XF N k w a b 8 ∧ XF N k w a b 9 ∧ XF N k w a b 10
theorem factsA_of {N : Nat} {k w a b : Int} {e : St} (h : AllS N k w a b e) (l : XL N k w a b) (u : XH N k w a b) : FactsA N k w a b e := by
  obtain ⟨e0, e1, e2, e3, e4, e5, ⟨n0, n1, n2, n3, n4, n5, n6, n7, n8, n9⟩, ⟨c0, c1, c2, c3, c4, c5, c6, c7, c8, c9, c10⟩⟩ := h
  obtain ⟨x0, x1, x2, x3, x4, x5⟩ := l
  obtain ⟨x6, x7, x8, x9, x10⟩ := u
  refine ⟨e0, e1, e2, e3, e4, e5, fun i hi => ?_, fun i hi => ?_, fun i hi => ?_⟩
  · have q : i = 0 ∨ i = 1 ∨ i = 2 ∨ i = 3 ∨ i = 4 ∨ i = 5 ∨ i = 6 ∨ i = 7 ∨ i = 8 ∨ i = 9 ∨ i = 10 := by omega
    rcases q with rfl | rfl | rfl | rfl | rfl | rfl | rfl | rfl | rfl | rfl | rfl
    · exact c0
    · exact c1
    · exact c2
    · exact c3
    · exact c4
    · exact c5
    · exact c6
    · exact c7
    · exact c8
    · exact c9
    · exact c10
  · have q : i = 0 ∨ i = 1 ∨ i = 2 ∨ i = 3 ∨ i = 4 ∨ i = 5 ∨ i = 6 ∨ i = 7 ∨ i = 8 ∨ i = 9 := by omega
    rcases q with rfl | rfl | rfl | rfl | rfl | rfl | rfl | rfl | rfl | rfl
    · exact n0
    · exact n1
    · exact n2
    · exact n3
    · exact n4
    · exact n5
    · exact n6
    · exact n7
    · exact n8
    · exact n9
  · have q : i = 0 ∨ i = 1 ∨ i = 2 ∨ i = 3 ∨ i = 4 ∨ i = 5 ∨ i = 6 ∨ i = 7 ∨ i = 8 ∨ i = 9 ∨ i = 10 := by omega
    rcases q with rfl | rfl | rfl | rfl | rfl | rfl | rfl | rfl | rfl | rfl | rfl
    · exact x0
    · exact x1
    · exact x2
    · exact x3
    · exact x4
    · exact x5
    · exact x6
    · exact x7
    · exact x8
    · exact x9
    · exact x10
abbrev CTQ (N : Nat) (b : Int) (e : St) (j : Nat) : Prop := (Q N e j).tm 10 = .it .i64 (Int.ofNat (j + 11)) ∧ (Q N e j).tm 6 = .it .i64 b
abbrev XFQ (N : Nat) (e : St) (j : Nat) : Prop := xxQ N e j = false ∧ finQ N e j = true
abbrev AllB (N : Nat) (b : Int) (e : St) : Prop := isNorm (run (cl N) (N + 3000) (brX (lpBody Af e))) = true ∧ (NmQ N e 0 = true ∧ NmQ N e 1 = true ∧ NmQ N e 2 = true ∧ NmQ N e 3 = true ∧ NmQ N e 4 = true ∧ NmQ N e 5 = true ∧ NmQ N e 6 = true ∧ NmQ N e 7 = true ∧ NmQ N e 8 = true) ∧ (CTQ N b e 0 ∧ CTQ N b e 1 ∧ CTQ N b e 2 ∧ CTQ N b e 3 ∧ CTQ N b e 4 ∧ CTQ N b e 5 ∧ CTQ N b e 6 ∧ CTQ N b e 7 ∧ CTQ N b e 8 ∧ CTQ N b e 9) ∧ (XFQ N e 0 ∧ XFQ N e 1 ∧ XFQ N e 2 ∧ XFQ N e 3 ∧ XFQ N e 4)
abbrev AllC (N : Nat) (e : St) : Prop := XFQ N e 5 ∧ XFQ N e 6 ∧ XFQ N e 7 ∧ XFQ N e 8 ∧ XFQ N e 9
theorem factsB_of {N : Nat} {b : Int} {e : St} (h : AllB N b e) (l : AllC N e) : FactsB N b e := by
  obtain ⟨n, ⟨n0, n1, n2, n3, n4, n5, n6, n7, n8⟩, ⟨c0, c1, c2, c3, c4, c5, c6, c7, c8, c9⟩, ⟨x0, x1, x2, x3, x4⟩⟩ := h
  obtain ⟨x5, x6, x7, x8, x9⟩ := l
  refine ⟨n, fun j hj => ?_, fun j hj => ?_, fun j hj => ?_⟩
  · have q : j = 0 ∨ j = 1 ∨ j = 2 ∨ j = 3 ∨ j = 4 ∨ j = 5 ∨ j = 6 ∨ j = 7 ∨ j = 8 ∨ j = 9 := by omega
    rcases q with rfl | rfl | rfl | rfl | rfl | rfl | rfl | rfl | rfl | rfl
    · exact c0
    · exact c1
    · exact c2
    · exact c3
    · exact c4
    · exact c5
    · exact c6
    · exact c7
    · exact c8
    · exact c9
  · have q : j = 0 ∨ j = 1 ∨ j = 2 ∨ j = 3 ∨ j = 4 ∨ j = 5 ∨ j = 6 ∨ j = 7 ∨ j = 8 := by omega
    rcases q with rfl | rfl | rfl | rfl | rfl | rfl | rfl | rfl | rfl
    · exact n0
    · exact n1
    · exact n2
    · exact n3
    · exact n4
    · exact n5
    · exact n6
    · exact n7
    · exact n8
  · have q : j = 0 ∨ j = 1 ∨ j = 2 ∨ j = 3 ∨ j = 4 ∨ j = 5 ∨ j = 6 ∨ j = 7 ∨ j = 8 ∨ j = 9 := by omega
    rcases q with rfl | rfl | rfl | rfl | rfl | rfl | rfl | rfl | rfl | rfl
    · exact x0
    · exact x1
    · exact x2
    · exact x3
    · exact x4
    · exact x5
    · exact x6
    · exact x7
    · exact x8
    · exact x9
theorem af_keep : lpKeep Af = [5, 6, 7, 8, 9, 10] := by kernel_rfl
theorem yes_of {N : Nat} {k w a : Int} {n : Nat} {e : St} (h : FactsA N k w a (Int.ofNat n) e) (g : FactsB N (Int.ofNat n) e) (hn : n ≤ 20) : yes (crOf (run (cl N) (N + 3000) (A2 N k w a (Int.ofNat n)))) = true := by
  have hq : ∀ j, S N k w a (Int.ofNat n) (j + 11) = Q N e j := fun j => by
    have := rndS_cong (call := cl N) (L := N + 3000) (d := A2 N k w a (Int.ofNat n)) (d' := Af) (e := e) (m := 10) (h.keep.trans af_keep.symm) h.drop h.body h.st j
    rw [show j + 11 = 10 + 1 + j by omega]; exact this
  have hp : ∀ s, prepS (A2 N k w a (Int.ofNat n)) s = prepS Af s := prepS_cong (h.keep.trans af_keep.symm) h.drop
  have hc : ∀ i, i ≤ 20 → (S N k w a (Int.ofNat n) i).tm 10 = .it .i64 (Int.ofNat i) ∧ (S N k w a (Int.ofNat n) i).tm 6 = .it .i64 (Int.ofNat n) := fun i hi => by
    by_cases q : i ≤ 10
    · exact h.c i q
    · obtain ⟨j, rfl⟩ : ∃ j, i = j + 11 := ⟨i - 11, by omega⟩
      rw [hq]; exact g.c j (by omega)
  have hnm : ∀ i, i < 20 → Nm N k w a (Int.ofNat n) i = true := fun i hi => by
    by_cases q : i < 10
    · exact h.nm i q
    · by_cases q2 : i = 10
      · subst q2
        unfold Nm
        rw [h.st, h.body]; exact g.n10
      · obtain ⟨j, rfl⟩ : ∃ j, i = j + 11 := ⟨i - 11, by omega⟩
        unfold Nm
        rw [hq, hp, h.body]; exact g.nm j (by omega)
  have hex : xx N k w a (Int.ofNat n) n = false ∧ fin N k w a (Int.ofNat n) n = true := by
    by_cases q : n ≤ 10
    · exact h.ex n q
    · obtain ⟨j, rfl⟩ : ∃ j, n = j + 11 := ⟨n - 11, by omega⟩
      unfold xx fin finL
      rw [hq, hp, h.body, h.kont]; exact g.ex j (by omega)
  rw [loop_run (c := 10) (t := 6) (n := n) h.lp (by rw [h.keep]; decide) (by rw [h.keep]; decide) (by omega) (fun tm lo hp i m => by rw [h.body]; exact af_br tm lo hp i m) (fun i hi => hc i (by omega)) (fun i hi => hnm i (by omega)) hex.1]
  exact hex.2
end Go.Proofs.YtpncefcicfhibaaGreatDoor.refuses
