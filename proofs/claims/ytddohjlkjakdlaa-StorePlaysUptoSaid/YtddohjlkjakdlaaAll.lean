import Derived.Test.YtddohjlkjakdlaaEvE
import Derived.Test.YtddohjlkjakdlaaTok
set_option linter.unusedVariables false
set_option linter.unusedSimpArgs false
set_option linter.unusedSectionVars false
set_option linter.unusedVariables false
set_option linter.unusedSimpArgs false
-- the fields of a name, joined; texts without blanks at their ends
namespace Go.Proofs.Ytddohjlkjakdlaa
open Go hiding Fn
open Ev tab

theorem txs_all : ∀ l : List (List Nat), allSome txt (txs l) = some l
  | [] => rfl
  | s :: r => by
    rw [show txs (s :: r) = [.st s] :: txs r from rfl]
    simp only [allSome, txt, txs_all r]
theorem join_ok (ls : List (List Nat)) (sep : List Nat) (h1 : (joinL ls sep).length ≤ maxB) (h2 : ls.length ≤ maxB) : EvP F 67 joinFn [.vs 1 (txs ls), .st sep] [.st (joinL ls sep)] := by
  refine ⟨rfl, rfl, rfl, .st (joinL ls sep), h0, h0, ⟨0, fun L n _ _ => ?_⟩, .s (clo_st _) (.nil _)⟩
  show run (callF F L n) L (.chk (Nat.beq 1 1) (oneD (allSome txt (txs ls)) fun ls' => .chk (Nat.ble (joinL ls' sep).length maxB) (.chk (Nat.ble (txs ls).length maxB) (.done (.ret ⟨fun _ => .st (joinL ls' sep), fun _ => none, h0⟩))))) = _
  rw [txs_all]
  have e1 : Nat.ble (joinL ls sep).length maxB = true := Nat.ble_eq_true_of_le h1
  have e2 : Nat.ble (txs ls).length maxB = true := by rw [txs_length]; exact Nat.ble_eq_true_of_le h2
  simp only [run, oneD, e1, e2]
  rfl

/-- the values of the fields of a name -/
def valsF (l : List Fld) (name : List Nat) : List (List Nat) := (l.filter fun f => decide (f.1 = name)).map (·.2)
def sSep : List Nat := [44, 32]
def allF (l : List Fld) (name : List Nat) : List Nat := joinL (valsF l name) sSep
theorem valsF_append (a b : List Fld) (n : List Nat) : valsF (a ++ b) n = valsF a n ++ valsF b n := by simp [valsF]
theorem valsF_take {l : List Fld} {i : Nat} (h : i < l.length) (n : List Nat) : valsF (l.take (i + 1)) n = if l[i].1 = n then valsF (l.take i) n ++ [l[i].2] else valsF (l.take i) n := by
  rw [List.take_succ_eq_append_getElem h, valsF_append]
  by_cases e : l[i].1 = n
  · rw [if_pos e]; simp [valsF, e]
  · rw [if_neg e]; simp [valsF, e]
theorem valsF_getD {l : List Fld} {i : Nat} (h : i < l.length) (n : List Nat) : valsF (l.take (i + 1)) n = if (l.getD i f0).1 = n then valsF (l.take i) n ++ [(l.getD i f0).2] else valsF (l.take i) n := by
  rw [valsF_take h]; simp [List.getD, h]
theorem valsF_len (l : List Fld) (n : List Nat) : (valsF l n).length ≤ l.length := by
  unfold valsF; rw [List.length_map]; exact List.length_filter_le _ _
theorem joinL_len (k : Nat) : ∀ ls : List (List Nat), (∀ s, s ∈ ls → s.length ≤ k) → (joinL ls sSep).length ≤ ls.length * (k + 2)
  | [], _ => Nat.zero_le _
  | [x], h => by
    have := h x (by simp)
    simp only [joinL, List.length_cons, List.length_nil]; omega
  | x :: y :: r, h => by
    have h1 := h x (by simp)
    have h2 := joinL_len k (y :: r) (fun s hs => h s (by simp [hs]))
    simp only [joinL, List.length_append, List.length_cons] at h2 ⊢
    have : sSep.length = 2 := rfl
    rw [this, Nat.add_mul, Nat.one_mul]
    omega
/-- fields whose values are not too long together -/
def JOK (l : List Fld) : Prop := l.length ≤ 3100 ∧ ∀ f, f ∈ l → f.1.length ≤ 3100 ∧ f.2.length ≤ 3100
theorem allF_len {l : List Fld} (h : JOK l) (n : List Nat) : (allF l n).length ≤ 9700000 := by
  have h1 := joinL_len 3100 (valsF l n) (fun s hs => by
    simp only [valsF, List.mem_map, List.mem_filter] at hs
    obtain ⟨f, ⟨hf, _⟩, rfl⟩ := hs
    exact (h.2 f hf).2)
  have h2 := valsF_len l n
  have h3 := h.1
  have : (valsF l n).length * (3100 + 2) ≤ 3100 * 3102 := Nat.mul_le_mul (by omega) (by omega)
  unfold allF
  omega
attribute [local irreducible] EvD EvL EvC evGds evLs C.run sK bK gK pK fK lpB stepD
set_option maxHeartbeats 8000000 in
theorem all_ok (l : List Fld) (name : List Nat) (hl : JOK l) : EvP F 59 c59 [.vs 2 (fds l), .st name] [.st (allF l name), .it .i64 (Int.ofNat (valsF l name).length)] := by
  have hl1 := hl.1
  refine EvP.ofQ d59 rfl rfl rfl ?_
  repeat' (first | refine EvQ.run ?_ | (refine EvQ.pickB rfl rfl rfl ?_) | (refine EvQ.cond rfl (fun h => ?_) (fun h => ?_) <;> ((first | replace h := X.nm h | skip); try have hne := ne_len h)) | (refine EvQ.g1 rfl (fun h => ?_) (fun h => ?_) <;> ((first | replace h := X.nm h | skip); try have hne := ne_len h)) | (refine EvQ.pick rfl (fun _ => rfl) (fun _ => rfl) (fun h => ?_) (fun h => ?_) <;> ((first | replace h := X.nm h | skip); try have hne := ne_len h)) | refine EvQ.fin X.rs ?_ | refine EvQ.fin1 (fun _ => rfl) rfl ?_)
  refine EvQ.loop (QL := fun r => ∃ v, XtQ 0 [(6, v)] (fun _ hp => Ow hp v 1 (txs (valsF l name)) ∧ hp.lim ≤ hp.next) r) ?_ ?_
  · refine EvL.invQ (S := Nat × V) (fun s => [(1, .st name), (6, s.2), (9, .vs 2 (fds l)), (10, .it .i64 (Int.ofNat l.length)), (11, .it .i64 (Int.ofNat s.1))]) (fun s _ hp => s.1 ≤ l.length ∧ Ow hp s.2 1 (txs (valsF (l.take s.1) name)) ∧ hp.lim ≤ hp.next) (fun s => l.length - s.1) _ ?_ (0, .ns) _ _ _ ⟨by simp, .ns, Nat.le_refl _⟩ rfl
    intro ⟨i, v⟩ lo hp ⟨h1, hO, hlim⟩
    simp only at h1 hO
    have hel := hO.lp
    have hn := valsF_len (l.take i) name
    rw [List.length_take] at hn
    repeat' (first | refine EvQ.run ?_ | (refine EvQ.pickB rfl rfl rfl ?_) | (refine EvQ.cond rfl (fun h => ?_) (fun h => ?_) <;> ((first | replace h := X.nm h | skip); try have hne := ne_len h)) | (refine EvQ.g1 rfl (fun h => ?_) (fun h => ?_) <;> ((first | replace h := X.nm h | skip); try have hne := ne_len h)) | (refine EvQ.pick rfl (fun _ => rfl) (fun _ => rfl) (fun h => ?_) (fun h => ?_) <;> ((first | replace h := X.nm h | skip); try have hne := ne_len h)) | refine EvQ.fin X.rs ?_ | refine EvQ.fin1 (fun _ => rfl) rfl ?_)
    · have e := valsF_getD (by omega) name (l := l) (i := i)
      rw [if_pos (by assumption)] at e
      refine EvQ.go (i + 1, _) X.kv ⟨by show i + 1 ≤ _; omega, ?_, ?_⟩ (by show l.length - (i + 1) < l.length - i; omega)
      · show Ow _ _ 1 (txs (valsF (l.take (i + 1)) name))
        rw [e, ← txs_append]
        exact hO.put hlim
      · rw [oah_lim, oah_next]; omega
    · have e := valsF_getD (by omega) name (l := l) (i := i)
      rw [if_neg (by assumption)] at e
      refine EvQ.go (i + 1, _) X.kv ⟨by show i + 1 ≤ _; omega, ?_, hlim⟩ (by show l.length - (i + 1) < l.length - i; omega)
      show Ow _ _ 1 (txs (valsF (l.take (i + 1)) name))
      rw [e]; exact hO
    · refine EvQ.xt ⟨v, .mk' X.kv ⟨?_, hlim⟩⟩
      rw [List.take_of_length_le (by omega)] at hO
      exact hO
  · rintro _ ⟨v, tm, lo, hp, rfl, hO, hlim⟩
    have hel := hO.lp
    have hvn := valsF_len l name
    have hvl := lenO hO.len (txs_length _)
    obtain ⟨hp', hc, hcf⟩ := hO.sl.close (ts := [.one]) (txs_clo _) (by rw [txs_length]; simp [depth]; omega)
    have hj := join_ok (valsF l name) sSep (by have := allF_len hl name; unfold allF at this; simp [maxB]; omega) (by simp [maxB]; omega)
    repeat' (first | refine EvQ.run ?_ | refine EvQ.lift (fun _ zn => X.pcall (hj) X.cq rfl X.al rfl zn) ?_ | refine EvQ.lift (fun _ zn => X.pcallG (hj) rfl X.cq rfl X.al rfl zn) ?_ | refine EvQ.lift (fun _ zn => X.pcallC (hj) rfl X.cq rfl X.al rfl zn) ?_ | refine EvQ.lift (fun _ zn => X.pcallT (hj) (by decide) X.cq rfl X.al rfl zn) ?_ | refine EvQ.lift (fun _ zn => X.call rfl X.al (hj) zn) ?_ | (refine EvQ.pickB rfl rfl rfl ?_) | (refine EvQ.cond rfl (fun h => ?_) (fun h => ?_) <;> ((first | replace h := X.nm h | skip); try have hne := ne_len h)) | (refine EvQ.g1 rfl (fun h => ?_) (fun h => ?_) <;> ((first | replace h := X.nm h | skip); try have hne := ne_len h)) | (refine EvQ.pick rfl (fun _ => rfl) (fun _ => rfl) (fun h => ?_) (fun h => ?_) <;> ((first | replace h := X.nm h | skip); try have hne := ne_len h)) | refine EvQ.fin X.rs ?_ | refine EvQ.fin1 (fun _ => rfl) rfl ?_)
    exact PQ.of (.s (clo_st _) (.s (clo_it _ _) (.nil _)))
end Go.Proofs.Ytddohjlkjakdlaa
