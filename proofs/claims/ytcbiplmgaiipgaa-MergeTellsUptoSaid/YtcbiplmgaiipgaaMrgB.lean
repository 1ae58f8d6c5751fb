import Derived.Test.YtcbiplmgaiipgaaEvE
import Derived.Test.YtcbiplmgaiipgaaEvE
import Derived.Test.YtcbiplmgaiipgaaTagsM
set_option linter.unusedVariables false
set_option linter.unusedSimpArgs false
-- chapter 22's runs; what its laws build
namespace Go.Proofs.Ytcbiplmgaiipgaa
open Go hiding Fn
open Ev tab
theorem mergeruns_go : ∀ N M, run (callF F (N + 2000) (M + 60)) (N + 2000) (bodyD c13 [] h0) = Rt (.bo true) (hpOf (run (callF F 2000 60) 2000 (bodyD c13 [] h0))) := by
  intro N M; kernel_rfl
theorem mergeruns_ok : EvP F 13 c13 [] [.bo true] := .closed 2000 60 rfl rfl rfl rfl mergeruns_go
attribute [local irreducible] EvD EvL EvC evGds evLs C.run sK bK gK pK fK lpB stepD
theorem of47_ok (a b : List Nat) : EvP F 47 c47 [.st a, .st b] [.ag (fd (a, b))] := by
  refine EvP.ofQ d47 rfl rfl rfl ?_
  repeat' (first | refine EvQ.run ?_ | (refine EvQ.pickB rfl rfl rfl ?_) | (refine EvQ.cond rfl (fun h => ?_) (fun h => ?_) <;> ((first | replace h := X.nm h | skip); try have hne := ne_len h)) | (refine EvQ.g1 rfl (fun h => ?_) (fun h => ?_) <;> ((first | replace h := X.nm h | skip); try have hne := ne_len h)) | (refine EvQ.pick rfl (fun _ => rfl) (fun _ => rfl) (fun h => ?_) (fun h => ?_) <;> ((first | replace h := X.nm h | skip); try have hne := ne_len h)) | refine EvQ.fin X.rs ?_ | refine EvQ.fin1 (fun _ => rfl) rfl ?_)
  exact PQ.of (.gs (fd_clo (a, b)) (.nil _))
def entE (l : List Fld) : En := ⟨⟨[], [], [], [], [], 0⟩, ⟨200, l, 0⟩, [], 0, 0⟩
theorem ent46_ok (l : List Fld) : EvP F 46 c46 [.vs 2 (fds l)] [.ag (rowEn (entE l))] := by
  refine EvP.ofQ d46 rfl rfl rfl ?_
  repeat' (first | refine EvQ.run ?_ | (refine EvQ.pickB rfl rfl rfl ?_) | (refine EvQ.cond rfl (fun h => ?_) (fun h => ?_) <;> ((first | replace h := X.nm h | skip); try have hne := ne_len h)) | (refine EvQ.g1 rfl (fun h => ?_) (fun h => ?_) <;> ((first | replace h := X.nm h | skip); try have hne := ne_len h)) | (refine EvQ.pick rfl (fun _ => rfl) (fun _ => rfl) (fun h => ?_) (fun h => ?_) <;> ((first | replace h := X.nm h | skip); try have hne := ne_len h)) | refine EvQ.fin X.rs ?_ | refine EvQ.fin1 (fun _ => rfl) rfl ?_)
  exact PQ.of (.gs2 (.cons (fun _ _ => rfl) (.cons (fun _ _ => rfl) (.cons (fun _ _ => rfl) (.cons (fun _ _ => rfl) (.cons (clo_ns [.one, .one]) (.cons (fun _ _ => rfl) (.cons (fun _ _ => rfl) (.cons (clo_vs [.one, .one] _) (.cons (fun _ _ => rfl) (.cons (fun _ _ => rfl) (.cons (fun _ _ => rfl) (.cons (fun _ _ => rfl) .nil)))))))))))) (.nil _))
theorem JOK1 (s : List Nat) (h : s.length ≤ 3000) (n : List Nat) (hn : n.length ≤ 3000) : JOK [(n, s)] := ⟨by simp, fun f hf => by simp at hf; subst hf; exact ⟨Nat.le_trans hn (by decide), Nat.le_trans h (by decide)⟩⟩
theorem wq_len (w : Bool) (a : List Nat) : (wq w a).length ≤ a.length + 4 := by unfold wq qt; cases w <;> simp
theorem tagC_of {c : Nat} (h1 : ¬ c < 33) (h2 : ¬ 126 < c) (h3 : ¬ c = 34) (h4 : ¬ c = 92) : tagC c = true := by
  simp [tagC]; omega
theorem tagOK_of {s : List Nat} (h : ∀ j, j < s.length → tagC (s.getD j 0) = true) : tagOK s := fun c hc => List.all_eq_true.1 (all_of h) c hc
end Go.Proofs.Ytcbiplmgaiipgaa
