import Derived.Test.YtcbiplmgaiipgaaDoorEvE
import Derived.Test.YtcbiplmgaiipgaaDoorMsg
set_option linter.unusedVariables false
set_option linter.unusedSimpArgs false
set_option linter.unusedSectionVars false
-- what the laws of layer 15 lean on
namespace Go.Proofs.YtcbiplmgaiipgaaDoor
open Go hiding Fn
open Ev tab
theorem mruns_go : ∀ N M, run (callF F (N + 2000) (M + 60)) (N + 2000) (bodyD c7 [] h0) = Rt (.bo true) (hpOf (run (callF F 2000 60) 2000 (bodyD c7 [] h0))) := by
  intro N M; kernel_rfl
theorem mruns_ok : EvP F 7 c7 [] [.bo true] := .closed 2000 60 rfl rfl rfl rfl mruns_go
attribute [local irreducible] EvD EvL EvC evGds evLs C.run sK bK gK pK fK lpB stepD

theorem of_ok (a b : List Nat) : EvP F 4 c4 [.st a, .st b] [.ag (fd (a, b))] := by
  refine EvP.of d4 rfl rfl rfl (v := .ag _) (h := h0) (h' := h0) ?_ (.gs (fd_clo _) (.nil _))
  refine X.fn ?_
  refine X.run ?_
  exact X.fin1 (fun _ => rfl) rfl rfl rfl

def lightGo (n : Nat) : List Fld → Bool
  | [] => true
  | f :: r => if 3000 < n + f.1.length + f.2.length + 1 then false else lightGo (n + f.1.length + f.2.length + 1) r
def lightB (l : List Fld) : Bool := lightGo 0 l
/-- fields the same as themselves -/
def L51 : C := d20.body.lps.getD 0 .skip
end Go.Proofs.YtcbiplmgaiipgaaDoor
