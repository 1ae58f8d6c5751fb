import Derived.Test.YtfnoiklmcmboeaaGreatDoorEvE
import Derived.Test.YtfnoiklmcmboeaaGreatDoorMemo
set_option linter.unusedSectionVars false
set_option linter.unusedVariables false
set_option linter.unusedSimpArgs false
-- the table, with the closed run put in (EvHp EvOwn)
namespace Ev
variable [Glob]
open Go
section
variable {F' : Nat → Option Ev.Fn} {R : Ev.R} {k : Ev.R → D} {clr : List Nat} {tm : Tm} {lo : Lo} {hp hp' : Hp} {r : List DOp} {us : List Nat} {g : Option (Nat × Bool)} {d : Nat}
end
end Ev
namespace Go.Proofs.YtfnoiklmcmboeaaGreatDoor
open Go hiding Fn
open Ev tab
def crHp : CR → Hp
  | .ret _ h => h
  | _ => h0
/-- what the closed run leaves -/
def hp11 : Hp := crHp (runF (callF F2 20000 200) 20000 c11 [] h0)
def Fq : Nat → Option Ev.Fn := fun i => bif Nat.beq i 11 then some (memoFn c11 (.bo true) hp11) else F2 i
theorem memo_call {F : Nat → Option Ev.Fn} {f : Nat} {fn : Ev.Fn} {h : Hp} (hF : F f = some (memoFn fn (.bo true) h)) (h1 : fn.md = .pure) (h2 : fn.ps = []) (h3 : fn.rs = [.c .one]) (hp : Hp) : EvC F false f [] hp (.ret (.bo true) hp) := ⟨1, fun L n _ hn => by
  obtain ⟨m, rfl⟩ : ∃ m, n = m + 1 := ⟨n - 1, by omega⟩
  obtain ⟨ps, rs, md, res, body⟩ := fn
  simp only at h1 h2 h3
  subst h1; subst h2; subst h3
  simp only [callF, hF]
  rfl⟩
theorem hF11 : Fq 11 = some (memoFn c11 (.bo true) hp11) := rfl
theorem cr_ok (hp : Hp) : EvC Fq false 11 [] hp (.ret (.bo true) hp) := memo_call hF11 rfl rfl rfl hp
end Go.Proofs.YtfnoiklmcmboeaaGreatDoor
