import Derived.Test.YtcbiplmgaiipgaaEvE
import Derived.Test.YtcbiplmgaiipgaaEnt
set_option linter.unusedVariables false
set_option linter.unusedSimpArgs false
set_option linter.unusedSectionVars false
-- the request by which an entry is asked for
namespace Go.Proofs.Ytcbiplmgaiipgaa
open Go hiding Fn
open Ev tab
attribute [local irreducible] EvD EvL EvC evGds evLs C.run sK bK gK pK fK lpB stepD

theorem closeCs_rqO {hp : Hp} {v : V} {rows : List (List V)} (L : List Fld) (m s a p : List Nat) (n : Int) (hO : Ow hp v 2 rows) (hrow : rows = fds L) (hn : L.length ≤ 10000000) :
    ∃ hp', closeCs depth [.one, .one, .one, .one, .sl [.one, .one], .one] [.st m, .st s, .st a, .st p, v, .it .i64 n] hp = some ([.st m, .st s, .st a, .st p, .vs 2 (fds L), .it .i64 n], hp') := by
  subst hrow
  have h5 : ∃ hp', closeC (99999993 + 2) (.sl [.one, .one]) v hp = some (.vs 2 (fds L), hp') := by
    rcases hO with ⟨rfl, hr⟩ | ⟨id, rfl, q1, q2, q3⟩
    · exact ⟨hp, by rw [hr]; rfl⟩
    · have e : ((fds L).drop 0).take (fds L).length = fds L := by rw [List.drop_zero, List.take_length]
      have := closeC_hs (n := 99999993 + 2) (ts := [.one, .one]) (i := 0) (len := (fds L).length) q3 q2 rfl (by omega) (by rw [e]; exact fds_clo L) (by rw [fds_length]; simp; omega)
      rw [e] at this
      exact ⟨_, this⟩
  obtain ⟨hp', h5⟩ := h5
  have gen : ∀ k, closeC (k + 2) (.sl [.one, .one]) v hp = some (.vs 2 (fds L), hp') →
      closeCs (k + 7) [.one, .one, .one, .one, .sl [.one, .one], .one] [.st m, .st s, .st a, .st p, v, .it .i64 n] hp = some ([.st m, .st s, .st a, .st p, .vs 2 (fds L), .it .i64 n], hp') := by
    intro k h5
    have c1 : ∀ (j : Nat) (x : List Nat) (h : Hp), closeC (j + 1) .one (.st x) h = some (.st x, h) := fun _ _ _ => rfl
    have c2 : ∀ (j : Nat) (kk : IntKind) (x : Int) (h : Hp), closeC (j + 1) .one (.it kk x) h = some (.it kk x, h) := fun _ _ _ _ => rfl
    simp only [closeCs, c1, c2, h5]
  exact ⟨hp', gen 99999993 h5⟩

def conds : List (List Nat) := [[105, 102, 45, 110, 111, 110, 101, 45, 109, 97, 116, 99, 104], [105, 102, 45, 109, 111, 100, 105, 102, 105, 101, 100, 45, 115, 105, 110, 99, 101], [105, 102, 45, 109, 97, 116, 99, 104],
  [105, 102, 45, 117, 110, 109, 111, 100, 105, 102, 105, 101, 100, 45, 115, 105, 110, 99, 101], [105, 102, 45, 114, 97, 110, 103, 101], [114, 97, 110, 103, 101]]
def condB (s : List Nat) : Bool := decide (s ∈ conds)
def sContent : List (List Nat) := [[99, 111, 110, 116, 101, 110, 116, 45, 108, 101, 110, 103, 116, 104], [99, 111, 110, 116, 101, 110, 116, 45, 101, 110, 99, 111, 100, 105, 110, 103], [99, 111, 110, 116, 101, 110, 116, 45, 116, 121, 112, 101], [99, 111, 110, 116, 101, 110, 116, 45, 114, 97, 110, 103, 101]]
def contB (s : List Nat) : Bool := decide (s ∈ sContent)
end Go.Proofs.Ytcbiplmgaiipgaa
