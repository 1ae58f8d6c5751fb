import Derived.Test.YtcbiplmgaiipgaaEvE
import Derived.Test.YtcbiplmgaiipgaaRenM
import Derived.Test.YtcbiplmgaiipgaaAskW
set_option linter.unusedVariables false
set_option linter.unusedSimpArgs false
set_option linter.unusedSectionVars false
-- merge.Renew
namespace Go.Proofs.Ytcbiplmgaiipgaa
open Go hiding Fn
open Ev tab
attribute [local irreducible] EvD EvL EvC evGds evLs C.run sK bK gK pK fK lpB stepD

/-- fields that close without a change of the heap -/
structure Cl (v : V) (l : List Fld) : Prop where
  c : ∀ hp, closeC depth (.sl [.one, .one]) v hp = some (.vs 2 (fds l), hp)
  s : ∀ hp, Sl hp v 2 (fds l)
theorem Cl.vs (l : List Fld) : Cl (.vs 2 (fds l)) l := ⟨fun hp => clo_depth (clo_vs [.one, .one] _) hp, fun _ => .vs⟩
theorem Cl.ns : Cl .ns [] := ⟨fun hp => by rw [depth_succ]; rfl, fun _ => .inl ⟨rfl, rfl⟩⟩
def rowRqV (q : Rq) (v : V) : List V := [.st q.m, .st q.s, .st q.a, .st q.p, v, .it .i64 q.n]
def rowRsV (s : Rs) (v : V) : List V := [.it .i64 s.k, v, .it .i64 s.n]
def rowEnV (e : En) (v w : V) : List V := [.st e.q.m, .st e.q.s, .st e.q.a, .st e.q.p, v, .it .i64 e.q.n, .it .i64 e.s.k, w, .it .i64 e.s.n, .st e.body, .it .i64 e.asked, .it .i64 e.came]
/-- what a call made of its own -/
structure Nw (h0' hp : Hp) (v : V) (rows : List (List V)) : Prop where
  o : Ow hp v 2 rows
  u : Up h0'.next h0' hp
  f : ∀ id, idOf v = some id → h0'.next ≤ id
theorem Nw.put {h0' hp : Hp} {v : V} {rows new : List (List V)} (h : Nw h0' hp v rows) (hl : h0'.lim ≤ h0'.next) : Nw h0' (oah hp v 2 (rows ++ new)) (.hs hp.next 0 (rows.length + new.length)) (rows ++ new) :=
  ⟨h.o.put (by rw [h.u.lim]; have := h.u.next; omega), h.u.oah h.u.next h.f, fun id e => by cases e; exact h.u.next⟩
theorem Nw.ns {h0' : Hp} : Nw h0' h0' .ns [] := ⟨.ns, .refl _ _, fun id e => by cases e⟩
def zEn : List V := [.st [], .st [], .st [], .st [], .ns, .it .i64 0, .it .i64 0, .ns, .it .i64 0, .st [], .it .i64 0, .it .i64 0]
def LSr (e : En) (s : Rs) (vq vf u : V) : Lo := lset (lset (lset (fun _ => none) 4 (rowEnV e vq vf)) 5 (rowRsV s u)) 8 zEn
def LSr2 (e : En) (vq vf : V) : Lo := lset (lset (fun _ => none) 4 (rowEnV e vq vf)) 8 zEn
/-- what a renewed entry is -/
structure Rnw (hp : Hp) (E : En) (v : V) (hp' : Hp) : Prop where
  un : ∃ vq vf, v = .ag (rowEnV E vq vf) ∧ Nw hp hp' vq (fds E.q.fs) ∧ Nw hp hp' vf (fds E.s.fs) ∧ ∀ id, idOf vq = some id → idOf vf ≠ some id
end Go.Proofs.Ytcbiplmgaiipgaa
