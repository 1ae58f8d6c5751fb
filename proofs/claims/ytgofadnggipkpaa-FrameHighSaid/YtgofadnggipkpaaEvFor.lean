import Derived.Test.YtgofadnggipkpaaEvLib
set_option linter.unusedVariables false
namespace Ev
open Go

/-- a value's head is brought out -/
def forceV {α : Type} (k : V → α) : V → α
  | .un => k .un
  | .bo b => k (.bo b)
  | .it a n => k (.it a n)
  | .fl a n => k (.fl a n)
  | .st l => k (.st l)
  | .np => k .np
  | .pt a b c => k (.pt a b c)
  | .lp a b => k (.lp a b)
  | .ip l => k (.ip l)
  | .ns => k .ns
  | .vs n l => k (.vs n l)
  | .hs a b c => k (.hs a b c)
  | .ag l => k (.ag l)
  | .tu l => k (.tu l)
  | .fc t v => k (.fc t v)
  | .nf => k .nf
  | .fn a b c => k (.fn a b c)
  | .nfn => k .nfn
  | .mp a => k (.mp a)
  | .nm => k .nm
theorem forceV_eq {α : Type} (k : V → α) (v : V) : forceV k v = k v := by cases v <;> rfl

def evLs (clr : List Nat) : List DOp → St → (R → D) → D
  | [], st, k => k (.norm st)
  | o :: r, st, k => o.ins.den o.us clr (o.dst.getD 0) st (fun v s => forceV (fun v => evLs clr r (put s o.dst v) k) v) (fun v s => k (.pan v s))
theorem evLs_eq (clr : List Nat) : ∀ (l : List DOp) (st : St) (k : R → D), evLs clr l st k = evL clr (l.map DOp.den) st k
  | [], _, _ => rfl
  | o :: r, st, k => by
    simp only [evLs, List.map_cons, evL, forceV_eq, evLs_eq clr r]
    rfl

def undos : List DOp → St → St
  | [], st => st
  | o :: r, st => undos r (put st o.dst (.tu []))
theorem undos_eq : ∀ (l : List DOp) (st : St), undos l st = undo (l.map DOp.den) st
  | [], _ => rfl
  | o :: r, st => by simp only [undos, List.map_cons, undo, undos_eq r]; rfl

def evGd (clr : List Nat) (g : DGr) (st : St) (k : R → D) : D :=
  match g.gd with
  | none => evLs clr g.ops st k
  | some (t, w) =>
    match st.tm t with
    | .bo b => .br (bif w then b else !b) (evLs clr g.ops ⟨upd st.tm t (.bo w), st.lo, st.hp⟩ k)
        (k (.norm (undos g.ops ⟨upd st.tm t (.bo (!w)), st.lo, st.hp⟩)))
    | .tu [] => k (.norm (undos g.ops st))
    | _ => .bad
theorem evGd_eq (clr : List Nat) (g : DGr) (st : St) (k : R → D) : evGd clr g st k = evG clr g.den st k := by
  unfold evGd evG DGr.den
  cases g.gd with
  | none => exact evLs_eq clr _ _ _
  | some x =>
    obtain ⟨t, w⟩ := x
    simp only
    split <;> simp only [*, evLs_eq, undos_eq]

def evGds (clr : List Nat) : List DGr → St → (R → D) → D
  | [], st, k => k (.norm ⟨clear clr st.tm, st.lo, st.hp⟩)
  | g :: r, st, k => evGd clr g st fun x => match x with
    | .norm s => evGds clr r s k
    | x => k x
theorem evGds_eq (clr : List Nat) : ∀ (l : List DGr) (st : St) (k : R → D), evGds clr l st k = evGs clr (l.map DGr.den) st k
  | [], _, _ => rfl
  | g :: r, st, k => by
    simp only [evGds, List.map_cons, evGs, evGd_eq, evGds_eq clr r]
    congr 1

def cRegs (draw : Bool) (gs : List DGr) (clr : List Nat) : Sh := fun st k =>
  bif draw then evGds clr gs st fun x => match x with
    | .pan _ _ => .bad
    | x => k x
  else evGds clr gs st k

def C.run : C → Sh
  | .skip => cSkip
  | .reg draw ops clr => cRegs draw (bif draw then alone ops else group ops) clr
  | .seq a b => cSeq a.run b.run
  | .cond c x y => cIf c x.run y.run
  | .blk id c => cBlk id c.run
  | .loop k d c => cLoop k d c.run
  | .exit id => cExit id
  | .ret => cRet

theorem C.run_eq : ∀ c : C, c.run = c.den
  | .skip => rfl
  | .reg draw ops clr => by
    funext st k
    simp only [C.run, C.den, cRegs, cReg, evGds_eq]
    cases draw
    · rfl
    · simp only [cond_true]
      congr 1
  | .seq a b => by simp only [C.run, C.den, C.run_eq a, C.run_eq b]
  | .cond c x y => by simp only [C.run, C.den, C.run_eq x, C.run_eq y]
  | .blk id c => by simp only [C.run, C.den, C.run_eq c]
  | .loop k d c => by simp only [C.run, C.den, C.run_eq c]
  | .exit id => rfl
  | .ret => rfl

/-- a function's body, laid so that a proof can step through it -/
def stepD (d : DFn) (args : List V) (hp : Hp) : D :=
  d.body.run ⟨argT args, fun _ => none, hp⟩ fun x => match x with
    | .norm st | .ret st => resultsD st d.res fun vs => .done (.ret ⟨fun _ => tuple vs, fun _ => none, st.hp⟩)
    | .pan v st => .done (.pan v ⟨fun _ => .un, fun _ => none, st.hp⟩)
    | _ => .bad
theorem stepD_eq (d : DFn) (args : List V) (hp : Hp) : stepD d args hp = bodyD d.den args hp := by
  unfold stepD bodyD DFn.den
  rw [C.run_eq]
  congr 1

/-- the bodies of the loops -/
def C.lps : C → List C
  | .seq a b => a.lps ++ b.lps
  | .cond _ x y => x.lps ++ y.lps
  | .blk _ c => c.lps
  | .loop _ _ c => c :: c.lps
  | _ => []
def lp (d : DFn) (n : Nat) : St → D := fun s => (d.body.lps.getD n .skip).run s .done

section
variable {F : Nat → Option Ev.Fn}
theorem EvP.of {f : Nat} (d : DFn) {ys zs : List V} (h1 : F f = some d.den) (h2 : d.md = .pure) (h3 : Nat.beq ys.length d.ps.length = true) {v : V} {h h' : Hp} (h4 : EvD F (stepD d ys h0) (Rt v h))
    (h5 : ClP d.rs (untuple d.rs.length v) h zs h') : EvP F f d.den ys zs := ⟨h1, h2, h3, v, h, h', by rw [stepD_eq] at h4; exact h4, h5⟩

theorem EvO.of {f : Nat} (d : DFn) {ys : List V} {ts : List Ty} {rows : List (List V)} (h1 : F f = some d.den) (h2 : d.md = .pure) (h3 : Nat.beq ys.length d.ps.length = true) (h4 : d.rs = [.c (.sl ts)])
    {id i len : Nat} {h : Hp} {es : List (List V)} (h5 : EvD F (stepD d ys h0) (Rt (.hs id i len) h)) (hg : hget h id = some ⟨ts.length, false, es⟩) (hl : h.lim ≤ id) (hb : i + len ≤ es.length)
    (he : (es.drop i).take len = rows) (hc : ∀ e, e ∈ rows → CloL ts e) (hn : len + ts.length + 3 ≤ depth) : EvO F f d.den ys ts.length rows := by
  subst he
  have hlen : ((es.drop i).take len).length = len := by simp; omega
  refine ⟨h1, h2, h3, _, h, _, h4, by rw [stepD_eq] at h5; exact h5, ⟨hset h id (some ⟨ts.length, true, es⟩), ?_⟩, .inl fun hp => ?_⟩
  · unfold closeP; simp only []; exact closeC_hs hg hl rfl hb hc hn
  · unfold ownP
    have hlt : Nat.blt id h.lim = false := by rw [bltD]; simp; omega
    have hq2 : Nat.ble (i + len) es.length = true := by rw [bleD]; simp [hb]
    simp only [hg, cond_false, hlt, Nat.beq_refl, cond_true, hq2, closeEs_clo depth _ hc (by omega), hlen]
theorem EvO.ofN {f : Nat} (d : DFn) {ys : List V} {ts : List Ty} (h1 : F f = some d.den) (h2 : d.md = .pure) (h3 : Nat.beq ys.length d.ps.length = true) (h4 : d.rs = [.c (.sl ts)])
    {h : Hp} (h5 : EvD F (stepD d ys h0) (Rt .ns h)) : EvO F f d.den ys ts.length [] := by
  have e : closeP (.c (.sl ts)) .ns h = some (.vs ts.length [], h) := by unfold closeP; rw [depth_succ]; rfl
  refine ⟨h1, h2, h3, _, h, _, h4, by rw [stepD_eq] at h5; exact h5, ⟨_, e⟩, .inr ⟨rfl, fun hp => ?_⟩⟩
  unfold ownP; simp only [e]
end
end Ev
