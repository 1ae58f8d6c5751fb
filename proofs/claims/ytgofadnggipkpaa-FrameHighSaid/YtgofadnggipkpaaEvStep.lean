import Derived.Test.YtgofadnggipkpaaEvFor
set_option linter.unusedVariables false
namespace Ev
open Go

def sK (b : C) (k : R → D) : R → D := fun x => match x with | .norm s => b.run s k | x => k x
def bK (id : Nat) (k : R → D) : R → D := fun x => match x with | .exit i s => k (bif Nat.beq i id then .norm s else .exit i s) | x => k x
def gK (clr : List Nat) (gs : List DGr) (k : R → D) : R → D := fun x => match x with | .norm s => evGds clr gs s k | x => k x
def pK (k : R → D) : R → D := fun x => match x with | .pan _ _ => .bad | x => k x
def fK (d : DFn) : R → D := fun x => match x with
    | .norm st | .ret st => resultsD st d.res fun vs => .done (.ret ⟨fun _ => tuple vs, fun _ => none, st.hp⟩)
    | .pan v st => .done (.pan v ⟨fun _ => .un, fun _ => none, st.hp⟩)
    | _ => .bad
def lpB (c : C) : St → D := fun s => c.run s .done
def undoT : List DOp → Tm → Tm
  | [], tm => tm
  | o :: r, tm => undoT r (match o.dst with | some d => upd tm d (.tu []) | none => tm)
theorem undoT_eq (lo : Lo) (hp : Hp) : ∀ (l : List DOp) (tm : Tm), undos l ⟨tm, lo, hp⟩ = ⟨undoT l tm, lo, hp⟩
  | [], _ => rfl
  | o :: r, tm => by
    unfold undos undoT put
    cases o.dst <;> exact undoT_eq lo hp r _

abbrev FV (K : V → St → D) : V → St → D := fun v s => forceV (fun v => K v s) v

section
variable {F : Nat → Option Ev.Fn} {R : R} {k : Ev.R → D} {clr : List Nat} {tm : Tm} {lo : Lo} {hp : Hp} {r : List DOp} {us : List Nat} {g : Option (Nat × Bool)}

theorem X.fn {d : DFn} {args : List V} (h : EvD F (d.body.run ⟨argT args, fun _ => none, hp⟩ (fK d)) R) : EvD F (stepD d args hp) R := h
theorem X.seq {a b : C} {st : St} (h : EvD F (a.run st (sK b k)) R) : EvD F ((C.seq a b).run st k) R := h
theorem X.skip {st : St} (h : EvD F (k (.norm st)) R) : EvD F (C.skip.run st k) R := h
theorem X.ret {st : St} (h : EvD F (k (.ret st)) R) : EvD F (C.ret.run st k) R := h
theorem X.exit {id : Nat} {st : St} (h : EvD F (k (.exit id st)) R) : EvD F ((C.exit id).run st k) R := h
theorem X.blk {id : Nat} {c : C} {st : St} (h : EvD F (c.run st (bK id k)) R) : EvD F ((C.blk id c).run st k) R := h
theorem X.reg0 {ops : List DOp} {st : St} {gs : List DGr} (hg : group ops = gs) (h : EvD F (evGds clr gs st k) R) : EvD F ((C.reg false ops clr).run st k) R := by subst hg; exact h
theorem X.reg1 {ops : List DOp} {st : St} {gs : List DGr} (hg : alone ops = gs) (h : EvD F (evGds clr gs st (pK k)) R) : EvD F ((C.reg true ops clr).run st k) R := by subst hg; exact h
theorem X.cond {c : A} {x y : C} {b : Bool} (hc : get tm c = .bo b) (h1 : b = true → EvD F (x.run ⟨tm, lo, hp⟩ k) R) (h2 : b = false → EvD F (y.run ⟨tm, lo, hp⟩ k) R) : EvD F ((C.cond c x y).run ⟨tm, lo, hp⟩ k) R := by
  have e : (C.cond c x y).run ⟨tm, lo, hp⟩ k = .br b (x.run ⟨tm, lo, hp⟩ k) (y.run ⟨tm, lo, hp⟩ k) := by
    show (match get tm c with | .bo t => D.br t (x.run ⟨tm, lo, hp⟩ k) (y.run ⟨tm, lo, hp⟩ k) | _ => .bad) = _
    rw [hc]
  rw [e]; exact .br h1 h2
theorem X.loop {keep drop : List Nat} {c : C} {st : St} {x : Ev.R} (h : EvL F keep drop (lpB c) st x) (h' : EvD F (k x) R) : EvD F ((C.loop keep drop c).run st k) R := .loop h h'
theorem X.lpb {c : C} {st : St} (h : EvD F (c.run st .done) R) : EvD F (lpB c st) R := h
theorem X.sn {b : C} {s : St} (h : EvD F (b.run s k) R) : EvD F (sK b k (.norm s)) R := h
theorem X.se {b : C} {i : Nat} {s : St} (h : EvD F (k (.exit i s)) R) : EvD F (sK b k (.exit i s)) R := h
theorem X.sr {b : C} {s : St} (h : EvD F (k (.ret s)) R) : EvD F (sK b k (.ret s)) R := h
theorem X.bn {id : Nat} {s : St} (h : EvD F (k (.norm s)) R) : EvD F (bK id k (.norm s)) R := h
theorem X.br {id : Nat} {s : St} (h : EvD F (k (.ret s)) R) : EvD F (bK id k (.ret s)) R := h
theorem X.bh {id : Nat} {s : St} (h : EvD F (k (.norm s)) R) : EvD F (bK id k (.exit id s)) R := by
  show EvD F (k (bif Nat.beq id id then .norm s else .exit id s)) R
  rw [Nat.beq_refl]; exact h
theorem X.bm {id i : Nat} {s : St} (hn : Nat.beq i id = false) (h : EvD F (k (.exit i s)) R) : EvD F (bK id k (.exit i s)) R := by
  show EvD F (k (bif Nat.beq i id then .norm s else .exit i s)) R
  rw [hn]; exact h
theorem X.pn {s : St} (h : EvD F (k (.norm s)) R) : EvD F (pK k (.norm s)) R := h
theorem X.gn (h : EvD F (k (.norm ⟨clear clr tm, lo, hp⟩)) R) : EvD F (evGds clr [] ⟨tm, lo, hp⟩ k) R := h
theorem X.g0 {ops : List DOp} {gs : List DGr} {st : St} (h : EvD F (evLs clr ops st (gK clr gs k)) R) : EvD F (evGds clr (⟨none, ops⟩ :: gs) st k) R := h
theorem X.g1 {ops : List DOp} {gs : List DGr} {t : Nat} {w b : Bool} (ht : tm t = .bo b) (h1 : b = w → EvD F (evLs clr ops ⟨upd tm t (.bo w), lo, hp⟩ (gK clr gs k)) R)
    (h2 : b = (!w) → EvD F (evGds clr gs ⟨undoT ops (upd tm t (.bo (!w))), lo, hp⟩ k) R) : EvD F (evGds clr (⟨some (t, w), ops⟩ :: gs) ⟨tm, lo, hp⟩ k) R := by
  have e : evGds clr (⟨some (t, w), ops⟩ :: gs) ⟨tm, lo, hp⟩ k = .br (bif w then b else !b) (evLs clr ops ⟨upd tm t (.bo w), lo, hp⟩ (gK clr gs k)) (evGds clr gs ⟨undoT ops (upd tm t (.bo (!w))), lo, hp⟩ k) := by
    rw [← undoT_eq]
    simp only [evGds, evGd, ht]
    rfl
  rw [e]
  exact .br (fun q => h1 (by cases w <;> cases b <;> first | rfl | cases q)) (fun q => h2 (by cases w <;> cases b <;> first | rfl | cases q))
theorem X.gt {ops : List DOp} {gs : List DGr} {t : Nat} {w : Bool} (ht : tm t = .tu []) (h : EvD F (evGds clr gs ⟨undoT ops tm, lo, hp⟩ k) R) : EvD F (evGds clr (⟨some (t, w), ops⟩ :: gs) ⟨tm, lo, hp⟩ k) R := by
  have e : evGds clr (⟨some (t, w), ops⟩ :: gs) ⟨tm, lo, hp⟩ k = evGds clr gs ⟨undoT ops tm, lo, hp⟩ k := by
    rw [← undoT_eq]
    simp only [evGds, evGd, ht]
  rw [e]; exact h
theorem X.ln {gs : List DGr} {st : St} (h : EvD F (evGds clr gs st k) R) : EvD F (evLs clr [] st (gK clr gs k)) R := h

/-! one operation -/
variable {i : I} {d : Nat} {v v2 : V} {b1 b2 b3 : Bool}
theorem X.o0 (h : ∀ K KP, i.den us clr d ⟨tm, lo, hp⟩ (FV K) KP = K v ⟨tm, lo, hp⟩) (n : EvD F (evLs clr r ⟨upd tm d v, lo, hp⟩ k) R) : EvD F (evLs clr (⟨some d, g, us, i⟩ :: r) ⟨tm, lo, hp⟩ k) R := by
  have := h (fun v s => evLs clr r (put s (some d) v) k) (fun v s => k (.pan v s))
  show EvD F (i.den us clr d ⟨tm, lo, hp⟩ (FV fun v s => evLs clr r (put s (some d) v) k) fun v s => k (.pan v s)) R
  rw [this]
  exact n
theorem X.o1 (h : ∀ K KP, i.den us clr d ⟨tm, lo, hp⟩ (FV K) KP = .chk b1 (K v ⟨tm, lo, hp⟩)) (hb : b1 = true) (n : EvD F (evLs clr r ⟨upd tm d v, lo, hp⟩ k) R) : EvD F (evLs clr (⟨some d, g, us, i⟩ :: r) ⟨tm, lo, hp⟩ k) R := by
  have := h (fun v s => evLs clr r (put s (some d) v) k) (fun v s => k (.pan v s))
  have n' := EvD.chk hb n
  show EvD F (i.den us clr d ⟨tm, lo, hp⟩ (FV fun v s => evLs clr r (put s (some d) v) k) fun v s => k (.pan v s)) R
  rw [this]
  exact n'
theorem X.o2 (h : ∀ K KP, i.den us clr d ⟨tm, lo, hp⟩ (FV K) KP = .chk b1 (.chk b2 (K v ⟨tm, lo, hp⟩))) (hb : b1 = true) (hb2 : b2 = true) (n : EvD F (evLs clr r ⟨upd tm d v, lo, hp⟩ k) R) :
    EvD F (evLs clr (⟨some d, g, us, i⟩ :: r) ⟨tm, lo, hp⟩ k) R := by
  have := h (fun v s => evLs clr r (put s (some d) v) k) (fun v s => k (.pan v s))
  have n' := EvD.chk hb (EvD.chk hb2 n)
  show EvD F (i.den us clr d ⟨tm, lo, hp⟩ (FV fun v s => evLs clr r (put s (some d) v) k) fun v s => k (.pan v s)) R
  rw [this]
  exact n'
theorem X.o3 (h : ∀ K KP, i.den us clr d ⟨tm, lo, hp⟩ (FV K) KP = .chk b1 (.chk b2 (.chk b3 (K v ⟨tm, lo, hp⟩)))) (hb : b1 = true) (hb2 : b2 = true) (hb3 : b3 = true) (n : EvD F (evLs clr r ⟨upd tm d v, lo, hp⟩ k) R) :
    EvD F (evLs clr (⟨some d, g, us, i⟩ :: r) ⟨tm, lo, hp⟩ k) R := by
  have := h (fun v s => evLs clr r (put s (some d) v) k) (fun v s => k (.pan v s))
  have n' := EvD.chk hb (EvD.chk hb2 (EvD.chk hb3 n))
  show EvD F (i.den us clr d ⟨tm, lo, hp⟩ (FV fun v s => evLs clr r (put s (some d) v) k) fun v s => k (.pan v s)) R
  rw [this]
  exact n'
theorem X.o4 {b4 : Bool} (h : ∀ K KP, i.den us clr d ⟨tm, lo, hp⟩ (FV K) KP = .chk b1 (.chk b2 (.chk b3 (.chk b4 (K v ⟨tm, lo, hp⟩))))) (hb : b1 = true) (hb2 : b2 = true) (hb3 : b3 = true) (hb4 : b4 = true) (n : EvD F (evLs clr r ⟨upd tm d v, lo, hp⟩ k) R) :
    EvD F (evLs clr (⟨some d, g, us, i⟩ :: r) ⟨tm, lo, hp⟩ k) R := by
  have := h (fun v s => evLs clr r (put s (some d) v) k) (fun v s => k (.pan v s))
  have n' := EvD.chk hb (EvD.chk hb2 (EvD.chk hb3 (EvD.chk hb4 n)))
  show EvD F (i.den us clr d ⟨tm, lo, hp⟩ (FV fun v s => evLs clr r (put s (some d) v) k) fun v s => k (.pan v s)) R
  rw [this]
  exact n'
theorem X.pick {c x y : A} {b : Bool} (hc : get tm c = .bo b) (h1 : b = true → ∃ v, (∀ K : V → D, notLpD (get tm x) (forceV K) = K v) ∧ EvD F (evLs clr r ⟨upd tm d v, lo, hp⟩ k) R)
    (h2 : b = false → ∃ v, (∀ K : V → D, notLpD (get tm y) (forceV K) = K v) ∧ EvD F (evLs clr r ⟨upd tm d v, lo, hp⟩ k) R) : EvD F (evLs clr (⟨some d, g, us, .pick c x y⟩ :: r) ⟨tm, lo, hp⟩ k) R := by
  have e : evLs clr (⟨some d, g, us, .pick c x y⟩ :: r) ⟨tm, lo, hp⟩ k = .br b (notLpD (get tm x) (forceV fun v => evLs clr r ⟨upd tm d v, lo, hp⟩ k)) (notLpD (get tm y) (forceV fun v => evLs clr r ⟨upd tm d v, lo, hp⟩ k)) := by
    show (match get tm c with | .bo t => D.br t (notLpD (get tm x) (forceV fun v => evLs clr r ⟨upd tm d v, lo, hp⟩ k)) (notLpD (get tm y) (forceV fun v => evLs clr r ⟨upd tm d v, lo, hp⟩ k)) | _ => .bad) = _
    rw [hc]
  rw [e]
  refine .br (fun q => ?_) (fun q => ?_)
  · obtain ⟨v, e1, e2⟩ := h1 q; rw [e1]; exact e2
  · obtain ⟨v, e1, e2⟩ := h2 q; rw [e1]; exact e2

theorem X.pickT {c x y : A} (hc : get tm c = .bo true) {v : V} (hv : ∀ K : V → D, notLpD (get tm x) (forceV K) = K v) (n : EvD F (evLs clr r ⟨upd tm d v, lo, hp⟩ k) R) : EvD F (evLs clr (⟨some d, g, us, .pick c x y⟩ :: r) ⟨tm, lo, hp⟩ k) R :=
  X.pick hc (fun _ => ⟨v, hv, n⟩) (fun h => by cases h)
theorem X.pickF {c x y : A} (hc : get tm c = .bo false) {v : V} (hv : ∀ K : V → D, notLpD (get tm y) (forceV K) = K v) (n : EvD F (evLs clr r ⟨upd tm d v, lo, hp⟩ k) R) : EvD F (evLs clr (⟨some d, g, us, .pick c x y⟩ :: r) ⟨tm, lo, hp⟩ k) R :=
  X.pick hc (fun h => by cases h) (fun _ => ⟨v, hv, n⟩)
theorem X.condT {c : A} {x y : C} (hc : get tm c = .bo true) (h1 : EvD F (x.run ⟨tm, lo, hp⟩ k) R) : EvD F ((C.cond c x y).run ⟨tm, lo, hp⟩ k) R := X.cond hc (fun _ => h1) (fun h => by cases h)
theorem X.condF {c : A} {x y : C} (hc : get tm c = .bo false) (h1 : EvD F (y.run ⟨tm, lo, hp⟩ k) R) : EvD F ((C.cond c x y).run ⟨tm, lo, hp⟩ k) R := X.cond hc (fun h => by cases h) (fun _ => h1)
theorem X.g1T {ops : List DOp} {gs : List DGr} {t : Nat} {w : Bool} (ht : tm t = .bo w) (h1 : EvD F (evLs clr ops ⟨upd tm t (.bo w), lo, hp⟩ (gK clr gs k)) R) : EvD F (evGds clr (⟨some (t, w), ops⟩ :: gs) ⟨tm, lo, hp⟩ k) R :=
  X.g1 ht (fun _ => h1) (fun h => by cases w <;> cases h)
theorem X.g1F {ops : List DOp} {gs : List DGr} {t : Nat} {w : Bool} (ht : tm t = .bo (!w)) (h1 : EvD F (evGds clr gs ⟨undoT ops (upd tm t (.bo (!w))), lo, hp⟩ k) R) : EvD F (evGds clr (⟨some (t, w), ops⟩ :: gs) ⟨tm, lo, hp⟩ k) R :=
  X.g1 ht (fun h => by cases w <;> cases h) (fun _ => h1)

theorem X.pickTs {c x y : A} {b : Bool} (hc : get tm c = .bo b) (hb : b = true) {v : V} (hv : ∀ K : V → D, notLpD (get tm x) (forceV K) = K v) (n : EvD F (evLs clr r ⟨upd tm d v, lo, hp⟩ k) R) : EvD F (evLs clr (⟨some d, g, us, .pick c x y⟩ :: r) ⟨tm, lo, hp⟩ k) R :=
  X.pickT (hb ▸ hc) hv n
theorem X.pickFs {c x y : A} {b : Bool} (hc : get tm c = .bo b) (hb : b = false) {v : V} (hv : ∀ K : V → D, notLpD (get tm y) (forceV K) = K v) (n : EvD F (evLs clr r ⟨upd tm d v, lo, hp⟩ k) R) : EvD F (evLs clr (⟨some d, g, us, .pick c x y⟩ :: r) ⟨tm, lo, hp⟩ k) R :=
  X.pickF (hb ▸ hc) hv n
theorem X.condTs {c : A} {x y : C} {b : Bool} (hc : get tm c = .bo b) (hb : b = true) (h1 : EvD F (x.run ⟨tm, lo, hp⟩ k) R) : EvD F ((C.cond c x y).run ⟨tm, lo, hp⟩ k) R := X.condT (hb ▸ hc) h1
theorem X.condFs {c : A} {x y : C} {b : Bool} (hc : get tm c = .bo b) (hb : b = false) (h1 : EvD F (y.run ⟨tm, lo, hp⟩ k) R) : EvD F ((C.cond c x y).run ⟨tm, lo, hp⟩ k) R := X.condF (hb ▸ hc) h1
theorem X.g1Ts {ops : List DOp} {gs : List DGr} {t : Nat} {w b : Bool} (ht : tm t = .bo b) (hb : b = w) (h1 : EvD F (evLs clr ops ⟨upd tm t (.bo w), lo, hp⟩ (gK clr gs k)) R) : EvD F (evGds clr (⟨some (t, w), ops⟩ :: gs) ⟨tm, lo, hp⟩ k) R := X.g1T (hb ▸ ht) h1
theorem X.g1Fs {ops : List DOp} {gs : List DGr} {t : Nat} {w b : Bool} (ht : tm t = .bo b) (hb : b = (!w)) (h1 : EvD F (evGds clr gs ⟨undoT ops (upd tm t (.bo (!w))), lo, hp⟩ k) R) : EvD F (evGds clr (⟨some (t, w), ops⟩ :: gs) ⟨tm, lo, hp⟩ k) R := X.g1F (hb ▸ ht) h1

/-- a new box -/
theorem X.alc {z : List V} (hf : fresh us tm d = true) (n : EvD F (evLs clr r ⟨upd tm d (.lp d 0), lset lo d z, hp⟩ k) R) : EvD F (evLs clr (⟨some d, g, us, .alc z⟩ :: r) ⟨tm, lo, hp⟩ k) R := by
  have e : evLs clr (⟨some d, g, us, .alc z⟩ :: r) ⟨tm, lo, hp⟩ k = bif fresh us tm d then evLs clr r ⟨upd tm d (.lp d 0), lset lo d z, hp⟩ k else .bad := rfl
  rw [e, hf]; exact n
theorem X.box {x : A} {v : V} (hx : get tm x = v) (ha : v.cells.all V.keep = true) (hf : fresh us tm d = true) (n : EvD F (evLs clr r ⟨upd tm d (.lp d 0), lset lo d v.cells, hp⟩ k) R) : EvD F (evLs clr (⟨some d, g, us, .box x⟩ :: r) ⟨tm, lo, hp⟩ k) R := by
  have e : evLs clr (⟨some d, g, us, .box x⟩ :: r) ⟨tm, lo, hp⟩ k = bif (get tm x).cells.all V.keep then (bif fresh us tm d then evLs clr r ⟨upd tm d (.lp d 0), lset lo d (get tm x).cells, hp⟩ k else .bad) else .bad := rfl
  rw [e, hx, ha, hf]; exact n
/-- a box is written -/
theorem X.stl {n : Nat} {a x : A} {v : V} {t off : Nat} {cs : List V} (hx : get tm x = v) (ha : get tm a = .lp t off) (hl : lo t = some cs) (h1 : Nat.beq v.cells.length n = true) (h2 : v.cells.all V.keep = true) (h3 : fresh us tm t = true)
    (h4 : Nat.ble (off + v.cells.length) cs.length = true) {cs' : List V} (hc : over off v.cells cs = cs') (nx : EvD F (evLs clr r ⟨tm, lset lo t cs', hp⟩ k) R) : EvD F (evLs clr (⟨none, g, us, .sto n a x⟩ :: r) ⟨tm, lo, hp⟩ k) R := by
  subst hc
  have e : evLs clr (⟨none, g, us, .sto n a x⟩ :: r) ⟨tm, lo, hp⟩ k = bif Nat.beq (get tm x).cells.length n then (bif (get tm x).cells.all V.keep then storeD us ⟨tm, lo, hp⟩ (get tm x).cells (get tm a) (fun s => evLs clr r s k) else .bad) else .bad := rfl
  rw [e, hx, h1, h2, ha]
  show EvD F (match lo t with | some cs => bif fresh us tm t then D.chk (Nat.ble (off + v.cells.length) cs.length) (evLs clr r ⟨tm, lset lo t (over off v.cells cs), hp⟩ k) else .bad | none => .bad) R
  rw [hl, h3]
  exact .chk h4 nx
/-- an object is written -/
theorem X.stp {n : Nat} {a x : A} {v : V} {id j off : Nat} {b : Bk} {row : List V} (hx : get tm x = v) (ha : get tm a = .pt id j off) (hg : hget hp id = some b) (hfr : b.fr = false) (hlim : hp.lim ≤ id) (h1 : Nat.beq v.cells.length n = true) (h2 : v.cells.all V.keep = true) (h3 : freshH us tm id = true)
    (hj : j < b.es.length) (hrow : b.es.getD j [] = row) (h4 : off + v.cells.length ≤ row.length) (nx : EvD F (evLs clr r ⟨tm, lo, hset hp id (some ⟨b.sz, false, b.es.set j (over off v.cells row)⟩)⟩ k) R) :
    EvD F (evLs clr (⟨none, g, us, .sto n a x⟩ :: r) ⟨tm, lo, hp⟩ k) R := by
  subst hrow
  have e : evLs clr (⟨none, g, us, .sto n a x⟩ :: r) ⟨tm, lo, hp⟩ k = bif Nat.beq (get tm x).cells.length n then (bif (get tm x).cells.all V.keep then storeD us ⟨tm, lo, hp⟩ (get tm x).cells (get tm a) (fun s => evLs clr r s k) else .bad) else .bad := rfl
  rw [e, hx, h1, h2, ha]
  have hlt : Nat.blt id hp.lim = false := by rw [bltD]; simp; omega
  show EvD F (match hget hp id with | some b => bif b.fr then D.bad else bif Nat.blt id hp.lim then .bad else bif freshH us tm id then D.chk (Nat.blt j b.es.length) (D.chk (Nat.ble (off + v.cells.length) (b.es.getD j []).length)
        (evLs clr r ⟨tm, lo, hset hp id (some ⟨b.sz, b.fr, b.es.set j (over off v.cells (b.es.getD j []))⟩)⟩ k)) else .bad | none => .bad) R
  rw [hg]
  simp only [hfr, cond_false, hlt, h3, cond_true]
  exact .chk (by rw [bltD]; simpa using hj) (.chk (by rw [bleD]; simpa using h4) nx)
/-- an object is read -/
theorem X.ldp {n : Nat} {q : Bool} {a : A} {id j off : Nat} {b : Bk} {row : List V} (ha : get tm a = .pt id j off) (hg : hget hp id = some b) (hj : j < b.es.length) (hrow : b.es.getD j [] = row) (h4 : off + n ≤ row.length) {w : V} (hw : pickC n q ((row.drop off).take n) = some w)
    (nx : EvD F (evLs clr r ⟨upd tm d w, lo, hp⟩ k) R) : EvD F (evLs clr (⟨some d, g, us, .ld n q a⟩ :: r) ⟨tm, lo, hp⟩ k) R := by
  subst hrow
  have e : evLs clr (⟨some d, g, us, .ld n q a⟩ :: r) ⟨tm, lo, hp⟩ k = loadD ⟨tm, lo, hp⟩ n (get tm a) (fun cs => oneD (pickC n q cs) fun v => forceV (fun v => evLs clr r ⟨upd tm d v, lo, hp⟩ k) v) := rfl
  rw [e, ha]
  show EvD F (match hget hp id with | some b => D.chk (Nat.blt j b.es.length) (cutD n off (b.es.getD j []) (fun cs => oneD (pickC n q cs) fun v => forceV (fun v => evLs clr r ⟨upd tm d v, lo, hp⟩ k) v)) | none => .bad) R
  rw [hg]
  refine .chk (by rw [bltD]; simpa using hj) (.chk (by rw [bleD]; simpa using h4) ?_)
  show EvD F (oneD (pickC n q (((b.es.getD j []).drop off).take n)) fun v => forceV (fun v => evLs clr r ⟨upd tm d v, lo, hp⟩ k) v) R
  rw [hw]
  show EvD F (forceV (fun v => evLs clr r ⟨upd tm d v, lo, hp⟩ k) w) R
  rw [forceV_eq]; exact nx

/-- a call -/
theorem X.call {own : Bool} {md : Md} {f : Nat} {xs : List A} {ys : List V} {w : V} {hp' : Hp} (hx : xs.map (get tm) = ys) (hl : ys.any isLp = false) (h : EvC F own f ys hp (.ret w hp')) (n : EvD F (evLs clr r ⟨upd tm d w, lo, hp'⟩ k) R) :
    EvD F (evLs clr (⟨some d, g, us, .call own md f xs⟩ :: r) ⟨tm, lo, hp⟩ k) R := by
  have e : evLs clr (⟨some d, g, us, .call own md f xs⟩ :: r) ⟨tm, lo, hp⟩ k = callD own f (xs.map (get tm)) ⟨tm, lo, hp⟩ (fun v s => forceV (fun v => evLs clr r (put s (some d) v) k) v) (fun v s => k (.pan v s)) := rfl
  rw [e, hx]
  unfold callD
  rw [hl]
  refine .call h ?_
  show EvD F (forceV (fun v => evLs clr r (put ⟨tm, lo, hp'⟩ (some d) v) k) w) R
  rw [forceV_eq]; exact n
theorem X.pcall {md : Md} {f : Nat} {xs : List A} {ys ys' zs : List V} {w : V} {fn : Ev.Fn} {hp' : Hp} (h : EvP F f fn ys' zs) (hc : ClP fn.ps ys hp ys' hp') (hx : xs.map (get tm) = ys) (hl : ys.any isLp = false) (hw : tuple zs = w)
    (n : EvD F (evLs clr r ⟨upd tm d w, lo, hp'⟩ k) R) : EvD F (evLs clr (⟨some d, g, us, .call false md f xs⟩ :: r) ⟨tm, lo, hp⟩ k) R := by
  subst hw; exact X.call hx hl (EvC.of h hc) n
theorem X.ocall {md : Md} {f : Nat} {xs : List A} {ys ys' : List V} {sz : Nat} {es : List (List V)} {fn : Ev.Fn} {hp' : Hp} (h : EvO F f fn ys' sz es) (hc : ClP fn.ps ys hp ys' hp') (hx : xs.map (get tm) = ys) (hl : ys.any isLp = false)
    (n : EvD F (evLs clr r ⟨upd tm d (.hs hp'.next 0 es.length), lo, hnew hp' ⟨sz, false, es⟩⟩ k) R) (n0 : es = [] → EvD F (evLs clr r ⟨upd tm d (.vs sz []), lo, hp'⟩ k) R) : EvD F (evLs clr (⟨some d, g, us, .call true md f xs⟩ :: r) ⟨tm, lo, hp⟩ k) R := by
  rcases EvC.ofO h hc with q | ⟨q, q'⟩
  · exact X.call hx hl q n
  · exact X.call hx hl q' (n0 q)

/-- what a slice or a text holds, read for an append -/
def Els (hp : Hp) (sz : Nat) (v : V) (rows : List (List V)) : Prop := ∀ (F : Nat → Option Ev.Fn) (k : List (List V) → D) (R : Ev.R), EvD F (k rows) R → EvD F (rowsD hp sz v k) R
theorem Els.vs {hp : Hp} {sz : Nat} (es : List (List V)) : Els hp sz (.vs sz es) es := fun F k R h => by
  show EvD F (bif Nat.beq sz sz then k es else .bad) R
  rw [Nat.beq_refl]; exact h
theorem Els.ns {hp : Hp} {sz : Nat} : Els hp sz .ns [] := fun F k R h => h
theorem Els.st {hp : Hp} (l : List Nat) : Els hp 1 (.st l) (l.map fun n => [byte n]) := fun F k R h => h
theorem Els.hs {hp : Hp} {sz id i n : Nat} {fr : Bool} {es : List (List V)} (hg : hget hp id = some ⟨sz, fr, es⟩) (hb : i + n ≤ es.length) : Els hp sz (.hs id i n) ((es.drop i).take n) := fun F k R h => by
  show EvD F (match hget hp id with | some b => bif Nat.beq b.sz sz then .chk (Nat.ble (i + n) b.es.length) (k ((b.es.drop i).take n)) else .bad | none => .bad) R
  rw [hg]
  simp only [Nat.beq_refl, cond_true]
  exact .chk (by rw [bleD]; simpa using hb) h

theorem elems_vs {hp : Hp} {sz : Nat} (es : List (List V)) : elemsD hp sz (.vs sz es) = fun k => k es := by
  funext k
  show (bif Nat.beq sz sz then k es else .bad) = _
  rw [Nat.beq_refl]; rfl
theorem bs_getD {l : List Int} {j : Nat} (h : j < l.length) : (bs l).getD j [] = [.it .u8 (l[j]?.getD 0)] := by
  simp [bs, List.getD, h]
theorem X.app {sz bytes : Nat} {x y : A} {vx vy : V} {new : List (List V)} (hx : get tm x = vx) (hy : get tm y = vy) (hr : Els hp sz vy new)
    (n : EvD F (appendD us ⟨tm, lo, hp⟩ sz bytes vx new (fun v s => forceV (fun v => evLs clr r (put s (some d) v) k) v)) R) : EvD F (evLs clr (⟨some d, g, us, .app sz bytes x y⟩ :: r) ⟨tm, lo, hp⟩ k) R := by
  have e : evLs clr (⟨some d, g, us, .app sz bytes x y⟩ :: r) ⟨tm, lo, hp⟩ k = rowsD hp sz (get tm y) (fun new => appendD us ⟨tm, lo, hp⟩ sz bytes (get tm x) new (fun v s => forceV (fun v => evLs clr r (put s (some d) v) k) v)) := rfl
  rw [e, hx, hy]
  exact hr _ _ _ n
/-- behind a whole slice of one's own -/
theorem X.apf {sz bytes : Nat} {x y : A} {vy : V} {id n : Nat} {es new : List (List V)} (hx : get tm x = .hs id 0 n) (hy : get tm y = vy) (hr : Els hp sz vy new) (hg : hget hp id = some ⟨sz, false, es⟩) (hlim : Nat.ble hp.lim id = true)
    (hf : freshH us tm id = true) (hn : es.length = n) (h2 : Nat.ble ((n + new.length) * bytes) maxB = true) {id' : Nat} (hid : hp.next = id')
    (nx : EvD F (evLs clr r ⟨upd tm d (.hs id' 0 (n + new.length)), lo, hnew (hset hp id none) ⟨sz, false, es ++ new⟩⟩ k) R) : EvD F (evLs clr (⟨some d, g, us, .app sz bytes x y⟩ :: r) ⟨tm, lo, hp⟩ k) R := by
  refine X.app hx hy hr ?_
  subst hid
  have hlt : Nat.blt id hp.lim = false := by rw [bltD]; rw [bleD] at hlim; simp at hlim; simp; omega
  unfold appendD
  simp only [hg, cond_false, hlt, Nat.beq_refl, cond_true, hf]
  refine .chk (by rw [bleD]; simp [hn]) (.chk h2 ?_)
  rw [forceV_eq]
  show EvD F (evLs clr r ⟨upd tm d (.hs hp.next 0 (n + new.length)), lo, hnew (hset hp id none) ⟨sz, false, (es.drop 0).take n ++ new⟩⟩ k) R
  rw [List.drop_zero, ← hn, List.take_length, hn]
  exact nx
/-- behind nothing: something -/
theorem X.apn {sz bytes : Nat} {x y : A} {vy : V} {new : List (List V)} (hx : get tm x = .ns) (hy : get tm y = vy) (hr : Els hp sz vy new) (hne : new ≠ []) (h2 : Nat.ble (new.length * bytes) maxB = true) {id' : Nat} (hid : hp.next = id')
    (nx : EvD F (evLs clr r ⟨upd tm d (.hs id' 0 new.length), lo, hnew hp ⟨sz, false, new⟩⟩ k) R) : EvD F (evLs clr (⟨some d, g, us, .app sz bytes x y⟩ :: r) ⟨tm, lo, hp⟩ k) R := by
  refine X.app hx hy hr ?_
  subst hid
  cases new with
  | nil => exact absurd rfl hne
  | cons a l =>
    unfold appendD
    refine .chk h2 ?_
    exact nx
/-- behind nothing: nothing -/
theorem X.ape {sz bytes : Nat} {x y : A} {vy : V} {new : List (List V)} (hx : get tm x = .ns) (hy : get tm y = vy) (hr : Els hp sz vy new) (hne : new = [])
    (nx : EvD F (evLs clr r ⟨upd tm d .ns, lo, hp⟩ k) R) : EvD F (evLs clr (⟨some d, g, us, .app sz bytes x y⟩ :: r) ⟨tm, lo, hp⟩ k) R := by
  refine X.app hx hy hr ?_
  subst hne
  exact nx
/-- a new slice of zeros -/
theorem X.mks {sz bytes : Nat} {z : List V} {l c : A} {nl nc : Int} (hl : get tm l = .it .i64 nl) (hc : get tm c = .it .i64 nc) (h0 : 0 ≤ nl) (h1 : nl ≤ nc) (h2 : nc ≤ 1000000000) (h3 : bytes ≤ 100000) {id' m : Nat} (hid : hp.next = id') (hm : nl.toNat = m)
    (nx : EvD F (evLs clr r ⟨upd tm d (.hs id' 0 m), lo, hnew hp ⟨sz, false, List.replicate m z⟩⟩ k) R) : EvD F (evLs clr (⟨some d, g, us, .mks sz bytes z l c⟩ :: r) ⟨tm, lo, hp⟩ k) R := by
  subst hid; subst hm
  have e : evLs clr (⟨some d, g, us, .mks sz bytes z l c⟩ :: r) ⟨tm, lo, hp⟩ k = natD (get tm l) fun l => natD (get tm c) fun c =>
    .chk (Nat.ble l c) (.chk (Nat.ble c 9223372036854775807) (.chk (Nat.ble (c * bytes) maxB) (evLs clr r ⟨upd tm d (.hs hp.next 0 l), lo, hnew hp ⟨sz, false, List.replicate l z⟩⟩ k))) := rfl
  rw [e, hl, hc]
  have h4 : nc.toNat * bytes ≤ 1000000000 * 100000 := Nat.mul_le_mul (by omega) h3
  refine .chk ?_ (.chk ?_ (.chk ?_ (.chk ?_ (.chk ?_ nx))))
  · rw [ilt_eq, decide_eq_false (by omega)]; rfl
  · rw [ilt_eq, decide_eq_false (by omega)]; rfl
  · rw [bleD]; exact decide_eq_true (by omega)
  · rw [bleD]; exact decide_eq_true (by omega)
  · rw [bleD]; exact decide_eq_true (by unfold maxB; omega)
theorem X.mov {x : A} {v : V} (hx : get tm x = v) (hl : isLp v = false) (n : EvD F (evLs clr r ⟨upd tm d v, lo, hp⟩ k) R) : EvD F (evLs clr (⟨some d, g, us, .mov x⟩ :: r) ⟨tm, lo, hp⟩ k) R := by
  have e : evLs clr (⟨some d, g, us, .mov x⟩ :: r) ⟨tm, lo, hp⟩ k = notLpD (get tm x) fun v => forceV (fun v => evLs clr r ⟨upd tm d v, lo, hp⟩ k) v := rfl
  rw [e, hx]
  have : (notLpD v fun v => forceV (fun v => evLs clr r ⟨upd tm d v, lo, hp⟩ k) v) = evLs clr r ⟨upd tm d v, lo, hp⟩ k := by
    simp only [forceV_eq]
    cases v <;> first | rfl | cases hl
  rw [this]; exact n
theorem X.len {s : Bool} {x : A} {v : V} {m : Nat} (hx : get tm x = v) (hl : lenOf s v = some m) (n : EvD F (evLs clr r ⟨upd tm d (.it .i64 (Int.ofNat m)), lo, hp⟩ k) R) : EvD F (evLs clr (⟨some d, g, us, .len s x⟩ :: r) ⟨tm, lo, hp⟩ k) R := by
  have e : evLs clr (⟨some d, g, us, .len s x⟩ :: r) ⟨tm, lo, hp⟩ k = oneD (lenOf s (get tm x)) fun m => evLs clr r ⟨upd tm d (.it .i64 (Int.ofNat m)), lo, hp⟩ k := rfl
  rw [e, hx, hl]; exact n

/-- a slice's literal, a new object -/
theorem X.bsl {sz : Nat} {es es' : List (List V)} {ps : List (Nat × A)} {id' : Nat} (hf : fillE sz (ps.map fun (i, a) => (i, get tm a)) es = some es') (hid : hp.next = id')
    (nx : EvD F (evLs clr r ⟨upd tm d (.hs id' 0 es'.length), lo, hnew hp ⟨sz, false, es'⟩⟩ k) R) : EvD F (evLs clr (⟨some d, g, us, .bsl sz es ps⟩ :: r) ⟨tm, lo, hp⟩ k) R := by
  subst hid
  have e : evLs clr (⟨some d, g, us, .bsl sz es ps⟩ :: r) ⟨tm, lo, hp⟩ k = match fillE sz (ps.map fun (i, a) => (i, get tm a)) es with
    | some es => evLs clr r ⟨upd tm d (.hs hp.next 0 es.length), lo, hnew hp ⟨sz, false, es⟩⟩ k
    | none => .bad := rfl
  rw [e, hf]; exact nx
theorem X.alh {z : List V} {id' : Nat} (hid : hp.next = id') (nx : EvD F (evLs clr r ⟨upd tm d (.pt id' 0 0), lo, hnew hp ⟨z.length, false, [z]⟩⟩ k) R) : EvD F (evLs clr (⟨some d, g, us, .alh z⟩ :: r) ⟨tm, lo, hp⟩ k) R := by
  subst hid; exact nx
theorem X.bxh {x : A} {v : V} {id' : Nat} (hx : get tm x = v) (ha : v.cells.all V.keep = true) (hid : hp.next = id') (nx : EvD F (evLs clr r ⟨upd tm d (.pt id' 0 0), lo, hnew hp ⟨v.cells.length, false, [v.cells]⟩⟩ k) R) :
    EvD F (evLs clr (⟨some d, g, us, .bxh x⟩ :: r) ⟨tm, lo, hp⟩ k) R := by
  subst hid
  have e : evLs clr (⟨some d, g, us, .bxh x⟩ :: r) ⟨tm, lo, hp⟩ k = bif (get tm x).cells.all V.keep then evLs clr r ⟨upd tm d (.pt hp.next 0 0), lo, hnew hp ⟨(get tm x).cells.length, false, [(get tm x).cells]⟩⟩ k else .bad := rfl
  rw [e, hx, ha]; exact nx
/-- an element of a slice by value -/
theorem X.iav {sz : Nat} {x ix : A} {es : List (List V)} {kk : IntKind} {j : Nat} {row : List V} (hx : get tm x = .vs sz es) (hi : get tm ix = .it kk (Int.ofNat j)) (hj : j < es.length) (hr : es.getD j [] = row)
    (nx : EvD F (evLs clr r ⟨upd tm d (.ip row), lo, hp⟩ k) R) : EvD F (evLs clr (⟨some d, g, us, .ias sz x ix⟩ :: r) ⟨tm, lo, hp⟩ k) R := by
  subst hr
  have e : evLs clr (⟨some d, g, us, .ias sz x ix⟩ :: r) ⟨tm, lo, hp⟩ k = iIas sz x ix us clr d ⟨tm, lo, hp⟩ (fun v s => forceV (fun v => evLs clr r (put s (some d) v) k) v) (fun v s => k (.pan v s)) := rfl
  rw [e]
  unfold iIas
  simp only [hx, hi]
  refine .chk (by rw [ilt_eq]; rfl) ?_
  simp only [Nat.beq_refl, cond_true]
  exact .chk (by rw [bltD]; exact decide_eq_true hj) nx
/-- an element of an object -/
theorem X.iah {sz : Nat} {x ix : A} {kk : IntKind} {j id i0 len : Nat} {b : Bk} (hx : get tm x = .hs id i0 len) (hi : get tm ix = .it kk (Int.ofNat j)) (hg : hget hp id = some b) (hz : b.sz = sz) (hj : j < len)
    (nx : EvD F (evLs clr r ⟨upd tm d (.pt id (i0 + j) 0), lo, hp⟩ k) R) : EvD F (evLs clr (⟨some d, g, us, .ias sz x ix⟩ :: r) ⟨tm, lo, hp⟩ k) R := by
  subst hz
  have e : evLs clr (⟨some d, g, us, .ias b.sz x ix⟩ :: r) ⟨tm, lo, hp⟩ k = iIas b.sz x ix us clr d ⟨tm, lo, hp⟩ (fun v s => forceV (fun v => evLs clr r (put s (some d) v) k) v) (fun v s => k (.pan v s)) := rfl
  rw [e]
  unfold iIas
  simp only [hx, hi, hg]
  refine .chk (by rw [ilt_eq]; rfl) ?_
  simp only [Nat.beq_refl, cond_true]
  exact .chk (by rw [bltD]; exact decide_eq_true hj) nx
/-- a copy into one's own slice -/
theorem X.cpy {sz : Nat} {x y : A} {vy : V} {id n : Nat} {es new : List (List V)} (hx : get tm x = .hs id 0 n) (hy : get tm y = vy) (hr : elemsD hp sz vy = fun k => k new) (hg : hget hp id = some ⟨sz, false, es⟩) (hlim : Nat.ble hp.lim id = true)
    (hf : freshH us tm id = true) (hn : es.length = n) (hl : new.length ≤ n)
    (nx : EvD F (evLs clr r ⟨upd tm d (.it .i64 (Int.ofNat new.length)), lo, hset hp id (some ⟨sz, false, new ++ es.drop new.length⟩)⟩ k) R) : EvD F (evLs clr (⟨some d, g, us, .cpy sz x y⟩ :: r) ⟨tm, lo, hp⟩ k) R := by
  have hlt : Nat.blt id hp.lim = false := by rw [bltD]; rw [bleD] at hlim; simp at hlim; simp; omega
  have ht : new.take n = new := List.take_of_length_le hl
  have e : evLs clr (⟨some d, g, us, .cpy sz x y⟩ :: r) ⟨tm, lo, hp⟩ k = elemsD hp sz (get tm y) fun new => cpyD us ⟨tm, lo, hp⟩ sz new (get tm x) (fun v s => forceV (fun v => evLs clr r (put s (some d) v) k) v) := rfl
  rw [e, hx, hy, hr]
  show EvD F (cpyD us ⟨tm, lo, hp⟩ sz new (.hs id 0 n) (fun v s => forceV (fun v => evLs clr r (put s (some d) v) k) v)) R
  unfold cpyD
  simp only [hg, cond_false, hlt, Nat.beq_refl, cond_true, hf, ht]
  refine .chk (by rw [bleD]; simp [hn]) ?_
  unfold over
  simp only [List.take_zero, List.nil_append, Nat.zero_add, forceV]
  exact nx

/-- the end -/
theorem X.fin {dd : DFn} {vs : List V} {w : V} {hp' : Hp} (h : ∀ K : List V → D, resultsD ⟨tm, lo, hp⟩ dd.res K = K vs) (hw : tuple vs = w) (hh : hp = hp') : EvD F (fK dd (.ret ⟨tm, lo, hp⟩)) (Rt w hp') := by
  subst hw; subst hh
  show EvD F (resultsD ⟨tm, lo, hp⟩ dd.res fun vs => .done (.ret ⟨fun _ => tuple vs, fun _ => none, hp⟩)) _
  rw [h]; exact .done _
theorem X.fin1 {dd : DFn} {vs : List V} {w : V} {hp' : Hp} (h : ∀ K : List V → D, resultsD ⟨tm, lo, hp⟩ dd.res K = .chk b1 (K vs)) (hb : b1 = true) (hw : tuple vs = w) (hh : hp = hp') : EvD F (fK dd (.ret ⟨tm, lo, hp⟩)) (Rt w hp') := by
  subst hw; subst hh
  show EvD F (resultsD ⟨tm, lo, hp⟩ dd.res fun vs => .done (.ret ⟨fun _ => tuple vs, fun _ => none, hp⟩)) _
  rw [h]; exact .chk hb (.done _)
theorem X.finn {dd : DFn} {st : St} (h : EvD F (fK dd (.ret st)) R) : EvD F (fK dd (.norm st)) R := h
end
end Ev
namespace Ev
open Go
def hpOf : R → Hp
  | .ret st => st.hp
  | _ => h0
/-- a closed run, with fuel enough -/
theorem EvP.closed {F : Nat → Option Ev.Fn} {f : Nat} {fn : Ev.Fn} (L0 n0 : Nat) (h1 : F f = some fn) (h2 : fn.md = .pure) (h3 : fn.ps = []) (h4 : fn.rs = [.c .one])
    (h : ∀ N M, run (callF F (N + L0) (M + n0)) (N + L0) (bodyD fn [] h0) = Rt (.bo true) (hpOf (run (callF F L0 n0) L0 (bodyD fn [] h0)))) : EvP F f fn [] [.bo true] := by
  refine ⟨h1, h2, by rw [h3]; rfl, .bo true, hpOf (run (callF F L0 n0) L0 (bodyD fn [] h0)), hpOf (run (callF F L0 n0) L0 (bodyD fn [] h0)), ⟨max L0 n0, fun L n hL hn => ?_⟩, ?_⟩
  · have := h (L - L0) (n - n0)
    rw [show L - L0 + L0 = L by omega, show n - n0 + n0 = n by omega] at this
    exact this
  · rw [h4]; exact .s (clo_bo true) (.nil _)
end Ev
namespace Ev
open Go
/-- conditions read: one bundle of laws -/
theorem sd : (∀ (α : Type) (a b : List α), (a ++ b).length = a.length + b.length) ∧ (∀ (α : Type) (x : α) (a : List α), (x :: a).length = a.length + 1) ∧ (∀ (α : Type), ([] : List α).length = 0) ∧ (∀ (α : Type) (n : Nat) (x : α), (List.replicate n x).length = n) ∧
    (∀ a b, Nat.ble a b = decide (a ≤ b)) ∧ (∀ a b, Nat.blt a b = decide (a < b)) ∧ (∀ a b : Int, ilt a b = decide (a < b)) ∧ (∀ a b : Int, ieq a b = decide (a = b)) ∧ (∀ a b, Nat.beq a b = decide (a = b)) ∧ (∀ a b, beqL a b = decide (a = b)) ∧ (∀ l, (bs l).length = l.length) ∧
    maxB = 140737488355328 ∧ (∀ n : Int, -9223372036854775808 ≤ n → n < 9223372036854775808 → wr .i64 n = n) :=
  ⟨fun _ _ _ => List.length_append, fun _ _ _ => List.length_cons, fun _ => List.length_nil, fun _ _ _ => List.length_replicate, bleD, bltD, ilt_eq, ieqD, beqD, beqLD, bs_length, rfl, fun _ h1 h2 => wr64 h1 h2⟩
theorem sb : (∀ b : Bool, ((!b) = true) = (b = false)) ∧ (∀ b : Bool, ((!b) = false) = (b = true)) ∧ (∀ (p : Prop) [Decidable p], (decide p = true) = p) ∧ (∀ (p : Prop) [Decidable p], (decide p = false) = ¬ p) ∧ (∀ a b : Bool, ((a && b) = true) = (a = true ∧ b = true)) ∧
    (∀ a b : Bool, ((a || b) = true) = (a = true ∨ b = true)) ∧ (∀ n : Nat, Int.ofNat n = (n : Int)) ∧ (∀ n : Nat, (n : Int).toNat = n) :=
  ⟨fun b => by cases b <;> simp, fun b => by cases b <;> simp, fun p _ => by simp, fun p _ => by simp, fun a b => by simp, fun a b => by simp, fun _ => rfl, fun n => by simp⟩
theorem hgs : (∀ hp b j, hget (hnew hp b) j = if j = hp.next then some b else hget hp j) ∧ (∀ hp id b j, hget (hset hp id b) j = if j = id then b else hget hp j) ∧ (∀ hp b, (hnew hp b).next = hp.next + 1) ∧ (∀ hp id b, (hset hp id b).next = hp.next) :=
  ⟨hget_hnew, hget_hset, fun _ _ => rfl, fun _ _ _ => rfl⟩
end Ev
namespace Ev
open Go
/-- what is left of a run, by the kernel, with fuel enough -/
theorem EvD.kern {F : Nat → Option Ev.Fn} {d : D} {v : V} (L0 n0 : Nat) (h : ∀ N M, run (callF F (N + L0) (M + n0)) (N + L0) d = Rt v (hpOf (run (callF F L0 n0) L0 d))) : ∃ hp, EvD F d (Rt v hp) := by
  refine ⟨hpOf (run (callF F L0 n0) L0 d), max L0 n0, fun L n hL hn => ?_⟩
  have := h (L - L0) (n - n0)
  rw [show L - L0 + L0 = L by omega, show n - n0 + n0 = n by omega] at this
  exact this
end Ev
namespace Ev
open Go
theorem EvC.kern {F : Nat → Option Ev.Fn} {own : Bool} {f : Nat} {xs : List V} {hp : Hp} {r : CR} (L0 n0 : Nat) (h : ∀ N M, callF F (N + L0) (M + n0) own f xs hp = r) : EvC F own f xs hp r := by
  refine ⟨max L0 n0, fun L n hL hn => ?_⟩
  have := h (L - L0) (n - n0)
  rw [show L - L0 + L0 = L by omega, show n - n0 + n0 = n by omega] at this
  exact this
end Ev
namespace Ev
open Go
structure Box (p : Prop) : Prop where
  un : p
theorem ex_imp {p q : Hp → Prop} (f : ∀ h, Box (p h) → q h) (e : ∃ h, p h) : ∃ h, q h := let ⟨h, x⟩ := e; ⟨h, f h ⟨x⟩⟩
end Ev
namespace Ev
theorem nlb {a b : Nat} (h : Nat.ble a b = true) : a ≤ b := Nat.le_of_ble_eq_true h
end Ev
