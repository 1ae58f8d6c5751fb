import Derived.Test.YtfnoiklmcmboeaaGreatDoorEvD
set_option linter.unusedVariables false
set_option linter.unusedSimpArgs false
set_option linter.unusedSectionVars false
set_option linter.constructorNameAsVariable false
namespace Ev
variable [Glob]
open Go
def sK (b : C) (k : R -> D) : R -> D := fun x => match x with | .norm s => b.run s k | x => k x
def bK (id : Nat) (k : R -> D) : R -> D := fun x => match x with | .exit i s => k (bif Nat.beq i id then .norm s else .exit i s) | x => k x
def gK (clr : List Nat) (gs : List DGr) (k : R -> D) : R -> D := fun x => match x with | .norm s => evGds clr gs s k | x => k x
def pK (k : R -> D) : R -> D := fun x => match x with | .pan _ _ => .bad | x => k x
def fK (d : DFn) : R -> D := fun x => match x with
  | .norm st | .ret st => resultsD st d.res fun vs => .done (.ret ⟨fun _ => tuple vs, fun _ => none, st.hp⟩)
  | .pan v st => .done (.pan v ⟨fun _ => .un, fun _ => none, st.hp⟩)
  | _ => .bad
def lpB (c : C) : St -> D := fun s => c.run s .done
def undoT : List DOp -> Tm -> Tm
 | [], tm => tm
 | o :: r, tm => undoT r (match o.dst with | some d => upd tm d (.tu []) | none => tm)
theorem undoT_eq (lo : Lo) (hp : Hp) : ∀ (l : List DOp) (tm : Tm), undos l ⟨tm, lo, hp⟩ = ⟨undoT l tm, lo, hp⟩
 | [], _ => rfl
 | o :: r, tm => by
  unfold undos undoT put
  cases o.dst <;> exact undoT_eq lo hp r _
abbrev FV (K : V -> St -> D) : V -> St -> D := fun v s => forceV (fun v => K v s) v
section
variable {F : Nat -> Option Ev.Fn} {R : R} {k : Ev.R -> D} {clr : List Nat} {tm : Tm} {lo : Lo} {hp : Hp} {r : List DOp} {us : List Nat} {g : Option (Nat × Bool)}
theorem X.fn {d : DFn} {args : List V} (h : EvD F (d.body.run ⟨argT args, fun _ => none, hp⟩ (fK d)) R) : EvD F (stepD d args hp) R := h
theorem X.seq {a b : C} {st : St} (h : EvD F (a.run st (sK b k)) R) : EvD F ((C.seq a b).run st k) R := h
theorem X.skip {st : St} (h : EvD F (k (.norm st)) R) : EvD F (C.skip.run st k) R := h
theorem X.ret {st : St} (h : EvD F (k (.ret st)) R) : EvD F (C.ret.run st k) R := h
theorem X.exit {id : Nat} {st : St} (h : EvD F (k (.exit id st)) R) : EvD F ((C.exit id).run st k) R := h
theorem X.blk {id : Nat} {c : C} {st : St} (h : EvD F (c.run st (bK id k)) R) : EvD F ((C.blk id c).run st k) R := h
theorem X.reg0 {ops : List DOp} {st : St} {gs : List DGr} (hg : group ops = gs) (h : EvD F (evGds clr gs st k) R) : EvD F ((C.reg false ops clr).run st k) R := by subst hg; exact h
theorem X.reg1 {ops : List DOp} {st : St} {gs : List DGr} (hg : alone ops = gs) (h : EvD F (evGds clr gs st (pK k)) R) : EvD F ((C.reg true ops clr).run st k) R := by subst hg; exact h
theorem X.cond {c : A} {x y : C} {b : Bool} (hc : get tm c = .bo b) (h1 : b = true -> EvD F (x.run ⟨tm, lo, hp⟩ k) R) (h2 : b = false -> EvD F (y.run ⟨tm, lo, hp⟩ k) R) : EvD F ((C.cond c x y).run ⟨tm, lo, hp⟩ k) R := by
 have e : (C.cond c x y).run ⟨tm, lo, hp⟩ k = .br b (x.run ⟨tm, lo, hp⟩ k) (y.run ⟨tm, lo, hp⟩ k) := by
  show (match get tm c with | .bo t => D.br t (x.run ⟨tm, lo, hp⟩ k) (y.run ⟨tm, lo, hp⟩ k) | _ => .bad) = _
  rw [hc]
 rw [e]; exact .br h1 h2
theorem X.loop {keep drop : List Nat} {c : C} {st : St} {x : Ev.R} (h : EvL F keep drop (lpB c) st x) (h' : EvD F (k x) R) : EvD F ((C.loop keep drop c).run st k) R := .loop h h'
theorem X.lpb {c : C} {st : St} (h : EvD F (c.run st .done) R) : EvD F (lpB c st) R := h
theorem X.sn {b : C} {s : St} (h : EvD F (b.run s k) R) : EvD F (sK b k (.norm s)) R := h
theorem X.se {b : C} {i : Nat} {s : St} (h : EvD F (k (.exit i s)) R) : EvD F (sK b k (.exit i s)) R := h
theorem X.sr {b : C} {s : St} (h : EvD F (k (.ret s)) R) : EvD F (sK b k (.ret s)) R := h
theorem X.bn {id : Nat} {s : St} (h : EvD F (k (.norm s)) R) : EvD F (bK id k (.norm s)) R := h
theorem X.br {id : Nat} {s : St} (h : EvD F (k (.ret s)) R) : EvD F (bK id k (.ret s)) R := h
theorem X.bh {id : Nat} {s : St} (h : EvD F (k (.norm s)) R) : EvD F (bK id k (.exit id s)) R := by
 show EvD F (k (bif Nat.beq id id then .norm s else .exit id s)) R
 rw [Nat.beq_refl]; exact h
theorem X.bm {id i : Nat} {s : St} (hn : Nat.beq i id = false) (h : EvD F (k (.exit i s)) R) : EvD F (bK id k (.exit i s)) R := by
 show EvD F (k (bif Nat.beq i id then .norm s else .exit i s)) R
 rw [hn]; exact h
theorem X.pn {s : St} (h : EvD F (k (.norm s)) R) : EvD F (pK k (.norm s)) R := h
theorem X.gn (h : EvD F (k (.norm ⟨clear clr tm, lo, hp⟩)) R) : EvD F (evGds clr [] ⟨tm, lo, hp⟩ k) R := h
theorem X.g0 {ops : List DOp} {gs : List DGr} {st : St} (h : EvD F (evLs clr ops st (gK clr gs k)) R) : EvD F (evGds clr (⟨none, ops⟩ :: gs) st k) R := h
theorem X.g1 {ops : List DOp} {gs : List DGr} {t : Nat} {w b : Bool} (ht : tm t = .bo b) (h1 : b = w -> EvD F (evLs clr ops ⟨upd tm t (.bo w), lo, hp⟩ (gK clr gs k)) R)
  (h2 : b = (!w) -> EvD F (evGds clr gs ⟨undoT ops (upd tm t (.bo (!w))), lo, hp⟩ k) R) : EvD F (evGds clr (⟨some (t, w), ops⟩ :: gs) ⟨tm, lo, hp⟩ k) R := by
 have e : evGds clr (⟨some (t, w), ops⟩ :: gs) ⟨tm, lo, hp⟩ k = .br (bif w then b else !b) (evLs clr ops ⟨upd tm t (.bo w), lo, hp⟩ (gK clr gs k)) (evGds clr gs ⟨undoT ops (upd tm t (.bo (!w))), lo, hp⟩ k) := by
  rw [<- undoT_eq]
  simp only [evGds, evGd, ht]
  rfl
 rw [e]
 exact .br (fun q => h1 (by cases w <;> cases b <;> first | rfl | cases q)) (fun q => h2 (by cases w <;> cases b <;> first | rfl | cases q))
theorem X.ln {gs : List DGr} {st : St} (h : EvD F (evGds clr gs st k) R) : EvD F (evLs clr [] st (gK clr gs k)) R := h
variable {i : I} {d : Nat} {v v2 : V} {b1 b2 b3 : Bool}
theorem X.o0 (h : ∀ K KP, i.den us clr d ⟨tm, lo, hp⟩ (FV K) KP = K v ⟨tm, lo, hp⟩) (n : EvD F (evLs clr r ⟨upd tm d v, lo, hp⟩ k) R) : EvD F (evLs clr (⟨some d, g, us, i⟩ :: r) ⟨tm, lo, hp⟩ k) R := by
 have := h (fun v s => evLs clr r (put s (some d) v) k) (fun v s => k (.pan v s))
 show EvD F (i.den us clr d ⟨tm, lo, hp⟩ (FV fun v s => evLs clr r (put s (some d) v) k) fun v s => k (.pan v s)) R
 rw [this]
 exact n
theorem X.o1 (h : ∀ K KP, i.den us clr d ⟨tm, lo, hp⟩ (FV K) KP = .chk b1 (K v ⟨tm, lo, hp⟩)) (hb : b1 = true) (n : EvD F (evLs clr r ⟨upd tm d v, lo, hp⟩ k) R) : EvD F (evLs clr (⟨some d, g, us, i⟩ :: r) ⟨tm, lo, hp⟩ k) R := by
 have := h (fun v s => evLs clr r (put s (some d) v) k) (fun v s => k (.pan v s))
 have n' := EvD.chk hb n
 show EvD F (i.den us clr d ⟨tm, lo, hp⟩ (FV fun v s => evLs clr r (put s (some d) v) k) fun v s => k (.pan v s)) R
 rw [this]
 exact n'
theorem X.o2 (h : ∀ K KP, i.den us clr d ⟨tm, lo, hp⟩ (FV K) KP = .chk b1 (.chk b2 (K v ⟨tm, lo, hp⟩))) (hb : b1 = true) (hb2 : b2 = true) (n : EvD F (evLs clr r ⟨upd tm d v, lo, hp⟩ k) R) :
  EvD F (evLs clr (⟨some d, g, us, i⟩ :: r) ⟨tm, lo, hp⟩ k) R := by
 have := h (fun v s => evLs clr r (put s (some d) v) k) (fun v s => k (.pan v s))
 have n' := EvD.chk hb (EvD.chk hb2 n)
 show EvD F (i.den us clr d ⟨tm, lo, hp⟩ (FV fun v s => evLs clr r (put s (some d) v) k) fun v s => k (.pan v s)) R
 rw [this]
 exact n'
theorem X.o3 (h : ∀ K KP, i.den us clr d ⟨tm, lo, hp⟩ (FV K) KP = .chk b1 (.chk b2 (.chk b3 (K v ⟨tm, lo, hp⟩)))) (hb : b1 = true) (hb2 : b2 = true) (hb3 : b3 = true) (n : EvD F (evLs clr r ⟨upd tm d v, lo, hp⟩ k) R) :
  EvD F (evLs clr (⟨some d, g, us, i⟩ :: r) ⟨tm, lo, hp⟩ k) R := by
 have := h (fun v s => evLs clr r (put s (some d) v) k) (fun v s => k (.pan v s))
 have n' := EvD.chk hb (EvD.chk hb2 (EvD.chk hb3 n))
 show EvD F (i.den us clr d ⟨tm, lo, hp⟩ (FV fun v s => evLs clr r (put s (some d) v) k) fun v s => k (.pan v s)) R
 rw [this]
 exact n'
theorem X.pick {c x y : A} {b : Bool} (hc : get tm c = .bo b) (h1 : b = true -> ∃ v, (∀ K : V -> D, notLpD (get tm x) (forceV K) = K v) /\ EvD F (evLs clr r ⟨upd tm d v, lo, hp⟩ k) R)
  (h2 : b = false -> ∃ v, (∀ K : V -> D, notLpD (get tm y) (forceV K) = K v) /\ EvD F (evLs clr r ⟨upd tm d v, lo, hp⟩ k) R) : EvD F (evLs clr (⟨some d, g, us, .pick c x y⟩ :: r) ⟨tm, lo, hp⟩ k) R := by
 have e : evLs clr (⟨some d, g, us, .pick c x y⟩ :: r) ⟨tm, lo, hp⟩ k = .br b (notLpD (get tm x) (forceV fun v => evLs clr r ⟨upd tm d v, lo, hp⟩ k)) (notLpD (get tm y) (forceV fun v => evLs clr r ⟨upd tm d v, lo, hp⟩ k)) := by
  show (match get tm c with | .bo t => D.br t (notLpD (get tm x) (forceV fun v => evLs clr r ⟨upd tm d v, lo, hp⟩ k)) (notLpD (get tm y) (forceV fun v => evLs clr r ⟨upd tm d v, lo, hp⟩ k)) | _ => .bad) = _
  rw [hc]
 rw [e]
 refine .br (fun q => ?_) (fun q => ?_)
 ·obtain ⟨v, e1, e2⟩ := h1 q; rw [e1]; exact e2
 ·obtain ⟨v, e1, e2⟩ := h2 q; rw [e1]; exact e2
theorem X.pickT {c x y : A} (hc : get tm c = .bo true) {v : V} (hv : ∀ K : V -> D, notLpD (get tm x) (forceV K) = K v) (n : EvD F (evLs clr r ⟨upd tm d v, lo, hp⟩ k) R) : EvD F (evLs clr (⟨some d, g, us, .pick c x y⟩ :: r) ⟨tm, lo, hp⟩ k) R :=
 X.pick hc (fun _ => ⟨v, hv, n⟩) (fun h => by cases h)
theorem X.pickF {c x y : A} (hc : get tm c = .bo false) {v : V} (hv : ∀ K : V -> D, notLpD (get tm y) (forceV K) = K v) (n : EvD F (evLs clr r ⟨upd tm d v, lo, hp⟩ k) R) : EvD F (evLs clr (⟨some d, g, us, .pick c x y⟩ :: r) ⟨tm, lo, hp⟩ k) R :=
 X.pick hc (fun h => by cases h) (fun _ => ⟨v, hv, n⟩)
theorem X.condT {c : A} {x y : C} (hc : get tm c = .bo true) (h1 : EvD F (x.run ⟨tm, lo, hp⟩ k) R) : EvD F ((C.cond c x y).run ⟨tm, lo, hp⟩ k) R := X.cond hc (fun _ => h1) (fun h => by cases h)
theorem X.condF {c : A} {x y : C} (hc : get tm c = .bo false) (h1 : EvD F (y.run ⟨tm, lo, hp⟩ k) R) : EvD F ((C.cond c x y).run ⟨tm, lo, hp⟩ k) R := X.cond hc (fun h => by cases h) (fun _ => h1)
theorem X.g1T {ops : List DOp} {gs : List DGr} {t : Nat} {w : Bool} (ht : tm t = .bo w) (h1 : EvD F (evLs clr ops ⟨upd tm t (.bo w), lo, hp⟩ (gK clr gs k)) R) : EvD F (evGds clr (⟨some (t, w), ops⟩ :: gs) ⟨tm, lo, hp⟩ k) R :=
 X.g1 ht (fun _ => h1) (fun h => by cases w <;> cases h)
theorem X.g1F {ops : List DOp} {gs : List DGr} {t : Nat} {w : Bool} (ht : tm t = .bo (!w)) (h1 : EvD F (evGds clr gs ⟨undoT ops (upd tm t (.bo (!w))), lo, hp⟩ k) R) : EvD F (evGds clr (⟨some (t, w), ops⟩ :: gs) ⟨tm, lo, hp⟩ k) R :=
 X.g1 ht (fun h => by cases w <;> cases h) (fun _ => h1)
theorem X.condTs {c : A} {x y : C} {b : Bool} (hc : get tm c = .bo b) (hb : b = true) (h1 : EvD F (x.run ⟨tm, lo, hp⟩ k) R) : EvD F ((C.cond c x y).run ⟨tm, lo, hp⟩ k) R := X.condT (hb ▸ hc) h1
theorem X.condFs {c : A} {x y : C} {b : Bool} (hc : get tm c = .bo b) (hb : b = false) (h1 : EvD F (y.run ⟨tm, lo, hp⟩ k) R) : EvD F ((C.cond c x y).run ⟨tm, lo, hp⟩ k) R := X.condF (hb ▸ hc) h1
theorem X.g1Ts {ops : List DOp} {gs : List DGr} {t : Nat} {w b : Bool} (ht : tm t = .bo b) (hb : b = w) (h1 : EvD F (evLs clr ops ⟨upd tm t (.bo w), lo, hp⟩ (gK clr gs k)) R) : EvD F (evGds clr (⟨some (t, w), ops⟩ :: gs) ⟨tm, lo, hp⟩ k) R := X.g1T (hb ▸ ht) h1
theorem X.g1Fs {ops : List DOp} {gs : List DGr} {t : Nat} {w b : Bool} (ht : tm t = .bo b) (hb : b = (!w)) (h1 : EvD F (evGds clr gs ⟨undoT ops (upd tm t (.bo (!w))), lo, hp⟩ k) R) : EvD F (evGds clr (⟨some (t, w), ops⟩ :: gs) ⟨tm, lo, hp⟩ k) R := X.g1F (hb ▸ ht) h1
theorem X.alc {z : List V} (hf : fresh us tm d = true) (n : EvD F (evLs clr r ⟨upd tm d (.lp d 0), lset lo d z, hp⟩ k) R) : EvD F (evLs clr (⟨some d, g, us, .alc z⟩ :: r) ⟨tm, lo, hp⟩ k) R := by
 have e : evLs clr (⟨some d, g, us, .alc z⟩ :: r) ⟨tm, lo, hp⟩ k = bif fresh us tm d then evLs clr r ⟨upd tm d (.lp d 0), lset lo d z, hp⟩ k else .bad := rfl
 rw [e, hf]; exact n
theorem X.box {x : A} {v : V} (hx : get tm x = v) (ha : v.cells.all V.keep = true) (hf : fresh us tm d = true) (n : EvD F (evLs clr r ⟨upd tm d (.lp d 0), lset lo d v.cells, hp⟩ k) R) : EvD F (evLs clr (⟨some d, g, us, .box x⟩ :: r) ⟨tm, lo, hp⟩ k) R := by
 have e : evLs clr (⟨some d, g, us, .box x⟩ :: r) ⟨tm, lo, hp⟩ k = bif (get tm x).cells.all V.keep then (bif fresh us tm d then evLs clr r ⟨upd tm d (.lp d 0), lset lo d (get tm x).cells, hp⟩ k else .bad) else .bad := rfl
 rw [e, hx, ha, hf]; exact n
theorem X.stl {n : Nat} {a x : A} {v : V} {t off : Nat} {cs : List V} (hx : get tm x = v) (ha : get tm a = .lp t off) (hl : lo t = some cs) (h1 : Nat.beq v.cells.length n = true) (h2 : v.cells.all V.keep = true) (h3 : fresh us tm t = true)
  (h4 : Nat.ble (off + v.cells.length) cs.length = true) {cs' : List V} (hc : over off v.cells cs = cs') (nx : EvD F (evLs clr r ⟨tm, lset lo t cs', hp⟩ k) R) : EvD F (evLs clr (⟨none, g, us, .sto n a x⟩ :: r) ⟨tm, lo, hp⟩ k) R := by
 subst hc
 have e : evLs clr (⟨none, g, us, .sto n a x⟩ :: r) ⟨tm, lo, hp⟩ k = bif Nat.beq (get tm x).cells.length n then (bif (get tm x).cells.all V.keep then storeD us ⟨tm, lo, hp⟩ (get tm x).cells (get tm a) (fun s => evLs clr r s k) else .bad) else .bad := rfl
 rw [e, hx, h1, h2, ha]
 show EvD F (match lo t with | some cs => bif fresh us tm t then D.chk (Nat.ble (off + v.cells.length) cs.length) (evLs clr r ⟨tm, lset lo t (over off v.cells cs), hp⟩ k) else .bad | none => .bad) R
 rw [hl, h3]
 exact .chk h4 nx
theorem X.stp {n : Nat} {a x : A} {v : V} {id j off : Nat} {b : Bk} {row : List V} (hx : get tm x = v) (ha : get tm a = .pt id j off) (hg : hget hp id = some b) (hfr : b.fr = false) (hlim : hp.lim <= id) (h1 : Nat.beq v.cells.length n = true) (h2 : v.cells.all V.keep = true) (h3 : freshH us tm id = true)
  (hj : j < b.es.length) (hrow : b.es.getD j [] = row) (h4 : off + v.cells.length <= row.length) (nx : EvD F (evLs clr r ⟨tm, lo, hset hp id (some ⟨b.sz, false, b.es.set j (over off v.cells row)⟩)⟩ k) R) :
  EvD F (evLs clr (⟨none, g, us, .sto n a x⟩ :: r) ⟨tm, lo, hp⟩ k) R := by
 subst hrow
 have e : evLs clr (⟨none, g, us, .sto n a x⟩ :: r) ⟨tm, lo, hp⟩ k = bif Nat.beq (get tm x).cells.length n then (bif (get tm x).cells.all V.keep then storeD us ⟨tm, lo, hp⟩ (get tm x).cells (get tm a) (fun s => evLs clr r s k) else .bad) else .bad := rfl
 rw [e, hx, h1, h2, ha]
 have hlt : Nat.blt id hp.lim = false := by rw [bltD]; simp; omega
 show EvD F (match hget hp id with | some b => bif b.fr then D.bad else bif Nat.blt id hp.lim then .bad else bif freshH us tm id then D.chk (Nat.blt j b.es.length) (D.chk (Nat.ble (off + v.cells.length) (b.es.getD j []).length)
    (evLs clr r ⟨tm, lo, hset hp id (some ⟨b.sz, b.fr, b.es.set j (over off v.cells (b.es.getD j []))⟩)⟩ k)) else .bad | none => .bad) R
 rw [hg]
 simp only [hfr, cond_false, hlt, h3, cond_true]
 exact .chk (by rw [bltD]; simpa using hj) (.chk (by rw [bleD]; simpa using h4) nx)
theorem X.ldp {n : Nat} {q : Bool} {a : A} {id j off : Nat} {b : Bk} {row : List V} (ha : get tm a = .pt id j off) (hg : hget hp id = some b) (hj : j < b.es.length) (hrow : b.es.getD j [] = row) (h4 : off + n <= row.length) {w : V} (hw : pickC n q ((row.drop off).take n) = some w)
  (nx : EvD F (evLs clr r ⟨upd tm d w, lo, hp⟩ k) R) : EvD F (evLs clr (⟨some d, g, us, .ld n q a⟩ :: r) ⟨tm, lo, hp⟩ k) R := by
 subst hrow
 have e : evLs clr (⟨some d, g, us, .ld n q a⟩ :: r) ⟨tm, lo, hp⟩ k = loadD ⟨tm, lo, hp⟩ n (get tm a) (fun cs => oneD (pickC n q cs) fun v => forceV (fun v => evLs clr r ⟨upd tm d v, lo, hp⟩ k) v) := rfl
 rw [e, ha]
 show EvD F (match hget hp id with | some b => D.chk (Nat.blt j b.es.length) (cutD n off (b.es.getD j []) (fun cs => oneD (pickC n q cs) fun v => forceV (fun v => evLs clr r ⟨upd tm d v, lo, hp⟩ k) v)) | none => .bad) R
 rw [hg]
 refine .chk (by rw [bltD]; simpa using hj) (.chk (by rw [bleD]; simpa using h4) ?_)
 show EvD F (oneD (pickC n q (((b.es.getD j []).drop off).take n)) fun v => forceV (fun v => evLs clr r ⟨upd tm d v, lo, hp⟩ k) v) R
 rw [hw]
 show EvD F (forceV (fun v => evLs clr r ⟨upd tm d v, lo, hp⟩ k) w) R
 rw [forceV_eq]; exact nx
theorem X.call {own : Bool} {md : Md} {f : Nat} {xs : List A} {ys : List V} {w : V} {hp' : Hp} (hx : xs.map (get tm) = ys) (hl : ys.any isLp = false) (h : EvC F own f ys hp (.ret w hp')) (n : EvD F (evLs clr r ⟨upd tm d w, lo, hp'⟩ k) R) :
  EvD F (evLs clr (⟨some d, g, [], .call own md f xs⟩ :: r) ⟨tm, lo, hp⟩ k) R := by
 have e : evLs clr (⟨some d, g, [], .call own md f xs⟩ :: r) ⟨tm, lo, hp⟩ k = callD own f (xs.map (get tm)) ⟨tm, lo, hp⟩ (fun v s => forceV (fun v => evLs clr r (put s (some d) v) k) v) (fun v s => k (.pan v s)) := rfl
 rw [e, hx]
 unfold callD
 rw [hl]
 refine .call h ?_
 show EvD F (forceV (fun v => evLs clr r (put ⟨tm, lo, hp'⟩ (some d) v) k) w) R
 rw [forceV_eq]; exact n
theorem X.pcall {md : Md} {f : Nat} {xs : List A} {ys ys' zs : List V} {w : V} {fn : Ev.Fn} {hp' : Hp} (h : EvP F f fn ys' zs) (hc : ClP fn.ps ys hp ys' hp') (hx : xs.map (get tm) = ys) (hl : ys.any isLp = false) (hw : tuple zs = w)
  (n : EvD F (evLs clr r ⟨upd tm d w, lo, hp'⟩ k) R) : EvD F (evLs clr (⟨some d, g, [], .call false md f xs⟩ :: r) ⟨tm, lo, hp⟩ k) R := by
 subst hw; exact X.call hx hl (EvC.of h hc) n
theorem X.ocall {md : Md} {f : Nat} {xs : List A} {ys ys' : List V} {sz : Nat} {es : List (List V)} {fn : Ev.Fn} {hp' : Hp} (h : EvO F f fn ys' sz es) (hc : ClP fn.ps ys hp ys' hp') (hx : xs.map (get tm) = ys) (hl : ys.any isLp = false)
  (n : EvD F (evLs clr r ⟨upd tm d (.hs hp'.next 0 es.length), lo, hnew hp' ⟨sz, false, es⟩⟩ k) R) (n0 : es = [] -> EvD F (evLs clr r ⟨upd tm d (.vs sz []), lo, hp'⟩ k) R) : EvD F (evLs clr (⟨some d, g, [], .call true md f xs⟩ :: r) ⟨tm, lo, hp⟩ k) R := by
 rcases EvC.ofO h hc with q | ⟨q, q'⟩
 ·exact X.call hx hl q n
 ·exact X.call hx hl q' (n0 q)
def Els (hp : Hp) (sz : Nat) (v : V) (rows : List (List V)) : Prop := ∀ (F : Nat -> Option Ev.Fn) (k : List (List V) -> D) (R : Ev.R), EvD F (k rows) R -> EvD F (rowsD hp sz v k) R
theorem Els.vs {hp : Hp} {sz : Nat} (es : List (List V)) : Els hp sz (.vs sz es) es := fun F k R h => by
 show EvD F (bif Nat.beq sz sz then k es else .bad) R
 rw [Nat.beq_refl]; exact h
theorem Els.ns {hp : Hp} {sz : Nat} : Els hp sz .ns [] := fun F k R h => h
theorem Els.st {hp : Hp} (l : List Nat) : Els hp 1 (.st l) (l.map fun n => [byte n]) := fun F k R h => h
theorem Els.hs {hp : Hp} {sz id i n : Nat} {fr : Bool} {es : List (List V)} (hg : hget hp id = some ⟨sz, fr, es⟩) (hb : i + n <= es.length) : Els hp sz (.hs id i n) ((es.drop i).take n) := fun F k R h => by
 show EvD F (match hget hp id with | some b => bif Nat.beq b.sz sz then .chk (Nat.ble (i + n) b.es.length) (k ((b.es.drop i).take n)) else .bad | none => .bad) R
 rw [hg]
 simp only [Nat.beq_refl, cond_true]
 exact .chk (by rw [bleD]; simpa using hb) h
theorem bs_getD {l : List Int} {j : Nat} (h : j < l.length) : (bs l).getD j [] = [.it .u8 (l[j]?.getD 0)] := by
 simp [bs, List.getD, h]
theorem X.app {sz bytes : Nat} {x y : A} {vx vy : V} {new : List (List V)} (hx : get tm x = vx) (hy : get tm y = vy) (hr : Els hp sz vy new)
  (n : EvD F (appendD us ⟨tm, lo, hp⟩ sz bytes vx new (fun v s => forceV (fun v => evLs clr r (put s (some d) v) k) v)) R) : EvD F (evLs clr (⟨some d, g, us, .app sz bytes x y⟩ :: r) ⟨tm, lo, hp⟩ k) R := by
 have e : evLs clr (⟨some d, g, us, .app sz bytes x y⟩ :: r) ⟨tm, lo, hp⟩ k = rowsD hp sz (get tm y) (fun new => appendD us ⟨tm, lo, hp⟩ sz bytes (get tm x) new (fun v s => forceV (fun v => evLs clr r (put s (some d) v) k) v)) := rfl
 rw [e, hx, hy]
 exact hr _ _ _ n
theorem X.apf {sz bytes : Nat} {x y : A} {vy : V} {id n : Nat} {es new : List (List V)} (hx : get tm x = .hs id 0 n) (hy : get tm y = vy) (hr : Els hp sz vy new) (hg : hget hp id = some ⟨sz, false, es⟩) (hlim : Nat.ble hp.lim id = true)
  (hf : freshH us tm id = true) (hn : es.length = n) (h2 : Nat.ble ((n + new.length) * bytes) maxB = true) {id' : Nat} (hid : hp.next = id')
  (nx : EvD F (evLs clr r ⟨upd tm d (.hs id' 0 (n + new.length)), lo, hnew (hset hp id none) ⟨sz, false, es ++ new⟩⟩ k) R) : EvD F (evLs clr (⟨some d, g, us, .app sz bytes x y⟩ :: r) ⟨tm, lo, hp⟩ k) R := by
 refine X.app hx hy hr ?_
 subst hid
 have hlt : Nat.blt id hp.lim = false := by rw [bltD]; rw [bleD] at hlim; simp at hlim; simp; omega
 unfold appendD
 simp only [hg, cond_false, hlt, Nat.beq_refl, cond_true, hf]
 refine .chk (by rw [bleD]; simp [hn]) (.chk h2 ?_)
 rw [forceV_eq]
 show EvD F (evLs clr r ⟨upd tm d (.hs hp.next 0 (n + new.length)), lo, hnew (hset hp id none) ⟨sz, false, (es.drop 0).take n ++ new⟩⟩ k) R
 rw [List.drop_zero, <- hn, List.take_length, hn]
 exact nx
theorem X.apn {sz bytes : Nat} {x y : A} {vy : V} {new : List (List V)} (hx : get tm x = .ns) (hy : get tm y = vy) (hr : Els hp sz vy new) (hne : new ≠ []) (h2 : Nat.ble (new.length * bytes) maxB = true) {id' : Nat} (hid : hp.next = id')
  (nx : EvD F (evLs clr r ⟨upd tm d (.hs id' 0 new.length), lo, hnew hp ⟨sz, false, new⟩⟩ k) R) : EvD F (evLs clr (⟨some d, g, us, .app sz bytes x y⟩ :: r) ⟨tm, lo, hp⟩ k) R := by
 refine X.app hx hy hr ?_
 subst hid
 cases new with
 | nil => exact absurd rfl hne
 | cons a l =>
  unfold appendD
  refine .chk h2 ?_
  exact nx
theorem X.ape {sz bytes : Nat} {x y : A} {vy : V} {new : List (List V)} (hx : get tm x = .ns) (hy : get tm y = vy) (hr : Els hp sz vy new) (hne : new = [])
  (nx : EvD F (evLs clr r ⟨upd tm d .ns, lo, hp⟩ k) R) : EvD F (evLs clr (⟨some d, g, us, .app sz bytes x y⟩ :: r) ⟨tm, lo, hp⟩ k) R := by
 refine X.app hx hy hr ?_
 subst hne
 exact nx
theorem X.mks {sz bytes : Nat} {z : List V} {l c : A} {nl nc : Int} (hl : get tm l = .it .i64 nl) (hc : get tm c = .it .i64 nc) (h0 : 0 <= nl) (h1 : nl <= nc) (h2 : nc <= 1000000000) (h3 : bytes <= 100000) {id' m : Nat} (hid : hp.next = id') (hm : nl.toNat = m)
  (nx : EvD F (evLs clr r ⟨upd tm d (.hs id' 0 m), lo, hnew hp ⟨sz, false, List.replicate m z⟩⟩ k) R) : EvD F (evLs clr (⟨some d, g, us, .mks sz bytes z l c⟩ :: r) ⟨tm, lo, hp⟩ k) R := by
 subst hid; subst hm
 have e : evLs clr (⟨some d, g, us, .mks sz bytes z l c⟩ :: r) ⟨tm, lo, hp⟩ k = natD (get tm l) fun l => natD (get tm c) fun c =>
  .chk (Nat.ble l c) (.chk (Nat.ble c 9223372036854775807) (.chk (Nat.ble (c * bytes) maxB) (evLs clr r ⟨upd tm d (.hs hp.next 0 l), lo, hnew hp ⟨sz, false, List.replicate l z⟩⟩ k))) := rfl
 rw [e, hl, hc]
 have h4 : nc.toNat * bytes <= 1000000000 * 100000 := Nat.mul_le_mul (by omega) h3
 refine .chk ?_ (.chk ?_ (.chk ?_ (.chk ?_ (.chk ?_ nx))))
 ·rw [ilt_eq, decide_eq_false (by omega)]; rfl
 ·rw [ilt_eq, decide_eq_false (by omega)]; rfl
 ·rw [bleD]; exact decide_eq_true (by omega)
 ·rw [bleD]; exact decide_eq_true (by omega)
 ·rw [bleD]; exact decide_eq_true (by unfold maxB; omega)
theorem X.mov {x : A} {v : V} (hx : get tm x = v) (hl : isLp v = false) (n : EvD F (evLs clr r ⟨upd tm d v, lo, hp⟩ k) R) : EvD F (evLs clr (⟨some d, g, us, .mov x⟩ :: r) ⟨tm, lo, hp⟩ k) R := by
 have e : evLs clr (⟨some d, g, us, .mov x⟩ :: r) ⟨tm, lo, hp⟩ k = notLpD (get tm x) fun v => forceV (fun v => evLs clr r ⟨upd tm d v, lo, hp⟩ k) v := rfl
 rw [e, hx]
 have : (notLpD v fun v => forceV (fun v => evLs clr r ⟨upd tm d v, lo, hp⟩ k) v) = evLs clr r ⟨upd tm d v, lo, hp⟩ k := by
  simp only [forceV_eq]
  cases v <;> first | rfl | cases hl
 rw [this]; exact n
theorem X.len {s : Bool} {x : A} {v : V} {m : Nat} (hx : get tm x = v) (hl : lenOf s v = some m) (n : EvD F (evLs clr r ⟨upd tm d (.it .i64 (Int.ofNat m)), lo, hp⟩ k) R) : EvD F (evLs clr (⟨some d, g, us, .len s x⟩ :: r) ⟨tm, lo, hp⟩ k) R := by
 have e : evLs clr (⟨some d, g, us, .len s x⟩ :: r) ⟨tm, lo, hp⟩ k = oneD (lenOf s (get tm x)) fun m => evLs clr r ⟨upd tm d (.it .i64 (Int.ofNat m)), lo, hp⟩ k := rfl
 rw [e, hx, hl]; exact n
theorem X.bsl {sz : Nat} {es es' : List (List V)} {ps : List (Nat × A)} {id' : Nat} (hf : fillE sz (ps.map fun (i, a) => (i, get tm a)) es = some es') (hid : hp.next = id')
  (nx : EvD F (evLs clr r ⟨upd tm d (.hs id' 0 es'.length), lo, hnew hp ⟨sz, false, es'⟩⟩ k) R) : EvD F (evLs clr (⟨some d, g, us, .bsl sz es ps⟩ :: r) ⟨tm, lo, hp⟩ k) R := by
 subst hid
 have e : evLs clr (⟨some d, g, us, .bsl sz es ps⟩ :: r) ⟨tm, lo, hp⟩ k = match fillE sz (ps.map fun (i, a) => (i, get tm a)) es with
  | some es => evLs clr r ⟨upd tm d (.hs hp.next 0 es.length), lo, hnew hp ⟨sz, false, es⟩⟩ k
  | none => .bad := rfl
 rw [e, hf]; exact nx
theorem X.bxh {x : A} {v : V} {id' : Nat} (hx : get tm x = v) (ha : v.cells.all V.keep = true) (hid : hp.next = id') (nx : EvD F (evLs clr r ⟨upd tm d (.pt id' 0 0), lo, hnew hp ⟨v.cells.length, false, [v.cells]⟩⟩ k) R) :
  EvD F (evLs clr (⟨some d, g, us, .bxh x⟩ :: r) ⟨tm, lo, hp⟩ k) R := by
 subst hid
 have e : evLs clr (⟨some d, g, us, .bxh x⟩ :: r) ⟨tm, lo, hp⟩ k = bif (get tm x).cells.all V.keep then evLs clr r ⟨upd tm d (.pt hp.next 0 0), lo, hnew hp ⟨(get tm x).cells.length, false, [(get tm x).cells]⟩⟩ k else .bad := rfl
 rw [e, hx, ha]; exact nx
theorem X.iav {sz : Nat} {x ix : A} {es : List (List V)} {kk : IntKind} {j : Nat} {row : List V} (hx : get tm x = .vs sz es) (hi : get tm ix = .it kk (Int.ofNat j)) (hj : j < es.length) (hr : es.getD j [] = row)
  (nx : EvD F (evLs clr r ⟨upd tm d (.ip row), lo, hp⟩ k) R) : EvD F (evLs clr (⟨some d, g, us, .ias sz x ix⟩ :: r) ⟨tm, lo, hp⟩ k) R := by
 subst hr
 have e : evLs clr (⟨some d, g, us, .ias sz x ix⟩ :: r) ⟨tm, lo, hp⟩ k = iIas sz x ix us clr d ⟨tm, lo, hp⟩ (fun v s => forceV (fun v => evLs clr r (put s (some d) v) k) v) (fun v s => k (.pan v s)) := rfl
 rw [e]
 unfold iIas
 simp only [hx, hi]
 refine .chk (by rw [ilt_eq]; rfl) ?_
 simp only [Nat.beq_refl, cond_true]
 exact .chk (by rw [bltD]; exact decide_eq_true hj) nx
theorem X.iah {sz : Nat} {x ix : A} {kk : IntKind} {j id i0 len : Nat} {b : Bk} (hx : get tm x = .hs id i0 len) (hi : get tm ix = .it kk (Int.ofNat j)) (hg : hget hp id = some b) (hz : b.sz = sz) (hj : j < len)
  (nx : EvD F (evLs clr r ⟨upd tm d (.pt id (i0 + j) 0), lo, hp⟩ k) R) : EvD F (evLs clr (⟨some d, g, us, .ias sz x ix⟩ :: r) ⟨tm, lo, hp⟩ k) R := by
 subst hz
 have e : evLs clr (⟨some d, g, us, .ias b.sz x ix⟩ :: r) ⟨tm, lo, hp⟩ k = iIas b.sz x ix us clr d ⟨tm, lo, hp⟩ (fun v s => forceV (fun v => evLs clr r (put s (some d) v) k) v) (fun v s => k (.pan v s)) := rfl
 rw [e]
 unfold iIas
 simp only [hx, hi, hg]
 refine .chk (by rw [ilt_eq]; rfl) ?_
 simp only [Nat.beq_refl, cond_true]
 exact .chk (by rw [bltD]; exact decide_eq_true hj) nx
theorem X.fin {dd : DFn} {vs : List V} {w : V} {hp' : Hp} (h : ∀ K : List V -> D, resultsD ⟨tm, lo, hp⟩ dd.res K = K vs) (hw : tuple vs = w) (hh : hp = hp') : EvD F (fK dd (.ret ⟨tm, lo, hp⟩)) (Rt w hp') := by
 subst hw; subst hh
 show EvD F (resultsD ⟨tm, lo, hp⟩ dd.res fun vs => .done (.ret ⟨fun _ => tuple vs, fun _ => none, hp⟩)) _
 rw [h]; exact .done _
theorem X.fin1 {dd : DFn} {vs : List V} {w : V} {hp' : Hp} (h : ∀ K : List V -> D, resultsD ⟨tm, lo, hp⟩ dd.res K = .chk b1 (K vs)) (hb : b1 = true) (hw : tuple vs = w) (hh : hp = hp') : EvD F (fK dd (.ret ⟨tm, lo, hp⟩)) (Rt w hp') := by
 subst hw; subst hh
 show EvD F (resultsD ⟨tm, lo, hp⟩ dd.res fun vs => .done (.ret ⟨fun _ => tuple vs, fun _ => none, hp⟩)) _
 rw [h]; exact .chk hb (.done _)
theorem X.finn {dd : DFn} {st : St} (h : EvD F (fK dd (.ret st)) R) : EvD F (fK dd (.norm st)) R := h
end
end Ev
namespace Ev
variable [Glob]
open Go
end Ev
namespace Ev
variable [Glob]
open Go
theorem sd : (∀ (α : Type) (a b : List α), (a ++ b).length = a.length + b.length) /\ (∀ (α : Type) (x : α) (a : List α), (x :: a).length = a.length + 1) /\ (∀ (α : Type), ([] : List α).length = 0) /\ (∀ (α : Type) (n : Nat) (x : α), (List.replicate n x).length = n) /\
  (∀ a b, Nat.ble a b = decide (a <= b)) /\ (∀ a b, Nat.blt a b = decide (a < b)) /\ (∀ a b : Int, ilt a b = decide (a < b)) /\ (∀ a b : Int, ieq a b = decide (a = b)) /\ (∀ a b, Nat.beq a b = decide (a = b)) /\ (∀ a b, beqL a b = decide (a = b)) /\ (∀ l, (bs l).length = l.length) /\
  maxB = 140737488355328 /\ (∀ n : Int, -9223372036854775808 <= n -> n < 9223372036854775808 -> wr .i64 n = n) :=
 ⟨fun _ _ _ => List.length_append, fun _ _ _ => List.length_cons, fun _ => List.length_nil, fun _ _ _ => List.length_replicate, bleD, bltD, ilt_eq, ieqD, beqD, beqLD, bs_length, rfl, fun _ h1 h2 => wr64 h1 h2⟩
theorem sb : (∀ b : Bool, ((!b) = true) = (b = false)) /\ (∀ b : Bool, ((!b) = false) = (b = true)) /\ (∀ (p : Prop) [Decidable p], (decide p = true) = p) /\ (∀ (p : Prop) [Decidable p], (decide p = false) = ¬ p) /\ (∀ a b : Bool, ((a && b) = true) = (a = true /\ b = true)) /\
  (∀ a b : Bool, ((a || b) = true) = (a = true \/ b = true)) /\ (∀ n : Nat, Int.ofNat n = (n : Int)) /\ (∀ n : Nat, (n : Int).toNat = n) :=
 ⟨fun b => by cases b <;> simp, fun b => by cases b <;> simp, fun p _ => by simp, fun p _ => by simp, fun a b => by simp, fun a b => by simp, fun _ => rfl, fun n => by simp⟩
theorem hgs : (∀ hp b j, hget (hnew hp b) j = if j = hp.next then some b else hget hp j) /\ (∀ hp id b j, hget (hset hp id b) j = if j = id then b else hget hp j) /\ (∀ hp b, (hnew hp b).next = hp.next + 1) /\ (∀ hp id b, (hset hp id b).next = hp.next) :=
 ⟨hget_hnew, hget_hset, fun _ _ => rfl, fun _ _ _ => rfl⟩
end Ev
namespace Ev
variable [Glob]
open Go
end Ev
namespace Ev
variable [Glob]
open Go
end Ev
namespace Ev
variable [Glob]
open Go
structure Box (p : Prop) : Prop where
 un : p
end Ev
namespace Ev
variable [Glob]
theorem nlb {a b : Nat} (h : Nat.ble a b = true) : a <= b := Nat.le_of_ble_eq_true h
end Ev
namespace Ev
variable [Glob]
open Go
section
variable {hp hp' : Hp} {v : V} {l : List Int}
structure Ex (hp hp' : Hp) (R : Nat) : Prop where
 next : hp.next <= hp'.next
 lim : hp'.lim = hp.lim
 get : ∀ j b, j ≠ R -> hget hp j = some b -> hget hp' j = some b
theorem Ex.set (hp : Hp) (b : Option Bk) (R : Nat) : Ex hp (hset hp R b) R :=
 ⟨Nat.le_refl _, rfl, fun j x hj hx => by rw [hget_other hj]; exact hx⟩
end
def Nil (hp : Hp) : Prop := ∀ j, hp.next <= j -> hget hp j = none
theorem Nil.set {hp : Hp} (h : Nil hp) {id : Nat} (hid : id < hp.next) (b : Option Bk) : Nil (hset hp id b) := fun j hj => by
 rw [hset_next] at hj
 rw [hget_other (by omega)]; exact h j hj
section
variable {F : Nat -> Option Ev.Fn} {R : R} {k : Ev.R -> D} {clr : List Nat} {tm : Tm} {lo : Lo} {hp : Hp} {r : List DOp} {us : List Nat} {g : Option (Nat × Bool)} {d : Nat} {v : V} {l : List Int}
def bnd (tm : Tm) (d : Nat) (o : Option A) (a : Nat) : Prop := match o with | none => d = a | some y => ∃ kk, get tm y = .it kk (Int.ofNat a)
theorem bnd_D {o : Option A} {dd a : Nat} {K : Nat -> D} (h : bnd tm dd o a) (n : EvD F (K a) R) : EvD F (boundD tm dd o K) R := by
 cases o with
 | none => cases h; exact n
 | some y =>
  obtain ⟨kk, e⟩ := h
  unfold boundD natD
  simp only [e]
  exact .chk (by rw [ilt_eq]; rfl) n
end
section
variable {F : Nat -> Option Ev.Fn} {R : R} {k : Ev.R -> D} {clr : List Nat} {tm : Tm} {lo : Lo} {hp : Hp} {r : List DOp} {us : List Nat} {g : Option (Nat × Bool)} {d : Nat} {q : Qk} {x y : A} {A1 B1 : Int}
end
theorem fresh_cons {t d : Nat} {us : List Nat} {tm : Tm} (h : isLp (tm t) = false) (r : fresh us tm d = true) : fresh (t :: us) tm d = true := by
 unfold fresh
 cases e : tm t <;> first | exact r | (rw [e] at h; cases h)
section
variable {F : Nat -> Option Ev.Fn} {R : R} {k : Ev.R -> D} {clr : List Nat} {tm : Tm} {lo : Lo} {hp : Hp} {r : List DOp} {us : List Nat} {g : Option (Nat × Bool)}
end
def slv (v : V) (a b : Nat) : V := (sliceV v a b).getD .ns
def pw (v : V) (j : Nat) : V := match v with | .vs _ es => .ip (es.getD j []) | .hs id i _ => .pt id (i + j) 0 | _ => .ns
def apv (hp : Hp) (l : List Int) : V := if l = [] then .ns else .hs hp.next 0 l.length
theorem slv_lp (v : V) (a b : Nat) : isLp (slv v a b) = false := by cases v <;> rfl
theorem pw_lp (v : V) (j : Nat) : isLp (pw v j) = false := by cases v <;> rfl
theorem apv_lp (hp : Hp) (l : List Int) : isLp (apv hp l) = false := by unfold apv; split <;> rfl
section
variable {F : Nat -> Option Ev.Fn} {R : R} {k : Ev.R -> D} {clr : List Nat} {tm : Tm} {lo : Lo} {hp : Hp} {r : List DOp} {us : List Nat} {g : Option (Nat × Bool)} {d : Nat} {v : V} {l : List Int}
end
theorem notLp_eq {v : V} (h : isLp v = false) (K : V -> D) : notLpD v K = K v := by cases v <;> first | rfl | cases h
section
variable {F : Nat -> Option Ev.Fn} {tm : Tm} {lo : Lo} {hp : Hp}
end
section
variable {hp : Hp} {l m : List Int}
end
section
variable {F : Nat -> Option Ev.Fn} {R : R} {k : Ev.R -> D} {clr : List Nat} {tm : Tm} {lo : Lo} {hp : Hp} {r : List DOp} {us : List Nat} {g : Option (Nat × Bool)} {d : Nat} {v : V} {l m : List Int}
end
structure Ex1 (hp hp' : Hp) : Prop where
 next : hp.next <= hp'.next
 lim : hp'.lim = hp.lim
 get : ∀ j b, hget hp j = some b -> b.sz = 1 -> ∃ fr, hget hp' j = some ⟨1, fr, b.es⟩
structure Ez (hp hp' : Hp) : Prop where
 next : hp'.next = hp.next
 lim : hp'.lim = hp.lim
 get : ∀ j b, hget hp j = some b -> ∃ fr, hget hp' j = some ⟨b.sz, fr, b.es⟩ /\ (b.sz = 6 -> fr = b.fr)
 nil : Nil hp -> Nil hp'
section
variable {F : Nat -> Option Ev.Fn} {R : R} {k : Ev.R -> D} {clr : List Nat} {tm : Tm} {lo : Lo} {hp : Hp} {r : List DOp} {us : List Nat} {g : Option (Nat × Bool)} {d : Nat}
theorem X.ext {x : A} {n : Nat} {xs : List V} {v : V} (hx : get tm x = .tu xs) (hn : xs[n]? = some v) (hl : isLp v = false) (nx : EvD F (evLs clr r ⟨upd tm d v, lo, hp⟩ k) R) : EvD F (evLs clr (⟨some d, g, us, .ext x n⟩ :: r) ⟨tm, lo, hp⟩ k) R := by
 have e : evLs clr (⟨some d, g, us, .ext x n⟩ :: r) ⟨tm, lo, hp⟩ k = match get tm x with | .tu xs => oneD xs[n]? fun v => notLpD v fun v => forceV (fun v => evLs clr r ⟨upd tm d v, lo, hp⟩ k) v | _ => .bad := rfl
 rw [e, hx]
 show EvD F (oneD xs[n]? fun v => notLpD v fun v => forceV (fun v => evLs clr r ⟨upd tm d v, lo, hp⟩ k) v) R
 rw [hn]
 show EvD F (notLpD v fun v => forceV (fun v => evLs clr r ⟨upd tm d v, lo, hp⟩ k) v) R
 rw [notLp_eq hl, forceV_eq]; exact nx
end
end Ev
namespace Ev
variable [Glob]
open Go
theorem X.s {p : Prop} (h : p := by first | rfl | assumption | omega | exact nlb rfl | (simp (disch := omega) only [sd, sb, Bool.not_true, Bool.not_false] <;> first | omega | assumption) | (simp (disch := omega) [sd] <;> omega)) : p := h
theorem X.w {α : Type} {a b : α} (h : a = b := by (conv => lhs; whnf); all_goals fail) : a = b := h
theorem X.r {α : Type} {a b : α} (h : a = b := by (conv => lhs; reduce); all_goals fail) : a = b := h
theorem X.h {p : Prop} (h : p := by first | rfl | (simp only [hgs, if_true]; rfl)) : p := h
theorem X.ra {p : Prop} (h : p := by first | rfl | assumption) : p := h
theorem X.e {hp : Hp} {sz : Nat} {v : V} {rows : List (List V)} (h : Els hp sz v rows := by first | exact Els.vs _ | exact Els.st _ | exact Els.ns) : Els hp sz v rows := h
theorem X.wi {p : Prop} (h : p := by first | exact wr_add_nat X.s | ((conv => lhs; whnf); all_goals fail)) : p := h
theorem X.fr {p : Prop} (h : p := by first | rfl | (repeat (first | rfl | refine fresh_cons X.l ?_))) : p := h
end Ev
namespace Ev
variable [Glob]
open Go
def Sl (hp : Hp) (v : V) (sz : Nat) (rows : List (List V)) : Prop :=
 (v = .ns /\ rows = []) \/ v = .vs sz rows \/
 ∃ id i fr all, v = .hs id i rows.length /\ id < hp.next /\ hp.lim <= id /\ hget hp id = some ⟨sz, fr, all⟩ /\ i + rows.length <= all.length /\ (all.drop i).take rows.length = rows
def Ow (hp : Hp) (v : V) (sz : Nat) (rows : List (List V)) : Prop :=
 (v = .ns /\ rows = []) \/ ∃ id, v = .hs id 0 rows.length /\ id < hp.next /\ hp.lim <= id /\ hget hp id = some ⟨sz, false, rows⟩
def idOf : V -> Option Nat
 | .hs id _ _ => some id
 | _ => none
def kil (hp : Hp) : V -> Hp
 | .hs id _ _ => hset hp id none
 | _ => hp
def oah (hp : Hp) (v : V) (sz : Nat) (rows : List (List V)) : Hp := hnew (kil hp v) ⟨sz, false, rows⟩
def gav (hp : Hp) (v : V) (n m : Nat) : V := match v with | .ns => if m = 0 then .ns else .hs hp.next 0 (n + m) | _ => .hs hp.next 0 (n + m)
def gah (hp : Hp) (v : V) (sz : Nat) (rows new : List (List V)) : Hp := match v with | .ns => if new.length = 0 then hp else oah hp v sz (rows ++ new) | _ => oah hp v sz (rows ++ new)
section
variable {hp hp' : Hp} {v w : V} {sz : Nat} {rows new : List (List V)}
theorem kil_next : (kil hp v).next = hp.next := by cases v <;> rfl
theorem kil_lim : (kil hp v).lim = hp.lim := by cases v <;> rfl
theorem kil_get {id : Nat} (h : idOf v ≠ some id) : hget (kil hp v) id = hget hp id := by
 cases v <;> first | rfl | (rename_i a b c; exact hget_other (fun e => h (by rw [e]; rfl)))
theorem oah_next : (oah hp v sz rows).next = hp.next + 1 := by show (kil hp v).next + 1 = _; rw [kil_next]
theorem oah_lim : (oah hp v sz rows).lim = hp.lim := kil_lim
theorem oah_get {id : Nat} (h : idOf v ≠ some id) (hid : id < hp.next) : hget (oah hp v sz rows) id = hget hp id := by
 show hget (hnew (kil hp v) _) id = _
 rw [hget_old (by rw [kil_next]; omega), kil_get h]
theorem oah_new : hget (oah hp v sz rows) hp.next = some ⟨sz, false, rows⟩ := by
 have := hget_new (kil hp v) ⟨sz, false, rows⟩
 rw [kil_next] at this; exact this
theorem Ow.ns : Ow hp .ns sz [] := .inl ⟨rfl, rfl⟩
theorem Ow.lp (h : Ow hp v sz rows) : isLp v = false := by rcases h with ⟨rfl, _⟩ | ⟨_, rfl, _⟩ <;> rfl
theorem Ow.len (h : Ow hp v sz rows) : lenOf false v = some rows.length := by rcases h with ⟨rfl, rfl⟩ | ⟨_, rfl, _⟩ <;> rfl
theorem Ow.cells (h : Ow hp v sz rows) : v.cells = [v] := by rcases h with ⟨rfl, _⟩ | ⟨_, rfl, _⟩ <;> rfl
theorem Ow.keep (h : Ow hp v sz rows) : v.keep = true := by rcases h with ⟨rfl, _⟩ | ⟨_, rfl, _⟩ <;> rfl
theorem Ow.sl (h : Ow hp v sz rows) : Sl hp v sz rows := by
 rcases h with h | ⟨id, rfl, q1, q2, q3⟩
 ·exact .inl h
 ·exact .inr (.inr ⟨id, 0, false, rows, rfl, q1, q2, q3, by omega, by rw [List.drop_zero, List.take_length]⟩)
theorem Ow.mk0 (h : hp.lim <= hp.next) : Ow (hnew hp ⟨sz, false, rows⟩) (.hs hp.next 0 rows.length) sz rows := .inr ⟨hp.next, rfl, by rw [hnew_next]; omega, by rw [hnew_lim]; exact h, hget_new _ _⟩
theorem Ow.nw (h : Ow hp v sz rows) (b : Bk) : Ow (hnew hp b) v sz rows := by
 rcases h with h | ⟨id, rfl, q1, q2, q3⟩
 ·exact .inl h
 ·exact .inr ⟨id, rfl, by rw [hnew_next]; omega, by rw [hnew_lim]; exact q2, by rw [hget_old (by omega)]; exact q3⟩
theorem Ow.get (h : Ow hp v sz rows) (h1 : hp.next <= hp'.next) (h2 : hp'.lim = hp.lim) (h3 : ∀ id, idOf v = some id -> hget hp' id = hget hp id) : Ow hp' v sz rows := by
 rcases h with h | ⟨id, rfl, q1, q2, q3⟩
 ·exact .inl h
 ·exact .inr ⟨id, rfl, by omega, by omega, by rw [h3 id rfl]; exact q3⟩
theorem Ow.oah (h : Ow hp v sz rows) {sz2 : Nat} {r2 : List (List V)} (hd : ∀ id, idOf v = some id -> idOf w ≠ some id) : Ow (Ev.oah hp w sz2 r2) v sz rows := by
 refine h.get (by rw [oah_next]; omega) oah_lim fun id hid => ?_
 rcases h with ⟨rfl, _⟩ | ⟨id', rfl, q1, q2, q3⟩
 ·cases hid
 ·cases hid; exact oah_get (hd _ rfl) q1
theorem Ow.put (h : Ow hp v sz rows) (hl : hp.lim <= hp.next) : Ow (Ev.oah hp v sz (rows ++ new)) (.hs hp.next 0 (rows.length + new.length)) sz (rows ++ new) :=
 .inr ⟨hp.next, by rw [List.length_append], by rw [oah_next]; omega, by rw [oah_lim]; exact hl, oah_new⟩
theorem gav_lp {n m : Nat} : isLp (gav hp v n m) = false := by unfold gav; split <;> first | rfl | (split <;> rfl)
theorem gah_lim : (gah hp v sz rows new).lim = hp.lim := by unfold gah; split <;> first | exact oah_lim | (split <;> first | rfl | exact oah_lim)
theorem gah_next : hp.next <= (gah hp v sz rows new).next := by
 unfold gah; split
 ·split
  ·exact Nat.le_refl _
  ·rw [oah_next]; omega
 ·rw [oah_next]; omega
theorem gah_get {id : Nat} (h : idOf v ≠ some id) (hid : id < hp.next) : hget (gah hp v sz rows new) id = hget hp id := by
 unfold gah; split
 ·split
  ·rfl
  ·exact oah_get h hid
 ·exact oah_get h hid
theorem Ow.gput (h : Ow hp v sz rows) (hl : hp.lim <= hp.next) : Ow (gah hp v sz rows new) (gav hp v rows.length new.length) sz (rows ++ new) := by
 rcases h with ⟨rfl, rfl⟩ | ⟨id, rfl, q1, q2, q3⟩
 ·unfold gah gav
  by_cases e : new.length = 0
  ·simp only [e, if_true]
   exact .inl ⟨rfl, by simpa using e⟩
  ·simp only [e, if_false]
   have := Ow.put (hp := hp) (v := .ns) (sz := sz) (rows := []) (new := new) .ns hl
   simpa using this
 ·exact Ow.put (.inr ⟨id, rfl, q1, q2, q3⟩) hl
theorem Ow.gah' (h : Ow hp v sz rows) {sz2 : Nat} {r2 n2 : List (List V)} (hd : ∀ id, idOf v = some id -> idOf w ≠ some id) : Ow (Ev.gah hp w sz2 r2 n2) v sz rows := by
 refine h.get gah_next gah_lim fun id hid => ?_
 rcases h with ⟨rfl, _⟩ | ⟨id', rfl, q1, q2, q3⟩
 ·cases hid
 ·cases hid; exact gah_get (hd _ rfl) q1
theorem Sl.vs : Sl hp (.vs sz rows) sz rows := .inr (.inl rfl)
theorem Sl.lp (h : Sl hp v sz rows) : isLp v = false := by rcases h with ⟨rfl, _⟩ | rfl | ⟨_, _, _, _, rfl, _⟩ <;> rfl
theorem Sl.len (h : Sl hp v sz rows) : lenOf false v = some rows.length := by rcases h with ⟨rfl, rfl⟩ | rfl | ⟨_, _, _, _, rfl, _⟩ <;> rfl
theorem Sl.els (h : Sl hp v sz rows) : Els hp sz v rows := by
 rcases h with ⟨rfl, rfl⟩ | rfl | ⟨id, i, fr, all, rfl, q1, q2, q3, q4, q5⟩
 ·exact .ns
 ·exact .vs _
 ·have := Els.hs (sz := sz) (i := i) (n := rows.length) q3 q4
  rw [q5] at this; exact this
theorem Sl.szd (h : Sl hp v sz rows) {D1 : D} : szD hp sz v D1 = D1 := by
 rcases h with ⟨rfl, rfl⟩ | rfl | ⟨id, i, fr, all, rfl, q1, q2, q3, q4, q5⟩
 ·rfl
 ·unfold szD; simp only [Nat.beq_refl, cond_true]
 ·unfold szD; simp only [q3, Nat.beq_refl, cond_true]
theorem Sl.slv (h : Sl hp v sz rows) {a b : Nat} (h1 : a <= b) (h2 : b <= rows.length) : sliceV v a b = some (slv v a b) /\ Sl hp (slv v a b) sz ((rows.drop a).take (b - a)) := by
 rcases h with ⟨rfl, rfl⟩ | rfl | ⟨id, i, fr, all, rfl, q1, q2, q3, q4, q5⟩
 ·exact ⟨rfl, .inl ⟨rfl, by simp⟩⟩
 ·exact ⟨rfl, .inr (.inl rfl)⟩
 ·refine ⟨rfl, .inr (.inr ⟨id, i + a, fr, all, ?_, q1, q2, q3, ?_, ?_⟩)⟩
  ·show V.hs id (i + a) (b - a) = _
   congr 1; simp; omega
  ·simp; omega
  ·have el : ((rows.drop a).take (b - a)).length = b - a := by simp; omega
   rw [el]
   conv => rhs; rw [<- q5]
   rw [List.drop_take, List.drop_drop, List.take_take, Nat.min_eq_left (by omega)]
def pwo (v : V) (j off : Nat) : V := match v with | .vs _ es => .ip ((es.getD j []).drop off) | .hs id i _ => .pt id (i + j) off | _ => .ns
theorem pwo_lp (v : V) (j off : Nat) : isLp (pwo v j off) = false := by cases v <;> rfl
end
structure Fz (o : Option Nat) (hp hp' : Hp) : Prop where
 next : hp'.next = hp.next
 lim : hp'.lim = hp.lim
 get : ∀ j b, hget hp j = some b -> ∃ fr, hget hp' j = some ⟨b.sz, fr, b.es⟩ /\ (o ≠ some j -> fr = b.fr)
 nil : Nil hp -> Nil hp'
theorem Fz.refl (o : Option Nat) (hp : Hp) : Fz o hp hp := ⟨rfl, rfl, fun j b h => ⟨b.fr, h, fun _ => rfl⟩, id⟩
theorem Fz.freeze {hp : Hp} {id sz : Nat} {fr : Bool} {es : List (List V)} (h : hget hp id = some ⟨sz, fr, es⟩) : Fz (some id) hp (hset hp id (some ⟨sz, true, es⟩)) :=
 ⟨rfl, rfl, fun j b hb => by
  by_cases q : j = id
  ·subst q
   rw [h] at hb; cases hb
   exact ⟨true, hget_set _ _ _, fun e => absurd rfl e⟩
  ·exact ⟨b.fr, by rw [hget_other q]; exact hb, fun _ => rfl⟩, fun n j hj => by
  rw [hset_next] at hj
  by_cases q : j = id
  ·subst q; rw [n j hj] at h; cases h
  ·rw [hget_other q]; exact n j hj⟩
section
variable {hp hp' : Hp} {v w : V} {sz : Nat} {rows new : List (List V)}
theorem Sl.close {ts : List Ty} (h : Sl hp v ts.length rows) (hc : ∀ e, e ∈ rows -> CloL ts e) (hn : rows.length + ts.length + 3 <= depth) : ∃ h', closeC depth (.sl ts) v hp = some (.vs ts.length rows, h') /\ Fz (idOf v) hp h' := by
 rcases h with ⟨rfl, rfl⟩ | rfl | ⟨id, i, fr, all, rfl, q1, q2, q3, q4, q5⟩
 ·exact ⟨hp, by rw [depth_succ]; rfl, .refl _ _⟩
 ·exact ⟨hp, by rw [depth_succ]; exact clo_vs _ _ _ _, .refl _ _⟩
 ·have := closeC_hs (n := depth) (i := i) (len := rows.length) q3 q2 rfl q4 (by rw [q5]; exact hc) hn
  rw [q5] at this
  exact ⟨_, this, .freeze q3⟩
theorem Sl.get (h : Sl hp v sz rows) (h1 : hp.next <= hp'.next) (h2 : hp'.lim = hp.lim) (h3 : ∀ id b, idOf v = some id -> hget hp id = some b -> hget hp' id = some b) : Sl hp' v sz rows := by
 rcases h with h | h | ⟨id, i, fr, all, rfl, q1, q2, q3, q4, q5⟩
 ·exact .inl h
 ·exact .inr (.inl h)
 ·exact .inr (.inr ⟨id, i, fr, all, rfl, by omega, by omega, h3 id _ rfl q3, q4, q5⟩)
end
section
variable {F : Nat -> Option Ev.Fn} {R : R} {k : Ev.R -> D} {clr : List Nat} {tm : Tm} {lo : Lo} {hp : Hp} {r : List DOp} {us : List Nat} {g : Option (Nat × Bool)} {d : Nat} {v vy : V} {sz bytes : Nat} {rows new : List (List V)} {x y : A}
theorem X.apo (hx : get tm x = v) (hy : get tm y = vy) (ho : Ow hp v sz rows) (hr : Els hp sz vy new) (hne : new ≠ []) (hu : ∀ id, freshH us tm id = true) (h2 : (rows.length + new.length) * bytes <= 140737488355328)
  (nx : EvD F (evLs clr r ⟨upd tm d (.hs hp.next 0 (rows.length + new.length)), lo, oah hp v sz (rows ++ new)⟩ k) R) : EvD F (evLs clr (⟨some d, g, us, .app sz bytes x y⟩ :: r) ⟨tm, lo, hp⟩ k) R := by
 rcases ho with ⟨rfl, rfl⟩ | ⟨id, rfl, q1, q2, q3⟩
 ·refine X.apn hx hy hr hne (by rw [bleD]; exact decide_eq_true (by unfold maxB; simpa using h2)) rfl ?_
  simpa [oah, kil] using nx
 ·exact X.apf hx hy hr q3 (by rw [bleD]; exact decide_eq_true q2) (hu _) rfl (by rw [bleD]; exact decide_eq_true h2) rfl nx
theorem X.apg (hx : get tm x = v) (hy : get tm y = vy) (ho : Ow hp v sz rows) (hr : Els hp sz vy new) (hu : ∀ id, freshH us tm id = true) (h2 : (rows.length + new.length) * bytes <= 140737488355328)
  (nx : EvD F (evLs clr r ⟨upd tm d (gav hp v rows.length new.length), lo, gah hp v sz rows new⟩ k) R) : EvD F (evLs clr (⟨some d, g, us, .app sz bytes x y⟩ :: r) ⟨tm, lo, hp⟩ k) R := by
 by_cases e : new = []
 ·rcases ho with ⟨rfl, rfl⟩ | ⟨id, rfl, q1, q2, q3⟩
  ·subst e
   refine X.ape hx hy hr rfl ?_
   simpa [gav, gah] using nx
  ·refine X.apf hx hy hr q3 (by rw [bleD]; exact decide_eq_true q2) (hu _) rfl (by rw [bleD]; exact decide_eq_true h2) rfl nx
 ·refine X.apo hx hy ho hr e hu h2 ?_
  have e2 : ¬ new.length = 0 := fun q => e (List.eq_nil_of_length_eq_zero q)
  have h1 : gav hp v rows.length new.length = .hs hp.next 0 (rows.length + new.length) := by unfold gav; split <;> first | rw [if_neg e2] | rfl
  have h3 : gah hp v sz rows new = oah hp v sz (rows ++ new) := by unfold gah; split <;> first | rw [if_neg e2] | rfl
  rw [h1, h3] at nx; exact nx
theorem X.slcS {o1 o2 : Option A} {a b : Nat} (hx : get tm x = v) (hB : Sl hp v sz rows) (h1 : bnd tm 0 o1 a) (h2 : bnd tm rows.length o2 b) (hab : a <= b) (hb : b <= rows.length)
  (nx : EvD F (evLs clr r ⟨upd tm d (slv v a b), lo, hp⟩ k) R) : EvD F (evLs clr (⟨some d, g, us, .slc false sz x o1 o2⟩ :: r) ⟨tm, lo, hp⟩ k) R := by
 have e : evLs clr (⟨some d, g, us, .slc false sz x o1 o2⟩ :: r) ⟨tm, lo, hp⟩ k = szD hp sz (get tm x) (oneD (lenOf false (get tm x)) fun n => boundD tm 0 o1 fun l => boundD tm n o2 fun h =>
   .chk (Nat.ble l h) (.chk (Nat.ble h n) (oneD (sliceV (get tm x) l h) fun v => forceV (fun v => evLs clr r ⟨upd tm d v, lo, hp⟩ k) v))) := rfl
 obtain ⟨e1, e2⟩ := hB.slv hab hb
 rw [e, hx, hB.szd, hB.len]
 show EvD F (boundD tm 0 o1 fun a => boundD tm rows.length o2 fun h => .chk (Nat.ble a h) (.chk (Nat.ble h rows.length) (oneD (sliceV v a h) fun v => forceV (fun v => evLs clr r ⟨upd tm d v, lo, hp⟩ k) v))) R
 apply bnd_D h1
 show EvD F (boundD tm rows.length o2 fun h => .chk (Nat.ble a h) (.chk (Nat.ble h rows.length) (oneD (sliceV v a h) fun v => forceV (fun v => evLs clr r ⟨upd tm d v, lo, hp⟩ k) v))) R
 apply bnd_D h2
 refine .chk (by rw [bleD]; exact decide_eq_true hab) (.chk (by rw [bleD]; exact decide_eq_true hb) ?_)
 rw [e1]
 show EvD F (forceV (fun v => evLs clr r ⟨upd tm d v, lo, hp⟩ k) (slv v a b)) R
 rw [forceV_eq]; exact nx
theorem X.iaS {ix : A} {kk : IntKind} {j : Nat} (hx : get tm x = v) (hB : Sl hp v sz rows) (hi : get tm ix = .it kk (Int.ofNat j)) (hj : j < rows.length)
  (nx : EvD F (evLs clr r ⟨upd tm d (pwo v j 0), lo, hp⟩ k) R) : EvD F (evLs clr (⟨some d, g, us, .ias sz x ix⟩ :: r) ⟨tm, lo, hp⟩ k) R := by
 rcases hB with ⟨rfl, rfl⟩ | rfl | ⟨id, i, fr, all, rfl, q1, q2, q3, q4, q5⟩
 ·simp at hj
 ·exact X.iav hx hi hj rfl nx
 ·exact X.iah hx hi q3 rfl hj nx
theorem X.ldS {n j off : Nat} {q : Bool} {a : A} {row : List V} {w : V} (ha : get tm a = pwo v j off) (hB : Sl hp v sz rows) (hj : j < rows.length) (hr : rows.getD j [] = row) (h4 : off + n <= row.length) (hw : pickC n q ((row.drop off).take n) = some w)
  (nx : EvD F (evLs clr r ⟨upd tm d w, lo, hp⟩ k) R) : EvD F (evLs clr (⟨some d, g, us, .ld n q a⟩ :: r) ⟨tm, lo, hp⟩ k) R := by
 subst hr
 rcases hB with ⟨rfl, rfl⟩ | rfl | ⟨id, i, fr, all, rfl, q1, q2, q3, q4, q5⟩
 ·simp at hj
 ·have e : evLs clr (⟨some d, g, us, .ld n q a⟩ :: r) ⟨tm, lo, hp⟩ k = loadD ⟨tm, lo, hp⟩ n (get tm a) (fun cs => oneD (pickC n q cs) fun v => forceV (fun v => evLs clr r ⟨upd tm d v, lo, hp⟩ k) v) := rfl
  rw [e, ha]
  refine .chk (by rw [bleD]; exact decide_eq_true (by rw [List.length_drop]; omega)) ?_
  show EvD F (oneD (pickC n q ((((rows.getD j []).drop off).drop 0).take n)) fun v => forceV (fun v => evLs clr r ⟨upd tm d v, lo, hp⟩ k) v) R
  rw [List.drop_zero, hw]
  show EvD F (forceV (fun v => evLs clr r ⟨upd tm d v, lo, hp⟩ k) w) R
  rw [forceV_eq]; exact nx
 ·have e : rows.getD j [] = all.getD (i + j) [] := by
   have : rows[j]? = all[i + j]? := by
    conv => lhs; rw [<- q5]
    rw [List.getElem?_take_of_lt hj, List.getElem?_drop]
   simp only [List.getD, this]
  rw [e] at hw h4
  exact X.ldp ha q3 (by show i + j < all.length; omega) rfl h4 hw nx
end
end Ev
namespace Ev
variable [Glob]
open Go
theorem X.l2 {v : V} (h : isLp v = false := by first | rfl | assumption | exact slv_lp _ _ _ | exact pwo_lp _ _ _ | exact gav_lp | exact pw_lp _ _ | exact apv_lp _ _) : isLp v = false := h
section
variable {F : Nat -> Option Ev.Fn} {R : R} {k : Ev.R -> D} {clr : List Nat} {tm : Tm} {lo : Lo} {hp : Hp} {r : List DOp} {us : List Nat} {g : Option (Nat × Bool)} {d : Nat}
theorem X.bsv1 {a : A} {z : V} {kk : IntKind} {n : Int} (ha : get tm a = .it kk n) (nx : EvD F (evLs clr r ⟨upd tm d (.vs 1 [[.it kk n]]), lo, hp⟩ k) R) : EvD F (evLs clr (⟨some d, g, us, .bsv [.one] 1 [[z]] [(0, a)]⟩ :: r) ⟨tm, lo, hp⟩ k) R := by
 have e : evLs clr (⟨some d, g, us, .bsv [.one] 1 [[z]] [(0, a)]⟩ :: r) ⟨tm, lo, hp⟩ k = match fillE 1 [(0, get tm a)] [[z]] with
  | some es => (match closeEs depth [.one] es Ev.h0 with
   | some (es, _) => forceV (fun v => evLs clr r ⟨upd tm d v, lo, hp⟩ k) (.vs 1 es)
   | none => .bad)
  | none => .bad := rfl
 have e2 : fillE 1 [(0, V.it kk n)] [[z]] = some [[.it kk n]] := rfl
 have e3 : closeEs depth [.one] [[V.it kk n]] Ev.h0 = some ([[.it kk n]], Ev.h0) := closeEs_clo depth Ev.h0 (fun e he => by
  simp only [List.mem_singleton] at he; subst he; exact .cons (clo_it _ _) .nil) (by simp [depth])
 rw [e, ha, e2]
 simp only [e3]
 exact nx
end
end Ev
namespace Ev
variable [Glob]
open Go
section
variable {F : Nat -> Option Ev.Fn} {R : R} {k : Ev.R -> D} {clr : List Nat} {tm : Tm} {lo : Lo} {hp : Hp} {r : List DOp} {us : List Nat} {g : Option (Nat × Bool)} {d : Nat}
theorem X.bsl1 {sz : Nat} {z row : List V} {a : A} {w : V} {id' : Nat} (ha : get tm a = w) (hc : w.cells = row) (hl : Nat.beq row.length sz = true) (hk : row.all V.keep = true) (hid : hp.next = id')
  (nx : EvD F (evLs clr r ⟨upd tm d (.hs id' 0 1), lo, hnew hp ⟨sz, false, [row]⟩⟩ k) R) : EvD F (evLs clr (⟨some d, g, us, .bsl sz [z] [(0, a)]⟩ :: r) ⟨tm, lo, hp⟩ k) R := by
 refine X.bsl (es' := [row]) ?_ hid nx
 show fillE sz [(0, get tm a)] [z] = _
 rw [ha]
 unfold fillE
 rw [hc, hl, hk]
 rfl
end
end Ev
namespace Ev
variable [Glob]
open Go
section
variable {F : Nat -> Option Ev.Fn} {keep drop : List Nat} {body : St -> D}
theorem EvL.inv {S : Type} (kv : S -> List (Nat × V)) (J : S -> Lo -> Hp -> Prop) (μ : S -> Nat) (Q : R -> Prop)
  (hstep : ∀ s lo hp, J s lo hp -> (∃ tm' lo' hp' s', EvD F (body ⟨tmOf (kv s), shed drop lo, hp⟩) (.norm ⟨tm', lo', hp'⟩) /\ keep.map (fun x => (x, tm' x)) = kv s' /\ J s' lo' hp' /\ μ s' < μ s) \/
   (∃ r, EvD F (body ⟨tmOf (kv s), shed drop lo, hp⟩) r /\ (∀ st, r ≠ .norm st) /\ Q r)) :
  ∀ s tm lo hp, J s lo hp -> keep.map (fun x => (x, tm x)) = kv s -> ∃ r, EvL F keep drop body ⟨tm, lo, hp⟩ r /\ Q r := by
 suffices ∀ n s tm lo hp, μ s < n -> J s lo hp -> keep.map (fun x => (x, tm x)) = kv s -> ∃ r, EvL F keep drop body ⟨tm, lo, hp⟩ r /\ Q r from fun s tm lo hp => this (μ s + 1) s tm lo hp (by omega)
 intro n
 induction n with
 | zero => intro s tm lo hp h; omega
 | succ n ih =>
  intro s tm lo hp hn hJ hk
  rcases hstep s lo hp hJ with ⟨tm', lo', hp', s', h1, h2, h3, h4⟩ | ⟨r, h1, h2, h3⟩
  ·obtain ⟨r, q1, q2⟩ := ih s' tm' lo' hp' (by omega) h3 h2
   exact ⟨r, EvL.go _ hk h1 q1, q2⟩
  ·exact ⟨r, EvL.stop _ hk h1 h2, h3⟩
end
theorem no_exit {k : Nat} {s : St} : ∀ st, R.exit k s ≠ .norm st := fun _ h => by cases h
theorem no_ret {s : St} : ∀ st, R.ret s ≠ .norm st := fun _ h => by cases h
abbrev Fld := List Nat × List Nat
def fd (f : Fld) : List V := [.st f.1, .st f.2]
def fds (l : List Fld) : List (List V) := l.map fd
theorem fd_clo (f : Fld) : CloL [.one, .one] (fd f) := .cons (clo_st _) (.cons (clo_st _) .nil)
theorem fds_length (l : List Fld) : (fds l).length = l.length := by simp [fds]
theorem fds_getD {l : List Fld} {i : Nat} (h : i < l.length) : (fds l).getD i [] = fd l[i] := by simp [fds, List.getD, h]
end Ev
namespace Ev
variable [Glob]
open Go
theorem kvc {a : Nat} {v w : V} {l m : List (Nat × V)} (h : v = w) (r : l = m) : (a, v) :: l = (a, w) :: m := by rw [h, r]
theorem X.kv {l m : List (Nat × V)} (h : l = m := by repeat (first | rfl | refine kvc (by first | rfl | exact wr_inc X.s | assumption) ?_)) : l = m := h
section
variable {F : Nat -> Option Ev.Fn} {R : R} {k : Ev.R -> D} {clr : List Nat} {tm : Tm} {lo : Lo} {hp : Hp} {r : List DOp} {us : List Nat} {g : Option (Nat × Bool)} {d : Nat}
end
end Ev
namespace Ev
variable [Glob]
open Go
end Ev
namespace Ev
variable [Glob]
open Go
section
variable {F : Nat -> Option Ev.Fn} {R : R} {k : Ev.R -> D} {clr : List Nat} {tm : Tm} {lo : Lo} {hp : Hp} {r : List DOp} {us : List Nat} {g : Option (Nat × Bool)} {d : Nat}
theorem EvC.ofT {f : Nat} {fn : Ev.Fn} {ys xs zs : List V} {hp hp1 : Hp} (h : EvP F f fn ys zs) (hc : ClP fn.ps xs hp ys hp1) (hr : fn.rs.length ≠ 1) : EvC F true f xs hp (.ret (tuple zs) hp1) := by
 obtain ⟨h1, h2, h3, v, h, h', h4, h5⟩ := h
 refine EvC.pure h1 h2 hc.close h3 h4 ?_
 show back true fn hp1 (.ret v h) = _
 unfold back
 have hcl := h5.close
 match hrs : fn.rs, hr, hcl with
 | [], _, hcl => simp only [hcl]
 | [_], hr, _ => exact absurd rfl hr
 | a :: b :: c, _, hcl => simp only [hcl]
theorem X.pcallT {md : Md} {f : Nat} {xs : List A} {ys ys' zs : List V} {w : V} {fn : Ev.Fn} {hp' : Hp} (h : EvP F f fn ys' zs) (hr : fn.rs.length ≠ 1) (hc : ClP fn.ps ys hp ys' hp') (hx : xs.map (get tm) = ys) (hl : ys.any isLp = false) (hw : tuple zs = w)
  (n : EvD F (evLs clr r ⟨upd tm d w, lo, hp'⟩ k) R) : EvD F (evLs clr (⟨some d, g, [], .call true md f xs⟩ :: r) ⟨tm, lo, hp⟩ k) R := by
 subst hw; exact X.call hx hl (EvC.ofT h hc hr) n
end
end Ev
namespace Ev
variable [Glob]
open Go
section
variable {F : Nat -> Option Ev.Fn} {R : R} {k : Ev.R -> D} {clr : List Nat} {tm : Tm} {lo : Lo} {hp : Hp} {r : List DOp} {us : List Nat} {g : Option (Nat × Bool)} {d : Nat}
end
end Ev
namespace Ev
variable [Glob]
open Go Go.ChangeShapes Go.WideShapes Go.ChangeAt Go.RowKit
abbrev Par := Bool × List TD
def parOf (P : Program) (t : TypeId) : Option Par :=
 match P.underlying t with
 | some (.struct _) => (tdOf P 40 t).map fun ts => (true, ts)
 | some .bool | some (.int _) | some .string | some (.slice _) => (tdOf P 40 t).map fun ts => (false, ts)
 | _ => none
def parsOf (P : Program) : List TypeId -> Option (List Par)
 | [] => some []
 | t :: r => match parOf P t, parsOf P r with
  | some p, some ps => some (p :: ps)
  | _, _ => none
inductive ShP : List Par -> List V -> Prop
 | nil : ShP [] []
 | one {t : TD} {v : V} {ps : List Par} {xs : List V} (h : Sh1 t v) (r : ShP ps xs) : ShP ((false, [t]) :: ps) (v :: xs)
 | grp {ts : List TD} {vs : List V} {ps : List Par} {xs : List V} (h : ShL ts vs) (r : ShP ps xs) : ShP ((true, ts) :: ps) (.ag vs :: xs)
def sizP : List V -> Nat
 | [] => 0
 | .ag vs :: r => sizL vs + sizP r
 | v :: r => siz v + sizP r
theorem ShP.length {ps : List Par} {xs : List V} (h : ShP ps xs) : xs.length = ps.length := by
 induction h <;> simp_all
theorem Sh1.sizP {t : TD} {v : V} {r : List V} (h : Sh1 t v) : sizP (v :: r) = siz v + sizP r := by cases h <;> rfl
section
variable {H : Type} {enc : TypeId × Value -> H} {P : Program} {w : World} {u : DataW H -> Nat} {ul : List (DataW H) -> Nat}
theorem param_read (hB : Bulk u ul) {base b0 : Nat} {sp : Nat -> Bool} {hd : Bool} {t : TypeId} {v : Value} {d : DataW H} {ps : List MemPlace} {p : Par} (hp : parOf P t = some p)
  (hv : Value.okWide P w .any b0 t v) (h : DataW.Trod enc P w base sp hd t v d ps) :
  ∃ x, isLp x = false /\ RepA ⟨kAll w, fun _ => .unb⟩ x v /\ (∀ qs xs, ShP qs xs -> ShP (p :: qs) (x :: xs)) /\ ∀ xs, sizP (x :: xs) <= u d + sizP xs := by
 obtain ⟨n, h⟩ := h
 have single : ∀ ts, tdOf P 40 t = some ts -> v.cells.toList = [v] -> p = (false, ts) -> ∃ x, isLp x = false /\ RepA ⟨kAll w, fun _ => .unb⟩ x v /\ (∀ qs xs, ShP qs xs -> ShP (p :: qs) (x :: xs)) /\ ∀ xs, sizP (x :: xs) <= u d + sizP xs := by
  intro ts hts hc hpe
  obtain ⟨vs, q1, q2, q3⟩ := data_read hB 40 n t _ d ps ts hts h
  rw [hc] at q1
  cases q1 with
  | cons a r =>
   cases r
   cases q2 with
   | cons b r2 =>
    cases r2
    refine ⟨_, b.keep.2, .c _ _ a, fun qs xs hx => hpe ▸ .one b hx, fun xs => ?_⟩
    rw [b.sizP]; simp only [sizL] at q3; omega
 unfold parOf at hp
 split at hp
 ·rename_i fs ht
  simp only [Option.map_eq_some_iff] at hp
  obtain ⟨ts, hts, rfl⟩ := hp
  obtain ⟨cs, rfl, _⟩ := okWide_struct ht hv
  obtain ⟨vs, q1, q2, q3⟩ := data_read hB 40 n t _ d ps ts hts h
  have q1 : RepL (kAll w) vs cs.toList := q1
  refine ⟨.ag vs, rfl, .ag vs cs ?_ ?_ ?_, fun qs xs hx => .grp q2 hx, fun xs => ?_⟩
  ·have := q1.length; simpa using this.symm
  ·intro c hc
   obtain ⟨t, ht⟩ := q2.mem hc
   exact ht.keep.1
  ·intro i c hc
   have := q1.get i c hc
   refine .c _ _ ?_
   simpa [Array.getD_eq_getD_getElem?, List.getD_eq_getElem?_getD] using this
  ·simp only [sizP]; omega
 ·rename_i ht
  simp only [Option.map_eq_some_iff] at hp
  obtain ⟨ts, hts, e⟩ := hp
  obtain ⟨b, rfl⟩ := okWide_bool ht hv
  exact single ts hts rfl e.symm
 ·rename_i k ht
  simp only [Option.map_eq_some_iff] at hp
  obtain ⟨ts, hts, e⟩ := hp
  obtain ⟨b, rfl⟩ := okWide_int ht hv
  exact single ts hts rfl e.symm
 ·rename_i ht
  simp only [Option.map_eq_some_iff] at hp
  obtain ⟨ts, hts, e⟩ := hp
  obtain ⟨b, rfl⟩ := okWide_string ht hv
  exact single ts hts rfl e.symm
 ·rename_i el ht
  simp only [Option.map_eq_some_iff] at hp
  obtain ⟨ts, hts, e⟩ := hp
  obtain ⟨a, l, c, rfl⟩ := okWide_slice ht hv
  exact single ts hts rfl e.symm
 ·cases hp
theorem params_read (hB : Bulk u ul) {base b0 : Nat} {sp : Nat -> Bool} {hd : Bool} : ∀ (ts : List TypeId) (vs : List Value) (ds : List (DataW H)) (ps : List MemPlace) (pts : List Par),
  parsOf P ts = some pts -> (∀ (j : Nat) t v, ts[j]? = some t -> vs[j]? = some v -> Value.okWide P w .any b0 t v) -> DataW.TrodAll enc P w base sp hd ts vs ds ps ->
  ∃ xs, ShP pts xs /\ vs.length = xs.length /\ (∀ x, x ∈ xs -> isLp x = false) /\ (∀ (i : Nat) (x : V), xs[i]? = some x -> RepA ⟨kAll w, fun _ => .unb⟩ x (vs.getD i undef)) /\ sizP xs <= ul ds /\ ds.length = pts.length
 | [], vs, ds, ps, pts, hp, _, h => by
  simp only [parsOf, Option.some.injEq] at hp; subst hp
  obtain ⟨rfl, rfl, rfl⟩ := trodAll_nil h
  exact ⟨[], .nil, rfl, by simp, by simp, by simp [sizP], rfl⟩
 | t :: ts, vs, ds, ps, pts, hp, hv, h => by
  simp only [parsOf] at hp
  split at hp
  ·rename_i p qs h1 h2
   simp only [Option.some.injEq] at hp; subst hp
   obtain ⟨v, vs', d, ds', p', q', rfl, rfl, rfl, g1, g2⟩ := trodAll_cons h
   obtain ⟨xs, a1, a2, a3, a4, a5, a6⟩ := params_read hB ts vs' ds' q' qs h2 (fun j t v x y => hv (j + 1) t v (by simpa using x) (by simpa using y)) g2
   obtain ⟨x, b1, b2, b3, b4⟩ := param_read hB h1 (hv 0 t v rfl rfl) g1
   refine ⟨x :: xs, b3 _ _ a1, by simp [a2], ?_, ?_, ?_, by simp [a6]⟩
   ·intro y hy
    rcases List.mem_cons.1 hy with e | e
    ·subst e; exact b1
    ·exact a3 y e
   ·intro i y hy
    cases i with
    | zero => simp at hy; subst hy; simpa using b2
    | succ i => simpa using a4 i y (by simpa using hy)
   ·rw [hB.cons]; have := b4 xs; omega
  ·cases hp
def smallB (P : Program) (f : Func) : Bool := f.params.toList.all fun t => decide (t < P.types.size)
theorem law_contract {F : Nat -> Option Ev.Fn} {mds : Nat -> Md} (T : Table P F mds) {n : Nat} {fn : Ev.Fn} (hF : F n = some fn) (hB : Bulk u ul) {f : Func} {s : ChangeSpec} {W : World} {args : Array Value} {ds gs : List (DataW H)}
  {before : List MemPlace} {tb b0 : Nat} {pts : List Par} (hpar : parsOf P f.params.toList = some pts)
  (hval : ∀ (j : Nat) t v, f.params[j]? = some t -> args[j]? = some v -> Value.okWide P W .any b0 t v)
  (hW : DataW.Whole enc P f.params.toList s.vars false W args.toList ds gs before) (hvars : s.vars = [])
  (hfn : ∀ ds : List (DataW H), ds.length = pts.length -> s.fn H (ds ++ []) = { results := [.lit (.bool true)], args := ds }) (hrt : f.resultTypes = #[tb]) (htb : P.underlying tb = some .bool)
  (hlo : laidOutB P = true) (hmr : mapsRowed P = true) (hz : fullB P = true) (hpt : smallB P f = true) (hgl : GlobW ⟨kAll W, fun _ => .unb⟩ h0 W)
  (hrun : ∀ xs, ShP pts xs -> sizP xs <= ul (ds ++ gs) -> ∃ L k hp', runF (callF F L k) L fn xs h0 = .ret (.bo true) hp') :
  Calls P n args W fun e W' => ∃ v, e = .returned v /\ s.post enc P f false true false false W args v W' := by
 have hW' := hW
 obtain ⟨p, q, hA, hV, _⟩ := hW
 rw [hvars] at hV
 obtain ⟨hgs, _⟩ := trodVars_none hV
 subst hgs
 obtain ⟨xs, h1, h2, h3, h4, h5, h6⟩ := params_read hB _ _ _ _ _ hpar (fun j t v x y => hval j t v (by simpa using x) (by simpa using y)) hA
 obtain ⟨L, k, hp', hr⟩ := hrun xs h1 (by rw [List.append_nil]; exact h5)
 have ha : Args ⟨kAll W, fun _ => .unb⟩ xs args := ⟨by simpa using h2, h3, fun i x hx => by
  have := h4 i x hx
  simpa [Array.getD_eq_getD_getElem?, List.getD_eq_getElem?_getD] using this⟩
 refine Calls.mono (law_calls T hF hgl ha hr) fun e W' ⟨he, hk⟩ => ⟨_, he, ?_⟩
 refine post_kept (tb := tb) hW' hvars ?_ hrt htb hlo hmr hz (fun t ht => by simpa using List.all_eq_true.1 (show (f.params.toList.all fun t => decide (t < P.types.size)) = true from hpt) t ht) hk
 exact hfn ds h6
end
end Ev
namespace Ev
variable [Glob]
open Go
theorem slice_of {ts : List TD} {v : V} (h : Sh1 (.sl ts) v) : ∃ es, v = .vs ts.length es /\ ShE ts es /\ siz v = sizE es + 1 := by
 cases h with
 | sl ts n hn es h => subst hn; exact ⟨es, rfl, h, rfl⟩
theorem int_of {k : IntKind} {v : V} (h : Sh1 (.it k) v) : ∃ n, v = .it k n /\ (Lit.int k n).wf = true := by
 cases h with | it k n hw => exact ⟨n, rfl, hw⟩
theorem bool_of {v : V} (h : Sh1 .bo v) : ∃ b, v = .bo b := by
 cases h with | bo b => exact ⟨b, rfl⟩
theorem text_of {v : V} (h : Sh1 .st v) : ∃ l : List Nat, v = .st l /\ (∀ n, n ∈ l -> n < 256) /\ siz v = l.length + 1 := by
 cases h with
 | st l => exact ⟨l.map UInt8.toNat, rfl, by intro n hn; simp only [List.mem_map] at hn; obtain ⟨x, _, rfl⟩ := hn; exact x.toNat_lt, rfl⟩
theorem ShP.one' {t : TD} {ps : List Par} {xs : List V} (h : ShP ((false, [t]) :: ps) xs) : ∃ v r, xs = v :: r /\ Sh1 t v /\ ShP ps r /\ sizP xs = siz v + sizP r := by
 cases h with | one a r => exact ⟨_, _, rfl, a, r, a.sizP⟩
theorem ShP.grp' {ts : List TD} {ps : List Par} {xs : List V} (h : ShP ((true, ts) :: ps) xs) : ∃ vs r, xs = .ag vs :: r /\ ShL ts vs /\ ShP ps r /\ sizP xs = sizL vs + sizP r := by
 cases h with | grp a r => exact ⟨_, _, rfl, a, r, rfl⟩
theorem ShP.nil' {xs : List V} (h : ShP [] xs) : xs = [] := by cases h; rfl
theorem ShL.cons' {t : TD} {ts : List TD} {vs : List V} (h : ShL (t :: ts) vs) : ∃ v r, vs = v :: r /\ Sh1 t v /\ ShL ts r /\ sizL vs = siz v + sizL r := by
 cases h with | cons a r => exact ⟨_, _, rfl, a, r, rfl⟩
theorem ShL.nil' {vs : List V} (h : ShL [] vs) : vs = [] := by cases h; rfl
end Ev
namespace Ev
variable [Glob]
open Go
theorem law_of {F : Nat -> Option Ev.Fn} (d : DFn) {xs : List V} (hl : Nat.beq xs.length d.ps.length = true) (h : ∃ hp, EvD F (stepD d xs h0) (Rt (.bo true) hp)) : ∃ L k hp', runF (callF F L k) L d.den xs h0 = .ret (.bo true) hp' := by
 obtain ⟨hp, h⟩ := h
 rw [stepD_eq] at h
 exact law_run (fn := d.den) hl h
end Ev
namespace Ev
variable [Glob]
open Go
def EvQ (F : Nat -> Option Ev.Fn) (d : D) (Q : R -> Prop) : Prop := ∃ r, EvD F d r /\ Q r
section
variable {F : Nat -> Option Ev.Fn} {Q Q' : R -> Prop} {k : Ev.R -> D} {clr : List Nat} {tm : Tm} {lo : Lo} {hp : Hp} {r : List DOp} {us : List Nat} {g : Option (Nat × Bool)} {d : Nat}
theorem EvQ.lift {d d' : D} (f : ∀ R, EvD F d' R -> EvD F d R) (h : EvQ F d' Q) : EvQ F d Q := let ⟨r, h, q⟩ := h; ⟨r, f r h, q⟩
theorem EvQ.done {x : R} (q : Q x) : EvQ F (.done x) Q := ⟨x, .done x, q⟩
theorem EvQ.cond {c : A} {x y : C} {b : Bool} (hc : get tm c = .bo b) (h1 : b = true -> EvQ F (x.run ⟨tm, lo, hp⟩ k) Q) (h2 : b = false -> EvQ F (y.run ⟨tm, lo, hp⟩ k) Q) : EvQ F ((C.cond c x y).run ⟨tm, lo, hp⟩ k) Q := by
 cases b with
 | true => exact (h1 rfl).lift fun R n => X.condT hc n
 | false => exact (h2 rfl).lift fun R n => X.condF hc n
theorem EvQ.g1 {ops : List DOp} {gs : List DGr} {t : Nat} {w b : Bool} (ht : tm t = .bo b) (h1 : b = w -> EvQ F (evLs clr ops ⟨upd tm t (.bo w), lo, hp⟩ (gK clr gs k)) Q)
  (h2 : b = (!w) -> EvQ F (evGds clr gs ⟨undoT ops (upd tm t (.bo (!w))), lo, hp⟩ k) Q) : EvQ F (evGds clr (⟨some (t, w), ops⟩ :: gs) ⟨tm, lo, hp⟩ k) Q := by
 cases w <;> cases b
 ·exact (h1 rfl).lift fun R n => X.g1T ht n
 ·exact (h2 rfl).lift fun R n => X.g1F ht n
 ·exact (h2 rfl).lift fun R n => X.g1F ht n
 ·exact (h1 rfl).lift fun R n => X.g1T ht n
theorem EvQ.loop {keep drop : List Nat} {c : C} {st : St} {QL : R -> Prop} (h : ∃ x, EvL F keep drop (lpB c) st x /\ QL x) (h' : ∀ x, QL x -> EvQ F (k x) Q) : EvQ F ((C.loop keep drop c).run st k) Q := by
 obtain ⟨x, h1, h2⟩ := h
 exact (h' x h2).lift fun R n => X.loop h1 n
theorem EvQ.fin {dd : DFn} {vs : List V} (h : ∀ K : List V -> D, resultsD ⟨tm, lo, hp⟩ dd.res K = K vs) (q : Q (Rt (tuple vs) hp)) : EvQ F (fK dd (.ret ⟨tm, lo, hp⟩)) Q := ⟨_, X.fin h rfl rfl, q⟩
theorem EvQ.fin1 {dd : DFn} {vs : List V} {b1 : Bool} (h : ∀ K : List V -> D, resultsD ⟨tm, lo, hp⟩ dd.res K = .chk b1 (K vs)) (hb : b1 = true) (q : Q (Rt (tuple vs) hp)) : EvQ F (fK dd (.ret ⟨tm, lo, hp⟩)) Q := ⟨_, X.fin1 h hb rfl rfl, q⟩
structure PQ (rs : List PT) (zs : List V) (r : R) : Prop where
 un : ∃ v h h', r = Rt v h /\ ClP rs (untuple rs.length v) h zs h'
theorem PQ.of {rs : List PT} {zs : List V} {v : V} {h h' : Hp} (e : ClP rs (untuple rs.length v) h zs h') : PQ rs zs (Rt v h) := ⟨v, h, h', rfl, e⟩
theorem PQ.bo {x b : Bool} {h : Hp} (e : x = b) : PQ [.c .one] [.bo b] (Rt (.bo x) h) := ⟨_, h, h, rfl, by subst e; exact .s (clo_bo _) (.nil _)⟩
theorem PQ.it {x b : Int} {kk : IntKind} {h : Hp} (e : x = b) : PQ [.c .one] [.it kk b] (Rt (.it kk x) h) := ⟨_, h, h, rfl, by subst e; exact .s (clo_it _ _) (.nil _)⟩
theorem PQ.st {x b : List Nat} {h : Hp} (e : x = b) : PQ [.c .one] [.st b] (Rt (.st x) h) := ⟨_, h, h, rfl, by subst e; exact .s (clo_st _) (.nil _)⟩
theorem EvP.ofQ {f : Nat} (d : DFn) {ys zs : List V} (h1 : F f = some d.den) (h2 : d.md = .pure) (h3 : Nat.beq ys.length d.ps.length = true) (h4 : EvQ F (d.body.run ⟨argT ys, fun _ => none, h0⟩ (fK d)) (PQ d.rs zs)) : EvP F f d.den ys zs := by
 obtain ⟨r, h, ⟨v, hp, hp', rfl, e⟩⟩ := h4
 exact .of d h1 h2 h3 (X.fn h) e
theorem EvQ.law {dd : DFn} {ys : List V} (h : EvQ F (dd.body.run ⟨argT ys, fun _ => none, h0⟩ (fK dd)) (fun r => ∃ hp, r = Rt (.bo true) hp)) : ∃ hp, EvD F (stepD dd ys h0) (Rt (.bo true) hp) := by
 obtain ⟨r, h, hp, rfl⟩ := h
 exact ⟨hp, X.fn h⟩
structure RQ {S : Type} (keep : List Nat) (kv : S -> List (Nat × V)) (J : S -> Lo -> Hp -> Prop) (μ : S -> Nat) (m : Nat) (Q : R -> Prop) (r : R) : Prop where
 un : (∃ tm' lo' hp' s', r = .norm ⟨tm', lo', hp'⟩ /\ keep.map (fun x => (x, tm' x)) = kv s' /\ J s' lo' hp' /\ μ s' < m) \/ ((∀ st, r ≠ .norm st) /\ Q r)
section
variable {S : Type} {keep : List Nat} {kv : S -> List (Nat × V)} {J : S -> Lo -> Hp -> Prop} {μ : S -> Nat} {m : Nat}
theorem EvQ.go (s' : S) (h1 : keep.map (fun x => (x, tm x)) = kv s') (h2 : J s' lo hp) (h3 : μ s' < m) : EvQ F (.done (.norm ⟨tm, lo, hp⟩)) (RQ keep kv J μ m Q) := .done ⟨.inl ⟨_, _, _, s', rfl, h1, h2, h3⟩⟩
theorem EvQ.xt {i : Nat} {st : St} (q : Q (.exit i st)) : EvQ F (.done (.exit i st)) (RQ keep kv J μ m Q) := .done ⟨.inr ⟨no_exit, q⟩⟩
theorem EvQ.rt {st : St} (q : Q (.ret st)) : EvQ F (.done (.ret st)) (RQ keep kv J μ m Q) := .done ⟨.inr ⟨no_ret, q⟩⟩
end
theorem EvL.invQ {S : Type} {keep drop : List Nat} {c : C} (kv : S -> List (Nat × V)) (J : S -> Lo -> Hp -> Prop) (μ : S -> Nat) (Q : R -> Prop)
  (hstep : ∀ s lo hp, J s lo hp -> EvQ F (c.run ⟨tmOf (kv s), shed drop lo, hp⟩ .done) (RQ keep kv J μ (μ s) Q)) :
  ∀ s tm lo hp, J s lo hp -> keep.map (fun x => (x, tm x)) = kv s -> ∃ r, EvL F keep drop (lpB c) ⟨tm, lo, hp⟩ r /\ Q r := by
 refine EvL.inv kv J μ Q fun s lo hp hJ => ?_
 obtain ⟨r, h, ⟨⟨tm', lo', hp', s', rfl, h1, h2, h3⟩ | ⟨h1, h2⟩⟩⟩ := hstep s lo hp hJ
 ·exact .inl ⟨tm', lo', hp', s', X.lpb h, h1, h2, h3⟩
 ·exact .inr ⟨r, X.lpb h, h1, h2⟩
end
def upds : List (Nat × V) -> Tm -> Tm
 | [], tm => tm
 | (d, v) :: l, tm => upd (upds l tm) d v
theorem upds_self : ∀ (l : List (Nat × V)) {tm : Tm}, l.map (fun x => (x.1, tm x.1)) = l -> upds l tm = tm
 | [], _, _ => rfl
 | (d, v) :: l, tm, h => by
  simp only [List.map_cons, List.cons.injEq, Prod.mk.injEq, true_and] at h
  unfold upds
  rw [upds_self l h.2, upd_self h.1]
structure XtQ (i : Nat) (l : List (Nat × V)) (P : Lo -> Hp -> Prop) (r : R) : Prop where
 un : ∃ tm lo hp, r = .exit i ⟨upds l tm, lo, hp⟩ /\ P lo hp
structure RtQ (l : List (Nat × V)) (P : Lo -> Hp -> Prop) (r : R) : Prop where
 un : ∃ tm lo hp, r = .ret ⟨upds l tm, lo, hp⟩ /\ P lo hp
theorem XtQ.mk' {i : Nat} {l : List (Nat × V)} {P : Lo -> Hp -> Prop} {tm : Tm} {lo : Lo} {hp : Hp} (h : l.map (fun x => (x.1, tm x.1)) = l) (p : P lo hp) : XtQ i l P (.exit i ⟨tm, lo, hp⟩) := ⟨tm, lo, hp, by rw [upds_self l h], p⟩
theorem RtQ.mk' {l : List (Nat × V)} {P : Lo -> Hp -> Prop} {tm : Tm} {lo : Lo} {hp : Hp} (h : l.map (fun x => (x.1, tm x.1)) = l) (p : P lo hp) : RtQ l P (.ret ⟨tm, lo, hp⟩) := ⟨tm, lo, hp, by rw [upds_self l h], p⟩
end Ev
namespace Ev
variable [Glob]
open Go
theorem take_getD {α : Type} {l : List α} {i : Nat} (h : i < l.length) (d : α) : l.take (i + 1) = l.take i ++ [l.getD i d] := by
 rw [List.take_succ_eq_append_getElem h]; simp [List.getD, h]
abbrev f0 : Fld := ([], [])
theorem fds_getD' {l : List Fld} {i : Nat} (h : i < l.length) : (fds l).getD i [] = fd (l.getD i f0) := by rw [fds_getD h]; simp [List.getD, h]
def txs (l : List (List Nat)) : List (List V) := l.map fun s => [.st s]
theorem txs_length (l : List (List Nat)) : (txs l).length = l.length := by simp [txs]
theorem txs_getD' {l : List (List Nat)} {i : Nat} (h : i < l.length) : (txs l).getD i [] = [.st (l.getD i [])] := by simp [txs, List.getD, h]
theorem sdq : (∀ l : List Fld, (fds l).length = l.length) /\ (∀ l : List (List Nat), (txs l).length = l.length) := ⟨fds_length, txs_length⟩
theorem X.sq {p : Prop} (h : p := by first | rfl | assumption | omega | exact nlb rfl | (simp (disch := omega) only [sd, sb, sdq, Bool.not_true, Bool.not_false] <;> first | omega | assumption) | (simp (disch := omega) [sd, sdq] <;> omega)) : p := h
theorem X.gq {p : Prop} (h : p := by first | assumption | exact bs_getD X.s | exact fds_getD' X.sq | exact txs_getD' X.sq | rfl) : p := h
theorem any_cons {v : V} {xs : List V} (h : isLp v = false) (h' : xs.any isLp = false) : (v :: xs).any isLp = false := by rw [List.any_cons, h, h']; rfl
theorem X.al {xs : List V} (h : xs.any isLp = false := by (first | rfl | (repeat (first | rfl | refine any_cons X.l2 ?_))); all_goals fail) : xs.any isLp = false := h
theorem X.cq {ts : List PT} {vs : List V} {hp : Hp} {ws : List V} {hp' : Hp} (h : ClP ts vs hp ws hp' := by (repeat (first | exact ClP.nil _ | apply ClP.s (clo_it _ _) | apply ClP.s (clo_st _) | apply ClP.s (clo_bo _) | apply ClP.s (clo_vs [.one] _) | apply ClP.s (clo_vs [.one, .one] _) | apply ClP.c (by assumption) | apply ClP.s2 (clo_ns _) | apply ClP.gs (fd_clo _) | apply ClP.gs (by assumption))); all_goals fail) : ClP ts vs hp ws hp' := h
theorem X.lq {p : Prop} (h : p := by first | exact congrArg some (fds_length _) | exact congrArg some (txs_length _) | rfl | assumption) : p := h
section
variable {F : Nat -> Option Ev.Fn} {R : R} {k : Ev.R -> D} {clr : List Nat} {tm : Tm} {lo : Lo} {hp : Hp} {r : List DOp} {us : List Nat} {g : Option (Nat × Bool)} {d : Nat}
end
end Ev
namespace Ev
variable [Glob]
open Go
section
variable {F : Nat -> Option Ev.Fn} {R : R} {k : Ev.R -> D} {clr : List Nat} {tm : Tm} {lo : Lo} {hp : Hp} {r : List DOp} {us : List Nat} {g : Option (Nat × Bool)} {d : Nat}
theorem X.addN {q : Qk} {x y : A} {a b : Nat} (hx : get tm x = .it .i64 (Int.ofNat a)) (hy : get tm y = .it .i64 (Int.ofNat b)) (h : a + b <= 1000000000000) (nx : EvD F (evLs clr r ⟨upd tm d (.it .i64 (Int.ofNat (a + b))), lo, hp⟩ k) R) :
  EvD F (evLs clr (⟨some d, g, us, .bin q .add x y⟩ :: r) ⟨tm, lo, hp⟩ k) R := by
 have e : evLs clr (⟨some d, g, us, .bin q .add x y⟩ :: r) ⟨tm, lo, hp⟩ k = binD hp q .add (get tm x) (get tm y) fun v => forceV (fun v => evLs clr r ⟨upd tm d v, lo, hp⟩ k) v := rfl
 rw [e, hx, hy]
 show EvD F (evLs clr r ⟨upd tm d (.it .i64 (wr .i64 (Int.ofNat a + Int.ofNat b))), lo, hp⟩ k) R
 have e2 : (Int.ofNat a + Int.ofNat b : Int) = Int.ofNat (a + b) := rfl
 rw [e2, wr64 (by simp; omega) (by simp; omega)]; exact nx
end
end Ev
namespace Ev
variable [Glob]
open Go
theorem X.hq {p : Prop} (h : p := by first | assumption | rfl | (simp only [hgs, if_true]; rfl) | (simp only [hgs]; (repeat (first | rw [if_pos (by omega)] | rw [if_neg (by omega)])); first | rfl | assumption) | (refine (oah_get ?_ ?_).trans ?_ <;> first | assumption | omega) | (refine (gah_get ?_ ?_).trans ?_ <;> first | assumption | omega)) : p := h
theorem h0_next : h0.next = 0 := rfl
theorem X.hn {a b : Nat} (h : a = b := by first | ((conv => lhs; simp only [hgs, h0_next, Nat.zero_add, Nat.reduceAdd]); all_goals fail) | rfl) : a = b := h
theorem X.hl {p : Prop} (h : p := by first | rfl | assumption | omega | exact nlb rfl | (simp only [hgs, hnew_lim, hset_lim, oah_lim, gah_lim]; first | omega | assumption)) : p := h
section
variable {F : Nat -> Option Ev.Fn} {Q Q' : R -> Prop} {k : Ev.R -> D} {clr : List Nat} {tm : Tm} {lo : Lo} {hp : Hp} {r : List DOp} {us : List Nat} {g : Option (Nat × Bool)} {d : Nat}
structure RwQ (P : V -> Hp -> Prop) (r : R) : Prop where
 un : ∃ v hp', r = Rt v hp' /\ P v hp'
theorem EvC.ofQ {own : Bool} {f : Nat} (dd : DFn) {xs : List V} {P : V -> Hp -> Prop} (h1 : F f = some dd.den) (h2 : dd.md = .rw) (h3 : Nat.beq xs.length dd.ps.length = true) (h4 : EvQ F (dd.body.run ⟨argT xs, fun _ => none, hp⟩ (fK dd)) (RwQ P)) :
  ∃ v hp', EvC F own f xs hp (.ret v hp') /\ P v hp' := by
 obtain ⟨r, h, ⟨v, hp', rfl, e⟩⟩ := h4
 refine ⟨v, hp', EvC.rw (r := Rt v hp') h1 h2 h3 ?_ rfl, e⟩
 have := X.fn h
 rw [stepD_eq] at this
 exact this
theorem EvQ.call {own : Bool} {md : Md} {f : Nat} {xs : List A} {ys : List V} {P : V -> Hp -> Prop} (hx : xs.map (get tm) = ys) (hl : ys.any isLp = false) (h : ∃ v hp', EvC F own f ys hp (.ret v hp') /\ P v hp')
  (n : ∀ v hp', P v hp' -> EvQ F (evLs clr r ⟨upd tm d v, lo, hp'⟩ k) Q) : EvQ F (evLs clr (⟨some d, g, [], .call own md f xs⟩ :: r) ⟨tm, lo, hp⟩ k) Q := by
 obtain ⟨v, hp', h1, h2⟩ := h
 exact (n v hp' h2).lift fun R n => X.call hx hl h1 n
end
structure Up (n : Nat) (hp hp' : Hp) : Prop where
 next : hp.next <= hp'.next
 lim : hp'.lim = hp.lim
 get : ∀ j, j < n -> hget hp' j = hget hp j
theorem Up.refl (n : Nat) (hp : Hp) : Up n hp hp := ⟨Nat.le_refl _, rfl, fun _ _ => rfl⟩
theorem Up.trans {n : Nat} {a b c : Hp} (h : Up n a b) (h' : Up n b c) : Up n a c := ⟨Nat.le_trans h.next h'.next, h'.lim.trans h.lim, fun j hj => (h'.get j hj).trans (h.get j hj)⟩
theorem Up.mono {m n : Nat} {a b : Hp} (h : Up n a b) (hm : m <= n) : Up m a b := ⟨h.next, h.lim, fun j hj => h.get j (by omega)⟩
theorem Up.new {n : Nat} (hp : Hp) (b : Bk) (h : n <= hp.next) : Up n hp (hnew hp b) := ⟨by rw [hnew_next]; omega, rfl, fun j hj => hget_old (by omega)⟩
theorem Up.set {n : Nat} (hp : Hp) (id : Nat) (b : Option Bk) (h : n <= id) : Up n hp (hset hp id b) := ⟨Nat.le_refl _, rfl, fun j hj => hget_other (by omega)⟩
end Ev
namespace Ev
variable [Glob]
open Go
theorem res_tmp {st : St} {t : Nat} {r : List Rv} {K : List V -> D} (h : isLp (st.tm t) = false) : resultsD st (.tmp t :: r) K = resultsD st r (fun s => K (st.tm t :: s)) := by
 show (notLpD (st.tm t) fun v => resultsD st r fun s => K (v :: s)) = _
 generalize st.tm t = v at h
 cases v <;> first | rfl | cases h
theorem X.rs {st : St} {l : List Rv} {vs : List V} (h : ∀ K : List V -> D, resultsD st l K = K vs := by (first | exact fun _ => rfl | (intro K; repeat (first | rfl | refine (res_tmp X.l2).trans ?_))); all_goals fail) : ∀ K : List V -> D, resultsD st l K = K vs := h
end Ev
namespace Ev
variable [Glob]
open Go
section
variable {F : Nat -> Option Ev.Fn} {R : R} {k : Ev.R -> D} {clr : List Nat} {tm : Tm} {lo : Lo} {hp : Hp} {r : List DOp} {us : List Nat} {g : Option (Nat × Bool)} {d : Nat}
end
end Ev
namespace Ev
variable [Glob]
open Go
section
variable {F : Nat -> Option Ev.Fn} {R : R} {k : Ev.R -> D} {clr : List Nat} {tm : Tm} {lo : Lo} {hp : Hp} {r : List DOp} {us : List Nat} {g : Option (Nat × Bool)} {d : Nat}
end
end Ev
namespace Ev
variable [Glob]
open Go
section
variable {F : Nat -> Option Ev.Fn} {R : R} {k : Ev.R -> D} {clr : List Nat} {tm : Tm} {lo : Lo} {hp : Hp} {r : List DOp} {us : List Nat} {g : Option (Nat × Bool)} {d : Nat} {i : I} {v : V} {b1 : Bool}
theorem kp_cons {v : V} {xs : List V} (h : v.keep = true) (h' : xs.all V.keep = true) : (v :: xs).all V.keep = true := by rw [List.all_cons, h, h']; rfl
theorem X.kp {p : Prop} (h : p := by (repeat (first | rfl | refine kp_cons (by first | rfl | assumption) ?_)); all_goals fail) : p := h
theorem X.stl1 {a x : A} {v : V} {t off : Nat} {cs : List V} (hx : get tm x = v) (ha : get tm a = .lp t off) (hl : lo t = some cs) (hc : v.cells = [v]) (hk : v.keep = true) (h3 : fresh us tm t = true)
  (h4 : Nat.ble (off + 1) cs.length = true) {cs' : List V} (hcs : over off [v] cs = cs') (nx : EvD F (evLs clr r ⟨tm, lset lo t cs', hp⟩ k) R) : EvD F (evLs clr (⟨none, g, us, .sto 1 a x⟩ :: r) ⟨tm, lo, hp⟩ k) R := by
 refine X.stl hx ha hl ?_ ?_ h3 ?_ ?_ nx
 ·rw [hc]; rfl
 ·rw [hc]; simp [hk]
 ·rw [hc]; exact h4
 ·rw [hc]; exact hcs
theorem Up.oah {n : Nat} {a hp : Hp} {v : V} {sz : Nat} {rows : List (List V)} (h : Up n a hp) (hn : n <= hp.next) (hv : ∀ id, idOf v = some id -> n <= id) : Up n a (Ev.oah hp v sz rows) :=
 ⟨by rw [oah_next]; have := h.next; omega, by rw [oah_lim]; exact h.lim, fun j hj => by
  rw [oah_get (by intro e; have := hv _ e; omega) (by omega)]; exact h.get j hj⟩
theorem Ow.up {hp hp' : Hp} {v : V} {sz n : Nat} {rows : List (List V)} (h : Ow hp v sz rows) (u : Up n hp hp') (hv : ∀ id, idOf v = some id -> id < n) : Ow hp' v sz rows :=
 h.get u.next u.lim fun id hid => u.get id (hv id hid)
theorem Sl.lt {hp : Hp} {v : V} {sz : Nat} {rows : List (List V)} (h : Sl hp v sz rows) : ∀ id, idOf v = some id -> id < hp.next := by
 intro id e
 rcases h with ⟨rfl, _⟩ | rfl | ⟨_, _, _, _, rfl, q, _⟩
 ·cases e
 ·cases e
 ·cases e; exact q
theorem Ow.lt {hp : Hp} {v : V} {sz : Nat} {rows : List (List V)} (h : Ow hp v sz rows) : ∀ id, idOf v = some id -> id < hp.next := h.sl.lt
end
end Ev
namespace Ev
variable [Glob]
open Go
def Rd (hp : Hp) (v : V) (sz : Nat) (rows : List (List V)) : Prop :=
 (v = .ns /\ rows = []) \/ v = .vs sz rows \/
 ∃ id i fr all, v = .hs id i rows.length /\ id < hp.next /\ hget hp id = some ⟨sz, fr, all⟩ /\ i + rows.length <= all.length /\ (all.drop i).take rows.length = rows
section
variable {hp hp' : Hp} {v : V} {sz : Nat} {rows : List (List V)}
theorem Sl.rd (h : Sl hp v sz rows) : Rd hp v sz rows := by
 rcases h with h | h | ⟨id, i, fr, all, rfl, q1, q2, q3, q4, q5⟩
 ·exact .inl h
 ·exact .inr (.inl h)
 ·exact .inr (.inr ⟨id, i, fr, all, rfl, q1, q3, q4, q5⟩)
theorem Rd.get (h : Rd hp v sz rows) (h1 : hp.next <= hp'.next) (h3 : ∀ id b, idOf v = some id -> hget hp id = some b -> hget hp' id = some b) : Rd hp' v sz rows := by
 rcases h with h | h | ⟨id, i, fr, all, rfl, q1, q3, q4, q5⟩
 ·exact .inl h
 ·exact .inr (.inl h)
 ·exact .inr (.inr ⟨id, i, fr, all, rfl, by omega, h3 id _ rfl q3, q4, q5⟩)
end
section
variable {F : Nat -> Option Ev.Fn} {R : R} {k : Ev.R -> D} {clr : List Nat} {tm : Tm} {lo : Lo} {hp : Hp} {r : List DOp} {us : List Nat} {g : Option (Nat × Bool)} {d : Nat} {v vy : V} {sz bytes : Nat} {rows new : List (List V)} {x y : A}
theorem X.iaR {ix : A} {kk : IntKind} {j : Nat} (hx : get tm x = v) (hB : Rd hp v sz rows) (hi : get tm ix = .it kk (Int.ofNat j)) (hj : j < rows.length)
  (nx : EvD F (evLs clr r ⟨upd tm d (pwo v j 0), lo, hp⟩ k) R) : EvD F (evLs clr (⟨some d, g, us, .ias sz x ix⟩ :: r) ⟨tm, lo, hp⟩ k) R := by
 rcases hB with ⟨rfl, rfl⟩ | rfl | ⟨id, i, fr, all, rfl, q1, q3, q4, q5⟩
 ·simp at hj
 ·exact X.iav hx hi hj rfl nx
 ·exact X.iah hx hi q3 rfl hj nx
theorem X.ldR {n j off : Nat} {q : Bool} {a : A} {row : List V} {w : V} (ha : get tm a = pwo v j off) (hB : Rd hp v sz rows) (hj : j < rows.length) (hr : rows.getD j [] = row) (h4 : off + n <= row.length) (hw : pickC n q ((row.drop off).take n) = some w)
  (nx : EvD F (evLs clr r ⟨upd tm d w, lo, hp⟩ k) R) : EvD F (evLs clr (⟨some d, g, us, .ld n q a⟩ :: r) ⟨tm, lo, hp⟩ k) R := by
 subst hr
 rcases hB with ⟨rfl, rfl⟩ | rfl | ⟨id, i, fr, all, rfl, q1, q3, q4, q5⟩
 ·simp at hj
 ·exact X.ldS (off := off) ha (Sl.vs (hp := hp)) hj rfl h4 hw nx
 ·have e : rows.getD j [] = all.getD (i + j) [] := by
   have : rows[j]? = all[i + j]? := by
    conv => lhs; rw [<- q5]
    rw [List.getElem?_take_of_lt hj, List.getElem?_drop]
   simp only [List.getD, this]
  rw [e] at hw h4
  exact X.ldp ha q3 (by show i + j < all.length; omega) rfl h4 hw nx
end
end Ev
namespace Ev
variable [Glob]
open Go
theorem X.rd {hp : Hp} {v : V} {sz : Nat} {rows : List (List V)} (h : Rd hp v sz rows := by first | assumption | exact Sl.rd (by assumption) | exact Sl.rd (Ow.sl (by assumption))) : Rd hp v sz rows := h
section
variable {F : Nat -> Option Ev.Fn} {R : R} {k : Ev.R -> D} {clr : List Nat} {tm : Tm} {lo : Lo} {hp : Hp} {r : List DOp} {us : List Nat} {g : Option (Nat × Bool)} {d : Nat} {v : V} {sz : Nat} {rows : List (List V)}
end
end Ev
namespace Ev
variable [Glob]
theorem shed_none {drop : List Nat} : shed drop (fun _ => none) = fun _ => none := by
 funext t; unfold shed; cases hasN drop t <;> rfl
theorem shed_dup {drop : List Nat} {lo : Lo} {d : Nat} {a b : List V} : shed drop (lset (lset lo d a) d b) = shed drop (lset lo d b) := by
 funext t; unfold shed lset; cases Nat.beq t d <;> rfl
theorem shed_hit {drop : List Nat} {lo : Lo} {d : Nat} {a : List V} (h : hasN drop d = true) : shed drop (lset lo d a) = shed drop lo := by
 funext t; unfold shed lset
 cases q : Nat.beq t d with
 | false => rfl
 | true => rw [Nat.eq_of_beq_eq_true q, h]; rfl
theorem shed_cong {drop : List Nat} {lo lo' : Lo} {d : Nat} {a b : List V} (h : hasN drop d = false) (h' : shed drop lo = lo') (e : a = b) : shed drop (lset lo d a) = lset lo' d b := by
 subst h'; subst e
 funext t; unfold shed lset
 cases q : Nat.beq t d with
 | false => rfl
 | true => rw [Nat.eq_of_beq_eq_true q, h]; rfl
theorem X.lo {a b : Lo} (h : a = b := by (repeat (first | rfl | exact shed_none | refine (shed_dup).trans ?_ | refine (shed_hit (by rfl)).trans ?_ | refine shed_cong (by rfl) ?_ (by rfl))); all_goals fail) : a = b := h
end Ev
namespace Ev
variable [Glob]
open Go
section
variable {F : Nat -> Option Ev.Fn} {R : R} {k : Ev.R -> D} {clr : List Nat} {tm : Tm} {lo : Lo} {hp : Hp} {r : List DOp} {us : List Nat} {g : Option (Nat × Bool)} {d : Nat}
theorem X.stp1 {a x : A} {v : V} {id j off : Nat} {b : Bk} {row : List V} (hx : get tm x = v) (ha : get tm a = .pt id j off) (hg : hget hp id = some b) (hfr : b.fr = false) (hlim : hp.lim <= id) (hc : v.cells = [v]) (hk : v.keep = true) (h3 : freshH us tm id = true)
  (hj : j < b.es.length) (hrow : b.es.getD j [] = row) (h4 : off + 1 <= row.length) (nx : EvD F (evLs clr r ⟨tm, lo, hset hp id (some ⟨b.sz, false, b.es.set j (over off [v] row)⟩)⟩ k) R) :
  EvD F (evLs clr (⟨none, g, us, .sto 1 a x⟩ :: r) ⟨tm, lo, hp⟩ k) R := by
 refine X.stp hx ha hg hfr hlim ?_ ?_ h3 hj hrow ?_ ?_
 ·rw [hc]; rfl
 ·rw [hc]; simp [hk]
 ·rw [hc]; exact h4
 ·rw [hc]; exact nx
end
end Ev
namespace Ev
variable [Glob]
open Go
section
variable {F : Nat -> Option Ev.Fn} {R : R} {k : Ev.R -> D} {clr : List Nat} {tm : Tm} {lo : Lo} {hp : Hp} {r : List DOp} {us : List Nat} {g : Option (Nat × Bool)} {d : Nat}
end
end Ev
namespace Ev
variable [Glob]
open Go
theorem X.run {F : Nat -> Option Ev.Fn} {d d1 : D} {R : R} (n : EvD F d1 R) (f : EvD F d1 R -> EvD F d R := by
  intro n
  repeat (first
   | refine X.lpb ?_
   | refine X.seq ?_
   | refine X.skip ?_
   | refine X.ret ?_
   | refine X.exit ?_
   | refine X.blk ?_
   | refine X.sn ?_
   | refine X.se ?_
   | refine X.sr ?_
   | refine X.bn ?_
   | refine X.br ?_
   | refine X.bh ?_
   | refine X.bm rfl ?_
   | refine X.pn ?_
   | refine X.gn ?_
   | refine X.g0 ?_
   | refine X.ln ?_
   | refine X.finn ?_
   | refine X.reg0 X.r ?_
   | refine X.reg1 X.r ?_
   | refine X.gt rfl ?_
   | refine X.orr X.w X.w ?_
   | refine X.andr X.w X.w ?_
   | refine X.shl X.w X.w X.r ?_
   | (refine X.iaE X.w (by assumption) rfl ?_ ?_; · exact X.s)
   | (refine X.ldE rfl (by assumption) ?_ ?_; · exact X.s)
   | (refine X.iaS X.w (by assumption) rfl ?_ ?_; · exact X.s)
   | (refine X.ldS (off := 0) rfl (by assumption) ?_ X.g ?_ rfl ?_; iterate 2 (· exact X.s))
   | refine X.bsv1 X.w ?_
   | (refine X.ixsV X.w X.w (by assumption) ?_ ?_; · exact X.s)
   | (refine X.ixsE X.w X.w ?_ ?_; · exact X.s)
   | refine X.s2b X.w X.w ?_
   | refine X.bsl1 X.w rfl rfl rfl X.w ?_
   | (refine X.iav X.w X.w ?_ X.g ?_; · exact X.s)
   | refine X.o0 (fun _ _ => rfl) ?_
   | (refine X.o1 (fun _ _ => rfl) ?_ ?_; · exact X.s)
   | (refine X.o2 (fun _ _ => rfl) ?_ ?_ ?_; iterate 2 (· exact X.s))
   | (refine X.o3 (fun _ _ => rfl) ?_ ?_ ?_ ?_; iterate 3 (· exact X.s))
   | refine X.pickT rfl (fun _ => rfl) ?_
   | refine X.pickF rfl (fun _ => rfl) ?_
   | refine X.condT rfl ?_
   | refine X.condF rfl ?_
   | refine X.g1T rfl ?_
   | refine X.g1F rfl ?_
   | refine X.alc X.fr ?_
   | refine X.box X.w rfl rfl ?_
   | refine X.stl X.w rfl rfl rfl rfl rfl rfl rfl ?_
   | (refine X.apf X.w X.w X.e X.h rfl rfl ?_ ?_ X.w ?_; iterate 2 (· exact X.s))
   | refine X.bsl rfl X.w ?_
   | refine X.alh X.w ?_
   | refine X.bxh X.w rfl X.w ?_
   | (refine X.mks X.w X.w ?_ ?_ ?_ (by decide) X.w X.wi ?_; iterate 3 (· exact X.s))
   | (refine X.cpy X.w X.w (elems_vs _) X.a rfl rfl ?_ ?_ ?_; iterate 2 (· exact X.s))
   | (refine X.iah X.w X.w X.a rfl ?_ ?_; · exact X.s)
   | (refine X.stp X.w X.w X.a rfl X.li rfl rfl rfl ?_ X.g ?_ ?_; iterate 2 (· exact X.s))
   | (refine X.ldp X.w X.a ?_ X.g ?_ rfl ?_; iterate 2 (· exact X.s))
   | refine X.len X.w X.ra ?_
   | ((first | refine X.condTs rfl ?_ ?_ | refine X.g1Ts rfl ?_ ?_ | refine X.pickTs rfl ?_ (fun _ => rfl) ?_); · exact X.s)
   | ((first | refine X.condFs rfl ?_ ?_ | refine X.g1Fs rfl ?_ ?_ | refine X.pickFs rfl ?_ (fun _ => rfl) ?_); · exact X.s)
   | refine X.ext X.w rfl X.ra ?_
   | refine X.mov X.w X.l2 ?_)
  exact n) : EvD F d R := f n
theorem EvQ.run {F : Nat -> Option Ev.Fn} {d d' : D} {Q : R -> Prop} (h : EvQ F d' Q) (f : ∀ R, EvD F d' R -> EvD F d R := by
  intro R n
  (first
   | refine X.lpb ?_
   | refine X.seq ?_
   | refine X.skip ?_
   | refine X.ret ?_
   | refine X.exit ?_
   | refine X.blk ?_
   | refine X.sn ?_
   | refine X.se ?_
   | refine X.sr ?_
   | refine X.bn ?_
   | refine X.br ?_
   | refine X.bh ?_
   | refine X.bm rfl ?_
   | refine X.pn ?_
   | refine X.gn ?_
   | refine X.g0 ?_
   | refine X.ln ?_
   | refine X.finn ?_
   | refine X.reg0 X.r ?_
   | refine X.reg1 X.r ?_
   | refine X.gt rfl ?_
   | refine X.orr X.w X.w ?_
   | refine X.andr X.w X.w ?_
   | refine X.shl X.w X.w X.r ?_
   | (refine X.iaE X.w (by assumption) rfl ?_ ?_; · exact X.sq)
   | (refine X.ldE rfl (by assumption) ?_ ?_; · exact X.sq)
   | (refine X.iaR X.w (by assumption) rfl ?_ ?_; · exact X.sq)
   | (refine X.ldR (off := 0) rfl (by assumption) ?_ X.gq ?_ rfl ?_; iterate 2 (· exact X.sq))
   | (refine X.fadR rfl X.rd ?_ X.gq ?_ ?_; iterate 2 (· exact X.sq))
   | (refine X.ldR rfl X.rd ?_ X.gq ?_ rfl ?_; iterate 2 (· exact X.sq))
   | (refine X.slS1 X.w X.w ?_ ?_; · exact X.sq)
   | (refine X.slS2 X.w X.w ?_ ?_; · exact X.sq)
   | (refine X.slS3 X.w X.w X.w ?_ ?_ ?_; iterate 2 (· exact X.sq))
   | (refine X.slF1 X.w X.w ?_ ?_; · exact X.sq)
   | (refine X.slF2 X.w X.w ?_ ?_; · exact X.sq)
   | (refine X.addN X.w X.w ?_ ?_; · exact X.sq)
   | (refine X.subN X.w X.w ?_ ?_; · exact X.sq)
   | refine X.len X.w X.lq ?_
   | (refine X.apo X.w X.w (by assumption) X.e (List.cons_ne_nil _ _) (fun _ => rfl) ?_ ?_; · exact X.sq)
   | (refine X.apg X.w X.w (by assumption) X.e (fun _ => rfl) ?_ ?_; · exact X.sq)
   | (refine X.iaS X.w (by assumption) rfl ?_ ?_; · exact X.sq)
   | (refine X.ldS (off := 0) rfl (by assumption) ?_ X.gq ?_ rfl ?_; iterate 2 (· exact X.sq))
   | refine X.bsv1 X.w ?_
   | (refine X.ixsV X.w X.w (by assumption) ?_ ?_; · exact X.sq)
   | (refine X.ixsE X.w X.w ?_ ?_; · exact X.sq)
   | refine X.s2b X.w X.hn ?_
   | refine X.bsl1 X.w rfl rfl rfl X.hn ?_
   | (refine X.iav X.w X.w ?_ X.gq ?_; · exact X.sq)
   | refine X.o0 (fun _ _ => rfl) ?_
   | (refine X.o1 (fun _ _ => rfl) ?_ ?_; · exact X.sq)
   | (refine X.o2 (fun _ _ => rfl) ?_ ?_ ?_; iterate 2 (· exact X.sq))
   | (refine X.o3 (fun _ _ => rfl) ?_ ?_ ?_ ?_; iterate 3 (· exact X.sq))
   | refine X.pickT rfl (fun _ => rfl) ?_
   | refine X.pickF rfl (fun _ => rfl) ?_
   | refine X.condT rfl ?_
   | refine X.condF rfl ?_
   | refine X.g1T rfl ?_
   | refine X.g1F rfl ?_
   | refine X.alc X.fr ?_
   | refine X.box X.w rfl rfl ?_
   | refine X.stl X.w rfl rfl rfl rfl rfl rfl rfl ?_
   | (refine X.apf X.w X.w X.e X.hq rfl rfl ?_ ?_ X.hn ?_; iterate 2 (· exact X.sq))
   | refine X.bsl rfl X.hn ?_
   | refine X.alh X.hn ?_
   | refine X.bxh X.w rfl X.hn ?_
   | (refine X.mks X.w X.w ?_ ?_ ?_ (by decide) X.hn X.wi ?_; iterate 3 (· exact X.sq))
   | (refine X.cpy X.w X.w (elems_vs _) X.hq rfl rfl ?_ ?_ ?_; iterate 2 (· exact X.sq))
   | (refine X.iah X.w X.w X.hq rfl ?_ ?_; · exact X.sq)
   | (refine X.stp X.w X.w X.hq rfl X.hl rfl rfl rfl ?_ X.gq ?_ ?_; iterate 2 (· exact X.sq))
   | (refine X.ldp X.w X.hq ?_ X.gq ?_ rfl ?_; iterate 2 (· exact X.sq))
   | refine X.len X.w X.lq ?_
   | ((first | refine X.condTs rfl ?_ ?_ | refine X.g1Ts rfl ?_ ?_ | refine X.pickTs rfl ?_ (fun _ => rfl) ?_); · exact X.sq)
   | ((first | refine X.condFs rfl ?_ ?_ | refine X.g1Fs rfl ?_ ?_ | refine X.pickFs rfl ?_ (fun _ => rfl) ?_); · exact X.sq)
   | refine X.ext X.w rfl X.ra ?_
   | refine X.mov X.w X.l2 ?_
   | refine X.bldq X.fl ?_
   | refine X.q0 (fun _ _ => rfl) ?_
   | (refine X.q1 (fun _ _ => rfl) ?_ ?_; · exact X.sq)
   | refine X.box X.w X.kp rfl ?_
   | refine X.stl X.w rfl rfl rfl X.kp rfl rfl rfl ?_
   | refine X.stl1 X.w rfl rfl (by assumption) (by assumption) rfl rfl rfl ?_
   | (refine X.stp1 X.w X.w X.hq rfl X.hl (by assumption) (by assumption) rfl ?_ X.gq ?_ ?_; iterate 2 (· exact X.sq)))
  repeat (first
   | refine X.lpb ?_
   | refine X.seq ?_
   | refine X.skip ?_
   | refine X.ret ?_
   | refine X.exit ?_
   | refine X.blk ?_
   | refine X.sn ?_
   | refine X.se ?_
   | refine X.sr ?_
   | refine X.bn ?_
   | refine X.br ?_
   | refine X.bh ?_
   | refine X.bm rfl ?_
   | refine X.pn ?_
   | refine X.gn ?_
   | refine X.g0 ?_
   | refine X.ln ?_
   | refine X.finn ?_
   | refine X.reg0 X.r ?_
   | refine X.reg1 X.r ?_
   | refine X.gt rfl ?_
   | refine X.orr X.w X.w ?_
   | refine X.andr X.w X.w ?_
   | refine X.shl X.w X.w X.r ?_
   | (refine X.iaE X.w (by assumption) rfl ?_ ?_; · exact X.sq)
   | (refine X.ldE rfl (by assumption) ?_ ?_; · exact X.sq)
   | (refine X.iaR X.w (by assumption) rfl ?_ ?_; · exact X.sq)
   | (refine X.ldR (off := 0) rfl (by assumption) ?_ X.gq ?_ rfl ?_; iterate 2 (· exact X.sq))
   | (refine X.fadR rfl X.rd ?_ X.gq ?_ ?_; iterate 2 (· exact X.sq))
   | (refine X.ldR rfl X.rd ?_ X.gq ?_ rfl ?_; iterate 2 (· exact X.sq))
   | (refine X.slS1 X.w X.w ?_ ?_; · exact X.sq)
   | (refine X.slS2 X.w X.w ?_ ?_; · exact X.sq)
   | (refine X.slS3 X.w X.w X.w ?_ ?_ ?_; iterate 2 (· exact X.sq))
   | (refine X.slF1 X.w X.w ?_ ?_; · exact X.sq)
   | (refine X.slF2 X.w X.w ?_ ?_; · exact X.sq)
   | (refine X.addN X.w X.w ?_ ?_; · exact X.sq)
   | (refine X.subN X.w X.w ?_ ?_; · exact X.sq)
   | refine X.len X.w X.lq ?_
   | (refine X.apo X.w X.w (by assumption) X.e (List.cons_ne_nil _ _) (fun _ => rfl) ?_ ?_; · exact X.sq)
   | (refine X.apg X.w X.w (by assumption) X.e (fun _ => rfl) ?_ ?_; · exact X.sq)
   | (refine X.iaS X.w (by assumption) rfl ?_ ?_; · exact X.sq)
   | (refine X.ldS (off := 0) rfl (by assumption) ?_ X.gq ?_ rfl ?_; iterate 2 (· exact X.sq))
   | refine X.bsv1 X.w ?_
   | (refine X.ixsV X.w X.w (by assumption) ?_ ?_; · exact X.sq)
   | (refine X.ixsE X.w X.w ?_ ?_; · exact X.sq)
   | refine X.s2b X.w X.hn ?_
   | refine X.bsl1 X.w rfl rfl rfl X.hn ?_
   | (refine X.iav X.w X.w ?_ X.gq ?_; · exact X.sq)
   | refine X.o0 (fun _ _ => rfl) ?_
   | (refine X.o1 (fun _ _ => rfl) ?_ ?_; · exact X.sq)
   | (refine X.o2 (fun _ _ => rfl) ?_ ?_ ?_; iterate 2 (· exact X.sq))
   | (refine X.o3 (fun _ _ => rfl) ?_ ?_ ?_ ?_; iterate 3 (· exact X.sq))
   | refine X.pickT rfl (fun _ => rfl) ?_
   | refine X.pickF rfl (fun _ => rfl) ?_
   | refine X.condT rfl ?_
   | refine X.condF rfl ?_
   | refine X.g1T rfl ?_
   | refine X.g1F rfl ?_
   | refine X.alc X.fr ?_
   | refine X.box X.w rfl rfl ?_
   | refine X.stl X.w rfl rfl rfl rfl rfl rfl rfl ?_
   | (refine X.apf X.w X.w X.e X.hq rfl rfl ?_ ?_ X.hn ?_; iterate 2 (· exact X.sq))
   | refine X.bsl rfl X.hn ?_
   | refine X.alh X.hn ?_
   | refine X.bxh X.w rfl X.hn ?_
   | (refine X.mks X.w X.w ?_ ?_ ?_ (by decide) X.hn X.wi ?_; iterate 3 (· exact X.sq))
   | (refine X.cpy X.w X.w (elems_vs _) X.hq rfl rfl ?_ ?_ ?_; iterate 2 (· exact X.sq))
   | (refine X.iah X.w X.w X.hq rfl ?_ ?_; · exact X.sq)
   | (refine X.stp X.w X.w X.hq rfl X.hl rfl rfl rfl ?_ X.gq ?_ ?_; iterate 2 (· exact X.sq))
   | (refine X.ldp X.w X.hq ?_ X.gq ?_ rfl ?_; iterate 2 (· exact X.sq))
   | refine X.len X.w X.lq ?_
   | ((first | refine X.condTs rfl ?_ ?_ | refine X.g1Ts rfl ?_ ?_ | refine X.pickTs rfl ?_ (fun _ => rfl) ?_); · exact X.sq)
   | ((first | refine X.condFs rfl ?_ ?_ | refine X.g1Fs rfl ?_ ?_ | refine X.pickFs rfl ?_ (fun _ => rfl) ?_); · exact X.sq)
   | refine X.ext X.w rfl X.ra ?_
   | refine X.mov X.w X.l2 ?_
   | refine X.bldq X.fl ?_
   | refine X.q0 (fun _ _ => rfl) ?_
   | (refine X.q1 (fun _ _ => rfl) ?_ ?_; · exact X.sq)
   | refine X.box X.w X.kp rfl ?_
   | refine X.stl X.w rfl rfl rfl X.kp rfl rfl rfl ?_
   | refine X.stl1 X.w rfl rfl (by assumption) (by assumption) rfl rfl rfl ?_
   | (refine X.stp1 X.w X.w X.hq rfl X.hl (by assumption) (by assumption) rfl ?_ X.gq ?_ ?_; iterate 2 (· exact X.sq)))
  exact n) : EvQ F d Q := h.lift f
theorem X.nm {p q : Prop} (h : p) (f : p -> q := by
  intro h
  (try simp only [sd, sb, Bool.not_true, Bool.not_false, Bool.not_not, Bool.and_eq_false_iff, Bool.or_eq_false_iff, Bool.not_eq_true, Bool.not_eq_false, Int.ofNat_lt, Int.ofNat_le, Int.ofNat_inj] at h)
  exact h) : q := f h
end Ev
namespace Ev
variable [Glob]
open Go
def isH0 : Hp -> Bool
 | ⟨0, 0, .e⟩ => true
 | _ => false
theorem isH0_eq {hp : Hp} (h : isH0 hp = true) : hp = h0 := by
 obtain ⟨a, b, c⟩ := hp
 unfold isH0 at h
 split at h
 ·rename_i e; exact e
 ·cases h
def memoFn (fn : Fn) (v : V) (h : Hp) : Fn := ⟨fn.ps, fn.rs, fn.md, [], fun st _ => bif isH0 st.hp then .done (.ret ⟨fun _ => v, fun _ => none, h⟩) else .bad⟩
variable {P : Program} {F : Nat -> Option Fn} {mds : Nat -> Md}
theorem memo_run {call : Call} {L : Nat} {fn : Fn} {v : V} {h : Hp} {xs : List V} {hp : Hp} (hn : fn.ps = []) : runF call L (memoFn fn v h) xs hp = .bad \/ (xs = [] /\ hp = h0 /\ runF call L (memoFn fn v h) xs hp = .ret v h) := by
 cases xs with
 | cons x xs =>
  left
  have : Nat.beq (x :: xs).length (memoFn fn v h).ps.length = false := by rw [show (memoFn fn v h).ps = [] from hn]; rfl
  unfold runF
  rw [this]; rfl
 | nil =>
  cases e : isH0 hp with
  | false => left; simp [runF, memoFn, hn, bodyD, e, run, crOf]
  | true => right; refine ⟨rfl, isH0_eq e, ?_⟩; simp [runF, memoFn, hn, bodyD, e, run, crOf]
theorem memo_ok (T : Table P F mds) {f : Nat} {fn : Fn} (hF : F f = some fn) (hn : fn.ps = []) {L n : Nat} {v : V} {h : Hp} (hr : runF (callF F L n) L fn [] h0 = .ret v h) : FnOK P mds f (memoFn fn v h) := by
 refine ⟨(T.fns f fn hF).1, .inr fun call L' _ xs cs g hp w hgl hh ha => ?_⟩
 rcases memo_run (call := call) (L := L') (v := v) (h := h) (xs := xs) (hp := hp) hn with e | ⟨rfl, rfl, e⟩
 ·rw [e]; trivial
 ·rw [e]
  obtain ⟨i1, i2⟩ := callF_ok (L := L) T n
  have := (T.run i1 i2 hF : RunOK P (callF F L n) L f fn) [] cs g h0 w hgl hh ha
  rw [hr] at this
  exact this
theorem Table.memo (T : Table P F mds) {F' : Nat -> Option Fn} (T' : Table P F' mds) {f : Nat} {fn : Fn} (hF : F f = some fn) (hn : fn.ps = []) {L n : Nat} {v : V} {h : Hp} (hr : runF (callF F L n) L fn [] h0 = .ret v h) :
  Table P (fun i => bif Nat.beq i f then some (memoFn fn v h) else F' i) mds := by
 refine ⟨T.mixed, fun i fn' hi => ?_⟩
 cases e : Nat.beq i f with
 | false => simp only [e, cond_false] at hi; exact T'.fns i fn' hi
 | true =>
  simp only [e, cond_true, Option.some.injEq] at hi
  subst hi
  rw [Nat.eq_of_beq_eq_true e]
  exact memo_ok T hF hn hr
theorem Table.put (T : Table P F mds) {f : Nat} {fn : Fn} (h : FnOK P mds f fn) : Table P (fun i => bif Nat.beq i f then some fn else F i) mds := by
 refine ⟨T.mixed, fun i fn' hi => ?_⟩
 cases e : Nat.beq i f with
 | false => simp only [e, cond_false] at hi; exact T.fns i fn' hi
 | true =>
  simp only [e, cond_true, Option.some.injEq] at hi
  subst hi
  rw [Nat.eq_of_beq_eq_true e]
  exact h
theorem bld_den {z cs : List V} {ps : List (Nat × Nat × A)} {qs : List (Nat × Nat × V)} (hp : ps = qs.map fun (o, n, v) => (o, n, .k v)) (h : fill qs z = some cs) : I.den (.bld z ps) = I.den (.mov (.k (.ag cs))) := by
 subst hp
 funext us ps d st k k'
 have e : ((qs.map fun (o, n, v) => (o, n, A.k v)).map fun (o, n, a) => (o, n, get st.tm a)) = qs := by
  rw [List.map_map]
  have : ((fun (x : Nat × Nat × A) => (x.1, x.2.1, get st.tm x.2.2)) ∘ fun (x : Nat × Nat × V) => (x.1, x.2.1, A.k x.2.2)) = id := by funext x; rfl
  exact (congrArg (fun f => qs.map f) this).trans (List.map_id qs)
 show oneD ((fill ((qs.map fun (o, n, v) => (o, n, A.k v)).map fun (o, n, a) => (o, n, get st.tm a)) z).map .ag) (fun v => k v st) = _
 rw [e, h]
 rfl
end Ev