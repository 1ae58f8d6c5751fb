import Derived.Test.YtgofadnggipkpaaEvArgs
set_option linter.unusedVariables false
namespace Ev
open Go

/-- a call's end with a value -/
def Rt (v : V) (hp : Hp) : R := .ret ⟨fun _ => v, fun _ => none, hp⟩

theorem beqD (a b : Nat) : Nat.beq a b = decide (a = b) := by
  by_cases h : a = b
  · rw [beqT h]; simp [h]
  · rw [beqF h]; simp [h]
theorem bleD (a b : Nat) : Nat.ble a b = decide (a ≤ b) := by
  cases h : Nat.ble a b
  · simp only [Bool.false_eq, decide_eq_false_iff_not]; intro q; rw [Nat.ble_eq_true_of_le q] at h; cases h
  · simp only [Bool.true_eq, decide_eq_true_eq]; exact Nat.le_of_ble_eq_true h
theorem bltD (a b : Nat) : Nat.blt a b = decide (a < b) := by
  unfold Nat.blt; rw [bleD]; rfl
theorem ieqD (a b : Int) : ieq a b = decide (a = b) := by rw [ieq_eq]; rfl
theorem beqLD (a b : List Nat) : beqL a b = decide (a = b) := by rw [beqL_eq, Bool.eq_iff_iff]; simp

theorem wr64 {n : Int} (h1 : -9223372036854775808 ≤ n) (h2 : n < 9223372036854775808) : wr .i64 n = n := by
  rw [wr_eq]; simp [IntKind.wrap, IntKind.bits, IntKind.signed]; split <;> omega
theorem wr_inc {i : Nat} (h : i ≤ 1000000000) : V.it .i64 (wr .i64 (Int.ofNat i + 1)) = .it .i64 (Int.ofNat (i + 1)) := by
  have e : (Int.ofNat i + 1 : Int) = Int.ofNat (i + 1) := rfl
  rw [e, wr64 (by simp; omega) (by simp; omega)]
theorem wr_add_nat {a b : Nat} (h : a + b ≤ 1000000000) : (wr .i64 (Int.ofNat a + Int.ofNat b)).toNat = a + b := by
  have e : (Int.ofNat a + Int.ofNat b : Int) = Int.ofNat (a + b) := rfl
  rw [e, wr64 (by simp; omega) (by simp; omega)]; rfl
theorem wr8 {n : Int} (h1 : 0 ≤ n) (h2 : n < 256) : wr .u8 n = n := by
  rw [wr_eq]; simp [IntKind.wrap, IntKind.bits, IntKind.signed]; omega
theorem wr8m (n : Int) : wr .u8 n = n % 256 := by
  rw [wr_eq]; simp [IntKind.wrap, IntKind.bits, IntKind.signed]
theorem wr64m (n : Int) : wr .i64 n = if n % 18446744073709551616 ≥ 9223372036854775808 then n % 18446744073709551616 - 18446744073709551616 else n % 18446744073709551616 := by
  rw [wr_eq]; simp [IntKind.wrap, IntKind.bits, IntKind.signed]

theorem lset_self {lo : Lo} {j : Nat} {cs : List V} (h : lo j = some cs) : lset lo j cs = lo := by
  funext i; unfold lset
  cases q : Nat.beq i j
  · rfl
  · rw [Nat.eq_of_beq_eq_true q]; exact h.symm

def tmOf : List (Nat × V) → Tm
  | [] => fun _ => .un
  | (k, v) :: r => fun j => bif Nat.beq j k then v else tmOf r j

theorem keepF_tm : ∀ (keep : List Nat) (tm : Tm), keepF (fun t => t) keep tm = tmOf (keep.map fun s => (s, tm s))
  | [], _ => rfl
  | a :: l, tm => by
    simp only [keepF, force_eq]
    rw [keepF_id l (fun t => fun j => bif Nat.beq j a then tm a else t j), keepF_tm l tm]
    rfl

/-! closing -/
/-- what closes to itself -/
def Clo (t : Ty) (v : V) : Prop := ∀ n hp, closeC (n + 1) t v hp = some (v, hp)
inductive CloL : List Ty → List V → Prop
  | nil : CloL [] []
  | cons {t : Ty} {v : V} {ts : List Ty} {vs : List V} (h : Clo t v) (r : CloL ts vs) : CloL (t :: ts) (v :: vs)

theorem CloL.length {ts : List Ty} {vs : List V} (h : CloL ts vs) : vs.length = ts.length := by
  induction h with
  | nil => rfl
  | cons h r ih => simp [ih]

theorem closeCs_clo {ts : List Ty} {vs : List V} (h : CloL ts vs) : ∀ n hp, ts.length + 1 ≤ n → closeCs n ts vs hp = some (vs, hp) := by
  induction h with
  | nil => intro n hp hn; cases n with | zero => omega | succ n => rfl
  | cons h r ih =>
    intro n hp hn
    cases n with
    | zero => omega
    | succ n =>
      simp only [List.length_cons] at hn
      cases n with
      | zero => omega
      | succ n => simp only [closeCs, h n hp, ih (n + 1) hp (by omega)]

theorem closeEs_clo {ts : List Ty} {es : List (List V)} : ∀ n hp, (∀ e, e ∈ es → CloL ts e) → es.length + ts.length + 2 ≤ n → closeEs n ts es hp = some (es, hp) := by
  induction es with
  | nil => intro n hp _ hn; cases n with | zero => omega | succ n => rfl
  | cons e r ih =>
    intro n hp h hn
    cases n with
    | zero => omega
    | succ n =>
      simp only [List.length_cons] at hn
      simp only [closeEs, closeCs_clo (h e (by simp)) n hp (by omega), ih n hp (fun x hx => h x (by simp [hx])) (by omega)]

theorem clo_bo (b : Bool) : Clo .one (.bo b) := fun _ _ => rfl
theorem clo_it (k : IntKind) (n : Int) : Clo .one (.it k n) := fun _ _ => rfl
theorem clo_st (l : List Nat) : Clo .one (.st l) := fun _ _ => rfl
theorem clo_vs (ts : List Ty) (es : List (List V)) : Clo (.sl ts) (.vs ts.length es) := fun n hp => by
  simp only [closeC, Nat.beq_refl, cond_true]

theorem closeC_hs {n : Nat} {ts : List Ty} {id i len sz : Nat} {fr : Bool} {es : List (List V)} {hp : Hp} (hg : hget hp id = some ⟨sz, fr, es⟩) (hl : hp.lim ≤ id) (hz : sz = ts.length) (hb : i + len ≤ es.length)
    (hc : ∀ e, e ∈ (es.drop i).take len → CloL ts e) (hn : len + ts.length + 3 ≤ n) : closeC n ((.sl ts) : Ty) (.hs id i len) hp = some (.vs sz ((es.drop i).take len), hset hp id (some ⟨sz, true, es⟩)) := by
  cases n with
  | zero => omega
  | succ n =>
    have hlt : Nat.blt id hp.lim = false := by rw [bltD]; simp; omega
    have hq : Nat.beq sz ts.length = true := by rw [beqD]; simp [hz]
    have hq2 : Nat.ble (i + len) es.length = true := by rw [bleD]; simp [hb]
    have hfz : freeze hp id = hset hp id (some ⟨sz, true, es⟩) := by unfold freeze; rw [hg]
    have hlen : ((es.drop i).take len).length = len := by simp; omega
    simp only [closeC, hg, hlt, cond_false, hq, cond_true, hq2, hfz, closeEs_clo n _ hc (by omega)]

/-- bytes -/
def bs (l : List Int) : List (List V) := l.map fun n => [.it .u8 n]
theorem bs_length (l : List Int) : (bs l).length = l.length := by simp [bs]
theorem bs_append (a b : List Int) : bs a ++ bs b = bs (a ++ b) := by simp [bs]
theorem bs_take (a : List Int) (n : Nat) : (bs a).take n = bs (a.take n) := by simp [bs, List.map_take]
theorem bs_drop (a : List Int) (n : Nat) : (bs a).drop n = bs (a.drop n) := by simp [bs, List.map_drop]
theorem bs_clo (l : List Int) : ∀ e, e ∈ bs l → CloL [.one] e := by
  intro e he
  simp only [bs, List.mem_map] at he
  obtain ⟨n, _, rfl⟩ := he
  exact .cons (clo_it _ _) .nil
theorem bs_inj {a b : List Int} (h : bs a = bs b) : a = b := by
  induction a generalizing b with
  | nil => cases b with | nil => rfl | cons y b => simp [bs] at h
  | cons x a ih =>
    cases b with
    | nil => simp [bs] at h
    | cons y b =>
      simp only [bs, List.map_cons, List.cons.injEq, V.it.injEq, and_true, true_and] at h
      obtain ⟨h1, h2⟩ := h
      rw [h1, ih h2]


theorem depth_succ : depth = 99999999 + 1 := rfl
theorem clo_depth {t : Ty} {v : V} (h : Clo t v) (hp : Hp) : closeC depth t v hp = some (v, hp) := by rw [depth_succ]; exact h _ _
/-- arguments, results: what they are closed -/
inductive ClP : List PT → List V → Hp → List V → Hp → Prop
  | nil (hp : Hp) : ClP [] [] hp [] hp
  | c {t : Ty} {v w : V} {ts : List PT} {vs ws : List V} {hp h1 h2 : Hp} (h : closeC depth t v hp = some (w, h1)) (r : ClP ts vs h1 ws h2) : ClP (.c t :: ts) (v :: vs) hp (w :: ws) h2
  | g {us : List Ty} {cs ds : List V} {ts : List PT} {vs ws : List V} {hp h1 h2 : Hp} (h : closeCs depth us cs hp = some (ds, h1)) (r : ClP ts vs h1 ws h2) : ClP (.g us :: ts) (.ag cs :: vs) hp (.ag ds :: ws) h2
theorem ClP.s {t : Ty} {v : V} {ts : List PT} {vs ws : List V} {hp h2 : Hp} (h : Clo t v) (r : ClP ts vs hp ws h2) : ClP (.c t :: ts) (v :: vs) hp (v :: ws) h2 := .c (clo_depth h hp) r
theorem ClP.gs {us : List Ty} {cs : List V} {ts : List PT} {vs ws : List V} {hp h2 : Hp} (h : CloL us cs) (r : ClP ts vs hp ws h2) (hl : us.length + 1 ≤ depth := by decide) : ClP (.g us :: ts) (.ag cs :: vs) hp (.ag cs :: ws) h2 :=
  .g (closeCs_clo h _ _ hl) r
/-- what closes to what, the heap left alone -/
def Clo2 (t : Ty) (v w : V) : Prop := ∀ n hp, closeC (n + 1) t v hp = some (w, hp)
inductive CloL2 : List Ty → List V → List V → Prop
  | nil : CloL2 [] [] []
  | cons {t : Ty} {v w : V} {ts : List Ty} {vs ws : List V} (h : Clo2 t v w) (r : CloL2 ts vs ws) : CloL2 (t :: ts) (v :: vs) (w :: ws)
theorem clo_ns (ts : List Ty) : Clo2 (.sl ts) .ns (.vs ts.length []) := fun _ _ => rfl
theorem closeCs_clo2 {ts : List Ty} {vs ws : List V} (h : CloL2 ts vs ws) : ∀ n hp, ts.length + 1 ≤ n → closeCs n ts vs hp = some (ws, hp) := by
  induction h with
  | nil => intro n hp hn; cases n with | zero => omega | succ n => rfl
  | cons h r ih =>
    intro n hp hn
    cases n with
    | zero => omega
    | succ n =>
      simp only [List.length_cons] at hn
      cases n with
      | zero => omega
      | succ n => simp only [closeCs, h n hp, ih (n + 1) hp (by omega)]
theorem ClP.s2 {t : Ty} {v w : V} {ts : List PT} {vs ws : List V} {hp h2 : Hp} (h : Clo2 t v w) (r : ClP ts vs hp ws h2) : ClP (.c t :: ts) (v :: vs) hp (w :: ws) h2 := .c (by rw [depth_succ]; exact h _ _) r
theorem ClP.gs2 {us : List Ty} {cs ds : List V} {ts : List PT} {vs ws : List V} {hp h2 : Hp} (h : CloL2 us cs ds) (r : ClP ts vs hp ws h2) (hl : us.length + 1 ≤ depth := by decide) : ClP (.g us :: ts) (.ag cs :: vs) hp (.ag ds :: ws) h2 :=
  .g (closeCs_clo2 h _ _ hl) r
theorem ClP.close {ts : List PT} {vs ws : List V} {hp h2 : Hp} (h : ClP ts vs hp ws h2) : closeAll ts vs hp = some (ws, h2) := by
  induction h with
  | nil hp => rfl
  | c h r ih => unfold closeAll; unfold closeP; simp only [h, ih]
  | g h r ih => unfold closeAll; unfold closeP; simp only [h, ih]

section
variable {F : Nat → Option Ev.Fn}

theorem EvD.brT {b : Bool} {x y : D} {r : R} (hb : b = true) (h : EvD F x r) : EvD F (.br b x y) r := .br (fun _ => h) (fun e => by rw [hb] at e; cases e)
theorem EvD.brF {b : Bool} {x y : D} {r : R} (hb : b = false) (h : EvD F y r) : EvD F (.br b x y) r := .br (fun e => by rw [hb] at e; cases e) (fun _ => h)
theorem EvD.rt {v v' : V} {hp hp' : Hp} (hv : v = v') (hh : hp = hp') : EvD F (.done (.ret ⟨fun _ => v, fun _ => none, hp⟩)) (Rt v' hp') := by
  subst hv; subst hh; exact .done _
theorem EvD.fin {d : D} {r r' : R} (h : EvD F d r) (e : r = r') : EvD F d r' := e ▸ h
theorem EvD.hg {hp : Hp} {id : Nat} {b : Bk} {k1 : Bk → D} {r : R} (h : hget hp id = some b) (h2 : EvD F (k1 b) r) :
    EvD F (match hget hp id with | some b => k1 b | none => .bad) r := by rw [h]; exact h2

/-- one round more -/
theorem EvL.go {keep drop : List Nat} {body : St → D} {tm : Tm} {lo : Lo} {hp : Hp} (kv : List (Nat × V)) {s : St} {r : R} (hk : keep.map (fun s => (s, tm s)) = kv) (h : EvD F (body ⟨tmOf kv, shed drop lo, hp⟩) (.norm s))
    (h' : EvL F keep drop body s r) : EvL F keep drop body ⟨tm, lo, hp⟩ r :=
  .round (fun tm' e => by rw [keepF_tm, show keep.map (fun s => (s, (St.mk tm lo hp).tm s)) = kv from hk] at e; subst e; exact h) h'
/-- the last round -/
theorem EvL.stop {keep drop : List Nat} {body : St → D} {tm : Tm} {lo : Lo} {hp : Hp} (kv : List (Nat × V)) {r : R} (hk : keep.map (fun s => (s, tm s)) = kv) (h : EvD F (body ⟨tmOf kv, shed drop lo, hp⟩) r)
    (hr : ∀ s, r ≠ .norm s) : EvL F keep drop body ⟨tm, lo, hp⟩ r :=
  .last (fun tm' e => by rw [keepF_tm, show keep.map (fun s => (s, (St.mk tm lo hp).tm s)) = kv from hk] at e; subst e; exact h) hr

/-- a loop's run goes by what is kept -/
theorem EvL.congr {keep drop : List Nat} {body : St → D} {st st' : St} {r : R} (h : EvL F keep drop body st' r) (h1 : keep.map (fun s => (s, st.tm s)) = keep.map (fun s => (s, st'.tm s))) (h2 : shed drop st.lo = shed drop st'.lo) (h3 : st.hp = st'.hp) :
    EvL F keep drop body st r := by
  obtain ⟨N, h⟩ := h
  refine ⟨N, fun L n hL hn q hq => ?_⟩
  rw [← h L n hL hn q hq]
  cases q with
  | zero => rfl
  | succ q => rw [iter_succ, iter_succ, keepF_id, keepF_id _ _ st'.tm, keepF_tm, keepF_tm, h1, h2, h3]

/-- a function that runs apart, its closed results -/
def EvP (F : Nat → Option Ev.Fn) (f : Nat) (fn : Ev.Fn) (ys zs : List V) : Prop :=
  F f = some fn ∧ fn.md = .pure ∧ Nat.beq ys.length fn.ps.length = true ∧
  ∃ v h h', EvD F (bodyD fn ys h0) (Rt v h) ∧ ClP fn.rs (untuple fn.rs.length v) h zs h'

/-- a function that runs apart: a slice of its own comes back -/
def EvO (F : Nat → Option Ev.Fn) (f : Nat) (fn : Ev.Fn) (ys : List V) (sz : Nat) (es : List (List V)) : Prop :=
  F f = some fn ∧ fn.md = .pure ∧ Nat.beq ys.length fn.ps.length = true ∧
  ∃ v h t, fn.rs = [t] ∧ EvD F (bodyD fn ys h0) (Rt v h) ∧
    ((∃ h', closeP t v h = some (.vs sz es, h')) ∧
     ((∀ hp, ownP t v h hp = some (.hs hp.next 0 es.length, hnew hp ⟨sz, false, es⟩)) ∨ (es = [] ∧ ∀ hp, ownP t v h hp = some (.vs sz [], hp))))

theorem EvC.of {f : Nat} {fn : Ev.Fn} {ys xs zs : List V} {hp hp1 : Hp} (h : EvP F f fn ys zs) (hc : ClP fn.ps xs hp ys hp1) : EvC F false f xs hp (.ret (tuple zs) hp1) := by
  obtain ⟨h1, h2, h3, v, h, h', h4, h5⟩ := h
  refine EvC.pure h1 h2 hc.close h3 h4 ?_
  show (match closeAll fn.rs (untuple fn.rs.length v) h with | some (xs, _) => CR.ret (tuple xs) hp1 | none => CR.bad) = _
  rw [h5.close]

theorem EvO.toP {f : Nat} {fn : Ev.Fn} {ys : List V} {sz : Nat} {es : List (List V)} (h : EvO F f fn ys sz es) : EvP F f fn ys [.vs sz es] := by
  obtain ⟨h1, h2, h3, v, h, t, h4, h5, ⟨h', h6⟩, _⟩ := h
  refine ⟨h1, h2, h3, v, h, h', h5, ?_⟩
  rw [h4]
  cases t with
  | c t => exact .c h6 (.nil _)
  | g ts =>
    exfalso
    unfold closeP at h6
    cases v <;> simp at h6
    split at h6 <;> simp at h6

theorem EvC.ofO {f : Nat} {fn : Ev.Fn} {ys xs : List V} {sz : Nat} {es : List (List V)} {hp hp1 : Hp} (h : EvO F f fn ys sz es) (hc : ClP fn.ps xs hp ys hp1) :
    EvC F true f xs hp (.ret (.hs hp1.next 0 es.length) (hnew hp1 ⟨sz, false, es⟩)) ∨ (es = [] ∧ EvC F true f xs hp (.ret (.vs sz []) hp1)) := by
  obtain ⟨h1, h2, h3, v, h, t, h4, h5, _, h7 | ⟨h7, h8⟩⟩ := h
  · refine .inl (EvC.pure h1 h2 hc.close h3 h5 ?_)
    show back true fn hp1 (.ret v h) = _
    unfold back
    rw [h4]
    simp only [h7]
  · refine .inr ⟨h7, EvC.pure h1 h2 hc.close h3 h5 ?_⟩
    show back true fn hp1 (.ret v h) = _
    unfold back
    rw [h4]
    simp only [h8]

/-- a call of a function that runs apart -/
theorem EvD.pc {f : Nat} {fn : Ev.Fn} {ys xs zs : List V} {hp : Hp} {k : CR → D} {r : R} (h : EvP F f fn ys zs) {hp1 : Hp} (hc : ClP fn.ps xs hp ys hp1) (hk : EvD F (k (.ret (tuple zs) hp1)) r) :
    EvD F (.call false f xs hp k) r := .call (EvC.of h hc) hk
theorem EvD.oc {f : Nat} {fn : Ev.Fn} {ys xs : List V} {sz : Nat} {es : List (List V)} {hp : Hp} {k : CR → D} {r : R} (h : EvO F f fn ys sz es) {hp1 : Hp} (hc : ClP fn.ps xs hp ys hp1)
    (hk : EvD F (k (.ret (.hs hp1.next 0 es.length) (hnew hp1 ⟨sz, false, es⟩))) r) (hk0 : es = [] → EvD F (k (.ret (.vs sz []) hp1)) r) :
    EvD F (.call true f xs hp k) r := by
  rcases EvC.ofO h hc with q | ⟨q, q'⟩
  · exact .call q hk
  · exact .call q' (hk0 q)

/-- a law's run -/
theorem law_run {fn : Ev.Fn} {xs : List V} {v : V} {h : Hp} (hl : Nat.beq xs.length fn.ps.length = true) (h : EvD F (bodyD fn xs h0) (Rt v h)) : ∃ L n hp', runF (callF F L n) L fn xs h0 = .ret v hp' := by
  obtain ⟨L, n, e⟩ := EvC.run hl h rfl
  exact ⟨L, n, _, e⟩
end

/-- an object read through what was done -/
theorem hnew_next (hp : Hp) (b : Bk) : (hnew hp b).next = hp.next + 1 := rfl
theorem hset_next (hp : Hp) (id : Nat) (b : Option Bk) : (hset hp id b).next = hp.next := rfl
theorem hnew_lim (hp : Hp) (b : Bk) : (hnew hp b).lim = hp.lim := rfl
theorem hset_lim (hp : Hp) (id : Nat) (b : Option Bk) : (hset hp id b).lim = hp.lim := rfl
theorem hget_new (hp : Hp) (b : Bk) : hget (hnew hp b) hp.next = some b := by rw [hget_hnew]; simp
theorem hget_old {hp : Hp} {b : Bk} {id : Nat} (h : id ≠ hp.next) : hget (hnew hp b) id = hget hp id := by rw [hget_hnew]; simp [h]
theorem hget_set (hp : Hp) (id : Nat) (b : Option Bk) : hget (hset hp id b) id = b := by rw [hget_hset]; simp
theorem hget_other {hp : Hp} {b : Option Bk} {id j : Nat} (h : j ≠ id) : hget (hset hp id b) j = hget hp j := by rw [hget_hset]; simp [h]

end Ev
