import Derived.Test.YtgofadnggipkpaaEvStep
set_option linter.unusedVariables false
namespace Ev
open Go

/-- a slice of bytes, wherever it lies -/
def By (hp : Hp) (v : V) (l : List Int) : Prop :=
  (v = .ns ∧ l = []) ∨ v = .vs 1 (bs l) ∨
  ∃ id i fr rows, v = .hs id i l.length ∧ id < hp.next ∧ hp.lim ≤ id ∧ hget hp id = some ⟨1, fr, bs rows⟩ ∧ i + l.length ≤ rows.length ∧ (rows.drop i).take l.length = l

theorem By.ns (hp : Hp) : By hp .ns [] := .inl ⟨rfl, rfl⟩
theorem By.vs (hp : Hp) (l : List Int) : By hp (.vs 1 (bs l)) l := .inr (.inl rfl)
theorem By.new {hp : Hp} {id : Nat} {fr : Bool} {l : List Int} (h1 : id < hp.next) (h2 : hp.lim ≤ id) (h3 : hget hp id = some ⟨1, fr, bs l⟩) : By hp (.hs id 0 l.length) l :=
  .inr (.inr ⟨id, 0, fr, l, rfl, h1, h2, h3, by simp, by simp⟩)

section
variable {hp hp' : Hp} {v : V} {l : List Int}
theorem By.lp (h : By hp v l) : isLp v = false := by
  rcases h with ⟨rfl, _⟩ | rfl | ⟨_, _, _, _, rfl, _⟩ <;> rfl
theorem By.cells (h : By hp v l) : v.cells = [v] := by
  rcases h with ⟨rfl, _⟩ | rfl | ⟨_, _, _, _, rfl, _⟩ <;> rfl
theorem By.keep (h : By hp v l) : v.keep = true := by
  rcases h with ⟨rfl, _⟩ | rfl | ⟨_, _, _, _, rfl, _⟩ <;> rfl
theorem By.len (h : By hp v l) : lenOf false v = some l.length := by
  rcases h with ⟨rfl, rfl⟩ | rfl | ⟨_, _, _, _, rfl, _⟩
  · rfl
  · show some (bs l).length = _; rw [bs_length]
  · rfl
theorem By.els (h : By hp v l) : Els hp 1 v (bs l) := by
  rcases h with ⟨rfl, rfl⟩ | rfl | ⟨id, i, fr, rows, rfl, h1, h2, h3, h4, h5⟩
  · exact .ns
  · exact .vs _
  · have e : ((bs rows).drop i).take l.length = bs l := by rw [bs_drop, bs_take, h5]
    have := Els.hs (sz := 1) (i := i) (n := l.length) h3 (by rw [bs_length]; exact h4)
    rw [e] at this; exact this
theorem By.slice (h : By hp v l) {a b : Nat} (h1 : a ≤ b) (h2 : b ≤ l.length) : ∃ v', sliceV v a b = some v' ∧ By hp v' ((l.drop a).take (b - a)) := by
  rcases h with ⟨rfl, rfl⟩ | rfl | ⟨id, i, fr, rows, rfl, q1, q2, q3, q4, q5⟩
  · exact ⟨.ns, rfl, by simp; exact .ns hp⟩
  · refine ⟨_, rfl, ?_⟩
    rw [bs_drop, bs_take]; exact .vs hp _
  · refine ⟨.hs id (i + a) (b - a), rfl, .inr (.inr ⟨id, i + a, fr, rows, ?_, q1, q2, q3, ?_, ?_⟩)⟩
    · congr 1; simp; omega
    · simp; omega
    · have el : ((l.drop a).take (b - a)).length = b - a := by simp; omega
      rw [el]
      conv => rhs; rw [← q5]
      rw [List.drop_take, List.drop_drop, List.take_take, Nat.min_eq_left (by omega)]
theorem By.sz (h : By hp v l) {D1 : D} : szD hp 1 v D1 = D1 := by
  rcases h with ⟨rfl, rfl⟩ | rfl | ⟨id, i, fr, rows, rfl, q1, q2, q3, q4, q5⟩
  · rfl
  · rfl
  · unfold szD; simp only [q3]; rfl

/-- what was there is there, but for one object -/
structure Ex (hp hp' : Hp) (R : Nat) : Prop where
  next : hp.next ≤ hp'.next
  lim : hp'.lim = hp.lim
  get : ∀ j b, j ≠ R → hget hp j = some b → hget hp' j = some b
theorem Ex.refl (hp : Hp) (R : Nat) : Ex hp hp R := ⟨Nat.le_refl _, rfl, fun j b _ h => h⟩
theorem Ex.trans {a b c : Hp} {R : Nat} (h : Ex a b R) (h' : Ex b c R) : Ex a c R :=
  ⟨Nat.le_trans h.next h'.next, h'.lim.trans h.lim, fun j x hj hx => h'.get j _ hj (h.get j x hj hx)⟩
theorem Ex.new (hp : Hp) (b : Bk) (R : Nat) (hn : ∀ j, hp.next ≤ j → hget hp j = none) : Ex hp (hnew hp b) R :=
  ⟨by rw [hnew_next]; omega, rfl, fun j x _ hx => by
    rw [hget_old (fun e => by rw [e, hn _ (Nat.le_refl _)] at hx; cases hx)]; exact hx⟩
theorem Ex.set (hp : Hp) (b : Option Bk) (R : Nat) : Ex hp (hset hp R b) R :=
  ⟨Nat.le_refl _, rfl, fun j x hj hx => by rw [hget_other hj]; exact hx⟩
theorem By.mono {R : Nat} (h : By hp v l) (e : Ex hp hp' R) (hR : ∀ b, hget hp R = some b → b.sz ≠ 1) : By hp' v l := by
  rcases h with h | h | ⟨id, i, fr, rows, rfl, q1, q2, q3, q4, q5⟩
  · exact .inl h
  · exact .inr (.inl h)
  · have x := e.get id _ (fun q => by subst q; exact hR _ q3 rfl) q3
    exact .inr (.inr ⟨id, i, fr, rows, rfl, Nat.lt_of_lt_of_le q1 e.next, by rw [e.lim]; exact q2, x, q4, q5⟩)
end

/-- nothing stands where nothing was made -/
def Nil (hp : Hp) : Prop := ∀ j, hp.next ≤ j → hget hp j = none
theorem Nil.new {hp : Hp} (h : Nil hp) (b : Bk) : Nil (hnew hp b) := fun j hj => by
  rw [hnew_next] at hj
  rw [hget_old (by omega)]; exact h j (by omega)
theorem Nil.set {hp : Hp} (h : Nil hp) {id : Nat} (hid : id < hp.next) (b : Option Bk) : Nil (hset hp id b) := fun j hj => by
  rw [hset_next] at hj
  rw [hget_other (by omega)]; exact h j hj

section
variable {F : Nat → Option Ev.Fn} {R : R} {k : Ev.R → D} {clr : List Nat} {tm : Tm} {lo : Lo} {hp : Hp} {r : List DOp} {us : List Nat} {g : Option (Nat × Bool)} {d : Nat} {v : V} {l : List Int}

def bnd (tm : Tm) (d : Nat) (o : Option A) (a : Nat) : Prop := match o with | none => d = a | some y => ∃ kk, get tm y = .it kk (Int.ofNat a)
theorem bnd_D {o : Option A} {dd a : Nat} {K : Nat → D} (h : bnd tm dd o a) (n : EvD F (K a) R) : EvD F (boundD tm dd o K) R := by
  cases o with
  | none => cases h; exact n
  | some y =>
    obtain ⟨kk, e⟩ := h
    unfold boundD natD
    simp only [e]
    exact .chk (by rw [ilt_eq]; rfl) n
theorem X.slcB {x : A} {o1 o2 : Option A} {a b : Nat} (hx : get tm x = v) (hB : By hp v l) (h1 : bnd tm 0 o1 a) (h2 : bnd tm l.length o2 b) (hab : a ≤ b) (hb : b ≤ l.length)
    (nx : ∀ v', By hp v' ((l.drop a).take (b - a)) → isLp v' = false → EvD F (evLs clr r ⟨upd tm d v', lo, hp⟩ k) R) : EvD F (evLs clr (⟨some d, g, us, .slc false 1 x o1 o2⟩ :: r) ⟨tm, lo, hp⟩ k) R := by
  have e : evLs clr (⟨some d, g, us, .slc false 1 x o1 o2⟩ :: r) ⟨tm, lo, hp⟩ k = szD hp 1 (get tm x) (oneD (lenOf false (get tm x)) fun n => boundD tm 0 o1 fun l => boundD tm n o2 fun h =>
      .chk (Nat.ble l h) (.chk (Nat.ble h n) (oneD (sliceV (get tm x) l h) fun v => forceV (fun v => evLs clr r ⟨upd tm d v, lo, hp⟩ k) v))) := rfl
  obtain ⟨v', e1, e2⟩ := hB.slice hab hb
  rw [e, hx, hB.sz, hB.len]
  show EvD F (boundD tm 0 o1 fun a => boundD tm l.length o2 fun h => .chk (Nat.ble a h) (.chk (Nat.ble h l.length) (oneD (sliceV v a h) fun v => forceV (fun v => evLs clr r ⟨upd tm d v, lo, hp⟩ k) v))) R
  apply bnd_D h1
  show EvD F (boundD tm l.length o2 fun h => .chk (Nat.ble a h) (.chk (Nat.ble h l.length) (oneD (sliceV v a h) fun v => forceV (fun v => evLs clr r ⟨upd tm d v, lo, hp⟩ k) v))) R
  apply bnd_D h2
  refine .chk (by rw [bleD]; exact decide_eq_true hab) (.chk (by rw [bleD]; exact decide_eq_true hb) ?_)
  rw [e1]
  show EvD F (forceV (fun v => evLs clr r ⟨upd tm d v, lo, hp⟩ k) v') R
  rw [forceV_eq]; exact nx v' e2 e2.lp

/-- a byte's place -/
def Pv (hp : Hp) (w : V) (y : Int) : Prop := w = .ip [.it .u8 y] ∨ ∃ id j b, w = .pt id j 0 ∧ hget hp id = some b ∧ j < b.es.length ∧ b.es.getD j [] = [.it .u8 y]
theorem Pv.lp {w : V} {y : Int} (h : Pv hp w y) : isLp w = false := by rcases h with rfl | ⟨_, _, _, rfl, _⟩ <;> rfl
theorem X.iaB {x ix : A} {kk : IntKind} {j : Nat} (hx : get tm x = v) (hB : By hp v l) (hi : get tm ix = .it kk (Int.ofNat j)) (hj : j < l.length)
    (nx : ∀ w, Pv hp w (l[j]?.getD 0) → isLp w = false → EvD F (evLs clr r ⟨upd tm d w, lo, hp⟩ k) R) : EvD F (evLs clr (⟨some d, g, us, .ias 1 x ix⟩ :: r) ⟨tm, lo, hp⟩ k) R := by
  rcases hB with ⟨rfl, rfl⟩ | rfl | ⟨id, i, fr, rows, rfl, q1, q2, q3, q4, q5⟩
  · simp at hj
  · exact X.iav hx hi (by rw [bs_length]; exact hj) (bs_getD hj) (nx _ (.inl rfl) rfl)
  · refine X.iah hx hi q3 rfl hj (nx _ (.inr ⟨id, i + j, _, rfl, q3, ?_, ?_⟩) rfl)
    · rw [bs_length]; omega
    · rw [bs_getD (by omega)]
      have : l[j]? = rows[i + j]? := by
        conv => lhs; rw [← q5]
        rw [List.getElem?_take_of_lt hj, List.getElem?_drop]
      rw [this]
theorem X.ldB {a : A} {w : V} {y : Int} (ha : get tm a = w) (hP : Pv hp w y) (nx : EvD F (evLs clr r ⟨upd tm d (.it .u8 y), lo, hp⟩ k) R) : EvD F (evLs clr (⟨some d, g, us, .ld 1 false a⟩ :: r) ⟨tm, lo, hp⟩ k) R := by
  rcases hP with rfl | ⟨id, j, b, rfl, q1, q2, q3⟩
  · have e : evLs clr (⟨some d, g, us, .ld 1 false a⟩ :: r) ⟨tm, lo, hp⟩ k = loadD ⟨tm, lo, hp⟩ 1 (get tm a) (fun cs => oneD (pickC 1 false cs) fun v => forceV (fun v => evLs clr r ⟨upd tm d v, lo, hp⟩ k) v) := rfl
    rw [e, ha]
    exact .chk rfl nx
  · exact X.ldp ha q1 q2 q3 (by simp) rfl nx
/-- bytes behind nothing -/
theorem X.apB {bytes : Nat} {x y : A} (hN : Nil hp) (hx : get tm x = .ns) (hy : get tm y = v) (hB : By hp v l) (hlim : hp.lim ≤ hp.next) (h2 : l.length * bytes ≤ 140737488355328)
    (nx : ∀ v' hp', By hp' v' l → ((v' = .ns ∧ hp' = hp) ∨ (v' = .hs hp.next 0 l.length ∧ hp' = hnew hp ⟨1, false, bs l⟩)) → Nil hp' → isLp v' = false → EvD F (evLs clr r ⟨upd tm d v', lo, hp'⟩ k) R) :
    EvD F (evLs clr (⟨some d, g, us, .app 1 bytes x y⟩ :: r) ⟨tm, lo, hp⟩ k) R := by
  by_cases h : l = []
  · subst h
    exact X.ape hx hy hB.els rfl (nx .ns hp (.ns hp) (.inl ⟨rfl, rfl⟩) hN rfl)
  · refine X.apn hx hy hB.els (by simp [bs]; exact h) (by rw [bleD, bs_length]; exact decide_eq_true h2) rfl ?_
    rw [bs_length]
    refine nx _ _ (.new (by rw [hnew_next]; omega) (by rw [hnew_lim]; exact hlim) (hget_new _ _)) (.inr ⟨rfl, rfl⟩) (hN.new _) rfl
/-- an object of one row is written: one cell -/
theorem X.stB {a x : A} {w : V} {id off : Nat} {sz : Nat} {row row' : List V} (hx : get tm x = w) (hc : w.cells = [w]) (hkp : w.keep = true) (ha : get tm a = .pt id 0 off) (hg : hget hp id = some ⟨sz, false, [row]⟩) (hlim : hp.lim ≤ id) (h3 : freshH us tm id = true)
    (h4 : off + 1 ≤ row.length) (hrow : over off [w] row = row') (nx : EvD F (evLs clr r ⟨tm, lo, hset hp id (some ⟨sz, false, [row']⟩)⟩ k) R) : EvD F (evLs clr (⟨none, g, us, .sto 1 a x⟩ :: r) ⟨tm, lo, hp⟩ k) R := by
  subst hrow
  refine X.stp hx ha hg rfl hlim (by rw [hc]; rfl) (by rw [hc]; simp [hkp]) h3 (by simp) rfl (by rw [hc]; exact h4) ?_
  rw [hc]
  exact nx
end

/-! numbers out of bytes -/
theorem wrN {a : Nat} (h : a < 9223372036854775808) : wr .i64 (a : Int) = (a : Int) := wr64 (by omega) (by omega)
def orI (x y : Int) : Int := wr .i64 (.ofNat (Nat.lor (toU (2 ^ kbits .i64) x) (toU (2 ^ kbits .i64) y)))
theorem orN {a b : Nat} (ha : a < 4611686018427387904) (hb : b < 4611686018427387904) : orI (a : Int) (b : Int) = ((a ||| b : Nat) : Int) := by
  unfold orI
  have e1 : toU (2 ^ kbits .i64) (a : Int) = a := Nat.mod_eq_of_lt (by show a < 2 ^ 64; omega)
  have e2 : toU (2 ^ kbits .i64) (b : Int) = b := Nat.mod_eq_of_lt (by show b < 2 ^ 64; omega)
  rw [e1, e2]
  have : a ||| b < 2 ^ 62 := Nat.or_lt_two_pow ha hb
  exact wrN (a := a ||| b) (by omega)
theorem or_add {a b i : Nat} (h : b < 2 ^ i) : (a * 2 ^ i) ||| b = a * 2 ^ i + b := by
  rw [← Nat.shiftLeft_eq, Nat.shiftLeft_add_eq_or_of_lt h]
theorem num3 {a b c : Int} (ha : 0 ≤ a ∧ a ≤ 255) (hb : 0 ≤ b ∧ b ≤ 255) (hc : 0 ≤ c ∧ c ≤ 255) :
    orI (orI (wr .i64 (wr .i64 a * 65536)) (wr .i64 (wr .i64 b * 256))) (wr .i64 c) = a * 65536 + b * 256 + c := by
  obtain ⟨a, rfl⟩ := Int.eq_ofNat_of_zero_le ha.1
  obtain ⟨b, rfl⟩ := Int.eq_ofNat_of_zero_le hb.1
  obtain ⟨c, rfl⟩ := Int.eq_ofNat_of_zero_le hc.1
  rw [wrN (a := a) (by omega), wrN (a := b) (by omega), wrN (a := c) (by omega)]
  have e1 : wr .i64 ((a : Int) * 65536) = ((a * 2 ^ 16 : Nat) : Int) := by rw [show (a : Int) * 65536 = ((a * 2 ^ 16 : Nat) : Int) by simp]; exact wrN (by omega)
  have e2 : wr .i64 ((b : Int) * 256) = ((b * 256 : Nat) : Int) := by rw [show (b : Int) * 256 = ((b * 256 : Nat) : Int) by simp]; exact wrN (by omega)
  rw [e1, e2, orN (by omega) (by omega), or_add (by omega)]
  have e3 : a * 2 ^ 16 + b * 256 = (a * 256 + b) * 2 ^ 8 := by omega
  rw [e3, orN (by omega) (by omega), or_add (by omega)]
  omega
theorem num4 {a b c e : Int} (ha : 0 ≤ a ∧ a ≤ 255) (hb : 0 ≤ b ∧ b ≤ 255) (hc : 0 ≤ c ∧ c ≤ 255) (he : 0 ≤ e ∧ e ≤ 255) :
    orI (orI (orI (wr .i64 (wr .i64 (wr .u8 (.ofNat (Nat.land (toU (2 ^ kbits .u8) a) (toU (2 ^ kbits .u8) 127)))) * 16777216)) (wr .i64 (wr .i64 b * 65536))) (wr .i64 (wr .i64 c * 256))) (wr .i64 e) = a % 128 * 16777216 + b * 65536 + c * 256 + e := by
  obtain ⟨a, rfl⟩ := Int.eq_ofNat_of_zero_le ha.1
  obtain ⟨b, rfl⟩ := Int.eq_ofNat_of_zero_le hb.1
  obtain ⟨c, rfl⟩ := Int.eq_ofNat_of_zero_le hc.1
  obtain ⟨e, rfl⟩ := Int.eq_ofNat_of_zero_le he.1
  have l1 : Nat.land (toU (2 ^ kbits .u8) (a : Int)) (toU (2 ^ kbits .u8) 127) = a % 128 := by
    have e1 : toU (2 ^ kbits .u8) (a : Int) = a := Nat.mod_eq_of_lt (by show a < 2 ^ 8; omega)
    rw [e1]
    exact Nat.and_two_pow_sub_one_eq_mod a 7
  rw [l1]
  have l2 : wr .u8 (.ofNat (a % 128)) = ((a % 128 : Nat) : Int) := by
    have q : ((a % 128 : Nat) : Int) < 256 := by omega
    exact wr8 (n := ((a % 128 : Nat) : Int)) (by omega) q
  rw [l2, wrN (a := a % 128) (by omega), wrN (a := b) (by omega), wrN (a := c) (by omega), wrN (a := e) (by omega)]
  have e0 : wr .i64 (((a % 128 : Nat) : Int) * 16777216) = ((a % 128 * 2 ^ 24 : Nat) : Int) := by rw [show ((a % 128 : Nat) : Int) * 16777216 = ((a % 128 * 2 ^ 24 : Nat) : Int) by simp]; exact wrN (by omega)
  have e1 : wr .i64 ((b : Int) * 65536) = ((b * 65536 : Nat) : Int) := by rw [show (b : Int) * 65536 = ((b * 65536 : Nat) : Int) by simp]; exact wrN (by omega)
  have e2 : wr .i64 ((c : Int) * 256) = ((c * 256 : Nat) : Int) := by rw [show (c : Int) * 256 = ((c * 256 : Nat) : Int) by simp]; exact wrN (by omega)
  rw [e0, e1, e2, orN (by omega) (by omega), or_add (by omega)]
  have e3 : ∀ q b : Nat, q * 2 ^ 24 + b * 65536 = (q * 256 + b) * 2 ^ 16 := by intro q b; omega
  rw [e3 (a % 128) b, orN (by omega) (by omega), or_add (by omega)]
  have e4 : ∀ q c : Nat, q * 2 ^ 16 + c * 256 = (q * 256 + c) * 2 ^ 8 := by intro q c; omega
  rw [e4 (a % 128 * 256 + b) c, orN (by omega) (by omega), or_add (by omega)]
  omega

def andI (x y : Int) : Int := wr .u8 (.ofNat (Nat.land (toU (2 ^ kbits .u8) x) (toU (2 ^ kbits .u8) y)))
theorem num3' {a b c : Int} (ha : 0 ≤ a ∧ a ≤ 255) (hb : 0 ≤ b ∧ b ≤ 255) (hc : 0 ≤ c ∧ c ≤ 255) :
    orI (orI (wr .i64 (wr .i64 a * Int.ofNat 65536)) (wr .i64 (wr .i64 b * Int.ofNat 256))) (wr .i64 c) = a * 65536 + b * 256 + c := num3 ha hb hc
theorem num4' {a b c e : Int} (ha : 0 ≤ a ∧ a ≤ 255) (hb : 0 ≤ b ∧ b ≤ 255) (hc : 0 ≤ c ∧ c ≤ 255) (he : 0 ≤ e ∧ e ≤ 255) :
    orI (orI (orI (wr .i64 (wr .i64 (andI a (Int.ofNat 127)) * Int.ofNat 16777216)) (wr .i64 (wr .i64 b * Int.ofNat 65536))) (wr .i64 (wr .i64 c * Int.ofNat 256))) (wr .i64 e) = a % 128 * 16777216 + b * 65536 + c * 256 + e := num4 ha hb hc he

section
variable {F : Nat → Option Ev.Fn} {R : R} {k : Ev.R → D} {clr : List Nat} {tm : Tm} {lo : Lo} {hp : Hp} {r : List DOp} {us : List Nat} {g : Option (Nat × Bool)} {d : Nat} {q : Qk} {x y : A} {A1 B1 : Int}
theorem X.orr (hx : get tm x = .it .i64 A1) (hy : get tm y = .it .i64 B1) (n : EvD F (evLs clr r ⟨upd tm d (.it .i64 (orI A1 B1)), lo, hp⟩ k) R) : EvD F (evLs clr (⟨some d, g, us, .bin q .or x y⟩ :: r) ⟨tm, lo, hp⟩ k) R := by
  have e : evLs clr (⟨some d, g, us, .bin q .or x y⟩ :: r) ⟨tm, lo, hp⟩ k = binD hp q .or (get tm x) (get tm y) (fun v => forceV (fun v => evLs clr r ⟨upd tm d v, lo, hp⟩ k) v) := rfl
  rw [e, hx, hy]; exact n
theorem X.andr (hx : get tm x = .it .u8 A1) (hy : get tm y = .it .u8 B1) (n : EvD F (evLs clr r ⟨upd tm d (.it .u8 (andI A1 B1)), lo, hp⟩ k) R) : EvD F (evLs clr (⟨some d, g, us, .bin q .and x y⟩ :: r) ⟨tm, lo, hp⟩ k) R := by
  have e : evLs clr (⟨some d, g, us, .bin q .and x y⟩ :: r) ⟨tm, lo, hp⟩ k = binD hp q .and (get tm x) (get tm y) (fun v => forceV (fun v => evLs clr r ⟨upd tm d v, lo, hp⟩ k) v) := rfl
  rw [e, hx, hy]; exact n
theorem X.shl {kk : IntKind} {s : Nat} {p : Int} (hx : get tm x = .it .i64 A1) (hy : get tm y = .it kk (Int.ofNat s)) (hs : Int.ofNat (2 ^ Nat.min s 64) = p) (n : EvD F (evLs clr r ⟨upd tm d (.it .i64 (wr .i64 (A1 * p))), lo, hp⟩ k) R) :
    EvD F (evLs clr (⟨some d, g, us, .bin q .shl x y⟩ :: r) ⟨tm, lo, hp⟩ k) R := by
  subst hs
  have e : evLs clr (⟨some d, g, us, .bin q .shl x y⟩ :: r) ⟨tm, lo, hp⟩ k = binD hp q .shl (get tm x) (get tm y) (fun v => forceV (fun v => evLs clr r ⟨upd tm d v, lo, hp⟩ k) v) := rfl
  rw [e, hx, hy]
  exact .chk (by rw [ilt_eq]; rfl) n
theorem EvC.ofRw {own : Bool} {f : Nat} (dd : DFn) {ys : List V} {w : V} {hp' : Hp} (h1 : F f = some dd.den) (h2 : dd.md = .rw) (h3 : Nat.beq ys.length dd.ps.length = true) (h4 : EvD F (stepD dd ys hp) (Rt w hp')) : EvC F own f ys hp (.ret w hp') := by
  rw [stepD_eq] at h4
  exact EvC.rw h1 h2 h3 h4 rfl
end

theorem fresh_cons {t d : Nat} {us : List Nat} {tm : Tm} (h : isLp (tm t) = false) (r : fresh us tm d = true) : fresh (t :: us) tm d = true := by
  unfold fresh
  cases e : tm t <;> first | exact r | (rw [e] at h; cases h)
section
variable {F : Nat → Option Ev.Fn} {R : R} {k : Ev.R → D} {clr : List Nat} {tm : Tm} {lo : Lo} {hp : Hp} {r : List DOp} {us : List Nat} {g : Option (Nat × Bool)}
/-- a box is written: one cell -/
theorem X.stlB {a x : A} {w : V} {t off : Nat} {cs cs' : List V} (hx : get tm x = w) (hc : w.cells = [w]) (hkp : w.keep = true) (ha : get tm a = .lp t off) (hl : lo t = some cs) (h3 : fresh us tm t = true) (h4 : off + 1 ≤ cs.length) (hcs : over off [w] cs = cs')
    (nx : EvD F (evLs clr r ⟨tm, lset lo t cs', hp⟩ k) R) : EvD F (evLs clr (⟨none, g, us, .sto 1 a x⟩ :: r) ⟨tm, lo, hp⟩ k) R :=
  X.stl hx ha hl (by rw [hc]; rfl) (by rw [hc]; simp [hkp]) h3 (by rw [hc, bleD]; exact decide_eq_true h4) (by rw [hc]; exact hcs) nx
end

/-! the same by functions -/
def slv (v : V) (a b : Nat) : V := (sliceV v a b).getD .ns
def pw (v : V) (j : Nat) : V := match v with | .vs _ es => .ip (es.getD j []) | .hs id i _ => .pt id (i + j) 0 | _ => .ns
def apv (hp : Hp) (l : List Int) : V := if l = [] then .ns else .hs hp.next 0 l.length
def aph (hp : Hp) (l : List Int) : Hp := if l = [] then hp else hnew hp ⟨1, false, bs l⟩
theorem slv_lp (v : V) (a b : Nat) : isLp (slv v a b) = false := by cases v <;> rfl
theorem pw_lp (v : V) (j : Nat) : isLp (pw v j) = false := by cases v <;> rfl
theorem apv_lp (hp : Hp) (l : List Int) : isLp (apv hp l) = false := by unfold apv; split <;> rfl
theorem apv_cells (hp : Hp) (l : List Int) : (apv hp l).cells = [apv hp l] := by unfold apv; split <;> rfl
theorem apv_keep (hp : Hp) (l : List Int) : (apv hp l).keep = true := by unfold apv; split <;> rfl
theorem aph_lim (hp : Hp) (l : List Int) : (aph hp l).lim = hp.lim := by unfold aph; split <;> rfl
theorem aph_next (hp : Hp) (l : List Int) : hp.next ≤ (aph hp l).next := by
  unfold aph; split
  · exact Nat.le_refl _
  · rw [hnew_next]; omega
theorem aph_get {hp : Hp} (hN : Nil hp) (l : List Int) {j : Nat} {b : Bk} (h : hget hp j = some b) : hget (aph hp l) j = some b := by
  unfold aph; split
  · exact h
  · rw [hget_old (fun e => by rw [e, hN _ (Nat.le_refl _)] at h; cases h)]; exact h
theorem aph_nil {hp : Hp} (hN : Nil hp) (l : List Int) : Nil (aph hp l) := by
  unfold aph; split
  · exact hN
  · exact hN.new _
theorem aph_ex {hp : Hp} (hN : Nil hp) (l : List Int) (Q : Nat) : Ex hp (aph hp l) Q :=
  ⟨aph_next hp l, aph_lim hp l, fun j b _ h => aph_get hN l h⟩
theorem apv_by {hp : Hp} (hlim : hp.lim ≤ hp.next) (l : List Int) : By (aph hp l) (apv hp l) l := by
  unfold apv aph
  by_cases h : l = []
  · subst h; exact .ns hp
  · rw [if_neg h, if_neg h]
    exact .new (by rw [hnew_next]; omega) (by rw [hnew_lim]; exact hlim) (hget_new _ _)
section
variable {F : Nat → Option Ev.Fn} {R : R} {k : Ev.R → D} {clr : List Nat} {tm : Tm} {lo : Lo} {hp : Hp} {r : List DOp} {us : List Nat} {g : Option (Nat × Bool)} {d : Nat} {v : V} {l : List Int}
theorem By.slv (h : By hp v l) {a b : Nat} (h1 : a ≤ b) (h2 : b ≤ l.length) : By hp (slv v a b) ((l.drop a).take (b - a)) := by
  obtain ⟨v', e, h'⟩ := h.slice h1 h2
  unfold Ev.slv; rw [e]; exact h'
theorem X.slcE {x : A} {o1 o2 : Option A} {a b : Nat} (hx : get tm x = v) (hB : By hp v l) (h1 : bnd tm 0 o1 a) (h2 : bnd tm l.length o2 b) (hab : a ≤ b) (hb : b ≤ l.length)
    (nx : EvD F (evLs clr r ⟨upd tm d (slv v a b), lo, hp⟩ k) R) : EvD F (evLs clr (⟨some d, g, us, .slc false 1 x o1 o2⟩ :: r) ⟨tm, lo, hp⟩ k) R := by
  have e : evLs clr (⟨some d, g, us, .slc false 1 x o1 o2⟩ :: r) ⟨tm, lo, hp⟩ k = szD hp 1 (get tm x) (oneD (lenOf false (get tm x)) fun n => boundD tm 0 o1 fun l => boundD tm n o2 fun h =>
      .chk (Nat.ble l h) (.chk (Nat.ble h n) (oneD (sliceV (get tm x) l h) fun v => forceV (fun v => evLs clr r ⟨upd tm d v, lo, hp⟩ k) v))) := rfl
  obtain ⟨v', e1, e2⟩ := hB.slice hab hb
  have e3 : slv v a b = v' := by unfold slv; rw [e1]; rfl
  rw [e3] at nx
  rw [e, hx, hB.sz, hB.len]
  show EvD F (boundD tm 0 o1 fun a => boundD tm l.length o2 fun h => .chk (Nat.ble a h) (.chk (Nat.ble h l.length) (oneD (sliceV v a h) fun v => forceV (fun v => evLs clr r ⟨upd tm d v, lo, hp⟩ k) v))) R
  apply bnd_D h1
  show EvD F (boundD tm l.length o2 fun h => .chk (Nat.ble a h) (.chk (Nat.ble h l.length) (oneD (sliceV v a h) fun v => forceV (fun v => evLs clr r ⟨upd tm d v, lo, hp⟩ k) v))) R
  apply bnd_D h2
  refine .chk (by rw [bleD]; exact decide_eq_true hab) (.chk (by rw [bleD]; exact decide_eq_true hb) ?_)
  rw [e1]
  show EvD F (forceV (fun v => evLs clr r ⟨upd tm d v, lo, hp⟩ k) v') R
  rw [forceV_eq]; exact nx
theorem By.pv (hB : By hp v l) {j : Nat} (hj : j < l.length) : Pv hp (pw v j) (l[j]?.getD 0) := by
  rcases hB with ⟨rfl, rfl⟩ | rfl | ⟨id, i, fr, rows, rfl, q1, q2, q3, q4, q5⟩
  · simp at hj
  · exact .inl (by show V.ip ((bs l).getD j []) = _; rw [bs_getD hj])
  · refine .inr ⟨id, i + j, _, rfl, q3, by rw [bs_length]; omega, ?_⟩
    rw [bs_getD (by omega)]
    have : l[j]? = rows[i + j]? := by
      conv => lhs; rw [← q5]
      rw [List.getElem?_take_of_lt hj, List.getElem?_drop]
    rw [this]
theorem X.iaE {x ix : A} {kk : IntKind} {j : Nat} (hx : get tm x = v) (hB : By hp v l) (hi : get tm ix = .it kk (Int.ofNat j)) (hj : j < l.length)
    (nx : EvD F (evLs clr r ⟨upd tm d (pw v j), lo, hp⟩ k) R) : EvD F (evLs clr (⟨some d, g, us, .ias 1 x ix⟩ :: r) ⟨tm, lo, hp⟩ k) R := by
  rcases hB with ⟨rfl, rfl⟩ | rfl | ⟨id, i, fr, rows, rfl, q1, q2, q3, q4, q5⟩
  · simp at hj
  · exact X.iav hx hi (by rw [bs_length]; exact hj) rfl nx
  · exact X.iah hx hi q3 rfl hj nx
theorem X.ldE {a : A} {j : Nat} (ha : get tm a = pw v j) (hB : By hp v l) (hj : j < l.length) (nx : EvD F (evLs clr r ⟨upd tm d (.it .u8 (l[j]?.getD 0)), lo, hp⟩ k) R) :
    EvD F (evLs clr (⟨some d, g, us, .ld 1 false a⟩ :: r) ⟨tm, lo, hp⟩ k) R := X.ldB ha (hB.pv hj) nx
theorem X.apE {bytes : Nat} {x y : A} (hx : get tm x = .ns) (hy : get tm y = v) (hB : By hp v l) (h2 : l.length * bytes ≤ 140737488355328) (nx : EvD F (evLs clr r ⟨upd tm d (apv hp l), lo, aph hp l⟩ k) R) :
    EvD F (evLs clr (⟨some d, g, us, .app 1 bytes x y⟩ :: r) ⟨tm, lo, hp⟩ k) R := by
  unfold apv aph at nx
  by_cases h : l = []
  · subst h
    exact X.ape hx hy hB.els rfl nx
  · rw [if_neg h, if_neg h] at nx
    refine X.apn hx hy hB.els (by simp [bs]; exact h) (by rw [bleD, bs_length]; exact decide_eq_true h2) rfl ?_
    rw [bs_length]
    exact nx
end

theorem notLp_eq {v : V} (h : isLp v = false) (K : V → D) : notLpD v K = K v := by cases v <;> first | rfl | cases h
section
variable {F : Nat → Option Ev.Fn} {tm : Tm} {lo : Lo} {hp : Hp}
theorem X.fin_t {dd : DFn} {t : Nat} {v : V} {hp' : Hp} (hr : dd.res = [.tmp t]) (ht : tm t = v) (hl : isLp v = false) (hh : hp = hp') : EvD F (fK dd (.ret ⟨tm, lo, hp⟩)) (Rt v hp') := by
  subst hh
  show EvD F (resultsD ⟨tm, lo, hp⟩ dd.res fun vs => .done (.ret ⟨fun _ => tuple vs, fun _ => none, hp⟩)) _
  rw [hr]
  show EvD F (notLpD (tm t) fun v => .done (.ret ⟨fun _ => tuple [v], fun _ => none, hp⟩)) _
  rw [ht, notLp_eq hl]
  exact .done _
/-- two results: a slot, a box's cells -/
theorem X.fin_tc {dd : DFn} {t u n b : Nat} {v : V} {cs : List V} {hp' : Hp} (hr : dd.res = [.tmp t, .cell u n true]) (ht : tm t = v) (hl : isLp v = false) (hu : tm u = .lp b 0) (hb : lo b = some cs) (hn : cs.length = n) (hh : hp = hp') :
    EvD F (fK dd (.ret ⟨tm, lo, hp⟩)) (Rt (.tu [v, .ag cs]) hp') := by
  subst hh; subst hn
  show EvD F (resultsD ⟨tm, lo, hp⟩ dd.res fun vs => .done (.ret ⟨fun _ => tuple vs, fun _ => none, hp⟩)) _
  rw [hr]
  show EvD F (notLpD (tm t) fun v => loadD ⟨tm, lo, hp⟩ cs.length (tm u) fun cs' => .done (.ret ⟨fun _ => tuple [v, .ag cs'], fun _ => none, hp⟩)) _
  rw [ht, notLp_eq hl, hu]
  show EvD F (match lo b with | some cs' => cutD cs.length 0 cs' fun cs' => .done (.ret ⟨fun _ => tuple [v, .ag cs'], fun _ => none, hp⟩) | none => .bad) _
  rw [hb]
  refine .chk (by rw [bleD]; simp) ?_
  rw [List.drop_zero, List.take_length]
  exact .done _
end

/-! behind a copy of one's own -/
def apv2 (hp : Hp) (l m : List Int) : V := if l = [] then apv hp m else .hs (hp.next + 1) 0 (l.length + m.length)
def aph2 (hp : Hp) (l m : List Int) : Hp := if l = [] then aph hp m else hnew (hset (hnew hp ⟨1, false, bs l⟩) hp.next none) ⟨1, false, bs (l ++ m)⟩
section
variable {hp : Hp} {l m : List Int}
theorem apv2_lp : isLp (apv2 hp l m) = false := by
  unfold apv2; split
  · exact apv_lp _ _
  · rfl
theorem aph2_lim : (aph2 hp l m).lim = hp.lim := by
  unfold aph2; split
  · exact aph_lim _ _
  · rfl
theorem aph2_next : hp.next ≤ (aph2 hp l m).next := by
  unfold aph2; split
  · exact aph_next _ _
  · rw [hnew_next, hset_next, hnew_next]; omega
theorem aph2_get (hN : Nil hp) {j : Nat} {b : Bk} (h : hget hp j = some b) : hget (aph2 hp l m) j = some b := by
  unfold aph2; split
  · exact aph_get hN _ h
  · have hj : j < hp.next := by
      rcases Nat.lt_or_ge j hp.next with q | q
      · exact q
      · rw [hN j q] at h; cases h
    rw [hget_old (by rw [hset_next, hnew_next]; omega), hget_other (by omega), hget_old (by omega)]; exact h
theorem aph2_nil (hN : Nil hp) : Nil (aph2 hp l m) := by
  unfold aph2; split
  · exact aph_nil hN _
  · exact ((hN.new _).set (by rw [hnew_next]; omega) _).new _
theorem aph2_ex (hN : Nil hp) (Q : Nat) : Ex hp (aph2 hp l m) Q := ⟨aph2_next, aph2_lim, fun j b _ h => aph2_get hN h⟩
theorem apv2_by (hlim : hp.lim ≤ hp.next) : By (aph2 hp l m) (apv2 hp l m) (l ++ m) := by
  unfold apv2 aph2
  by_cases h : l = []
  · subst h; exact apv_by hlim m
  · rw [if_neg h, if_neg h]
    have := By.new (hp := hnew (hset (hnew hp ⟨1, false, bs l⟩) hp.next none) ⟨1, false, bs (l ++ m)⟩) (id := hp.next + 1) (fr := false) (l := l ++ m) (by rw [hnew_next, hset_next, hnew_next]; omega)
      (by show hp.lim ≤ hp.next + 1; omega) (hget_new (hset (hnew hp ⟨1, false, bs l⟩) hp.next none) _)
    rw [List.length_append] at this
    exact this
end
section
variable {F : Nat → Option Ev.Fn} {R : R} {k : Ev.R → D} {clr : List Nat} {tm : Tm} {lo : Lo} {hp : Hp} {r : List DOp} {us : List Nat} {g : Option (Nat × Bool)} {d : Nat} {v : V} {l m : List Int}
theorem X.apE2 {x y : A} (hx : get tm x = apv hp l) (hy : get tm y = v) (hB : By (aph hp l) v m) (hlim : hp.lim ≤ hp.next) (hu : us = []) (h2 : l.length + m.length ≤ 100000000)
    (nx : EvD F (evLs clr r ⟨upd tm d (apv2 hp l m), lo, aph2 hp l m⟩ k) R) : EvD F (evLs clr (⟨some d, g, us, .app 1 1 x y⟩ :: r) ⟨tm, lo, aph hp l⟩ k) R := by
  subst hu
  unfold apv2 aph2 at nx
  by_cases h : l = []
  · subst h
    exact X.apE (hp := hp) hx hy hB (by omega) nx
  · rw [if_neg h, if_neg h] at nx
    have ex : apv hp l = .hs hp.next 0 l.length := by unfold apv; rw [if_neg h]
    have eh : aph hp l = hnew hp ⟨1, false, bs l⟩ := by unfold aph; rw [if_neg h]
    rw [ex] at hx
    rw [eh] at hB ⊢
    refine X.apf hx hy hB.els (hget_new _ _) (by rw [bleD, hnew_lim]; exact decide_eq_true hlim) rfl (by rw [bs_length]) (by rw [bleD, bs_length]; exact decide_eq_true (by unfold maxB; omega)) (id' := hp.next + 1) (hnew_next _ _) ?_
    rw [bs_length, bs_append]
    exact nx
end

/-- bytes' objects are as they were, but for whether they may be written -/
structure Ex1 (hp hp' : Hp) : Prop where
  next : hp.next ≤ hp'.next
  lim : hp'.lim = hp.lim
  get : ∀ j b, hget hp j = some b → b.sz = 1 → ∃ fr, hget hp' j = some ⟨1, fr, b.es⟩
theorem Ex.to1 {hp hp' : Hp} {Q : Nat} (h : Ex hp hp' Q) (hQ : ∀ b, hget hp Q = some b → b.sz ≠ 1) : Ex1 hp hp' :=
  ⟨h.next, h.lim, fun j b hb h1 => ⟨b.fr, by rw [h.get j b (fun e => by subst e; exact hQ b hb h1) hb, ← h1]⟩⟩
theorem Ex1.trans {a b c : Hp} (h : Ex1 a b) (h' : Ex1 b c) : Ex1 a c :=
  ⟨Nat.le_trans h.next h'.next, h'.lim.trans h.lim, fun j x hx h1 => by
    obtain ⟨f, e⟩ := h.get j x hx h1
    exact h'.get j ⟨1, f, x.es⟩ e rfl⟩
theorem Ex1.new {hp : Hp} (hN : Nil hp) (b : Bk) : Ex1 hp (hnew hp b) := ⟨by rw [hnew_next]; omega, rfl, fun j x hx h1 => ⟨x.fr, by
  rw [hget_old (fun e => by rw [e, hN _ (Nat.le_refl _)] at hx; cases hx), hx, ← h1]⟩⟩
theorem Ex1.kill {hp : Hp} {id : Nat} {b : Option Bk} (h : ∀ x, hget hp id = some x → x.sz ≠ 1) : Ex1 hp (hset hp id b) := ⟨Nat.le_refl _, rfl, fun j x hx h1 => ⟨x.fr, by
  rw [hget_other (fun e => by subst e; exact h x hx h1), hx, ← h1]⟩⟩
theorem By.mono1 {hp hp' : Hp} {v : V} {l : List Int} (h : By hp v l) (e : Ex1 hp hp') : By hp' v l := by
  rcases h with h | h | ⟨id, i, fr, rows, rfl, q1, q2, q3, q4, q5⟩
  · exact .inl h
  · exact .inr (.inl h)
  · obtain ⟨f, x⟩ := e.get id _ q3 rfl
    exact .inr (.inr ⟨id, i, f, rows, rfl, Nat.lt_of_lt_of_le q1 e.next, by rw [e.lim]; exact q2, x, q4, q5⟩)

theorem fill1 {row z : List V} {n : Nat} (h4 : row.length = n) (hall : row.all V.keep = true) : fillE n [(0, .ag row)] [z] = some [row] := by
  have e1 : Nat.beq (V.ag row).cells.length n = true := by show Nat.beq row.length n = true; rw [h4]; exact Nat.beq_refl _
  have e2 : (V.ag row).cells.all V.keep = true := hall
  unfold fillE
  rw [e1, e2]
  rfl
theorem Ex.kill {a b : Hp} {Q id : Nat} {x : Option Bk} (h : Ex a b Q) (hN : Nil a) (hid : a.next ≤ id) : Ex a (hset b id x) Q := ⟨by rw [hset_next]; exact h.next, by rw [hset_lim]; exact h.lim, fun j y hj hy => by
  rw [hget_other (fun e => by subst e; rw [hN j hid] at hy; cases hy)]; exact h.get j y hj hy⟩

/-- what closing leaves: objects are as they were; what is no reader may be written no more -/
structure Ez (hp hp' : Hp) : Prop where
  next : hp'.next = hp.next
  lim : hp'.lim = hp.lim
  get : ∀ j b, hget hp j = some b → ∃ fr, hget hp' j = some ⟨b.sz, fr, b.es⟩ ∧ (b.sz = 6 → fr = b.fr)
  nil : Nil hp → Nil hp'
theorem Ez.refl (hp : Hp) : Ez hp hp := ⟨rfl, rfl, fun j b h => ⟨b.fr, h, fun _ => rfl⟩, id⟩
theorem Ez.trans {a b c : Hp} (h : Ez a b) (h' : Ez b c) : Ez a c := ⟨h'.next.trans h.next, h'.lim.trans h.lim, fun j x hx => by
  obtain ⟨f, e1, e2⟩ := h.get j x hx
  obtain ⟨f', e3, e4⟩ := h'.get j _ e1
  exact ⟨f', e3, fun q => (e4 q).trans (e2 q)⟩, fun n => h'.nil (h.nil n)⟩
theorem Ez.freeze {hp : Hp} {id sz : Nat} {fr : Bool} {es : List (List V)} (h : hget hp id = some ⟨sz, fr, es⟩) (h6 : sz ≠ 6) : Ez hp (hset hp id (some ⟨sz, true, es⟩)) :=
  ⟨rfl, rfl, fun j b hb => by
    by_cases q : j = id
    · subst q
      rw [h] at hb; cases hb
      exact ⟨true, hget_set _ _ _, fun e => absurd e h6⟩
    · exact ⟨b.fr, by rw [hget_other q]; exact hb, fun _ => rfl⟩, fun n j hj => by
    rw [hset_next] at hj
    by_cases q : j = id
    · subst q; rw [n j hj] at h; cases h
    · rw [hget_other q]; exact n j hj⟩
theorem Ez.rd {hp hp' : Hp} {Q : Nat} {row : List V} (e : Ez hp hp') (h : hget hp Q = some ⟨6, false, [row]⟩) : hget hp' Q = some ⟨6, false, [row]⟩ := by
  obtain ⟨f, e1, e2⟩ := e.get Q _ h
  rw [e1, e2 rfl]
theorem Ez.to1 {hp hp' : Hp} (e : Ez hp hp') : Ex1 hp hp' := ⟨by rw [e.next]; exact Nat.le_refl _, e.lim, fun j b hb h1 => by
  obtain ⟨f, e1, _⟩ := e.get j b hb
  exact ⟨f, by rw [e1, h1]⟩⟩
theorem close_by {hp : Hp} {v : V} {l : List Int} (h : By hp v l) : ∃ hp', Ez hp hp' ∧ ∀ n, l.length + 5 ≤ n → closeC n (.sl [.one]) v hp = some (.vs 1 (bs l), hp') := by
  rcases h with ⟨rfl, rfl⟩ | rfl | ⟨id, i, fr, rows, rfl, q1, q2, q3, q4, q5⟩
  · refine ⟨hp, .refl _, fun n hn => ?_⟩
    cases n with
    | zero => omega
    | succ n => rfl
  · refine ⟨hp, .refl _, fun n hn => ?_⟩
    cases n with
    | zero => omega
    | succ n => exact clo_vs [.one] _ n hp
  · refine ⟨_, .freeze q3 (by decide), fun n hn => ?_⟩
    have e : ((bs rows).drop i).take l.length = bs l := by rw [bs_drop, bs_take, q5]
    have := closeC_hs (ts := [.one]) (len := l.length) q3 q2 rfl (by rw [bs_length]; exact q4) (by rw [e]; exact bs_clo l) (n := n) (by simp; omega)
    rw [e] at this
    exact this

section
variable {F : Nat → Option Ev.Fn} {R : R} {k : Ev.R → D} {clr : List Nat} {tm : Tm} {lo : Lo} {hp : Hp} {r : List DOp} {us : List Nat} {g : Option (Nat × Bool)} {d : Nat}
theorem X.ext {x : A} {n : Nat} {xs : List V} {v : V} (hx : get tm x = .tu xs) (hn : xs[n]? = some v) (hl : isLp v = false) (nx : EvD F (evLs clr r ⟨upd tm d v, lo, hp⟩ k) R) : EvD F (evLs clr (⟨some d, g, us, .ext x n⟩ :: r) ⟨tm, lo, hp⟩ k) R := by
  have e : evLs clr (⟨some d, g, us, .ext x n⟩ :: r) ⟨tm, lo, hp⟩ k = match get tm x with | .tu xs => oneD xs[n]? fun v => notLpD v fun v => forceV (fun v => evLs clr r ⟨upd tm d v, lo, hp⟩ k) v | _ => .bad := rfl
  rw [e, hx]
  show EvD F (oneD xs[n]? fun v => notLpD v fun v => forceV (fun v => evLs clr r ⟨upd tm d v, lo, hp⟩ k) v) R
  rw [hn]
  show EvD F (notLpD v fun v => forceV (fun v => evLs clr r ⟨upd tm d v, lo, hp⟩ k) v) R
  rw [notLp_eq hl, forceV_eq]; exact nx
end
end Ev
