import Derived.Test.YtgofadnggipkpaaEvKeep
namespace Ev
open Go

/-- a piece of a run, where no panic is let by: one value, one state -/
def DO (call : Call) (L : Nat) (F : FF) (v : V) (s : St) : Prop := ∀ k kp, (∀ v s, run call L (kp v s) = .bad) → run call L (F k kp) = run call L (k v s)
def DBad (call : Call) (L : Nat) (F : FF) : Prop := ∀ k kp, (∀ v s, run call L (kp v s) = .bad) → run call L (F k kp) = .bad

/-- a piece of a run in which nothing panics: it ends in a state of which p holds -/
def KO (call : Call) (L : Nat) (p : St → Prop) (F : FF) : Prop := (∃ v s, p s ∧ DO call L F v s) ∨ DBad call L F

section
variable {call : Call} {L : Nat} {p : St → Prop}

theorem KO.bad {F : FF} (h : ∀ k kp, F k kp = .bad) : KO call L p F := .inr fun k kp _ => by rw [h]; rfl
theorem KO.val {v : V} {s : St} (h : p s) : KO call L p (fun k _ => k v s) := .inl ⟨v, s, h, fun _ _ _ => rfl⟩
theorem KO.chk {b : Bool} {F : FF} (h : KO call L p F) : KO call L p (fun k kp => .chk b (F k kp)) := by
  cases b with
  | false => exact .inr fun _ _ _ => rfl
  | true =>
    rcases h with ⟨v, s, hp, h⟩ | h
    · exact .inl ⟨v, s, hp, fun k kp hk => h k kp hk⟩
    · exact .inr fun k kp hk => h k kp hk
theorem KO.br {b : Bool} {F G : FF} (h : KO call L p F) (h' : KO call L p G) : KO call L p (fun k kp => .br b (F k kp) (G k kp)) := by
  cases b with
  | false =>
    rcases h' with ⟨v, s, hp, h⟩ | h
    · exact .inl ⟨v, s, hp, fun k kp hk => h k kp hk⟩
    · exact .inr fun k kp hk => h k kp hk
  | true =>
    rcases h with ⟨v, s, hp, h⟩ | h
    · exact .inl ⟨v, s, hp, fun k kp hk => h k kp hk⟩
    · exact .inr fun k kp hk => h k kp hk
theorem KO.bif {b : Bool} {F G : FF} (h : b = true → KO call L p F) (h' : b = false → KO call L p G) : KO call L p (fun k kp => bif b then F k kp else G k kp) := by
  cases b with
  | false => exact h' rfl
  | true => exact h rfl
theorem KO.oneD {α : Type} {o : Option α} {f : α → FF} (h : ∀ v, KO call L p (f v)) : KO call L p (fun k kp => Ev.oneD o fun v => f v k kp) := by
  cases o with
  | none => exact .bad fun k kp => rfl
  | some v => exact h v
theorem KO.nat {v : V} {f : Nat → FF} (h : ∀ n, KO call L p (f n)) : KO call L p (fun k kp => natD v fun v => f v k kp) := by
  cases v <;> first | exact .chk (h _) | exact .bad fun k kp => rfl
theorem KO.elems {hp : Hp} {n : Nat} {v : V} {f : List (List V) → FF} (h : ∀ cs, KO call L p (f cs)) : KO call L p (fun k kp => elemsD hp n v fun cs => f cs k kp) := by
  cases v with
  | ns => exact h []
  | vs m es => exact .bif (F := f es) (G := fun _ _ => .bad) (fun _ => h es) (fun _ => .bad fun _ _ => rfl)
  | hs id i len =>
    simp only [elemsD]
    cases hg : hget hp id with
    | none => exact .bad fun _ _ => rfl
    | some bk => exact .bif (F := fun k kp => .chk (Nat.ble (i + len) bk.es.length) (f ((bk.es.drop i).take len) k kp)) (G := fun _ _ => .bad) (fun _ => .chk (h _)) (fun _ => .bad fun _ _ => rfl)
  | _ => exact .bad fun _ _ => rfl
theorem KO.rows {hp : Hp} {n : Nat} {v : V} {f : List (List V) → FF} (h : ∀ cs, KO call L p (f cs)) : KO call L p (fun k kp => rowsD hp n v fun cs => f cs k kp) := by
  have he := KO.elems (call := call) (L := L) (p := p) (hp := hp) (n := n) (v := v) h
  cases v with
  | st l => exact .bif (F := f _) (G := fun _ _ => .bad) (fun _ => h _) (fun _ => .bad fun _ _ => rfl)
  | _ => exact he

/-- what is read at u stays -/
theorem Same.new {st : St} (hn : HpNil st.hp) (b : Bk) (u : V) : Same st (mk st b) u := by
  cases u <;> first | trivial | rfl | exact fun bk h => HpKeep.new hn b _ bk h
theorem Same.box {st : St} {us : List Nat} {d t : Nat} {cs : List V} (hf : fresh us st.tm d = true) (ht : t ∈ us) : Same st (st.setLo d cs) (st.tm t) := by
  cases h : st.tm t with
  | lp e off =>
    have : e ≠ d := fun q => fresh_ne hf ht off (by rw [h, q])
    show lset st.lo d cs e = st.lo e
    simp [lset, beqF this]
  | pt => exact fun bk h => ⟨bk, h, rfl, rfl⟩
  | hs => exact fun bk h => ⟨bk, h, rfl, rfl⟩
  | mp => exact fun bk h => ⟨bk, h, rfl, rfl⟩
  | _ => trivial
theorem Same.set {st : St} {us : List Nat} {id t : Nat} {b : Option Bk} (hf : freshH us st.tm id = true) (ht : t ∈ us) : Same st (st.setHp (hset st.hp id b)) (st.tm t) := by
  obtain ⟨n1, n2, n3⟩ := freshH_ne hf ht
  cases h : st.tm t with
  | lp e off => rfl
  | pt e i off =>
    have : e ≠ id := fun q => n1 i off (by rw [h, q])
    exact fun bk h => ⟨bk, by simp only [St.setHp, hget_hset, this, if_false]; exact h, rfl, rfl⟩
  | hs e i off =>
    have : e ≠ id := fun q => n2 i off (by rw [h, q])
    exact fun bk h => ⟨bk, by simp only [St.setHp, hget_hset, this, if_false]; exact h, rfl, rfl⟩
  | mp e =>
    have : e ≠ id := fun q => n3 (by rw [h, q])
    exact fun bk h => ⟨bk, by simp only [St.setHp, hget_hset, this, if_false]; exact h, rfl, rfl⟩
  | _ => trivial
theorem Same.setNew {st : St} (hn : HpNil st.hp) {us : List Nat} {id t : Nat} {b : Option Bk} {bk2 : Bk} (hf : freshH us st.tm id = true) (ht : t ∈ us) : Same st (st.setHp (hnew (hset st.hp id b) bk2)) (st.tm t) := by
  obtain ⟨n1, n2, n3⟩ := freshH_ne hf ht
  have key : ∀ e, e ≠ id → ∀ bk, hget st.hp e = some bk → ∃ bk', hget (hnew (hset st.hp id b) bk2) e = some bk' ∧ bk'.sz = bk.sz ∧ bk'.es = bk.es := fun e he bk h => by
    have h2 : e ≠ (hset st.hp id b).next := fun q => by
      have : (hset st.hp id b).next = st.hp.next := rfl
      rw [hn e (by omega)] at h; cases h
    exact ⟨bk, by simp only [hget_hnew, h2, if_false, hget_hset, he]; exact h, rfl, rfl⟩
  cases h : st.tm t with
  | lp e off => rfl
  | pt e i off => exact key e (fun q => n1 i off (by rw [h, q]))
  | hs e i off => exact key e (fun q => n2 i off (by rw [h, q]))
  | mp e => exact key e (fun q => n3 (by rw [h, q]))
  | _ => trivial
theorem Same.callK {st : St} {hp' : Hp} (hk : HpKeep st.hp hp') (u : V) : Same st (st.setHp hp') u := by
  cases u <;> first | trivial | rfl | exact fun bk h => hk _ bk h

theorem KO.app {us : List Nat} {st : St} (hn : HpNil st.hp) {sz bytes : Nat} {v : V} {new : List (List V)} {md : Bool} (hmd : md = true) :
    KO call L (fun s => ∀ u, (md = true → ∃ t, t ∈ us ∧ u = st.tm t) → Same st s u) (fun k _ => appendD us st sz bytes v new k) := by
  show KO call L _ (fun k _ => appendD us st sz bytes v new k)
  cases v with
  | ns =>
    cases new with
    | nil => exact .val fun u _ => by cases u <;> first | trivial | rfl | exact fun bk h => ⟨bk, h, rfl, rfl⟩
    | cons => exact .chk (.val fun u _ => Same.new hn _ u)
  | hs id i n =>
    simp only [appendD]
    cases hget st.hp id with
    | none => exact .bad fun _ _ => rfl
    | some b =>
      simp only []
      cases b.fr with
      | true => exact .bad fun _ _ => rfl
      | false =>
        simp only [cond_false]
        cases Nat.blt id st.hp.lim with
        | true => exact .bad fun _ _ => rfl
        | false =>
          simp only [cond_false]
          cases Nat.beq b.sz sz with
          | false => exact .bad fun _ _ => rfl
          | true =>
            simp only [cond_true]
            cases hf : freshH us st.tm id with
            | false => exact .bad fun _ _ => rfl
            | true =>
              simp only [cond_true]
              exact .chk (.chk (.val fun u hu => by obtain ⟨t, ht, rfl⟩ := hu hmd; exact Same.setNew hn hf ht))
  | vs m es =>
    exact .bif (F := fun k _ => .chk (Nat.beq new.length 0) (k (.vs m es) st)) (G := fun _ _ => .bad) (fun _ => .chk (.val fun u _ => by cases u <;> first | trivial | rfl | exact fun bk h => ⟨bk, h, rfl, rfl⟩)) (fun _ => .bad fun _ _ => rfl)
  | _ => exact .bad fun _ _ => rfl

/-- an operation leaves what others, that have no order with it, read -/
def I.minds : I → Bool
  | .alc _ | .box _ | .sto .. | .app .. | .apz .. | .cpy .. | .mup .. => true
  | _ => false

theorem keeps {i : I} {us clr : List Nat} {d : Nat} {st : St} (hn : HpNil st.hp) (he : i.easy = false) (hx : ∀ c xs, i ≠ .calv [] c xs) (hpn : ∀ x, i ≠ .pan x)
    (hc : ∀ own md f xs, i = .call own md f xs → KeepC call f) (hcv : ∀ fs f xs, i = .calv fs f xs → ∀ g, hasN fs g = true → KeepC call g) : KO call L (fun s => ∀ u, (i.minds = true → ∃ t, t ∈ us ∧ u = st.tm t) → Same st s u) (i.den us clr d st) := by
  show KO call L _ (fun k kp => i.den us clr d st k kp)
  cases i with
  | alc z => exact .bif (F := fun k _ => k (.lp d 0) (st.setLo d z)) (G := fun _ _ => .bad) (fun h => .val fun u hu => by obtain ⟨t, ht, rfl⟩ := hu rfl; exact Same.box h ht) (fun _ => .bad fun _ _ => rfl)
  | alh z => exact .val fun u _ => Same.new hn _ u
  | box x =>
    exact .bif (F := fun k _ => bif fresh us st.tm d then k (.lp d 0) (st.setLo d (get st.tm x).cells) else .bad) (G := fun _ _ => .bad)
      (fun _ => .bif (F := fun k _ => k (.lp d 0) (st.setLo d (get st.tm x).cells)) (G := fun _ _ => .bad) (fun h => .val fun u hu => by obtain ⟨t, ht, rfl⟩ := hu rfl; exact Same.box h ht) (fun _ => .bad fun _ _ => rfl)) (fun _ => .bad fun _ _ => rfl)
  | bxh x => exact .bif (F := fun k _ => k (.pt st.hp.next 0 0) (mk st ⟨(get st.tm x).cells.length, false, [(get st.tm x).cells]⟩)) (G := fun _ _ => .bad) (fun _ => .val fun u _ => Same.new hn _ u) (fun _ => .bad fun _ _ => rfl)
  | bsl sz es ps =>
    simp only [I.den, iBsl]
    cases fillE sz (ps.map fun (i, a) => (i, get st.tm a)) es with
    | none => exact .bad fun _ _ => rfl
    | some es => exact .val fun u _ => Same.new hn _ u
  | sto n a x =>
    simp only [I.den, iSto]
    refine .bif (F := fun k _ => bif (get st.tm x).cells.all V.keep then storeD us st (get st.tm x).cells (get st.tm a) fun s => k .un s else .bad) (G := fun _ _ => .bad) (fun _ => ?_) (fun _ => .bad fun _ _ => rfl)
    refine .bif (F := fun k _ => storeD us st (get st.tm x).cells (get st.tm a) fun s => k .un s) (G := fun _ _ => .bad) (fun _ => ?_) (fun _ => .bad fun _ _ => rfl)
    cases get st.tm a with
    | lp t off =>
      simp only [storeD]
      cases st.lo t with
      | none => exact .bad fun _ _ => rfl
      | some cs =>
        refine .bif (F := fun k _ => .chk (Nat.ble (off + (get st.tm x).cells.length) cs.length) (k .un (st.setLo t (over off (get st.tm x).cells cs)))) (G := fun _ _ => .bad) (fun h => .chk (.val fun u hu => by obtain ⟨t, ht, rfl⟩ := hu rfl; exact Same.box h ht)) (fun _ => .bad fun _ _ => rfl)
    | pt id i off =>
      simp only [storeD]
      cases hget st.hp id with
      | none => exact .bad fun _ _ => rfl
      | some b =>
        simp only []
        cases b.fr with
        | true => exact .bad fun _ _ => rfl
        | false =>
          simp only [cond_false]
          cases Nat.blt id st.hp.lim with
          | true => exact .bad fun _ _ => rfl
          | false =>
            simp only [cond_false]
            cases hf : freshH us st.tm id with
            | false => exact .bad fun _ _ => rfl
            | true =>
              simp only [cond_true]
              exact .chk (.chk (.val fun u hu => by obtain ⟨t, ht, rfl⟩ := hu rfl; exact Same.set hf ht))
    | _ => exact .bad fun _ _ => rfl
  | mks sz bytes z l c =>
    refine .nat (f := fun l k kp => natD (get st.tm c) fun c => .chk (Nat.ble l c) (.chk (Nat.ble c 9223372036854775807) (.chk (Nat.ble (c * bytes) maxB) (k (.hs st.hp.next 0 l) (mk st ⟨sz, false, List.replicate l z⟩))))) fun l => ?_
    exact .nat (f := fun c k kp => .chk (Nat.ble l c) (.chk (Nat.ble c 9223372036854775807) (.chk (Nat.ble (c * bytes) maxB) (k (.hs st.hp.next 0 l) (mk st ⟨sz, false, List.replicate l z⟩))))) fun c => .chk (.chk (.chk (.val fun u _ => Same.new hn _ u)))
  | cnv c x =>
    cases c with
    | s2b =>
      simp only [I.den, iCnv]
      cases get st.tm x with
      | st s => exact .val fun u _ => Same.new hn _ u
      | _ => exact .bad fun _ _ => rfl
    | _ => simp [I.easy, I.cl] at he
  | app sz bytes x y =>
    refine .rows (f := fun new k _ => appendD us st sz bytes (get st.tm x) new k) fun new => ?_
    exact KO.app hn rfl
  | apz x n =>
    refine .nat (f := fun n k _ => .chk (Nat.blt 0 n) (.chk (Nat.ble n maxB) (appendD us st 1 1 (get st.tm x) ((List.replicate n 0).map fun n => [byte n]) k))) fun n => ?_
    exact .chk (.chk (KO.app hn rfl))
  | cpy sz x y =>
    refine .elems (f := fun new k _ => cpyD us st sz new (get st.tm x) k) fun new => ?_
    show KO call L _ (fun k _ => cpyD us st sz new (get st.tm x) k)
    cases get st.tm x with
    | hs id i n =>
      simp only [cpyD]
      cases hget st.hp id with
      | none => exact .bad fun _ _ => rfl
      | some b =>
        simp only []
        cases b.fr with
        | true => exact .bad fun _ _ => rfl
        | false =>
          simp only [cond_false]
          cases Nat.blt id st.hp.lim with
          | true => exact .bad fun _ _ => rfl
          | false =>
            simp only [cond_false]
            cases Nat.beq b.sz sz with
            | false => exact .bad fun _ _ => rfl
            | true =>
              simp only [cond_true]
              cases hf : freshH us st.tm id with
              | false => exact .bad fun _ _ => rfl
              | true =>
                simp only [cond_true]
                exact .chk (.val fun u hu => by obtain ⟨t, ht, rfl⟩ := hu rfl; exact Same.set hf ht)
    | _ => exact .bad fun _ _ => rfl
  | mmk => exact .val fun u _ => Same.new hn _ u
  | mup x i v =>
    simp only [I.den, iMup]
    cases get st.tm i with
    | st l =>
      cases get st.tm x with
      | mp id =>
        simp only []
        cases hget st.hp id with
        | none => exact .bad fun _ _ => rfl
        | some b =>
          simp only []
          cases Nat.blt id st.hp.lim with
          | true => exact .bad fun _ _ => rfl
          | false =>
            simp only [cond_false]
            cases hf : freshH us st.tm id with
            | false => exact .bad fun _ _ => rfl
            | true =>
              simp only [cond_true]
              cases (get st.tm v).keep with
              | false => exact .bad fun _ _ => rfl
              | true => exact .val fun u hu => by obtain ⟨t, ht, rfl⟩ := hu rfl; exact Same.set hf ht
      | _ => exact .bad fun _ _ => rfl
    | _ => exact .bad fun _ _ => rfl
  | mrk x =>
    simp only [I.den, iMrk]
    cases get st.tm x with
    | hs id i n =>
      simp only []
      cases hget st.hp id with
      | none => exact .bad fun _ _ => rfl
      | some b =>
        simp only []
        cases b.fr with
        | true => exact .bad fun _ _ => rfl
        | false =>
          simp only [cond_false]
          cases Nat.beq b.sz 1 with
          | false => exact .bad fun _ _ => rfl
          | true => exact .chk (.val fun u _ => same_refl rfl rfl u)
    | _ => exact .bad fun _ _ => rfl
  | call own md f xs =>
    simp only [I.den, iCall, callD]
    refine .bif (F := fun _ _ => .bad) (G := fun k kp => .call own f (xs.map (get st.tm)) st.hp fun c => match c with
      | .bad => .bad
      | .ret v hp => k v (st.setHp hp)
      | .pan v hp => kp v (st.setHp hp)) (fun _ => .bad fun _ _ => rfl) (fun _ => ?_)
    cases hq : call own f (xs.map (get st.tm)) st.hp with
    | bad => exact .inr fun k kp hk => by simp only [run, forceL_eq, hq]
    | ret v hp => exact .inl ⟨v, st.setHp hp, fun u _ => Same.callK (hc own md f xs rfl own _ _ _ _ hn hq) u, fun k kp hk => by simp only [run, forceL_eq, hq]⟩
    | pan v hp => exact .inr fun k kp hk => by simp only [run, forceL_eq, hq]; exact hk _ _
  | calv fs c xs =>
    cases fs with
    | nil => exact absurd rfl (hx c xs)
    | cons a r =>
      simp only [I.den, iClv]
      cases get st.tm c with
      | fn f first cap =>
        refine .bif (F := fun k kp => callD false f (first ++ xs.map (get st.tm) ++ cap) st k kp) (G := fun _ _ => .bad) (fun hg => ?_) (fun _ => .bad fun _ _ => rfl)
        have hg : hasN (a :: r) f = true := hg
        simp only [callD]
        refine .bif (F := fun _ _ => .bad) (G := fun k kp => .call false f (first ++ xs.map (get st.tm) ++ cap) st.hp fun c => match c with
          | .bad => .bad
          | .ret v hp => k v (st.setHp hp)
          | .pan v hp => kp v (st.setHp hp)) (fun _ => .bad fun _ _ => rfl) (fun _ => ?_)
        cases hq : call false f (first ++ xs.map (get st.tm) ++ cap) st.hp with
        | bad => exact .inr fun k kp hk => by simp only [run, forceL_eq, hq]
        | ret v hp => exact .inl ⟨v, st.setHp hp, fun u _ => Same.callK (hcv _ c xs rfl f hg false _ _ _ _ hn hq) u, fun k kp hk => by simp only [run, forceL_eq, hq]⟩
        | pan v hp => exact .inr fun k kp hk => by simp only [run, forceL_eq, hq]; exact hk _ _
      | _ => exact .bad fun _ _ => rfl
  | pan x => exact absurd rfl (hpn x)
  | _ => simp [I.easy, I.cl] at he

/-- the calls that claim to change nothing do so -/
def CallsK (call : Call) (i : I) : Prop := (∀ own md f xs, i = .call own md f xs → md ≠ .rw → KeepC call f) ∧ ∀ fs f xs, i = .calv fs f xs → ∀ g, hasN fs g = true → KeepC call g

/-- an operation without panic: it gives one value, or nothing goes on -/
theorem ko_any {i : I} {us clr : List Nat} {d : Nat} {st : St} (hn : HpNil st.hp) (hc : CallsK call i) : KO call L (fun s => (i.easy = true → s = st) ∧
    (i.cl ≠ .x → ∀ u, (i.minds = true → ∃ t, t ∈ us ∧ u = st.tm t) → Same st s u)) (i.den us clr d st) := by
  by_cases he : i.easy = true
  · rcases easy_frame (call := call) (L := L) (st := st) (st' := st) (us := us) (us' := us) (clr := clr) (d := d) he (fun _ _ => rfl) (fun x _ => same_refl rfl rfl _) with h | ⟨v, h, _⟩
    · exact .inr fun k kp _ => h k kp
    · exact .inl ⟨v, st, ⟨fun _ => rfl, fun _ u _ => same_refl rfl rfl u⟩, fun k kp _ => h k kp⟩
  have hev : i.easy = false := by simpa using he
  have callx : ∀ own f xs, KO call L (fun s => (i.easy = true → s = st) ∧ (i.cl ≠ .x → ∀ u, (i.minds = true → ∃ t, t ∈ us ∧ u = st.tm t) → Same st s u)) (fun k kp => callD own f xs st k kp) ∨ i.cl ≠ .x := by
    intro own f xs
    by_cases hx : i.cl = .x
    · refine .inl ?_
      simp only [callD]
      refine .bif (F := fun _ _ => .bad) (G := fun k kp => .call own f xs st.hp fun c => match c with
        | .bad => .bad
        | .ret v hp => k v (st.setHp hp)
        | .pan v hp => kp v (st.setHp hp)) (fun _ => .bad fun _ _ => rfl) (fun _ => ?_)
      cases hq : call own f xs st.hp with
      | bad => exact .inr fun k kp hk => by simp only [run, forceL_eq, hq]
      | ret v hp => exact .inl ⟨v, st.setHp hp, ⟨fun q => absurd q he, fun q => absurd hx q⟩, fun k kp hk => by simp only [run, forceL_eq, hq]⟩
      | pan v hp => exact .inr fun k kp hk => by simp only [run, forceL_eq, hq]; exact hk _ _
    · exact .inr hx
  by_cases hx : i.cl = .x
  · show KO call L _ (fun k kp => i.den us clr d st k kp)
    cases i with
    | call own md f xs => exact (callx own f _).resolve_right (fun q => q hx)
    | calv fs f xs =>
      simp only [I.den, iClv]
      cases get st.tm f with
      | fn f first cap => exact .bif (F := fun k kp => callD false f (first ++ xs.map (get st.tm) ++ cap) st k kp) (G := fun _ _ => .bad) (fun _ => (callx false f _).resolve_right (fun q => q hx)) (fun _ => .bad fun _ _ => rfl)
      | _ => exact .bad fun _ _ => rfl
    | pan x =>
      simp only [I.den, iPan]
      cases get st.tm x with
      | fc t v => exact .inr fun k kp hk => hk _ _
      | _ => exact .bad fun _ _ => rfl
    | cnv c x => cases c <;> simp [I.cl] at hx
    | _ => simp [I.cl] at hx
  · rcases keeps (call := call) (L := L) (us := us) (clr := clr) (d := d) hn hev (fun c xs q => hx (by rw [q]; rfl)) (fun x q => hx (by rw [q]; rfl)) (fun own md f xs q => hc.1 own md f xs q fun qm => hx (by rw [q, qm]; rfl)) hc.2 with ⟨v, s, h1, h2⟩ | h
    · exact .inl ⟨v, s, ⟨fun q => absurd q he, fun _ => h1⟩, h2⟩
    · exact .inr h

end
end Ev
