import Derived.Test.YtgofadnggipkpaaEvFrame
namespace Ev
open Go

/-- one piece of a run with other slots: it fails, or does the same -/
def GO (call : Call) (L : Nat) (tm : Tm) (F F' : FF) : Prop :=
  Bad call L F ∨ ∀ k kp, run call L (F k kp) = run call L (F' (fun v s => k v ⟨tm, s.lo, s.hp⟩) (fun v s => kp v ⟨tm, s.lo, s.hp⟩))

theorem same_refl {st st' : St} (hl : st'.lo = st.lo) (hh : st'.hp = st.hp) (v : V) : Same st st' v := by
  cases v <;> simp only [Same, hl, hh] <;> exact fun bk h => ⟨bk, h, rfl, rfl⟩

theorem fresh_sub {us us' : List Nat} {tm tm' : Tm} (h : ∀ t, t ∈ us' → t ∈ us ∧ (tm' t = tm t ∨ tm' t = .un)) {d : Nat} (hf : fresh us tm d = true) : fresh us' tm' d = true := by
  induction us' with
  | nil => rfl
  | cons a r ih =>
    have ih' := ih fun t ht => h t (.tail _ ht)
    obtain ⟨h1, h2⟩ := h a (by simp)
    simp only [fresh]
    rcases h2 with h2 | h2
    · rw [h2]
      have := fresh_ne hf h1
      cases hv : tm a with
      | lp e off =>
        have hne : e ≠ d := fun q => this off (by rw [hv, q])
        simp only [beqF hne, cond_false]; exact ih'
      | _ => exact ih'
    · rw [h2]; exact ih'

theorem freshH_ne {us : List Nat} {tm : Tm} {id : Nat} (h : freshH us tm id = true) {t : Nat} (ht : t ∈ us) : (∀ i off, tm t ≠ .pt id i off) ∧ (∀ i len, tm t ≠ .hs id i len) ∧ tm t ≠ .mp id := by
  induction us with
  | nil => cases ht
  | cons a r ih =>
    simp only [freshH] at h
    rcases List.mem_cons.1 ht with rfl | ht
    · refine ⟨fun i off e => ?_, fun i off e => ?_, fun e => ?_⟩ <;> simp [e] at h
    · refine ih ?_ ht
      split at h
      · rename_i e' i' o' _
        cases hb : Nat.beq e' id with
        | true => simp [hb] at h
        | false => simpa [hb] using h
      · rename_i e' i' o' _
        cases hb : Nat.beq e' id with
        | true => simp [hb] at h
        | false => simpa [hb] using h
      · rename_i e' _
        cases hb : Nat.beq e' id with
        | true => simp [hb] at h
        | false => simpa [hb] using h
      · exact h

theorem freshH_sub {us us' : List Nat} {tm tm' : Tm} (h : ∀ t, t ∈ us' → t ∈ us ∧ (tm' t = tm t ∨ tm' t = .un)) {id : Nat} (hf : freshH us tm id = true) : freshH us' tm' id = true := by
  induction us' with
  | nil => rfl
  | cons a r ih =>
    have ih' := ih fun t ht => h t (.tail _ ht)
    obtain ⟨h1, h2⟩ := h a (by simp)
    simp only [freshH]
    rcases h2 with h2 | h2
    · rw [h2]
      obtain ⟨n1, n2, n3⟩ := freshH_ne hf h1
      cases hv : tm a with
      | mp e =>
        have hne : e ≠ id := fun q => n3 (by rw [hv, q])
        simp only [beqF hne, cond_false]; exact ih'
      | pt e i off =>
        have hne : e ≠ id := fun q => n1 i off (by rw [hv, q])
        simp only [beqF hne, cond_false]; exact ih'
      | hs e i off =>
        have hne : e ≠ id := fun q => n2 i off (by rw [hv, q])
        simp only [beqF hne, cond_false]; exact ih'
      | _ => exact ih'
    · rw [h2]; exact ih'

section
variable {call : Call} {L : Nat} {tm tm' : Tm} {lo : Lo} {hp : Hp}

theorem GO.bad {F F' : FF} (h : ∀ k kp, F k kp = .bad) : GO call L tm F F' := .inl fun k kp => by rw [h]; rfl
theorem GO.same {F F' : FF} (h : ∀ k kp, F k kp = F' (fun v s => k v ⟨tm, s.lo, s.hp⟩) (fun v s => kp v ⟨tm, s.lo, s.hp⟩)) : GO call L tm F F' := .inr fun k kp => by rw [h]

theorem elemsD_bad {sz : Nat} {v : V} : run call L (elemsD hp sz v fun _ => .bad) = .bad := by
  cases v <;> simp only [elemsD] <;> (try rfl)
  · rename_i n es; cases Nat.beq n sz <;> rfl
  · rename_i id i len
    cases hget hp id with
    | none => rfl
    | some b =>
      simp only []
      cases Nat.beq b.sz sz with
      | false => rfl
      | true => simp only [cond_true, run]; cases Nat.ble (i + len) b.es.length <;> rfl

theorem rowsD_bad {sz : Nat} {v : V} : run call L (rowsD hp sz v fun _ => .bad) = .bad := by
  have hel := elemsD_bad (call := call) (L := L) (hp := hp) (sz := sz) (v := v)
  cases v <;> first | exact hel | (simp only [rowsD]; cases Nat.beq sz 1 <;> rfl)

theorem app_key {us us' : List Nat} (hus : ∀ t, t ∈ us' → t ∈ us ∧ (tm' t = tm t ∨ tm' t = .un)) {s b : Nat} : ∀ v, (∀ (k : V → St → D) new, appendD us ⟨tm, lo, hp⟩ s b v new k = .bad) ∨ ∀ (k : V → St → D) new, appendD us ⟨tm, lo, hp⟩ s b v new k = appendD us' ⟨tm', lo, hp⟩ s b v new (fun v s => k v ⟨tm, s.lo, s.hp⟩) := by
  intro v
  cases v with
  | ns => exact .inr fun k new => by cases new <;> simp only [appendD, Ev.mk, St.setHp]
  | vs m es => exact .inr fun k new => by simp only [appendD]
  | hs id i n =>
    cases hg : hget hp id with
    | none => exact .inl fun k new => by simp only [appendD, hg]
    | some bk =>
      cases hf : freshH us tm id with
      | false => exact .inl fun k new => by simp only [appendD, hg, hf, cond_false]; cases bk.fr <;> cases Nat.blt id hp.lim <;> cases Nat.beq bk.sz s <;> rfl
      | true => exact .inr fun k new => by simp only [appendD, hg, hf, freshH_sub hus hf, cond_true, St.setHp]
  | _ => exact .inl fun k new => rfl

theorem frame {i : I} {us us' clr : List Nat} {d : Nat} (hsl : ∀ t, t ∈ i.sl → tm' t = tm t) (hus : ∀ t, t ∈ us' → t ∈ us ∧ (tm' t = tm t ∨ tm' t = .un)) :
    GO call L tm (i.den us clr d ⟨tm, lo, hp⟩) (i.den us' clr d ⟨tm', lo, hp⟩) := by
  have g1 : ∀ x : A, (∀ t, t ∈ slotsA x → t ∈ i.sl) → get tm' x = get tm x := fun x hx => get_eq fun t ht => hsl t (hx t ht)
  by_cases he : i.easy = true
  · rcases easy_frame (call := call) (L := L) (st := ⟨tm, lo, hp⟩) (st' := ⟨tm', lo, hp⟩) (us := us) (us' := us') (clr := clr) (d := d) he hsl (fun x _ => same_refl rfl rfl _) with h | ⟨v, h, h'⟩
    · exact .inl h
    · exact .inr fun k kp => by rw [h, h']
  · show GO call L tm (fun k kp => i.den us clr d ⟨tm, lo, hp⟩ k kp) (fun k kp => i.den us' clr d ⟨tm', lo, hp⟩ k kp)
    cases i with
    | alc z =>
      cases hf : fresh us tm d with
      | false => exact .bad fun k kp => by simp only [I.den, iAlc, hf, cond_false]
      | true => exact .same fun k kp => by simp only [I.den, iAlc, hf, fresh_sub hus hf, cond_true, St.setLo]
    | alh z => exact .same fun k kp => by simp only [I.den, iAlh, Ev.mk, St.setHp]
    | box x =>
      have e := g1 x (fun t ht => ht)
      cases hf : fresh us tm d with
      | false => exact .bad fun k kp => by simp only [I.den, iBox, hf, cond_false]; cases (get tm x).cells.all V.keep <;> rfl
      | true => exact .same fun k kp => by simp only [I.den, iBox, e, hf, fresh_sub hus hf, cond_true, St.setLo]
    | bxh x =>
      have e := g1 x (fun t ht => ht)
      exact .same fun k kp => by simp only [I.den, iBxh, e, Ev.mk, St.setHp]
    | bsl sz es ps =>
      have e : (ps.map fun (i, a) => (i, get tm' a)) = ps.map fun (i, a) => (i, get tm a) := by
        apply List.map_congr_left
        rintro ⟨o, a⟩ hx
        simp only [g1 a (fun t ht => by simp only [I.sl, List.mem_flatMap]; exact ⟨_, hx, ht⟩)]
      exact .same fun k kp => by
        simp only [I.den, iBsl, e]
        cases fillE sz (ps.map fun (i, a) => (i, get tm a)) es <;> simp only [Ev.mk, St.setHp]
    | sto n a x =>
      have e1 := g1 a (fun t ht => by simp [I.sl, ht])
      have e2 := g1 x (fun t ht => by simp [I.sl, ht])
      have key : ∀ xs v, (∀ k : V → St → D, storeD us ⟨tm, lo, hp⟩ xs v (fun s => k .un s) = .bad) ∨ ∀ k : V → St → D, storeD us ⟨tm, lo, hp⟩ xs v (fun s => k .un s) = storeD us' ⟨tm', lo, hp⟩ xs v (fun s => k .un ⟨tm, s.lo, s.hp⟩) := by
        intro xs v
        cases v with
        | lp t off =>
          cases hl : lo t with
          | none => exact .inl fun k => by simp only [storeD, hl]
          | some cs =>
            cases hf : fresh us tm t with
            | false => exact .inl fun k => by simp only [storeD, hl, hf, cond_false]
            | true => exact .inr fun k => by simp only [storeD, hl, hf, fresh_sub hus hf, cond_true, St.setLo]
        | pt id j off =>
          cases hg : hget hp id with
          | none => exact .inl fun k => by simp only [storeD, hg]
          | some b =>
            cases hf : freshH us tm id with
            | false => exact .inl fun k => by simp only [storeD, hg, hf, cond_false]; cases b.fr <;> cases Nat.blt id hp.lim <;> rfl
            | true => exact .inr fun k => by simp only [storeD, hg, hf, freshH_sub hus hf, cond_true, St.setHp]
        | _ => exact .inl fun k => rfl
      rcases key (get tm x).cells (get tm a) with h | h
      · exact .bad fun k kp => by
          simp only [I.den, iSto, h]
          cases Nat.beq (get tm x).cells.length n <;> cases (get tm x).cells.all V.keep <;> rfl
      · exact .same fun k kp => by simp only [I.den, iSto, e1, e2, h]
    | cnv c x =>
      have e := g1 x (fun t ht => ht)
      cases c with
      | s2b => exact .same fun k kp => by
                simp only [I.den, iCnv, e]
                cases get tm x <;> simp only [convD, Ev.mk, St.setHp]
      | _ => exact absurd rfl he
    | mks s b z l c =>
      have e1 := g1 l (fun t ht => by simp [I.sl, ht])
      have e2 := g1 c (fun t ht => by simp [I.sl, ht])
      exact .same fun k kp => by simp only [I.den, iMks, e1, e2, Ev.mk, St.setHp]
    | app s b x y =>
      have e1 := g1 x (fun t ht => by simp [I.sl, ht])
      have e2 := g1 y (fun t ht => by simp [I.sl, ht])
      have key := app_key (lo := lo) (hp := hp) hus (s := s) (b := b)
      rcases key (get tm x) with h | h
      · refine .inl fun k kp => ?_
        simp only [I.den, iApp, h]
        exact rowsD_bad
      · exact .same fun k kp => by simp only [I.den, iApp, e1, e2, h]
    | apz x n =>
      have e1 := g1 x (fun t ht => by simp [I.sl, ht])
      have e2 := g1 n (fun t ht => by simp [I.sl, ht])
      have key : ∀ v, (∀ (k : V → St → D) new, appendD us ⟨tm, lo, hp⟩ 1 1 v new k = .bad) ∨ ∀ (k : V → St → D) new, appendD us ⟨tm, lo, hp⟩ 1 1 v new k = appendD us' ⟨tm', lo, hp⟩ 1 1 v new (fun v s => k v ⟨tm, s.lo, s.hp⟩) := app_key hus
      rcases key (get tm x) with h | h
      · refine .inl fun k kp => ?_
        simp only [I.den, iApz, h]
        cases get tm n with
        | it kk z =>
          simp only [natD, run]
          cases (!(ilt z 0)) with
          | false => rfl
          | true =>
            simp only [cond_true]
            cases Nat.blt 0 z.toNat with
            | false => rfl
            | true =>
              simp only [cond_true]
              cases Nat.ble z.toNat maxB <;> rfl
        | _ => rfl
      · exact .same fun k kp => by simp only [I.den, iApz, e1, e2, h]
    | cpy sz x y =>
      have e1 := g1 x (fun t ht => by simp [I.sl, ht])
      have e2 := g1 y (fun t ht => by simp [I.sl, ht])
      have key : ∀ v, (∀ (k : V → St → D) new, cpyD us ⟨tm, lo, hp⟩ sz new v k = .bad) ∨ ∀ (k : V → St → D) new, cpyD us ⟨tm, lo, hp⟩ sz new v k = cpyD us' ⟨tm', lo, hp⟩ sz new v (fun v s => k v ⟨tm, s.lo, s.hp⟩) := by
        intro v
        cases v with
        | hs id i n =>
          cases hg : hget hp id with
          | none => exact .inl fun k new => by simp only [cpyD, hg]
          | some bk =>
            cases hf : freshH us tm id with
            | false => exact .inl fun k new => by simp only [cpyD, hg, hf, cond_false]; cases bk.fr <;> cases Nat.blt id hp.lim <;> cases Nat.beq bk.sz sz <;> rfl
            | true => exact .inr fun k new => by simp only [cpyD, hg, hf, freshH_sub hus hf, cond_true, St.setHp]
        | _ => exact .inl fun k new => rfl
      rcases key (get tm x) with h | h
      · refine .inl fun k kp => ?_
        simp only [I.den, iCpy, h]
        exact elemsD_bad
      · exact .same fun k kp => by simp only [I.den, iCpy, e1, e2, h]
    | mmk => exact .same fun k kp => by simp only [I.den, iMmk, Ev.mk, St.setHp]
    | mup x i v =>
      have e1 := g1 x (fun t ht => by simp [I.sl, ht])
      have e2 := g1 i (fun t ht => by simp [I.sl, ht])
      have e3 := g1 v (fun t ht => by simp [I.sl, ht])
      cases hi : get tm i with
      | st l =>
        cases hx : get tm x with
        | mp id =>
          cases hg : hget hp id with
          | none => exact .bad fun k kp => by simp only [I.den, iMup, hi, hx, hg]
          | some bk =>
            cases hf : freshH us tm id with
            | false => exact .bad fun k kp => by simp only [I.den, iMup, hi, hx, hg, hf, cond_false]; cases Nat.blt id hp.lim <;> rfl
            | true => exact .same fun k kp => by simp only [I.den, iMup, e1, e2, e3, hi, hx, hg, hf, freshH_sub hus hf, cond_true, St.setHp]
        | _ => exact .bad fun k kp => by simp only [I.den, iMup, hi, hx]
      | _ => exact .bad fun k kp => by simp only [I.den, iMup, hi]
    | mrk x =>
      have e1 := g1 x (fun t ht => by simp [I.sl, ht])
      exact .same fun k kp => by
        simp only [I.den, iMrk, e1]
    | call o md f xs =>
      have e : xs.map (get tm') = xs.map (get tm) := map_get_eq fun t ht => hsl t ht
      refine .inr fun k kp => ?_
      simp only [I.den, iCall, e, callD]
      cases (xs.map (get tm)).any isLp with
      | true => rfl
      | false =>
        simp only [cond_false, run]
        congr 1
    | calv fs f xs =>
      have e1 := g1 f (fun t ht => by simp [I.sl, ht])
      have e : xs.map (get tm') = xs.map (get tm) := map_get_eq fun t ht => hsl t (by simp only [I.sl, List.mem_append]; exact .inr ht)
      refine .inr fun k kp => ?_
      simp only [I.den, iClv, e, e1]
      cases get tm f with
      | fn f first cap =>
        simp only [callD]
        cases goodF fs f with
        | false => rfl
        | true =>
          simp only [cond_true]
          cases (first ++ xs.map (get tm) ++ cap).any isLp with
          | true => rfl
          | false =>
            simp only [cond_false, run]
            congr 1
      | _ => rfl
    | pan x =>
      have e := g1 x (fun t ht => ht)
      exact .same fun k kp => by
        simp only [I.den, iPan, e]
    | _ => exact absurd rfl he

end
end Ev
