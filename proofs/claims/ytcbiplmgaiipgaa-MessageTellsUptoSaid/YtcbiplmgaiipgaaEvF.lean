import Derived.Test.YtcbiplmgaiipgaaEvD
import Derived.Shelf.Strings.OnBuilder
set_option linter.unusedVariables false
set_option linter.unusedSimpArgs false
set_option linter.unusedSectionVars false
set_option linter.constructorNameAsVariable false
namespace Ev
variable [Glob]
open Go Go.RowKit
theorem below_keeps {g : G} {hp : Hp} {w w' : World} (h : HR g hp w) (b : Below w.heap.size w w') : HR g hp w' ∧ Evo g hp w g hp w' := by
  have hc : ∀ x o v, w.cell? (ad x o) = some v → w'.cell? (ad x o) = some v := fun x o v e => by
    have hb := cell_block e
    unfold World.cell? ad at *
    simp only [b.block x hb]; exact e
  have hf : ∀ x o, x < w.heap.size → w'.frozen? (ad x o) = w.frozen? (ad x o) := fun x o hx => by
    unfold World.frozen? ad
    simp only [b.block x hx]
  have hu : ∀ n x, Unf n w x → Unf n w' x := fun n x ⟨C, e, fr, q, q'⟩ => ⟨C, e, fr, by rw [b.block x (Array.getElem?_eq_some_iff.1 q).1]; exact q, q'⟩
  refine ⟨⟨h.mp.mono (fun x es c e => by rw [b.block x (Array.getElem?_eq_some_iff.1 e).1]; exact e) (fun _ _ r => r) (fun _ _ e => e) (fun _ _ _ => rfl), h.lim, h.nil, h.bnd, fun x o v e => hc _ _ _ (h.kap x o v e), h.unb, h.dead, fun id r hl => ?_, h.sep⟩,
    ⟨GLe.refl g, Nat.le_refl _, rfl, fun _ _ => rfl, b.size, fun x o v e _ => hc x o v e, fun x o v e _ => hf x o (cell_block e), fun _ _ e => .inl e, fun _ _ _ e => .inl e, ⟨b.os, b.output⟩, hu 1, fun x hx _ _ => b.block x hx, fun _ e => .inl e⟩⟩
  obtain ⟨bk, h1, h2⟩ := h.live id r hl
  refine ⟨bk, h1, h2.sz, h2.len, h2.row, fun i j e c he hcc => ?_, fun hfr k hk => ?_, h2.frz, fun hfr hn => hu _ _ (h2.blk hfr hn)⟩
  · obtain ⟨k, cv, q, r⟩ := h2.cont i j e c he hcc
    exact ⟨k, cv, hc _ _ _ q, r⟩
  · obtain ⟨⟨cv, q⟩, q2, q3⟩ := h2.rw hfr k hk
    exact ⟨⟨cv, hc _ _ _ q⟩, by rw [hf _ _ (cell_block q)]; exact q2, q3⟩
def joinL : List (List Nat) → List Nat → List Nat
  | [], _ => []
  | [x], _ => x
  | x :: y :: r, s => x ++ (s ++ joinL (y :: r) s)
def txt : List V → Option (List Nat)
  | [.st l] => some l
  | _ => none
def joinFn : Fn := ⟨[.c (.sl [.one]), .c .one], [.c .one], .pure, [.tmp 2], fun st k =>
  match st.tm 0 with
  | .vs sz es => match st.tm 1 with
    | .st sep => .chk (Nat.beq sz 1) (oneD (allSome txt es) fun ls => .chk (Nat.ble (joinL ls sep).length maxB) (.chk (Nat.ble es.length maxB) (k (.ret ⟨upd st.tm 2 (.st (joinL ls sep)), st.lo, st.hp⟩))))
    | _ => .bad
  | _ => .bad⟩
theorem joinL_lib : ∀ (xs : List (List UInt8)) (s : List UInt8), (Lib.join xs s).map UInt8.toNat = joinL (xs.map (·.map UInt8.toNat)) (s.map UInt8.toNat)
  | [], s => rfl
  | [x], s => by rw [Lib.join_one]; rfl
  | x :: y :: r, s => by
    have ih := joinL_lib (y :: r) s
    have e : Lib.join (x :: y :: r) s = x ++ (s ++ Lib.join (y :: r) s) := by
      rw [Lib.join_cons, Lib.join_cons]; simp [Lib.joinTail]
    rw [e, List.map_append, List.map_append, ih]
    rfl
theorem texts_read {κ : K} {w : World} {b o : Nat} {f : Nat → Nat → Value} (hκ : ∀ b o v, κ b o = some v → w.cell? (ad b o) = some v) : ∀ (es : List (List V)) (ls : List (List Nat)) (i0 : Nat), allSome txt es = some ls →
    (∀ (i j : Nat) (e : List V) (c : V), es[i]? = some e → e[j]? = some c → c.keep = true ∧ κ b (o + (i0 + i) * 1 + j) = some (f (i0 + i) j)) →
    (∀ (i j : Nat) (e : List V) (c : V), es[i]? = some e → e[j]? = some c → RepC κ c (f (i0 + i) j)) →
    ∃ bs : List ByteArray, bs.length = es.length ∧ (∀ (j : Nat) x, bs[j]? = some x → w.cell? ⟨b, o + (i0 + j), none⟩ = some (.string x)) ∧ bs.map (·.data.toList.map UInt8.toNat) = ls
  | [], ls, i0, h, _, _ => by
    simp only [allSome, Option.some.injEq] at h; subst h
    exact ⟨[], rfl, by simp, rfl⟩
  | e :: es, ls, i0, h, h1, h2 => by
    unfold allSome at h
    split at h
    · rename_i l ls' e1 e2
      simp only [Option.some.injEq] at h; subst h
      obtain ⟨bs, q1, q2, q3⟩ := texts_read hκ (f := f) (b := b) (o := o) es ls' (i0 + 1) e2 (fun i j e c he hc => by have := h1 (i + 1) j e c (by simpa using he) hc; rw [show i0 + 1 + i = i0 + (i + 1) by omega]; exact this)
        (fun i j e c he hc => by have := h2 (i + 1) j e c (by simpa using he) hc; rw [show i0 + 1 + i = i0 + (i + 1) by omega]; exact this)
      unfold txt at e1
      split at e1
      · rename_i l'
        simp only [Option.some.injEq] at e1; subst e1
        have r := h2 0 0 _ _ rfl rfl
        have k := (h1 0 0 _ _ rfl rfl).2
        simp only [Nat.add_zero, Nat.mul_one] at r k
        cases hs : f i0 0 with
        | string s =>
          rw [hs] at r k
          cases r with
          | st _ _ hr =>
            refine ⟨s :: bs, by simp [q1], fun j x hx => ?_, by simp [q3, hr]⟩
            cases j with
            | zero => simp at hx; subst hx; exact hκ _ _ _ k
            | succ j =>
              have := q2 j x (by simpa using hx)
              rw [show i0 + (j + 1) = i0 + 1 + j by omega]; exact this
        | _ => rw [hs] at r; cases r
      · cases e1
    · cases h
theorem join_ok {P : Program} {ρ : Go.Shelf.Ren} (LL : Go.Proofs.Lays.n156 P ρ) (X : Go.Proofs.Builder.Extra P ρ) {f : Nat} (hf : ρ.f 156 = f) (hE : Enters P f) (call : Call) (L : Nat) : RunOK P call L f joinFn := by
  intro xs cs g hp w hgl hr ha
  unfold runF
  cases hlen : Nat.beq xs.length joinFn.ps.length with
  | false => trivial
  | true =>
    have hl2 : xs.length = 2 := Nat.eq_of_beq_eq_true hlen
    obtain ⟨a, b, rfl⟩ : ∃ a b, xs = [a, b] := by
      match xs, hl2 with
      | [a, b], _ => exact ⟨a, b, rfl⟩
    simp only [cond_true]
    cases a with
    | vs sz es =>
      cases b with
      | st sep =>
        show match crOf (run call L (.chk (Nat.beq sz 1) (oneD (allSome txt es) fun ls => .chk (Nat.ble (joinL ls sep).length maxB) (.chk (Nat.ble es.length maxB) (.done (.ret ⟨fun _ => .st (joinL ls sep), fun _ => none, hp⟩)))))) with
          | .bad => True
          | .ret v hp' => _
          | .pan v hp' => _
        cases h1 : Nat.beq sz 1 with
        | false => trivial
        | true =>
          have hsz : sz = 1 := Nat.eq_of_beq_eq_true h1
          subst hsz
          cases hls : allSome txt es with
          | none => trivial
          | some ls =>
            simp only [run, cond_true, oneD]
            cases h2 : Nat.ble (joinL ls sep).length maxB with
            | false => trivial
            | true =>
              cases h3 : Nat.ble es.length maxB with
              | false => trivial
              | true =>
                have h2 := Nat.le_of_ble_eq_true h2
                have h3 := Nat.le_of_ble_eq_true h3
                simp only [run, cond_true, crOf]
                refine ⟨hE, ?_⟩
                subst hf
                have ra := ha.rep 0 _ rfl
                have rb := ha.rep 1 _ rfl
                obtain ⟨a, cap, bk, o, fv, e0, q1, q2, q3, q4, q5⟩ := ra.vs_inv
                obtain ⟨s, e1, e2⟩ := rb.st_inv
                have ecs : cs = #[.slice a es.length cap, .string s] := by
                  have hsz : cs.size = 2 := ha.size
                  apply Array.ext
                  · rw [hsz]; rfl
                  · intro i h1 h2
                    have : i = 0 ∨ i = 1 := by omega
                    rcases this with rfl | rfl
                    · rw [← e0]; simp [Array.getD, h1]
                    · rw [← e1]; simp [Array.getD, h1]
                rw [ecs]
                obtain ⟨bs, p1, p2, p3⟩ := texts_read (w := w) (f := fv) (b := bk) (o := o) hr.kap es ls 0 hls (fun i j e c he hc => by rw [Nat.zero_add]; exact q4 i j e c he hc) (fun i j e c he hc => by rw [Nat.zero_add]; exact q5 i j e c he hc)
                have ejoin : joinL ls sep = (Lib.join (bs.map (·.data.toList)) s.data.toList).map UInt8.toNat := by
                  rw [joinL_lib, ← e2, ← p3, List.map_map]; rfl
                have fin : ∀ e w', e = .returned (.string ⟨(Lib.join (bs.map (·.data.toList)) s.data.toList).toArray⟩) → Below w.heap.size w w' → EndR (fun cv w' g' => HR g' hp w' ∧ Evo g hp w g' hp w' ∧ RepA g' (.st (joinL ls sep)) cv ∧ isLp (.st (joinL ls sep)) = false) e w' := by
                  intro e w' he hb
                  obtain ⟨k1, k2⟩ := below_keeps hr hb
                  exact ⟨_, g, he, k1, k2, .c _ _ (.st _ _ (by rw [ejoin])), rfl⟩
                cases es with
                | nil =>
                  have eb : bs = [] := List.eq_nil_of_length_eq_zero p1
                  subst eb
                  refine (Proofs.Any.strings_Join_none LL X a cap s w).mono fun e w' ⟨he, hw⟩ => ?_
                  subst hw
                  exact fin e _ he (Below.refl _ _)
                | cons e0 es0 =>
                  have ea := q2 (by simp)
                  subst ea
                  have hc0 : 0 < bs.length := by rw [p1]; simp
                  have hbk : bk < w.heap.size := by
                    have := p2 0 bs[0] (by simp [hc0])
                    exact cell_block (b := bk) (o := o + (0 + 0)) this
                  have hjl : (Lib.join (bs.map (·.data.toList)) s.data.toList).length = (joinL ls sep).length := by rw [ejoin, List.length_map]
                  have := Proofs.Any.strings_Join LL X bk o cap bs s w (fun j x hx => by have := p2 j x hx; rwa [Nat.zero_add] at this) hbk (by rw [p1]; exact h3) (by rw [p1]; exact q3) (by rw [hjl]; exact h2)
                  rw [p1] at this
                  exact this.mono fun e w' ⟨he, hw⟩ => fin e w' he hw
      | _ => trivial
    | _ => trivial
end Ev