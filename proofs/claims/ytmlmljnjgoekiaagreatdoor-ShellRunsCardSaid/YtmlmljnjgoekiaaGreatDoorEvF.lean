import Derived.Test.YtmlmljnjgoekiaaGreatDoorEvE
import Derived.Shelf.Strings.OnBuilder
import Derived.Shelf.Strconv.Itoa3
import Derived.Lib.AppendIntMem
import Derived.Shelf.Spec.SlicesInsertGrow
set_option linter.unusedVariables false
set_option linter.unusedSimpArgs false
set_option linter.unusedSectionVars false
set_option linter.constructorNameAsVariable false
namespace Ev
variable [Glob]
open Go Go.RowKit
theorem below_keeps {g : G} {hp : Hp} {w w' : World} (h : HR g hp w) (b : Below w.heap.size w w') : HR g hp w' ∧ Evo g hp w g hp w' := by
  have hc : ∀ x o v, w.cell? (ad x o) = some v → w'.cell? (ad x o) = some v := fun x o v e => by
    have hb := cell_block e
    unfold World.cell? ad at *
    simp only [b.block x hb]; exact e
  have hf : ∀ x o, x < w.heap.size → w'.frozen? (ad x o) = w.frozen? (ad x o) := fun x o hx => by
    unfold World.frozen? ad
    simp only [b.block x hx]
  have hu : ∀ n x, Unf n w x → Unf n w' x := fun n x ⟨C, e, fr, q, q'⟩ => ⟨C, e, fr, by rw [b.block x (Array.getElem?_eq_some_iff.1 q).1]; exact q, q'⟩
  refine ⟨⟨h.mp.mono (fun x es c e => by rw [b.block x (Array.getElem?_eq_some_iff.1 e).1]; exact e) (fun _ _ r => r) (fun _ _ e => e) (fun _ _ _ => rfl), h.lim, h.nil, h.bnd, fun x o v e => hc _ _ _ (h.kap x o v e), h.unb, h.dead, fun id r hl => ?_, h.sep⟩,
    ⟨GLe.refl g, Nat.le_refl _, rfl, fun _ _ => rfl, b.size, fun x o v e _ => hc x o v e, fun x o v e _ => hf x o (cell_block e), fun _ _ e => .inl e, fun _ _ _ e => .inl e, ⟨b.os, b.output⟩, hu 1, fun x hx _ _ => b.block x hx, fun _ e => .inl e⟩⟩
  obtain ⟨bk, h1, h2⟩ := h.live id r hl
  refine ⟨bk, h1, h2.sz, h2.len, h2.row, fun i j e c he hcc => ?_, fun hfr k hk => ?_, h2.frz, fun hfr hn => hu _ _ (h2.blk hfr hn)⟩
  · obtain ⟨k, cv, q, r⟩ := h2.cont i j e c he hcc
    exact ⟨k, cv, hc _ _ _ q, r⟩
  · obtain ⟨⟨cv, q⟩, q2, q3⟩ := h2.rw hfr k hk
    exact ⟨⟨cv, hc _ _ _ q⟩, by rw [hf _ _ (cell_block q)]; exact q2, q3⟩
def joinL : List (List Nat) → List Nat → List Nat
  | [], _ => []
  | [x], _ => x
  | x :: y :: r, s => x ++ (s ++ joinL (y :: r) s)
def txt : List V → Option (List Nat)
  | [.st l] => some l
  | _ => none
def joinFn : Fn := ⟨[.c (.sl [.one]), .c .one], [.c .one], .pure, [.tmp 2], fun st k =>
  match st.tm 0 with
  | .vs sz es => match st.tm 1 with
    | .st sep => .chk (Nat.beq sz 1) (oneD (allSome txt es) fun ls => .chk (Nat.ble (joinL ls sep).length maxB) (.chk (Nat.ble es.length maxB) (k (.ret ⟨upd st.tm 2 (.st (joinL ls sep)), st.lo, st.hp⟩))))
    | _ => .bad
  | _ => .bad⟩
theorem joinL_lib : ∀ (xs : List (List UInt8)) (s : List UInt8), (Lib.join xs s).map UInt8.toNat = joinL (xs.map (·.map UInt8.toNat)) (s.map UInt8.toNat)
  | [], s => rfl
  | [x], s => by rw [Lib.join_one]; rfl
  | x :: y :: r, s => by
    have ih := joinL_lib (y :: r) s
    have e : Lib.join (x :: y :: r) s = x ++ (s ++ Lib.join (y :: r) s) := by
      rw [Lib.join_cons, Lib.join_cons]; simp [Lib.joinTail]
    rw [e, List.map_append, List.map_append, ih]
    rfl
theorem texts_read {κ : K} {w : World} {b o : Nat} {f : Nat → Nat → Value} (hκ : ∀ b o v, κ b o = some v → w.cell? (ad b o) = some v) : ∀ (es : List (List V)) (ls : List (List Nat)) (i0 : Nat), allSome txt es = some ls →
    (∀ (i j : Nat) (e : List V) (c : V), es[i]? = some e → e[j]? = some c → c.keep = true ∧ κ b (o + (i0 + i) * 1 + j) = some (f (i0 + i) j)) →
    (∀ (i j : Nat) (e : List V) (c : V), es[i]? = some e → e[j]? = some c → RepC κ c (f (i0 + i) j)) →
    ∃ bs : List ByteArray, bs.length = es.length ∧ (∀ (j : Nat) x, bs[j]? = some x → w.cell? ⟨b, o + (i0 + j), none⟩ = some (.string x)) ∧ bs.map (·.data.toList.map UInt8.toNat) = ls
  | [], ls, i0, h, _, _ => by
    simp only [allSome, Option.some.injEq] at h; subst h
    exact ⟨[], rfl, by simp, rfl⟩
  | e :: es, ls, i0, h, h1, h2 => by
    unfold allSome at h
    split at h
    · rename_i l ls' e1 e2
      simp only [Option.some.injEq] at h; subst h
      obtain ⟨bs, q1, q2, q3⟩ := texts_read hκ (f := f) (b := b) (o := o) es ls' (i0 + 1) e2 (fun i j e c he hc => by have := h1 (i + 1) j e c (by simpa using he) hc; rw [show i0 + 1 + i = i0 + (i + 1) by omega]; exact this)
        (fun i j e c he hc => by have := h2 (i + 1) j e c (by simpa using he) hc; rw [show i0 + 1 + i = i0 + (i + 1) by omega]; exact this)
      unfold txt at e1
      split at e1
      · rename_i l'
        simp only [Option.some.injEq] at e1; subst e1
        have r := h2 0 0 _ _ rfl rfl
        have k := (h1 0 0 _ _ rfl rfl).2
        simp only [Nat.add_zero, Nat.mul_one] at r k
        cases hs : f i0 0 with
        | string s =>
          rw [hs] at r k
          cases r with
          | st _ _ hr =>
            refine ⟨s :: bs, by simp [q1], fun j x hx => ?_, by simp [q3, hr]⟩
            cases j with
            | zero => simp at hx; subst hx; exact hκ _ _ _ k
            | succ j =>
              have := q2 j x (by simpa using hx)
              rw [show i0 + (j + 1) = i0 + 1 + j by omega]; exact this
        | _ => rw [hs] at r; cases r
      · cases e1
    · cases h
theorem join_ok {P : Program} {ρ : Go.Shelf.Ren} (LL : Go.Proofs.Lays.n156 P ρ) (X : Go.Proofs.Builder.Extra P ρ) {f : Nat} (hf : ρ.f 156 = f) (hE : Enters P f) (call : Call) (L : Nat) : RunOK P call L f joinFn := by
  intro xs cs g hp w hgl hr ha
  unfold runF
  cases hlen : Nat.beq xs.length joinFn.ps.length with
  | false => trivial
  | true =>
    have hl2 : xs.length = 2 := Nat.eq_of_beq_eq_true hlen
    obtain ⟨a, b, rfl⟩ : ∃ a b, xs = [a, b] := by
      match xs, hl2 with
      | [a, b], _ => exact ⟨a, b, rfl⟩
    simp only [cond_true]
    cases a with
    | vs sz es =>
      cases b with
      | st sep =>
        show match crOf (run call L (.chk (Nat.beq sz 1) (oneD (allSome txt es) fun ls => .chk (Nat.ble (joinL ls sep).length maxB) (.chk (Nat.ble es.length maxB) (.done (.ret ⟨fun _ => .st (joinL ls sep), fun _ => none, hp⟩)))))) with
          | .bad => True
          | .ret v hp' => _
          | .pan v hp' => _
        cases h1 : Nat.beq sz 1 with
        | false => trivial
        | true =>
          have hsz : sz = 1 := Nat.eq_of_beq_eq_true h1
          subst hsz
          cases hls : allSome txt es with
          | none => trivial
          | some ls =>
            simp only [run, cond_true, oneD]
            cases h2 : Nat.ble (joinL ls sep).length maxB with
            | false => trivial
            | true =>
              cases h3 : Nat.ble es.length maxB with
              | false => trivial
              | true =>
                have h2 := Nat.le_of_ble_eq_true h2
                have h3 := Nat.le_of_ble_eq_true h3
                simp only [run, cond_true, crOf]
                refine ⟨hE, ?_⟩
                subst hf
                have ra := ha.rep 0 _ rfl
                have rb := ha.rep 1 _ rfl
                obtain ⟨a, cap, bk, o, fv, e0, q1, q2, q3, q4, q5⟩ := ra.vs_inv
                obtain ⟨s, e1, e2⟩ := rb.st_inv
                have ecs : cs = #[.slice a es.length cap, .string s] := by
                  have hsz : cs.size = 2 := ha.size
                  apply Array.ext
                  · rw [hsz]; rfl
                  · intro i h1 h2
                    have : i = 0 ∨ i = 1 := by omega
                    rcases this with rfl | rfl
                    · rw [← e0]; simp [Array.getD, h1]
                    · rw [← e1]; simp [Array.getD, h1]
                rw [ecs]
                obtain ⟨bs, p1, p2, p3⟩ := texts_read (w := w) (f := fv) (b := bk) (o := o) hr.kap es ls 0 hls (fun i j e c he hc => by rw [Nat.zero_add]; exact q4 i j e c he hc) (fun i j e c he hc => by rw [Nat.zero_add]; exact q5 i j e c he hc)
                have ejoin : joinL ls sep = (Lib.join (bs.map (·.data.toList)) s.data.toList).map UInt8.toNat := by
                  rw [joinL_lib, ← e2, ← p3, List.map_map]; rfl
                have fin : ∀ e w', e = .returned (.string ⟨(Lib.join (bs.map (·.data.toList)) s.data.toList).toArray⟩) → Below w.heap.size w w' → EndR (fun cv w' g' => HR g' hp w' ∧ Evo g hp w g' hp w' ∧ RepA g' (.st (joinL ls sep)) cv ∧ isLp (.st (joinL ls sep)) = false) e w' := by
                  intro e w' he hb
                  obtain ⟨k1, k2⟩ := below_keeps hr hb
                  exact ⟨_, g, he, k1, k2, .c _ _ (.st _ _ (by rw [ejoin])), rfl⟩
                cases es with
                | nil =>
                  have eb : bs = [] := List.eq_nil_of_length_eq_zero p1
                  subst eb
                  refine (Proofs.Any.strings_Join_none LL X a cap s w).mono fun e w' ⟨he, hw⟩ => ?_
                  subst hw
                  exact fin e _ he (Below.refl _ _)
                | cons e0 es0 =>
                  have ea := q2 (by simp)
                  subst ea
                  have hc0 : 0 < bs.length := by rw [p1]; simp
                  have hbk : bk < w.heap.size := by
                    have := p2 0 bs[0] (by simp [hc0])
                    exact cell_block (b := bk) (o := o + (0 + 0)) this
                  have hjl : (Lib.join (bs.map (·.data.toList)) s.data.toList).length = (joinL ls sep).length := by rw [ejoin, List.length_map]
                  have := Proofs.Any.strings_Join LL X bk o cap bs s w (fun j x hx => by have := p2 j x hx; rwa [Nat.zero_add] at this) hbk (by rw [p1]; exact h3) (by rw [p1]; exact q3) (by rw [hjl]; exact h2)
                  rw [p1] at this
                  exact this.mono fun e w' ⟨he, hw⟩ => fin e w' he hw
      | _ => trivial
    | _ => trivial
end Ev
namespace Ev
variable [Glob]
open Go Go.RowKit
def dgs : Nat → Nat → List Nat
  | 0, _ => []
  | f + 1, u => bif Nat.blt u 10 then [48 + u] else dgs f (u / 10) ++ [48 + u % 10]
theorem dgs_lt {f u : Nat} (h : u < 10) : dgs (f + 1) u = [48 + u] := by
  have hb : Nat.blt u 10 = true := by rw [Nat.blt_eq]; exact h
  show (bif Nat.blt u 10 then [48 + u] else dgs f (u / 10) ++ [48 + u % 10]) = _
  rw [hb]; rfl
theorem dgs_ge {f u : Nat} (h : ¬ u < 10) : dgs (f + 1) u = dgs f (u / 10) ++ [48 + u % 10] := by
  have hb : Nat.blt u 10 = false := by
    cases q : Nat.blt u 10 with
    | false => rfl
    | true => rw [Nat.blt_eq] at q; exact absurd q h
  show (bif Nat.blt u 10 then [48 + u] else dgs f (u / 10) ++ [48 + u % 10]) = _
  rw [hb]; rfl
theorem dgs_eq : ∀ (f u : Nat), u < 10 ^ (f + 1) → dgs (f + 1) u = (Lib.decDigits u).map UInt8.toNat := by
  intro f
  induction f with
  | zero =>
    intro u h
    have h : u < 10 := by simpa using h
    rw [dgs_lt h, Lib.decDigits, dif_pos h]
    simp only [List.map_cons, List.map_nil, List.cons.injEq, and_true]
    rw [UInt8.toNat_ofNat_of_lt' (by show 48 + u < 256; omega)]
  | succ f ih =>
    intro u h
    by_cases h2 : u < 10
    · rw [dgs_lt h2, Lib.decDigits, dif_pos h2]
      simp only [List.map_cons, List.map_nil, List.cons.injEq, and_true]
      rw [UInt8.toNat_ofNat_of_lt' (by show 48 + u < 256; omega)]
    · rw [dgs_ge h2, ih (u / 10) (by rw [Nat.pow_succ] at h; omega)]
      conv => rhs; rw [Lib.decDigits, dif_neg h2]
      rw [List.map_append]
      simp only [List.map_cons, List.map_nil]
      rw [UInt8.toNat_ofNat_of_lt' (by show 48 + u % 10 < 256; omega)]
def itoaL (n : Int) : List Nat := match n with
  | .ofNat m => dgs 20 m
  | .negSucc m => 45 :: dgs 20 (m + 1)
theorem itoaL_eq (n : Int) (h : n.natAbs ≤ 9223372036854775807) : itoaL n = (Lib.itoa n).map UInt8.toNat := by
  cases n with
  | ofNat m =>
    have h : m ≤ 9223372036854775807 := h
    have e : Lib.itoa (Int.ofNat m) = Lib.decDigits m := by unfold Lib.itoa; rw [if_neg (by simp)]; rfl
    rw [e]
    exact dgs_eq 19 m (by omega)
  | negSucc m =>
    have h : m + 1 ≤ 9223372036854775807 := h
    have e : Lib.itoa (Int.negSucc m) = 45 :: Lib.decDigits (m + 1) := by unfold Lib.itoa; rw [if_pos (by omega)]; rfl
    rw [e, List.map_cons]
    show 45 :: dgs 20 (m + 1) = _
    rw [dgs_eq 19 (m + 1) (by omega)]
    rfl
def itoaFn : Fn := ⟨[.c .one], [.c .one], .pure, [.tmp 1], fun st k =>
  match st.tm 0 with
  | .it .i64 n => .chk (Nat.ble n.natAbs 9223372036854775807) (k (.ret ⟨upd st.tm 1 (.st (itoaL n)), st.lo, st.hp⟩))
  | _ => .bad⟩
theorem itoa_ok {P : Program} {ρ : Go.Shelf.Ren} (LL : Go.Proofs.LaysM.n171 P ρ) {f : Nat} (hf : ρ.f 171 = f) (hE : Enters P f)
    (T : ∀ g hp w, GlobW g hp w → HR g hp w → Lib.TabIs P w "internal/strconv.uint64pow10" .u64 Lib.pow10Tab) (call : Call) (L : Nat) : RunOK P call L f itoaFn := by
  intro xs cs g hp w hgl hr ha
  unfold runF
  cases hlen : Nat.beq xs.length itoaFn.ps.length with
  | false => trivial
  | true =>
    have hl2 : xs.length = 1 := Nat.eq_of_beq_eq_true hlen
    obtain ⟨a, rfl⟩ : ∃ a, xs = [a] := by
      match xs, hl2 with
      | [a], _ => exact ⟨a, rfl⟩
    simp only [cond_true]
    cases a with
    | it k n =>
      cases k with
      | i64 =>
        show match crOf (run call L (.chk (Nat.ble n.natAbs 9223372036854775807) (.done (.ret ⟨fun _ => .st (itoaL n), fun _ => none, hp⟩)))) with
          | .bad => True
          | .ret v hp' => _
          | .pan v hp' => _
        cases h1 : Nat.ble n.natAbs 9223372036854775807 with
        | false => trivial
        | true =>
          have h1 := Nat.le_of_ble_eq_true h1
          simp only [run, cond_true, crOf]
          refine ⟨hE, ?_⟩
          subst hf
          have ra := ha.rep 0 _ rfl
          have e0 : cs.getD 0 undef = .int .i64 n := ra.it_inv
          have ecs : cs = #[.int .i64 n] := by
            have hsz : cs.size = 1 := ha.size
            apply Array.ext
            · rw [hsz]; rfl
            · intro i h1 h2
              have : i = 0 := by simp at h2; omega
              subst this
              rw [← e0]; simp [Array.getD, h1]
          rw [ecs]
          refine (Proofs.Any.strconv_Itoa LL n (by omega) (by omega) w (T g hp w hgl hr)).mono fun e w' ⟨he, k, os, hw⟩ => ?_
          obtain ⟨k1, k2⟩ := below_keeps hr (show Below w.heap.size w w' from by rw [hw]; exact Lib.below_grow _ w (Nat.le_refl _) k os)
          exact ⟨_, g, he, k1, k2, .c _ _ (.st _ _ (by rw [itoaL_eq n h1])), rfl⟩
      | _ => trivial
    | _ => trivial
end Ev
namespace Ev
variable [Glob]
open Go
section
variable {E : Ent} {g : G} {ν : Nat → Option Nat} {lo : Lo} {hp : Hp} {w : World}
end
structure SameW (w W : World) : Prop where
  heap : W.heap = w.heap
  os : W.os = w.os ∧ W.output = w.output
theorem MemR.ofHR {g : G} {hp : Hp} {w : World} (hgl : GlobW g hp w) (h : HR g hp w) : MemR ⟨g, hp, w, hgl⟩ g (fun _ => none) (fun _ => none) hp w :=
  ⟨h, ⟨fun t cs b x _ => by simp at x, fun t t' b _ h => by simp at h⟩, .refl _ _ _⟩
end Ev
namespace Ev
variable [Glob]
open Go
def grdW0 (w : World) (n : Nat) : World := ((w.setCell ⟨n, 0, none⟩ (.int .i64 0)).setCell ⟨n, 1, none⟩ (.int .i64 0)).setCell ⟨n + 1, 0, none⟩ (.bool false)
def grdW (ft : TypeId) (w : World) (n : Nat) (a b : Int) : World :=
  (((((w.alloc (.cells #[.int .i64 0, .int .i64 0] ft)).setCell ⟨w.heap.size, 0, none⟩ (.int .i64 a)).setCell ⟨w.heap.size, 1, none⟩ (.int .i64 b)).setCell ⟨n, 0, none⟩ (.int .i64 a)).setCell ⟨n, 1, none⟩ (.int .i64 b)).setCell ⟨n + 1, 0, none⟩ (.bool true)
def GrdReal (P : Program) (f : FuncId) (ft bt : TypeId) : Prop :=
  ∀ (a1 a2 : Array Value) (w : World) (R : Ending → World → Prop) (f' : FuncId), (∀ args w, (callFunc f' args).run P w = .ok (.enter f' args) w) →
    (Calls P f' (a1 ++ a2) ((w.alloc (.cells #[.int .i64 0, .int .i64 0] ft)).alloc (.cells #[.bool false] bt)) fun e w' =>
      ((∃ x0, w'.cell? ⟨w.heap.size, 0, none⟩ = some x0) ∧ (∃ x1, w'.cell? ⟨w.heap.size, 1, none⟩ = some x1) ∧ (∃ y, w'.cell? ⟨w.heap.size + 1, 0, none⟩ = some y) ∧
        w'.frozen? ⟨w.heap.size, 0, none⟩ = false ∧ w'.frozen? ⟨w.heap.size, 1, none⟩ = false ∧ w'.frozen? ⟨w.heap.size + 1, 0, none⟩ = false) ∧
      ((∃ cv, e = .returned cv ∧ R (.returned (.tuple #[.agg #[.int .i64 0, .int .i64 0], .bool false])) (grdW0 w' w.heap.size)) ∨
       (∃ a b, e = .panicked [{ v := .iface ft (.agg #[.int .i64 a, .int .i64 b]), recovered := false }] ∧ R (.returned (.tuple #[.agg #[.int .i64 a, .int .i64 b], .bool true])) (grdW ft w' w.heap.size a b)))) →
    Calls P f #[.func (.func f') a1 a2] w R
def grdEnd (ft : TypeId) (v : V) : Option (Int × Int) :=
  match v with
  | .fc t (.ag [.it .i64 a, .it .i64 b]) => bif Nat.beq t ft then some (a, b) else none
  | _ => none
def grdFn (ft : TypeId) : Ev.Fn := ⟨[.c .one], [.g [.one, .one], .c .one], .rw, [.tmp 0], fun st k =>
  match st.tm 0 with
  | .fn f first cap => .call false f (first ++ cap) st.hp fun c => match c with
    | .ret _ hp => k (.ret ⟨upd st.tm 0 (.tu [.ag [i64 0, i64 0], .bo false]), st.lo, hp⟩)
    | .pan v hp => match grdEnd ft v with
      | some (a, b) => k (.ret ⟨upd st.tm 0 (.tu [.ag [i64 a, i64 b], .bo true]), st.lo, hp⟩)
      | none => .bad
    | .bad => .bad
  | _ => .bad⟩
theorem grdEnd_inv {ft : TypeId} {v : V} {a b : Int} (h : grdEnd ft v = some (a, b)) : v = .fc ft (.ag [.it .i64 a, .it .i64 b]) := by
  unfold grdEnd at h
  split at h
  · rename_i t a' b'
    cases q : Nat.beq t ft with
    | false => simp [q] at h
    | true =>
      simp only [q, cond_true, Option.some.injEq, Prod.mk.injEq] at h
      obtain ⟨rfl, rfl⟩ := h
      rw [Nat.eq_of_beq_eq_true q]
  · cases h
theorem pair_rep {g : G} (a b : Int) : RepA g (.ag [.it .i64 a, .it .i64 b]) (.agg #[.int .i64 a, .int .i64 b]) := by
  refine .ag _ _ rfl (fun c hc => ?_) fun i c hc => ?_
  · simp only [List.mem_cons, List.not_mem_nil, or_false] at hc
    rcases hc with rfl | rfl <;> rfl
  · match i, hc with
    | 0, hc => cases hc; exact .c _ _ (.it _ _)
    | 1, hc => cases hc; exact .c _ _ (.it _ _)
    | i + 2, hc => simp at hc
theorem grd_rep {g : G} (a b : Int) (t : Bool) : RepA g (.tu [.ag [.it .i64 a, .it .i64 b], .bo t]) (.tuple #[.agg #[.int .i64 a, .int .i64 b], .bool t]) := by
  refine .tu _ _ rfl (fun c hc => ?_) fun i c hc => ?_
  · simp only [List.mem_cons, List.not_mem_nil, or_false] at hc
    rcases hc with rfl | rfl <;> rfl
  · match i, hc with
    | 0, hc => cases hc; exact pair_rep a b
    | 1, hc => cases hc; exact .c _ _ (.bo _)
    | i + 2, hc => simp at hc
theorem pair_box {g : G} (a b : Int) (j : Nat) (c : V) (hc : [V.it .i64 a, V.it .i64 b][j]? = some c) : RepA g c ((#[.int .i64 a, .int .i64 b] : Array Value).getD j undef) := by
  match j, hc with
  | 0, hc => cases hc; exact .c _ _ (.it _ _)
  | 1, hc => cases hc; exact .c _ _ (.it _ _)
  | i + 2, hc => simp at hc
theorem pair_vals {g : G} (a b : Int) (j : Nat) (c : V) (hc : [V.it .i64 a, V.it .i64 b][j]? = some c) : ∃ cv, [Value.int .i64 a, Value.int .i64 b][j]? = some cv ∧ RepA g c cv := by
  match j, hc with
  | 0, hc => cases hc; exact ⟨_, rfl, .c _ _ (.it _ _)⟩
  | 1, hc => cases hc; exact ⟨_, rfl, .c _ _ (.it _ _)⟩
  | i + 2, hc => simp at hc
theorem pair_keep (a b : Int) (c : V) (hc : c ∈ [V.it .i64 a, V.it .i64 b]) : c.keep = true := by
  simp only [List.mem_cons, List.not_mem_nil, or_false] at hc
  rcases hc with rfl | rfl <;> rfl
theorem grd_cells {E : Ent} {g : G} {ν : Nat → Option Nat} {lo : Lo} {hp : Hp} {w : World} {n : Nat} (h : MemR E g ν lo hp w) {c0 c1 c2 : V} (l0 : lo 0 = some [c0, c1]) (l1 : lo 1 = some [c2]) (n0 : ν 0 = some n) (n1 : ν 1 = some (n + 1)) :
    (∃ x0, w.cell? ⟨n, 0, none⟩ = some x0) ∧ (∃ x1, w.cell? ⟨n, 1, none⟩ = some x1) ∧ (∃ y, w.cell? ⟨n + 1, 0, none⟩ = some y) ∧
        w.frozen? ⟨n, 0, none⟩ = false ∧ w.frozen? ⟨n, 1, none⟩ = false ∧ w.frozen? ⟨n + 1, 0, none⟩ = false := by
  have b0 := (h.lo.box 0 _ _ l0 n0).1
  have b1 := (h.lo.box 1 _ _ l1 n1).1
  obtain ⟨_, ⟨x0, e0, _⟩, f0⟩ := b0 0 c0 rfl
  obtain ⟨_, ⟨x1, e1, _⟩, f1⟩ := b0 1 c1 rfl
  obtain ⟨_, ⟨x2, e2, _⟩, f2⟩ := b1 0 c2 rfl
  exact ⟨⟨x0, e0⟩, ⟨x1, e1⟩, ⟨x2, e2⟩, f0, f1, f2⟩
theorem grd_set {E : Ent} {g : G} {ν : Nat → Option Nat} {lo : Lo} {hp : Hp} {w : World} {n : Nat} (h : MemR E g ν lo hp w) {c0 c1 c2 : V} (l0 : lo 0 = some [c0, c1]) (l1 : lo 1 = some [c2]) (n0 : ν 0 = some n) (n1 : ν 1 = some (n + 1)) (a b : Int) (t : Bool) :
    ∃ lo', MemR E g ν lo' hp (((w.setCell ⟨n, 0, none⟩ (.int .i64 a)).setCell ⟨n, 1, none⟩ (.int .i64 b)).setCell ⟨n + 1, 0, none⟩ (.bool t)) := by
  have m1 := h.setBox l0 n0 0 [V.it .i64 a, V.it .i64 b] [.int .i64 a, .int .i64 b] (by simp) rfl (pair_keep a b) (pair_vals a b)
  have m2 := m1.setBox (t := 1) (b := n + 1) (cs := [c2]) (by simp only [lset]; exact l1) n1 0 [V.bo t] [.bool t] (by simp) rfl (fun x hx => by simp at hx; subst hx; rfl) (fun j x hx => by
    match j, hx with
    | 0, hx => cases hx; exact ⟨_, rfl, .c _ _ (.bo _)⟩
    | i + 1, hx => simp at hx)
  exact ⟨_, m2⟩
theorem grd_ok {P : Program} {f : FuncId} {ft bt : TypeId} (hE : Enters P f) (hG : GrdReal P f ft bt) (call : Call) (L : Nat) (hC : CallOK P call) : RunOK P call L f (grdFn ft) := by
  intro xs cs g hp w hgl hr ha
  unfold runF
  cases hlen : Nat.beq xs.length (grdFn ft).ps.length with
  | false => trivial
  | true =>
    have hl2 : xs.length = 1 := Nat.eq_of_beq_eq_true hlen
    simp only [cond_true]
    obtain ⟨x, rfl⟩ : ∃ x, xs = [x] := List.length_eq_one_iff.1 hl2
    have hsz : cs.size = 1 := ha.size
    have hx := ha.rep 0 x rfl
    have hcs : cs = #[cs.getD 0 undef] := by
      apply Array.ext
      · simp [hsz]
      · intro i h1 h2
        have : i = 0 := by omega
        subst this
        simp [Array.getD, hsz]
    cases x with
    | fn f' first cap =>
      obtain ⟨a1, a2, e1, e2, e3, e4, e5, e6, e7⟩ := hx.fn_inv
      rw [e1] at hcs
      subst hcs
      have e : bodyD (grdFn ft) [.fn f' first cap] hp = .call false f' (first ++ cap) hp fun c => match c with
          | .ret _ hp' => .done (.ret ⟨fun _ => .tu [.ag [i64 0, i64 0], .bo false], fun _ => none, hp'⟩)
          | .pan v hp' => match grdEnd ft v with
            | some (a, b) => .done (.ret ⟨fun _ => .tu [.ag [i64 a, i64 b], .bo true], fun _ => none, hp'⟩)
            | none => .bad
          | .bad => .bad := by
        simp only [bodyD, grdFn, argT, List.getD, List.getElem?_cons_zero, Option.getD_some]
        refine congrArg (D.call false f' (first ++ cap) hp) (funext fun c => ?_)
        cases c with
        | bad => rfl
        | ret v hp' => rfl
        | pan v hp' =>
          cases hg : grdEnd ft v with
          | none => simp only [hg]
          | some q => simp only [hg]; rfl
      rw [e]
      simp only [run, forceL_eq]
      have M0 := MemR.ofHR hgl hr
      have M1 := M0.box (grow_alloc w #[.int .i64 0, .int .i64 0] ft) (cs := [i64 0, i64 0]) rfl (pair_keep 0 0) (pair_box 0 0) 0
      have M2 := M1.box (grow_alloc _ #[.bool false] bt) (cs := [.bo false]) rfl (fun c hc => by simp at hc; subst hc; rfl) (fun j c hc => by
        match j, hc with
        | 0, hc => cases hc; exact .c _ _ (.bo _)
        | i + 1, hc => simp at hc) 1
      have hsz1 : (w.alloc (.cells #[.int .i64 0, .int .i64 0] ft)).heap.size = w.heap.size + 1 := (grow_alloc w #[.int .i64 0, .int .i64 0] ft).size
      rw [hsz1] at M2
      have hargs : Args g (first ++ cap) (a1 ++ a2) := by
        refine ⟨by simp [e2, e3], fun x hx => ?_, fun i x hx => ?_⟩
        · rcases List.mem_append.1 hx with q | q
          · exact e4 x q
          · exact e5 x q
        · rcases Nat.lt_or_ge i first.length with q | q
          · rw [List.getElem?_append_left q] at hx
            have := e6 i x hx
            simp only [Array.getD_eq_getD_getElem?] at this ⊢
            rw [Array.getElem?_append_left (by omega)]; exact this
          · rw [List.getElem?_append_right q] at hx
            have := e7 _ x hx
            simp only [Array.getD_eq_getD_getElem?] at this ⊢
            rw [Array.getElem?_append_right (by omega), e2]; exact this
      have hc := hC false f' (first ++ cap) (a1 ++ a2) _ g _ _ hp _ M2 hargs
      cases hq : call false f' (first ++ cap) hp with
      | bad => trivial
      | ret v hp' =>
        rw [hq] at hc
        obtain ⟨h1, h2⟩ := hc
        simp only [run, crOf]
        refine ⟨hE, hG a1 a2 w _ f' (fun args w => run_callFunc h1) (h2.mono fun en w' q => ?_)⟩
        obtain ⟨cv, g', rfl, m, le, _, _⟩ := q
        refine ⟨grd_cells m (c0 := i64 0) (c1 := i64 0) (c2 := .bo false) rfl rfl rfl rfl, .inl ⟨cv, rfl, ?_⟩⟩
        obtain ⟨lo', m'⟩ := grd_set m (c0 := i64 0) (c1 := i64 0) (c2 := .bo false) rfl rfl rfl rfl 0 0 false
        exact ⟨_, g', rfl, m'.hr, m'.evo, grd_rep 0 0 false, rfl⟩
      | pan v hp' =>
        rw [hq] at hc
        obtain ⟨h1, h2⟩ := hc
        cases hv : grdEnd ft v with
        | none => simp only [hv, run, crOf]
        | some q =>
          obtain ⟨a, b⟩ := q
          have hve := grdEnd_inv hv
          subst hve
          simp only [hv, run, crOf]
          refine ⟨hE, hG a1 a2 w _ f' (fun args w => run_callFunc h1) (h2.mono fun en w' q => ?_)⟩
          obtain ⟨cv, g', rfl, m, le, hrep, _⟩ := q
          obtain ⟨x, rfl, _, hrx⟩ := hrep.fc_inv
          obtain ⟨arr, rfl, k1, k2, k3⟩ := hrx.ag_inv
          have r0 := (k3 0 _ rfl).it_inv
          have r1 := (k3 1 _ rfl).it_inv
          have harr : arr = #[.int .i64 a, .int .i64 b] := by
            apply Array.ext
            · simp [k1]
            · intro i h1 h2
              simp at h2
              match i, h2 with
              | 0, _ => simpa [Array.getD, k1] using r0
              | 1, _ => simpa [Array.getD, k1] using r1
          subst harr
          refine ⟨grd_cells m (c0 := i64 0) (c1 := i64 0) (c2 := .bo false) rfl rfl rfl rfl, .inr ⟨a, b, rfl, ?_⟩⟩
          have n1 := m.box (grow_alloc w' #[.int .i64 0, .int .i64 0] ft) (cs := [i64 0, i64 0]) rfl (pair_keep 0 0) (pair_box 0 0) 2
          have n2 := n1.setBox (t := 2) (b := w'.heap.size) (cs := [i64 0, i64 0]) rfl rfl 0 [V.it .i64 a, V.it .i64 b] [.int .i64 a, .int .i64 b] (by simp) rfl (pair_keep a b) (pair_vals a b)
          obtain ⟨lo', m'⟩ := grd_set n2 (c0 := i64 0) (c1 := i64 0) (c2 := .bo false) (n := w.heap.size) rfl rfl rfl rfl a b true
          exact ⟨_, g', rfl, m'.hr, m'.evo, grd_rep a b true, rfl⟩
    | _ => trivial
end Ev
namespace Go.Proofs
open Go.Shelf Go.RowKit
variable {P : Program} {ρ : Ren}
structure ButOne (b : Nat) (w w' : World) : Prop where
  size : w.heap.size ≤ w'.heap.size
  os : w'.os = w.os
  output : w'.output = w.output
  block : ∀ k, k < w.heap.size → k ≠ b → w'.heap[k]? = w.heap[k]?
set_option maxHeartbeats 2000000 in
set_option maxRecDepth 100000 in
theorem Any.Builder_WriteString_first (L : Lays.n166 P ρ) (X : Builder.Extra P ρ) (b : Nat) (s : ByteArray) (w : World) (hb : w.heap[b]? = some (.cells #[.pointer none, .slice none 0 0] (ρ.t 72) (0, 0))) (hlen : s.size ≤ 140737488355328) :
    Calls P (ρ.f 166) #[.pointer (some ⟨b, 0, none⟩), .string s] w fun e w' => e = .returned (.tuple #[.int .i64 s.size, .nilIface]) ∧ (∃ v, w'.heap[b]? = some (.cells #[.pointer (some ⟨b, 0, none⟩), v] (ρ.t 72) (0, 0)) ∧ w'.ownsRow w.heap.size (ρ.t 5) 1 v s.size (Lib.strCells s) ∧ v.ownBlock ≠ some b) ∧ ButOne b w w' := by
  obtain ⟨i0, hi, hz0, hz1, hz2⟩ := info_parts X.infoByte
  have mixed := L.mixed
  have t72 := L.t72; have a72 := L.a72; have z72 := L.z72; have v72 := L.v72; have u72 := run_underlying L.t72
  have t70 := L.t70; have a70 := L.a70; have z70 := L.z70; have v70 := L.v70; have u70 := run_underlying L.t70
  have t37 := L.t37; have a37 := L.a37; have z37 := L.z37; have v37 := L.v37; have u37 := run_underlying L.t37
  have t3 := L.t3; have a3 := L.a3; have z3 := L.z3; have v3 := L.v3; have u3 := run_underlying L.t3
  have t9 := L.t9; have a9 := L.a9; have z9 := L.z9; have v9 := L.v9; have u9 := run_underlying L.t9
  have t4 := L.t4; have a4 := L.a4; have z4 := L.z4; have v4 := L.v4; have u4 := run_underlying L.t4
  have t164 := L.t164; have a164 := L.a164; have z164 := L.z164; have v164 := L.v164; have u164 := run_underlying L.t164
  have t5 := X.t5; have a5 := X.a5; have z5 := X.z5; have v5 := X.v5; have u5 := run_underlying X.t5
  have e240 : ∀ args w, (callFunc (ρ.f 240) args).run P w = .ok (.enter (ρ.f 240) args) w := enters_of L.f240 (by kernel_rfl) rfl
  have hlt : b < w.heap.size := by
    rcases Nat.lt_or_ge b w.heap.size with h' | h'
    · exact h'
    · simp [Array.getElem?_eq_none h'] at hb
  have h0 : w.cell? ⟨b, 0, none⟩ = some (.pointer none) := by rw [Lib.cell_of_heap hb]; rfl
  have hsh : w.shape? b = some ((ρ.t 72), 2) := by simp [World.shape?, hb]
  have hfz : w.frozen? ⟨b, 0, none⟩ = false := Lib.frozen_of_heap hb 0
  go_enter L.f166, Body.n166_ntmps ρ
  go_wp2_with (go_at_fn (ρ.f 240); refine (Any.Builder_copyCheck_fresh { L with } X.toX72 b _ h0 hsh hfz).mono ?_)
  rintro e w1 ⟨rfl, rfl⟩
  have hb1 : (w.setCell ⟨b, 0, none⟩ (.pointer (some ⟨b, 0, none⟩))).heap[b]? = some (.cells #[.pointer (some ⟨b, 0, none⟩), .slice none 0 0] (ρ.t 72) (0, 0)) := by
    simp [World.setCell, Array.getElem?_modify, hb]
  have hs1 : (w.setCell ⟨b, 0, none⟩ (.pointer (some ⟨b, 0, none⟩))).heap.size = w.heap.size := by simp [World.setCell]
  have ho1 : ∀ k, k ≠ b → (w.setCell ⟨b, 0, none⟩ (.pointer (some ⟨b, 0, none⟩))).heap[k]? = w.heap[k]? := fun k hk => Below.heap_setCell _ _ _ _ hk
  have hos : (w.setCell ⟨b, 0, none⟩ (.pointer (some ⟨b, 0, none⟩))).os = w.os := rfl
  have hou : (w.setCell ⟨b, 0, none⟩ (.pointer (some ⟨b, 0, none⟩))).output = w.output := rfl
  generalize w.setCell ⟨b, 0, none⟩ (.pointer (some ⟨b, 0, none⟩)) = w1 at *
  have c0 : w1.cell? ⟨b, 0, none⟩ = some (.pointer (some ⟨b, 0, none⟩)) := by rw [Lib.cell_of_heap hb1]; rfl
  have c1 : w1.cell? ⟨b, 1, none⟩ = some (.slice none 0 0) := by rw [Lib.cell_of_heap hb1]; rfl
  go_wp2_with (at_builtin; refine Lib.wpList_append_own_string _ rfl _ _ (ρ.t 37) (ρ.t 9) rfl w.heap.size (ρ.t 5) i0 L.t37 L.t9 hi hz0 hz1 hz2 _ 0 [] rfl (World.ownsRow_nil w1 w.heap.size (ρ.t 5) 1) s rfl ?c3 ?c4 ?c5 ?_)
  case c3 => unfold maxLen; omega
  case c4 => omega
  case c5 => omega
  intro v' w2 hown' hgrow _
  have hb2 : w2.heap[b]? = some (.cells #[.pointer (some ⟨b, 0, none⟩), .slice none 0 0] (ρ.t 72) (0, 0)) := by
    rw [hgrow.block b (by omega) (fun e => by cases e)]
    exact hb1
  have d0 : w2.cell? ⟨b, 0, none⟩ = some (.pointer (some ⟨b, 0, none⟩)) := by rw [Lib.cell_of_heap hb2]; rfl
  have d1 : w2.cell? ⟨b, 1, none⟩ = some (.slice none 0 0) := by rw [Lib.cell_of_heap hb2]; rfl
  have f1 : w2.frozen? ⟨b, 1, none⟩ = false := Lib.frozen_of_heap hb2 1
  obtain ⟨ao, n', cap, rfl⟩ : ∃ ao n' cap, v' = .slice ao n' cap := by
    rcases hown'.2 with ⟨hv, _⟩ | ⟨g, cap, cur, hv, _⟩
    · exact ⟨_, _, _, hv⟩
    · exact ⟨_, _, _, hv⟩
  go_wp2
  go_ret2
  refine ⟨rfl, ?_, ?_⟩
  · have hown2 : w2.ownsRow w.heap.size (ρ.t 5) 1 (.slice ao n' cap) s.size (Lib.strCells s) := by simpa using hown'
    have hne := Lib.ownBlock_ne hown2 hb2 X.neB5
    refine ⟨.slice ao n' cap, ?_, ?_, hne⟩
    · simp [World.setCell, Array.getElem?_modify, hb2]
    · exact hown2.kept (row := some b) ⟨rfl, rfl, rfl, by simp [World.setCell], fun k _ hk => Below.heap_setCell _ _ _ _ (fun e => hk (by simp [e]))⟩ (Or.inr hne)
  · refine ⟨?_, ?_, ?_, fun k hk hkb => ?_⟩
    · have := hgrow.size
      simp [World.setCell]; omega
    · exact hgrow.os.trans hos
    · exact hgrow.output.trans hou
    · rw [Below.heap_setCell _ _ _ _ hkb, hgrow.block k (by omega) (fun e => by cases e)]
      exact ho1 k hkb
theorem bld_ws (L : Lays.n156 P ρ) (X : Builder.Extra P ρ) {f : FuncId} {T U : TypeId} (hf : ρ.f 166 = f) (hT : ρ.t 72 = T) (hU : ρ.t 5 = U) (b : Nat) (s : ByteArray) (w : World) (hb : w.heap[b]? = some (.cells #[.pointer none, .slice none 0 0] T (0, 0))) (hlen : s.size ≤ 140737488355328) :
    Calls P f #[.pointer (some ⟨b, 0, none⟩), .string s] w fun e w' => e = .returned (.tuple #[.int .i64 s.size, .nilIface]) ∧ (∃ v, w'.heap[b]? = some (.cells #[.pointer (some ⟨b, 0, none⟩), v] T (0, 0)) ∧ w'.ownsRow w.heap.size U 1 v s.size (Lib.strCells s) ∧ v.ownBlock ≠ some b) ∧ ButOne b w w' := by
  subst hf; subst hT; subst hU
  exact Any.Builder_WriteString_first { L with } X b s w hb hlen
theorem bld_st (L : Lays.n156 P ρ) (X : Builder.Extra P ρ) {f : FuncId} {T U : TypeId} (hf : ρ.f 169 = f) (hT : ρ.t 72 = T) (hU : ρ.t 5 = U) (B b : Nat) (l : List UInt8) (w : World) (h : Lib.IsBuilder T U B b (Lib.byteCells l) w) (h0 : l ≠ []) :
    Calls P f #[.pointer (some ⟨b, 0, none⟩)] w fun e w' => e = .returned (.string ⟨l.toArray⟩) ∧ Below B w w' := by
  subst hf; subst hT; subst hU
  exact Any.Builder_String { L with } X B b l w h h0
end Go.Proofs