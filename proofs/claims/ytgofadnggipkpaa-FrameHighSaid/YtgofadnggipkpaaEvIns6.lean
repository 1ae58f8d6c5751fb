import Derived.Test.YtgofadnggipkpaaEvIns5
import Derived.Laws.MakeOwn
import Derived.Laws.AppendOwn
import Derived.Laws.IdiomStrings
namespace Ev
open Go

/-- what a slice's value shows -/
def ElemsAt (g : G) (w : World) (sz : Nat) (es : List (List V)) (cv : Value) : Prop :=
  ∃ a cap, cv = .slice a es.length cap ∧ (∀ x, x ∈ es → x.length = sz) ∧ es.length ≤ cap ∧
    (es = [] ∨ ∃ b o, ∃ f : Nat → Nat → Value, a = some (ad b o) ∧ ∀ (i j : Nat) (x : List V) (c : V), es[i]? = some x → x[j]? = some c → c.keep = true ∧ w.cell? (ad b (o + i * sz + j)) = some (f i j) ∧ RepA g c (f i j))

section
variable {e : Env}

theorem Res.elems (h : e.St) {sz : Nat} {v : V} {cv : Value} (hr : RepT e.g e.ν v cv) {F : List (List V) → (V → St → D) → (V → St → D) → D}
    (hF : ∀ es, ElemsAt e.g e.w sz es cv → Res e (F es)) : Res e (fun k kp => elemsD e.st.hp sz v fun es => F es k kp) := by
  cases v with
  | ns =>
    have := RepA.ns_inv hr
    exact hF [] ⟨none, 0, this, by simp, by simp, .inl rfl⟩
  | vs m es =>
    refine .bif (F := fun k kp => F es k kp) (G := fun _ _ => .bad) (fun hm => ?_) (fun _ => .bad fun _ _ => rfl)
    have hm := Nat.eq_of_beq_eq_true hm
    subst hm
    obtain ⟨a, cap, b, o, f, hx, h1, h2, h3, h4, h5⟩ := RepA.vs_inv hr
    refine hF es ⟨a, cap, hx, h1, h3, ?_⟩
    by_cases hes : es = []
    · exact .inl hes
    · exact .inr ⟨b, o, f, h2 hes, fun i j x c hx hc => ⟨(h4 i j x c hx hc).1, h.mem.hr.kap _ _ _ (h4 i j x c hx hc).2, .c _ _ (h5 i j x c hx hc)⟩⟩
  | hs id i len =>
    refine Res.hget (F := fun bk k kp => bif Nat.beq bk.sz sz then .chk (Nat.ble (i + len) bk.es.length) (F ((bk.es.drop i).take len) k kp) else .bad) fun bk hbk => ?_
    refine .bif (F := fun k kp => .chk (Nat.ble (i + len) bk.es.length) (F ((bk.es.drop i).take len) k kp)) (G := fun _ _ => .bad) (fun hm => ?_) (fun _ => .bad fun _ _ => rfl)
    have hm := Nat.eq_of_beq_eq_true hm
    refine .chk fun hc => ?_
    have hc := Nat.le_of_ble_eq_true hc
    obtain ⟨a, cap, hx, h1, h2⟩ := RepA.hs_inv hr
    rcases h2 with h2 | ⟨r, hl, h2⟩
    · rw [h.mem.hr.dead id h2] at hbk; cases hbk
    · obtain ⟨bk0, e0, z⟩ := h.mem.hr.live id r hl
      rw [hbk] at e0; cases e0
      have hlen : ((bk.es.drop i).take len).length = len := by rw [List.length_take, List.length_drop]; omega
      have hgt : ∀ (k : Nat) (x : List V), ((bk.es.drop i).take len)[k]? = some x → bk.es[i + k]? = some x := by
        intro k x hk
        have := lt_of_get hk
        rw [List.getElem?_take_of_lt (by omega), List.getElem?_drop] at hk
        exact hk
      refine hF _ ⟨a, cap, by rw [hlen]; exact hx, fun x hx => ?_, by omega, ?_⟩
      · obtain ⟨k, hk⟩ := List.getElem?_of_mem hx
        rw [z.row x (List.mem_of_getElem? (hgt k x hk)), hm]
      · rcases h2 with h2 | ⟨h2, h3⟩
        · exact .inl (List.eq_nil_of_length_eq_zero (by omega))
        · refine .inr ⟨r.b, r.base + i * r.sz, fun k j => (e.w.cell? (ad r.b (r.base + i * r.sz + k * sz + j))).getD undef, h2, fun k j x c hx hc => ?_⟩
          obtain ⟨k1, u, k2, k3⟩ := z.cont (i + k) j x c (hgt k x hx) hc
          have : r.base + (i + k) * r.sz + j = r.base + i * r.sz + k * sz + j := by rw [Nat.add_mul, z.sz, hm]; omega
          rw [this] at k2
          refine ⟨k1, ?_, ?_⟩
          · simp only [k2, Option.getD_some]
          · simp only [k2, Option.getD_some]; exact k3
  | _ => exact .bad fun _ _ => rfl

/-- a string's bytes as rows of one cell -/
theorem bytesRow_rows {s : ByteArray} {l : List Nat} (hl : s.data.toList.map UInt8.toNat = l) (cap : Nat) :
    (l.map fun n => [byte n]).length = s.size ∧ (∀ x, x ∈ (l.map fun n => [byte n]) → x.length = 1) ∧
    (∀ (i j : Nat) (x : List V) (c : V), (l.map fun n => [byte n])[i]? = some x → x[j]? = some c → c.keep = true ∧ ∃ cv, (bytesRow s cap)[i + j]? = some cv ∧ ∀ κ, RepC κ c cv) := by
  have hsz : s.size = l.length := by rw [← hl, List.length_map, Array.length_toList]; rfl
  refine ⟨by simp [hsz], fun x hx => by obtain ⟨n, _, rfl⟩ := List.mem_map.1 hx; rfl, fun i j x c hx hc => ?_⟩
  rw [List.getElem?_map] at hx
  cases hn : l[i]? with
  | none => simp [hn] at hx
  | some n =>
    simp only [hn, Option.map_some, Option.some.injEq] at hx
    subst hx
    cases j with
    | succ j => simp at hc
    | zero =>
      simp only [List.getElem?_cons_zero, Option.some.injEq] at hc
      subst hc
      have hi : i < s.data.size := by have := lt_of_get hn; have : s.size = s.data.size := rfl; omega
      rw [← hl, List.getElem?_map, Array.getElem?_toList, Array.getElem?_eq_getElem hi] at hn
      simp only [Option.map_some, Option.some.injEq] at hn
      refine ⟨rfl, .int .u8 ((s.data[i]).toNat : Int), ?_, fun κ => ?_⟩
      · simp only [Nat.add_zero, bytesRow]
        rw [Array.getElem?_append_left (by simpa using hi)]
        simp [Array.getElem?_eq_getElem hi]
      · rw [← hn]; exact .it _ _

theorem grow_mark (w : World) (arr : Array Value) (t : TypeId) : Grow w (w.drew.alloc (.cells arr t (arr.size, arr.size + 1))) arr :=
  ⟨⟨t, (arr.size, arr.size + 1), rfl, .inr (Nat.le_refl _)⟩, rfl, rfl⟩

theorem bytesRow_size {s : ByteArray} {cap : Nat} (h : s.size ≤ cap) : (bytesRow s cap).size = cap := by
  have : s.size = s.data.size := rfl
  simp [bytesRow]; omega

theorem isByte_u {P : Program} {el : TypeId} (h : isByte P el = true) : P.underlying el = some (.int .u8) := by
  unfold isByte at h
  split at h <;> simp_all

theorem conv_run {s d : TypeId} {x : Operand} {cv : Value} {w' : World} (ho : e.o.op = .convert s d x) (h : (convert s d (e.a.eval x)).run e.P e.w = .ok cv w') : (execOp e.a.eval e.o).run e.P e.w = .ok (.value cv) w' := by
  simp [execOp, ho, h]

/-- the bytes of a list of rows -/
theorem unbyte_get {es : List (List V)} {l : List Nat} (h : allSome unbyte es = some l) : l.length = es.length ∧ ∀ (i : Nat) (b : Nat), l[i]? = some b → ∃ n : Int, es[i]? = some [.it .u8 n] ∧ b = n.toNat % 256 := by
  refine ⟨allSome_len h, fun i b hb => ?_⟩
  obtain ⟨x, hx, hu⟩ := allSome_get h i b hb
  unfold unbyte at hu
  split at hu
  · simp only [Option.some.injEq] at hu; exact ⟨_, hx, hu.symm⟩
  · cases hu

theorem foldl_bytes : ∀ (ns : List Int) (r : ByteArray), (ns.foldl (fun r n => r.push (UInt8.ofNat n.toNat)) r).data.toList.map UInt8.toNat = r.data.toList.map UInt8.toNat ++ ns.map fun n => n.toNat % 256
  | [], r => by simp
  | n :: ns, r => by
    simp only [List.foldl_cons]
    rw [foldl_bytes ns]
    simp [ByteArray.push]

theorem ok_cnv (h : e.St) {hp : Bool} {s d : TypeId} {x : Operand} {xa : A} {c : Cv} (hc : cConv e.P hp s d = some c) (hx : cA x = some xa) (ho : e.o.op = .convert s d x) (us : List Nat) (dd : Nat) :
    Res e (iCnv c xa us e.clr dd e.st) := by
  have hr := h.rep hx
  unfold cConv at hc
  split at hc
  · rename_i k0 k hus hud
    simp only [Option.some.injEq] at hc; subst hc
    cases hg : get e.st.tm xa with
    | it k' n =>
      rw [hg] at hr
      have hv := RepA.it_inv hr
      refine .eq (F' := fun c _ => c (.it k (wr k n)) e.st) (fun k kp => by simp only [iCnv, hg, convD]) ?_
      exact Res.val h (conv_run ho (by rw [hv]; simp [convert, run_underlying hus, run_underlying hud, Conv.intToInt])) (wr_rep _ _) rfl
    | _ => exact .bad fun _ _ => by simp only [iCnv, hg, convD]
  · rename_i hus hud
    simp only [Option.some.injEq] at hc; subst hc
    cases hg : get e.st.tm xa with
    | st l =>
      rw [hg] at hr
      obtain ⟨sv, hv, hl⟩ := RepA.st_inv hr
      refine .eq (F' := fun c _ => c (.st l) e.st) (fun k kp => by simp only [iCnv, hg, convD]) ?_
      exact Res.val h (conv_run ho (by rw [hv]; simp [convert, run_underlying hus, run_underlying hud])) (.c _ _ (.st l sv hl)) rfl
    | _ => exact .bad fun _ _ => by simp only [iCnv, hg, convD]
  · rename_i el hus hud
    cases hb : isByte e.P el with
    | false => simp [hb] at hc
    | true =>
      have hue := isByte_u hb
      simp only [hb, if_true, Option.some.injEq] at hc
      cases hg : get e.st.tm xa with
      | st l =>
        rw [hg] at hr
        obtain ⟨sv, hv, hl⟩ := RepA.st_inv hr
        have hrun := run_bytes_of_string (P := e.P) e.w s d el sv hus hud hue
        have hcap := grownCap_ge e.w sv.size 0 el
        obtain ⟨r1, r2, r3⟩ := bytesRow_rows hl (grownCap e.w sv.size 0 el)
        have hgrow := grow_mark e.w (bytesRow sv (grownCap e.w sv.size 0 el)) el
        have hf := conv_run ho (by rw [hv]; exact hrun)
        have hlen : l.length = sv.size := by rw [← r1]; simp
        generalize hcd : grownCap e.w sv.size 0 el = cap at hrun hcap r1 r2 r3 hgrow hf
        cases hp with
        | true =>
          simp only [if_true] at hc; subst hc
          refine .eq (F' := fun c _ => c (.hs e.st.hp.next 0 l.length) (Ev.mk e.st ⟨1, false, l.map fun n => [byte n]⟩)) (fun k kp => by simp only [iCnv, hg, convD]) ?_
          have hrows : Rows e.g ⟨1, false, l.map fun n => [byte n]⟩ cap (bytesRow sv cap) :=
            ⟨rfl, by simp only; omega, by rw [bytesRow_size hcap]; simp, r2, fun x hx c hc => by
              obtain ⟨i, hi⟩ := List.getElem?_of_mem hx
              obtain ⟨j, hj⟩ := List.getElem?_of_mem hc
              exact (r3 i j x c hi hj).1, fun i j x c hx hc => by
              obtain ⟨_, cv, h1, h2⟩ := r3 i j x c hx hc
              have : (bytesRow sv cap).getD (i * 1 + j) undef = cv := by rw [Nat.mul_one, Array.getD_eq_getD_getElem?, h1]; rfl
              rw [this]; exact .c _ _ (h2 _)⟩
          refine .out (.value _ _ hf) ⟨rfl, h.mem.new hgrow hrows, born_le h.mem.hr _, .inl rfl, .ofA ?_, fun _ _ _ _ hx => by cases hx⟩
          rw [← hlen]
          refine .hs _ _ _ _ _ (by omega) (.inr ⟨⟨e.w.heap.size, 0, 1, cap⟩, by simp [born], .inr ⟨by simp [ad], ?_⟩⟩)
          simp only [Nat.zero_add]; exact Nat.le_refl _
        | false =>
          simp only [Bool.false_eq_true, if_false] at hc; subst hc
          refine .eq (F' := fun c _ => c (.vs 1 (l.map fun n => [byte n])) e.st) (fun k kp => by simp only [iCnv, hg, convD]) ?_
          obtain ⟨hm, hle⟩ := h.mem.imm hgrow
          refine .out (.value _ _ hf) ⟨rfl, hm, hle, .inl rfl, .ofA (.c _ _ ?_), fun _ _ _ _ hx => by cases hx⟩
          rw [← r1]
          refine .vs 1 _ _ _ e.w.heap.size 0 (fun i j => (bytesRow sv cap).getD (i + j) undef) r2 (fun _ => rfl) (by omega) (fun i j x c hx hc => ?_) (fun i j x c hx hc => ?_)
          · obtain ⟨h1, cv, h2, h3⟩ := r3 i j x c hx hc
            refine ⟨h1, ?_⟩
            simp only [known, if_true, Nat.zero_add, Nat.mul_one, h2, Array.getD_eq_getD_getElem?, Option.getD_some]
          · obtain ⟨h1, cv, h2, h3⟩ := r3 i j x c hx hc
            simp only [h2, Array.getD_eq_getD_getElem?, Option.getD_some]; exact h3 _
      | _ => cases hp <;> (simp only [if_true, Bool.false_eq_true, if_false] at hc; subst hc; exact .bad fun _ _ => by simp only [iCnv, hg, convD])
  · rename_i el hus hud
    cases hb : isByte e.P el with
    | false => simp [hb] at hc
    | true =>
      have hue := isByte_u hb
      simp only [hb, if_true, Option.some.injEq] at hc; subst hc
      refine .eq (F' := fun k kp => elemsD e.st.hp 1 (get e.st.tm xa) fun es => Ev.oneD ((allSome unbyte es).map .st) fun v => k v e.st) (fun k kp => by simp only [iCnv, convD]) ?_
      refine Res.elems h hr (F := fun es k _ => Ev.oneD ((allSome unbyte es).map .st) fun v => k v e.st) fun es hes => ?_
      refine Res.oneD (f := fun v k _ => k v e.st) fun v hv => ?_
      cases hal : allSome unbyte es with
      | none => simp [hal] at hv
      | some l =>
        simp only [hal, Option.map_some, Option.some.injEq] at hv; subst hv
        obtain ⟨hl1, hl2⟩ := unbyte_get hal
        obtain ⟨a, cap, hcv, _, _, hx⟩ := hes
        have hconv := fun w => run_convert_bytes_string (P := e.P) w s d el a es.length cap hus hue hud
        rcases hx with hx | ⟨b, o, f, ha, hcell⟩
        · subst hx
          have hl0 : l = [] := List.eq_nil_of_length_eq_zero (by simpa using hl1)
          subst hl0
          refine Res.val h (cv := .string .empty) (conv_run ho ?_) (.c _ _ (.st _ _ rfl)) rfl
          rw [hcv, hconv]
          cases a with
          | none => rfl
          | some a =>
            have := run_bytesToString (P := e.P) e.w a 0 cap [] (by simpa using run_loadCells_list (P := e.P) e.w a [] (by simp))
            simpa using this
        · subst ha
          have hf0 : ∀ (i : Nat) (b' : Nat), l[i]? = some b' → ∃ n : Int, f i 0 = .int .u8 n ∧ b' = n.toNat % 256 ∧ e.w.cell? (ad b (o + i)) = some (f i 0) := by
            intro i b' hi
            obtain ⟨n, hn, hbn⟩ := hl2 i b' hi
            obtain ⟨_, h2, h3⟩ := hcell i 0 _ _ hn rfl
            exact ⟨n, RepA.it_inv h3, hbn, by simpa using h2⟩
          let ns : List Int := (List.range l.length).map fun i => match f i 0 with | .int _ n => n | _ => 0
          have hns : ∀ i, i < l.length → f i 0 = .int .u8 (ns.getD i 0) ∧ l[i]? = some ((ns.getD i 0).toNat % 256) := by
            intro i hi
            obtain ⟨n, h1, h2, _⟩ := hf0 i (l[i]) (by rw [List.getElem?_eq_getElem])
            have : ns.getD i 0 = n := by simp [ns, List.getD, hi, h1]
            rw [this, List.getElem?_eq_getElem hi]
            exact ⟨h1, by rw [h2]⟩
          have hnl : ns.length = l.length := by simp [ns]
          have hload : (loadCells (ad b o) es.length).run e.P e.w = .ok (ns.map (Value.int .u8)).toArray e.w := by
            have := run_loadCells_list (P := e.P) e.w (ad b o) (ns.map (Value.int .u8)) (fun j v hj => by
              have hjl := lt_of_get hj
              rw [List.length_map, hnl] at hjl
              obtain ⟨n, h1, h2, h3⟩ := hf0 j (l[j]) (by rw [List.getElem?_eq_getElem])
              rw [ad_add, h3, (hns j hjl).1]
              rw [List.getElem?_map, List.getElem?_eq_getElem (by omega)] at hj
              simp only [Option.map_some, Option.some.injEq] at hj
              rw [← hj, List.getD, List.getElem?_eq_getElem (by omega)]; rfl)
            rw [List.length_map, hnl, hl1] at this
            exact this
          refine Res.val h (cv := .string (ns.foldl (fun r n => r.push (UInt8.ofNat n.toNat)) ByteArray.empty)) (conv_run ho ?_) (.c _ _ (.st _ _ ?_)) rfl
          · rw [hcv, hconv, run_bytesToString e.w (ad b o) es.length cap ns hload]
          · rw [foldl_bytes]
            apply List.ext_getElem?
            intro i
            have he0 : ByteArray.empty.data.toList.map UInt8.toNat = [] := rfl
            rw [he0, List.nil_append, List.getElem?_map]
            by_cases hi : i < l.length
            · rw [(hns i hi).2, List.getD, List.getElem?_eq_getElem (by omega)]; rfl
            · rw [List.getElem?_eq_none (by omega), List.getElem?_eq_none (by omega)]; rfl
  · cases hc

end
end Ev
