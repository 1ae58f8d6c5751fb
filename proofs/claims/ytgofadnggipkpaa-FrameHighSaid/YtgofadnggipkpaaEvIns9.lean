import Derived.Test.YtgofadnggipkpaaEvIns8
import Derived.Deep.Upon
set_option linter.unusedVariables false
namespace Ev
open Go

/-- rows beside the cells that an argument yields -/
structure NewsAt (P : Program) (g : G) (w : World) (sz : Nat) (tx : TypeId) (new : List (List V)) (cv : Value) (news : List Value) : Prop where
  src : Src P sz tx cv new.length news w
  row : ∀ x, x ∈ new → x.length = sz
  rep : ∀ (i j : Nat) (x : List V) (c : V), new[i]? = some x → x[j]? = some c → c.keep = true ∧ RepA g c (news.getD (i * sz + j) undef)

theorem news_len {P : Program} {g : G} {w : World} {sz : Nat} {tx : TypeId} {new : List (List V)} {cv : Value} {news : List Value} (h : NewsAt P g w sz tx new cv news) : news.length = new.length * sz := h.src.newsLen

/-- the cells of rows, one behind the other -/
def flatF (f : Nat → Nat → Value) (sz n : Nat) : List Value := (List.range (n * sz)).map fun k => f (k / sz) (k % sz)

theorem flatF_len (f : Nat → Nat → Value) (sz n : Nat) : (flatF f sz n).length = n * sz := by simp [flatF]
theorem flatF_get {f : Nat → Nat → Value} {sz n i j : Nat} (hi : i < n) (hj : j < sz) : (flatF f sz n)[i * sz + j]? = some (f i j) := by
  have hlt := idx_lt hi hj
  have h0 : 0 < sz := by omega
  have e1 : (i * sz + j) / sz = i := by rw [Nat.mul_comm, Nat.mul_add_div h0, Nat.div_eq_of_lt hj, Nat.add_zero]
  have e2 : (i * sz + j) % sz = j := by rw [Nat.mul_comm, Nat.mul_add_mod, Nat.mod_eq_of_lt hj]
  simp [flatF, hlt, e1, e2]
theorem flatF_at {f : Nat → Nat → Value} {sz n k : Nat} {v : Value} (h : (flatF f sz n)[k]? = some v) : k / sz < n ∧ k % sz < sz ∧ v = f (k / sz) (k % sz) ∧ k = k / sz * sz + k % sz := by
  have hk := lt_of_get h
  rw [flatF_len] at hk
  have h0 : 0 < sz := by rcases Nat.eq_zero_or_pos sz with q | q; subst q; simp at hk; exact q
  refine ⟨Nat.div_lt_of_lt_mul (by rw [Nat.mul_comm]; exact hk), Nat.mod_lt _ h0, ?_, (Nat.div_add_mod' k sz).symm⟩
  simp [flatF, hk] at h
  exact h.symm

theorem elems_cells {g : G} {w : World} {sz : Nat} {es : List (List V)} {b o : Nat} {f : Nat → Nat → Value} (hrow : ∀ x, x ∈ es → x.length = sz)
    (h : ∀ (i j : Nat) (x : List V) (c : V), es[i]? = some x → x[j]? = some c → c.keep = true ∧ w.cell? (ad b (o + i * sz + j)) = some (f i j) ∧ RepA g c (f i j)) :
    (∀ j v, (flatF f sz es.length)[j]? = some v → w.cell? ((ad b o).add j) = some v ∧ oneC v = true) ∧
    (∀ (i j : Nat) (x : List V) (c : V), es[i]? = some x → x[j]? = some c → c.keep = true ∧ RepA g c ((flatF f sz es.length).getD (i * sz + j) undef)) := by
  refine ⟨fun k v hv => ?_, fun i j x c hx hc => ?_⟩
  · obtain ⟨h1, h2, rfl, h4⟩ := flatF_at hv
    have hx : es[k / sz]? = some (es[k / sz]) := by rw [List.getElem?_eq_getElem]
    have hl := hrow _ (List.mem_of_getElem? hx)
    have hc : (es[k / sz])[k % sz]? = some ((es[k / sz])[k % sz]'(by omega)) := by rw [List.getElem?_eq_getElem]
    obtain ⟨h5, h6, h7⟩ := h _ _ _ _ hx hc
    refine ⟨?_, h7.oneC h5⟩
    rw [ad_add]
    rw [show o + k = o + k / sz * sz + k % sz by omega]
    exact h6
  · obtain ⟨h5, h6, h7⟩ := h _ _ _ _ hx hc
    have hj := lt_of_get hc
    rw [hrow x (List.mem_of_getElem? hx)] at hj
    refine ⟨h5, ?_⟩
    have : (flatF f sz es.length).getD (i * sz + j) undef = f i j := by
      rw [List.getD_eq_getElem?_getD, flatF_get (lt_of_get hx) hj]; rfl
    rw [this]; exact h7

theorem news_of_elems {P : Program} {g : G} {w : World} {sz : Nat} {tx : TypeId} {es : List (List V)} {cv : Value} (hk : (∃ e', P.underlying tx = some (.slice e')) ∨ P.underlying tx = some .string) (h : ElemsAt g w sz es cv) :
    ∃ news, NewsAt P g w sz tx es cv news := by
  obtain ⟨a, cap, rfl, hrow, hcap, hx⟩ := h
  rcases hx with rfl | ⟨b, o, f, rfl, hc⟩
  · refine ⟨[], ⟨⟨hk, fun _ => rfl, ?_, ?_, by simp, by simp⟩, by simp, by simp⟩⟩
    · cases a with
      | none => exact run_firstCells_none w sz 0 0 cap
      | some a => exact run_firstCells_some w sz 0 a 0 cap [] (by simp) (by simp)
    · cases a with
      | none => exact run_firstCells_none w.drew sz 0 0 cap
      | some a => exact run_firstCells_some w.drew sz 0 a 0 cap [] (by simp) (by simp)
  · obtain ⟨h1, h2⟩ := elems_cells hrow hc
    refine ⟨flatF f sz es.length, ⟨⟨hk, fun _ => rfl, run_firstCells_some w sz _ _ _ cap _ (flatF_len _ _ _) fun j v hv => (h1 j v hv).1,
      run_firstCells_some w.drew sz _ _ _ cap _ (flatF_len _ _ _) fun j v hv => (h1 j v hv).1, flatF_len _ _ _, fun u hu => ?_⟩, hrow, h2⟩⟩
    obtain ⟨k, hk'⟩ := List.getElem?_of_mem hu
    exact oneC' (h1 k u hk').2

theorem news_of_string {P : Program} {g : G} {w : World} {tx : TypeId} {l : List Nat} {s : ByteArray} (hk : (∃ e', P.underlying tx = some (.slice e')) ∨ P.underlying tx = some .string) (hl : s.data.toList.map UInt8.toNat = l) :
    NewsAt P g w 1 tx (l.map fun n => [byte n]) (.string s) (byteCells s) := by
  have hsz : s.size = l.length := by rw [← hl, List.length_map, Array.length_toList]; rfl
  have hlen : (l.map fun n => [byte n]).length = s.size := by simp [hsz]
  refine ⟨⟨hk, fun _ => by rw [hlen]; rfl, by rw [hlen]; exact firstCells_string s w, by rw [hlen]; exact firstCells_string s w.drew, by rw [byteCells_length, hlen, Nat.mul_one], fun u hu => by
    obtain ⟨_, _, rfl⟩ := List.mem_map.1 hu
    rfl⟩, fun x hx => by obtain ⟨n, _, rfl⟩ := List.mem_map.1 hx; rfl, fun i j x c hx hc => ?_⟩
  obtain ⟨_, _, r3⟩ := bytesRow_rows hl s.size
  obtain ⟨h1, cv, h2, h3⟩ := r3 i j x c hx hc
  refine ⟨h1, ?_⟩
  have : (byteCells s).getD (i * 1 + j) undef = cv := by
    rw [Nat.mul_one, List.getD_eq_getElem?_getD]
    have hi : i + j < s.data.size := by
      have := lt_of_get hx
      have hj := lt_of_get hc
      rw [List.getElem?_map] at hx
      cases hn : l[i]? with
      | none => simp [hn] at hx
      | some n =>
        simp only [hn, Option.map_some, Option.some.injEq] at hx; subst hx
        simp at hj this; have : s.size = s.data.size := rfl; omega
    simp only [bytesRow] at h2
    rw [Array.getElem?_append_left (by simpa using hi)] at h2
    simp only [Array.getElem?_map] at h2
    simp only [byteCells, List.getElem?_map, Array.getElem?_toList, h2, Option.getD_some]
  rw [this]; exact .c _ _ (h3 _)

section
variable {e : Env}

theorem Res.rows (h : e.St) {sz : Nat} {tx : TypeId} {v : V} {cv : Value} (hk : (∃ e', e.P.underlying tx = some (.slice e')) ∨ e.P.underlying tx = some .string) (hr : RepT e.g e.ν v cv) {F : List (List V) → (V → St → D) → (V → St → D) → D}
    (hF : ∀ es news, NewsAt e.P e.g e.w sz tx es cv news → Res e (F es)) : Res e (fun k kp => rowsD e.st.hp sz v fun es => F es k kp) := by
  have hel : Res e (fun k kp => elemsD e.st.hp sz v fun es => F es k kp) := Res.elems h hr fun es hes => by
    obtain ⟨news, hn⟩ := news_of_elems (P := e.P) hk hes
    exact hF es news hn
  cases v with
  | st l =>
    obtain ⟨s, rfl, hl⟩ := RepA.st_inv hr
    refine .bif (F := fun k kp => F (l.map fun n => [byte n]) k kp) (G := fun _ _ => .bad) (fun hb => ?_) (fun _ => .bad fun _ _ => rfl)
    have := Nat.eq_of_beq_eq_true hb
    subst this
    exact hF _ _ (news_of_string hk hl)
  | _ => exact hel

theorem zeroCells_size (z : Array Value) (n : Nat) : (Builtin.zeroCells z n).size = n * z.size := by simp [Builtin.zeroCells]

/-- a new block of rows, and room behind them -/
theorem rows_grown {g : G} {sz cap : Nat} {es : List (List V)} {vals : List Value} {zs : Array Value} (hl : vals.length = es.length * sz) (hrow : ∀ x, x ∈ es → x.length = sz) (hcap : es.length ≤ cap) (hz : zs.size = (cap - es.length) * sz)
    (hr : ∀ (i j : Nat) (x : List V) (c : V), es[i]? = some x → x[j]? = some c → c.keep = true ∧ RepA g c (vals.getD (i * sz + j) undef)) : Rows g ⟨sz, false, es⟩ cap (vals.toArray ++ zs) := by
  refine ⟨rfl, hcap, ?_, hrow, fun x hx c hc => ?_, fun i j x c hx hc => ?_⟩
  · have : es.length * sz ≤ cap * sz := Nat.mul_le_mul_right _ hcap
    simp [hl, hz, Nat.sub_mul]; omega
  · obtain ⟨i, hi⟩ := List.getElem?_of_mem hx
    obtain ⟨j, hj⟩ := List.getElem?_of_mem hc
    exact (hr i j x c hi hj).1
  · have hj := lt_of_get hc
    rw [hrow x (List.mem_of_getElem? hx)] at hj
    have hlt : i * sz + j < es.length * sz := idx_lt (lt_of_get hx) hj
    have : (vals.toArray ++ zs).getD (i * sz + j) undef = vals.getD (i * sz + j) undef := by
      rw [Array.getD_eq_getD_getElem?, Array.getElem?_append_left (by simp; omega), List.getElem?_toArray, List.getD_eq_getElem?_getD]
    simp only []
    rw [this]
    exact (hr i j x c hx hc).2

theorem app_run {c : Go.Call} {x y : Operand} {cv : Value} {w' : World} {t tx : TypeId} (hargs : c.args = #[x, y]) (htys : c.argTypes = #[t, tx]) (ho : e.o.op = .call c) (hc : c.callee = .builtin .append)
    (h : (Builtin.append_ #[t, tx] e.o.type #[e.a.eval x, e.a.eval y]).run e.P e.w = .ok cv w') : (execOp e.a.eval e.o).run e.P e.w = .ok (.value cv) w' :=
  run_builtin ho hc (by simp [Go.builtin, hargs, htys, h])

/-- is there room, or can it be made? -/
def Fits (bytes sLen n sCap : Nat) : Prop := sLen + n ≤ sCap ∨ (((sLen + n : Nat) : Int) ≤ 9223372036854775807 ∧ Builtin.nextslicecap (sLen + n) sCap * bytes ≤ 281474976710656)

theorem ok_appN (h : e.St) {x : Operand} {xa : A} {t tx el : TypeId} {sz bytes : Nat} {z : List V} {sv : Value} {new : List (List V)} {news : List Value}
    (hrunx : ∀ cv w' base sLen sCap, e.a.eval x = .slice base sLen sCap → Fits bytes sLen new.length sCap → (Builtin.append_ #[t, tx] e.o.type #[e.a.eval x, sv]).run e.P e.w = .ok cv w' → (execOp e.a.eval e.o).run e.P e.w = .ok (.value cv) w')
    (hu : e.P.underlying t = some (.slice el)) (hk : (∃ e', e.P.underlying tx = some (.slice e')) ∨ e.P.underlying tx = some .string) (hs : Ev.size e.P el = some sz) (hb : Ev.bytesOf e.P el = some bytes) (hz : Ev.zeroOf e.P el = some z)
    (hsz : 0 < sz) (hb0 : 0 < bytes) (hzl : z.length = sz) (hx : cA x = some xa) (us : List Nat) (hn : NewsAt e.P e.g e.w sz tx new sv news) : Res e (fun k _ => appendD us e.st sz bytes (get e.st.tm xa) new k) := by
  have hrx := h.rep hx
  obtain ⟨i, hi, his⟩ := size_info hs
  obtain ⟨i', zv, _, hi', hzz, _, _, hzn, hzk, hzr⟩ := zero_info (g := e.g) hz
  rw [hi] at hi'; cases hi'
  have hbytes : i.bytes = bytes := by simpa [Ev.bytesOf, hi] using hb
  have small : ∀ n, n * bytes ≤ maxB → n ≤ 140737488355328 := fun n q => by
    have : n * 1 ≤ n * bytes := Nat.mul_le_mul_left _ hb0
    unfold maxB at q; omega
  have hnl := news_len hn
  have hsrc : Src e.P i.size tx sv new.length news e.w := by rw [his]; exact hn.src
  cases hg : get e.st.tm xa with
  | ns =>
    rw [hg] at hrx
    have hv := RepA.ns_inv hrx
    cases new with
    | nil =>
      refine Res.val h (cv := .slice none 0 0) (hrunx _ _ none 0 0 hv (.inl (by simp)) ?_) (.c _ _ .ns) rfl
      rw [hv]
      have hnn : news = [] := List.eq_nil_of_length_eq_zero (by simpa using hnl)
      subst hnn
      have hlen := hsrc.len
      have hcells := hsrc.cells
      simp only [List.length_nil] at hlen hcells
      rcases hk with ⟨e', hk⟩ | hk <;> simp [Builtin.append_, run_underlying hu, run_underlying hk, Go.sizeOf, typeInfo, hi, hlen, hcells]
    | cons r0 rs =>
      refine .chk fun q => ?_
      have q := Nat.le_of_ble_eq_true q
      have hsm := small _ q
      have hpos : 0 < (r0 :: rs).length := by simp
      have hgr := run_append_grow_src (P := e.P) e.w t tx e.o.type el i zv hu hi hzz none 0 0 [] (run_firstCells_none _ _ _ _ _) (sv) (r0 :: rs).length news hsrc (by omega) (by omega) (by
        rw [Nat.zero_add, nextslicecap_zero hpos, hbytes]; unfold maxB at q; omega)
      simp only [Nat.zero_add, List.nil_append] at hgr
      have hcap := grownCap_ge e.w (r0 :: rs).length 0 el
      generalize hcd : grownCap e.w (r0 :: rs).length 0 el = cap at hgr hcap
      have hrows := rows_grown (g := e.g) (cap := cap) hnl hn.row hcap (zs := Builtin.zeroCells zv.cells (cap - (r0 :: rs).length)) (by rw [zeroCells_size, hzn, hzl]) hn.rep
      refine .out (.value _ _ (hrunx _ _ none 0 0 hv (.inr ⟨by omega, by rw [Nat.zero_add, nextslicecap_zero hpos]; unfold maxB at q; omega⟩) (by rw [hv]; exact hgr))) ⟨rfl, h.mem.new (Grow.drew (grow_alloc _ _ _)) hrows, born_le h.mem.hr _, .inl rfl, .ofA ?_, fun _ _ _ _ hx => by cases hx⟩
      exact .hs _ _ _ _ _ hcap (.inr ⟨⟨e.w.heap.size, 0, sz, cap⟩, by simp [born], .inr ⟨by simp [ad], by simp⟩⟩)
  | vs m es =>
    rw [hg] at hrx
    refine .bif (F := fun k _ => .chk (Nat.beq new.length 0) (k (.vs m es) e.st)) (G := fun _ _ => .bad) (fun hm => ?_) (fun _ => .bad fun _ _ => rfl)
    refine .chk fun q => ?_
    have hnn0 : new = [] := List.eq_nil_of_length_eq_zero (Nat.eq_of_beq_eq_true q)
    subst hnn0
    have hnn : news = [] := List.eq_nil_of_length_eq_zero (by simpa using hnl)
    subst hnn
    obtain ⟨a, cap, b, o, f, hcv, _, _, h3, _⟩ := RepA.vs_inv hrx
    have hlen := hsrc.len
    have hcells := hsrc.cells
    simp only [List.length_nil] at hlen hcells
    refine Res.val h (cv := .slice a es.length cap) (hrunx _ _ a es.length cap hcv (.inl (by simpa using h3)) ?_) (by rw [← hcv]; exact hrx) rfl
    rw [hcv]
    cases a <;> rcases hk with ⟨e', hk⟩ | hk <;> simp [Builtin.append_, run_underlying hu, run_underlying hk, Go.sizeOf, typeInfo, hi, hlen, hcells, h3, storeCells]
  | hs id i0 n =>
    rw [hg] at hrx
    refine Res.hget (F := fun bk k _ => bif bk.fr then .bad else bif Nat.blt id e.st.hp.lim then .bad else bif Nat.beq bk.sz sz then bif freshH us e.st.tm id then
      .chk (Nat.ble (i0 + n) bk.es.length) (.chk (Nat.ble ((n + new.length) * bytes) maxB)
        (k (.hs e.st.hp.next 0 (n + new.length)) (e.st.setHp (hnew (hset e.st.hp id none) ⟨sz, false, (bk.es.drop i0).take n ++ new⟩)))) else .bad else .bad) fun bk hbk => ?_
    refine .bif (F := fun _ _ => .bad) (fun _ => .bad fun _ _ => rfl) (fun hfr => ?_)
    refine .bif (F := fun _ _ => .bad) (fun _ => .bad fun _ _ => rfl) (fun hlm => ?_)
    refine .bif (G := fun _ _ => .bad) (fun hm => ?_) (fun _ => .bad fun _ _ => rfl)
    refine .bif (G := fun _ _ => .bad) (fun _ => ?_) (fun _ => .bad fun _ _ => rfl)
    refine .chk fun q1 => .chk fun q2 => ?_
    have q1 := Nat.le_of_ble_eq_true q1
    have q2 := Nat.le_of_ble_eq_true q2
    have hsm := small _ q2
    have hm := Nat.eq_of_beq_eq_true hm
    have hlim : e.st.hp.lim ≤ id := bltG hlm
    obtain ⟨a, cap, hcv, c1, c2⟩ := RepA.hs_inv hrx
    rcases c2 with c2 | ⟨r, hl, c2⟩
    · rw [h.mem.hr.dead id c2] at hbk; cases hbk
    · obtain ⟨bk0, e0, zz⟩ := h.mem.hr.live id r hl
      rw [hbk] at e0; cases e0
      have hrs : r.sz = sz := by rw [zz.sz, hm]
      have hrl := zz.len
      have hol : ((bk.es.drop i0).take n).length = n := by rw [List.length_take, List.length_drop]; omega
      have hgt : ∀ (k : Nat) (x : List V), ((bk.es.drop i0).take n)[k]? = some x → k < n ∧ bk.es[i0 + k]? = some x := by
        intro k x hk
        have := lt_of_get hk
        rw [List.getElem?_take_of_lt (by omega), List.getElem?_drop] at hk
        exact ⟨by omega, hk⟩
      by_cases hroom : n + new.length ≤ cap
      · by_cases hc0 : cap = 0
        · have hn0 : n = 0 := by omega
          have hnew0 : new = [] := List.eq_nil_of_length_eq_zero (by omega)
          subst hnew0
          subst hn0
          have hnn : news = [] := List.eq_nil_of_length_eq_zero (by simpa using hnl)
          subst hnn
          have hlen := hsrc.len
          have hcells := hsrc.cells
          simp only [List.length_nil] at hlen hcells
          have hrun : (Builtin.append_ #[t, tx] e.o.type #[e.a.eval x, sv]).run e.P e.w = .ok (.slice a 0 cap) e.w := by
            rw [hcv]
            cases a <;> rcases hk with ⟨e', hk⟩ | hk <;> simp [Builtin.append_, run_underlying hu, run_underlying hk, Go.sizeOf, typeInfo, hi, hlen, hcells, storeCells]
          have hmem := h.mem.rename hl hbk hfr hlim i0 0 (by omega) (bk' := ⟨sz, false, (bk.es.drop i0).take 0 ++ []⟩) hm.symm rfl (by simp) (fun k x hx => by simp at hx)
          have hle : GLe e.g (born (killed e.g id) e.st.hp ⟨r.b, r.base + i0 * r.sz, r.sz, 0⟩) := (killed_le hl).trans (born_le (h.mem.kill hl hlim).hr _)
          refine .out (.value _ _ (hrunx _ _ a 0 cap hcv (.inl (by simp)) hrun)) ⟨rfl, hmem, hle, .inl rfl, .ofA ?_, fun _ _ _ _ hx => by cases hx⟩
          simp only [List.length_nil, Nat.add_zero]
          exact .hs _ _ _ _ _ (by omega) (.inr ⟨⟨r.b, r.base + i0 * r.sz, r.sz, 0⟩, by simp [born], .inl hc0⟩)
        · rcases c2 with c2 | ⟨c2, c3⟩
          · exact absurd c2 hc0
          · subst c2
            have hmulc : (i0 + n + new.length) * r.sz ≤ r.cap * r.sz := Nat.mul_le_mul_right _ (by omega)
            have hsplit : (i0 + n) * r.sz + news.length = (i0 + n + new.length) * r.sz := by rw [hnl, ← hrs, ← Nat.add_mul]
            have hplace : ∀ j, r.base + i0 * r.sz + n * i.size + j = r.base + ((i0 + n) * r.sz + j) := fun j => by rw [his, ← hrs, Nat.add_mul]; omega
            have hrun := run_append_room_src (P := e.P) e.w t tx e.o.type el i hu hi r.b (r.base + i0 * r.sz) n cap (sv) new.length news hsrc hroom (fun j hj => by
                obtain ⟨⟨u, hu'⟩, _⟩ := zz.rw hfr ((i0 + n) * r.sz + j) (by omega)
                have := hplace j
                simp only [ad] at hu'
                rw [this, hu']; rfl) (fun j hj => by
                have h2 := (zz.rw hfr ((i0 + n) * r.sz + j) (by omega)).2.1
                have := hplace j
                simp only [ad] at h2
                rw [this, h2])
            have hw := h.mem.write hl hbk hfr hlim (bk' := ⟨sz, false, bk.es.take (i0 + n) ++ (new ++ bk.es.drop (i0 + n + new.length))⟩) ((i0 + n) * r.sz) news (by omega) hm.symm rfl (by simp; omega)
              (fun x hx => by
                rw [hm]
                rcases List.mem_append.1 hx with hx | hx
                · rw [← hm]; exact zz.row x (List.mem_of_mem_take hx)
                · rcases List.mem_append.1 hx with hx | hx
                  · exact hn.row x hx
                  · rw [← hm]; exact zz.row x (List.mem_of_mem_drop hx))
              (fun i' j x c hx hc => by
                rw [hm, hrs]
                simp only at hx
                have hj := lt_of_get hc
                by_cases p1 : i' < i0 + n
                · rw [List.getElem?_append_left (by simp; omega), List.getElem?_take_of_lt p1] at hx
                  rw [zz.row x (List.mem_of_getElem? hx), hm] at hj
                  obtain ⟨k1, u, k2, k3⟩ := zz.cont i' j x c hx hc
                  have := Nat.mul_le_mul_right sz (show i' + 1 ≤ i0 + n by omega)
                  rw [Nat.add_mul, Nat.one_mul] at this
                  rw [if_neg (by omega)]
                  exact ⟨k1, u, by rw [← hrs, ← Nat.add_assoc]; exact k2, k3⟩
                · rw [List.getElem?_append_right (by simp; omega)] at hx
                  have htl : (bk.es.take (i0 + n)).length = i0 + n := by simp; omega
                  rw [htl] at hx
                  by_cases p2 : i' < i0 + n + new.length
                  · rw [List.getElem?_append_left (by omega)] at hx
                    rw [hn.row x (List.mem_of_getElem? hx)] at hj
                    obtain ⟨k1, k2⟩ := hn.rep _ j x c hx hc
                    have hlt := idx_lt (lt_of_get hx) hj
                    have e1 : i' * sz + j - (i0 + n) * sz = (i' - (i0 + n)) * sz + j := by
                      have : i' * sz = (i0 + n) * sz + (i' - (i0 + n)) * sz := by rw [← Nat.add_mul]; congr 1; omega
                      omega
                    have e2 := Nat.mul_le_mul_right sz (show i0 + n ≤ i' by omega)
                    rw [if_pos ⟨by omega, by omega⟩, e1]
                    refine ⟨k1, _, ?_, k2⟩
                    rw [List.getD_eq_getElem?_getD, List.getElem?_eq_getElem (by omega)]; rfl
                  · rw [List.getElem?_append_right (by omega), List.getElem?_drop] at hx
                    rw [show i0 + n + new.length + (i' - (i0 + n) - new.length) = i' by omega] at hx
                    rw [zz.row x (List.mem_of_getElem? hx), hm] at hj
                    obtain ⟨k1, u, k2, k3⟩ := zz.cont i' j x c hx hc
                    have := Nat.mul_le_mul_right sz (show i0 + n + new.length ≤ i' by omega)
                    rw [← hrs] at this
                    rw [if_neg (by rw [← hrs]; omega)]
                    exact ⟨k1, u, by rw [← hrs, ← Nat.add_assoc]; exact k2, k3⟩)
            have hgs := hget_hset e.st.hp id (some ⟨sz, false, bk.es.take (i0 + n) ++ (new ++ bk.es.drop (i0 + n + new.length))⟩)
            have hren := hw.rename (id := id) (r := r) (bk := ⟨sz, false, bk.es.take (i0 + n) ++ (new ++ bk.es.drop (i0 + n + new.length))⟩) hl (by rw [hgs, if_pos rfl]) rfl hlim i0 cap c3 (bk' := ⟨sz, false, (bk.es.drop i0).take n ++ new⟩) rfl rfl (by simp only [List.length_append, hol]; exact hroom) (fun k x hx => by
              simp only at hx ⊢
              by_cases p1 : k < n
              · rw [List.getElem?_append_left (by omega)] at hx
                rw [List.getElem?_append_left (by simp; omega), List.getElem?_take_of_lt (by omega)]
                exact (hgt k x hx).2
              · rw [List.getElem?_append_right (by omega), hol] at hx
                rw [List.getElem?_append_right (by simp; omega), List.getElem?_append_left (by have := lt_of_get hx; simp; omega)]
                rw [show i0 + k - (bk.es.take (i0 + n)).length = k - n by simp; omega]
                exact hx)
            have hmem := hren.hpExt (hp' := hnew (hset e.st.hp id none) ⟨sz, false, (bk.es.drop i0).take n ++ new⟩) rfl rfl (fun j => by
              rw [hget_hnew, hget_hnew, hget_hset, hget_hset, hget_hset]
              by_cases p : j = id
              · simp only [p, if_true]; rfl
              · simp only [p, if_false]; rfl)
            have hle : GLe e.g (born (killed e.g id) e.st.hp ⟨r.b, r.base + i0 * r.sz, r.sz, cap⟩) := (killed_le hl).trans (born_le (h.mem.kill hl hlim).hr _)
            have hww : e.w.setCells r.b (r.base + i0 * r.sz + n * i.size) news = setCs e.w r.b (r.base + (i0 + n) * r.sz) news := by
              rw [setCs_eq, show r.base + i0 * r.sz + n * i.size = r.base + (i0 + n) * r.sz by have := hplace 0; omega]
            refine .out (.value _ _ (hrunx _ _ _ _ _ hcv (.inl hroom) (by rw [hcv]; exact hrun))) ⟨rfl, by rw [hww]; exact hmem, hle, .inl rfl, .ofA ?_, fun _ _ _ _ hx => by cases hx⟩
            exact .hs _ _ _ _ _ hroom (.inr ⟨⟨r.b, r.base + i0 * r.sz, r.sz, cap⟩, by simp [born], .inr ⟨by simp [ad], by simp⟩⟩)
      · -- no room: a new block
        let f : Nat → Nat → Value := fun k j => (e.w.cell? (ad r.b (r.base + i0 * r.sz + k * sz + j))).getD undef
        have hcell : ∀ (k j : Nat) (x : List V) (c : V), ((bk.es.drop i0).take n)[k]? = some x → x[j]? = some c → c.keep = true ∧ e.w.cell? (ad r.b (r.base + i0 * r.sz + k * sz + j)) = some (f k j) ∧ RepA e.g c (f k j) := by
          intro k j x c hx hc
          obtain ⟨k1, u, k2, k3⟩ := zz.cont (i0 + k) j x c (hgt k x hx).2 hc
          have : r.base + (i0 + k) * r.sz + j = r.base + i0 * r.sz + k * sz + j := by rw [Nat.add_mul, hrs]; omega
          rw [this] at k2
          refine ⟨k1, ?_, ?_⟩
          · simp only [f, k2, Option.getD_some]
          · simp only [f, k2, Option.getD_some]; exact k3
        have horow : ∀ x, x ∈ (bk.es.drop i0).take n → x.length = sz := fun x hx => by
          obtain ⟨k, hk⟩ := List.getElem?_of_mem hx
          rw [zz.row x (List.mem_of_getElem? (hgt k x hk).2), hm]
        obtain ⟨o1, o2⟩ := elems_cells horow hcell
        rw [hol] at o1 o2
        have hfirst : (Builtin.firstCells i.size n (.slice a n cap)).run e.P e.w.drew = .ok (flatF f sz n).toArray e.w.drew := by
          rcases c2 with c2 | ⟨c2, _⟩
          · have hn0 : n = 0 := by omega
            subst hn0
            have hfl : flatF f sz 0 = [] := List.eq_nil_of_length_eq_zero (by rw [flatF_len]; simp)
            rw [hfl]
            cases a with
            | none => exact run_firstCells_none _ _ _ _ _
            | some a => exact run_firstCells_some e.w.drew i.size 0 a 0 cap [] (by simp) (by simp)
          · subst c2
            exact run_firstCells_some e.w.drew i.size n _ n cap _ (by rw [flatF_len, his]) fun j v hv => (o1 j v hv).1
        have hfit : Builtin.nextslicecap (n + new.length) cap * bytes ≤ 281474976710656 := by
          have := nextslicecap_le (need := n + new.length) (old := cap) (by omega)
          have h2 := Nat.mul_le_mul_right bytes this
          rw [Nat.mul_assoc] at h2
          unfold maxB at q2; omega
        have hgr := run_append_grow_src (P := e.P) e.w t tx e.o.type el i zv hu hi hzz a n cap _ hfirst (sv) new.length news hsrc (by omega) (by omega) (by rw [hbytes]; exact hfit)
        have hcap := grownCap_ge e.w (n + new.length) cap el
        generalize hcd : grownCap e.w (n + new.length) cap el = cap' at hgr hcap
        have hk1 := h.mem.kill hl hlim
        have hkl := killed_le hl
        have htot : ((bk.es.drop i0).take n ++ new).length = n + new.length := by rw [List.length_append, hol]
        have hrows := rows_grown (g := killed e.g id) (sz := sz) (cap := cap') (es := (bk.es.drop i0).take n ++ new) (vals := flatF f sz n ++ news) (zs := Builtin.zeroCells zv.cells (cap' - (n + new.length)))
          (by rw [htot, List.length_append, flatF_len, hnl, Nat.add_mul]) (fun x hx => by
            rcases List.mem_append.1 hx with hx | hx
            · exact horow x hx
            · exact hn.row x hx) (by rw [htot]; exact hcap) (by rw [zeroCells_size, hzn, hzl, htot]) (fun k j x c hx hc => by
            by_cases p1 : k < n
            · rw [List.getElem?_append_left (by omega)] at hx
              have hj := lt_of_get hc
              rw [horow x (List.mem_of_getElem? hx)] at hj
              obtain ⟨k1, k2⟩ := o2 k j x c hx hc
              have hlt := idx_lt p1 hj
              refine ⟨k1, ?_⟩
              rw [List.getD_eq_getElem?_getD, List.getElem?_append_left (by rw [flatF_len]; exact hlt), ← List.getD_eq_getElem?_getD]
              exact k2.mono hkl
            · rw [List.getElem?_append_right (by omega), hol] at hx
              obtain ⟨k1, k2⟩ := hn.rep _ j x c hx hc
              refine ⟨k1, ?_⟩
              have e1 : k * sz = n * sz + (k - n) * sz := by rw [← Nat.add_mul]; congr 1; omega
              rw [List.getD_eq_getElem?_getD, List.getElem?_append_right (by rw [flatF_len]; omega), flatF_len, show k * sz + j - n * sz = (k - n) * sz + j by omega, ← List.getD_eq_getElem?_getD]
              exact k2.mono hkl)
        have hmem := hk1.new (Grow.drew (grow_alloc _ _ el)) hrows
        refine .out (.value _ _ (hrunx _ _ _ _ _ hcv (.inr ⟨by omega, hfit⟩) (by rw [hcv]; exact hgr))) ⟨rfl, hmem, hkl.trans (born_le hk1.hr _), .inl rfl, .ofA ?_, fun _ _ _ _ hx => by cases hx⟩
        exact .hs _ _ _ _ _ hcap (.inr ⟨⟨e.w.heap.size, 0, sz, cap'⟩, by simp [born, hset], .inr ⟨by simp [ad], by simp⟩⟩)
  | _ => exact .bad fun _ _ => rfl


theorem ok_app (h : e.St) {c : Go.Call} {x y : Operand} {xa ya : A} {t tx el : TypeId} {sz bytes : Nat} {z : List V} (hargs : c.args = #[x, y]) (htys : c.argTypes = #[t, tx]) (ho : e.o.op = .call c) (hc : c.callee = .builtin .append)
    (hu : e.P.underlying t = some (.slice el)) (hk : (∃ e', e.P.underlying tx = some (.slice e')) ∨ e.P.underlying tx = some .string) (hs : Ev.size e.P el = some sz) (hb : Ev.bytesOf e.P el = some bytes) (hz : Ev.zeroOf e.P el = some z)
    (hsz : 0 < sz) (hb0 : 0 < bytes) (hzl : z.length = sz) (hx : cA x = some xa) (hy : cA y = some ya) (us : List Nat) (d : Nat) : Res e (iApp sz bytes xa ya us e.clr d e.st) :=
  Res.rows (tx := tx) h hk (h.rep hy) (F := fun new k _ => appendD us e.st sz bytes (get e.st.tm xa) new k) fun new news hn =>
    ok_appN h (fun _ _ _ _ _ _ _ q => app_run hargs htys ho hc q) hu hk hs hb hz hsz hb0 hzl hx us hn

end
end Ev
