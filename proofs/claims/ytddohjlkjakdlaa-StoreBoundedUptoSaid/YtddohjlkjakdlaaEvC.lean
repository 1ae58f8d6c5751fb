import Derived.Test.YtddohjlkjakdlaaEvB
import Derived.Deep.Upon
import Derived.Lib.Bytealg
import Derived.KernelRfl
set_option linter.unusedVariables false
set_option linter.unusedSimpArgs false
namespace Ev
open Go

/-- rows beside the cells that an argument yields -/
structure NewsAt (P : Program) (g : G) (w : World) (sz : Nat) (tx : TypeId) (new : List (List V)) (cv : Value) (news : List Value) : Prop where
  src : Src P sz tx cv new.length news w
  row : ∀ x, x ∈ new → x.length = sz
  rep : ∀ (i j : Nat) (x : List V) (c : V), new[i]? = some x → x[j]? = some c → c.keep = true ∧ RepA g c (news.getD (i * sz + j) undef)

theorem news_len {P : Program} {g : G} {w : World} {sz : Nat} {tx : TypeId} {new : List (List V)} {cv : Value} {news : List Value} (h : NewsAt P g w sz tx new cv news) : news.length = new.length * sz := h.src.newsLen

/-- the cells of rows, one behind the other -/
def flatF (f : Nat → Nat → Value) (sz n : Nat) : List Value := (List.range (n * sz)).map fun k => f (k / sz) (k % sz)

theorem flatF_len (f : Nat → Nat → Value) (sz n : Nat) : (flatF f sz n).length = n * sz := by simp [flatF]
theorem flatF_get {f : Nat → Nat → Value} {sz n i j : Nat} (hi : i < n) (hj : j < sz) : (flatF f sz n)[i * sz + j]? = some (f i j) := by
  have hlt := idx_lt hi hj
  have h0 : 0 < sz := by omega
  have e1 : (i * sz + j) / sz = i := by rw [Nat.mul_comm, Nat.mul_add_div h0, Nat.div_eq_of_lt hj, Nat.add_zero]
  have e2 : (i * sz + j) % sz = j := by rw [Nat.mul_comm, Nat.mul_add_mod, Nat.mod_eq_of_lt hj]
  simp [flatF, hlt, e1, e2]
theorem flatF_at {f : Nat → Nat → Value} {sz n k : Nat} {v : Value} (h : (flatF f sz n)[k]? = some v) : k / sz < n ∧ k % sz < sz ∧ v = f (k / sz) (k % sz) ∧ k = k / sz * sz + k % sz := by
  have hk := lt_of_get h
  rw [flatF_len] at hk
  have h0 : 0 < sz := by rcases Nat.eq_zero_or_pos sz with q | q; subst q; simp at hk; exact q
  refine ⟨Nat.div_lt_of_lt_mul (by rw [Nat.mul_comm]; exact hk), Nat.mod_lt _ h0, ?_, (Nat.div_add_mod' k sz).symm⟩
  simp [flatF, hk] at h
  exact h.symm

theorem elems_cells {g : G} {w : World} {sz : Nat} {es : List (List V)} {b o : Nat} {f : Nat → Nat → Value} (hrow : ∀ x, x ∈ es → x.length = sz)
    (h : ∀ (i j : Nat) (x : List V) (c : V), es[i]? = some x → x[j]? = some c → c.keep = true ∧ w.cell? (ad b (o + i * sz + j)) = some (f i j) ∧ RepA g c (f i j)) :
    (∀ j v, (flatF f sz es.length)[j]? = some v → w.cell? ((ad b o).add j) = some v ∧ oneC v = true) ∧
    (∀ (i j : Nat) (x : List V) (c : V), es[i]? = some x → x[j]? = some c → c.keep = true ∧ RepA g c ((flatF f sz es.length).getD (i * sz + j) undef)) := by
  refine ⟨fun k v hv => ?_, fun i j x c hx hc => ?_⟩
  · obtain ⟨h1, h2, rfl, h4⟩ := flatF_at hv
    have hx : es[k / sz]? = some (es[k / sz]) := by rw [List.getElem?_eq_getElem]
    have hl := hrow _ (List.mem_of_getElem? hx)
    have hc : (es[k / sz])[k % sz]? = some ((es[k / sz])[k % sz]'(by omega)) := by rw [List.getElem?_eq_getElem]
    obtain ⟨h5, h6, h7⟩ := h _ _ _ _ hx hc
    refine ⟨?_, h7.oneC h5⟩
    rw [ad_add]
    rw [show o + k = o + k / sz * sz + k % sz by omega]
    exact h6
  · obtain ⟨h5, h6, h7⟩ := h _ _ _ _ hx hc
    have hj := lt_of_get hc
    rw [hrow x (List.mem_of_getElem? hx)] at hj
    refine ⟨h5, ?_⟩
    have : (flatF f sz es.length).getD (i * sz + j) undef = f i j := by
      rw [List.getD_eq_getElem?_getD, flatF_get (lt_of_get hx) hj]; rfl
    rw [this]; exact h7

theorem news_of_elems {P : Program} {g : G} {w : World} {sz : Nat} {tx : TypeId} {es : List (List V)} {cv : Value} (hk : (∃ e', P.underlying tx = some (.slice e')) ∨ P.underlying tx = some .string) (h : ElemsAt g w sz es cv) :
    ∃ news, NewsAt P g w sz tx es cv news := by
  obtain ⟨a, cap, rfl, hrow, hcap, hx⟩ := h
  rcases hx with rfl | ⟨b, o, f, rfl, hc⟩
  · refine ⟨[], ⟨⟨hk, fun _ => rfl, ?_, ?_, by simp, by simp⟩, by simp, by simp⟩⟩
    · cases a with
      | none => exact run_firstCells_none w sz 0 0 cap
      | some a => exact run_firstCells_some w sz 0 a 0 cap [] (by simp) (by simp)
    · cases a with
      | none => exact run_firstCells_none w.drew sz 0 0 cap
      | some a => exact run_firstCells_some w.drew sz 0 a 0 cap [] (by simp) (by simp)
  · obtain ⟨h1, h2⟩ := elems_cells hrow hc
    refine ⟨flatF f sz es.length, ⟨⟨hk, fun _ => rfl, run_firstCells_some w sz _ _ _ cap _ (flatF_len _ _ _) fun j v hv => (h1 j v hv).1,
      run_firstCells_some w.drew sz _ _ _ cap _ (flatF_len _ _ _) fun j v hv => (h1 j v hv).1, flatF_len _ _ _, fun u hu => ?_⟩, hrow, h2⟩⟩
    obtain ⟨k, hk'⟩ := List.getElem?_of_mem hu
    exact oneC' (h1 k u hk').2

theorem news_of_string {P : Program} {g : G} {w : World} {tx : TypeId} {l : List Nat} {s : ByteArray} (hk : (∃ e', P.underlying tx = some (.slice e')) ∨ P.underlying tx = some .string) (hl : s.data.toList.map UInt8.toNat = l) :
    NewsAt P g w 1 tx (l.map fun n => [byte n]) (.string s) (byteCells s) := by
  have hsz : s.size = l.length := by rw [← hl, List.length_map, Array.length_toList]; rfl
  have hlen : (l.map fun n => [byte n]).length = s.size := by simp [hsz]
  refine ⟨⟨hk, fun _ => by rw [hlen]; rfl, by rw [hlen]; exact firstCells_string s w, by rw [hlen]; exact firstCells_string s w.drew, by rw [byteCells_length, hlen, Nat.mul_one], fun u hu => by
    obtain ⟨_, _, rfl⟩ := List.mem_map.1 hu
    rfl⟩, fun x hx => by obtain ⟨n, _, rfl⟩ := List.mem_map.1 hx; rfl, fun i j x c hx hc => ?_⟩
  obtain ⟨_, _, r3⟩ := bytesRow_rows hl s.size
  obtain ⟨h1, cv, h2, h3⟩ := r3 i j x c hx hc
  refine ⟨h1, ?_⟩
  have : (byteCells s).getD (i * 1 + j) undef = cv := by
    rw [Nat.mul_one, List.getD_eq_getElem?_getD]
    have hi : i + j < s.data.size := by
      have := lt_of_get hx
      have hj := lt_of_get hc
      rw [List.getElem?_map] at hx
      cases hn : l[i]? with
      | none => simp [hn] at hx
      | some n =>
        simp only [hn, Option.map_some, Option.some.injEq] at hx; subst hx
        simp at hj this; have : s.size = s.data.size := rfl; omega
    simp only [bytesRow] at h2
    rw [Array.getElem?_append_left (by simpa using hi)] at h2
    simp only [Array.getElem?_map] at h2
    simp only [byteCells, List.getElem?_map, Array.getElem?_toList, h2, Option.getD_some]
  rw [this]; exact .c _ _ (h3 _)

section
variable {e : Env}

theorem Res.rows (h : e.St) {sz : Nat} {tx : TypeId} {v : V} {cv : Value} (hk : (∃ e', e.P.underlying tx = some (.slice e')) ∨ e.P.underlying tx = some .string) (hr : RepT e.g e.ν v cv) {F : List (List V) → (V → St → D) → (V → St → D) → D}
    (hF : ∀ es news, NewsAt e.P e.g e.w sz tx es cv news → Res e (F es)) : Res e (fun k kp => rowsD e.st.hp sz v fun es => F es k kp) := by
  have hel : Res e (fun k kp => elemsD e.st.hp sz v fun es => F es k kp) := Res.elems h hr fun es hes => by
    obtain ⟨news, hn⟩ := news_of_elems (P := e.P) hk hes
    exact hF es news hn
  cases v with
  | st l =>
    obtain ⟨s, rfl, hl⟩ := RepA.st_inv hr
    refine .bif (F := fun k kp => F (l.map fun n => [byte n]) k kp) (G := fun _ _ => .bad) (fun hb => ?_) (fun _ => .bad fun _ _ => rfl)
    have := Nat.eq_of_beq_eq_true hb
    subst this
    exact hF _ _ (news_of_string hk hl)
  | _ => exact hel

theorem zeroCells_size (z : Array Value) (n : Nat) : (Builtin.zeroCells z n).size = n * z.size := by simp [Builtin.zeroCells]

/-- a new block of rows, and room behind them -/
theorem rows_grown {g : G} {sz cap : Nat} {es : List (List V)} {vals : List Value} {zs : Array Value} (hl : vals.length = es.length * sz) (hrow : ∀ x, x ∈ es → x.length = sz) (hcap : es.length ≤ cap) (hz : zs.size = (cap - es.length) * sz)
    (hr : ∀ (i j : Nat) (x : List V) (c : V), es[i]? = some x → x[j]? = some c → c.keep = true ∧ RepA g c (vals.getD (i * sz + j) undef)) : Rows g ⟨sz, false, es⟩ cap (vals.toArray ++ zs) := by
  refine ⟨rfl, hcap, ?_, hrow, fun x hx c hc => ?_, fun i j x c hx hc => ?_⟩
  · have : es.length * sz ≤ cap * sz := Nat.mul_le_mul_right _ hcap
    simp [hl, hz, Nat.sub_mul]; omega
  · obtain ⟨i, hi⟩ := List.getElem?_of_mem hx
    obtain ⟨j, hj⟩ := List.getElem?_of_mem hc
    exact (hr i j x c hi hj).1
  · have hj := lt_of_get hc
    rw [hrow x (List.mem_of_getElem? hx)] at hj
    have hlt : i * sz + j < es.length * sz := idx_lt (lt_of_get hx) hj
    have : (vals.toArray ++ zs).getD (i * sz + j) undef = vals.getD (i * sz + j) undef := by
      rw [Array.getD_eq_getD_getElem?, Array.getElem?_append_left (by simp; omega), List.getElem?_toArray, List.getD_eq_getElem?_getD]
    simp only []
    rw [this]
    exact (hr i j x c hx hc).2

theorem app_run {c : Go.Call} {x y : Operand} {cv : Value} {w' : World} {t tx : TypeId} (hargs : c.args = #[x, y]) (htys : c.argTypes = #[t, tx]) (ho : e.o.op = .call c) (hc : c.callee = .builtin .append)
    (h : (Builtin.append_ #[t, tx] e.o.type #[e.a.eval x, e.a.eval y]).run e.P e.w = .ok cv w') : (execOp e.a.eval e.o).run e.P e.w = .ok (.value cv) w' :=
  run_builtin ho hc (by simp [Go.builtin, hargs, htys, h])

/-- is there room, or can it be made? -/
def Fits (bytes sLen n sCap : Nat) : Prop := sLen + n ≤ sCap ∨ (((sLen + n : Nat) : Int) ≤ 9223372036854775807 ∧ Builtin.nextslicecap (sLen + n) sCap * bytes ≤ 281474976710656)

theorem ok_appN (h : e.St) {x : Operand} {xa : A} {t tx el : TypeId} {sz bytes : Nat} {z : List V} {sv : Value} {new : List (List V)} {news : List Value}
    (hrunx : ∀ cv w' base sLen sCap, e.a.eval x = .slice base sLen sCap → Fits bytes sLen new.length sCap → (Builtin.append_ #[t, tx] e.o.type #[e.a.eval x, sv]).run e.P e.w = .ok cv w' → (execOp e.a.eval e.o).run e.P e.w = .ok (.value cv) w')
    (hu : e.P.underlying t = some (.slice el)) (hk : (∃ e', e.P.underlying tx = some (.slice e')) ∨ e.P.underlying tx = some .string) (hs : Ev.size e.P el = some sz) (hb : Ev.bytesOf e.P el = some bytes) (hz : Ev.zeroOf e.P el = some z)
    (hsz : 0 < sz) (hb0 : 0 < bytes) (hzl : z.length = sz) (hx : cA x = some xa) (us : List Nat) (hn : NewsAt e.P e.g e.w sz tx new sv news) : Res e (fun k _ => appendD us e.st sz bytes (get e.st.tm xa) new k) := by
  have hrx := h.rep hx
  obtain ⟨i, hi, his⟩ := size_info hs
  obtain ⟨i', zv, _, hi', hzz, _, _, hzn, hzk, hzr⟩ := zero_info (g := e.g) hz
  rw [hi] at hi'; cases hi'
  have hbytes : i.bytes = bytes := by simpa [Ev.bytesOf, hi] using hb
  have small : ∀ n, n * bytes ≤ maxB → n ≤ 140737488355328 := fun n q => by
    have : n * 1 ≤ n * bytes := Nat.mul_le_mul_left _ hb0
    unfold maxB at q; omega
  have hnl := news_len hn
  have hsrc : Src e.P i.size tx sv new.length news e.w := by rw [his]; exact hn.src
  cases hg : get e.st.tm xa with
  | ns =>
    rw [hg] at hrx
    have hv := RepA.ns_inv hrx
    cases new with
    | nil =>
      refine Res.val h (cv := .slice none 0 0) (hrunx _ _ none 0 0 hv (.inl (by simp)) ?_) (.c _ _ .ns) rfl
      rw [hv]
      have hnn : news = [] := List.eq_nil_of_length_eq_zero (by simpa using hnl)
      subst hnn
      have hlen := hsrc.len
      have hcells := hsrc.cells
      simp only [List.length_nil] at hlen hcells
      rcases hk with ⟨e', hk⟩ | hk <;> simp [Builtin.append_, run_underlying hu, run_underlying hk, Go.sizeOf, typeInfo, hi, hlen, hcells]
    | cons r0 rs =>
      refine .chk fun q => ?_
      have q := Nat.le_of_ble_eq_true q
      have hsm := small _ q
      have hpos : 0 < (r0 :: rs).length := by simp
      have hgr := run_append_grow_src (P := e.P) e.w t tx e.o.type el i zv hu hi hzz none 0 0 [] (run_firstCells_none _ _ _ _ _) (sv) (r0 :: rs).length news hsrc (by omega) (by omega) (by
        rw [Nat.zero_add, nextslicecap_zero hpos, hbytes]; unfold maxB at q; omega)
      simp only [Nat.zero_add, List.nil_append] at hgr
      have hcap := grownCap_ge e.w (r0 :: rs).length 0 el
      generalize hcd : grownCap e.w (r0 :: rs).length 0 el = cap at hgr hcap
      have hrows := rows_grown (g := e.g) (cap := cap) hnl hn.row hcap (zs := Builtin.zeroCells zv.cells (cap - (r0 :: rs).length)) (by rw [zeroCells_size, hzn, hzl]) hn.rep
      refine .out (.value _ _ (hrunx _ _ none 0 0 hv (.inr ⟨by omega, by rw [Nat.zero_add, nextslicecap_zero hpos]; unfold maxB at q; omega⟩) (by rw [hv]; exact hgr))) ⟨rfl, h.mem.new (Grow.drew (grow_alloc _ _ _)) hrows, born_le h.mem.hr _, .inl rfl, .ofA ?_, fun _ _ _ _ hx => by cases hx⟩
      exact .hs _ _ _ _ _ hcap (.inr ⟨⟨e.w.heap.size, 0, sz, cap⟩, by simp [born], .inr ⟨by simp [ad], by simp⟩⟩)
  | vs m es =>
    rw [hg] at hrx
    refine .bif (F := fun k _ => .chk (Nat.beq new.length 0) (k (.vs m es) e.st)) (G := fun _ _ => .bad) (fun hm => ?_) (fun _ => .bad fun _ _ => rfl)
    refine .chk fun q => ?_
    have hnn0 : new = [] := List.eq_nil_of_length_eq_zero (Nat.eq_of_beq_eq_true q)
    subst hnn0
    have hnn : news = [] := List.eq_nil_of_length_eq_zero (by simpa using hnl)
    subst hnn
    obtain ⟨a, cap, b, o, f, hcv, _, _, h3, _⟩ := RepA.vs_inv hrx
    have hlen := hsrc.len
    have hcells := hsrc.cells
    simp only [List.length_nil] at hlen hcells
    refine Res.val h (cv := .slice a es.length cap) (hrunx _ _ a es.length cap hcv (.inl (by simpa using h3)) ?_) (by rw [← hcv]; exact hrx) rfl
    rw [hcv]
    cases a <;> rcases hk with ⟨e', hk⟩ | hk <;> simp [Builtin.append_, run_underlying hu, run_underlying hk, Go.sizeOf, typeInfo, hi, hlen, hcells, h3, storeCells]
  | hs id i0 n =>
    rw [hg] at hrx
    refine Res.hget (F := fun bk k _ => bif bk.fr then .bad else bif Nat.blt id e.st.hp.lim then .bad else bif Nat.beq bk.sz sz then bif freshH us e.st.tm id then
      .chk (Nat.ble (i0 + n) bk.es.length) (.chk (Nat.ble ((n + new.length) * bytes) maxB)
        (k (.hs e.st.hp.next 0 (n + new.length)) (e.st.setHp (hnew (hset e.st.hp id none) ⟨sz, false, (bk.es.drop i0).take n ++ new⟩)))) else .bad else .bad) fun bk hbk => ?_
    refine .bif (F := fun _ _ => .bad) (fun _ => .bad fun _ _ => rfl) (fun hfr => ?_)
    refine .bif (F := fun _ _ => .bad) (fun _ => .bad fun _ _ => rfl) (fun hlm => ?_)
    refine .bif (G := fun _ _ => .bad) (fun hm => ?_) (fun _ => .bad fun _ _ => rfl)
    refine .bif (G := fun _ _ => .bad) (fun _ => ?_) (fun _ => .bad fun _ _ => rfl)
    refine .chk fun q1 => .chk fun q2 => ?_
    have q1 := Nat.le_of_ble_eq_true q1
    have q2 := Nat.le_of_ble_eq_true q2
    have hsm := small _ q2
    have hm := Nat.eq_of_beq_eq_true hm
    have hlim : e.st.hp.lim ≤ id := bltG hlm
    obtain ⟨a, cap, hcv, c1, c2⟩ := RepA.hs_inv hrx
    rcases c2 with c2 | ⟨r, hl, c2⟩
    · rw [h.mem.hr.dead id c2] at hbk; cases hbk
    · obtain ⟨bk0, e0, zz⟩ := h.mem.hr.live id r hl
      rw [hbk] at e0; cases e0
      have hrs : r.sz = sz := by rw [zz.sz, hm]
      have hrl := zz.len
      have hol : ((bk.es.drop i0).take n).length = n := by rw [List.length_take, List.length_drop]; omega
      have hgt : ∀ (k : Nat) (x : List V), ((bk.es.drop i0).take n)[k]? = some x → k < n ∧ bk.es[i0 + k]? = some x := by
        intro k x hk
        have := lt_of_get hk
        rw [List.getElem?_take_of_lt (by omega), List.getElem?_drop] at hk
        exact ⟨by omega, hk⟩
      by_cases hroom : n + new.length ≤ cap
      · by_cases hc0 : cap = 0
        · have hn0 : n = 0 := by omega
          have hnew0 : new = [] := List.eq_nil_of_length_eq_zero (by omega)
          subst hnew0
          subst hn0
          have hnn : news = [] := List.eq_nil_of_length_eq_zero (by simpa using hnl)
          subst hnn
          have hlen := hsrc.len
          have hcells := hsrc.cells
          simp only [List.length_nil] at hlen hcells
          have hrun : (Builtin.append_ #[t, tx] e.o.type #[e.a.eval x, sv]).run e.P e.w = .ok (.slice a 0 cap) e.w := by
            rw [hcv]
            cases a <;> rcases hk with ⟨e', hk⟩ | hk <;> simp [Builtin.append_, run_underlying hu, run_underlying hk, Go.sizeOf, typeInfo, hi, hlen, hcells, storeCells]
          have hmem := h.mem.rename hl hbk hfr hlim i0 0 (by omega) (bk' := ⟨sz, false, (bk.es.drop i0).take 0 ++ []⟩) hm.symm rfl (by simp) (fun k x hx => by simp at hx)
          have hle : GLe e.g (born (killed e.g id) e.st.hp ⟨r.b, r.base + i0 * r.sz, r.sz, 0⟩) := (killed_le hl).trans (born_le (h.mem.kill hl hlim).hr _)
          refine .out (.value _ _ (hrunx _ _ a 0 cap hcv (.inl (by simp)) hrun)) ⟨rfl, hmem, hle, .inl rfl, .ofA ?_, fun _ _ _ _ hx => by cases hx⟩
          simp only [List.length_nil, Nat.add_zero]
          exact .hs _ _ _ _ _ (by omega) (.inr ⟨⟨r.b, r.base + i0 * r.sz, r.sz, 0⟩, by simp [born], .inl hc0⟩)
        · rcases c2 with c2 | ⟨c2, c3⟩
          · exact absurd c2 hc0
          · subst c2
            have hmulc : (i0 + n + new.length) * r.sz ≤ r.cap * r.sz := Nat.mul_le_mul_right _ (by omega)
            have hsplit : (i0 + n) * r.sz + news.length = (i0 + n + new.length) * r.sz := by rw [hnl, ← hrs, ← Nat.add_mul]
            have hplace : ∀ j, r.base + i0 * r.sz + n * i.size + j = r.base + ((i0 + n) * r.sz + j) := fun j => by rw [his, ← hrs, Nat.add_mul]; omega
            have hrun := run_append_room_src (P := e.P) e.w t tx e.o.type el i hu hi r.b (r.base + i0 * r.sz) n cap (sv) new.length news hsrc hroom (fun j hj => by
                obtain ⟨⟨u, hu'⟩, _⟩ := zz.rw hfr ((i0 + n) * r.sz + j) (by omega)
                have := hplace j
                simp only [ad] at hu'
                rw [this, hu']; rfl) (fun j hj => by
                have h2 := (zz.rw hfr ((i0 + n) * r.sz + j) (by omega)).2.1
                have := hplace j
                simp only [ad] at h2
                rw [this, h2])
            have hw := h.mem.write hl hbk hfr hlim (bk' := ⟨sz, false, bk.es.take (i0 + n) ++ (new ++ bk.es.drop (i0 + n + new.length))⟩) ((i0 + n) * r.sz) news (by omega) hm.symm rfl (by simp; omega)
              (fun x hx => by
                rw [hm]
                rcases List.mem_append.1 hx with hx | hx
                · rw [← hm]; exact zz.row x (List.mem_of_mem_take hx)
                · rcases List.mem_append.1 hx with hx | hx
                  · exact hn.row x hx
                  · rw [← hm]; exact zz.row x (List.mem_of_mem_drop hx))
              (fun i' j x c hx hc => by
                rw [hm, hrs]
                simp only at hx
                have hj := lt_of_get hc
                by_cases p1 : i' < i0 + n
                · rw [List.getElem?_append_left (by simp; omega), List.getElem?_take_of_lt p1] at hx
                  rw [zz.row x (List.mem_of_getElem? hx), hm] at hj
                  obtain ⟨k1, u, k2, k3⟩ := zz.cont i' j x c hx hc
                  have := Nat.mul_le_mul_right sz (show i' + 1 ≤ i0 + n by omega)
                  rw [Nat.add_mul, Nat.one_mul] at this
                  rw [if_neg (by omega)]
                  exact ⟨k1, u, by rw [← hrs, ← Nat.add_assoc]; exact k2, k3⟩
                · rw [List.getElem?_append_right (by simp; omega)] at hx
                  have htl : (bk.es.take (i0 + n)).length = i0 + n := by simp; omega
                  rw [htl] at hx
                  by_cases p2 : i' < i0 + n + new.length
                  · rw [List.getElem?_append_left (by omega)] at hx
                    rw [hn.row x (List.mem_of_getElem? hx)] at hj
                    obtain ⟨k1, k2⟩ := hn.rep _ j x c hx hc
                    have hlt := idx_lt (lt_of_get hx) hj
                    have e1 : i' * sz + j - (i0 + n) * sz = (i' - (i0 + n)) * sz + j := by
                      have : i' * sz = (i0 + n) * sz + (i' - (i0 + n)) * sz := by rw [← Nat.add_mul]; congr 1; omega
                      omega
                    have e2 := Nat.mul_le_mul_right sz (show i0 + n ≤ i' by omega)
                    rw [if_pos ⟨by omega, by omega⟩, e1]
                    refine ⟨k1, _, ?_, k2⟩
                    rw [List.getD_eq_getElem?_getD, List.getElem?_eq_getElem (by omega)]; rfl
                  · rw [List.getElem?_append_right (by omega), List.getElem?_drop] at hx
                    rw [show i0 + n + new.length + (i' - (i0 + n) - new.length) = i' by omega] at hx
                    rw [zz.row x (List.mem_of_getElem? hx), hm] at hj
                    obtain ⟨k1, u, k2, k3⟩ := zz.cont i' j x c hx hc
                    have := Nat.mul_le_mul_right sz (show i0 + n + new.length ≤ i' by omega)
                    rw [← hrs] at this
                    rw [if_neg (by rw [← hrs]; omega)]
                    exact ⟨k1, u, by rw [← hrs, ← Nat.add_assoc]; exact k2, k3⟩)
            have hgs := hget_hset e.st.hp id (some ⟨sz, false, bk.es.take (i0 + n) ++ (new ++ bk.es.drop (i0 + n + new.length))⟩)
            have hren := hw.rename (id := id) (r := r) (bk := ⟨sz, false, bk.es.take (i0 + n) ++ (new ++ bk.es.drop (i0 + n + new.length))⟩) hl (by rw [hgs, if_pos rfl]) rfl hlim i0 cap c3 (bk' := ⟨sz, false, (bk.es.drop i0).take n ++ new⟩) rfl rfl (by simp only [List.length_append, hol]; exact hroom) (fun k x hx => by
              simp only at hx ⊢
              by_cases p1 : k < n
              · rw [List.getElem?_append_left (by omega)] at hx
                rw [List.getElem?_append_left (by simp; omega), List.getElem?_take_of_lt (by omega)]
                exact (hgt k x hx).2
              · rw [List.getElem?_append_right (by omega), hol] at hx
                rw [List.getElem?_append_right (by simp; omega), List.getElem?_append_left (by have := lt_of_get hx; simp; omega)]
                rw [show i0 + k - (bk.es.take (i0 + n)).length = k - n by simp; omega]
                exact hx)
            have hmem := hren.hpExt (hp' := hnew (hset e.st.hp id none) ⟨sz, false, (bk.es.drop i0).take n ++ new⟩) rfl rfl (fun j => by
              rw [hget_hnew, hget_hnew, hget_hset, hget_hset, hget_hset]
              by_cases p : j = id
              · simp only [p, if_true]; rfl
              · simp only [p, if_false]; rfl)
            have hle : GLe e.g (born (killed e.g id) e.st.hp ⟨r.b, r.base + i0 * r.sz, r.sz, cap⟩) := (killed_le hl).trans (born_le (h.mem.kill hl hlim).hr _)
            have hww : e.w.setCells r.b (r.base + i0 * r.sz + n * i.size) news = setCs e.w r.b (r.base + (i0 + n) * r.sz) news := by
              rw [setCs_eq, show r.base + i0 * r.sz + n * i.size = r.base + (i0 + n) * r.sz by have := hplace 0; omega]
            refine .out (.value _ _ (hrunx _ _ _ _ _ hcv (.inl hroom) (by rw [hcv]; exact hrun))) ⟨rfl, by rw [hww]; exact hmem, hle, .inl rfl, .ofA ?_, fun _ _ _ _ hx => by cases hx⟩
            exact .hs _ _ _ _ _ hroom (.inr ⟨⟨r.b, r.base + i0 * r.sz, r.sz, cap⟩, by simp [born], .inr ⟨by simp [ad], by simp⟩⟩)
      · -- no room: a new block
        let f : Nat → Nat → Value := fun k j => (e.w.cell? (ad r.b (r.base + i0 * r.sz + k * sz + j))).getD undef
        have hcell : ∀ (k j : Nat) (x : List V) (c : V), ((bk.es.drop i0).take n)[k]? = some x → x[j]? = some c → c.keep = true ∧ e.w.cell? (ad r.b (r.base + i0 * r.sz + k * sz + j)) = some (f k j) ∧ RepA e.g c (f k j) := by
          intro k j x c hx hc
          obtain ⟨k1, u, k2, k3⟩ := zz.cont (i0 + k) j x c (hgt k x hx).2 hc
          have : r.base + (i0 + k) * r.sz + j = r.base + i0 * r.sz + k * sz + j := by rw [Nat.add_mul, hrs]; omega
          rw [this] at k2
          refine ⟨k1, ?_, ?_⟩
          · simp only [f, k2, Option.getD_some]
          · simp only [f, k2, Option.getD_some]; exact k3
        have horow : ∀ x, x ∈ (bk.es.drop i0).take n → x.length = sz := fun x hx => by
          obtain ⟨k, hk⟩ := List.getElem?_of_mem hx
          rw [zz.row x (List.mem_of_getElem? (hgt k x hk).2), hm]
        obtain ⟨o1, o2⟩ := elems_cells horow hcell
        rw [hol] at o1 o2
        have hfirst : (Builtin.firstCells i.size n (.slice a n cap)).run e.P e.w.drew = .ok (flatF f sz n).toArray e.w.drew := by
          rcases c2 with c2 | ⟨c2, _⟩
          · have hn0 : n = 0 := by omega
            subst hn0
            have hfl : flatF f sz 0 = [] := List.eq_nil_of_length_eq_zero (by rw [flatF_len]; simp)
            rw [hfl]
            cases a with
            | none => exact run_firstCells_none _ _ _ _ _
            | some a => exact run_firstCells_some e.w.drew i.size 0 a 0 cap [] (by simp) (by simp)
          · subst c2
            exact run_firstCells_some e.w.drew i.size n _ n cap _ (by rw [flatF_len, his]) fun j v hv => (o1 j v hv).1
        have hfit : Builtin.nextslicecap (n + new.length) cap * bytes ≤ 281474976710656 := by
          have := nextslicecap_le (need := n + new.length) (old := cap) (by omega)
          have h2 := Nat.mul_le_mul_right bytes this
          rw [Nat.mul_assoc] at h2
          unfold maxB at q2; omega
        have hgr := run_append_grow_src (P := e.P) e.w t tx e.o.type el i zv hu hi hzz a n cap _ hfirst (sv) new.length news hsrc (by omega) (by omega) (by rw [hbytes]; exact hfit)
        have hcap := grownCap_ge e.w (n + new.length) cap el
        generalize hcd : grownCap e.w (n + new.length) cap el = cap' at hgr hcap
        have hk1 := h.mem.kill hl hlim
        have hkl := killed_le hl
        have htot : ((bk.es.drop i0).take n ++ new).length = n + new.length := by rw [List.length_append, hol]
        have hrows := rows_grown (g := killed e.g id) (sz := sz) (cap := cap') (es := (bk.es.drop i0).take n ++ new) (vals := flatF f sz n ++ news) (zs := Builtin.zeroCells zv.cells (cap' - (n + new.length)))
          (by rw [htot, List.length_append, flatF_len, hnl, Nat.add_mul]) (fun x hx => by
            rcases List.mem_append.1 hx with hx | hx
            · exact horow x hx
            · exact hn.row x hx) (by rw [htot]; exact hcap) (by rw [zeroCells_size, hzn, hzl, htot]) (fun k j x c hx hc => by
            by_cases p1 : k < n
            · rw [List.getElem?_append_left (by omega)] at hx
              have hj := lt_of_get hc
              rw [horow x (List.mem_of_getElem? hx)] at hj
              obtain ⟨k1, k2⟩ := o2 k j x c hx hc
              have hlt := idx_lt p1 hj
              refine ⟨k1, ?_⟩
              rw [List.getD_eq_getElem?_getD, List.getElem?_append_left (by rw [flatF_len]; exact hlt), ← List.getD_eq_getElem?_getD]
              exact k2.mono hkl
            · rw [List.getElem?_append_right (by omega), hol] at hx
              obtain ⟨k1, k2⟩ := hn.rep _ j x c hx hc
              refine ⟨k1, ?_⟩
              have e1 : k * sz = n * sz + (k - n) * sz := by rw [← Nat.add_mul]; congr 1; omega
              rw [List.getD_eq_getElem?_getD, List.getElem?_append_right (by rw [flatF_len]; omega), flatF_len, show k * sz + j - n * sz = (k - n) * sz + j by omega, ← List.getD_eq_getElem?_getD]
              exact k2.mono hkl)
        have hmem := hk1.new (Grow.drew (grow_alloc _ _ el)) hrows
        refine .out (.value _ _ (hrunx _ _ _ _ _ hcv (.inr ⟨by omega, hfit⟩) (by rw [hcv]; exact hgr))) ⟨rfl, hmem, hkl.trans (born_le hk1.hr _), .inl rfl, .ofA ?_, fun _ _ _ _ hx => by cases hx⟩
        exact .hs _ _ _ _ _ hcap (.inr ⟨⟨e.w.heap.size, 0, sz, cap'⟩, by simp [born, hset], .inr ⟨by simp [ad], by simp⟩⟩)
  | _ => exact .bad fun _ _ => rfl


theorem ok_app (h : e.St) {c : Go.Call} {x y : Operand} {xa ya : A} {t tx el : TypeId} {sz bytes : Nat} {z : List V} (hargs : c.args = #[x, y]) (htys : c.argTypes = #[t, tx]) (ho : e.o.op = .call c) (hc : c.callee = .builtin .append)
    (hu : e.P.underlying t = some (.slice el)) (hk : (∃ e', e.P.underlying tx = some (.slice e')) ∨ e.P.underlying tx = some .string) (hs : Ev.size e.P el = some sz) (hb : Ev.bytesOf e.P el = some bytes) (hz : Ev.zeroOf e.P el = some z)
    (hsz : 0 < sz) (hb0 : 0 < bytes) (hzl : z.length = sz) (hx : cA x = some xa) (hy : cA y = some ya) (us : List Nat) (d : Nat) : Res e (iApp sz bytes xa ya us e.clr d e.st) :=
  Res.rows (tx := tx) h hk (h.rep hy) (F := fun new k _ => appendD us e.st sz bytes (get e.st.tm xa) new k) fun new news hn =>
    ok_appN h (fun _ _ _ _ _ _ _ q => app_run hargs htys ho hc q) hu hk hs hb hz hsz hb0 hzl hx us hn

end
end Ev

namespace Ev
open Go
section
variable {e : Env}

/-- the zeros of 'append(b, make([]byte, n)...)' as a string's bytes -/
def zeroS (n : Nat) : ByteArray := ⟨(List.replicate n (0 : UInt8)).toArray⟩

theorem zeroS_size (n : Nat) : (zeroS n).size = n := by
  show (List.replicate n (0 : UInt8)).toArray.size = n
  simp

theorem append_zeros {P : Program} {w : World} {t ti ty el : TypeId} {i : TypeInfo} {ki k : IntKind} {z : Int} {n : Nat} {base : Option Addr} {sLen sCap : Nat} (hu : P.underlying t = some (.slice el)) (hui : P.underlying ti = some (.int ki)) (hi : P.info? el = some i)
    (h1 : i.size = 1) (h2 : i.bytes = 1) (hz : i.zero = some (.int .u8 0)) (hz0 : 0 ≤ z) (h0 : n ≠ 0) (hzn : z.toNat = n) (hn : n ≤ maxB) (hf : Fits 1 sLen n sCap) :
    (Builtin.append_ #[t, ti] ty #[.slice base sLen sCap, .int k z]).run P w = (Builtin.append_ #[t, t] ty #[.slice base sLen sCap, .string (zeroS n)]).run P w := by
  unfold maxB at hn
  have hw : IntKind.i64.wrap z = z := by
    simp [IntKind.wrap, IntKind.bits, IntKind.signed]; omega
  have hfc : ∀ w : World, (Builtin.firstCells 1 n (.string (zeroS n))).run P w = .ok (Array.replicate n (.int .u8 0)) w := fun w => by
    have : (zeroS n).extract 0 n = zeroS n := by
      apply ByteArray.ext
      rw [ByteArray.data_extract]
      apply Array.ext'
      simp [zeroS]
    simp only [Builtin.firstCells, this, Sem.run_pure]
    congr 1
    show ((List.replicate n (0 : UInt8)).toArray.map fun b => Value.int .u8 b.toNat) = _
    apply Array.ext'
    simp
  have hzc : ∀ m, Builtin.zeroCells #[.int .u8 0] m = Array.replicate m (.int .u8 0) := fun m => by
    unfold Builtin.zeroCells
    apply Array.ext
    · simp
    · intro j hj1 hj2
      simp [Nat.mod_one]
  have hsz := zeroS_size n
  have hl : ¬ (z < 0) := by omega
  have hl2 : ¬ (z * (i.bytes : Int) > 2 ^ 48) := by rw [h2]; omega
  have hl3 : ¬ (281474976710656 < z) := by omega
  have hai : ∀ w : World, (asInt (.int k z)).run P w = .ok z w := fun w => by simp [asInt, asIntOf]
  have hinfo : ∀ w : World, (typeInfo el).run P w = .ok i w := fun w => by simp [typeInfo, hi]
  have hzv : ∀ w : World, (zeroValue el).run P w = .ok (.int .u8 0) w := fun w => by simp [zeroValue, hinfo, hz]
  have hzc2 : ∀ m, Builtin.zeroCells (Value.int .u8 0).cells m = Array.replicate m (.int .u8 0) := hzc
  have hnn : ¬ z ≤ 0 := by omega
  by_cases hroom : sLen + n ≤ sCap
  · simp [Builtin.append_, run_underlying hu, run_underlying hui, Go.sizeOf, hinfo, h1, h2, hai, hw, hzn, Builtin.lenOf, hsz, hroom, hfc, h0, hl, hl3, hzv, hzc2]
  · rcases hf with hf | ⟨f1, f2⟩
    · exact absurd hf hroom
    · have f1' : ¬ (9223372036854775807 < (sLen : Int) + max z 0) := by omega
      have f2' : ¬ (281474976710656 < Builtin.nextslicecap (sLen + n) sCap) := by omega
      simp [Builtin.append_, run_underlying hu, run_underlying hui, Go.sizeOf, hinfo, h1, h2, hai, hw, hzn, Builtin.lenOf, hsz, hroom, hfc, h0, hl, hl3, hzv, hzc2, f1', f2']

theorem ok_apz (h : e.St) {c : Go.Call} {x y : Operand} {xa ya : A} {t ti el : TypeId} {ki : IntKind} (hargs : c.args = #[x, y]) (htys : c.argTypes = #[t, ti]) (ho : e.o.op = .call c) (hc : c.callee = .builtin .append)
    (hu : e.P.underlying t = some (.slice el)) (hui : e.P.underlying ti = some (.int ki)) (hs : Ev.size e.P el = some 1) (hb : Ev.bytesOf e.P el = some 1) (hz : Ev.isZ ((e.P.info? el).bind (·.zero)) = true)
    (hx : cA x = some xa) (hy : cA y = some ya) (us : List Nat) (d : Nat) : Res e (iApz xa ya us e.clr d e.st) := by
  obtain ⟨i, hi, his⟩ := size_info hs
  have hbytes : i.bytes = 1 := by simpa [Ev.bytesOf, hi] using hb
  have hiz : i.zero = some (.int .u8 0) := by
    rw [hi] at hz
    simp only [Option.bind_some] at hz
    cases hq : i.zero with
    | none => simp [hq, isZ] at hz
    | some v =>
      rw [hq] at hz
      unfold isZ at hz
      split at hz
      · rename_i n hn
        cases hn
        have : n = 0 := by simpa using hz
        subst this; rfl
      · cases hz
  have hzo : Ev.zeroOf e.P el = some [.it .u8 0] := by
    simp [Ev.zeroOf, hi, hiz, ofVal, ofAtom, V.cells]
  refine Res.nat' h hy (f := fun n k _ => .chk (Nat.blt 0 n) (.chk (Nat.ble n maxB) (appendD us e.st 1 1 (get e.st.tm xa) ((List.replicate n 0).map fun n => [byte n]) k))) fun k z hyv hz0 => ?_
  refine .chk fun q0 => .chk fun q => ?_
  have q0 := bltL q0
  have q := Nat.le_of_ble_eq_true q
  have hk : (∃ e', e.P.underlying t = some (.slice e')) ∨ e.P.underlying t = some .string := .inl ⟨el, hu⟩
  have hn := news_of_string (P := e.P) (g := e.g) (w := e.w) (s := zeroS z.toNat) (l := List.replicate z.toNat 0) hk (by simp [zeroS])
  refine ok_appN h (t := t) (tx := t) (el := el) (z := [.it .u8 0]) (fun cv w' base sLen sCap hxv hf hrun => ?_) hu hk hs hb hzo (by omega) (by omega) rfl hx us hn
  refine app_run hargs htys ho hc ?_
  rw [hxv, hyv] at *
  simp only [List.length_map, List.length_replicate] at hf
  rw [append_zeros hu hui hi his hbytes hiz hz0 (by omega) rfl q hf]
  exact hrun

/-- a block is marked behind its last cell -/
def marked (w : World) (b n : Nat) : World := w.freeze ⟨b, n, none⟩ 1

theorem marked_ok {w : World} {b : Nat} {C : Array Value} {el : TypeId} {fr : Nat × Nat} (hb : w.heap[b]? = some (.cells C el fr)) (hf : fr.1 = fr.2 ∨ C.size ≤ fr.1) :
    (∀ a, (marked w b C.size).cell? a = w.cell? a) ∧ (∀ b' o v, w.cell? (ad b' o) = some v → (marked w b C.size).frozen? (ad b' o) = w.frozen? (ad b' o)) ∧ (marked w b C.size).heap.size = w.heap.size ∧
    (∀ n b', (n = 1 ∨ b' ≠ b) → Unf n w b' → Unf n (marked w b C.size) b') ∧ (∀ b', b' ≠ b → (marked w b C.size).heap[b']? = w.heap[b']?) ∧ (marked w b C.size).os = w.os ∧ (marked w b C.size).output = w.output := by
  obtain ⟨lo, hi⟩ := fr
  simp only at hf
  have hat : ∀ b', (marked w b C.size).heap[b']? = if b' = b then some (.cells C el (if lo == hi then (C.size, C.size + 1) else (min lo C.size, max hi (C.size + 1)))) else w.heap[b']? := by
    intro b'
    unfold marked World.freeze
    simp only [Nat.one_ne_zero, if_false, Array.getElem?_modify]
    by_cases e : b = b'
    · subst e; simp [hb]
    · simp [e, Ne.symm e]
  refine ⟨fun a => ?_, fun b' o v hc => ?_, ?_, fun n b' hor hu => ?_, fun b' hne => by rw [hat, if_neg hne], rfl, rfl⟩
  · unfold World.cell?
    rw [hat]
    by_cases e : a.block = b
    · simp [e, hb]
    · simp [e]
  · by_cases e : b' = b
    · subst e
      have ho : o < C.size := by
        unfold World.cell? ad at hc
        simp only [hb] at hc
        rcases Nat.lt_or_ge o C.size with q | q
        · exact q
        · simp [Array.getElem?_eq_none q] at hc
      unfold World.frozen? ad
      simp only [hat, if_true, hb]
      have r1 : (decide (lo ≤ o) && decide (o < hi)) = false := by
        simp only [Bool.and_eq_false_iff, decide_eq_false_iff_not]; omega
      rw [r1]
      by_cases e2 : lo = hi
      · subst e2
        simp only [beq_self_eq_true, if_true, Bool.and_eq_false_iff, decide_eq_false_iff_not]; omega
      · have hl : C.size ≤ lo := hf.resolve_left e2
        have : (lo == hi) = false := by simpa using e2
        simp only [this, Bool.false_eq_true, if_false, Bool.and_eq_false_iff, decide_eq_false_iff_not]; omega
    · unfold World.frozen? ad
      simp only [hat, e, if_false]
  · unfold marked World.freeze; simp
  · by_cases e : b' = b
    · subst e
      have hn : n = 1 := hor.resolve_right fun q => q rfl
      refine ⟨C, el, _, by rw [hat, if_pos rfl], ?_⟩
      refine .inr ⟨hn, ?_⟩
      by_cases e2 : lo = hi
      · subst e2; simp
      · have hl : C.size ≤ lo := hf.resolve_left e2
        have : (lo == hi) = false := by simpa using e2
        simp only [this]
        simp; omega
    · obtain ⟨C', e', fr', h1, h2⟩ := hu
      exact ⟨C', e', fr', by rw [hat, if_neg e]; exact h1, h2⟩

theorem MemR.mark {E : Ent} {g : G} {ν : Nat → Option Nat} {lo : Lo} {hp : Hp} {w : World} (h : MemR E g ν lo hp w) {b : Nat} {C : Array Value} {el : TypeId} {fr : Nat × Nat} (hb : w.heap[b]? = some (.cells C el fr)) (hf : fr.1 = fr.2 ∨ C.size ≤ fr.1)
    (ho : ∃ o, Own g hp b o) {id : Nat} {r0 : Rg} {bk0 : Bk} (hl0 : g.lf id = .live r0) (hg0 : hget hp id = some bk0) (hf0 : bk0.fr = false) (hs0 : bk0.sz = 1) (hb0 : r0.b = b) (hn0 : 0 < r0.cap * r0.sz) : MemR E g ν lo hp (marked w b C.size) := by
  obtain ⟨hc, hfz, hs, hu, hne, hos, hout⟩ := marked_ok hb hf
  obtain ⟨o0, ho0⟩ := ho
  refine ⟨⟨h.hr.mp.mono (fun b' es c x => by rw [hne b' (fun q => by rw [q, hb] at x; cases x)]; exact x) (fun _ _ x => x) (fun _ _ x => x) (fun _ _ _ => rfl), h.hr.lim, h.hr.nil, h.hr.bnd, fun b o v x => by rw [hc]; exact h.hr.kap b o v x, h.hr.unb, h.hr.dead, fun id' r x => ?_, h.hr.sep⟩, ⟨fun t cs x => ?_, h.lo.inj⟩, ?_⟩
  · obtain ⟨bk, a, z⟩ := h.hr.live id' r x
    refine ⟨bk, a, z.grow (GLe.refl g) (fun _ _ _ y => by rw [hc]; exact y) hfz (fun _ _ y _ => y) fun hfb hn => hu _ _ ?_⟩
    by_cases e : id' = id
    · subst e; rw [hg0] at a; cases a; exact .inl hs0
    · exact .inr fun q => h.hr.sep id' id r r0 bk bk0 e x hl0 a hg0 hfb hf0 hn hn0 (q.trans hb0.symm)
  · obtain ⟨b', h1, h2, h3, h4, h5, h6⟩ := h.lo.box t cs x
    exact ⟨b', h1, h2.grow (GLe.refl g) (fun _ _ y => by rw [hc]; exact y) (fun _ _ y => hfz _ _ _ y), h3, h4, h5, by omega⟩
  · have v := h.evo
    have key : Evo g hp w g hp (marked w b C.size) := ⟨GLe.refl g, Nat.le_refl _, rfl, fun _ _ => rfl, by omega, fun b' o v x _ => by rw [hc]; exact x, fun b' o v x _ => hfz b' o v x, fun _ _ x => .inl x, fun _ _ _ x => .inl x, ⟨hos, hout⟩, fun b' => hu 1 b' (.inl rfl), fun b' _ y _ => hne b' fun q => y o0 (by rw [q]; exact ho0), fun _ x => .inl x⟩
    exact v.trans key

theorem ok_mrk (h : e.St) {s : TypeId} {x : Operand} {xa : A} {el : TypeId} (hu : e.P.underlying s = some (.slice el)) (hby : isByte e.P el = true) (hx : cA x = some xa) (ho : e.o.op = .convert s s x) (us : List Nat) (d : Nat) :
    Res e (iMrk xa us e.clr d e.st) := by
  have hue := isByte_u hby
  have hr := h.rep hx
  show Res e (fun k _ => match get e.st.tm xa with
    | .hs id i n => match Ev.hget e.st.hp id with
      | some b => bif b.fr then .bad else bif Nat.beq b.sz 1 then .chk (Nat.blt 0 n) (k (.hs id i n) e.st) else .bad
      | none => .bad
    | _ => .bad)
  cases hg : get e.st.tm xa with
  | hs id i n =>
    refine Res.hget (F := fun b k _ => bif b.fr then .bad else bif Nat.beq b.sz 1 then .chk (Nat.blt 0 n) (k (.hs id i n) e.st) else .bad) fun bk hbk => ?_
    refine .bif (F := fun _ _ => .bad) (fun _ => .bad fun _ _ => rfl) (fun hfr => ?_)
    refine .bif (G := fun _ _ => .bad) (fun hsz => ?_) (fun _ => .bad fun _ _ => rfl)
    refine .chk fun hn => ?_
    have hn := bltL hn
    have hsz := Nat.eq_of_beq_eq_true hsz
    rw [hg] at hr
    obtain ⟨a, cap, hv, c1, c2⟩ := RepA.hs_inv hr
    rcases c2 with c2 | ⟨r, hl, c2⟩
    · rw [h.mem.hr.dead id c2] at hbk; cases hbk
    · obtain ⟨bk0, e0, z⟩ := h.mem.hr.live id r hl
      rw [hbk] at e0; cases e0
      rcases c2 with c2 | ⟨rfl, c3⟩
      · omega
      · obtain ⟨C, e', fr, hb, hf⟩ := z.blk hfr (by rw [z.sz.trans hsz]; omega)
        have hrun : (convert s s (e.a.eval x)).run e.P e.w = .ok (e.a.eval x) (marked e.w r.b C.size) := by
          rw [hv]
          simp [convert, run_underlying hu, run_underlying hue, markStringish, ad, World.shape?, hb, marked]
        have hrs : r.sz = 1 := z.sz.trans hsz
        have hown : Own e.g e.st.hp r.b (r.base + 0) := ⟨id, r, bk, 0, hl, hbk, hfr, by rw [hrs]; omega, rfl, rfl⟩
        exact .out (.value _ _ (conv_run ho hrun)) ⟨rfl, h.mem.mark hb (hf.imp (fun q => q) fun q => q.2) ⟨_, hown⟩ hl hbk hfr hsz rfl (by rw [hrs]; omega), GLe.refl _, .inl rfl, .ofA hr, fun _ _ _ _ hx => by cases hx⟩
  | _ => exact .bad fun _ _ => rfl

/-- rows laid over rows -/
theorem ok_cpy (h : e.St) {c : Go.Call} {x y : Operand} {xa ya : A} {t tx el : TypeId} {sz : Nat} (hargs : c.args = #[x, y]) (htys : c.argTypes = #[t, tx]) (ho : e.o.op = .call c) (hc : c.callee = .builtin .copy)
    (hu : e.P.underlying t = some (.slice el)) (hs : Ev.size e.P el = some sz) (hsz : 0 < sz) (hx : cA x = some xa) (hy : cA y = some ya) (us : List Nat) (d : Nat) : Res e (iCpy sz xa ya us e.clr d e.st) := by
  have hrx := h.rep hx
  refine Res.elems h (h.rep hy) (F := fun new k _ => cpyD us e.st sz new (get e.st.tm xa) k) fun new hnew => ?_
  show Res e (fun k _ => cpyD us e.st sz new (get e.st.tm xa) k)
  cases hg : get e.st.tm xa with
  | hs id i n =>
    refine Res.hget (F := fun b k _ => bif b.fr then .bad else bif Nat.blt id e.st.hp.lim then .bad else bif Nat.beq b.sz sz then bif freshH us e.st.tm id then
      .chk (Nat.ble (i + n) b.es.length) (k (i64 (.ofNat (new.take n).length)) (e.st.setHp (hset e.st.hp id (some ⟨b.sz, b.fr, over i (new.take n) b.es⟩)))) else .bad else .bad) fun bk hbk => ?_
    refine .bif (F := fun _ _ => .bad) (fun _ => .bad fun _ _ => rfl) (fun hfr => ?_)
    refine .bif (F := fun _ _ => .bad) (fun _ => .bad fun _ _ => rfl) (fun hlm => ?_)
    refine .bif (G := fun _ _ => .bad) (fun hm => ?_) (fun _ => .bad fun _ _ => rfl)
    refine .bif (G := fun _ _ => .bad) (fun _ => ?_) (fun _ => .bad fun _ _ => rfl)
    refine .chk fun hin => ?_
    have hin := Nat.le_of_ble_eq_true hin
    have hm := Nat.eq_of_beq_eq_true hm
    have hlim : e.st.hp.lim ≤ id := bltG hlm
    rw [hg] at hrx
    obtain ⟨a, cap, hv, c1, c2⟩ := RepA.hs_inv hrx
    obtain ⟨sa, scap, hsv, srow, scp, scell⟩ := hnew
    rcases c2 with c2 | ⟨r, hl, c2⟩
    · rw [h.mem.hr.dead id c2] at hbk; cases hbk
    · obtain ⟨bk0, e0, z⟩ := h.mem.hr.live id r hl
      rw [hbk] at e0; cases e0
      have hrs : r.sz = sz := z.sz.trans hm
      have hml : (new.take n).length = Nat.min new.length n := by rw [List.length_take, Nat.min_comm]
      have hle : (new.take n).length ≤ n := by rw [List.length_take]; exact Nat.min_le_left _ _
      obtain ⟨i', hi, his⟩ := size_info hs
      -- the cells that go over
      have hcells : ∃ vals : List Value, vals.length = (new.take n).length * sz ∧ (Builtin.firstCells sz (new.take n).length (e.a.eval y)).run e.P e.w = .ok vals.toArray e.w ∧
          (∀ (k j : Nat) (x : List V) (c : V), (new.take n)[k]? = some x → x[j]? = some c → c.keep = true ∧ ∃ cv, vals[k * sz + j]? = some cv ∧ RepA e.g c cv) ∧ ∀ v, v ∈ vals → oneC v = true := by
        have hrow' : ∀ x, x ∈ new.take n → x.length = sz := fun x hx => srow x (List.mem_of_mem_take hx)
        rcases scell with hnil | ⟨b, o, f, rfl, hf⟩
        · subst hnil
          refine ⟨[], by simp, ?_, fun k j x c hx => by simp at hx, fun v hv => by cases hv⟩
          rw [hsv]
          cases sa with
          | none => simpa using run_firstCells_none (P := e.P) e.w sz 0 0 scap
          | some a => simpa using run_firstCells_some (P := e.P) e.w sz 0 a 0 scap [] (by simp) (by simp)
        · have hf' : ∀ (k j : Nat) (x : List V) (c : V), (new.take n)[k]? = some x → x[j]? = some c → c.keep = true ∧ e.w.cell? (ad b (o + k * sz + j)) = some (f k j) ∧ RepA e.g c (f k j) := fun k j x c hx hc => by
            have hk := lt_of_get hx
            rw [List.getElem?_take_of_lt (by omega)] at hx
            exact hf k j x c hx hc
          obtain ⟨o1, o2⟩ := elems_cells hrow' hf'
          refine ⟨flatF f sz (new.take n).length, flatF_len _ _ _, ?_, fun k j x c hx hc => ?_, fun v hv => ?_⟩
          · rw [hsv]
            exact run_firstCells_some (P := e.P) e.w sz _ _ _ scap _ (flatF_len _ _ _) fun j v hv => (o1 j v hv).1
          · obtain ⟨k1, _, k3⟩ := hf' k j x c hx hc
            have hj := lt_of_get hc
            rw [hrow' x (List.mem_of_getElem? hx)] at hj
            exact ⟨k1, f k j, flatF_get (lt_of_get hx) hj, k3⟩
          · obtain ⟨k, hk⟩ := List.getElem?_of_mem hv
            exact (o1 k v hk).2
      obtain ⟨vals, v1, v2, v3, v4⟩ := hcells
      have hdone : ∀ w' v, (Builtin.copy_ #[t, tx] e.o.type #[e.a.eval x, e.a.eval y]).run e.P e.w = .ok v w' → (execOp e.a.eval e.o).run e.P e.w = .ok (.value v) w' := fun w' v hq =>
        run_builtin ho hc (by simp [Go.builtin, hargs, htys, hq])
      have hlen : ∀ w : World, (Builtin.lenOf (e.a.eval y)).run e.P w = .ok new.length w := fun w => by rw [hsv]; rfl
      by_cases h0 : (new.take n).length = 0
      · have hv0 : vals = [] := List.eq_nil_of_length_eq_zero (by rw [v1, h0]; simp)
        subst hv0
        have ht0 : new.take n = [] := List.eq_nil_of_length_eq_zero h0
        have hrun : (Builtin.copy_ #[t, tx] e.o.type #[e.a.eval x, e.a.eval y]).run e.P e.w = .ok (goInt 0) e.w := by
          rw [hv]
          have hmin : Nat.min new.length n = 0 := by rw [← hml]; exact h0
          rw [h0] at v2
          simp only [Builtin.copy_]
          simp only [List.getElem?_toArray, List.getElem?_cons_zero, List.getElem?_cons_succ, Sem.run_bind, run_underlying hu, Result.andThen_ok, hlen, run_size hs, hmin, v2]
          cases a <;> simp [storeCells]
        rw [ht0]
        have hes : over i ([] : List (List V)) bk.es = bk.es := by simp [over]
        rw [hes]
        have hmem := h.mem.hpExt (hp' := hset e.st.hp id (some ⟨bk.sz, bk.fr, bk.es⟩)) rfl rfl (fun j => by
          rw [hget_hset]; split
          · rename_i q; rw [q, hbk]
          · rfl)
        exact .out (.value _ _ (hdone _ _ hrun)) ⟨rfl, hmem, GLe.refl _, .inl rfl, .ofA (.c _ _ (.it _ _)), fun _ _ _ _ hx => by cases hx⟩
      · rcases c2 with c2 | ⟨rfl, c3⟩
        · omega
        · have hmul : (i + (new.take n).length) * r.sz ≤ r.cap * r.sz := Nat.mul_le_mul_right _ (by omega)
          have hoff : i * r.sz + vals.length = (i + (new.take n).length) * r.sz := by rw [v1, ← hrs, Nat.add_mul]
          have hplace : ∀ j, r.base + i * r.sz + 0 + j = r.base + (i * r.sz + j) := fun j => by omega
          have hst := run_storeCells_cells (P := e.P) r.b (r.base + i * r.sz) vals 0 e.w (fun j hj => by
              obtain ⟨⟨u, hu'⟩, _⟩ := z.rw hfr (i * r.sz + j) (by omega)
              rw [hplace]; simp only [ad] at hu'; rw [hu']; rfl) (fun j hj => by
              have h2 := (z.rw hfr (i * r.sz + j) (by omega)).2.1
              rw [hplace]; simp only [ad] at h2; exact h2) (fun v hv => oneC' (v4 v hv))
          have hrun : (Builtin.copy_ #[t, tx] e.o.type #[e.a.eval x, e.a.eval y]).run e.P e.w = .ok (goInt (new.take n).length) (setCs e.w r.b (r.base + i * r.sz) vals) := by
            rw [hv]
            rw [hml] at v2 ⊢
            simp only [Builtin.copy_]
            simp only [List.getElem?_toArray, List.getElem?_cons_zero, List.getElem?_cons_succ, Sem.run_bind, run_underlying hu, Result.andThen_ok, hlen, run_size hs, v2]
            simp only [ad]
            rw [hst]
            simp only [Nat.add_zero, Result.andThen_ok, Sem.run_pure, setCs_eq]
          have hol : (bk.es.take i).length = i := by rw [List.length_take]; omega
          have hw := h.mem.write hl hbk hfr hlim (bk' := ⟨bk.sz, bk.fr, over i (new.take n) bk.es⟩) (i * r.sz) vals (by omega) rfl hfr (by
              have := z.len
              simp only [over, List.length_append, List.length_drop, hol]; omega)
            (fun x hx => by
              simp only [over] at hx
              rcases List.mem_append.1 hx with hx | hx
              · exact z.row x (List.mem_of_mem_take hx)
              · rcases List.mem_append.1 hx with hx | hx
                · rw [hm]; exact srow x (List.mem_of_mem_take hx)
                · exact z.row x (List.mem_of_mem_drop hx))
            (fun i' j x c hx hc => by
              simp only [over] at hx
              rw [hm]
              have hj := lt_of_get hc
              have hold : bk.es[i']? = some x → (i' < i ∨ i + (new.take n).length ≤ i') → c.keep = true ∧ if i * r.sz ≤ i' * sz + j ∧ i' * sz + j < i * r.sz + vals.length then ∃ cv, vals[i' * sz + j - i * r.sz]? = some cv ∧ RepA e.g c cv
                  else ∃ cv, e.w.cell? (ad r.b (r.base + (i' * sz + j))) = some cv ∧ RepA e.g c cv := by
                intro hx' hor
                rw [z.row x (List.mem_of_getElem? hx'), hm] at hj
                obtain ⟨k1, u, k2, k3⟩ := z.cont i' j x c hx' hc
                have hcond : ¬ (i * r.sz ≤ i' * sz + j ∧ i' * sz + j < i * r.sz + vals.length) := by
                  rw [hoff, hrs]
                  rcases hor with q | q
                  · have := Nat.mul_le_mul_right sz (show i' + 1 ≤ i by omega)
                    rw [Nat.add_mul, Nat.one_mul] at this; omega
                  · have := Nat.mul_le_mul_right sz q; omega
                rw [if_neg hcond]
                exact ⟨k1, u, by rw [← hrs, ← Nat.add_assoc]; exact k2, k3⟩
              by_cases p1 : i' < i
              · rw [List.getElem?_append_left (by omega), List.getElem?_take_of_lt p1] at hx
                exact hold hx (.inl p1)
              · rw [List.getElem?_append_right (by omega), hol] at hx
                by_cases p2 : i' < i + (new.take n).length
                · rw [List.getElem?_append_left (by omega)] at hx
                  rw [srow x (List.mem_of_mem_take (List.mem_of_getElem? hx))] at hj
                  obtain ⟨k1, cv, k2, k3⟩ := v3 _ j x c hx hc
                  have hlt := idx_lt (lt_of_get hx) hj
                  have e1 : i' * sz = i * sz + (i' - i) * sz := by rw [← Nat.add_mul]; congr 1; omega
                  refine ⟨k1, ?_⟩
                  rw [hrs, if_pos ⟨by omega, by omega⟩]
                  exact ⟨cv, by rw [show i' * sz + j - i * sz = (i' - i) * sz + j by omega]; exact k2, k3⟩
                · rw [List.getElem?_append_right (by omega), List.getElem?_drop] at hx
                  rw [show i + (new.take n).length + (i' - i - (new.take n).length) = i' by omega] at hx
                  exact hold hx (.inr (by omega)))
          exact .out (.value _ _ (hdone _ _ hrun)) ⟨rfl, hw, GLe.refl _, .inl rfl, .ofA (.c _ _ (.it _ _)), fun _ _ _ _ hx => by cases hx⟩
  | _ => exact .bad fun _ _ => rfl

end
end Ev

namespace Ev
open Go

/-- worlds that part at maps alone -/
structure MapsOnly (w w' : World) (X : Nat → Prop) : Prop where
  cell : ∀ b o, w'.cell? (ad b o) = w.cell? (ad b o)
  frozen : ∀ b o, w'.frozen? (ad b o) = w.frozen? (ad b o)
  size : w.heap.size ≤ w'.heap.size
  unf : ∀ n b, Unf n w b → Unf n w' b
  heap : ∀ b, b < w.heap.size → ¬ X b → w'.heap[b]? = w.heap[b]?
  os : w'.os = w.os ∧ w'.output = w.output

theorem at_map {w : World} {b : Nat} {es : Array MapEntry} {c : Nat} (h : w.heap[b]? = some (Obj.map es c)) (o : Nat) : w.cell? (ad b o) = none ∧ w.frozen? (ad b o) = false := by
  unfold World.cell? World.frozen? ad
  simp only [h, and_self]

theorem maps_alloc (w : World) (es : Array MapEntry) (c : Nat) : MapsOnly w (w.alloc (.map es c)) (fun _ => False) := by
  have hat : ∀ b, (w.alloc (.map es c)).heap[b]? = if b = w.heap.size then some (Obj.map es c) else w.heap[b]? := fun b => by
    show (w.heap.push _)[b]? = _
    rw [Array.getElem?_push]
  have hno : ∀ o, w.cell? (ad w.heap.size o) = none ∧ w.frozen? (ad w.heap.size o) = false := fun o => by
    unfold World.cell? World.frozen? ad
    simp
  refine ⟨fun b o => ?_, fun b o => ?_, by show _ ≤ (w.heap.push _).size; simp, fun n b hu => ?_, fun b hb _ => by rw [hat, if_neg (by omega)], rfl, rfl⟩
  · by_cases e : b = w.heap.size
    · subst e; rw [(at_map (w := w.alloc (.map es c)) (by rw [hat, if_pos rfl]) o).1, (hno o).1]
    · unfold World.cell? ad; simp only [hat, e, if_false]
  · by_cases e : b = w.heap.size
    · subst e; rw [(at_map (w := w.alloc (.map es c)) (by rw [hat, if_pos rfl]) o).2, (hno o).2]
    · unfold World.frozen? ad; simp only [hat, e, if_false]
  · obtain ⟨C, e', fr, h1, h2⟩ := hu
    exact ⟨C, e', fr, by rw [hat, if_neg (by have := (Array.getElem?_eq_some_iff.1 h1).1; omega)]; exact h1, h2⟩

/-- a map is laid anew -/
def putMap (w : World) (b : Nat) (es : Array MapEntry) (c : Nat) : World := { w with heap := w.heap.setIfInBounds b (.map es c) }

theorem maps_put {w : World} {b : Nat} {es es' : Array MapEntry} {c c' : Nat} (h : w.heap[b]? = some (Obj.map es c)) : MapsOnly w (putMap w b es' c') (fun x => x = b) ∧ (putMap w b es' c').heap[b]? = some (Obj.map es' c') := by
  have hlt := (Array.getElem?_eq_some_iff.1 h).1
  have hat : ∀ x, (putMap w b es' c').heap[x]? = if x = b then some (Obj.map es' c') else w.heap[x]? := fun x => by
    show (w.heap.setIfInBounds b _)[x]? = _
    rw [Array.getElem?_setIfInBounds]
    by_cases e : b = x
    · subst e; simp [hlt]
    · simp [e, Ne.symm e]
  have hb : (putMap w b es' c').heap[b]? = some (Obj.map es' c') := by rw [hat, if_pos rfl]
  refine ⟨⟨fun x o => ?_, fun x o => ?_, by show _ ≤ (w.heap.setIfInBounds b _).size; simp, fun n x hu => ?_, fun x _ hx => by rw [hat, if_neg hx], rfl, rfl⟩, hb⟩
  · by_cases e : x = b
    · subst e; rw [(at_map hb o).1, (at_map h o).1]
    · unfold World.cell? ad; simp only [hat, e, if_false]
  · by_cases e : x = b
    · subst e; rw [(at_map hb o).2, (at_map h o).2]
    · unfold World.frozen? ad; simp only [hat, e, if_false]
  · obtain ⟨C, e', fr, h1, h2⟩ := hu
    refine ⟨C, e', fr, ?_, h2⟩
    rw [hat, if_neg (fun e => by subst e; rw [h] at h1; cases h1)]; exact h1

/-- a new map -/
def bornM (g : G) (hp : Hp) (b : Nat) : G := ⟨g.κ, fun id => if id = hp.next then .mlive b else g.lf id⟩

theorem MemR.newMap {E : Ent} {g : G} {ν : Nat → Option Nat} {lo : Lo} {hp : Hp} {w : World} (h : MemR E g ν lo hp w) :
    MemR E (bornM g hp w.heap.size) ν lo (hnew hp ⟨2, false, []⟩) (w.alloc (.map #[] 0)) ∧ GLe g (bornM g hp w.heap.size) := by
  have mo := maps_alloc w #[] 0
  have hle : GLe g (bornM g hp w.heap.size) := ⟨fun _ _ _ x => x, fun id => by
    by_cases e : id = hp.next
    · rw [h.hr.unb id (by omega)]; trivial
    · simp only [bornM, e, if_false]; cases g.lf id <;> simp [Life.le]⟩
  have hl : ∀ id r, (bornM g hp w.heap.size).lf id = .live r → id ≠ hp.next ∧ g.lf id = .live r := fun id r x => by
    simp only [bornM] at x
    split at x
    · cases x
    · exact ⟨‹_›, x⟩
  have hlm : ∀ id b, (bornM g hp w.heap.size).lf id = .mlive b → (id = hp.next ∧ b = w.heap.size) ∨ (id ≠ hp.next ∧ g.lf id = .mlive b) := fun id b x => by
    simp only [bornM] at x
    split at x
    · cases x; exact .inl ⟨‹_›, rfl⟩
    · exact .inr ⟨‹_›, x⟩
  have hmb : ∀ id b, g.lf id = .mlive b → b < w.heap.size := fun id b x => by
    obtain ⟨bk, _, ⟨_, _, es, c, q, _⟩⟩ := h.hr.mp.live id b x
    exact (Array.getElem?_eq_some_iff.1 q).1
  have hown : ∀ b o, Own (bornM g hp w.heap.size) (hnew hp ⟨2, false, []⟩) b o → Own g hp b o := by
    intro b o ⟨id, r, bk, k, x, y, z⟩
    obtain ⟨h1, h2⟩ := hl id r x
    rw [hget_hnew, if_neg h1] at y
    exact ⟨id, r, bk, k, h2, y, z⟩
  have hnx : (w.alloc (.map #[] 0)).heap[w.heap.size]? = some (.map #[] 0) := by show (w.heap.push _)[w.heap.size]? = _; simp
  refine ⟨⟨⟨⟨fun id b x => ?_, fun id id' b hne x x' => ?_⟩, by simp only [hnew]; have := h.hr.lim; omega, fun id hid => by
      simp only [hnew] at hid
      rw [hget_hnew, if_neg (by omega)]; exact h.hr.nil id (by omega), fun id hid => by
      simp only [hnew] at hid
      simp only [bornM]; split
      · simp
      · exact h.hr.bnd id (by omega), fun b o v x => by rw [mo.cell]; exact h.hr.kap b o v x, fun id hid => by
      simp only [hnew] at hid
      simp only [bornM, show id ≠ hp.next by omega, if_false]; exact h.hr.unb id (by omega), fun id x => ?_, fun id r x => ?_, fun id id' r1 r2 b1 b2 hne x x' y y' z z' => ?_⟩, ⟨fun t cs x => ?_, h.lo.inj⟩, h.evo.trans ⟨hle, by simp [hnew], rfl, fun id hid => by rw [hget_hnew, if_neg (by have := h.hr.lim; omega)], mo.size, fun b o v x _ => by rw [mo.cell]; exact x, fun b o v x _ => mo.frozen b o, fun b o x => .inl (hown b o x), fun _ _ _ x => .inl x, mo.os, mo.unf 1, fun b hb _ _ => mo.heap b hb (fun x => x), fun b ⟨id, x⟩ => ?_⟩⟩, hle⟩
  · rcases hlm id b x with ⟨rfl, rfl⟩ | ⟨h1, h2⟩
    · exact ⟨⟨2, false, []⟩, by rw [hget_hnew, if_pos rfl], rfl, rfl, #[], 0, hnx, rfl, fun i x hx => by simp at hx⟩
    · obtain ⟨bk, k1, ⟨k2, k3, es, c, k4, k5, k6⟩⟩ := h.hr.mp.live id b h2
      refine ⟨bk, by rw [hget_hnew, if_neg h1]; exact k1, k2, k3, es, c, by rw [mo.heap b (hmb id b h2) (fun x => x)]; exact k4, k5, fun i x hx => ?_⟩
      obtain ⟨l, v, en, s, q1, q2, q3, q4, q5, q6⟩ := k6 i x hx
      exact ⟨l, v, en, s, q1, q2, q3, q4, q5, q6.mono hle⟩
  · rcases hlm id b x with ⟨e1, e2⟩ | ⟨h1, h2⟩
    · rcases hlm id' b x' with ⟨e1', _⟩ | ⟨h1', h2'⟩
      · exact hne (e1.trans e1'.symm)
      · have := hmb id' b h2'; omega
    · rcases hlm id' b x' with ⟨e1', e2'⟩ | ⟨h1', h2'⟩
      · have := hmb id b h2; omega
      · exact h.hr.mp.sep id id' b hne h2 h2'
  · simp only [bornM] at x
    split at x
    · cases x
    · rename_i e; rw [hget_hnew, if_neg e]; exact h.hr.dead id x
  · obtain ⟨h1, h2⟩ := hl id r x
    obtain ⟨bk, k1, k2⟩ := h.hr.live id r h2
    exact ⟨bk, by rw [hget_hnew, if_neg h1]; exact k1, k2.grow hle (fun _ _ _ y => by rw [mo.cell]; exact y) (fun _ _ _ _ => mo.frozen _ _) (fun _ _ y _ => y) (fun _ _ => mo.unf _ _)⟩
  · obtain ⟨h1, h2⟩ := hl id r1 x
    obtain ⟨h1', h2'⟩ := hl id' r2 x'
    rw [hget_hnew, if_neg h1] at y
    rw [hget_hnew, if_neg h1'] at y'
    exact h.hr.sep id id' r1 r2 b1 b2 hne h2 h2' y y' z z'
  · obtain ⟨b, h1, h2, h3, h4, h5, h6⟩ := h.lo.box t cs x
    exact ⟨b, h1, h2.grow hle (fun _ _ y => by rw [mo.cell]; exact y) (fun _ _ _ => mo.frozen _ _), h3, fun o y => h4 o (hown b o y), h5, by have := mo.size; omega⟩
  · rcases hlm id b x with ⟨_, rfl⟩ | ⟨_, h2⟩
    · exact .inr (Nat.le_refl _)
    · exact .inl ⟨id, h2⟩

/-- a map is written -/
theorem MemR.setMap {E : Ent} {g : G} {ν : Nat → Option Nat} {lo : Lo} {hp : Hp} {w : World} (h : MemR E g ν lo hp w) {id b : Nat} {bk bk' : Bk} (hl : g.lf id = .mlive b) (hb : hget hp id = some bk) (hlim : hp.lim ≤ id)
    {es' : Array MapEntry} {c' : Nat} (hm : MpR g (putMap w b es' c') b bk') : MemR E g ν lo (hset hp id (some bk')) (putMap w b es' c') := by
  obtain ⟨bk0, k1, ⟨_, _, es, c, k4, _⟩⟩ := h.hr.mp.live id b hl
  obtain ⟨mo, _⟩ := maps_put (es' := es') (c' := c') k4
  have hgets : ∀ j, hget (hset hp id (some bk')) j = if j = id then some bk' else hget hp j := hget_hset hp id _
  have hne : ∀ j r, g.lf j = .live r → j ≠ id := fun j r x e => by subst e; rw [hl] at x; cases x
  have hown : ∀ b o, Own g (hset hp id (some bk')) b o → Own g hp b o := by
    intro b o ⟨j, r, bk, k, x, y, z⟩
    rw [hgets, if_neg (hne j r x)] at y
    exact ⟨j, r, bk, k, x, y, z⟩
  refine ⟨⟨⟨fun j b2 x => ?_, h.hr.mp.sep⟩, h.hr.lim, fun j x => ?_, h.hr.bnd, fun b o v x => by rw [mo.cell]; exact h.hr.kap b o v x, h.hr.unb, fun j x => ?_, fun j r x => ?_, fun j j' r1 r2 b1 b2 hne' x x' y y' z z' => ?_⟩, ⟨fun t cs x => ?_, h.lo.inj⟩, h.evo.trans ⟨GLe.refl g, Nat.le_refl _, rfl, fun j hj => by rw [hgets, if_neg (by omega)], mo.size, fun b o v x _ => by rw [mo.cell]; exact x, fun b o v x _ => mo.frozen b o, fun b o x => .inl (hown b o x), fun _ _ _ x => .inl x, mo.os, mo.unf 1, fun b' hb' _ hn => mo.heap b' hb' (fun e => hn ⟨id, by rw [e]; exact hl⟩), fun _ x => .inl x⟩⟩
  · by_cases e : j = id
    · subst e; rw [hl] at x; cases x
      exact ⟨bk', by rw [hgets, if_pos rfl], hm⟩
    · have hbb : b2 ≠ b := fun q => h.hr.mp.sep j id b2 e x (by rw [q]; exact hl)
      obtain ⟨bk2, q1, ⟨q2, q3, es2, c2, q4, q5, q6⟩⟩ := h.hr.mp.live j b2 x
      exact ⟨bk2, by rw [hgets, if_neg e]; exact q1, q2, q3, es2, c2, by rw [mo.heap b2 (Array.getElem?_eq_some_iff.1 q4).1 hbb]; exact q4, q5, q6⟩
  · have : j ≠ id := fun e => by subst e; rw [h.hr.nil _ x] at hb; cases hb
    rw [hgets, if_neg this]; exact h.hr.nil j x
  · have : j ≠ id := fun e => by subst e; rw [hl] at x; cases x
    rw [hgets, if_neg this]; exact h.hr.dead j x
  · obtain ⟨bk, k1, k2⟩ := h.hr.live j r x
    exact ⟨bk, by rw [hgets, if_neg (hne j r x)]; exact k1, k2.grow (GLe.refl g) (fun _ _ _ y => by rw [mo.cell]; exact y) (fun _ _ _ _ => mo.frozen _ _) (fun _ _ y _ => y) (fun _ _ => mo.unf _ _)⟩
  · rw [hgets, if_neg (hne j r1 x)] at y
    rw [hgets, if_neg (hne j' r2 x')] at y'
    exact h.hr.sep j j' r1 r2 b1 b2 hne' x x' y y' z z'
  · obtain ⟨b, h1, h2, h3, h4, h5, h6⟩ := h.lo.box t cs x
    exact ⟨b, h1, h2.grow (GLe.refl g) (fun _ _ y => by rw [mo.cell]; exact y) (fun _ _ _ => mo.frozen _ _), h3, fun o y => h4 o (hown b o y), h5, by have := mo.size; omega⟩

/-- what is found under a key -/
theorem find_map {g : G} {s : ByteArray} {l : List Nat} (hs : s.data.toList.map UInt8.toNat = l) : ∀ (rows : List (List V)) (es : List MapEntry) (n : Nat), es.length = rows.length →
    (∀ (i : Nat) (x : List V), rows[i]? = some x → ∃ (l : List Nat) (v : V) (e : MapEntry) (s : ByteArray), x = [.st l, v] ∧ v.keep = true ∧ es[i]? = some e ∧ e.key = .string s ∧ s.data.toList.map UInt8.toNat = l ∧ RepA g v e.val) →
    (mapGet l rows = none ∧ Instr.findNow .string (.string s) es n = some none ∧ ∀ v, mapPut l v rows = rows ++ [[.st l, v]]) ∨
    (∃ (i : Nat) (u : V) (e : MapEntry) (sk : ByteArray), mapGet l rows = some u ∧ rows[i]? = some [.st l, u] ∧ es[i]? = some e ∧ e.key = .string sk ∧ sk.data.toList.map UInt8.toNat = l ∧ RepA g u e.val ∧ u.keep = true ∧ Instr.findNow .string (.string s) es n = some (some (n + i, e.val)) ∧ ∀ v, mapPut l v rows = rows.set i [.st l, v]) := by
  intro rows
  induction rows with
  | nil =>
    intro es n hn _
    have : es = [] := List.eq_nil_of_length_eq_zero hn
    subst this
    exact .inl ⟨rfl, rfl, fun _ => rfl⟩
  | cons x rows ih =>
    intro es n hn h
    cases es with
    | nil => simp at hn
    | cons e es =>
      obtain ⟨k, v, e', sk, q1, q2, q3, q4, q5, q6⟩ := h 0 x rfl
      simp only [List.getElem?_cons_zero, Option.some.injEq] at q3; subst q3; subst q1
      have heq : beqL k l = (sk.data.toList == s.data.toList) := by rw [← q5, ← hs, beqL_bytes]
      have hnow : Instr.sameNow .string (.string s) e.key = some (beqL k l) := by
        rw [q4, heq]
        simp only [Instr.sameNow]
        congr 1
        rw [beq_toListBytes, ByteArray.toList_eq, ByteArray.toList_eq]
        rw [Bool.eq_iff_iff]; simp only [beq_iff_eq]; exact ⟨fun h => h.symm, fun h => h.symm⟩
      cases hk : beqL k l with
      | true =>
        have hkl : k = l := by rw [beqL_eq] at hk; simpa using hk
        subst hkl
        refine .inr ⟨0, v, e, sk, by simp [mapGet, hk], rfl, rfl, q4, q5, q6, q2, ?_, fun u => by simp [mapPut, hk]⟩
        simp only [Instr.findNow, hnow, hk, Nat.add_zero]
      | false =>
        rcases ih es (n + 1) (by simpa using hn) (fun i x hx => by simpa using h (i + 1) x (by simpa using hx)) with ⟨a1, a2, a3⟩ | ⟨i, u, e2, sk2, a1, a2, a3, a4, a5, a6, a7, a8, a9⟩
        · exact .inl ⟨by simp [mapGet, hk, a1], by simp [Instr.findNow, hnow, hk, a2], fun v' => by simp [mapPut, hk, a3]⟩
        · exact .inr ⟨i + 1, u, e2, sk2, by simp [mapGet, hk, a1], by simpa using a2, by simpa using a3, a4, a5, a6, a7, by simp only [Instr.findNow, hnow, hk, a8]; rw [show n + 1 + i = n + (i + 1) by omega], fun v' => by simp [mapPut, hk, a9]⟩

section
variable {e : Env}

theorem mapOk_inv {P : Program} {t : TypeId} (h : mapOk P t = true) : ∃ k el, P.underlying t = some (.map k el) ∧ P.underlying k = some .string := by
  unfold mapOk at h
  split at h
  · rename_i k el hu
    split at h
    · rename_i hk; exact ⟨k, el, hu, hk⟩
    · cases h
  · cases h

theorem ok_mmk (h : e.St) {t : TypeId} (ho : e.o.op = .makeMap t none) (us : List Nat) (d : Nat) : Res e (iMmk us e.clr d e.st) := by
  obtain ⟨h1, h2⟩ := h.mem.newMap
  refine .out (.value (.map (some e.w.heap.size)) _ (by simp [execOp, ho, Instr.makeMap, newObj, Sem.run])) ⟨rfl, h1, h2, .inl rfl, .ofA (.mp _ _ (.inr (by simp [bornM]))), fun _ _ _ _ x => by cases x⟩

theorem run_checkKey {P : Program} {w : World} {k : TypeId} (hk : P.underlying k = some .string) (em : Bool) (s : ByteArray) : (Instr.checkKey em 10000 k (.string s)).run P w = .ok () w := by
  have key : ∀ n, (Instr.checkKey em (n + 1) k (.string s)).run P w = .ok () w := fun n => by simp [Instr.checkKey, run_underlying hk]
  exact key 9999

theorem run_getMap {P : Program} {w : World} {b : Nat} {es : Array MapEntry} {c : Nat} (h : w.heap[b]? = some (Obj.map es c)) : (getObj b).run P w = .ok (.map es c) w := by
  simp only [getObj, Sem.run, h]

theorem run_setMap {P : Program} {w : World} {b : Nat} {es es' : Array MapEntry} {c c' : Nat} (h : w.heap[b]? = some (Obj.map es c)) : (setObj b (.map es' c')).run P w = .ok () (putMap w b es' c') := by
  simp only [setObj, Sem.run, h]
  rfl

theorem run_find {P : Program} {w : World} {k : TypeId} (hk : P.underlying k = some .string) {s : ByteArray} {es : List MapEntry} {r : Option (Nat × Value)} (h : Instr.findNow .string (.string s) es 0 = some r) : (Instr.findKey k (.string s) es).run P w = .ok r w := by
  simp [Instr.findKey, run_underlying hk, h]

theorem same_str {a b : ByteArray} (h : a.data.toList.map UInt8.toNat = b.data.toList.map UInt8.toNat) : a = b := by
  have h1 : (a.data.toList == b.data.toList) = true := by rw [← beqL_bytes, beqL_eq, h]; simp
  have h2 : a.data.toList = b.data.toList := by simpa using h1
  cases a; cases b; congr 1; exact Array.ext' h2

theorem run_stays {P : Program} {w : World} (s : ByteArray) : (Instr.keyThatStays (.string s) (.string s)).run P w = .ok (.string s) w := by
  have : Instr.sameBits 10000 (.string s) (.string s) = true := by
    show (s == s) = true
    rw [beq_toListBytes]; simp
  simp [Instr.keyThatStays, this]

theorem ok_mlk (h : e.St) {t key el : TypeId} {ok : Bool} {z : V} {x i : Operand} {xa ia : A} (hm : mapOk e.P t = true) (hu : e.P.underlying t = some (.map key el)) (hz : zeroV e.P el = some z) (hx : cA x = some xa) (hi : cA i = some ia) (ho : e.o.op = .lookup t x i ok) (us : List Nat) (d : Nat) :
    Res e (iMlk ok z xa ia us e.clr d e.st) := by
  obtain ⟨k', el', hu', hks⟩ := mapOk_inv hm
  rw [hu] at hu'; cases hu'
  have hrx := h.rep hx
  have hri := h.rep hi
  unfold zeroV at hz
  cases hinf : e.P.info? el with
  | none => simp [hinf] at hz
  | some inf =>
  cases hzz : inf.zero with
  | none => simp [hinf, hzz] at hz
  | some zv =>
  simp only [hinf, hzz, Option.bind_some] at hz
  obtain ⟨z1, z2, _⟩ := ofVal_rep (g := e.g) hz
  have hzero := run_zero hinf hzz e.w
  have pair : ∀ {u : V} {cv : Value} (b : Bool), RepA e.g u cv → isLp u = false → RepA e.g (.tu [u, .bo b]) (.tuple #[cv, .bool b]) := fun {u cv} b hr hlu => by
    refine .tu _ _ rfl (fun x hx => by simp only [List.mem_cons, List.not_mem_nil, or_false] at hx; rcases hx with rfl | rfl <;> first | exact hlu | rfl) fun j c hc => ?_
    match j with
    | 0 => simp only [List.getElem?_cons_zero, Option.some.injEq] at hc; subst hc; exact hr
    | 1 => simp only [List.getElem?_cons_succ, List.getElem?_cons_zero, Option.some.injEq] at hc; subst hc; exact .c _ _ (.bo b)
    | j + 2 => simp at hc
  show Res e (fun k kp => iMlk ok z xa ia us e.clr d e.st k kp)
  simp only [iMlk]
  cases hgi : get e.st.tm ia with
  | st l =>
    rw [hgi] at hri
    obtain ⟨s, hs, hl⟩ := RepA.st_inv hri
    cases hgx : get e.st.tm xa with
    | nm =>
      rw [hgx] at hrx
      have hxv := RepA.nm_inv hrx
      have hf : Instr.findNow .string (.string s) ([] : List MapEntry) 0 = some none := rfl
      cases ok with
      | true => exact Res.val h (cv := .tuple #[zv, .bool false]) (by simp [execOp, ho, Instr.lookup, run_underlying hu, hxv, hs, run_checkKey hks, run_find hks hf, hzero]) (pair false z1 z2) rfl
      | false => exact Res.val h (cv := zv) (by simp [execOp, ho, Instr.lookup, run_underlying hu, hxv, hs, run_checkKey hks, run_find hks hf, hzero]) z1 z2
    | mp id =>
      rw [hgx] at hrx
      simp only []
      cases hb : hget e.st.hp id with
      | none => exact .bad fun _ _ => rfl
      | some bk =>
        simp only []
        obtain ⟨b, hxv, hlf⟩ := RepA.mp_inv hrx
        rcases hlf with hd | hlf
        · have := h.mem.hr.dead id hd; rw [hb] at this; cases this
        obtain ⟨bk', k1, ⟨_, _, es, c, k4, k5, k6⟩⟩ := h.mem.hr.mp.live id b hlf
        rw [hb] at k1; cases k1
        have hg := run_getMap (P := e.P) k4
        rcases find_map hl bk.es es.toList 0 (by simpa using k5) (fun i x hx => by simpa using k6 i x hx) with ⟨a1, a2, _⟩ | ⟨j, u, en, sk, a1, _, _, _, _, a6, a7, a8, _⟩
        · simp only [mgetD, a1]
          cases ok with
          | true => exact Res.val h (cv := .tuple #[zv, .bool false]) (by simp [execOp, ho, Instr.lookup, run_underlying hu, hxv, hs, hg, run_checkKey hks, run_find hks a2, hzero]) (pair false z1 z2) rfl
          | false => exact Res.val h (cv := zv) (by simp [execOp, ho, Instr.lookup, run_underlying hu, hxv, hs, hg, run_checkKey hks, run_find hks a2, hzero]) z1 z2
        · simp only [mgetD, a1]
          have hul : isLp u = false := by cases u <;> first | rfl | simp [V.keep] at a7
          cases ok with
          | true => exact Res.val h (cv := .tuple #[en.val, .bool true]) (by simp [execOp, ho, Instr.lookup, run_underlying hu, hxv, hs, hg, run_checkKey hks, run_find hks a8]) (pair true a6 hul) rfl
          | false => exact Res.val h (cv := en.val) (by simp [execOp, ho, Instr.lookup, run_underlying hu, hxv, hs, hg, run_checkKey hks, run_find hks a8]) a6 hul
    | _ => exact .bad fun _ _ => rfl
  | _ => exact .bad fun _ _ => rfl

theorem ok_mup (h : e.St) {t : TypeId} {x i v : Operand} {xa ia va : A} (hm : mapOk e.P t = true) (hx : cA x = some xa) (hi : cA i = some ia) (hv : cA v = some va) (ho : e.o.op = .mapUpdate t x i v) (us : List Nat) (d : Nat) :
    Res e (iMup xa ia va us e.clr d e.st) := by
  obtain ⟨key, el, hu, hks⟩ := mapOk_inv hm
  have hrx := h.rep hx
  have hri := h.rep hi
  have hrv := h.rep hv
  show Res e (fun k kp => iMup xa ia va us e.clr d e.st k kp)
  simp only [iMup]
  cases hgi : get e.st.tm ia with
  | st l =>
    rw [hgi] at hri
    obtain ⟨s, hs, hl⟩ := RepA.st_inv hri
    cases hgx : get e.st.tm xa with
    | mp id =>
      rw [hgx] at hrx
      simp only []
      cases hb : hget e.st.hp id with
      | none => exact .bad fun _ _ => rfl
      | some bk =>
        simp only []
        refine Res.bif (F := fun _ _ => .bad) (G := fun k _ => bif freshH us e.st.tm id then bif (get e.st.tm va).keep then k .un (e.st.setHp (hset e.st.hp id (some ⟨2, false, mapPut l (get e.st.tm va) bk.es⟩))) else .bad else .bad) (fun _ => .bad fun _ _ => rfl) (fun hlim => ?_)
        refine Res.bif (F := fun k _ => bif (get e.st.tm va).keep then k .un (e.st.setHp (hset e.st.hp id (some ⟨2, false, mapPut l (get e.st.tm va) bk.es⟩))) else .bad) (G := fun _ _ => .bad) (fun hfr => ?_) (fun _ => .bad fun _ _ => rfl)
        refine Res.bif (F := fun k _ => k .un (e.st.setHp (hset e.st.hp id (some ⟨2, false, mapPut l (get e.st.tm va) bk.es⟩)))) (G := fun _ _ => .bad) (fun hkp => ?_) (fun _ => .bad fun _ _ => rfl)
        have hlim' : e.st.hp.lim ≤ id := by
          have : ¬ id < e.st.hp.lim := fun q => by rw [show Nat.blt id e.st.hp.lim = true from by simpa [Nat.blt_eq] using q] at hlim; cases hlim
          omega
        obtain ⟨b, hxv, hlf⟩ := RepA.mp_inv hrx
        rcases hlf with hd | hlf
        · have := h.mem.hr.dead id hd; rw [hb] at this; cases this
        obtain ⟨bk', k1, ⟨k2, k3, es, c, k4, k5, k6⟩⟩ := h.mem.hr.mp.live id b hlf
        rw [hb] at k1; cases k1
        have hg := run_getMap (P := e.P) k4
        have hul : isLp (get e.st.tm va) = false := by cases hq : get e.st.tm va <;> first | rfl | (rw [hq] at hkp; simp [V.keep] at hkp)
        have hrv' := hrv.toA hul
        rcases find_map hl bk.es es.toList 0 (by simpa using k5) (fun i x hx => by simpa using k6 i x hx) with ⟨a1, a2, a3⟩ | ⟨j, u, en, sk, a1, a2, a3, a4, a5, a6, a7, a8, a9⟩
        · have hset := run_setMap (P := e.P) (es' := es.push ⟨.string s, e.a.eval v, c⟩) (c' := c + 1) k4
          have hheap := (maps_put (es' := es.push ⟨.string s, e.a.eval v, c⟩) (c' := c + 1) k4).2
          have hmem := h.mem.setMap (es' := es.push ⟨.string s, e.a.eval v, c⟩) (c' := c + 1) (bk' := ⟨2, false, mapPut l (get e.st.tm va) bk.es⟩) hlf hb hlim' (by
            refine ⟨rfl, rfl, _, _, hheap, by rw [a3]; simp [k5], fun j x hx => ?_⟩
            rw [a3] at hx
            by_cases hj : j < bk.es.length
            · rw [List.getElem?_append_left hj] at hx
              obtain ⟨l', v', en', s', q1, q2, q3, q4⟩ := k6 j x hx
              exact ⟨l', v', en', s', q1, q2, by rw [Array.getElem?_push, if_neg (by omega)]; exact q3, q4⟩
            · rw [List.getElem?_append_right (by omega)] at hx
              have hj0 : j - bk.es.length = 0 := by
                cases hq : j - bk.es.length with
                | zero => rfl
                | succ n => rw [hq] at hx; simp at hx
              rw [hj0] at hx
              simp only [List.getElem?_cons_zero, Option.some.injEq] at hx; subst hx
              exact ⟨l, get e.st.tm va, ⟨.string s, e.a.eval v, c⟩, s, rfl, hkp, by rw [Array.getElem?_push, if_pos (by omega)], rfl, hl, hrv'⟩)
          exact .out (.skip _ (by simp [execOp, ho, Instr.mapUpdate, run_underlying hu, hxv, hs, hg, run_checkKey hks, run_find hks a2, hset])) ⟨rfl, hmem, GLe.refl _, .inl rfl, .ofA (.un _), fun _ _ _ _ x => by cases x⟩
        · have hsk : sk = s := same_str (a5.trans hl.symm)
          subst hsk
          simp only [Array.getElem?_toList] at a3
          have hkey : ((es[j]?).map (·.key)).getD (.string sk) = .string sk := by rw [a3]; simp [a4]
          have hset := run_setMap (P := e.P) (es' := es.modify j fun e' => { e' with key := .string sk, val := e.a.eval v }) (c' := c) k4
          have hheap := (maps_put (es' := es.modify j fun e' => { e' with key := .string sk, val := e.a.eval v }) (c' := c) k4).2
          have hmem := h.mem.setMap (es' := es.modify j fun e' => { e' with key := .string sk, val := e.a.eval v }) (c' := c) (bk' := ⟨2, false, mapPut l (get e.st.tm va) bk.es⟩) hlf hb hlim' (by
            refine ⟨rfl, rfl, _, _, hheap, by rw [a9]; simp [k5], fun j' x hx => ?_⟩
            rw [a9, List.getElem?_set] at hx
            by_cases hj : j = j'
            · subst hj
              have : j < bk.es.length := (List.getElem?_eq_some_iff.1 a2).1
              simp only [if_true, this, Option.some.injEq] at hx; subst hx
              exact ⟨l, get e.st.tm va, { en with key := .string sk, val := e.a.eval v }, sk, rfl, hkp, by simp [Array.getElem?_modify, a3], rfl, hl, hrv'⟩
            · rw [if_neg hj] at hx
              obtain ⟨l', v', en', s', q1, q2, q3, q4⟩ := k6 j' x hx
              exact ⟨l', v', en', s', q1, q2, by simp [Array.getElem?_modify, hj, q3], q4⟩)
          exact .out (.skip _ (by simp [execOp, ho, Instr.mapUpdate, run_underlying hu, hxv, hs, hg, run_checkKey hks, run_find hks a8, hkey, run_stays, hset])) ⟨rfl, hmem, GLe.refl _, .inl rfl, .ofA (.un _), fun _ _ _ _ x => by cases x⟩
    | _ => exact .bad fun _ _ => rfl
  | _ => exact .bad fun _ _ => rfl
theorem ixb_find {fn : Func} (hn : fn.name = "internal/bytealg.IndexByteString") : Extern.find fn = some Extern.BytealgIndexByte.indexByte := by
  have a : Extern.allGenericRows.lookup "internal/bytealg.IndexByteString" = none := by kernel_rfl
  have b : Extern.allTypedRows.lookup "internal/bytealg.IndexByteString" = none := by kernel_rfl
  have c : Extern.allRows.lookup "internal/bytealg.IndexByteString" = some Extern.BytealgIndexByte.indexByte := by kernel_rfl
  unfold Extern.find
  simp only [hn, a, b, c]
  rfl

theorem idxB_eq (c : UInt8) : ∀ l : List UInt8, idxB c.toNat (l.map UInt8.toNat) = Lib.indexByte l c
  | [] => rfl
  | b :: r => by
    have hb : Nat.beq b.toNat c.toNat = (b == c) := by
      rw [Bool.eq_iff_iff, Nat.beq_eq, beq_iff_eq]
      exact ⟨fun h => UInt8.toNat_inj.1 h, fun h => by rw [h]⟩
    have ih := idxB_eq c r
    have hge := Lib.indexByte_ge r c
    simp only [List.map_cons, idxB, Lib.indexByte, hb, ih]
    cases b == c with
    | true => rfl
    | false =>
      simp only [cond_false, Bool.false_eq_true, if_false]
      cases hq : Lib.indexByte r c with
      | ofNat n =>
        have : (Int.ofNat n == -1) = false := by simp
        simp only [this, Bool.false_eq_true, if_false]
        rfl
      | negSucc n =>
        rw [hq] at hge
        have : n = 0 := by omega
        subst this
        rfl

theorem ok_ixb (h : e.St) {c : Go.Call} {f : FuncId} {xa ya : A} (hf : isIxb e.P f = true) (hcal : c.callee = .value (.func f)) (ha : allSome cA c.args.toList = some [xa, ya]) (ho : e.o.op = .call c) (us : List Nat) (d : Nat) :
    Res e (iIxb xa ya us e.clr d e.st) := by
  obtain ⟨x, y, hargs, hx, hy⟩ := args2 ha
  have hrx := h.rep hx
  have hry := h.rep hy
  unfold isIxb at hf
  cases hfn : e.P.funcs[f]? with
  | none => simp [hfn] at hf
  | some fn =>
  cases hbd : fn.body with
  | some b => simp [hfn, hbd] at hf
  | none =>
  simp only [hfn, hbd, Bool.and_eq_true, beq_iff_eq, Option.isNone_iff_eq_none] at hf
  obtain ⟨hn, hnx⟩ := hf
  show Res e (fun k kp => iIxb xa ya us e.clr d e.st k kp)
  simp only [iIxb]
  cases hgx : get e.st.tm xa with
  | st l =>
    rw [hgx] at hrx
    obtain ⟨s, hs, hl⟩ := RepA.st_inv hrx
    cases hgy : get e.st.tm ya with
    | it k n =>
      rw [hgy] at hry
      cases k with
      | u8 =>
        have hyv := RepA.it_inv hry
        have hrun : (execOp e.a.eval e.o).run e.P e.w = .ok (.value (.int .i64 (idxB (n.toNat % 256) l))) e.w := by
          simp only [execOp, ho, resolve, hcal, Deferred.ofValue, Sem.run_bind, Act.eval, Sem.run_pure, Result.andThen_ok, invoke]
          have hname : (fn.name == "runtime.NumGoroutine") = false := by rw [hn]; decide
          have hrc := run_callFunc_extern (P := e.P) hfn hname (by simp [hbd]) hnx (ixb_find hn) #[.string s, .int .u8 n] e.w
          rw [Lib.run_indexByteString] at hrc
          have hi : idxB (n.toNat % 256) l = Lib.indexByte s.data.toList n.toNat.toUInt8 := by
            rw [← idxB_eq, hl]
            congr 1
          rw [hi, hargs]
          simp only [List.map_toArray, List.map_cons, List.map_nil, hs, hyv, Array.append_empty, Array.empty_append]
          simpa using hrc
        exact Res.val h hrun (.c _ _ (.it _ _)) rfl
      | _ => exact .bad fun _ _ => rfl
    | _ => exact .bad fun _ _ => rfl
  | _ => exact .bad fun _ _ => rfl
end
end Ev

namespace Ev
open Go

def I.calls : I → Bool
  | .call .. | .calv .. | .pan _ => true
  | _ => false

def I.boxes : I → Bool
  | .alc _ | .box _ => true
  | _ => false

theorem field_some {P : Program} {s : TypeId} {i : Nat} {f : Field} (h : Ev.field P s i = some f) : Ev.field P s i = some f := h

section
variable {e : Env}

theorem ins_ok (h : e.St) {pol : Pol} {i : I} {d : Nat} {us : List Nat} (hi : cIns e.P pol e.o = some i) (hnc : i.calls = false) (hde : e.dst = e.o.dst) (hd : ∀ d', e.dst = some d' → d' = d)
    (hus : i.boxes = true → ∀ t, hasN e.clr t = true → t ∈ us) : Res e (i.den us e.clr d e.st) := by
  have hdd : ∀ {x}, e.o.dst = some x → e.dst = some d := fun {x} q => by
    have q' := hde.trans q
    rw [← hd x q']; exact q'
  unfold cIns at hi
  cases ho : e.o.op <;> simp only [ho, reduceCtorEq] at hi
  case move x =>
    cases hx : cA x <;> simp only [hx, Option.map_none, Option.map_some, reduceCtorEq, Option.some.injEq] at hi
    subst hi; exact ok_mov h hx (.inl ho) us d
  case assign x =>
    cases hx : cA x <;> simp only [hx, Option.map_none, Option.map_some, reduceCtorEq, Option.some.injEq] at hi
    subst hi; exact ok_mov h hx (.inr ho) us d
  case pick c a b =>
    split at hi
    · rename_i hc ha hb
      simp only [Option.some.injEq] at hi; subst hi
      exact ok_pick h hc ha hb ho us d
    · cases hi
  case alloc el =>
    split at hi
    · rename_i z s dd hz hs hdst
      split at hi
      · simp only [Option.some.injEq] at hi
        split at hi
        · subst hi; exact ok_alc h hz ho (hus rfl) (hdd hdst)
        · subst hi; exact ok_alh h hz ho us d
      · cases hi
    · cases hi
  case box el x =>
    split at hi
    · rename_i dd xa s hdst hx hs
      simp only [Option.some.injEq] at hi
      split at hi
      · subst hi; exact ok_box h hx ho (hus rfl) (hdd hdst)
      · subst hi; exact ok_bxh h hx ho us d
    · cases hi
  case build t ps =>
    split at hi
    · rename_i z s fs hz hs hu
      split at hi
      · rename_i pl hpl
        split at hi
        · cases hm : allSome (partS pl) ps.toList with
          | none => simp only [hm, Option.map_none, reduceCtorEq] at hi
          | some ms =>
            simp only [hm, Option.map_some, Option.some.injEq] at hi; subst hi
            refine ok_bld h (place := (pl.toArray[·]?)) hz (fun i x o n xa hx => ?_) hm (fun i zv l cells hinfo hzv hf => ?_) ho us d
            · unfold partS at hx
              split at hx
              · rename_i h1 h2
                simp only [Option.some.injEq, Prod.mk.injEq] at hx
                obtain ⟨rfl, rfl, rfl⟩ := hx
                exact ⟨by simpa using h1, h2⟩
              · cases hx
            · unfold Program.built
              simp only [hinfo, hu, hzv, hpl]
              exact hf
        · cases hi
      · cases hi
    · rename_i z s k el hz hs hu
      split at hi
      · split at hi
        · rename_i n hn
          cases hm : allSome (partA n) ps.toList with
          | none => simp only [hm, Option.map_none, reduceCtorEq] at hi
          | some ms =>
            simp only [hm, Option.map_some, Option.some.injEq] at hi; subst hi
            obtain ⟨ie, hie, hien⟩ := size_info hn
            refine ok_bld h (place := fun i => some (i * n, n)) hz (fun i x o m xa hx => ?_) hm (fun i zv l cells hinfo hzv hf => ?_) ho us d
            · unfold partA at hx
              cases hc : cA x with
              | none => simp [hc] at hx
              | some y => simp only [hc, Option.map_some, Option.some.injEq, Prod.mk.injEq] at hx; obtain ⟨rfl, rfl, rfl⟩ := hx; exact ⟨rfl, rfl⟩
            · unfold Program.built
              simp only [hinfo, hu, hzv, hie, hien]
              exact hf
        · cases hi
      · cases hi
    · cases hi
  case buildSlice t n ps =>
    split at hi
    · rename_i el hel
      have hu : e.P.underlying t = some (.slice el) := by
        unfold Ev.elemOf at hel
        split at hel <;> simp_all
      split at hi
      · rename_i s z ms ts dd hs hz hm hts hdst
        split at hi
        · rename_i hcond
          obtain ⟨c1, c2, c3, c4⟩ := hcond
          simp only [Option.some.injEq] at hi
          split at hi
          · subst hi; exact ok_bsl h hu hs hz hm c1 c2 c3 ho us d
          · subst hi; exact ok_bsv h hu hs hz hm c1 c2 c3 ho us d
        · cases hi
      · cases hi
    · cases hi
  case load t a =>
    split at hi
    · rename_i hs hg ha
      simp only [Option.some.injEq] at hi; subst hi
      exact ok_ld h hs hg ha ho us d
    · cases hi
  case store t a x =>
    split at hi
    · rename_i hs ha hx
      simp only [Option.some.injEq] at hi; subst hi
      exact ok_sto h hs ha hx ho us d
    · cases hi
  case nilCheck x =>
    cases hx : cA x <;> simp only [hx, Option.map_none, Option.map_some, reduceCtorEq, Option.some.injEq] at hi
    subst hi; exact ok_nck h hx ho us hd
  case binOp op t x y yt =>
    split at hi
    · rename_i hx hy
      split at hi
      · rename_i hop
        cases hq : qkOf e.P t <;> simp only [hq, Option.map_none, Option.map_some, reduceCtorEq, Option.some.injEq] at hi
        subst hi
        exact ok_bin h (fun _ => hq) hx hy ho us d
      · rename_i hop
        simp only [Option.some.injEq] at hi; subst hi
        exact ok_bin h (fun q => absurd q hop) hx hy ho us d
    · cases hi
  case unOp op t x =>
    cases hx : cA x <;> simp only [hx, Option.map_none, Option.map_some, reduceCtorEq, Option.some.injEq] at hi
    subst hi; exact ok_un h hx ho us d
  case convert s t x =>
    split at hi
    · split at hi
      · rename_i c xa hc hx
        simp only [Option.some.injEq] at hi; subst hi
        exact ok_cnv h hc hx ho us d
      · rename_i xa _ hx
        split at hi
        · rename_i hst
          subst hst
          split at hi
          · rename_i el hu
            split at hi
            · rename_i hby
              simp only [Option.some.injEq] at hi; subst hi
              exact ok_mrk h hu hby hx ho us d
            · cases hi
          · cases hi
        · cases hi
      · cases hi
    · cases hi
  case makeInterface t x =>
    split at hi
    · cases hi
    · rename_i dd xa hne hu hx
      simp only [Option.some.injEq] at hi; subst hi
      exact ok_mki h hu (fun m q => hne m q) hx ho us d
    · cases hi
  case makeFunc f first cap =>
    cases f <;> simp only [reduceCtorEq] at hi
    split at hi
    · rename_i ha hb
      simp only [Option.some.injEq] at hi; subst hi
      exact ok_mkf h ha hb ho us d
    · cases hi
  case makeSlice t l c =>
    split at hi
    · rename_i el hel
      have hu : e.P.underlying t = some (.slice el) := by
        unfold Ev.elemOf at hel
        split at hel <;> simp_all
      split at hi
      · rename_i s z b xa ya hs hz hb hx hy
        split at hi
        · rename_i hcond
          simp only [Option.some.injEq] at hi; subst hi
          exact ok_mks h hu hs hz hb hcond.1 hcond.2 hx hy ho us d
        · cases hi
      · cases hi
    · cases hi
  case slice t x lo hh mx =>
    cases mx <;> simp only [reduceCtorEq] at hi
    split at hi
    · rename_i xa la ha hx hl hh'
      have hl' : cOpt lo = some la := by cases lo <;> exact hl
      have hh'' : cOpt hh = some ha := by cases hh <;> exact hh'
      split at hi
      · rename_i hu
        simp only [Option.some.injEq] at hi; subst hi
        exact ok_slc h (s := true) (by simpa using hu) hx hl' hh'' ho us d
      · rename_i el hu
        cases hs : Ev.size e.P el <;> simp only [hs, Option.map_none, Option.map_some, reduceCtorEq, Option.some.injEq] at hi
        subst hi
        exact ok_slc h (s := false) (by simpa using ⟨el, hu, hs⟩) hx hl' hh'' ho us d
      · cases hi
    · cases hi
  case fieldAddr s a k =>
    split at hi
    · rename_i f xa hf hx
      split at hi
      · rename_i n hn
        split at hi
        · cases hi
        · rename_i h0
          simp only [Option.some.injEq] at hi; subst hi
          exact ok_fad h hf hn h0 hx ho us hd
      · cases hi
    · cases hi
  case field s x k =>
    split at hi
    · rename_i f xa hf hx
      split at hi
      · rename_i n g hn hg
        simp only [Option.some.injEq] at hi; subst hi
        exact ok_fld h hf hn hg hx ho us d
      · cases hi
    · cases hi
  case indexAddr t x k =>
    split at hi
    · rename_i el xa ia hu hx hk
      cases hs : Ev.size e.P el <;> simp only [hs, Option.map_none, Option.map_some, reduceCtorEq, Option.some.injEq] at hi
      subst hi
      exact ok_ias h hu hs hx hk ho us d
    · rename_i n el xa ia hu hx hk
      cases hs : Ev.size e.P el <;> simp only [hs, Option.map_none, Option.map_some, reduceCtorEq, Option.some.injEq] at hi
      subst hi
      exact ok_iaa h hu hs hx hk ho us hd
    · cases hi
  case index t x k =>
    split at hi
    · rename_i xa ia hu hx hk
      simp only [Option.some.injEq] at hi; subst hi
      exact ok_ixs h hu hx hk ho us d
    · rename_i n el xa ia hu hx hk
      split at hi
      · rename_i s g hs hg
        simp only [Option.some.injEq] at hi; subst hi
        exact ok_ixa h hu hs hg hx hk ho us d
      · cases hi
    · cases hi
  case makeMap t hint =>
    cases hint <;> simp only [reduceCtorEq] at hi
    split at hi
    · simp only [Option.some.injEq] at hi; subst hi; exact ok_mmk h ho us d
    · cases hi
  case lookup t x k ok =>
    split at hi
    · rename_i key el xa ia hu hx hk
      split at hi
      · rename_i hm
        split at hi
        · rename_i z hz
          simp only [Option.some.injEq] at hi; subst hi
          exact ok_mlk h hm hu hz hx hk ho us d
        · cases hi
      · cases hi
    · cases hi
  case mapUpdate t x k y =>
    split at hi
    · rename_i xa ia va hx hk hv
      split at hi
      · rename_i hm
        simp only [Option.some.injEq] at hi; subst hi
        exact ok_mup h hm hx hk hv ho us d
      · cases hi
    · cases hi
  case extract x k =>
    cases hx : cA x <;> simp only [hx, Option.map_none, Option.map_some, reduceCtorEq, Option.some.injEq] at hi
    subst hi; exact ok_ext h hx ho us d
  case panic x =>
    cases hx : cA x <;> simp only [hx, Option.map_none, Option.map_some, reduceCtorEq, Option.some.injEq] at hi
    subst hi; cases hnc
  case call c =>
    split at hi
    · rename_i f xs hcal ha
      split at hi
      · rename_i hix
        split at hi
        · simp only [Option.some.injEq] at hi; subst hi
          exact ok_ixb h hix hcal ha ho us d
        · cases hi
      · simp only [Option.some.injEq] at hi; subst hi; cases hnc
    · rename_i f xs _ _ _
      cases hf : cA f <;> simp only [hf, Option.map_none, Option.map_some, reduceCtorEq, Option.some.injEq] at hi
      subst hi; cases hnc
    · rename_i b xs hb ha
      split at hi
      · rename_i xa
        split at hi
        · rename_i n el hu
          simp only [Option.some.injEq] at hi; subst hi
          obtain ⟨x, hargs, hx⟩ := args1 ha
          cases ht : c.argTypes[0]? with
          | none => simp [ht] at hu
          | some t =>
            have hu' : e.P.underlying t = some (.array n el) := by simpa [ht] using hu
            exact Res.val h (cv := goInt n) (run_builtin ho hb (by simp [Go.builtin, hargs, Builtin.len_, ht, run_underlying hu'])) (.c _ _ (.it _ _)) rfl
        · rename_i ar hu
          split at hi
          · rename_i n el hu2
            simp only [Option.some.injEq] at hi; subst hi
            obtain ⟨x, hargs, hx⟩ := args1 ha
            cases ht : c.argTypes[0]? with
            | none => simp [ht] at hu
            | some t =>
              have hu' : e.P.underlying t = some (.pointer ar) := by simpa [ht] using hu
              exact Res.val h (cv := goInt n) (run_builtin ho hb (by simp [Go.builtin, hargs, Builtin.len_, ht, run_underlying hu', run_underlying hu2])) (.c _ _ (.it _ _)) rfl
          · cases hi
        · rename_i hu
          simp only [Option.some.injEq] at hi; subst hi
          cases ht : c.argTypes[0]? with
          | none => simp [ht] at hu
          | some t => exact ok_len h ha ho hb ht (by simpa [ht] using hu) us d
        · rename_i el hu
          simp only [Option.some.injEq] at hi; subst hi
          cases ht : c.argTypes[0]? with
          | none => simp [ht] at hu
          | some t => exact ok_len h ha ho hb ht (by simpa [ht] using ⟨el, by simpa [ht] using hu⟩) us d
        · cases hi
      · rename_i xa ya
        obtain ⟨x, y, hargs, hx, hy⟩ := args2 ha
        split at hi
        · rename_i t tx htys
          have htys' : c.argTypes = #[t, tx] := by apply Array.ext'; simpa using htys
          split at hi
          · rename_i el u hu hux
            split at hi
            · rename_i s b z hs hbb hz
              split at hi
              · rename_i hcond
                obtain ⟨c1, c2, c3⟩ := hcond
                split at hi
                · simp only [Option.some.injEq] at hi; subst hi
                  exact ok_app h hargs htys' ho hb hu (.inl ⟨_, hux⟩) hs hbb hz c1 c2 c3 hx hy us d
                · simp only [Option.some.injEq] at hi; subst hi
                  exact ok_app h hargs htys' ho hb hu (.inr hux) hs hbb hz c1 c2 c3 hx hy us d
                · split at hi
                  · rename_i hq
                    obtain ⟨_, rfl, rfl, q4⟩ := hq
                    simp only [Option.some.injEq] at hi; subst hi
                    exact ok_apz h hargs htys' ho hb hu hux hs hbb q4 hx hy us d
                  · cases hi
                · cases hi
              · cases hi
            · cases hi
          · cases hi
        · cases hi
      · rename_i xa ya
        obtain ⟨x, y, hargs, hx, hy⟩ := args2 ha
        split at hi
        · rename_i t tx htys
          have htys' : c.argTypes = #[t, tx] := by apply Array.ext'; simpa using htys
          split at hi
          · rename_i el u hu hux
            split at hi
            · rename_i s hs
              split at hi
              · rename_i hsz
                split at hi
                · simp only [Option.some.injEq] at hi; subst hi
                  exact ok_cpy h hargs htys' ho hb hu hs hsz hx hy us d
                · simp only [Option.some.injEq] at hi; subst hi
                  exact ok_cpy h hargs htys' ho hb hu hs hsz hx hy us d
                · cases hi
              · cases hi
            · cases hi
          · cases hi
        · cases hi
      · simp only [Option.some.injEq] at hi; subst hi
        exact ok_mnx h (mx := false) ha ho hb us d
      · simp only [Option.some.injEq] at hi; subst hi
        exact ok_mnx h (mx := true) ha ho hb us d
      · cases hi
    · cases hi
end
end Ev

namespace Ev
open Go

abbrev FF := (V → St → D) → (V → St → D) → D

/-- one piece of a run at two states: it fails, or gives one value at both and changes neither -/
def EO (call : Call) (L : Nat) (st st' : St) (F F' : FF) : Prop :=
  Bad call L F ∨ ∃ v, (∀ k kp, run call L (F k kp) = run call L (k v st)) ∧ (∀ k kp, run call L (F' k kp) = run call L (k v st'))

section
variable {call : Call} {L : Nat} {st st' : St}

theorem EO.bad {F F' : FF} (h : ∀ k kp, F k kp = .bad) : EO call L st st' F F' := .inl fun k kp => by rw [h]; rfl
theorem EO.val (v : V) : EO call L st st' (fun k _ => k v st) (fun k _ => k v st') := .inr ⟨v, fun _ _ => rfl, fun _ _ => rfl⟩
theorem EO.chk {b : Bool} {F F' : FF} (h : EO call L st st' F F') : EO call L st st' (fun k kp => .chk b (F k kp)) (fun k kp => .chk b (F' k kp)) := by
  cases b with
  | false => exact .inl fun k kp => by simp [run]
  | true =>
    rcases h with h | ⟨v, h, h'⟩
    · exact .inl fun k kp => by simp only [run, cond_true]; exact h k kp
    · exact .inr ⟨v, fun k kp => by simp only [run, cond_true]; exact h k kp, fun k kp => by simp only [run, cond_true]; exact h' k kp⟩
theorem EO.br {b : Bool} {F G F' G' : FF} (h : EO call L st st' F F') (h' : EO call L st st' G G') : EO call L st st' (fun k kp => .br b (F k kp) (G k kp)) (fun k kp => .br b (F' k kp) (G' k kp)) := by
  cases b with
  | false =>
    rcases h' with h | ⟨v, h, h'⟩
    · exact .inl fun k kp => by simp only [run, cond_false]; exact h k kp
    · exact .inr ⟨v, fun k kp => by simp only [run, cond_false]; exact h k kp, fun k kp => by simp only [run, cond_false]; exact h' k kp⟩
  | true =>
    rcases h with h | ⟨v, h, h'⟩
    · exact .inl fun k kp => by simp only [run, cond_true]; exact h k kp
    · exact .inr ⟨v, fun k kp => by simp only [run, cond_true]; exact h k kp, fun k kp => by simp only [run, cond_true]; exact h' k kp⟩
theorem EO.bif {b : Bool} {F G F' G' : FF} (h : b = true → EO call L st st' F F') (h' : b = false → EO call L st st' G G') : EO call L st st' (fun k kp => bif b then F k kp else G k kp) (fun k kp => bif b then F' k kp else G' k kp) := by
  cases b with
  | false => exact h' rfl
  | true => exact h rfl
theorem EO.oneD {α : Type} {o : Option α} {f f' : α → FF} (h : ∀ v, o = some v → EO call L st st' (f v) (f' v)) : EO call L st st' (fun k kp => Ev.oneD o fun v => f v k kp) (fun k kp => Ev.oneD o fun v => f' v k kp) := by
  cases o with
  | none => exact .bad fun k kp => rfl
  | some v => exact h v rfl
theorem EO.notLp {v : V} : EO call L st st' (fun k _ => notLpD v fun v => k v st) (fun k _ => notLpD v fun v => k v st') := by
  cases v <;> first | exact .bad fun k kp => rfl | exact .val _
theorem EO.nat {v : V} {f f' : Nat → FF} (h : ∀ n, EO call L st st' (f n) (f' n)) : EO call L st st' (fun k kp => natD v fun v => f v k kp) (fun k kp => natD v fun v => f' v k kp) := by
  cases v <;> first | exact .chk (h _) | exact .bad fun k kp => rfl
theorem EO.cut {n off : Nat} {cs : List V} {f f' : List V → FF} (h : ∀ cs, EO call L st st' (f cs) (f' cs)) : EO call L st st' (fun k kp => cutD n off cs fun v => f v k kp) (fun k kp => cutD n off cs fun v => f' v k kp) := .chk (h _)
theorem EO.move {clr : List Nat} {d off : Nat} {v : V} : EO call L st st' (fun k _ => moveD clr d off v fun v => k v st) (fun k _ => moveD clr d off v fun v => k v st') := by
  cases v with
  | pt => exact .val _
  | lp => exact .bif (F := fun k _ => k _ st) (F' := fun k _ => k _ st') (G := fun _ _ => .bad) (G' := fun _ _ => .bad) (fun _ => .val _) (fun _ => .bad fun _ _ => rfl)
  | ip => exact .chk (.val _)
  | _ => exact .bad fun _ _ => rfl

theorem EO.shift {op : BinOp} {k : IntKind} {a b : Int} : EO call L st st' (fun c _ => shiftD op k a b fun v => c v st) (fun c _ => shiftD op k a b fun v => c v st') := by
  cases op <;> exact .chk (.val _)
theorem EO.binI {op : BinOp} {k : IntKind} {a b : Int} : EO call L st st' (fun c _ => Ev.binI op k a b fun v => c v st) (fun c _ => Ev.binI op k a b fun v => c v st') := by
  cases op <;> first | exact .val _ | exact .chk (.val _) | exact .oneD (f := fun v c _ => c v st) (f' := fun v c _ => c v st') fun v _ => .val v | exact .bad fun _ _ => rfl
theorem EO.binS {op : BinOp} {a b : List Nat} : EO call L st st' (fun c _ => Ev.binS op a b fun v => c v st) (fun c _ => Ev.binS op a b fun v => c v st') := by
  cases op <;> first | exact .val _ | exact .chk (.val _) | exact .bad fun _ _ => rfl
theorem EO.bin {hp hp' : Hp} {q : Qk} {op : BinOp} {x y : V} : EO call L st st' (fun c _ => binD hp q op x y fun v => c v st) (fun c _ => binD hp' q op x y fun v => c v st') := by
  have gen : EO call L st st' (fun c _ => bif isEq op then Ev.oneD (eqv q x y) fun b => c (eqRes op b) st else .bad) (fun c _ => bif isEq op then Ev.oneD (eqv q x y) fun b => c (eqRes op b) st' else .bad) :=
    .bif (F := fun c _ => Ev.oneD (eqv q x y) fun b => c (eqRes op b) st) (F' := fun c _ => Ev.oneD (eqv q x y) fun b => c (eqRes op b) st') (G := fun _ _ => .bad) (G' := fun _ _ => .bad)
      (fun _ => .oneD (f := fun b c _ => c (eqRes op b) st) (f' := fun b c _ => c (eqRes op b) st') fun b _ => .val _) (fun _ => .bad fun _ _ => rfl)
  cases x with
  | it k a =>
    cases y with
    | it k' b =>
      exact .bif (F := fun c _ => shiftD op k a b fun v => c v st) (F' := fun c _ => shiftD op k a b fun v => c v st') (G := fun c _ => bif keq k k' then Ev.binI op k a b (fun v => c v st) else .bad) (G' := fun c _ => bif keq k k' then Ev.binI op k a b (fun v => c v st') else .bad)
        (fun _ => .shift) (fun _ => .bif (F := fun c _ => Ev.binI op k a b fun v => c v st) (F' := fun c _ => Ev.binI op k a b fun v => c v st') (G := fun _ _ => .bad) (G' := fun _ _ => .bad) (fun _ => .binI) (fun _ => .bad fun _ _ => rfl))
    | _ => exact .bad fun _ _ => rfl
  | st a =>
    cases y with
    | st b => exact .binS
    | _ => exact .bad fun _ _ => rfl
  | _ => exact gen

/-- the same at a place, in two states -/
def Same (st st' : St) (v : V) : Prop :=
  match v with
  | .lp t _ => st'.lo t = st.lo t
  | .pt id _ _ => ∀ bk, hget st.hp id = some bk → ∃ bk', hget st'.hp id = some bk' ∧ bk'.sz = bk.sz ∧ bk'.es = bk.es
  | .hs id _ _ => ∀ bk, hget st.hp id = some bk → ∃ bk', hget st'.hp id = some bk' ∧ bk'.sz = bk.sz ∧ bk'.es = bk.es
  | .mp id => ∀ bk, hget st.hp id = some bk → ∃ bk', hget st'.hp id = some bk' ∧ bk'.sz = bk.sz ∧ bk'.es = bk.es
  | _ => True

theorem EO.load {n : Nat} {v : V} (hs : Same st st' v) {f f' : List V → FF} (h : ∀ cs, EO call L st st' (f cs) (f' cs)) : EO call L st st' (fun k kp => loadD st n v fun cs => f cs k kp) (fun k kp => loadD st' n v fun cs => f' cs k kp) := by
  cases v with
  | ip cs => exact .cut h
  | lp t off =>
    have hs : st'.lo t = st.lo t := hs
    simp only [loadD, hs]
    cases st.lo t with
    | none => exact .bad fun _ _ => rfl
    | some cs => exact .cut h
  | pt id i off =>
    simp only [loadD]
    cases hg : hget st.hp id with
    | none => exact .bad fun _ _ => rfl
    | some bk =>
      obtain ⟨bk', h1, _, h3⟩ := hs bk hg
      simp only [h1, h3]
      exact .chk (.cut h)
  | _ => exact .bad fun _ _ => rfl

theorem EO.elems {n : Nat} {v : V} (hs : Same st st' v) {f f' : List (List V) → FF} (h : ∀ cs, EO call L st st' (f cs) (f' cs)) : EO call L st st' (fun k kp => elemsD st.hp n v fun cs => f cs k kp) (fun k kp => elemsD st'.hp n v fun cs => f' cs k kp) := by
  cases v with
  | ns => exact h []
  | vs m es => exact .bif (F := f es) (F' := f' es) (G := fun _ _ => .bad) (G' := fun _ _ => .bad) (fun _ => h es) (fun _ => .bad fun _ _ => rfl)
  | hs id i len =>
    simp only [elemsD]
    cases hg : hget st.hp id with
    | none => exact .bad fun _ _ => rfl
    | some bk =>
      obtain ⟨bk', h1, h2, h3⟩ := hs bk hg
      simp only [h1, h2, h3]
      exact .bif (F := fun k kp => .chk (Nat.ble (i + len) bk.es.length) (f ((bk.es.drop i).take len) k kp)) (F' := fun k kp => .chk (Nat.ble (i + len) bk.es.length) (f' ((bk.es.drop i).take len) k kp)) (G := fun _ _ => .bad) (G' := fun _ _ => .bad)
        (fun _ => .chk (h _)) (fun _ => .bad fun _ _ => rfl)
  | _ => exact .bad fun _ _ => rfl

theorem EO.szs {sz : Nat} {v : V} (hs : Same st st' v) {F F' : FF} (h : EO call L st st' F F') : EO call L st st' (fun k kp => szD st.hp sz v (F k kp)) (fun k kp => szD st'.hp sz v (F' k kp)) := by
  cases v with
  | vs n es => exact .bif (F := F) (F' := F') (G := fun _ _ => .bad) (G' := fun _ _ => .bad) (fun _ => h) (fun _ => .bad fun _ _ => rfl)
  | hs id i len =>
    simp only [szD]
    cases hg : hget st.hp id with
    | none => exact .bad fun _ _ => rfl
    | some bk =>
      obtain ⟨bk', h1, h2, h3⟩ := hs bk hg
      simp only [h1, h2]
      exact .bif (F := F) (F' := F') (G := fun _ _ => .bad) (G' := fun _ _ => .bad) (fun _ => h) (fun _ => .bad fun _ _ => rfl)
  | _ => exact h

theorem EO.bound {tm : Tm} {d : Nat} {a : Option A} {f f' : Nat → FF} (h : ∀ n, EO call L st st' (f n) (f' n)) : EO call L st st' (fun k kp => boundD tm d a fun n => f n k kp) (fun k kp => boundD tm d a fun n => f' n k kp) := by
  cases a with
  | none => exact h _
  | some a => exact .nat h

theorem get_eq {tm tm' : Tm} {x : A} (h : ∀ t, t ∈ slotsA x → tm' t = tm t) : get tm' x = get tm x := by
  cases x with
  | t n => exact h n (by simp [slotsA])
  | k v => rfl

theorem map_get_eq {tm tm' : Tm} {xs : List A} (h : ∀ t, t ∈ xs.flatMap slotsA → tm' t = tm t) : xs.map (get tm') = xs.map (get tm) := by
  apply List.map_congr_left
  intro x hx
  exact get_eq fun t ht => h t (List.mem_flatMap.2 ⟨x, hx, ht⟩)

theorem boundD_eq {tm tm' : Tm} {d : Nat} {a : Option A} (h : ∀ t, t ∈ slotsO a → tm' t = tm t) (k : Nat → D) : boundD tm' d a k = boundD tm d a k := by
  cases a with
  | none => rfl
  | some a => simp only [boundD, get_eq h]

/-- is it one of those that may be owed? -/
def I.easy (i : I) : Bool := match i.cl with
  | .p | .r => true
  | _ => false

theorem easy_frame {i : I} (hi : i.easy = true) {us us' clr : List Nat} {d : Nat} (hsl : ∀ t, t ∈ i.sl → st'.tm t = st.tm t) (hrd : ∀ x, x ∈ i.rdA → Same st st' (get st.tm x)) :
    EO call L st st' (i.den us clr d st) (i.den us' clr d st') := by
  show EO call L st st' (fun k kp => i.den us clr d st k kp) (fun k kp => i.den us' clr d st' k kp)
  have g1 : ∀ x : A, (∀ t, t ∈ slotsA x → t ∈ i.sl) → get st'.tm x = get st.tm x := fun x hx => get_eq fun t ht => hsl t (hx t ht)
  cases i with
  | mov x =>
    have e := g1 x (fun t ht => ht)
    simp only [I.den, iMov, e]; exact .notLp
  | pick c a b =>
    have e1 := g1 c (fun t ht => by simp [I.sl, ht])
    have e2 := g1 a (fun t ht => by simp [I.sl, ht])
    have e3 := g1 b (fun t ht => by simp [I.sl, ht])
    simp only [I.den, iPick, e1, e2, e3]
    cases get st.tm c <;> first | exact .br .notLp .notLp | exact .bad fun _ _ => rfl
  | bld z ps =>
    have e : (ps.map fun (o, n, a) => (o, n, get st'.tm a)) = ps.map fun (o, n, a) => (o, n, get st.tm a) := by
      apply List.map_congr_left
      rintro ⟨o, n, a⟩ hx
      simp only [g1 a (fun t ht => by simp only [I.sl, List.mem_flatMap]; exact ⟨_, hx, ht⟩)]
    simp only [I.den, iBld, e]
    exact .oneD (f := fun v k _ => k v st) (f' := fun v k _ => k v st') fun v _ => .val v
  | bsv ts sz es ps =>
    have e : (ps.map fun (i, a) => (i, get st'.tm a)) = ps.map fun (i, a) => (i, get st.tm a) := by
      apply List.map_congr_left
      rintro ⟨o, a⟩ hx
      simp only [g1 a (fun t ht => by simp only [I.sl, List.mem_flatMap]; exact ⟨_, hx, ht⟩)]
    simp only [I.den, iBsv, e]
    cases fillE sz (ps.map fun (i, a) => (i, get st.tm a)) es with
    | none => exact .bad fun _ _ => rfl
    | some es' =>
      simp only []
      cases closeEs depth ts es' h0 with
      | none => exact .bad fun _ _ => rfl
      | some q => exact .val _
  | ld n g a =>
    have e := g1 a (fun t ht => ht)
    simp only [I.den, iLd, e]
    exact .load (hrd a (by simp [I.rdA])) (f := fun cs k _ => Ev.oneD (pickC n g cs) fun v => k v st) (f' := fun cs k _ => Ev.oneD (pickC n g cs) fun v => k v st') fun cs => .oneD (f := fun v k _ => k v st) (f' := fun v k _ => k v st') fun v _ => .val v
  | nck x =>
    have e := g1 x (fun t ht => ht)
    simp only [I.den, iNck, e]; exact .move
  | bin q op x y =>
    have e1 := g1 x (fun t ht => by simp [I.sl, ht])
    have e2 := g1 y (fun t ht => by simp [I.sl, ht])
    simp only [I.den, iBin, e1, e2]; exact .bin
  | un op x =>
    have e := g1 x (fun t ht => ht)
    simp only [I.den, iUn, e]
    exact .oneD (f := fun v k _ => k v st) (f' := fun v k _ => k v st') fun v _ => .val v
  | cnv c x =>
    have e := g1 x (fun t ht => ht)
    simp only [I.den, iCnv, e]
    cases c with
    | b2s =>
      simp only [convD]
      exact .elems (hrd x (by simp [I.rdA])) (f := fun es k _ => Ev.oneD ((allSome unbyte es).map .st) fun v => k v st) (f' := fun es k _ => Ev.oneD ((allSome unbyte es).map .st) fun v => k v st') fun es => .oneD (f := fun v k _ => k v st) (f' := fun v k _ => k v st') fun v _ => .val v
    | s2b => cases hi
    | _ => cases get st.tm x <;> first | exact .val _ | exact .bad fun _ _ => rfl
  | ixb x y =>
    have e1 := g1 x (fun t ht => by simp [I.sl, ht])
    have e2 := g1 y (fun t ht => by simp [I.sl, ht])
    simp only [I.den, iIxb, e1, e2]
    cases get st.tm x with
    | st l =>
      simp only []
      cases get st.tm y with
      | it k n => cases k <;> first | exact .val _ | exact .bad fun _ _ => rfl
      | _ => exact .bad fun _ _ => rfl
    | _ => exact .bad fun _ _ => rfl
  | mlk ok z x i =>
    have e1 := g1 x (fun t ht => by simp [I.sl, ht])
    have e2 := g1 i (fun t ht => by simp [I.sl, ht])
    have hs := hrd x (by simp [I.rdA])
    simp only [I.den, iMlk, e1, e2]
    cases get st.tm i with
    | st l =>
      simp only []
      cases hx : get st.tm x with
      | mp id =>
        simp only []
        cases hg : hget st.hp id with
        | none => exact .bad fun _ _ => rfl
        | some b =>
          rw [hx] at hs
          obtain ⟨b', h1, _, h3⟩ := hs b hg
          simp only [h1, mgetD, h3]
          cases mapGet l b.es with
          | none => cases ok <;> exact .val _
          | some u => cases ok <;> exact .val _
      | nm => cases ok <;> exact .val _
      | _ => exact .bad fun _ _ => rfl
    | _ => exact .bad fun _ _ => rfl
  | mki t x =>
    have e := g1 x (fun t ht => ht)
    simp only [I.den, iMki, e]
    cases get st.tm x <;> first | exact .bad fun _ _ => rfl | exact .val _
  | mkf f a b =>
    have e1 : a.map (get st'.tm) = a.map (get st.tm) := map_get_eq fun t ht => hsl t (by simp only [I.sl, List.mem_append]; exact .inl ht)
    have e2 : b.map (get st'.tm) = b.map (get st.tm) := map_get_eq fun t ht => hsl t (by simp only [I.sl, List.mem_append]; exact .inr ht)
    simp only [I.den, iMkf, e1, e2]
    cases (a.map (get st.tm)).any isLp with
    | true => exact .bad fun _ _ => rfl
    | false => cases (b.map (get st.tm)).any isLp with
      | true => exact .bad fun _ _ => rfl
      | false => exact .val _
  | slc b s x lo hi' =>
    have e := g1 x (fun t ht => by simp [I.sl, ht])
    have e1 : ∀ d k, boundD st'.tm d lo k = boundD st.tm d lo k := fun d k => boundD_eq (fun t ht => hsl t (by simp [I.sl, ht])) k
    have e2 : ∀ d k, boundD st'.tm d hi' k = boundD st.tm d hi' k := fun d k => boundD_eq (fun t ht => hsl t (by simp [I.sl, ht])) k
    simp only [I.den, iSlc, e, e1, e2]
    refine .szs (hrd x (by simp [I.rdA])) ?_
    exact .oneD (f := fun n k _ => boundD st.tm 0 lo fun l => boundD st.tm n hi' fun h => .chk (Nat.ble l h) (.chk (Nat.ble h n) (Ev.oneD (sliceV (get st.tm x) l h) fun v => k v st)))
        (f' := fun n k _ => boundD st.tm 0 lo fun l => boundD st.tm n hi' fun h => .chk (Nat.ble l h) (.chk (Nat.ble h n) (Ev.oneD (sliceV (get st.tm x) l h) fun v => k v st'))) fun n _ =>
        .bound (f := fun l k _ => boundD st.tm n hi' fun h => .chk (Nat.ble l h) (.chk (Nat.ble h n) (Ev.oneD (sliceV (get st.tm x) l h) fun v => k v st)))
          (f' := fun l k _ => boundD st.tm n hi' fun h => .chk (Nat.ble l h) (.chk (Nat.ble h n) (Ev.oneD (sliceV (get st.tm x) l h) fun v => k v st'))) fun l =>
          .bound (f := fun h k _ => .chk (Nat.ble l h) (.chk (Nat.ble h n) (Ev.oneD (sliceV (get st.tm x) l h) fun v => k v st))) (f' := fun h k _ => .chk (Nat.ble l h) (.chk (Nat.ble h n) (Ev.oneD (sliceV (get st.tm x) l h) fun v => k v st'))) fun h =>
            .chk (.chk (.oneD (f := fun v k _ => k v st) (f' := fun v k _ => k v st') fun v _ => .val v))
  | fad o a =>
    have e := g1 a (fun t ht => ht)
    simp only [I.den, iFad, e]; exact .move
  | fld o n g x =>
    have e := g1 x (fun t ht => ht)
    simp only [I.den, iFld, e]
    cases get st.tm x with
    | ag cs => exact .cut (f := fun cs k _ => Ev.oneD (pickC n g cs) fun v => k v st) (f' := fun cs k _ => Ev.oneD (pickC n g cs) fun v => k v st') fun cs => .oneD (f := fun v k _ => k v st) (f' := fun v k _ => k v st') fun v _ => .val v
    | _ => exact .bad fun _ _ => rfl
  | ias sz x y =>
    have e1 := g1 x (fun t ht => by simp [I.sl, ht])
    have e2 := g1 y (fun t ht => by simp [I.sl, ht])
    have hs := hrd x (by simp [I.rdA])
    simp only [I.den, iIas, e1, e2]
    refine .nat (f := fun i k _ => match get st.tm x with
      | .vs n es => bif Nat.beq n sz then .chk (Nat.blt i es.length) (k (.ip (es.getD i [])) st) else .bad
      | .hs id i0 len => match hget st.hp id with
        | some b => bif Nat.beq b.sz sz then .chk (Nat.blt i len) (k (.pt id (i0 + i) 0) st) else .bad
        | none => .bad
      | _ => .bad) (f' := fun i k _ => match get st.tm x with
      | .vs n es => bif Nat.beq n sz then .chk (Nat.blt i es.length) (k (.ip (es.getD i [])) st') else .bad
      | .hs id i0 len => match hget st'.hp id with
        | some b => bif Nat.beq b.sz sz then .chk (Nat.blt i len) (k (.pt id (i0 + i) 0) st') else .bad
        | none => .bad
      | _ => .bad) fun i => ?_
    cases hx : get st.tm x with
    | vs n es =>
      exact .bif (F := fun k _ => .chk (Nat.blt i es.length) (k (.ip (es.getD i [])) st)) (F' := fun k _ => .chk (Nat.blt i es.length) (k (.ip (es.getD i [])) st')) (G := fun _ _ => .bad) (G' := fun _ _ => .bad) (fun _ => .chk (.val _)) (fun _ => .bad fun _ _ => rfl)
    | hs id i0 len =>
      rw [hx] at hs
      simp only []
      cases hg : hget st.hp id with
      | none => exact .bad fun _ _ => rfl
      | some bk =>
        obtain ⟨bk', h1, h2, h3⟩ := hs bk hg
        simp only [h1, h2]
        exact .bif (F := fun k _ => .chk (Nat.blt i len) (k (.pt id (i0 + i) 0) st)) (F' := fun k _ => .chk (Nat.blt i len) (k (.pt id (i0 + i) 0) st')) (G := fun _ _ => .bad) (G' := fun _ _ => .bad) (fun _ => .chk (.val _)) (fun _ => .bad fun _ _ => rfl)
    | _ => exact .bad fun _ _ => rfl
  | iaa n s a y =>
    have e1 := g1 a (fun t ht => by simp [I.sl, ht])
    have e2 := g1 y (fun t ht => by simp [I.sl, ht])
    simp only [I.den, iIaa, e1, e2]
    exact .nat (f := fun i k _ => .chk (Nat.blt i n) (moveD clr d (i * s) (get st.tm a) fun v => k v st)) (f' := fun i k _ => .chk (Nat.blt i n) (moveD clr d (i * s) (get st.tm a) fun v => k v st')) fun i => .chk .move
  | ixs x y =>
    have e1 := g1 x (fun t ht => by simp [I.sl, ht])
    have e2 := g1 y (fun t ht => by simp [I.sl, ht])
    simp only [I.den, iIxs, e1, e2]
    refine .nat (f := fun i k _ => match get st.tm x with
      | .st s => .chk (Nat.blt i s.length) (k (byte (s.getD i 0)) st)
      | _ => .bad) (f' := fun i k _ => match get st.tm x with
      | .st s => .chk (Nat.blt i s.length) (k (byte (s.getD i 0)) st')
      | _ => .bad) fun i => ?_
    cases get st.tm x <;> first | exact .chk (.val _) | exact .bad fun _ _ => rfl
  | ixa n s g x y =>
    have e1 := g1 x (fun t ht => by simp [I.sl, ht])
    have e2 := g1 y (fun t ht => by simp [I.sl, ht])
    simp only [I.den, iIxa, e1, e2]
    refine .nat (f := fun i k _ => match get st.tm x with
      | .ag cs => .chk (Nat.blt i n) (cutD s (i * s) cs fun cs => Ev.oneD (pickC s g cs) fun v => k v st)
      | _ => .bad) (f' := fun i k _ => match get st.tm x with
      | .ag cs => .chk (Nat.blt i n) (cutD s (i * s) cs fun cs => Ev.oneD (pickC s g cs) fun v => k v st')
      | _ => .bad) fun i => ?_
    cases get st.tm x with
    | ag cs => exact .chk (.cut (f := fun cs k _ => Ev.oneD (pickC s g cs) fun v => k v st) (f' := fun cs k _ => Ev.oneD (pickC s g cs) fun v => k v st') fun cs => .oneD (f := fun v k _ => k v st) (f' := fun v k _ => k v st') fun v _ => .val v)
    | _ => exact .bad fun _ _ => rfl
  | ext x n =>
    have e := g1 x (fun t ht => ht)
    simp only [I.den, iExt, e]
    cases get st.tm x with
    | tu xs => exact .oneD (f := fun v k _ => notLpD v fun v => k v st) (f' := fun v k _ => notLpD v fun v => k v st') fun v _ => .notLp
    | _ => exact .bad fun _ _ => rfl
  | len s x =>
    have e := g1 x (fun t ht => ht)
    simp only [I.den, iLen, e]
    exact .oneD (f := fun n k _ => k (i64 (.ofNat n)) st) (f' := fun n k _ => k (i64 (.ofNat n)) st') fun n _ => .val _
  | mnx m x y =>
    have e1 := g1 x (fun t ht => by simp [I.sl, ht])
    have e2 := g1 y (fun t ht => by simp [I.sl, ht])
    simp only [I.den, iMnx, e1, e2]
    exact .oneD (f := fun v k _ => k v st) (f' := fun v k _ => k v st') fun v _ => .val v
  | call o md f xs => cases md <;> cases hi
  | calv fs f xs => cases fs <;> cases hi
  | _ => cases hi

end
end Ev

namespace Ev
open Go

/-- one piece of a run with other slots: it fails, or does the same -/
def GO (call : Call) (L : Nat) (tm : Tm) (F F' : FF) : Prop :=
  Bad call L F ∨ ∀ k kp, run call L (F k kp) = run call L (F' (fun v s => k v ⟨tm, s.lo, s.hp⟩) (fun v s => kp v ⟨tm, s.lo, s.hp⟩))

theorem same_refl {st st' : St} (hl : st'.lo = st.lo) (hh : st'.hp = st.hp) (v : V) : Same st st' v := by
  cases v <;> simp only [Same, hl, hh] <;> exact fun bk h => ⟨bk, h, rfl, rfl⟩

theorem fresh_sub {us us' : List Nat} {tm tm' : Tm} (h : ∀ t, t ∈ us' → t ∈ us ∧ (tm' t = tm t ∨ tm' t = .un)) {d : Nat} (hf : fresh us tm d = true) : fresh us' tm' d = true := by
  induction us' with
  | nil => rfl
  | cons a r ih =>
    have ih' := ih fun t ht => h t (.tail _ ht)
    obtain ⟨h1, h2⟩ := h a (by simp)
    simp only [fresh]
    rcases h2 with h2 | h2
    · rw [h2]
      have := fresh_ne hf h1
      cases hv : tm a with
      | lp e off =>
        have hne : e ≠ d := fun q => this off (by rw [hv, q])
        simp only [beqF hne, cond_false]; exact ih'
      | _ => exact ih'
    · rw [h2]; exact ih'

theorem freshH_ne {us : List Nat} {tm : Tm} {id : Nat} (h : freshH us tm id = true) {t : Nat} (ht : t ∈ us) : (∀ i off, tm t ≠ .pt id i off) ∧ (∀ i len, tm t ≠ .hs id i len) ∧ tm t ≠ .mp id := by
  induction us with
  | nil => cases ht
  | cons a r ih =>
    simp only [freshH] at h
    rcases List.mem_cons.1 ht with rfl | ht
    · refine ⟨fun i off e => ?_, fun i off e => ?_, fun e => ?_⟩ <;> simp [e] at h
    · refine ih ?_ ht
      split at h
      · rename_i e' i' o' _
        cases hb : Nat.beq e' id with
        | true => simp [hb] at h
        | false => simpa [hb] using h
      · rename_i e' i' o' _
        cases hb : Nat.beq e' id with
        | true => simp [hb] at h
        | false => simpa [hb] using h
      · rename_i e' _
        cases hb : Nat.beq e' id with
        | true => simp [hb] at h
        | false => simpa [hb] using h
      · exact h

theorem freshH_sub {us us' : List Nat} {tm tm' : Tm} (h : ∀ t, t ∈ us' → t ∈ us ∧ (tm' t = tm t ∨ tm' t = .un)) {id : Nat} (hf : freshH us tm id = true) : freshH us' tm' id = true := by
  induction us' with
  | nil => rfl
  | cons a r ih =>
    have ih' := ih fun t ht => h t (.tail _ ht)
    obtain ⟨h1, h2⟩ := h a (by simp)
    simp only [freshH]
    rcases h2 with h2 | h2
    · rw [h2]
      obtain ⟨n1, n2, n3⟩ := freshH_ne hf h1
      cases hv : tm a with
      | mp e =>
        have hne : e ≠ id := fun q => n3 (by rw [hv, q])
        simp only [beqF hne, cond_false]; exact ih'
      | pt e i off =>
        have hne : e ≠ id := fun q => n1 i off (by rw [hv, q])
        simp only [beqF hne, cond_false]; exact ih'
      | hs e i off =>
        have hne : e ≠ id := fun q => n2 i off (by rw [hv, q])
        simp only [beqF hne, cond_false]; exact ih'
      | _ => exact ih'
    · rw [h2]; exact ih'

section
variable {call : Call} {L : Nat} {tm tm' : Tm} {lo : Lo} {hp : Hp}

theorem GO.bad {F F' : FF} (h : ∀ k kp, F k kp = .bad) : GO call L tm F F' := .inl fun k kp => by rw [h]; rfl
theorem GO.same {F F' : FF} (h : ∀ k kp, F k kp = F' (fun v s => k v ⟨tm, s.lo, s.hp⟩) (fun v s => kp v ⟨tm, s.lo, s.hp⟩)) : GO call L tm F F' := .inr fun k kp => by rw [h]

theorem elemsD_bad {sz : Nat} {v : V} : run call L (elemsD hp sz v fun _ => .bad) = .bad := by
  cases v <;> simp only [elemsD] <;> (try rfl)
  · rename_i n es; cases Nat.beq n sz <;> rfl
  · rename_i id i len
    cases hget hp id with
    | none => rfl
    | some b =>
      simp only []
      cases Nat.beq b.sz sz with
      | false => rfl
      | true => simp only [cond_true, run]; cases Nat.ble (i + len) b.es.length <;> rfl

theorem rowsD_bad {sz : Nat} {v : V} : run call L (rowsD hp sz v fun _ => .bad) = .bad := by
  have hel := elemsD_bad (call := call) (L := L) (hp := hp) (sz := sz) (v := v)
  cases v <;> first | exact hel | (simp only [rowsD]; cases Nat.beq sz 1 <;> rfl)

theorem app_key {us us' : List Nat} (hus : ∀ t, t ∈ us' → t ∈ us ∧ (tm' t = tm t ∨ tm' t = .un)) {s b : Nat} : ∀ v, (∀ (k : V → St → D) new, appendD us ⟨tm, lo, hp⟩ s b v new k = .bad) ∨ ∀ (k : V → St → D) new, appendD us ⟨tm, lo, hp⟩ s b v new k = appendD us' ⟨tm', lo, hp⟩ s b v new (fun v s => k v ⟨tm, s.lo, s.hp⟩) := by
  intro v
  cases v with
  | ns => exact .inr fun k new => by cases new <;> simp only [appendD, Ev.mk, St.setHp]
  | vs m es => exact .inr fun k new => by simp only [appendD]
  | hs id i n =>
    cases hg : hget hp id with
    | none => exact .inl fun k new => by simp only [appendD, hg]
    | some bk =>
      cases hf : freshH us tm id with
      | false => exact .inl fun k new => by simp only [appendD, hg, hf, cond_false]; cases bk.fr <;> cases Nat.blt id hp.lim <;> cases Nat.beq bk.sz s <;> rfl
      | true => exact .inr fun k new => by simp only [appendD, hg, hf, freshH_sub hus hf, cond_true, St.setHp]
  | _ => exact .inl fun k new => rfl

theorem frame {i : I} {us us' clr : List Nat} {d : Nat} (hsl : ∀ t, t ∈ i.sl → tm' t = tm t) (hus : ∀ t, t ∈ us' → t ∈ us ∧ (tm' t = tm t ∨ tm' t = .un)) :
    GO call L tm (i.den us clr d ⟨tm, lo, hp⟩) (i.den us' clr d ⟨tm', lo, hp⟩) := by
  have g1 : ∀ x : A, (∀ t, t ∈ slotsA x → t ∈ i.sl) → get tm' x = get tm x := fun x hx => get_eq fun t ht => hsl t (hx t ht)
  by_cases he : i.easy = true
  · rcases easy_frame (call := call) (L := L) (st := ⟨tm, lo, hp⟩) (st' := ⟨tm', lo, hp⟩) (us := us) (us' := us') (clr := clr) (d := d) he hsl (fun x _ => same_refl rfl rfl _) with h | ⟨v, h, h'⟩
    · exact .inl h
    · exact .inr fun k kp => by rw [h, h']
  · show GO call L tm (fun k kp => i.den us clr d ⟨tm, lo, hp⟩ k kp) (fun k kp => i.den us' clr d ⟨tm', lo, hp⟩ k kp)
    cases i with
    | alc z =>
      cases hf : fresh us tm d with
      | false => exact .bad fun k kp => by simp only [I.den, iAlc, hf, cond_false]
      | true => exact .same fun k kp => by simp only [I.den, iAlc, hf, fresh_sub hus hf, cond_true, St.setLo]
    | alh z => exact .same fun k kp => by simp only [I.den, iAlh, Ev.mk, St.setHp]
    | box x =>
      have e := g1 x (fun t ht => ht)
      cases hf : fresh us tm d with
      | false => exact .bad fun k kp => by simp only [I.den, iBox, hf, cond_false]; cases (get tm x).cells.all V.keep <;> rfl
      | true => exact .same fun k kp => by simp only [I.den, iBox, e, hf, fresh_sub hus hf, cond_true, St.setLo]
    | bxh x =>
      have e := g1 x (fun t ht => ht)
      exact .same fun k kp => by simp only [I.den, iBxh, e, Ev.mk, St.setHp]
    | bsl sz es ps =>
      have e : (ps.map fun (i, a) => (i, get tm' a)) = ps.map fun (i, a) => (i, get tm a) := by
        apply List.map_congr_left
        rintro ⟨o, a⟩ hx
        simp only [g1 a (fun t ht => by simp only [I.sl, List.mem_flatMap]; exact ⟨_, hx, ht⟩)]
      exact .same fun k kp => by
        simp only [I.den, iBsl, e]
        cases fillE sz (ps.map fun (i, a) => (i, get tm a)) es <;> simp only [Ev.mk, St.setHp]
    | sto n a x =>
      have e1 := g1 a (fun t ht => by simp [I.sl, ht])
      have e2 := g1 x (fun t ht => by simp [I.sl, ht])
      have key : ∀ xs v, (∀ k : V → St → D, storeD us ⟨tm, lo, hp⟩ xs v (fun s => k .un s) = .bad) ∨ ∀ k : V → St → D, storeD us ⟨tm, lo, hp⟩ xs v (fun s => k .un s) = storeD us' ⟨tm', lo, hp⟩ xs v (fun s => k .un ⟨tm, s.lo, s.hp⟩) := by
        intro xs v
        cases v with
        | lp t off =>
          cases hl : lo t with
          | none => exact .inl fun k => by simp only [storeD, hl]
          | some cs =>
            cases hf : fresh us tm t with
            | false => exact .inl fun k => by simp only [storeD, hl, hf, cond_false]
            | true => exact .inr fun k => by simp only [storeD, hl, hf, fresh_sub hus hf, cond_true, St.setLo]
        | pt id j off =>
          cases hg : hget hp id with
          | none => exact .inl fun k => by simp only [storeD, hg]
          | some b =>
            cases hf : freshH us tm id with
            | false => exact .inl fun k => by simp only [storeD, hg, hf, cond_false]; cases b.fr <;> cases Nat.blt id hp.lim <;> rfl
            | true => exact .inr fun k => by simp only [storeD, hg, hf, freshH_sub hus hf, cond_true, St.setHp]
        | _ => exact .inl fun k => rfl
      rcases key (get tm x).cells (get tm a) with h | h
      · exact .bad fun k kp => by
          simp only [I.den, iSto, h]
          cases Nat.beq (get tm x).cells.length n <;> cases (get tm x).cells.all V.keep <;> rfl
      · exact .same fun k kp => by simp only [I.den, iSto, e1, e2, h]
    | cnv c x =>
      have e := g1 x (fun t ht => ht)
      cases c with
      | s2b => exact .same fun k kp => by
                simp only [I.den, iCnv, e]
                cases get tm x <;> simp only [convD, Ev.mk, St.setHp]
      | _ => exact absurd rfl he
    | mks s b z l c =>
      have e1 := g1 l (fun t ht => by simp [I.sl, ht])
      have e2 := g1 c (fun t ht => by simp [I.sl, ht])
      exact .same fun k kp => by simp only [I.den, iMks, e1, e2, Ev.mk, St.setHp]
    | app s b x y =>
      have e1 := g1 x (fun t ht => by simp [I.sl, ht])
      have e2 := g1 y (fun t ht => by simp [I.sl, ht])
      have key := app_key (lo := lo) (hp := hp) hus (s := s) (b := b)
      rcases key (get tm x) with h | h
      · refine .inl fun k kp => ?_
        simp only [I.den, iApp, h]
        exact rowsD_bad
      · exact .same fun k kp => by simp only [I.den, iApp, e1, e2, h]
    | apz x n =>
      have e1 := g1 x (fun t ht => by simp [I.sl, ht])
      have e2 := g1 n (fun t ht => by simp [I.sl, ht])
      have key : ∀ v, (∀ (k : V → St → D) new, appendD us ⟨tm, lo, hp⟩ 1 1 v new k = .bad) ∨ ∀ (k : V → St → D) new, appendD us ⟨tm, lo, hp⟩ 1 1 v new k = appendD us' ⟨tm', lo, hp⟩ 1 1 v new (fun v s => k v ⟨tm, s.lo, s.hp⟩) := app_key hus
      rcases key (get tm x) with h | h
      · refine .inl fun k kp => ?_
        simp only [I.den, iApz, h]
        cases get tm n with
        | it kk z =>
          simp only [natD, run]
          cases (!(ilt z 0)) with
          | false => rfl
          | true =>
            simp only [cond_true]
            cases Nat.blt 0 z.toNat with
            | false => rfl
            | true =>
              simp only [cond_true]
              cases Nat.ble z.toNat maxB <;> rfl
        | _ => rfl
      · exact .same fun k kp => by simp only [I.den, iApz, e1, e2, h]
    | cpy sz x y =>
      have e1 := g1 x (fun t ht => by simp [I.sl, ht])
      have e2 := g1 y (fun t ht => by simp [I.sl, ht])
      have key : ∀ v, (∀ (k : V → St → D) new, cpyD us ⟨tm, lo, hp⟩ sz new v k = .bad) ∨ ∀ (k : V → St → D) new, cpyD us ⟨tm, lo, hp⟩ sz new v k = cpyD us' ⟨tm', lo, hp⟩ sz new v (fun v s => k v ⟨tm, s.lo, s.hp⟩) := by
        intro v
        cases v with
        | hs id i n =>
          cases hg : hget hp id with
          | none => exact .inl fun k new => by simp only [cpyD, hg]
          | some bk =>
            cases hf : freshH us tm id with
            | false => exact .inl fun k new => by simp only [cpyD, hg, hf, cond_false]; cases bk.fr <;> cases Nat.blt id hp.lim <;> cases Nat.beq bk.sz sz <;> rfl
            | true => exact .inr fun k new => by simp only [cpyD, hg, hf, freshH_sub hus hf, cond_true, St.setHp]
        | _ => exact .inl fun k new => rfl
      rcases key (get tm x) with h | h
      · refine .inl fun k kp => ?_
        simp only [I.den, iCpy, h]
        exact elemsD_bad
      · exact .same fun k kp => by simp only [I.den, iCpy, e1, e2, h]
    | mmk => exact .same fun k kp => by simp only [I.den, iMmk, Ev.mk, St.setHp]
    | mup x i v =>
      have e1 := g1 x (fun t ht => by simp [I.sl, ht])
      have e2 := g1 i (fun t ht => by simp [I.sl, ht])
      have e3 := g1 v (fun t ht => by simp [I.sl, ht])
      cases hi : get tm i with
      | st l =>
        cases hx : get tm x with
        | mp id =>
          cases hg : hget hp id with
          | none => exact .bad fun k kp => by simp only [I.den, iMup, hi, hx, hg]
          | some bk =>
            cases hf : freshH us tm id with
            | false => exact .bad fun k kp => by simp only [I.den, iMup, hi, hx, hg, hf, cond_false]; cases Nat.blt id hp.lim <;> rfl
            | true => exact .same fun k kp => by simp only [I.den, iMup, e1, e2, e3, hi, hx, hg, hf, freshH_sub hus hf, cond_true, St.setHp]
        | _ => exact .bad fun k kp => by simp only [I.den, iMup, hi, hx]
      | _ => exact .bad fun k kp => by simp only [I.den, iMup, hi]
    | mrk x =>
      have e1 := g1 x (fun t ht => by simp [I.sl, ht])
      exact .same fun k kp => by
        simp only [I.den, iMrk, e1]
    | call o md f xs =>
      have e : xs.map (get tm') = xs.map (get tm) := map_get_eq fun t ht => hsl t ht
      refine .inr fun k kp => ?_
      simp only [I.den, iCall, e, callD]
      cases (xs.map (get tm)).any isLp with
      | true => rfl
      | false =>
        simp only [cond_false, run]
        congr 1
    | calv fs f xs =>
      have e1 := g1 f (fun t ht => by simp [I.sl, ht])
      have e : xs.map (get tm') = xs.map (get tm) := map_get_eq fun t ht => hsl t (by simp only [I.sl, List.mem_append]; exact .inr ht)
      refine .inr fun k kp => ?_
      simp only [I.den, iClv, e, e1]
      cases get tm f with
      | fn f first cap =>
        simp only [callD]
        cases goodF fs f with
        | false => rfl
        | true =>
          simp only [cond_true]
          cases (first ++ xs.map (get tm) ++ cap).any isLp with
          | true => rfl
          | false =>
            simp only [cond_false, run]
            congr 1
      | _ => rfl
    | pan x =>
      have e := g1 x (fun t ht => ht)
      exact .same fun k kp => by
        simp only [I.den, iPan, e]
    | _ => exact absurd rfl he

end
end Ev

namespace Ev
open Go

/-- a function that can be entered -/
def Enters (P : Program) (f : FuncId) : Prop := ∃ fn, P.funcs[f]? = some fn ∧ fn.name ≠ "runtime.NumGoroutine" ∧ fn.body.isSome = true

structure Args (g : G) (xs : List V) (cs : Array Value) : Prop where
  size : cs.size = xs.length
  lp : ∀ x, x ∈ xs → isLp x = false
  rep : ∀ (i : Nat) (x : V), xs[i]? = some x → RepA g x (cs.getD i undef)

theorem Args.mono {g g' : G} {xs : List V} {cs : Array Value} (h : Args g xs cs) (hg : GLe g g') : Args g' xs cs := ⟨h.size, h.lp, fun i x hx => (h.rep i x hx).mono hg⟩

/-- what a call gives: its value, the memory behind it -/
def EndR (R : Value → World → G → Prop) : Ending → World → Prop := fun e w => ∃ cv g, e = .returned cv ∧ R cv w g
def EndP (R : Value → World → G → Prop) : Ending → World → Prop := fun e w => ∃ cv g, e = .panicked [{ v := cv, recovered := false }] ∧ R cv w g

/-- calls do what they say -/
def CallOK (P : Program) (call : Call) : Prop :=
  ∀ own f xs cs E g ν lo hp w, MemR E g ν lo hp w → Args g xs cs →
    match call own f xs hp with
    | .bad => True
    | .ret v hp' => Enters P f ∧ Calls P f cs w (EndR fun cv w' g' => MemR E g' ν lo hp' w' ∧ GLe g g' ∧ RepA g' v cv ∧ isLp v = false)
    | .pan v hp' => Enters P f ∧ Calls P f cs w (EndP fun cv w' g' => MemR E g' ν lo hp' w' ∧ GLe g g' ∧ RepA g' v cv ∧ isLp v = false)

/-- a function's run in a heap -/
def RunOK (P : Program) (call : Call) (L : Nat) (f : FuncId) (fn : Fn) : Prop :=
  ∀ xs cs g hp w, HR g hp w → Args g xs cs →
    match runF call L fn xs hp with
    | .bad => True
    | .ret v hp' => Enters P f ∧ Calls P f cs w (EndR fun cv w' g' => HR g' hp' w' ∧ Evo g hp w g' hp' w' ∧ RepA g' v cv ∧ isLp v = false)
    | .pan v hp' => Enters P f ∧ Calls P f cs w (EndP fun cv w' g' => HR g' hp' w' ∧ Evo g hp w g' hp' w' ∧ RepA g' v cv ∧ isLp v = false)

theorem EndR.mono {R R' : Value → World → G → Prop} (h : ∀ cv w g, R cv w g → ∃ g', R' cv w g') {e : Ending} {w : World} (x : EndR R e w) : EndR R' e w := by
  obtain ⟨cv, g, rfl, hr⟩ := x
  obtain ⟨g', hr'⟩ := h cv w g hr
  exact ⟨cv, g', rfl, hr'⟩
theorem EndP.mono {R R' : Value → World → G → Prop} (h : ∀ cv w g, R cv w g → ∃ g', R' cv w g') {e : Ending} {w : World} (x : EndP R e w) : EndP R' e w := by
  obtain ⟨cv, g, rfl, hr⟩ := x
  obtain ⟨g', hr'⟩ := h cv w g hr
  exact ⟨cv, g', rfl, hr'⟩

/-- the caller's boxes stay -/
theorem MemR.back {E : Ent} {g g' : G} {ν : Nat → Option Nat} {lo : Lo} {hp hp' : Hp} {w w' : World} (h : MemR E g ν lo hp w) (hr : HR g' hp' w') (ev : Evo g hp w g' hp' w') : MemR E g' ν lo hp' w' := by
  refine ⟨hr, ⟨fun t cs x => ?_, h.lo.inj⟩, h.evo.trans ev⟩
  obtain ⟨b, h1, h2, h3, h4, h5, h6⟩ := h.lo.box t cs x
  refine ⟨b, h1, fun j c hj => ?_, fun o => ?_, fun o ho => ?_, h5, by have := ev.size; omega⟩
  · obtain ⟨k, ⟨cv, a, r⟩, f⟩ := h2 j c hj
    exact ⟨k, ⟨cv, ev.cell _ _ _ a (h4 j), r.mono ev.le⟩, by rw [ev.frozen _ _ _ a (h4 j)]; exact f⟩
  · cases e : g'.κ b o with
    | none => rfl
    | some v =>
      rcases ev.κ b o v e with e' | e' | e'
      · rw [h3 o] at e'; cases e'
      · exact absurd e' (h4 o)
      · omega
  · rcases ev.own b o ho with e | e
    · exact h4 o e
    · omega

theorem rw_ok {P : Program} {call : Call} {L : Nat} {f : FuncId} {fn : Fn} (hrun : RunOK P call L f fn) {xs : List V} {cs : Array Value} {E : Ent} {g : G} {ν : Nat → Option Nat} {lo : Lo} {hp : Hp} {w : World} (h : MemR E g ν lo hp w) (ha : Args g xs cs) :
    match runF call L fn xs hp with
    | .bad => True
    | .ret v hp' => Enters P f ∧ Calls P f cs w (EndR fun cv w' g' => MemR E g' ν lo hp' w' ∧ GLe g g' ∧ RepA g' v cv ∧ isLp v = false)
    | .pan v hp' => Enters P f ∧ Calls P f cs w (EndP fun cv w' g' => MemR E g' ν lo hp' w' ∧ GLe g g' ∧ RepA g' v cv ∧ isLp v = false) := by
  have := hrun xs cs g hp w h.hr ha
  cases hc : runF call L fn xs hp with
  | bad => trivial
  | ret v hp' =>
    rw [hc] at this
    exact ⟨this.1, Calls.mono this.2 fun e w' x => EndR.mono (fun cv w g' ⟨h1, h2, h3⟩ => ⟨g', h.back h1 h2, h2.le, h3⟩) x⟩
  | pan v hp' =>
    rw [hc] at this
    exact ⟨this.1, Calls.mono this.2 fun e w' x => EndP.mono (fun cv w g' ⟨h1, h2, h3⟩ => ⟨g', h.back h1 h2, h2.le, h3⟩) x⟩

/-- what was there ahead of a number stays what it was -/
theorem old_mono {g g' : G} {n : Nat} (hk : KLe g.κ g'.κ) (hl : ∀ id, id < n → g'.lf id = g.lf id) :
    (∀ v cv, RepA g v cv → oldC n v = true → RepA g' v cv) ∧ (∀ v cv, RepA g v cv → oldV n v = true → RepA g' v cv) ∧ (∀ v cv, RepA g v cv → oldT n v = true → RepA g' v cv) := by
  have hC : ∀ v cv, RepA g v cv → oldC n v = true → RepA g' v cv := by
    intro v cv h ho
    cases h with
    | un => simp [oldC] at ho
    | c v cv e => exact .c _ _ (e.mono hk)
    | pt id i off a e =>
      have hid := bltL ho
      exact .pt _ _ _ _ (by rw [hl id hid]; exact e)
    | hs id i len a cap h0 e =>
      have hid := bltL ho
      exact .hs _ _ _ _ _ h0 (by rw [hl id hid]; exact e)
    | mp id b e =>
      have hid := bltL ho
      exact .mp _ _ (by rw [hl id hid]; exact e)
    | ip cs b o f h1 h2 => exact .ip _ b o f (fun i c hc => ⟨(h1 i c hc).1, hk _ _ _ (h1 i c hc).2⟩) (fun i c hc => (h2 i c hc).mono hk)
    | ag => simp [oldC] at ho
    | tu => simp [oldC] at ho
    | fc => simp [oldC] at ho
    | fn => simp [oldC] at ho
  have hV : ∀ v cv, RepA g v cv → oldV n v = true → RepA g' v cv := by
    intro v cv h ho
    by_cases hag : ∃ cs, v = .ag cs
    · obtain ⟨cs, rfl⟩ := hag
      obtain ⟨arr, rfl, h1, h2, h3⟩ := h.ag_inv
      exact .ag cs arr h1 h2 fun i c hc => hC _ _ (h3 i c hc) (List.all_eq_true.1 ho c (List.mem_of_getElem? hc))
    · refine hC _ _ h ?_
      cases v <;> first | exact ho | exact absurd ⟨_, rfl⟩ hag
  refine ⟨hC, hV, fun v cv h ho => ?_⟩
  by_cases htu : ∃ xs, v = .tu xs
  · obtain ⟨xs, rfl⟩ := htu
    obtain ⟨arr, rfl, h1, h2, h3⟩ := h.tu_inv
    exact .tu xs arr h1 h2 fun i x hx => hV _ _ (h3 i x hx) (List.all_eq_true.1 ho x (List.mem_of_getElem? hx))
  · refine hV _ _ h ?_
    cases v <;> first | exact ho | exact absurd ⟨_, rfl⟩ htu

/-- what a value tells of the objects that were there holds of those objects behind a run -/
theorem old_rep {g g' : G} {n : Nat} (hu : ∀ id, n ≤ id → g.lf id = .unb) (hl : ∀ id, id < n → g'.lf id = g.lf id) {v : V} {cv0 : Value} (h : RepA g v cv0) : ∀ cv, RepA g' v cv → RepA ⟨g'.κ, g.lf⟩ v cv := by
  have hid : ∀ id, (g.lf id = .dead ∨ (∃ r, g.lf id = .live r) ∨ ∃ b, g.lf id = .mlive b) → g'.lf id = g.lf id := fun id x => by
    refine hl id ?_
    rcases Nat.lt_or_ge id n with q | q
    · exact q
    · have := hu id q
      rcases x with x | ⟨r, x⟩ | ⟨r, x⟩ <;> rw [this] at x <;> cases x
  induction h with
  | un => exact fun cv _ => .un cv
  | c v cv0 e =>
    intro cv h'
    cases e <;> cases h' <;> exact .c _ _ ‹_›
  | pt id i off a e =>
    intro cv h'
    obtain ⟨a', rfl, h2⟩ := h'.pt_inv
    refine .pt _ _ _ _ ?_
    rw [hid id (e.imp (fun q => q) (fun ⟨r, q, _⟩ => .inl ⟨r, q⟩))] at h2
    exact h2
  | mp id b e =>
    intro cv h'
    obtain ⟨b', rfl, h2⟩ := h'.mp_inv
    refine .mp _ _ ?_
    rw [hid id (e.imp (fun q => q) (fun q => .inr ⟨b, q⟩))] at h2
    exact h2
  | hs id i len a cap h0 e =>
    intro cv h'
    obtain ⟨a', cap', rfl, h1, h2⟩ := h'.hs_inv
    refine .hs _ _ _ _ _ h1 ?_
    rw [hid id (e.imp (fun q => q) (fun ⟨r, q, _⟩ => .inl ⟨r, q⟩))] at h2
    exact h2
  | ip cs b o f h1 h2 =>
    intro cv h'
    obtain ⟨b', o', f', rfl, k1, k2⟩ := h'.ip_inv
    exact .ip _ _ _ f' k1 k2
  | ag cs arr hn h1 h2 ih =>
    intro cv h'
    obtain ⟨arr', rfl, k1, k2, k3⟩ := h'.ag_inv
    exact .ag cs arr' k1 k2 fun i c hc => ih i c hc _ (k3 i c hc)
  | tu xs arr hn h1 h2 ih =>
    intro cv h'
    obtain ⟨arr', rfl, k1, k2, k3⟩ := h'.tu_inv
    exact .tu xs arr' k1 k2 fun i c hc => ih i c hc _ (k3 i c hc)
  | fc t v cv0 hl e ih =>
    intro cv h'
    obtain ⟨x, rfl, k1, k2⟩ := h'.fc_inv
    exact .fc t v x k1 (ih _ k2)
  | fn f first cap a1 a2 hn1 hn2 hl1 hl2 h1 h2 i1 i2 =>
    intro cv h'
    obtain ⟨b1, b2, rfl, k1, k2, k3, k4, k5, k6⟩ := h'.fn_inv
    exact .fn f first cap b1 b2 k1 k2 k3 k4 (fun i x hx => i1 i x hx _ (k5 i x hx)) (fun i x hx => i2 i x hx _ (k6 i x hx))

/-- behind a run that reads the heap alone the heap is what it was -/
theorem HR.restore {g g' : G} {hp hp' : Hp} {w w' : World} (h : HR g hp w) (hr : HR g' hp' w') (ev : Evo g ⟨hp.next, hp.next, hp.tr⟩ w g' hp' w') :
    HR ⟨g'.κ, g.lf⟩ hp w' ∧ Evo g hp w ⟨g'.κ, g.lf⟩ hp w' ∧ ∀ id, id < hp.next → g'.lf id = g.lf id := by
  have hlf : ∀ id, id < hp.next → g'.lf id = g.lf id := by
    intro id hid
    have hro : hget hp' id = hget hp id := ev.ro id hid
    have hle := ev.le.lf id
    cases e : g.lf id with
    | unb => exact absurd e (h.bnd id hid)
    | dead => rw [e] at hle; exact hle
    | live r =>
      rw [e] at hle
      rcases hle with q | q
      · exact q
      · obtain ⟨bk, h1, _⟩ := h.live id r e
        have := hr.dead id q
        rw [hro, h1] at this; cases this
    | mlive b =>
      rw [e] at hle
      rcases hle with q | q
      · exact q
      · obtain ⟨bk, h1, _⟩ := h.mp.live id b e
        have := hr.dead id q
        rw [hro, h1] at this; cases this
  have hold : ∀ {v cv0 cv}, RepA g v cv0 → RepA g' v cv → RepA ⟨g'.κ, g.lf⟩ v cv := fun a b => old_rep h.unb hlf a _ b
  have hlt : ∀ id b, g.lf id = .mlive b → id < hp.next := fun id b e => by
    rcases Nat.lt_or_ge id hp.next with q | q
    · exact q
    · have := h.unb id q; rw [e] at this; cases this
  refine ⟨⟨⟨fun id b e => ?_, h.mp.sep⟩, h.lim, h.nil, h.bnd, hr.kap, h.unb, h.dead, fun id r e => ?_, h.sep⟩, ⟨⟨ev.le.κ, (GLe.refl g).lf⟩, Nat.le_refl _, rfl, fun _ _ => rfl, ev.size, ev.cell, ev.frozen, fun b o x => .inl x, ev.κ, ev.wd.1, ev.wd.2.1, ev.wd.2.2.1, fun b x => .inl x⟩, hlf⟩
  · have hid := hlt id b e
    have hro : hget hp' id = hget hp id := ev.ro id hid
    obtain ⟨bk0, k1, ⟨_, _, es0, c0, _, _, k6⟩⟩ := h.mp.live id b e
    obtain ⟨bk, z1, ⟨z2, z3, es, c, z4, z5, z6⟩⟩ := hr.mp.live id b (by rw [hlf id hid, e])
    rw [hro, k1] at z1; cases z1
    refine ⟨bk0, k1, z2, z3, es, c, z4, z5, fun i x hx => ?_⟩
    obtain ⟨l, v, en, s, q1, q2, q3, q4, q5, q6⟩ := z6 i x hx
    obtain ⟨l', v', en', s', p1, _, _, _, _, p6⟩ := k6 i x hx
    rw [q1] at p1; cases p1
    exact ⟨l, v, en, s, q1, q2, q3, q4, q5, hold p6 q6⟩
  have hid : id < hp.next := by
    rcases Nat.lt_or_ge id hp.next with q | q
    · exact q
    · have := h.unb id q; rw [e] at this; cases this
  have hro : hget hp' id = hget hp id := ev.ro id hid
  obtain ⟨bk0, k1, k2⟩ := h.live id r e
  obtain ⟨bk, z1, z2⟩ := hr.live id r (by rw [hlf id hid, e])
  rw [hro, k1] at z1; cases z1
  refine ⟨bk0, k1, ⟨z2.sz, z2.len, z2.row, fun i j x c hx hc => ?_, z2.rw, z2.frz, z2.blk⟩⟩
  obtain ⟨_, cv0, _, r0⟩ := k2.cont i j x c hx hc
  obtain ⟨a, cv, b, r1⟩ := z2.cont i j x c hx hc
  exact ⟨a, cv, b, hold r0 r1⟩

theorem ro_ok {P : Program} {call : Call} {L : Nat} {f : FuncId} {fn : Fn} (hrun : RunOK P call L f fn) {xs : List V} {cs : Array Value} {E : Ent} {g : G} {ν : Nat → Option Nat} {lo : Lo} {hp : Hp} {w : World} (h : MemR E g ν lo hp w) (ha : Args g xs cs) :
    match runR call L fn xs hp with
    | .bad => True
    | .ret v hp' => Enters P f ∧ Calls P f cs w (EndR fun cv w' g' => MemR E g' ν lo hp' w' ∧ GLe g g' ∧ RepA g' v cv ∧ isLp v = false)
    | .pan v hp' => Enters P f ∧ Calls P f cs w (EndP fun cv w' g' => MemR E g' ν lo hp' w' ∧ GLe g g' ∧ RepA g' v cv ∧ isLp v = false) := by
  have hr0 : HR g ⟨hp.next, hp.next, hp.tr⟩ w := ⟨h.hr.mp.mono (fun _ _ _ x => x) (fun _ _ x => x) (fun _ _ x => x) (fun _ _ _ => rfl), Nat.le_refl _, h.hr.nil, h.hr.bnd, h.hr.kap, h.hr.unb, h.hr.dead, h.hr.live, h.hr.sep⟩
  have := hrun xs cs g _ w hr0 ha
  unfold runR
  cases hc : runF call L fn xs ⟨hp.next, hp.next, hp.tr⟩ with
  | bad => trivial
  | pan v hp' => trivial
  | ret v hp' =>
    rw [hc] at this
    simp only []
    cases ho : oldT hp.next v with
    | false => trivial
    | true =>
      simp only [cond_true]
      refine ⟨this.1, Calls.mono this.2 fun e w' x => EndR.mono (fun cv w' g' ⟨h1, h2, h3, h4⟩ => ?_) x⟩
      obtain ⟨r1, r2, r3⟩ := h.hr.restore h1 h2
      refine ⟨_, h.back r1 r2, r2.le, ?_, h4⟩
      exact (old_mono (g := g') (g' := ⟨g'.κ, g.lf⟩) (fun _ _ _ x => x) (fun id hid => (r3 id hid).symm)).2.2 v cv h3 ho
end Ev

namespace Ev
open Go

section
variable {E : Ent} {ν : Nat → Option Nat} {lo : Lo} {w : World}

theorem closeP_sound {t : PT} {v x : V} {hp hp' : Hp} {g : G} {cv : Value} (h : closeP t v hp = some (x, hp')) (m : MemR E g ν lo hp w) (hr : RepA g v cv) : ∃ g', Closed E g ν lo hp w g' hp' ∧ RepP g'.κ x cv := by
  unfold closeP at h
  split at h
  · obtain ⟨g', h1, h2⟩ := (close_sound E ν lo w depth).1 _ _ _ _ _ g cv h m hr
    exact ⟨g', h1, .c _ _ h2⟩
  · rename_i ts cs
    cases hc : closeCs depth ts cs hp with
    | none => simp [hc] at h
    | some q =>
      obtain ⟨xs, h1⟩ := q
      simp only [hc, Option.some.injEq, Prod.mk.injEq] at h
      obtain ⟨rfl, rfl⟩ := h
      obtain ⟨arr, rfl, a1, a2, a3⟩ := hr.ag_inv
      obtain ⟨g', k1, k2, k3⟩ := (close_sound E ν lo w depth).2.1 _ _ _ _ _ g (fun i => arr.getD i undef) hc m a3
      exact ⟨g', k1, .ag xs arr (by omega) (fun c hc' => by obtain ⟨i, hi⟩ := List.getElem?_of_mem hc'; exact (k3 i c hi).keep) k3⟩
  · cases h

theorem closeAll_sound : ∀ {ts : List PT} {vs xs : List V} {hp hp' : Hp} {g : G} {f : Nat → Value}, closeAll ts vs hp = some (xs, hp') → MemR E g ν lo hp w → (∀ (i : Nat) (v : V), vs[i]? = some v → RepA g v (f i)) →
    ∃ g', Closed E g ν lo hp w g' hp' ∧ xs.length = vs.length ∧ vs.length = ts.length ∧ ∀ (i : Nat) (x : V), xs[i]? = some x → RepP g'.κ x (f i)
  | [], [], xs, hp, hp', g, f, h, m, hr => by
    simp only [closeAll, Option.some.injEq, Prod.mk.injEq] at h; obtain ⟨rfl, rfl⟩ := h
    exact ⟨g, Closed.refl m, rfl, rfl, by simp⟩
  | [], _ :: _, _, _, _, _, _, h, _, _ => by simp [closeAll] at h
  | _ :: _, [], _, _, _, _, _, h, _, _ => by simp [closeAll] at h
  | t :: ts, v :: vs, xs, hp, hp', g, f, h, m, hr => by
    simp only [closeAll] at h
    cases hc : closeP t v hp with
    | none => simp [hc] at h
    | some q =>
      obtain ⟨x, h1⟩ := q
      simp only [hc] at h
      cases hcs : closeAll ts vs h1 with
      | none => simp [hcs] at h
      | some q =>
        obtain ⟨xs', h2⟩ := q
        simp only [hcs, Option.some.injEq, Prod.mk.injEq] at h
        obtain ⟨rfl, rfl⟩ := h
        obtain ⟨g1, c1, r1⟩ := closeP_sound hc m (hr 0 v rfl)
        obtain ⟨g2, c2, l2, l3, r2⟩ := closeAll_sound (f := fun i => f (i + 1)) hcs c1.mem (fun i u hu => (hr (i + 1) u (by simpa using hu)).mono c1.le)
        refine ⟨g2, c1.trans c2, by simp [l2], by simp [l3], fun i u hu => ?_⟩
        cases i with
        | zero => simp at hu; subst hu; exact r1.mono c2.le.κ
        | succ i => exact r2 i u (by simpa using hu)
end

/-- a run elsewhere: the heap stays, more is known -/
theorem HR.apart {g : G} {hp : Hp} {w w' : World} {κ' : K} (h : HR g hp w) (hk : KLe g.κ κ') (kap : ∀ b o v, κ' b o = some v → w'.cell? (ad b o) = some v) (hn : ∀ b o v, κ' b o = some v → g.κ b o = some v ∨ w.heap.size ≤ b)
    (hc : ∀ b o v, w.cell? (ad b o) = some v → w'.cell? (ad b o) = some v) (hf : ∀ b o v, w.cell? (ad b o) = some v → w'.frozen? (ad b o) = w.frozen? (ad b o)) (hs : w.heap.size ≤ w'.heap.size)
    (hwd : (w'.os = w.os ∧ w'.output = w.output) ∧ (∀ b, Unf 1 w b → Unf 1 w' b) ∧ ∀ b, b < w.heap.size → w'.heap[b]? = w.heap[b]?) :
    HR ⟨κ', g.lf⟩ hp w' ∧ Evo g hp w ⟨κ', g.lf⟩ hp w' := by
  have le : GLe g ⟨κ', g.lf⟩ := ⟨hk, (GLe.refl g).lf⟩
  refine ⟨⟨h.mp.mono (fun b es c x => by rw [hwd.2.2 b (Array.getElem?_eq_some_iff.1 x).1]; exact x) (fun _ _ x => x.mono le) (fun _ _ x => x) (fun _ _ _ => rfl), h.lim, h.nil, h.bnd, kap, h.unb, h.dead, fun id r e => ?_, h.sep⟩, ⟨le, Nat.le_refl _, rfl, fun _ _ => rfl, hs, fun b o v x _ => hc b o v x, fun b o v x _ => hf b o v x, fun b o x => .inl x, fun b o v x => (hn b o v x).imp id .inr, hwd.1, hwd.2.1, fun b x _ _ => hwd.2.2 b x, fun b x => .inl x⟩⟩
  obtain ⟨bk, k1, k2⟩ := h.live id r e
  refine ⟨bk, k1, k2.grow le hc hf (fun b o x ⟨v, y⟩ => ?_) fun _ _ ⟨C, q, fr, h1, h2⟩ => ⟨C, q, fr, by rw [hwd.2.2 _ (Array.getElem?_eq_some_iff.1 h1).1]; exact h1, h2⟩⟩
  cases e' : κ' b o with
  | none => exact e'
  | some u =>
    rcases hn b o u e' with q | q
    · rw [x] at q; cases q
    · have := cell_block y; omega

theorem HR.empty {κ : K} {w : World} (h : ∀ b o v, κ b o = some v → w.cell? (ad b o) = some v) : HR ⟨κ, fun _ => .unb⟩ h0 w where
  mp := ⟨(fun _ _ x => nomatch x), (fun _ _ _ _ x => nomatch x)⟩
  lim := Nat.le_refl _
  nil := fun _ _ => rfl
  bnd := fun id hid => absurd hid (Nat.not_lt_zero _)
  kap := h
  unb := fun _ _ => rfl
  dead := fun _ _ => rfl
  live := fun _ _ x => nomatch x
  sep := fun _ _ _ _ _ _ _ x => nomatch x

theorem own_empty {κ : K} {b o : Nat} (x : Own ⟨κ, fun _ => .unb⟩ h0 b o) : False := by
  obtain ⟨id, r, bk, k, hl, _⟩ := x
  cases hl

/-- where a pure function starts -/
theorem pure_start {E : Ent} {ν : Nat → Option Nat} {lo : Lo} {g1 : G} {hp1 : Hp} {w : World} (m : MemR E g1 ν lo hp1 w) {xs : List V} {cs : Array Value} (hn : cs.size = xs.length) (hr : ∀ (i : Nat) (x : V), xs[i]? = some x → RepP g1.κ x (cs.getD i undef)) :
    HR ⟨g1.κ, fun _ => .unb⟩ h0 w ∧ Args ⟨g1.κ, fun _ => .unb⟩ xs cs :=
  ⟨HR.empty m.hr.kap, hn, fun x hx => by obtain ⟨i, hi⟩ := List.getElem?_of_mem hx; exact (hr i x hi).notLp, fun i x hx => (hr i x hx).toA (g := ⟨g1.κ, fun _ => .unb⟩)⟩

/-- behind a pure function: what it knows is known, the caller's heap is what it was -/
theorem pure_end {E : Ent} {ν : Nat → Option Nat} {lo : Lo} {g1 : G} {hp1 : Hp} {w w' : World} (m : MemR E g1 ν lo hp1 w) {g' : G} {h : Hp} (hr : HR g' h w') (ev : Evo ⟨g1.κ, fun _ => .unb⟩ h0 w g' h w')
    {κ2 : K} (hk : KLe g'.κ κ2) (kap : ∀ b o v, κ2 b o = some v → w'.cell? (ad b o) = some v) (hκ : ∀ b o v, κ2 b o = some v → g'.κ b o = some v ∨ Own g' h b o) :
    MemR E ⟨κ2, g1.lf⟩ ν lo hp1 w' ∧ GLe g1 ⟨κ2, g1.lf⟩ := by
  have hcell : ∀ b o v, w.cell? (ad b o) = some v → w'.cell? (ad b o) = some v := fun b o v x => ev.cell b o v x own_empty
  have hfr : ∀ b o v, w.cell? (ad b o) = some v → w'.frozen? (ad b o) = w.frozen? (ad b o) := fun b o v x => ev.frozen b o v x own_empty
  have hkn : ∀ b o v, g'.κ b o = some v → g1.κ b o = some v ∨ w.heap.size ≤ b := fun b o v x => by
    rcases ev.κ b o v x with q | q | q
    · exact .inl q
    · exact absurd q own_empty
    · exact .inr q
  have hle : KLe g1.κ κ2 := fun b o v x => hk b o v (ev.le.κ b o v x)
  obtain ⟨r1, r2⟩ := m.hr.apart (κ' := κ2) hle kap (fun b o v x => by
    rcases hκ b o v x with q | q
    · exact hkn b o v q
    · rcases ev.own b o q with q | q
      · exact absurd q own_empty
      · exact .inr q) hcell hfr ev.size ⟨ev.wd.1, ev.wd.2.1, fun b hb => ev.wd.2.2.1 b hb (fun o q => own_empty q) (fun ⟨_, q⟩ => by cases q)⟩
  exact ⟨m.back r1 r2, r2.le⟩

theorem untuple_len {n : Nat} {v : V} {ts : List PT} (h : (untuple n v).length = ts.length) (hn : n = ts.length) : (n = 1 ∧ untuple n v = [v]) ∨ (n ≠ 1 ∧ ∃ xs, v = .tu xs ∧ untuple n v = xs) := by
  unfold untuple at h ⊢
  cases hb : Nat.beq n 1 with
  | true => exact .inl ⟨Nat.eq_of_beq_eq_true hb, rfl⟩
  | false =>
    have hne : n ≠ 1 := fun e => by subst e; simp at hb
    simp only [hb, cond_false] at h ⊢
    split at h
    · exact .inr ⟨hne, _, rfl, rfl⟩
    · simp at h; omega

theorem tuple_rep {g : G} {ys : List V} {f : Nat → Value} {cv : Value} (hr : ∀ (i : Nat) (x : V), ys[i]? = some x → RepP g.κ x (f i)) (h1 : ys.length = 1 → cv = f 0) (h2 : ys.length ≠ 1 → ∃ arr : Array Value, cv = .tuple arr ∧ arr.size = ys.length ∧ ∀ i, i < ys.length → f i = arr.getD i undef) :
    RepA g (tuple ys) cv ∧ isLp (tuple ys) = false := by
  by_cases hl : ys.length = 1
  · obtain ⟨y, rfl⟩ := List.length_eq_one_iff.1 hl
    have := hr 0 y rfl
    rw [h1 hl]
    exact ⟨this.toA, this.notLp⟩
  · obtain ⟨arr, rfl, a1, a2⟩ := h2 hl
    have ht : tuple ys = .tu ys := by
      unfold tuple
      split
      · simp at hl
      · rfl
    rw [ht]
    refine ⟨.tu ys arr a1 (fun x hx => by obtain ⟨i, hi⟩ := List.getElem?_of_mem hx; exact (hr i x hi).notLp) fun i x hx => ?_, rfl⟩
    rw [← a2 i (lt_of_get hx)]
    exact (hr i x hx).toA

theorem closeAll_len : ∀ {ts : List PT} {vs xs : List V} {hp hp' : Hp}, closeAll ts vs hp = some (xs, hp') → vs.length = ts.length ∧ xs.length = ts.length
  | [], [], xs, hp, hp', h => by simp only [closeAll, Option.some.injEq, Prod.mk.injEq] at h; obtain ⟨rfl, rfl⟩ := h; exact ⟨rfl, rfl⟩
  | [], _ :: _, _, _, _, h => by simp [closeAll] at h
  | _ :: _, [], _, _, _, h => by simp [closeAll] at h
  | t :: ts, v :: vs, xs, hp, hp', h => by
    simp only [closeAll] at h
    cases hc : closeP t v hp with
    | none => simp [hc] at h
    | some q =>
      obtain ⟨x, h1⟩ := q
      simp only [hc] at h
      cases hcs : closeAll ts vs h1 with
      | none => simp [hcs] at h
      | some q =>
        obtain ⟨xs', h2⟩ := q
        simp only [hcs, Option.some.injEq, Prod.mk.injEq] at h
        obtain ⟨rfl, rfl⟩ := h
        have := closeAll_len hcs
        exact ⟨by simp [this.1], by simp [this.2]⟩

/-- the results of a pure function, closed -/
theorem pure_back {E : Ent} {ν : Nat → Option Nat} {lo : Lo} {g1 : G} {hp1 : Hp} {w w' : World} (m : MemR E g1 ν lo hp1 w) {g' : G} {h : Hp} (hr : HR g' h w') (ev : Evo ⟨g1.κ, fun _ => .unb⟩ h0 w g' h w') {rs : List PT} {v : V} {cv : Value}
    (hv : RepA g' v cv) {ys : List V} {h' : Hp} (hc : closeAll rs (untuple rs.length v) h = some (ys, h')) : ∃ g2, MemR E g2 ν lo hp1 w' ∧ GLe g1 g2 ∧ RepA g2 (tuple ys) cv ∧ isLp (tuple ys) = false := by
  have m' : MemR ⟨⟨g1.κ, fun _ => .unb⟩, h0, w⟩ g' (fun _ => none) (fun _ => none) h w' := ⟨hr, ⟨(fun _ _ x => nomatch x), (fun _ _ _ _ x => absurd rfl x)⟩, ev⟩
  have fin : ∀ {f : Nat → Value}, (∀ (i : Nat) (x : V), (untuple rs.length v)[i]? = some x → RepA g' x (f i)) → (ys.length = 1 → cv = f 0) → (ys.length ≠ 1 → ∃ arr : Array Value, cv = .tuple arr ∧ arr.size = ys.length ∧ ∀ i, i < ys.length → f i = arr.getD i undef) →
      ∃ g2, MemR E g2 ν lo hp1 w' ∧ GLe g1 g2 ∧ RepA g2 (tuple ys) cv ∧ isLp (tuple ys) = false := by
    intro f hf h1 h2
    obtain ⟨g'', c, l1, l2, r⟩ := closeAll_sound hc m' hf
    obtain ⟨e1, e2⟩ := pure_end m hr ev c.le.κ c.mem.hr.kap c.κ
    obtain ⟨t1, t2⟩ := tuple_rep (g := ⟨g''.κ, g1.lf⟩) (f := f) (cv := cv) r h1 h2
    exact ⟨_, e1, e2, t1, t2⟩
  have hl := closeAll_len hc
  rcases untuple_len hl.1 rfl with ⟨h1, h2⟩ | ⟨h1, xs, h2, h3⟩
  · refine fin (f := fun _ => cv) (fun i x hx => ?_) (fun _ => rfl) (fun q => absurd (by rw [hl.2]; exact h1) q)
    rw [h2] at hx
    cases i with
    | zero => simp at hx; subst hx; exact hv
    | succ i => simp at hx
  · subst h2
    obtain ⟨arr, rfl, a1, a2, a3⟩ := hv.tu_inv
    refine fin (f := fun i => arr.getD i undef) (fun i x hx => ?_) (fun q => absurd (by rw [← hl.2]; exact q) h1) (fun _ => ⟨arr, rfl, ?_, fun _ _ => rfl⟩)
    · rw [h3] at hx; exact a3 i x hx
    · rw [a1, hl.2, ← hl.1, h3]
end Ev

namespace Ev
open Go

/-- a place elsewhere becomes an object -/
theorem MemR.adopt {E : Ent} {g : G} {ν : Nat → Option Nat} {lo : Lo} {hp : Hp} {w0 w : World} (h : MemR E g ν lo hp w) {r : Rg} {bk : Bk} (hz : BkR g w r bk) (hfr : bk.fr = false)
    (h0 : ∀ b o, Own g hp b o → b < w0.heap.size) (h1 : ∀ t b cs, lo t = some cs → ν t = some b → b < w0.heap.size) (h2 : E.w.heap.size ≤ w0.heap.size) (hb : 0 < r.cap * r.sz → w0.heap.size ≤ r.b) :
    MemR E (born g hp r) ν lo (hnew hp bk) w := by
  have hle := born_le h.hr r
  have hnxt : g.lf hp.next = .unb := h.hr.unb _ (Nat.le_refl _)
  have hmono : ∀ {r' bk'}, BkR g w r' bk' → BkR (born g hp r) w r' bk' := fun z =>
    ⟨z.sz, z.len, z.row, fun i j e c he hc => by obtain ⟨a, cv, b, x⟩ := z.cont i j e c he hc; exact ⟨a, cv, b, x.mono hle⟩, z.rw, z.frz, z.blk⟩
  have hlive : ∀ id r', (born g hp r).lf id = .live r' → (id = hp.next ∧ r' = r) ∨ (id ≠ hp.next ∧ g.lf id = .live r') := fun id r' x => by
    simp only [born] at x
    by_cases e : id = hp.next
    · simp only [e, if_true, Life.live.injEq] at x; exact .inl ⟨e, x.symm⟩
    · simp only [e, if_false] at x; exact .inr ⟨e, x⟩
  have hapart : ∀ id r' bk', g.lf id = .live r' → hget hp id = some bk' → bk'.fr = false → r.apart r' := fun id r' bk' x y z k k' q => by
    have := h0 r'.b (r'.base + 0) ⟨id, r', bk', 0, x, y, z, k', rfl, rfl⟩
    have := hb k
    omega
  have hbl : ∀ id b, (born g hp r).lf id = .mlive b → id ≠ hp.next ∧ g.lf id = .mlive b := fun id b x => by
    simp only [born] at x
    split at x
    · cases x
    · exact ⟨‹_›, x⟩
  refine ⟨⟨h.hr.mp.mono (fun _ _ _ x => x) (fun _ _ x => x.mono hle) (fun id b x => (hbl id b x).2) (fun id b x => by rw [hget_hnew, if_neg (hbl id b x).1]), by have := h.hr.lim; simp only [hnew]; omega, fun id hid => by
      simp only [hnew] at hid
      rw [hget_hnew, if_neg (by omega)]; exact h.hr.nil id (by omega), fun id hid => by
      simp only [hnew] at hid
      simp only [born]; split
      · simp
      · exact h.hr.bnd id (by omega), h.hr.kap, fun id hid => ?_, fun id x => ?_, fun id r' x => ?_, fun id id' r1 r2 b1 b2 hne x x' y y' z z' => ?_⟩, ⟨fun t cs x => ?_, h.lo.inj⟩, ⟨h.evo.le.trans hle, by have := h.evo.next; simp only [hnew]; omega, h.evo.lim, fun id hid => ?_, h.evo.size, h.evo.cell, h.evo.frozen, fun b o x => ?_, h.evo.κ, h.evo.wd.1, h.evo.wd.2.1, h.evo.wd.2.2.1, fun b ⟨id, x⟩ => h.evo.wd.2.2.2 b ⟨id, (hbl id b x).2⟩⟩⟩
  · simp only [hnew] at hid
    simp only [born]; rw [if_neg (by omega)]; exact h.hr.unb id (by omega)
  · simp only [born] at x
    by_cases e : id = hp.next
    · simp [e] at x
    · simp only [e, if_false] at x; rw [hget_hnew, if_neg e]; exact h.hr.dead id x
  · rcases hlive id r' x with ⟨rfl, rfl⟩ | ⟨e, x⟩
    · exact ⟨bk, by rw [hget_hnew, if_pos rfl], hmono hz⟩
    · obtain ⟨bk', a, b⟩ := h.hr.live id r' x
      exact ⟨bk', by rw [hget_hnew, if_neg e]; exact a, hmono b⟩
  · rcases hlive id r1 x with ⟨e, rfl⟩ | ⟨e, x⟩
    · rcases hlive id' r2 x' with ⟨e', rfl⟩ | ⟨e', x'⟩
      · exact absurd (e.trans e'.symm) hne
      · rw [hget_hnew, if_neg e'] at y'
        exact hapart id' r2 b2 x' y' z'
    · rw [hget_hnew, if_neg e] at y
      rename_i x1
      rcases hlive id' r2 x' with ⟨e', er⟩ | ⟨e', x'⟩
      · intro k k' q
        rw [er] at k' q
        exact hapart id r1 b1 x y z k' k q.symm
      · rw [hget_hnew, if_neg e'] at y'
        exact h.hr.sep id id' r1 r2 b1 b2 hne x x' y y' z z'
  · obtain ⟨b, a1, a2, a3, a4, a5, a6⟩ := h.lo.box t cs x
    refine ⟨b, a1, fun j c hj => ?_, a3, fun o ho => ?_, a5, a6⟩
    · obtain ⟨k, ⟨cv, p, q⟩, s⟩ := a2 j c hj
      exact ⟨k, ⟨cv, p, q.mono hle⟩, s⟩
    · rcases own_born h.hr ho with ho | ⟨e, k, hk, _⟩
      · exact a4 o ho
      · have := h1 t b cs x a1
        have := hb (by omega)
        omega
  · rw [hget_hnew, if_neg (by have := h.hr.lim; have := h.evo.lim; omega)]; exact h.evo.ro id hid
  · rcases own_born h.hr x with x | ⟨e, k, hk, _⟩
    · exact h.evo.own b o x
    · have := hb (by omega)
      exact .inr (by omega)
/-- a slice that a pure function made becomes the caller's -/
theorem own_back {E : Ent} {ν : Nat → Option Nat} {lo : Lo} {g1 : G} {hp1 : Hp} {w w' : World} (m : MemR E g1 ν lo hp1 w) {g' : G} {h : Hp} (hr : HR g' h w') (ev : Evo ⟨g1.κ, fun _ => .unb⟩ h0 w g' h w') {t : PT} {v x : V} {cv : Value} {hp2 : Hp}
    (hv : RepA g' v cv) (hc : ownP t v h hp1 = some (x, hp2)) : ∃ g2, MemR E g2 ν lo hp2 w' ∧ GLe g1 g2 ∧ RepA g2 x cv ∧ isLp x = false := by
  have m' : MemR ⟨⟨g1.κ, fun _ => .unb⟩, h0, w⟩ g' (fun _ => none) (fun _ => none) h w' := ⟨hr, ⟨(fun _ _ x => nomatch x), (fun _ _ _ _ x => absurd rfl x)⟩, ev⟩
  unfold ownP at hc
  split at hc
  · rename_i ts id i len
    cases hg : hget h id with
    | none => simp [hg] at hc
    | some bk =>
      simp only [hg] at hc
      cases hfr : bk.fr with
      | true => simp [hfr] at hc
      | false =>
        simp only [hfr, cond_false] at hc
        cases hlm : Nat.blt id h.lim with
        | true => simp [hlm] at hc
        | false =>
          simp only [hlm, cond_false] at hc
          cases hsz : Nat.beq bk.sz ts.length with
          | false => simp [hsz] at hc
          | true =>
            simp only [hsz, cond_true] at hc
            cases hln : Nat.ble (i + len) bk.es.length with
            | false => simp [hln] at hc
            | true =>
              simp only [hln, cond_true] at hc
              have hln := Nat.le_of_ble_eq_true hln
              have hlim := bltG hlm
              cases hes : closeEs depth ts ((bk.es.drop i).take len) (hset h id none) with
              | none => simp [hes] at hc
              | some q =>
                obtain ⟨es, h'⟩ := q
                simp only [hes, Option.some.injEq, Prod.mk.injEq] at hc
                obtain ⟨rfl, rfl⟩ := hc
                obtain ⟨a, cap, rfl, c1, c2⟩ := hv.hs_inv
                rcases c2 with c2 | ⟨r, hl, c2⟩
                · rw [hr.dead id c2] at hg; cases hg
                · obtain ⟨bk0, e0, z⟩ := hr.live id r hl
                  rw [hg] at e0; cases e0
                  have mk := m'.kill hl hlim
                  have hkl := killed_le hl
                  have hgt : ∀ (k : Nat) (e : List V), ((bk.es.drop i).take len)[k]? = some e → k < len ∧ bk.es[i + k]? = some e := by
                    intro k e he
                    have hk := lt_of_get he
                    rw [List.getElem?_take_of_lt (by simp at hk; omega), List.getElem?_drop] at he
                    exact ⟨by simp at hk; omega, he⟩
                  obtain ⟨g2, k1, k2, k3⟩ := (close_sound _ _ _ w' depth).2.2 ts _ (hset h id none) es h' (killed g' id) (fun k j => (w'.cell? (ad r.b (r.base + (i + k) * r.sz + j))).getD undef) hes mk (fun k j e c he hcc => by
                    obtain ⟨_, u, b1, b2⟩ := z.cont (i + k) j e c (hgt k e he).2 hcc
                    simp only [b1, Option.getD_some]; exact b2.mono hkl)
                  have hlen : es.length = len := by rw [k2, List.length_take, List.length_drop]; omega
                  have hicap : i + cap ≤ r.cap := by
                    rcases c2 with c2 | ⟨_, c3⟩
                    · have := z.len; omega
                    · exact c3
                  have hmul : (i + cap) * r.sz ≤ r.cap * r.sz := Nat.mul_le_mul_right _ hicap
                  rw [Nat.add_mul] at hmul
                  obtain ⟨e1, e2⟩ := pure_end m hr ev (κ2 := g2.κ) k1.le.κ k1.mem.hr.kap (fun b o v x => (k1.κ b o v x).imp (fun q => q) own_killed)
                  have hbk : BkR ⟨g2.κ, g1.lf⟩ w' ⟨r.b, r.base + i * r.sz, r.sz, cap⟩ ⟨bk.sz, false, es⟩ := by
                    refine ⟨z.sz, by simp only; omega, fun x hx => ?_, fun k j x c hx hcc => ?_, fun _ k hk => ?_, fun q => by simp at q, fun _ hn => z.blk hfr (by simp only at hn; omega)⟩
                    · obtain ⟨k, hk⟩ := List.getElem?_of_mem hx
                      obtain ⟨⟨e, he, hl'⟩, _⟩ := k3 k x hk
                      rw [hl']; exact z.row e (List.mem_of_getElem? (hgt k e he).2)
                    · obtain ⟨⟨e, he, hl'⟩, hrr⟩ := k3 k x hx
                      have hj := lt_of_get hcc
                      rw [hl'] at hj
                      obtain ⟨_, u, b1, _⟩ := z.cont (i + k) j e (e[j]) (hgt k e he).2 (by rw [List.getElem?_eq_getElem hj])
                      have hrep := hrr j c hcc
                      simp only [b1, Option.getD_some] at hrep
                      refine ⟨hrep.keep, u, ?_, .c _ _ hrep⟩
                      simp only []
                      rw [show r.base + i * r.sz + k * r.sz + j = r.base + (i + k) * r.sz + j by rw [Nat.add_mul]; omega]
                      exact b1
                    · simp only at hk ⊢
                      obtain ⟨b1, b2, b3⟩ := z.rw hfr (i * r.sz + k) (by omega)
                      rw [show r.base + i * r.sz + k = r.base + (i * r.sz + k) by omega]
                      refine ⟨b1, b2, ?_⟩
                      cases q : g2.κ r.b (r.base + (i * r.sz + k)) with
                      | none => rfl
                      | some u =>
                        rcases k1.κ _ _ u q with q | q
                        · have : g'.κ r.b (r.base + (i * r.sz + k)) = some u := q
                          rw [b3] at this; cases this
                        · obtain ⟨id2, r3, bk3, k', l1, l2, l3, l4, l5, l6⟩ := q
                          simp only [killed] at l1
                          have hne : id2 ≠ id := fun q => by simp [q] at l1
                          rw [if_neg hne] at l1
                          rw [hget_hset, if_neg hne] at l2
                          exact absurd l5 (hr.sep id id2 r r3 bk bk3 hne.symm hl l1 hg l2 hfr l3 (by omega) (by omega))
                  have had := e1.adopt (w0 := w) hbk rfl (fun b o x => by
                      obtain ⟨id', r', bk', k', x1, x2, x3, x4, x5, x6⟩ := x
                      obtain ⟨v, hv⟩ := Own.bound m.hr ⟨id', r', bk', k', x1, x2, x3, x4, x5, x6⟩
                      exact cell_block hv) (fun t b cs x1 x2 => by
                      obtain ⟨b', y1, _, _, _, _, y6⟩ := m.lo.box t cs x1
                      rw [x2] at y1; cases y1; exact y6) m.evo.size (fun hpos => by
                      simp only at hpos ⊢
                      rcases ev.own r.b (r.base + i * r.sz) ⟨id, r, bk, i * r.sz, hl, hg, hfr, by omega, rfl, rfl⟩ with q | q
                      · exact absurd q own_empty
                      · exact q)
                  refine ⟨_, had, e2.trans (born_le e1.hr _), ?_, rfl⟩
                  refine .hs _ _ _ _ _ c1 (.inr ⟨⟨r.b, r.base + i * r.sz, r.sz, cap⟩, by simp [born], ?_⟩)
                  rcases c2 with c2 | ⟨c2, _⟩
                  · exact .inl c2
                  · exact .inr ⟨by simp [c2], by simp⟩
  · rename_i hne
    cases hcp : closeP t v h with
    | none => simp [hcp] at hc
    | some q =>
      obtain ⟨y, h'⟩ := q
      simp only [hcp, Option.some.injEq, Prod.mk.injEq] at hc
      obtain ⟨rfl, rfl⟩ := hc
      obtain ⟨g'', c, r⟩ := closeP_sound hcp m' hv
      obtain ⟨e1, e2⟩ := pure_end m hr ev c.le.κ c.mem.hr.kap c.κ
      exact ⟨_, e1, e2, r.toA (g := ⟨g''.κ, g1.lf⟩), r.notLp⟩
theorem pure_ok {P : Program} {call : Call} {L : Nat} {f : FuncId} {fn : Fn} (hrun : RunOK P call L f fn) {own : Bool} {xs : List V} {cs : Array Value} {E : Ent} {g : G} {ν : Nat → Option Nat} {lo : Lo} {hp : Hp} {w : World} (h : MemR E g ν lo hp w) (ha : Args g xs cs) :
    match runP own call L fn xs hp with
    | .bad => True
    | .ret v hp' => Enters P f ∧ Calls P f cs w (EndR fun cv w' g' => MemR E g' ν lo hp' w' ∧ GLe g g' ∧ RepA g' v cv ∧ isLp v = false)
    | .pan v hp' => Enters P f ∧ Calls P f cs w (EndP fun cv w' g' => MemR E g' ν lo hp' w' ∧ GLe g g' ∧ RepA g' v cv ∧ isLp v = false) := by
  unfold runP
  cases hc : closeAll fn.ps xs hp with
  | none => trivial
  | some q =>
    obtain ⟨ys, hp1⟩ := q
    obtain ⟨g1, c, l1, l2, r⟩ := closeAll_sound (f := fun i => cs.getD i undef) hc h ha.rep
    obtain ⟨s1, s2⟩ := pure_start c.mem (cs := cs) (by rw [ha.size, l1]) r
    have hr := hrun ys cs _ h0 w s1 s2
    simp only []
    cases hf : runF call L fn ys h0 with
    | bad => trivial
    | pan v hh => simp only [back]
    | ret v hh =>
      rw [hf] at hr
      obtain ⟨he, hcalls⟩ := hr
      have gen : ∀ rs : List PT, match (match closeAll rs (untuple rs.length v) hh with
          | some (xs, _) => CR.ret (tuple xs) hp1
          | none => CR.bad) with
        | .bad => True
        | .ret v hp' => Enters P f ∧ Calls P f cs w (EndR fun cv w' g' => MemR E g' ν lo hp' w' ∧ GLe g g' ∧ RepA g' v cv ∧ isLp v = false)
        | .pan v hp' => Enters P f ∧ Calls P f cs w (EndP fun cv w' g' => MemR E g' ν lo hp' w' ∧ GLe g g' ∧ RepA g' v cv ∧ isLp v = false) := by
        intro rs
        cases hcl : closeAll rs (untuple rs.length v) hh with
        | none => trivial
        | some q =>
          obtain ⟨zs, h'⟩ := q
          refine ⟨he, Calls.mono hcalls fun e w' x => EndR.mono (fun cv w' g' ⟨x1, x2, x3, _⟩ => ?_) x⟩
          obtain ⟨g2, y1, y2, y3, y4⟩ := pure_back c.mem x1 x2 x3 hcl
          exact ⟨g2, y1, c.le.trans y2, y3, y4⟩
      unfold back
      cases own with
      | false => exact gen fn.rs
      | true =>
        cases hrs : fn.rs with
        | nil => simp only []; exact gen []
        | cons t ts =>
          cases ts with
          | cons t' ts => simp only []; exact gen (t :: t' :: ts)
          | nil =>
            simp only []
            cases hcl : ownP t v hh hp1 with
            | none => trivial
            | some q =>
              obtain ⟨x, hp2⟩ := q
              refine ⟨he, Calls.mono hcalls fun e w' x => EndR.mono (fun cv w' g' ⟨x1, x2, x3, _⟩ => ?_) x⟩
              obtain ⟨g2, y1, y2, y3, y4⟩ := own_back c.mem x1 x2 x3 hcl
              exact ⟨g2, y1, c.le.trans y2, y3, y4⟩
end Ev
