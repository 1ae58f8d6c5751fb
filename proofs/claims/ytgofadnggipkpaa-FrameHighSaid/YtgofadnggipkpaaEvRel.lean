import Derived.Test.YtgofadnggipkpaaEvComp
import Derived.Calls
namespace Ev
open Go

/-- what is known of memory that nobody writes any more -/
abbrev K := Nat → Nat → Option Value

def ad (b o : Nat) : Addr := ⟨b, o, none⟩

/-- a value without the heap, and what stands for it -/
inductive RepC (κ : K) : V → Value → Prop
  | bo (b : Bool) : RepC κ (.bo b) (.bool b)
  | it (k : IntKind) (n : Int) : RepC κ (.it k n) (.int k n)
  | fl (k : FloatKind) (b : Nat) : RepC κ (.fl k b) (.float k b)
  | st (l : List Nat) (s : ByteArray) (h : s.data.toList.map UInt8.toNat = l) : RepC κ (.st l) (.string s)
  | np : RepC κ .np (.pointer none)
  | ns : RepC κ .ns (.slice none 0 0)
  | nf : RepC κ .nf .nilIface
  | nfn : RepC κ .nfn .nilFunc
  | nm : RepC κ .nm (.map none)
  | vs (sz : Nat) (es : List (List V)) (a : Option Addr) (cap b o : Nat) (f : Nat → Nat → Value)
      (h1 : ∀ e, e ∈ es → e.length = sz) (h2 : es ≠ [] → a = some (ad b o)) (h3 : es.length ≤ cap)
      (h4 : ∀ (i j : Nat) (e : List V) (c : V), es[i]? = some e → e[j]? = some c → c.keep = true ∧ κ b (o + i * sz + j) = some (f i j))
      (h5 : ∀ (i j : Nat) (e : List V) (c : V), es[i]? = some e → e[j]? = some c → RepC κ c (f i j)) : RepC κ (.vs sz es) (.slice a es.length cap)

/-- where an object lies: block, first cell, cells a row, rows that there is room for -/
structure Rg where
  b : Nat
  base : Nat
  sz : Nat
  cap : Nat

inductive Life where
  | unb
  | dead
  | live (r : Rg)
  | mlive (b : Nat)

structure G where
  κ : K
  lf : Nat → Life

inductive RepA (g : G) : V → Value → Prop
  | un (cv : Value) : RepA g .un cv
  | c (v : V) (cv : Value) (h : RepC g.κ v cv) : RepA g v cv
  | pt (id i off : Nat) (a : Addr) (h : g.lf id = .dead ∨ ∃ r, g.lf id = .live r ∧ a = ad r.b (r.base + i * r.sz + off)) : RepA g (.pt id i off) (.pointer (some a))
  | hs (id i len : Nat) (a : Option Addr) (cap : Nat) (h0 : len ≤ cap)
      (h : g.lf id = .dead ∨ ∃ r, g.lf id = .live r ∧ (cap = 0 ∨ (a = some (ad r.b (r.base + i * r.sz)) ∧ i + cap ≤ r.cap))) : RepA g (.hs id i len) (.slice a len cap)
  | mp (id b : Nat) (h : g.lf id = .dead ∨ g.lf id = .mlive b) : RepA g (.mp id) (.map (some b))
  | ip (cs : List V) (b o : Nat) (f : Nat → Value) (h1 : ∀ (i : Nat) (c : V), cs[i]? = some c → c.keep = true ∧ g.κ b (o + i) = some (f i))
      (h2 : ∀ (i : Nat) (c : V), cs[i]? = some c → RepC g.κ c (f i)) : RepA g (.ip cs) (.pointer (some (ad b o)))
  | ag (cs : List V) (arr : Array Value) (hn : arr.size = cs.length) (h1 : ∀ c, c ∈ cs → c.keep = true)
      (h2 : ∀ (i : Nat) (c : V), cs[i]? = some c → RepA g c (arr.getD i undef)) : RepA g (.ag cs) (.agg arr)
  | tu (xs : List V) (arr : Array Value) (hn : arr.size = xs.length) (h1 : ∀ x, x ∈ xs → isLp x = false)
      (h2 : ∀ (i : Nat) (x : V), xs[i]? = some x → RepA g x (arr.getD i undef)) : RepA g (.tu xs) (.tuple arr)
  | fc (t : TypeId) (v : V) (cv : Value) (hl : isLp v = false) (h : RepA g v cv) : RepA g (.fc t v) (.iface t cv)
  | fn (f : Nat) (first cap : List V) (a1 a2 : Array Value) (hn1 : a1.size = first.length) (hn2 : a2.size = cap.length)
      (hl1 : ∀ x, x ∈ first → isLp x = false) (hl2 : ∀ x, x ∈ cap → isLp x = false)
      (h1 : ∀ (i : Nat) (x : V), first[i]? = some x → RepA g x (a1.getD i undef)) (h2 : ∀ (i : Nat) (x : V), cap[i]? = some x → RepA g x (a2.getD i undef)) :
      RepA g (.fn f first cap) (.func (.func f) a1 a2)

def KLe (κ κ' : K) : Prop := ∀ b o v, κ b o = some v → κ' b o = some v

/-- lives go on: what is dead stays dead, what lives keeps its place or dies -/
def Life.le : Life → Life → Prop
  | .unb, _ => True
  | .dead, l => l = .dead
  | .live r, l => l = .live r ∨ l = .dead
  | .mlive b, l => l = .mlive b ∨ l = .dead

structure GLe (g g' : G) : Prop where
  κ : KLe g.κ g'.κ
  lf : ∀ id, (g.lf id).le (g'.lf id)

theorem RepC.mono {κ κ' : K} (h : KLe κ κ') {v : V} {cv : Value} (r : RepC κ v cv) : RepC κ' v cv := by
  induction r with
  | bo b => exact .bo b
  | it k n => exact .it k n
  | fl k b => exact .fl k b
  | st l s e => exact .st l s e
  | np => exact .np
  | ns => exact .ns
  | nf => exact .nf
  | nfn => exact .nfn
  | nm => exact .nm
  | vs sz es a cap b o f h1 h2 h3 h4 _ ih => exact .vs sz es a cap b o f h1 h2 h3 (fun i j e c he hc => ⟨(h4 i j e c he hc).1, h _ _ _ (h4 i j e c he hc).2⟩) ih

theorem GLe.live {g g' : G} (h : GLe g g') {id : Nat} {r : Rg} (e : g.lf id = .live r) : g'.lf id = .live r ∨ g'.lf id = .dead := by
  have := h.lf id; rw [e] at this; exact this
theorem GLe.mlive {g g' : G} (h : GLe g g') {id b : Nat} (e : g.lf id = .mlive b) : g'.lf id = .mlive b ∨ g'.lf id = .dead := by
  have := h.lf id; rw [e] at this; exact this
theorem GLe.dead {g g' : G} (h : GLe g g') {id : Nat} (e : g.lf id = .dead) : g'.lf id = .dead := by
  have := h.lf id; rw [e] at this; exact this

theorem GLe.refl (g : G) : GLe g g := ⟨fun _ _ _ h => h, fun id => by cases g.lf id <;> simp [Life.le]⟩
theorem Life.le_trans {a b c : Life} (h : a.le b) (h' : b.le c) : a.le c := by
  cases a with
  | unb => trivial
  | dead => simp only [Life.le] at h; subst h; exact h'
  | live r =>
    simp only [Life.le] at h
    rcases h with rfl | rfl
    · exact h'
    · simp only [Life.le] at h'; subst h'; exact .inr rfl
  | mlive b =>
    simp only [Life.le] at h
    rcases h with rfl | rfl
    · exact h'
    · simp only [Life.le] at h'; subst h'; exact .inr rfl
theorem GLe.trans {a b c : G} (h : GLe a b) (h' : GLe b c) : GLe a c :=
  ⟨fun _ _ _ e => h'.κ _ _ _ (h.κ _ _ _ e), fun id => Life.le_trans (h.lf id) (h'.lf id)⟩

theorem RepA.mono {g g' : G} (h : GLe g g') {v : V} {cv : Value} (r : RepA g v cv) : RepA g' v cv := by
  induction r with
  | un cv => exact .un cv
  | c v cv e => exact .c v cv (e.mono h.κ)
  | pt id i off a e =>
    refine .pt id i off a ?_
    rcases e with e | ⟨r, e, ea⟩
    · exact .inl (h.dead e)
    · rcases h.live e with e' | e'
      · exact .inr ⟨r, e', ea⟩
      · exact .inl e'
  | hs id i len a cap e0 e =>
    refine .hs id i len a cap e0 ?_
    rcases e with e | ⟨r, e, ea⟩
    · exact .inl (h.dead e)
    · rcases h.live e with e' | e'
      · exact .inr ⟨r, e', ea⟩
      · exact .inl e'
  | mp id b e =>
    refine .mp id b ?_
    rcases e with e | e
    · exact .inl (h.dead e)
    · rcases h.mlive e with e' | e'
      · exact .inr e'
      · exact .inl e'
  | ip cs b o f h1 h2 => exact .ip cs b o f (fun i c hc => ⟨(h1 i c hc).1, h.κ _ _ _ (h1 i c hc).2⟩) (fun i c hc => (h2 i c hc).mono h.κ)
  | ag cs arr hn h1 _ ih => exact .ag cs arr hn h1 ih
  | tu xs arr hn h1 _ ih => exact .tu xs arr hn h1 ih
  | fc t v cv hl _ ih => exact .fc t v cv hl ih
  | fn f first cap a1 a2 hn1 hn2 hl1 hl2 _ _ i1 i2 => exact .fn f first cap a1 a2 hn1 hn2 hl1 hl2 i1 i2

/-- does a value fill one cell? -/
def oneC : Value → Bool
  | .agg _ | .tuple _ => false
  | _ => true

theorem RepC.oneC {κ : K} {v : V} {cv : Value} (r : RepC κ v cv) : Ev.oneC cv = true := by cases r <;> rfl
theorem RepA.oneC {g : G} {v : V} {cv : Value} (r : RepA g v cv) (k : v.keep = true) : Ev.oneC cv = true := by
  cases r with
  | c v cv h => exact h.oneC
  | un | ag | tu => simp [V.keep] at k
  | _ => rfl

theorem RepA.hs_inv {g : G} {id i len : Nat} {cv : Value} (h : RepA g (.hs id i len) cv) : ∃ a cap, cv = .slice a len cap ∧ len ≤ cap ∧
    (g.lf id = .dead ∨ ∃ r, g.lf id = .live r ∧ (cap = 0 ∨ (a = some (ad r.b (r.base + i * r.sz)) ∧ i + cap ≤ r.cap))) := by
  cases h with
  | c _ _ h => cases h
  | hs _ _ _ a cap h0 h => exact ⟨a, cap, rfl, h0, h⟩

theorem RepA.pt_inv {g : G} {id i off : Nat} {cv : Value} (h : RepA g (.pt id i off) cv) : ∃ a, cv = .pointer (some a) ∧
    (g.lf id = .dead ∨ ∃ r, g.lf id = .live r ∧ a = ad r.b (r.base + i * r.sz + off)) := by
  cases h with
  | c _ _ h => cases h
  | pt _ _ _ a h => exact ⟨a, rfl, h⟩

theorem RepA.mp_inv {g : G} {id : Nat} {cv : Value} (h : RepA g (.mp id) cv) : ∃ b, cv = .map (some b) ∧ (g.lf id = .dead ∨ g.lf id = .mlive b) := by
  cases h with
  | c _ _ h => cases h
  | mp _ b h => exact ⟨b, rfl, h⟩
theorem RepA.nm_inv {g : G} {cv : Value} (h : RepA g .nm cv) : cv = .map none := by
  cases h with | c _ _ h => cases h; rfl

theorem RepA.ip_inv {g : G} {cs : List V} {cv : Value} (h : RepA g (.ip cs) cv) : ∃ (b o : Nat) (f : Nat → Value), cv = .pointer (some (ad b o)) ∧
    (∀ (i : Nat) (c : V), cs[i]? = some c → c.keep = true ∧ g.κ b (o + i) = some (f i)) ∧ (∀ (i : Nat) (c : V), cs[i]? = some c → RepC g.κ c (f i)) := by
  cases h with
  | c _ _ h => cases h
  | ip _ b o f h1 h2 => exact ⟨b, o, f, rfl, h1, h2⟩

theorem RepA.ag_inv {g : G} {cs : List V} {cv : Value} (h : RepA g (.ag cs) cv) : ∃ arr : Array Value, cv = .agg arr ∧ arr.size = cs.length ∧ (∀ c, c ∈ cs → c.keep = true) ∧
    (∀ (i : Nat) (c : V), cs[i]? = some c → RepA g c (arr.getD i undef)) := by
  cases h with
  | c _ _ h => cases h
  | ag _ arr a b c => exact ⟨arr, rfl, a, b, c⟩

theorem RepA.tu_inv {g : G} {cs : List V} {cv : Value} (h : RepA g (.tu cs) cv) : ∃ arr : Array Value, cv = .tuple arr ∧ arr.size = cs.length ∧ (∀ c, c ∈ cs → isLp c = false) ∧
    (∀ (i : Nat) (c : V), cs[i]? = some c → RepA g c (arr.getD i undef)) := by
  cases h with
  | c _ _ h => cases h
  | tu _ arr a b c => exact ⟨arr, rfl, a, b, c⟩

theorem RepA.vs_inv {g : G} {sz : Nat} {es : List (List V)} {cv : Value} (h : RepA g (.vs sz es) cv) : ∃ (a : Option Addr) (cap b o : Nat) (f : Nat → Nat → Value), cv = .slice a es.length cap ∧
    (∀ e, e ∈ es → e.length = sz) ∧ (es ≠ [] → a = some (ad b o)) ∧ es.length ≤ cap ∧
    (∀ (i j : Nat) (e : List V) (c : V), es[i]? = some e → e[j]? = some c → c.keep = true ∧ g.κ b (o + i * sz + j) = some (f i j)) ∧
    (∀ (i j : Nat) (e : List V) (c : V), es[i]? = some e → e[j]? = some c → RepC g.κ c (f i j)) := by
  cases h with
  | c _ _ h => cases h with
    | vs _ _ a cap b o f h1 h2 h3 h4 h5 => exact ⟨a, cap, b, o, f, rfl, h1, h2, h3, h4, h5⟩

theorem RepA.ns_inv {g : G} {cv : Value} (h : RepA g .ns cv) : cv = .slice none 0 0 := by
  cases h with | c _ _ h => cases h; rfl
theorem RepA.np_inv {g : G} {cv : Value} (h : RepA g .np cv) : cv = .pointer none := by
  cases h with | c _ _ h => cases h; rfl
theorem RepA.bo_inv {g : G} {b : Bool} {cv : Value} (h : RepA g (.bo b) cv) : cv = .bool b := by
  cases h with | c _ _ h => cases h; rfl
theorem RepA.it_inv {g : G} {k : IntKind} {n : Int} {cv : Value} (h : RepA g (.it k n) cv) : cv = .int k n := by
  cases h with | c _ _ h => cases h; rfl
theorem RepA.st_inv {g : G} {l : List Nat} {cv : Value} (h : RepA g (.st l) cv) : ∃ s, cv = .string s ∧ s.data.toList.map UInt8.toNat = l := by
  cases h with | c _ _ h => cases h; exact ⟨_, rfl, ‹_›⟩
theorem RepA.fc_inv {g : G} {t : TypeId} {v : V} {cv : Value} (h : RepA g (.fc t v) cv) : ∃ x, cv = .iface t x ∧ isLp v = false ∧ RepA g v x := by
  cases h with
  | c _ _ h => cases h
  | fc _ _ x a b => exact ⟨x, rfl, a, b⟩
theorem RepA.nf_inv {g : G} {cv : Value} (h : RepA g .nf cv) : cv = .nilIface := by
  cases h with | c _ _ h => cases h; rfl
theorem RepA.fn_inv {g : G} {f : Nat} {first cap : List V} {cv : Value} (h : RepA g (.fn f first cap) cv) : ∃ a1 a2 : Array Value, cv = .func (.func f) a1 a2 ∧ a1.size = first.length ∧ a2.size = cap.length ∧
    (∀ x, x ∈ first → isLp x = false) ∧ (∀ x, x ∈ cap → isLp x = false) ∧
    (∀ (i : Nat) (x : V), first[i]? = some x → RepA g x (a1.getD i undef)) ∧ (∀ (i : Nat) (x : V), cap[i]? = some x → RepA g x (a2.getD i undef)) := by
  cases h with
  | c _ _ h => cases h
  | fn _ _ _ a1 a2 h1 h2 h3 h4 h5 h6 => exact ⟨a1, a2, rfl, h1, h2, h3, h4, h5, h6⟩

/-- a slot's value -/
def RepT (g : G) (ν : Nat → Option Nat) (v : V) (cv : Value) : Prop :=
  match v with
  | .lp t off => ∃ b, ν t = some b ∧ cv = .pointer (some (ad b off))
  | v => RepA g v cv

theorem RepT.ofA {g : G} {ν : Nat → Option Nat} {v : V} {cv : Value} (h : RepA g v cv) : RepT g ν v cv := by
  cases v <;> first | exact h | (cases h; rename_i h; cases h)

theorem RepT.toA {g : G} {ν : Nat → Option Nat} {v : V} {cv : Value} (h : RepT g ν v cv) (n : isLp v = false) : RepA g v cv := by
  cases v <;> first | exact h | simp [isLp] at n

/-- no cell of a block is marked -/
def Unf (w : World) (b : Nat) : Prop := ∃ C e fr, w.heap[b]? = some (.cells C e fr) ∧ (fr.1 = fr.2 ∨ C.size ≤ fr.1)

/-- a cell of an object's -/
structure BkR (g : G) (w : World) (r : Rg) (bk : Bk) : Prop where
  sz : r.sz = bk.sz
  len : bk.es.length ≤ r.cap
  row : ∀ e, e ∈ bk.es → e.length = bk.sz
  cont : ∀ (i j : Nat) (e : List V) (c : V), bk.es[i]? = some e → e[j]? = some c → c.keep = true ∧ ∃ cv, w.cell? (ad r.b (r.base + i * r.sz + j)) = some cv ∧ RepA g c cv
  rw : bk.fr = false → ∀ k, k < r.cap * r.sz → (∃ cv, w.cell? (ad r.b (r.base + k)) = some cv) ∧ w.frozen? (ad r.b (r.base + k)) = false ∧ g.κ r.b (r.base + k) = none
  frz : bk.fr = true → ∀ (i j : Nat) (e : List V) (c : V), bk.es[i]? = some e → e[j]? = some c → ∃ cv, g.κ r.b (r.base + i * r.sz + j) = some cv
  blk : bk.fr = false → Unf w r.b

/-- do two places meet? -/
def Rg.apart (r r' : Rg) : Prop := ∀ k k', k < r.cap * r.sz → k' < r'.cap * r'.sz → ¬ (r.b = r'.b ∧ r.base + k = r'.base + k')

/-- a map's entries -/
structure MpR (g : G) (w : World) (b : Nat) (bk : Bk) : Prop where
  sz : bk.sz = 2
  fr : bk.fr = false
  ex : ∃ (es : Array MapEntry) (clock : Nat), w.heap[b]? = some (.map es clock) ∧ es.size = bk.es.length ∧
    ∀ (i : Nat) (x : List V), bk.es[i]? = some x → ∃ (l : List Nat) (v : V) (e : MapEntry) (s : ByteArray), x = [.st l, v] ∧ v.keep = true ∧ es[i]? = some e ∧ e.key = .string s ∧ s.data.toList.map UInt8.toNat = l ∧ RepA g v e.val

structure MHR (g : G) (hp : Hp) (w : World) : Prop where
  live : ∀ id b, g.lf id = .mlive b → ∃ bk, hget hp id = some bk ∧ MpR g w b bk
  sep : ∀ id id' b, id ≠ id' → g.lf id = .mlive b → g.lf id' = .mlive b → False

theorem MHR.mono {g g' : G} {hp hp' : Hp} {w w' : World} (h : MHR g hp w) (hm : ∀ (b : Nat) es c, w.heap[b]? = some (Obj.map es c) → w'.heap[b]? = some (Obj.map es c)) (hle : ∀ v cv, RepA g v cv → RepA g' v cv)
    (hlf : ∀ id b, g'.lf id = .mlive b → g.lf id = .mlive b) (hg : ∀ id b, g'.lf id = .mlive b → hget hp' id = hget hp id) : MHR g' hp' w' := by
  refine ⟨fun id b e => ?_, fun id id' b hne e e' => h.sep id id' b hne (hlf id b e) (hlf id' b e')⟩
  obtain ⟨bk, h1, ⟨h2, h3, es, c, h4, h5, h6⟩⟩ := h.live id b (hlf id b e)
  refine ⟨bk, by rw [hg id b e]; exact h1, ⟨h2, h3, es, c, hm b es c h4, h5, fun i x hx => ?_⟩⟩
  obtain ⟨l, v, en, s, q1, q2, q3, q4, q5, q6⟩ := h6 i x hx
  exact ⟨l, v, en, s, q1, q2, q3, q4, q5, hle _ _ q6⟩

/-- a map of the heap's -/
def OwnM (g : G) (b : Nat) : Prop := ∃ id, g.lf id = .mlive b

structure HR (g : G) (hp : Hp) (w : World) : Prop where
  mp : MHR g hp w
  lim : hp.lim ≤ hp.next
  nil : ∀ id, hp.next ≤ id → hget hp id = none
  bnd : ∀ id, id < hp.next → g.lf id ≠ .unb
  kap : ∀ b o v, g.κ b o = some v → w.cell? (ad b o) = some v
  unb : ∀ id, hp.next ≤ id → g.lf id = .unb
  dead : ∀ id, g.lf id = .dead → hget hp id = none
  live : ∀ id r, g.lf id = .live r → ∃ bk, hget hp id = some bk ∧ BkR g w r bk
  sep : ∀ id id' r r' bk bk', id ≠ id' → g.lf id = .live r → g.lf id' = .live r' → hget hp id = some bk → hget hp id' = some bk' → bk.fr = false → bk'.fr = false → r.apart r'

/-- the cells that the heap may write -/
def Own (g : G) (hp : Hp) (b o : Nat) : Prop :=
  ∃ id r bk k, g.lf id = .live r ∧ hget hp id = some bk ∧ bk.fr = false ∧ k < r.cap * r.sz ∧ b = r.b ∧ o = r.base + k

/-- what becomes of the world: all that the heap did not own stays; what it owns is new, or was its own -/
structure Evo (g : G) (hp : Hp) (w : World) (g' : G) (hp' : Hp) (w' : World) : Prop where
  le : GLe g g'
  next : hp.next ≤ hp'.next
  lim : hp'.lim = hp.lim
  ro : ∀ id, id < hp.lim → hget hp' id = hget hp id
  size : w.heap.size ≤ w'.heap.size
  cell : ∀ b o v, w.cell? (ad b o) = some v → ¬ Own g hp b o → w'.cell? (ad b o) = some v
  frozen : ∀ b o v, w.cell? (ad b o) = some v → ¬ Own g hp b o → w'.frozen? (ad b o) = w.frozen? (ad b o)
  own : ∀ b o, Own g' hp' b o → Own g hp b o ∨ w.heap.size ≤ b
  κ : ∀ b o v, g'.κ b o = some v → g.κ b o = some v ∨ Own g hp b o ∨ w.heap.size ≤ b
  wd : (w'.os = w.os ∧ w'.output = w.output) ∧ (∀ b, Unf w b → Unf w' b) ∧ (∀ b, b < w.heap.size → (∀ o, ¬ Own g hp b o) → ¬ OwnM g b → w'.heap[b]? = w.heap[b]?) ∧ ∀ b, OwnM g' b → OwnM g b ∨ w.heap.size ≤ b

theorem cell_block {w : World} {b o : Nat} {v : Value} (h : w.cell? (ad b o) = some v) : b < w.heap.size := by
  unfold World.cell? ad at h
  rcases Nat.lt_or_ge b w.heap.size with h' | h'
  · exact h'
  · simp [Array.getElem?_eq_none h'] at h

theorem Evo.refl (g : G) (hp : Hp) (w : World) : Evo g hp w g hp w :=
  ⟨GLe.refl g, Nat.le_refl _, rfl, fun _ _ => rfl, Nat.le_refl _, fun _ _ _ h _ => h, fun _ _ _ _ _ => rfl, fun _ _ h => .inl h, fun _ _ _ h => .inl h, ⟨rfl, rfl⟩, fun _ h => h, fun _ _ _ _ => rfl, fun _ h => .inl h⟩

theorem Evo.trans {g1 : G} {h1 : Hp} {w1 : World} {g2 : G} {h2 : Hp} {w2 : World} {g3 : G} {h3 : Hp} {w3 : World}
    (a : Evo g1 h1 w1 g2 h2 w2) (b : Evo g2 h2 w2 g3 h3 w3) : Evo g1 h1 w1 g3 h3 w3 where
  le := a.le.trans b.le
  next := Nat.le_trans a.next b.next
  lim := b.lim.trans a.lim
  ro := fun id h => (b.ro id (a.lim ▸ h)).trans (a.ro id h)
  size := Nat.le_trans a.size b.size
  cell := fun x y v h n => by
    refine b.cell x y v (a.cell x y v h n) fun o => ?_
    rcases a.own x y o with o | o
    · exact n o
    · have := cell_block h; omega
  frozen := fun x y v h n => by
    rw [b.frozen x y v (a.cell x y v h n) fun o => ?_, a.frozen x y v h n]
    rcases a.own x y o with o | o
    · exact n o
    · have := cell_block h; omega
  own := fun x y o => by
    rcases b.own x y o with o | o
    · exact a.own x y o
    · exact .inr (Nat.le_trans a.size o)
  κ := fun x y v e => by
    rcases b.κ x y v e with e | o | o
    · exact a.κ x y v e
    · rcases a.own x y o with o | o
      · exact .inr (.inl o)
      · exact .inr (.inr o)
    · exact .inr (.inr (Nat.le_trans a.size o))
  wd := ⟨⟨b.wd.1.1.trans a.wd.1.1, b.wd.1.2.trans a.wd.1.2⟩, fun x h => b.wd.2.1 x (a.wd.2.1 x h), fun x hx hn hm => by
    rw [b.wd.2.2.1 x (Nat.lt_of_lt_of_le hx a.size) (fun o ho => ?_) (fun ho => ?_), a.wd.2.2.1 x hx hn hm]
    · rcases a.own x o ho with q | q
      · exact hn o q
      · omega
    · rcases a.wd.2.2.2 x ho with q | q
      · exact hm q
      · omega, fun x ho => by
    rcases b.wd.2.2.2 x ho with q | q
    · exact a.wd.2.2.2 x q
    · exact .inr (Nat.le_trans a.size q)⟩

end Ev
