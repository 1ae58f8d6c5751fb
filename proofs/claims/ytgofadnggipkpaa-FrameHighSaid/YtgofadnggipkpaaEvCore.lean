import GoSem.Core.Layout
import GoSem.Core.Code
set_option linter.unusedVariables false
namespace Ev
open Go

/-- abstract values: slices that nobody writes any more stand by value ('vs'), other memory by the numbers of objects -/
inductive V where
  | un
  | bo (x : Bool)
  | it (k : IntKind) (n : Int)
  | fl (k : FloatKind) (bits : Nat)
  | st (l : List Nat)
  | np
  | pt (id i off : Nat)
  | lp (t off : Nat)
  | ip (cs : List V)
  | ns
  | vs (sz : Nat) (es : List (List V))
  | hs (id i len : Nat)
  | ag (cs : List V)
  | tu (xs : List V)
  | fc (t : TypeId) (v : V)
  | nf
  | fn (f : Nat) (first cap : List V)
  | nfn
  | mp (id : Nat)
  | nm
  deriving Inhabited

inductive A where
  | t (n : Nat)
  | k (v : V)
  deriving Inhabited

/-- kinds of conversion -/
inductive Cv where
  | int (k : IntKind)
  | s2s
  | s2v
  | s2b
  | b2s
  deriving Inhabited

/-- what stands in a cell: one value, or a slice of rows of cells -/
inductive Ty where
  | one
  | sl (cs : List Ty)
  deriving Inhabited

/-- a parameter or a result: one cell, or a struct's cells -/
inductive PT where
  | c (t : Ty)
  | g (ts : List Ty)
  deriving Inhabited

/-- an object of the abstract heap: rows of cells -/
structure Bk where
  sz : Nat
  fr : Bool
  es : List (List V)
  deriving Inhabited

/-- a tree of objects by number -/
inductive Tr where
  | e
  | n (b : Option Bk) (l r : Tr)
  deriving Inhabited

def Tr.get : Tr → Nat → Option Bk
  | .e, _ => none
  | .n b l r, k => bif Nat.beq k 0 then b else bif Nat.beq (k % 2) 1 then l.get (k / 2) else r.get (k / 2 - 1)

def Tr.val : Tr → Option Bk
  | .e => none
  | .n b _ _ => b
def Tr.left : Tr → Tr
  | .e => .e
  | .n _ l _ => l
def Tr.right : Tr → Tr
  | .e => .e
  | .n _ _ r => r

def Tr.setAt : Nat → Tr → Nat → Option Bk → Tr
  | 0, t, _, _ => t
  | f + 1, t, k, x =>
    bif Nat.beq k 0 then .n x t.left t.right else bif Nat.beq (k % 2) 1 then .n t.val (t.left.setAt f (k / 2) x) t.right
    else .n t.val t.left (t.right.setAt f (k / 2 - 1) x)

/-- the heap: the next number; what stands below 'lim' is only read -/
structure Hp where
  next : Nat
  lim : Nat
  tr : Tr
  deriving Inhabited

abbrev Tm := Nat → V
abbrev Lo := Nat → Option (List V)

structure St where
  tm : Tm
  lo : Lo
  hp : Hp

/-- how a piece of code ends -/
inductive R where
  | bad
  | norm (st : St)
  | exit (id : Nat) (st : St)
  | ret (st : St)
  | pan (v : V) (st : St)

inductive CR where
  | bad
  | ret (v : V) (hp : Hp)
  | pan (v : V) (hp : Hp)
  deriving Inhabited

def V.cells : V → List V
  | .ag cs => cs
  | v => [v]

/-- may a value stand in a cell? -/
def V.keep : V → Bool
  | .un | .lp .. | .ag _ | .tu _ => false
  | _ => true

def isLp : V → Bool
  | .lp .. => true
  | _ => false

def get (tm : Tm) : A → V
  | .t n => tm n
  | .k v => v

def upd (tm : Tm) (d : Nat) (v : V) : Tm := fun j => bif Nat.beq j d then v else tm j
def lset (lo : Lo) (d : Nat) (cs : List V) : Lo := fun j => bif Nat.beq j d then some cs else lo j

def hget (hp : Hp) (id : Nat) : Option Bk := hp.tr.get id
def hset (hp : Hp) (id : Nat) (b : Option Bk) : Hp := ⟨hp.next, hp.lim, hp.tr.setAt (id + 1) id b⟩
def hnew (hp : Hp) (b : Bk) : Hp := ⟨hp.next + 1, hp.lim, hp.tr.setAt (hp.next + 1) hp.next (some b)⟩
def h0 : Hp := ⟨0, 0, .e⟩

/-- cells put over a place -/
def over {α : Type} (off : Nat) (xs cs : List α) : List α := cs.take off ++ (xs ++ cs.drop (off + xs.length))

def byte (n : Nat) : V := .it .u8 (Int.ofNat n)
def unbyte : List V → Option Nat
  | [.it .u8 n] => some (n.toNat % 256)
  | _ => none

def allSome {α β : Type} (f : α → Option β) : List α → Option (List β)
  | [] => some []
  | x :: r => match f x, allSome f r with
    | some y, some s => some (y :: s)
    | _, _ => none

/-- how long a string is, a slice -/
def lenOf (s : Bool) : V → Option Nat
  | .st l => bif s then some l.length else none
  | .ns => bif s then none else some 0
  | .vs _ es => bif s then none else some es.length
  | .hs _ _ len => bif s then none else some len
  | _ => none

def i64 (n : Int) : V := .it .i64 n

/-- a number brought into a signed or unsigned range (the kernel's own arithmetic on Nat) -/
def wrS (half full : Nat) : Int → Int
  | .ofNat a => bif Nat.blt (a % full) half then .ofNat (a % full) else .negSucc (full - 1 - a % full)
  | .negSucc a => bif Nat.blt (a % full) half then .negSucc (a % full) else .ofNat (full - 1 - a % full)
def wrU (full : Nat) : Int → Int
  | .ofNat a => .ofNat (a % full)
  | .negSucc a => .ofNat (full - 1 - a % full)
def wr : IntKind → Int → Int
  | .i64 => wrS 9223372036854775808 18446744073709551616
  | .i32 => wrS 2147483648 4294967296
  | .i16 => wrS 32768 65536
  | .i8 => wrS 128 256
  | .u64 => wrU 18446744073709551616
  | .u32 => wrU 4294967296
  | .u16 => wrU 65536
  | .u8 => wrU 256

def ilt : Int → Int → Bool
  | .ofNat a, .ofNat b => Nat.blt a b
  | .ofNat _, .negSucc _ => false
  | .negSucc _, .ofNat _ => true
  | .negSucc a, .negSucc b => Nat.blt b a
def ieq : Int → Int → Bool
  | .ofNat a, .ofNat b => Nat.beq a b
  | .negSucc a, .negSucc b => Nat.beq a b
  | _, _ => false
def kbits : IntKind → Nat
  | .i8 | .u8 => 8
  | .i16 | .u16 => 16
  | .i32 | .u32 => 32
  | .i64 | .u64 => 64
def keq : IntKind → IntKind → Bool
  | .i8, .i8 | .i16, .i16 | .i32, .i32 | .i64, .i64 | .u8, .u8 | .u16, .u16 | .u32, .u32 | .u64, .u64 => true
  | _, _ => false
/-- an integer's residue -/
def toU (full : Nat) : Int → Nat
  | .ofNat a => a % full
  | .negSucc a => full - 1 - a % full
def beqL : List Nat → List Nat → Bool
  | [], [] => true
  | a :: x, b :: y => bif Nat.beq a b then beqL x y else false
  | _, _ => false
def strLt : List Nat → List Nat → Bool
  | _, [] => false
  | [], _ :: _ => true
  | a :: x, b :: y => bif Nat.blt a b then true else bif Nat.beq a b then strLt x y else false

/-- what is compared, where it is no number and no string: pointers, truth values, slices with nil -/
inductive Qk where
  | no | ptr | bo | sl
  | ag (ks : List Nat)
  deriving Inhabited

/-- cells held against each other -/
def eqAll : List Nat → List V → List V → Option Bool
  | [], [], [] => some true
  | 0 :: ks, .it k a :: x, .it k' b :: y => bif keq k k' then (match eqAll ks x y with
    | some r => some (ieq a b && r)
    | none => none) else none
  | 1 :: ks, .st a :: x, .st b :: y => match eqAll ks x y with
    | some r => some (beqL a b && r)
    | none => none
  | 2 :: ks, .bo a :: x, .bo b :: y => match eqAll ks x y with
    | some r => some ((a == b) && r)
    | none => none
  | _, _, _ => none

def eqv (q : Qk) (x y : V) : Option Bool :=
  match q with
  | .bo => match x, y with
    | .bo a, .bo b => some (a == b)
    | _, _ => none
  | .ptr => match x, y with
    | .np, .np => some true
    | .np, .pt .. => some false
    | .pt .., .np => some false
    | _, _ => none
  | .sl => match x, y with
    | .ns, .ns => some true
    | .ns, .vs _ (_ :: _) => some false
    | .vs _ (_ :: _), .ns => some false
    | _, _ => none
  | .ag ks => match x, y with
    | .ag xs, .ag ys => eqAll ks xs ys
    | _, _ => none
  | .no => none

def fill : List (Nat × Nat × V) → List V → Option (List V)
  | [], cs => some cs
  | (off, n, v) :: r, cs =>
    bif Nat.beq v.cells.length n then bif Nat.ble (off + n) cs.length then bif v.cells.all V.keep then fill r (over off v.cells cs) else none else none else none

def fillE (sz : Nat) : List (Nat × V) → List (List V) → Option (List (List V))
  | [], es => some es
  | (i, v) :: r, es =>
    bif Nat.beq v.cells.length sz then bif Nat.blt i es.length then bif v.cells.all V.keep then fillE sz r (es.set i v.cells) else none else none else none

/-- a block is written no more -/
def freeze (hp : Hp) (id : Nat) : Hp := match hget hp id with
  | some b => hset hp id (some ⟨b.sz, true, b.es⟩)
  | none => hp

mutual
/-- a cell without the heap: slices by value, their blocks written no more; none: it has a pointer -/
def closeC : Nat → Ty → V → Hp → Option (V × Hp)
  | 0, _, _, _ => none
  | n + 1, .sl cs, v, hp => match v with
    | .ns => some (.vs cs.length [], hp)
    | .vs sz es => bif Nat.beq sz cs.length then some (.vs sz es, hp) else none
    | .hs id i len => match hget hp id with
      | some b => bif Nat.blt id hp.lim then none else bif Nat.beq b.sz cs.length then bif Nat.ble (i + len) b.es.length then
          match closeEs n cs ((b.es.drop i).take len) (freeze hp id) with
          | some (es, h) => some (.vs b.sz es, h)
          | none => none else none else none
      | none => none
    | _ => none
  | _ + 1, .one, v, hp => match v with
    | .bo x => some (.bo x, hp)
    | .it k x => some (.it k x, hp)
    | .fl k x => some (.fl k x, hp)
    | .st l => some (.st l, hp)
    | .np => some (.np, hp)
    | .nf => some (.nf, hp)
    | .nfn => some (.nfn, hp)
    | _ => none
def closeCs : Nat → List Ty → List V → Hp → Option (List V × Hp)
  | 0, _, _, _ => none
  | _ + 1, [], [], hp => some ([], hp)
  | n + 1, t :: ts, v :: vs, hp => match closeC n t v hp with
    | some (x, h) => match closeCs n ts vs h with
      | some (xs, h) => some (x :: xs, h)
      | none => none
    | none => none
  | _, _, _, _ => none
def closeEs : Nat → List Ty → List (List V) → Hp → Option (List (List V) × Hp)
  | 0, _, _, _ => none
  | _ + 1, _, [], hp => some ([], hp)
  | n + 1, ts, e :: r, hp => match closeCs n ts e hp with
    | some (x, h) => match closeEs n ts r h with
      | some (xs, h) => some (x :: xs, h)
      | none => none
    | none => none
end

def depth : Nat := 100000000

def closeP (t : PT) (v : V) (hp : Hp) : Option (V × Hp) :=
  match t, v with
  | .c t, v => closeC depth t v hp
  | .g ts, .ag cs => match closeCs depth ts cs hp with
    | some (xs, h) => some (.ag xs, h)
    | none => none
  | _, _ => none

def closeAll : List PT → List V → Hp → Option (List V × Hp)
  | [], [], hp => some ([], hp)
  | t :: ts, v :: vs, hp => match closeP t v hp with
    | some (x, h) => match closeAll ts vs h with
      | some (xs, h) => some (x :: xs, h)
      | none => none
    | none => none
  | _, _, _ => none

def unop (op : UnOp) : V → Option V
  | .bo b => match op with
    | .not => some (.bo (!b))
    | _ => none
  | .it k n => match op with
    | .neg => some (.it k (wr k (0 - n)))
    | .xor => some (.it k (wr k (.ofNat (Nat.xor (toU (2 ^ kbits k) (-1)) (toU (2 ^ kbits k) n)))))
    | _ => none
  | _ => none

def minmax (mx : Bool) : V → V → Option V
  | .it k a, .it k' b => bif keq k k' then some (.it k (bif mx then (bif ilt a b then b else a) else (bif ilt b a then b else a))) else none
  | _, _ => none

/-- a run, its decisions laid open: what is done, what must be so, which way it goes, what is called, what goes round -/
inductive D where
  | bad
  | done (r : R)
  | chk (b : Bool) (d : D)
  | br (b : Bool) (x y : D)
  | call (own : Bool) (f : Nat) (xs : List V) (hp : Hp) (k : CR → D)
  | loop (keep drop : List Nat) (body : St → D) (st : St) (k : R → D)

/-- an instruction: slots with addresses that others of its region use; the region's passing slots; the slot that is written; the state; what is done with its value -/
abbrev Ins := List Nat → List Nat → Nat → St → (V → St → D) → (V → St → D) → D

def oneD {α : Type} (o : Option α) (k : α → D) : D :=
  match o with
  | some v => k v
  | none => .bad

def pickC (n : Nat) (g : Bool) (cs : List V) : Option V :=
  bif g then some (.ag cs) else bif Nat.beq n 1 then cs.head? else none

def hasN : List Nat → Nat → Bool
  | [], _ => false
  | a :: r, d => bif Nat.beq a d then true else hasN r d

/-- an address put on; a box's own stays in a passing slot -/
def moveD (clr : List Nat) (d : Nat) (off : Nat) (v : V) (k : V → D) : D :=
  match v with
  | .pt id i o => k (.pt id i (o + off))
  | .lp t o => bif hasN clr d then k (.lp t (o + off)) else .bad
  | .ip cs => .chk (Nat.ble off cs.length) (k (.ip (cs.drop off)))
  | _ => .bad

/-- no address of box d stands in these slots -/
def fresh (us : List Nat) (tm : Tm) (d : Nat) : Bool :=
  match us with
  | [] => true
  | t :: r => match tm t with
    | .lp e _ => bif Nat.beq e d then false else fresh r tm d
    | _ => fresh r tm d

/-- no address in object id stands in these slots -/
def freshH (us : List Nat) (tm : Tm) (id : Nat) : Bool :=
  match us with
  | [] => true
  | t :: r => match tm t with
    | .pt e _ _ => bif Nat.beq e id then false else freshH r tm id
    | .hs e _ _ => bif Nat.beq e id then false else freshH r tm id
    | .mp e => bif Nat.beq e id then false else freshH r tm id
    | _ => freshH r tm id

def St.setLo (st : St) (d : Nat) (cs : List V) : St := ⟨st.tm, lset st.lo d cs, st.hp⟩
def St.setHp (st : St) (h : Hp) : St := ⟨st.tm, st.lo, h⟩
/-- a new object -/
def mk (st : St) (b : Bk) : St := st.setHp (hnew st.hp b)

/-- cells from a place on -/
def cutD (n off : Nat) (cs : List V) (k : List V → D) : D :=
  .chk (Nat.ble (off + n) cs.length) (k ((cs.drop off).take n))

def loadD (st : St) (n : Nat) (v : V) (k : List V → D) : D :=
  match v with
  | .ip cs => cutD n 0 cs k
  | .lp t off => match st.lo t with
    | some cs => cutD n off cs k
    | none => .bad
  | .pt id i off => match hget st.hp id with
    | some b => .chk (Nat.blt i b.es.length) (cutD n off (b.es.getD i []) k)
    | none => .bad
  | _ => .bad

def storeD (us : List Nat) (st : St) (xs : List V) (v : V) (k : St → D) : D :=
  match v with
  | .lp t off => match st.lo t with
    | some cs => bif fresh us st.tm t then .chk (Nat.ble (off + xs.length) cs.length) (k (st.setLo t (over off xs cs))) else .bad
    | none => .bad
  | .pt id i off => match hget st.hp id with
    | some b => bif b.fr then .bad else bif Nat.blt id st.hp.lim then .bad else bif freshH us st.tm id then
        .chk (Nat.blt i b.es.length) (.chk (Nat.ble (off + xs.length) (b.es.getD i []).length)
        (k (st.setHp (hset st.hp id (some ⟨b.sz, b.fr, b.es.set i (over off xs (b.es.getD i []))⟩))))) else .bad
    | none => .bad
  | _ => .bad

/-- what a slice holds, in elements of so many cells -/
def elemsD (hp : Hp) (sz : Nat) (v : V) (k : List (List V) → D) : D :=
  match v with
  | .ns => k []
  | .vs n es => bif Nat.beq n sz then k es else .bad
  | .hs id i len => match hget hp id with
    | some b => bif Nat.beq b.sz sz then .chk (Nat.ble (i + len) b.es.length) (k ((b.es.drop i).take len)) else .bad
    | none => .bad
  | _ => .bad

/-- what a slice or a string holds -/
def rowsD (hp : Hp) (sz : Nat) (v : V) (k : List (List V) → D) : D :=
  match v with
  | .st l => bif Nat.beq sz 1 then k (l.map fun n => [byte n]) else .bad
  | v => elemsD hp sz v k

def notLpD (v : V) (k : V → D) : D :=
  match v with
  | .lp .. => .bad
  | v => k v

def iMov (x : A) : Ins := fun _ _ _ st k _ => notLpD (get st.tm x) fun v => k v st
def iPick (c a b : A) : Ins := fun _ _ _ st k _ => match get st.tm c with
  | .bo t => .br t (notLpD (get st.tm a) fun v => k v st) (notLpD (get st.tm b) fun v => k v st)
  | _ => .bad
def iAlc (z : List V) : Ins := fun us _ d st k _ => bif fresh us st.tm d then k (.lp d 0) (st.setLo d z) else .bad
def iAlh (z : List V) : Ins := fun _ _ _ st k _ => k (.pt st.hp.next 0 0) (mk st ⟨z.length, false, [z]⟩)
def iBox (x : A) : Ins := fun us _ d st k _ =>
  bif (get st.tm x).cells.all V.keep then bif fresh us st.tm d then k (.lp d 0) (st.setLo d (get st.tm x).cells) else .bad else .bad
def iBxh (x : A) : Ins := fun _ _ _ st k _ =>
  bif (get st.tm x).cells.all V.keep then k (.pt st.hp.next 0 0) (mk st ⟨(get st.tm x).cells.length, false, [(get st.tm x).cells]⟩) else .bad
def iBld (z : List V) (ps : List (Nat × Nat × A)) : Ins := fun _ _ _ st k _ =>
  oneD ((fill (ps.map fun (o, n, a) => (o, n, get st.tm a)) z).map .ag) fun v => k v st
def iBsl (sz : Nat) (es : List (List V)) (ps : List (Nat × A)) : Ins := fun _ _ _ st k _ =>
  match fillE sz (ps.map fun (i, a) => (i, get st.tm a)) es with
  | some es => k (.hs st.hp.next 0 es.length) (mk st ⟨sz, false, es⟩)
  | none => .bad
/-- a slice's literal, by value -/
def iBsv (ts : List Ty) (sz : Nat) (es : List (List V)) (ps : List (Nat × A)) : Ins := fun _ _ _ st k _ =>
  match fillE sz (ps.map fun (i, a) => (i, get st.tm a)) es with
  | some es => match closeEs depth ts es h0 with
    | some (es, _) => k (.vs sz es) st
    | none => .bad
  | none => .bad
def iLd (n : Nat) (g : Bool) (a : A) : Ins := fun _ _ _ st k _ => loadD st n (get st.tm a) fun cs => oneD (pickC n g cs) fun v => k v st
def iSto (n : Nat) (a x : A) : Ins := fun us _ _ st k _ =>
  bif Nat.beq (get st.tm x).cells.length n then
    bif (get st.tm x).cells.all V.keep then storeD us st (get st.tm x).cells (get st.tm a) fun s => k .un s
    else .bad
  else .bad
def iNck (x : A) : Ins := fun _ clr d st k _ => moveD clr d 0 (get st.tm x) fun v => k v st

def bitop (op : BinOp) (k : IntKind) (x y : Int) : Option V :=
  match op with
  | .and => some (.it k (wr k (.ofNat (Nat.land (toU (2 ^ kbits k) x) (toU (2 ^ kbits k) y)))))
  | .or => some (.it k (wr k (.ofNat (Nat.lor (toU (2 ^ kbits k) x) (toU (2 ^ kbits k) y)))))
  | .xor => some (.it k (wr k (.ofNat (Nat.xor (toU (2 ^ kbits k) x) (toU (2 ^ kbits k) y)))))
  | .andNot => some (.it k (wr k (.ofNat (Nat.land (toU (2 ^ kbits k) x) (Nat.xor (toU (2 ^ kbits k) y) (2 ^ kbits k - 1))))))
  | _ => none

def binI (op : BinOp) (k : IntKind) (a b : Int) (c : V → D) : D :=
  match op with
  | .add => c (.it k (wr k (a + b)))
  | .sub => c (.it k (wr k (a - b)))
  | .mul => c (.it k (wr k (a * b)))
  | .quo => .chk (!(ieq b 0)) (c (.it k (wr k (a.tdiv b))))
  | .rem => .chk (!(ieq b 0)) (c (.it k (a.tmod b)))
  | .eql => c (.bo (ieq a b))
  | .neq => c (.bo (!(ieq a b)))
  | .lss => c (.bo (ilt a b))
  | .leq => c (.bo (!(ilt b a)))
  | .gtr => c (.bo (ilt b a))
  | .geq => c (.bo (!(ilt a b)))
  | op => oneD (bitop op k a b) c

def binS (op : BinOp) (a b : List Nat) (c : V → D) : D :=
  match op with
  | .add => .chk (Nat.ble (a.length + b.length) 9223372036854775807) (c (.st (a ++ b)))
  | .eql => c (.bo (beqL a b))
  | .neq => c (.bo (!(beqL a b)))
  | .lss => c (.bo (strLt a b))
  | .leq => c (.bo (strLt a b || beqL a b))
  | .gtr => c (.bo (!(strLt a b || beqL a b)))
  | .geq => c (.bo (!(strLt a b)))
  | _ => .bad

def isEq : BinOp → Bool
  | .eql | .neq => true
  | _ => false
/-- the answer of '==' turned for the operator -/
def eqRes (op : BinOp) (b : Bool) : V :=
  match op with
  | .neq => .bo (!b)
  | _ => .bo b

def shiftD (op : BinOp) (k : IntKind) (a b : Int) (c : V → D) : D :=
  match op with
  | .shl => .chk (!(ilt b 0)) (c (.it k (wr k (a * .ofNat (2 ^ (Nat.min b.toNat (kbits k)))))))
  | _ => .chk (!(ilt b 0)) (c (.it k (a.fdiv (.ofNat (2 ^ (Nat.min b.toNat (kbits k)))))))
def isSh : BinOp → Bool
  | .shl | .shr => true
  | _ => false

def binD (hp : Hp) (q : Qk) (op : BinOp) (x y : V) (c : V → D) : D :=
  match x with
  | .it k a => match y with
    | .it k' b => bif isSh op then shiftD op k a b c else bif keq k k' then binI op k a b c else .bad
    | _ => .bad
  | .st a => match y with
    | .st b => binS op a b c
    | _ => .bad
  | x => bif isEq op then oneD (eqv q x y) fun b => c (eqRes op b) else .bad

def iBin (q : Qk) (op : BinOp) (x y : A) : Ins := fun _ _ _ st k _ => binD st.hp q op (get st.tm x) (get st.tm y) fun v => k v st
def iUn (op : UnOp) (x : A) : Ins := fun _ _ _ st k _ => oneD (unop op (get st.tm x)) fun v => k v st

def convD (st : St) (c : Cv) (x : V) (k : V → St → D) : D :=
  match c, x with
  | .int k', .it _ n => k (.it k' (wr k' n)) st
  | .s2s, .st s => k (.st s) st
  | .s2v, .st s => k (.vs 1 (s.map fun n => [byte n])) st
  | .s2b, .st s => k (.hs st.hp.next 0 s.length) (mk st ⟨1, false, s.map fun n => [byte n]⟩)
  | .b2s, x => elemsD st.hp 1 x fun es => oneD ((allSome unbyte es).map .st) fun v => k v st
  | _, _ => .bad
def iCnv (c : Cv) (x : A) : Ins := fun _ _ _ st k _ => convD st c (get st.tm x) k
def iMki (t : TypeId) (x : A) : Ins := fun _ _ _ st k _ => notLpD (get st.tm x) fun v => k (.fc t v) st
def iMkf (f : Nat) (first cap : List A) : Ins := fun _ _ _ st k _ =>
  bif (first.map (get st.tm)).any isLp then .bad else bif (cap.map (get st.tm)).any isLp then .bad else
  k (.fn f (first.map (get st.tm)) (cap.map (get st.tm))) st
def natD (v : V) (k : Nat → D) : D :=
  match v with
  | .it _ n => .chk (!(ilt n 0)) (k n.toNat)
  | _ => .bad
def maxB : Nat := 140737488355328
def iMks (sz bytes : Nat) (z : List V) (l c : A) : Ins := fun _ _ _ st k _ =>
  natD (get st.tm l) fun l => natD (get st.tm c) fun c =>
    .chk (Nat.ble l c) (.chk (Nat.ble c 9223372036854775807) (.chk (Nat.ble (c * bytes) maxB) (k (.hs st.hp.next 0 l) (mk st ⟨sz, false, List.replicate l z⟩))))

def sliceV (x : V) (l h : Nat) : Option V :=
  match x with
  | .st s => some (.st ((s.drop l).take (h - l)))
  | .ns => some .ns
  | .vs sz es => some (.vs sz ((es.drop l).take (h - l)))
  | .hs id i _ => some (.hs id (i + l) (h - l))
  | _ => none
/-- are a slice's elements of so many cells? -/
def szD (hp : Hp) (sz : Nat) (x : V) (k : D) : D :=
  match x with
  | .vs n _ => bif Nat.beq n sz then k else .bad
  | .hs id _ _ => match hget hp id with
    | some b => bif Nat.beq b.sz sz then k else .bad
    | none => .bad
  | _ => k
def boundD (tm : Tm) (d : Nat) (a : Option A) (k : Nat → D) : D :=
  match a with
  | none => k d
  | some a => natD (get tm a) k
def iSlc (s : Bool) (sz : Nat) (x : A) (lo hi : Option A) : Ins := fun _ _ _ st k _ => szD st.hp sz (get st.tm x) <|
  oneD (lenOf s (get st.tm x)) fun n => boundD st.tm 0 lo fun l => boundD st.tm n hi fun h =>
      .chk (Nat.ble l h) (.chk (Nat.ble h n) (oneD (sliceV (get st.tm x) l h) fun v => k v st))
def iFad (off : Nat) (a : A) : Ins := fun _ clr d st k _ => moveD clr d off (get st.tm a) fun v => k v st
def iFld (off n : Nat) (g : Bool) (x : A) : Ins := fun _ _ _ st k _ =>
  match get st.tm x with
  | .ag cs => cutD n off cs fun cs => oneD (pickC n g cs) fun v => k v st
  | _ => .bad
def iIas (sz : Nat) (x i : A) : Ins := fun _ _ _ st k _ => natD (get st.tm i) fun i =>
  match get st.tm x with
  | .vs n es => bif Nat.beq n sz then .chk (Nat.blt i es.length) (k (.ip (es.getD i [])) st) else .bad
  | .hs id i0 len => match hget st.hp id with
    | some b => bif Nat.beq b.sz sz then .chk (Nat.blt i len) (k (.pt id (i0 + i) 0) st) else .bad
    | none => .bad
  | _ => .bad
def iIaa (len sz : Nat) (a i : A) : Ins := fun _ clr d st k _ => natD (get st.tm i) fun i =>
  .chk (Nat.blt i len) (moveD clr d (i * sz) (get st.tm a) fun v => k v st)
def iIxs (x i : A) : Ins := fun _ _ _ st k _ => natD (get st.tm i) fun i =>
  match get st.tm x with
  | .st s => .chk (Nat.blt i s.length) (k (byte (s.getD i 0)) st)
  | _ => .bad
def iIxa (len sz : Nat) (g : Bool) (x i : A) : Ins := fun _ _ _ st k _ => natD (get st.tm i) fun i =>
  match get st.tm x with
  | .ag cs => .chk (Nat.blt i len) (cutD sz (i * sz) cs fun cs => oneD (pickC sz g cs) fun v => k v st)
  | _ => .bad
def iExt (x : A) (n : Nat) : Ins := fun _ _ _ st k _ =>
  match get st.tm x with
  | .tu xs => oneD xs[n]? fun v => notLpD v fun v => k v st
  | _ => .bad
def iLen (s : Bool) (x : A) : Ins := fun _ _ _ st k _ => oneD (lenOf s (get st.tm x)) fun n => k (i64 (.ofNat n)) st

def appendD (us : List Nat) (st : St) (sz bytes : Nat) (base : V) (new : List (List V)) (k : V → St → D) : D :=
  match base with
  | .ns => match new with
    | [] => k .ns st
    | x :: r => .chk (Nat.ble ((x :: r).length * bytes) maxB) (k (.hs st.hp.next 0 (x :: r).length) (mk st ⟨sz, false, x :: r⟩))
  | .hs id i n => match hget st.hp id with
    | some b => bif b.fr then .bad else bif Nat.blt id st.hp.lim then .bad else bif Nat.beq b.sz sz then bif freshH us st.tm id then
      .chk (Nat.ble (i + n) b.es.length) (.chk (Nat.ble ((n + new.length) * bytes) maxB)
        (k (.hs st.hp.next 0 (n + new.length)) (st.setHp (hnew (hset st.hp id none) ⟨sz, false, (b.es.drop i).take n ++ new⟩)))) else .bad else .bad
    | none => .bad
  | .vs m es => bif Nat.beq m sz then .chk (Nat.beq new.length 0) (k (.vs m es) st) else .bad
  | _ => .bad
def iApp (sz bytes : Nat) (x y : A) : Ins := fun us _ _ st k _ => rowsD st.hp sz (get st.tm y) fun new => appendD us st sz bytes (get st.tm x) new k
/-- zeros behind a slice of bytes -/
def iApz (x n : A) : Ins := fun us _ _ st k _ => natD (get st.tm n) fun n => .chk (Nat.blt 0 n) (.chk (Nat.ble n maxB) (appendD us st 1 1 (get st.tm x) ((List.replicate n 0).map fun n => [byte n]) k))
def cpyD (us : List Nat) (st : St) (sz : Nat) (new : List (List V)) (dst : V) (k : V → St → D) : D :=
  match dst with
  | .hs id i n => match hget st.hp id with
    | some b => bif b.fr then .bad else bif Nat.blt id st.hp.lim then .bad else bif Nat.beq b.sz sz then bif freshH us st.tm id then
      .chk (Nat.ble (i + n) b.es.length) (k (i64 (.ofNat (new.take n).length)) (st.setHp (hset st.hp id (some ⟨b.sz, b.fr, over i (new.take n) b.es⟩)))) else .bad else .bad
    | none => .bad
  | _ => .bad
def iCpy (sz : Nat) (x y : A) : Ins := fun us _ _ st k _ => elemsD st.hp sz (get st.tm y) fun new => cpyD us st sz new (get st.tm x) k
/-- an entry by its key -/
def mapGet (l : List Nat) : List (List V) → Option V
  | [.st k, v] :: r => bif beqL k l then some v else mapGet l r
  | _ => none
def mapPut (l : List Nat) (v : V) : List (List V) → List (List V)
  | [.st k, u] :: r => bif beqL k l then [.st l, v] :: r else [.st k, u] :: mapPut l v r
  | r => r ++ [[.st l, v]]
/-- where a byte first stands in a string -/
def idxB (c : Nat) : List Nat → Int
  | [] => -1
  | b :: r => bif Nat.beq b c then 0 else match idxB c r with
    | .ofNat n => .ofNat (n + 1)
    | x => x
def iIxb (x y : A) : Ins := fun _ _ _ st k _ =>
  match get st.tm x with
  | .st l => match get st.tm y with
    | .it .u8 n => k (.it .i64 (idxB (n.toNat % 256) l)) st
    | _ => .bad
  | _ => .bad
/-- maps from strings to values of one cell -/
def iMmk : Ins := fun _ _ _ st k _ => k (.mp st.hp.next) (mk st ⟨2, false, []⟩)
def mgetD (ok : Bool) (z : V) (es : List (List V)) (l : List Nat) (st : St) (k : V → St → D) : D :=
  match mapGet l es with
  | some u => k (bif ok then .tu [u, .bo true] else u) st
  | none => k (bif ok then .tu [z, .bo false] else z) st
def iMlk (ok : Bool) (z : V) (x i : A) : Ins := fun _ _ _ st k _ =>
  match get st.tm i with
  | .st l => match get st.tm x with
    | .mp id => match hget st.hp id with
      | some b => mgetD ok z b.es l st k
      | none => .bad
    | .nm => k (bif ok then .tu [z, .bo false] else z) st
    | _ => .bad
  | _ => .bad
def iMup (x i v : A) : Ins := fun us _ _ st k _ =>
  match get st.tm i with
  | .st l => match get st.tm x with
    | .mp id => match hget st.hp id with
      | some b => bif Nat.blt id st.hp.lim then .bad else bif freshH us st.tm id then bif (get st.tm v).keep then
        k .un (st.setHp (hset st.hp id (some ⟨2, false, mapPut l (get st.tm v) b.es⟩))) else .bad else .bad
      | none => .bad
    | _ => .bad
  | _ => .bad
/-- a slice of bytes that came of a constant string -/
def iMrk (x : A) : Ins := fun _ _ _ st k _ =>
  match get st.tm x with
  | .hs id i n => match hget st.hp id with
    | some b => bif b.fr then .bad else bif Nat.beq b.sz 1 then .chk (Nat.blt 0 n) (k (.hs id i n) st) else .bad
    | none => .bad
  | _ => .bad
def iMnx (mx : Bool) (x y : A) : Ins := fun _ _ _ st k _ => oneD (minmax mx (get st.tm x) (get st.tm y)) fun v => k v st

/-- a value, its head brought out (for the kernel's sake: it computes by name) -/
def force {α : Type} (k : V → α) : V → α
  | .un => k .un
  | .bo true => k (.bo true)
  | .bo false => k (.bo false)
  | .it a n => k (.it a n)
  | .fl a n => k (.fl a n)
  | .st l => k (.st l)
  | .np => k .np
  | .pt a b c => k (.pt a b c)
  | .lp a b => k (.lp a b)
  | .ip l => k (.ip l)
  | .ns => k .ns
  | .vs n l => k (.vs n l)
  | .hs a b c => k (.hs a b c)
  | .ag l => k (.ag l)
  | .tu l => k (.tu l)
  | .fc t v => k (.fc t v)
  | .nf => k .nf
  | .fn a b c => k (.fn a b c)
  | .nfn => k .nfn
  | .mp a => k (.mp a)
  | .nm => k .nm

def forceL {α : Type} (k : List V → α) : List V → α
  | [] => k []
  | v :: r => force (fun v => forceL (fun r => k (v :: r)) r) v

def callD (own : Bool) (f : Nat) (xs : List V) (st : St) (k kp : V → St → D) : D :=
  bif xs.any isLp then .bad else
  .call own f xs st.hp fun c => match c with
    | .bad => .bad
    | .ret v hp => k v (st.setHp hp)
    | .pan v hp => kp v (st.setHp hp)
def iCall (own : Bool) (f : Nat) (xs : List A) : Ins := fun _ _ _ st k kp => callD own f (xs.map (get st.tm)) st k kp
/-- may a function value be this one? no list: any -/
def goodF (fs : List Nat) (f : Nat) : Bool :=
  match fs with
  | [] => true
  | fs => hasN fs f
def iClv (fs : List Nat) (f : A) (xs : List A) : Ins := fun _ _ _ st k kp =>
  match get st.tm f with
  | .fn f first cap => bif goodF fs f then callD false f (first ++ xs.map (get st.tm) ++ cap) st k kp else .bad
  | _ => .bad
def iPan (x : A) : Ins := fun _ _ _ st _ kp =>
  match get st.tm x with
  | .fc t v => kp (.fc t v) st
  | _ => .bad

structure Op where
  dst : Option Nat
  us : List Nat
  ins : Ins

/-- operations under one guard -/
structure Gr where
  gd : Option (Nat × Bool)
  ops : List Op

def put (st : St) (dst : Option Nat) (v : V) : St :=
  match dst with
  | some d => ⟨upd st.tm d v, st.lo, st.hp⟩
  | none => st

def evL (clr : List Nat) : List Op → St → (R → D) → D
  | [], st, k => k (.norm st)
  | o :: r, st, k => o.ins o.us clr (o.dst.getD 0) st (fun v s => evL clr r (put s o.dst v) k) (fun v s => k (.pan v s))

def undo : List Op → St → St
  | [], st => st
  | o :: r, st => undo r (put st o.dst (.tu []))

def evG (clr : List Nat) (g : Gr) (st : St) (k : R → D) : D :=
  match g.gd with
  | none => evL clr g.ops st k
  | some (t, w) =>
    match st.tm t with
    | .bo b => .br (bif w then b else !b) (evL clr g.ops ⟨upd st.tm t (.bo w), st.lo, st.hp⟩ k)
        (k (.norm (undo g.ops ⟨upd st.tm t (.bo (!w)), st.lo, st.hp⟩)))
    | .tu [] => k (.norm (undo g.ops st))
    | _ => .bad

def clear : List Nat → Tm → Tm
  | [], tm => tm
  | d :: r, tm => clear r (upd tm d .un)

def evGs (clr : List Nat) : List Gr → St → (R → D) → D
  | [], st, k => k (.norm ⟨clear clr st.tm, st.lo, st.hp⟩)
  | g :: r, st, k => evG clr g st fun x => match x with
    | .norm s => evGs clr r s k
    | x => k x

abbrev Sh := St → (R → D) → D

def cSkip : Sh := fun st k => k (.norm st)
/-- operations in order; where their order is drawn, none may panic -/
def cReg (draw : Bool) (gs : List Gr) (clr : List Nat) : Sh := fun st k =>
  bif draw then evGs clr gs st fun x => match x with
    | .pan _ _ => .bad
    | x => k x
  else evGs clr gs st k
def cSeq (a b : Sh) : Sh := fun st k => a st fun x => match x with
  | .norm s => b s k
  | x => k x
def cIf (c : A) (x y : Sh) : Sh := fun st k => match get st.tm c with
  | .bo t => .br t (x st k) (y st k)
  | _ => .bad
def cBlk (id : Nat) (c : Sh) : Sh := fun st k => c st fun x => match x with
  | .exit i s => k (bif Nat.beq i id then .norm s else .exit i s)
  | x => k x
def cLoop (keep drop : List Nat) (c : Sh) : Sh := fun st k => .loop keep drop (fun s => c s .done) st k
def cExit (id : Nat) : Sh := fun st k => k (.exit id st)
def cRet : Sh := fun st k => k (.ret st)

def shed (drop : List Nat) (lo : Lo) : Lo := fun t => bif hasN drop t then none else lo t

def keepF {α : Type} (k : Tm → α) : List Nat → Tm → α
  | [], _ => k fun _ => .un
  | s :: r, tm => force (fun v => keepF (fun t => k fun j => bif Nat.beq j s then v else t j) r tm) (tm s)

def iter (body : St → R) (keep drop : List Nat) : Nat → St → R
  | 0, _ => .bad
  | n + 1, st =>
    keepF (fun t =>
      match body ⟨t, shed drop st.lo, st.hp⟩ with
      | .norm s => iter body keep drop n s
      | x => x) keep st.tm

abbrev Call := Bool → Nat → List V → Hp → CR

/-- a run, played -/
def run (call : Call) (L : Nat) : D → R
  | .bad => .bad
  | .done r => r
  | .chk b d => bif b then run call L d else .bad
  | .br b x y => bif b then run call L x else run call L y
  | .call own f xs hp k => forceL (fun xs => run call L (k (call own f xs hp))) xs
  | .loop keep drop body st k => run call L (k (iter (fun s => run call L (body s)) keep drop L st))

inductive Rv where
  | tmp (t : Nat)
  | cell (t n : Nat) (g : Bool)
  deriving Inhabited

/-- how a function runs: in a heap of its own; reading the heap alone; in the heap -/
inductive Md where
  | pure | ro | rw
  deriving Inhabited

structure Fn where
  ps : List PT
  rs : List PT
  md : Md
  res : List Rv
  body : Sh

def resultsD (st : St) (l : List Rv) (k : List V → D) : D :=
  match l with
  | [] => k []
  | .tmp t :: r => notLpD (st.tm t) fun v => resultsD st r fun s => k (v :: s)
  | .cell t n g :: r => loadD st n (st.tm t) fun cs => oneD (pickC n g cs) fun v => notLpD v fun v => resultsD st r fun s => k (v :: s)

def tuple : List V → V
  | [v] => v
  | vs => .tu vs

def argT (args : List V) : Tm := fun j => args.getD j .un

/-- a function's body, its results behind it: '.ret' bears them in slot 0 -/
def bodyD (fn : Fn) (args : List V) (hp : Hp) : D :=
  fn.body ⟨argT args, fun _ => none, hp⟩ fun x => match x with
    | .norm st | .ret st => resultsD st fn.res fun vs => .done (.ret ⟨fun _ => tuple vs, fun _ => none, st.hp⟩)
    | .pan v st => .done (.pan v ⟨fun _ => .un, fun _ => none, st.hp⟩)
    | _ => .bad

def crOf : R → CR
  | .ret st => .ret (st.tm 0) st.hp
  | .pan v st => .pan v st.hp
  | _ => .bad

def runF (call : Call) (L : Nat) (fn : Fn) (args : List V) (hp : Hp) : CR :=
  bif Nat.beq args.length fn.ps.length then crOf (run call L (bodyD fn args hp)) else .bad

/-- the one result comes back: a slice's own block becomes the caller's -/
def ownP (t : PT) (v : V) (h hp : Hp) : Option (V × Hp) :=
  match t, v with
  | .c (.sl ts), .hs id i len => match hget h id with
    | some b => bif b.fr then none else bif Nat.blt id h.lim then none else bif Nat.beq b.sz ts.length then bif Nat.ble (i + len) b.es.length then
        match closeEs depth ts ((b.es.drop i).take len) (hset h id none) with
        | some (es, _) => some (.hs hp.next 0 len, hnew hp ⟨b.sz, false, es⟩)
        | none => none else none else none
    | none => none
  | t, v => match closeP t v h with
    | some (x, _) => some (x, hp)
    | none => none

def untuple (n : Nat) (v : V) : List V :=
  bif Nat.beq n 1 then [v] else match v with
  | .tu xs => xs
  | v => [v]

/-- how the result of a run apart comes back -/
def back (own : Bool) (fn : Fn) (hp : Hp) : CR → CR
  | .ret v h => match own, fn.rs with
    | true, [t] => match ownP t v h hp with
      | some (x, hp) => .ret x hp
      | none => .bad
    | _, rs => match closeAll rs (untuple rs.length v) h with
      | some (xs, _) => .ret (tuple xs) hp
      | none => .bad
  | _ => .bad

/-- a function that runs in a heap of its own -/
def runP (own : Bool) (call : Call) (L : Nat) (fn : Fn) (args : List V) (hp : Hp) : CR :=
  match closeAll fn.ps args hp with
  | none => .bad
  | some (xs, hp) => back own fn hp (runF call L fn xs h0)

/-- was a value there ahead of a number? -/
def oldC (n : Nat) : V → Bool
  | .pt id _ _ => Nat.blt id n
  | .hs id _ _ => Nat.blt id n
  | .mp id => Nat.blt id n
  | .nm => true
  | .bo _ | .it .. | .fl .. | .st _ | .np | .ns | .vs .. | .nf | .nfn | .ip _ => true
  | _ => false
def oldV (n : Nat) : V → Bool
  | .ag cs => cs.all (oldC n)
  | v => oldC n v
def oldT (n : Nat) : V → Bool
  | .tu xs => xs.all (oldV n)
  | v => oldV n v

/-- a function that reads the heap alone -/
def runR (call : Call) (L : Nat) (fn : Fn) (args : List V) (hp : Hp) : CR :=
  match runF call L fn args ⟨hp.next, hp.next, hp.tr⟩ with
  | .ret v _ => bif oldT hp.next v then .ret v hp else .bad
  | _ => .bad

def callF (F : Nat → Option Fn) (L : Nat) : Nat → Call
  | 0, _, _, _, _ => .bad
  | n + 1, own, f, args, hp =>
    match F f with
    | none => .bad
    | some fn => match fn.md with
      | .pure => runP own (callF F L n) L fn args hp
      | .ro => runR (callF F L n) L fn args hp
      | .rw => runF (callF F L n) L fn args hp

end Ev
