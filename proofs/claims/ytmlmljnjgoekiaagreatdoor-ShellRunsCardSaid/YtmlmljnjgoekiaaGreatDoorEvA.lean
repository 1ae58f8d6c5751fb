import GoSem.Core.Layout
import GoSem.Core.Code
import GoSem.Core.View
import GoSem.Core.Region
import GoSem.Op.Equal
import GoSem.Extern.Table
import Derived.Calls
import Derived.Laws.Sem
import Derived.Laws.Cells
import Derived.Laws.Entries
import Derived.Laws.IdiomCopy
import Derived.ChangeKeysEq
set_option linter.unusedVariables false
set_option linter.unusedSimpArgs false
set_option linter.unusedSectionVars false
set_option linter.constructorNameAsVariable false
namespace Ev
open Go
inductive V where
  | un
  | bo (x : Bool)
  | it (k : IntKind) (n : Int)
  | fl (k : FloatKind) (bits : Nat)
  | st (l : List Nat)
  | np
  | pt (id i off : Nat)
  | lp (t off : Nat)
  | ip (cs : List V)
  | ns
  | vs (sz : Nat) (es : List (List V))
  | hs (id i len : Nat)
  | ag (cs : List V)
  | tu (xs : List V)
  | fc (t : TypeId) (v : V)
  | nf
  | fn (f : Nat) (first cap : List V)
  | nfn
  | mp (id : Nat)
  | nm
  deriving Inhabited
inductive A where
  | t (n : Nat)
  | k (v : V)
  deriving Inhabited
inductive Cv where
  | int (k : IntKind)
  | s2s
  | s2v
  | s2b
  | b2s
  deriving Inhabited
inductive Ty where
  | one
  | sl (cs : List Ty)
  deriving Inhabited
inductive PT where
  | c (t : Ty)
  | g (ts : List Ty)
  deriving Inhabited
structure Bk where
  sz : Nat
  fr : Bool
  es : List (List V)
  deriving Inhabited
inductive Tr where
  | e
  | n (b : Option Bk) (l r : Tr)
  deriving Inhabited
def Tr.get : Tr → Nat → Option Bk
  | .e, _ => none
  | .n b l r, k => bif Nat.beq k 0 then b else bif Nat.beq (k % 2) 1 then l.get (k / 2) else r.get (k / 2 - 1)
def Tr.val : Tr → Option Bk
  | .e => none
  | .n b _ _ => b
def Tr.left : Tr → Tr
  | .e => .e
  | .n _ l _ => l
def Tr.right : Tr → Tr
  | .e => .e
  | .n _ _ r => r
def Tr.setAt : Nat → Tr → Nat → Option Bk → Tr
  | 0, t, _, _ => t
  | f + 1, t, k, x =>
    bif Nat.beq k 0 then .n x t.left t.right else bif Nat.beq (k % 2) 1 then .n t.val (t.left.setAt f (k / 2) x) t.right
    else .n t.val t.left (t.right.setAt f (k / 2 - 1) x)
structure Hp where
  next : Nat
  lim : Nat
  tr : Tr
  deriving Inhabited
abbrev Tm := Nat → V
abbrev Lo := Nat → Option (List V)
structure St where
  tm : Tm
  lo : Lo
  hp : Hp
inductive R where
  | bad
  | norm (st : St)
  | exit (id : Nat) (st : St)
  | ret (st : St)
  | pan (v : V) (st : St)
inductive CR where
  | bad
  | ret (v : V) (hp : Hp)
  | pan (v : V) (hp : Hp)
  deriving Inhabited
def V.cells : V → List V
  | .ag cs => cs
  | v => [v]
def V.keep : V → Bool
  | .un | .lp .. | .ag _ | .tu _ => false
  | _ => true
def isLp : V → Bool
  | .lp .. => true
  | _ => false
def get (tm : Tm) : A → V
  | .t n => tm n
  | .k v => v
def upd (tm : Tm) (d : Nat) (v : V) : Tm := fun j => bif Nat.beq j d then v else tm j
def lset (lo : Lo) (d : Nat) (cs : List V) : Lo := fun j => bif Nat.beq j d then some cs else lo j
def hget (hp : Hp) (id : Nat) : Option Bk := hp.tr.get id
def hset (hp : Hp) (id : Nat) (b : Option Bk) : Hp := ⟨hp.next, hp.lim, hp.tr.setAt (id + 1) id b⟩
def hnew (hp : Hp) (b : Bk) : Hp := ⟨hp.next + 1, hp.lim, hp.tr.setAt (hp.next + 1) hp.next (some b)⟩
def h0 : Hp := ⟨0, 0, .e⟩
def over {α : Type} (off : Nat) (xs : List α) : List α → List α
  | [] => xs
  | c :: cs => match off with
    | 0 => xs ++ (c :: cs).drop xs.length
    | n + 1 => c :: over n xs cs
theorem over_eq {α : Type} (off : Nat) (xs cs : List α) : over off xs cs = cs.take off ++ (xs ++ cs.drop (off + xs.length)) := by
  induction cs generalizing off with
  | nil => simp [over]
  | cons c cs ih =>
    cases off with
    | zero => simp [over]
    | succ n => rw [over, ih, show n + 1 + xs.length = (n + xs.length) + 1 by omega]; rfl
def byte (n : Nat) : V := .it .u8 (Int.ofNat n)
def unbyte : List V → Option Nat
  | [.it .u8 n] => some (n.toNat % 256)
  | _ => none
def allSome {α β : Type} (f : α → Option β) : List α → Option (List β)
  | [] => some []
  | x :: r => match f x, allSome f r with
    | some y, some s => some (y :: s)
    | _, _ => none
def lenOf (s : Bool) : V → Option Nat
  | .st l => bif s then some l.length else none
  | .ns => bif s then none else some 0
  | .vs _ es => bif s then none else some es.length
  | .hs _ _ len => bif s then none else some len
  | _ => none
def i64 (n : Int) : V := .it .i64 n
def wrS (half full : Nat) : Int → Int
  | .ofNat a => bif Nat.blt (a % full) half then .ofNat (a % full) else .negSucc (full - 1 - a % full)
  | .negSucc a => bif Nat.blt (a % full) half then .negSucc (a % full) else .ofNat (full - 1 - a % full)
def wrU (full : Nat) : Int → Int
  | .ofNat a => .ofNat (a % full)
  | .negSucc a => .ofNat (full - 1 - a % full)
def wr : IntKind → Int → Int
  | .i64 => wrS 9223372036854775808 18446744073709551616
  | .i32 => wrS 2147483648 4294967296
  | .i16 => wrS 32768 65536
  | .i8 => wrS 128 256
  | .u64 => wrU 18446744073709551616
  | .u32 => wrU 4294967296
  | .u16 => wrU 65536
  | .u8 => wrU 256
def ilt : Int → Int → Bool
  | .ofNat a, .ofNat b => Nat.blt a b
  | .ofNat _, .negSucc _ => false
  | .negSucc _, .ofNat _ => true
  | .negSucc a, .negSucc b => Nat.blt b a
def ieq : Int → Int → Bool
  | .ofNat a, .ofNat b => Nat.beq a b
  | .negSucc a, .negSucc b => Nat.beq a b
  | _, _ => false
def kbits : IntKind → Nat
  | .i8 | .u8 => 8
  | .i16 | .u16 => 16
  | .i32 | .u32 => 32
  | .i64 | .u64 => 64
def keq : IntKind → IntKind → Bool
  | .i8, .i8 | .i16, .i16 | .i32, .i32 | .i64, .i64 | .u8, .u8 | .u16, .u16 | .u32, .u32 | .u64, .u64 => true
  | _, _ => false
def toU (full : Nat) : Int → Nat
  | .ofNat a => a % full
  | .negSucc a => full - 1 - a % full
def beqL : List Nat → List Nat → Bool
  | [], [] => true
  | a :: x, b :: y => bif Nat.beq a b then beqL x y else false
  | _, _ => false
def strLt : List Nat → List Nat → Bool
  | _, [] => false
  | [], _ :: _ => true
  | a :: x, b :: y => bif Nat.blt a b then true else bif Nat.beq a b then strLt x y else false
inductive Qk where
  | no | ptr | bo | sl
  | ag (ks : List Nat)
  deriving Inhabited
def eqAll : List Nat → List V → List V → Option Bool
  | [], [], [] => some true
  | 0 :: ks, .it k a :: x, .it k' b :: y => bif keq k k' then (match eqAll ks x y with
    | some r => some (ieq a b && r)
    | none => none) else none
  | 1 :: ks, .st a :: x, .st b :: y => match eqAll ks x y with
    | some r => some (beqL a b && r)
    | none => none
  | 2 :: ks, .bo a :: x, .bo b :: y => match eqAll ks x y with
    | some r => some ((a == b) && r)
    | none => none
  | _, _, _ => none
def eqv (q : Qk) (x y : V) : Option Bool :=
  match q with
  | .bo => match x, y with
    | .bo a, .bo b => some (a == b)
    | _, _ => none
  | .ptr => match x, y with
    | .np, .np => some true
    | .np, .pt .. => some false
    | .pt .., .np => some false
    | _, _ => none
  | .sl => match x, y with
    | .ns, .ns => some true
    | .ns, .vs _ (_ :: _) => some false
    | .vs _ (_ :: _), .ns => some false
    | _, _ => none
  | .ag ks => match x, y with
    | .ag xs, .ag ys => eqAll ks xs ys
    | _, _ => none
  | .no => none
def fill : List (Nat × Nat × V) → List V → Option (List V)
  | [], cs => some cs
  | (off, n, v) :: r, cs =>
    bif Nat.beq v.cells.length n then bif Nat.ble (off + n) cs.length then bif v.cells.all V.keep then fill r (over off v.cells cs) else none else none else none
def fillE (sz : Nat) : List (Nat × V) → List (List V) → Option (List (List V))
  | [], es => some es
  | (i, v) :: r, es =>
    bif Nat.beq v.cells.length sz then bif Nat.blt i es.length then bif v.cells.all V.keep then fillE sz r (es.set i v.cells) else none else none else none
def freeze (hp : Hp) (id : Nat) : Hp := match hget hp id with
  | some b => hset hp id (some ⟨b.sz, true, b.es⟩)
  | none => hp
mutual
def closeC : Nat → Ty → V → Hp → Option (V × Hp)
  | 0, _, _, _ => none
  | n + 1, .sl cs, v, hp => match v with
    | .ns => some (.vs cs.length [], hp)
    | .vs sz es => bif Nat.beq sz cs.length then some (.vs sz es, hp) else none
    | .hs id i len => match hget hp id with
      | some b => bif Nat.blt id hp.lim then none else bif Nat.beq b.sz cs.length then bif Nat.ble (i + len) b.es.length then
          match closeEs n cs ((b.es.drop i).take len) (freeze hp id) with
          | some (es, h) => some (.vs b.sz es, h)
          | none => none else none else none
      | none => none
    | _ => none
  | _ + 1, .one, v, hp => match v with
    | .bo x => some (.bo x, hp)
    | .it k x => some (.it k x, hp)
    | .fl k x => some (.fl k x, hp)
    | .st l => some (.st l, hp)
    | .np => some (.np, hp)
    | .nf => some (.nf, hp)
    | .nfn => some (.nfn, hp)
    | _ => none
def closeCs : Nat → List Ty → List V → Hp → Option (List V × Hp)
  | 0, _, _, _ => none
  | _ + 1, [], [], hp => some ([], hp)
  | n + 1, t :: ts, v :: vs, hp => match closeC n t v hp with
    | some (x, h) => match closeCs n ts vs h with
      | some (xs, h) => some (x :: xs, h)
      | none => none
    | none => none
  | _, _, _, _ => none
def closeEs : Nat → List Ty → List (List V) → Hp → Option (List (List V) × Hp)
  | 0, _, _, _ => none
  | _ + 1, _, [], hp => some ([], hp)
  | n + 1, ts, e :: r, hp => match closeCs n ts e hp with
    | some (x, h) => match closeEs n ts r h with
      | some (xs, h) => some (x :: xs, h)
      | none => none
    | none => none
end
def depth : Nat := 100000000
def closeP (t : PT) (v : V) (hp : Hp) : Option (V × Hp) :=
  match t, v with
  | .c t, v => closeC depth t v hp
  | .g ts, .ag cs => match closeCs depth ts cs hp with
    | some (xs, h) => some (.ag xs, h)
    | none => none
  | _, _ => none
def closeAll : List PT → List V → Hp → Option (List V × Hp)
  | [], [], hp => some ([], hp)
  | t :: ts, v :: vs, hp => match closeP t v hp with
    | some (x, h) => match closeAll ts vs h with
      | some (xs, h) => some (x :: xs, h)
      | none => none
    | none => none
  | _, _, _ => none
def unop (op : UnOp) : V → Option V
  | .bo b => match op with
    | .not => some (.bo (!b))
    | _ => none
  | .it k n => match op with
    | .neg => some (.it k (wr k (0 - n)))
    | .xor => some (.it k (wr k (.ofNat (Nat.xor (toU (2 ^ kbits k) (-1)) (toU (2 ^ kbits k) n)))))
    | _ => none
  | _ => none
def minmax (mx : Bool) : V → V → Option V
  | .it k a, .it k' b => bif keq k k' then some (.it k (bif mx then (bif ilt a b then b else a) else (bif ilt b a then b else a))) else none
  | _, _ => none
inductive D where
  | bad
  | done (r : R)
  | chk (b : Bool) (d : D)
  | br (b : Bool) (x y : D)
  | call (own : Bool) (f : Nat) (xs : List V) (hp : Hp) (k : CR → D)
  | loop (keep drop : List Nat) (body : St → D) (st : St) (k : R → D)
abbrev Ins := List Nat → List Nat → Nat → St → (V → St → D) → (V → St → D) → D
def oneD {α : Type} (o : Option α) (k : α → D) : D :=
  match o with
  | some v => k v
  | none => .bad
def pickC (n : Nat) (g : Bool) (cs : List V) : Option V :=
  bif g then some (.ag cs) else bif Nat.beq n 1 then cs.head? else none
def hasN : List Nat → Nat → Bool
  | [], _ => false
  | a :: r, d => bif Nat.beq a d then true else hasN r d
def moveD (clr : List Nat) (d : Nat) (off : Nat) (v : V) (k : V → D) : D :=
  match v with
  | .pt id i o => k (.pt id i (o + off))
  | .lp t o => bif hasN clr d then k (.lp t (o + off)) else .bad
  | .ip cs => .chk (Nat.ble off cs.length) (k (.ip (cs.drop off)))
  | _ => .bad
def fresh (us : List Nat) (tm : Tm) (d : Nat) : Bool :=
  match us with
  | [] => true
  | t :: r => match tm t with
    | .lp e _ => bif Nat.beq e d then false else fresh r tm d
    | _ => fresh r tm d
def freshH (us : List Nat) (tm : Tm) (id : Nat) : Bool :=
  match us with
  | [] => true
  | t :: r => match tm t with
    | .pt e _ _ => bif Nat.beq e id then false else freshH r tm id
    | .hs e _ _ => bif Nat.beq e id then false else freshH r tm id
    | .mp e => bif Nat.beq e id then false else freshH r tm id
    | _ => freshH r tm id
def St.setLo (st : St) (d : Nat) (cs : List V) : St := ⟨st.tm, lset st.lo d cs, st.hp⟩
def St.setHp (st : St) (h : Hp) : St := ⟨st.tm, st.lo, h⟩
def mk (st : St) (b : Bk) : St := st.setHp (hnew st.hp b)
def cutD (n off : Nat) (cs : List V) (k : List V → D) : D :=
  .chk (Nat.ble (off + n) cs.length) (k ((cs.drop off).take n))
def loadD (st : St) (n : Nat) (v : V) (k : List V → D) : D :=
  match v with
  | .ip cs => cutD n 0 cs k
  | .lp t off => match st.lo t with
    | some cs => cutD n off cs k
    | none => .bad
  | .pt id i off => match hget st.hp id with
    | some b => .chk (Nat.blt i b.es.length) (cutD n off (b.es.getD i []) k)
    | none => .bad
  | _ => .bad
def storeD (us : List Nat) (st : St) (xs : List V) (v : V) (k : St → D) : D :=
  match v with
  | .lp t off => match st.lo t with
    | some cs => bif fresh us st.tm t then .chk (Nat.ble (off + xs.length) cs.length) (k (st.setLo t (over off xs cs))) else .bad
    | none => .bad
  | .pt id i off => match hget st.hp id with
    | some b => bif b.fr then .bad else bif Nat.blt id st.hp.lim then .bad else bif freshH us st.tm id then
        .chk (Nat.blt i b.es.length) (.chk (Nat.ble (off + xs.length) (b.es.getD i []).length)
        (k (st.setHp (hset st.hp id (some ⟨b.sz, b.fr, b.es.set i (over off xs (b.es.getD i []))⟩))))) else .bad
    | none => .bad
  | _ => .bad
def elemsD (hp : Hp) (sz : Nat) (v : V) (k : List (List V) → D) : D :=
  match v with
  | .ns => k []
  | .vs n es => bif Nat.beq n sz then k es else .bad
  | .hs id i len => match hget hp id with
    | some b => bif Nat.beq b.sz sz then .chk (Nat.ble (i + len) b.es.length) (k ((b.es.drop i).take len)) else .bad
    | none => .bad
  | _ => .bad
def rowsD (hp : Hp) (sz : Nat) (v : V) (k : List (List V) → D) : D :=
  match v with
  | .st l => bif Nat.beq sz 1 then k (l.map fun n => [byte n]) else .bad
  | v => elemsD hp sz v k
def notLpD (v : V) (k : V → D) : D :=
  match v with
  | .lp .. => .bad
  | v => k v
def iMov (x : A) : Ins := fun _ _ _ st k _ => notLpD (get st.tm x) fun v => k v st
def iPick (c a b : A) : Ins := fun _ _ _ st k _ => match get st.tm c with
  | .bo t => .br t (notLpD (get st.tm a) fun v => k v st) (notLpD (get st.tm b) fun v => k v st)
  | _ => .bad
def iAlc (z : List V) : Ins := fun us _ d st k _ => bif fresh us st.tm d then k (.lp d 0) (st.setLo d z) else .bad
def iAlh (z : List V) : Ins := fun _ _ _ st k _ => k (.pt st.hp.next 0 0) (mk st ⟨z.length, false, [z]⟩)
def iBox (x : A) : Ins := fun us _ d st k _ =>
  bif (get st.tm x).cells.all V.keep then bif fresh us st.tm d then k (.lp d 0) (st.setLo d (get st.tm x).cells) else .bad else .bad
def iBxh (x : A) : Ins := fun _ _ _ st k _ =>
  bif (get st.tm x).cells.all V.keep then k (.pt st.hp.next 0 0) (mk st ⟨(get st.tm x).cells.length, false, [(get st.tm x).cells]⟩) else .bad
def iBld (z : List V) (ps : List (Nat × Nat × A)) : Ins := fun _ _ _ st k _ =>
  oneD ((fill (ps.map fun (o, n, a) => (o, n, get st.tm a)) z).map .ag) fun v => k v st
def iBsl (sz : Nat) (es : List (List V)) (ps : List (Nat × A)) : Ins := fun _ _ _ st k _ =>
  match fillE sz (ps.map fun (i, a) => (i, get st.tm a)) es with
  | some es => k (.hs st.hp.next 0 es.length) (mk st ⟨sz, false, es⟩)
  | none => .bad
def iBsv (ts : List Ty) (sz : Nat) (es : List (List V)) (ps : List (Nat × A)) : Ins := fun _ _ _ st k _ =>
  match fillE sz (ps.map fun (i, a) => (i, get st.tm a)) es with
  | some es => match closeEs depth ts es h0 with
    | some (es, _) => k (.vs sz es) st
    | none => .bad
  | none => .bad
def iLdl (n : Nat) (g : Bool) (a : A) : Ins := fun _ _ _ st k _ => match get st.tm a with
  | .lp t off => loadD st n (.lp t off) fun cs => oneD (pickC n g cs) fun v => k v st
  | _ => .bad
def iLd (n : Nat) (g : Bool) (a : A) : Ins := fun _ _ _ st k _ => loadD st n (get st.tm a) fun cs => oneD (pickC n g cs) fun v => k v st
def iSto (n : Nat) (a x : A) : Ins := fun us _ _ st k _ =>
  bif Nat.beq (get st.tm x).cells.length n then
    bif (get st.tm x).cells.all V.keep then storeD us st (get st.tm x).cells (get st.tm a) fun s => k .un s
    else .bad
  else .bad
def iNck (x : A) : Ins := fun _ clr d st k _ => moveD clr d 0 (get st.tm x) fun v => k v st
def bitop (op : BinOp) (k : IntKind) (x y : Int) : Option V :=
  match op with
  | .and => some (.it k (wr k (.ofNat (Nat.land (toU (2 ^ kbits k) x) (toU (2 ^ kbits k) y)))))
  | .or => some (.it k (wr k (.ofNat (Nat.lor (toU (2 ^ kbits k) x) (toU (2 ^ kbits k) y)))))
  | .xor => some (.it k (wr k (.ofNat (Nat.xor (toU (2 ^ kbits k) x) (toU (2 ^ kbits k) y)))))
  | .andNot => some (.it k (wr k (.ofNat (Nat.land (toU (2 ^ kbits k) x) (Nat.xor (toU (2 ^ kbits k) y) (2 ^ kbits k - 1))))))
  | _ => none
def binI (op : BinOp) (k : IntKind) (a b : Int) (c : V → D) : D :=
  match op with
  | .add => c (.it k (wr k (a + b)))
  | .sub => c (.it k (wr k (a - b)))
  | .mul => c (.it k (wr k (a * b)))
  | .quo => .chk (!(ieq b 0)) (c (.it k (wr k (a.tdiv b))))
  | .rem => .chk (!(ieq b 0)) (c (.it k (a.tmod b)))
  | .eql => c (.bo (ieq a b))
  | .neq => c (.bo (!(ieq a b)))
  | .lss => c (.bo (ilt a b))
  | .leq => c (.bo (!(ilt b a)))
  | .gtr => c (.bo (ilt b a))
  | .geq => c (.bo (!(ilt a b)))
  | op => oneD (bitop op k a b) c
def binS (op : BinOp) (a b : List Nat) (c : V → D) : D :=
  match op with
  | .add => .chk (Nat.ble (a.length + b.length) 9223372036854775807) (c (.st (a ++ b)))
  | .eql => c (.bo (beqL a b))
  | .neq => c (.bo (!(beqL a b)))
  | .lss => c (.bo (strLt a b))
  | .leq => c (.bo (strLt a b || beqL a b))
  | .gtr => c (.bo (!(strLt a b || beqL a b)))
  | .geq => c (.bo (!(strLt a b)))
  | _ => .bad
def isEq : BinOp → Bool
  | .eql | .neq => true
  | _ => false
def eqRes (op : BinOp) (b : Bool) : V :=
  match op with
  | .neq => .bo (!b)
  | _ => .bo b
def shiftD (op : BinOp) (k : IntKind) (a b : Int) (c : V → D) : D :=
  match op with
  | .shl => .chk (!(ilt b 0)) (c (.it k (wr k (a * .ofNat (2 ^ (Nat.min b.toNat (kbits k)))))))
  | _ => .chk (!(ilt b 0)) (c (.it k (a.fdiv (.ofNat (2 ^ (Nat.min b.toNat (kbits k)))))))
def isSh : BinOp → Bool
  | .shl | .shr => true
  | _ => false
def binD (hp : Hp) (q : Qk) (op : BinOp) (x y : V) (c : V → D) : D :=
  match x with
  | .it k a => match y with
    | .it k' b => bif isSh op then shiftD op k a b c else bif keq k k' then binI op k a b c else .bad
    | _ => .bad
  | .st a => match y with
    | .st b => binS op a b c
    | _ => .bad
  | x => bif isEq op then oneD (eqv q x y) fun b => c (eqRes op b) else .bad
def iBin (q : Qk) (op : BinOp) (x y : A) : Ins := fun _ _ _ st k _ => binD st.hp q op (get st.tm x) (get st.tm y) fun v => k v st
def iUn (op : UnOp) (x : A) : Ins := fun _ _ _ st k _ => oneD (unop op (get st.tm x)) fun v => k v st
def convD (st : St) (c : Cv) (x : V) (k : V → St → D) : D :=
  match c, x with
  | .int k', .it _ n => k (.it k' (wr k' n)) st
  | .s2s, .st s => k (.st s) st
  | .s2v, .st s => k (.vs 1 (s.map fun n => [byte n])) st
  | .s2b, .st s => k (.hs st.hp.next 0 s.length) (mk st ⟨1, false, s.map fun n => [byte n]⟩)
  | .b2s, x => elemsD st.hp 1 x fun es => oneD ((allSome unbyte es).map .st) fun v => k v st
  | _, _ => .bad
def iCnv (c : Cv) (x : A) : Ins := fun _ _ _ st k _ => convD st c (get st.tm x) k
def iMki (t : TypeId) (x : A) : Ins := fun _ _ _ st k _ => notLpD (get st.tm x) fun v => k (.fc t v) st
def iMkf (f : Nat) (first cap : List A) : Ins := fun _ _ _ st k _ =>
  bif (first.map (get st.tm)).any isLp then .bad else bif (cap.map (get st.tm)).any isLp then .bad else
  k (.fn f (first.map (get st.tm)) (cap.map (get st.tm))) st
def natD (v : V) (k : Nat → D) : D :=
  match v with
  | .it _ n => .chk (!(ilt n 0)) (k n.toNat)
  | _ => .bad
def maxB : Nat := 140737488355328
def iMks (sz bytes : Nat) (z : List V) (l c : A) : Ins := fun _ _ _ st k _ =>
  natD (get st.tm l) fun l => natD (get st.tm c) fun c =>
    .chk (Nat.ble l c) (.chk (Nat.ble c 9223372036854775807) (.chk (Nat.ble (c * bytes) maxB) (k (.hs st.hp.next 0 l) (mk st ⟨sz, false, List.replicate l z⟩))))
def sliceV (x : V) (l h : Nat) : Option V :=
  match x with
  | .st s => some (.st ((s.drop l).take (h - l)))
  | .ns => some .ns
  | .vs sz es => some (.vs sz ((es.drop l).take (h - l)))
  | .hs id i _ => some (.hs id (i + l) (h - l))
  | _ => none
def szD (hp : Hp) (sz : Nat) (x : V) (k : D) : D :=
  match x with
  | .vs n _ => bif Nat.beq n sz then k else .bad
  | .hs id _ _ => match hget hp id with
    | some b => bif Nat.beq b.sz sz then k else .bad
    | none => .bad
  | _ => k
def boundD (tm : Tm) (d : Nat) (a : Option A) (k : Nat → D) : D :=
  match a with
  | none => k d
  | some a => natD (get tm a) k
def iSlc (s : Bool) (sz : Nat) (x : A) (lo hi : Option A) : Ins := fun _ _ _ st k _ => szD st.hp sz (get st.tm x) <|
  oneD (lenOf s (get st.tm x)) fun n => boundD st.tm 0 lo fun l => boundD st.tm n hi fun h =>
      .chk (Nat.ble l h) (.chk (Nat.ble h n) (oneD (sliceV (get st.tm x) l h) fun v => k v st))
def iFad (off : Nat) (a : A) : Ins := fun _ clr d st k _ => moveD clr d off (get st.tm a) fun v => k v st
def iFld (off n : Nat) (g : Bool) (x : A) : Ins := fun _ _ _ st k _ =>
  match get st.tm x with
  | .ag cs => cutD n off cs fun cs => oneD (pickC n g cs) fun v => k v st
  | _ => .bad
def iIas (sz : Nat) (x i : A) : Ins := fun _ _ _ st k _ => natD (get st.tm i) fun i =>
  match get st.tm x with
  | .vs n es => bif Nat.beq n sz then .chk (Nat.blt i es.length) (k (.ip (es.getD i [])) st) else .bad
  | .hs id i0 len => match hget st.hp id with
    | some b => bif Nat.beq b.sz sz then .chk (Nat.blt i len) (k (.pt id (i0 + i) 0) st) else .bad
    | none => .bad
  | _ => .bad
def iIaa (len sz : Nat) (a i : A) : Ins := fun _ clr d st k _ => natD (get st.tm i) fun i =>
  .chk (Nat.blt i len) (moveD clr d (i * sz) (get st.tm a) fun v => k v st)
def iIxs (x i : A) : Ins := fun _ _ _ st k _ => natD (get st.tm i) fun i =>
  match get st.tm x with
  | .st s => .chk (Nat.blt i s.length) (k (byte (s.getD i 0)) st)
  | _ => .bad
def iIxa (len sz : Nat) (g : Bool) (x i : A) : Ins := fun _ _ _ st k _ => natD (get st.tm i) fun i =>
  match get st.tm x with
  | .ag cs => .chk (Nat.blt i len) (cutD sz (i * sz) cs fun cs => oneD (pickC sz g cs) fun v => k v st)
  | _ => .bad
def iExt (x : A) (n : Nat) : Ins := fun _ _ _ st k _ =>
  match get st.tm x with
  | .tu xs => oneD xs[n]? fun v => notLpD v fun v => k v st
  | _ => .bad
def iLen (s : Bool) (x : A) : Ins := fun _ _ _ st k _ => oneD (lenOf s (get st.tm x)) fun n => k (i64 (.ofNat n)) st
def appendD (us : List Nat) (st : St) (sz bytes : Nat) (base : V) (new : List (List V)) (k : V → St → D) : D :=
  match base with
  | .ns => match new with
    | [] => k .ns st
    | x :: r => .chk (Nat.ble ((x :: r).length * bytes) maxB) (k (.hs st.hp.next 0 (x :: r).length) (mk st ⟨sz, false, x :: r⟩))
  | .hs id i n => match hget st.hp id with
    | some b => bif b.fr then .bad else bif Nat.blt id st.hp.lim then .bad else bif Nat.beq b.sz sz then bif freshH us st.tm id then
      .chk (Nat.ble (i + n) b.es.length) (.chk (Nat.ble ((n + new.length) * bytes) maxB)
        (k (.hs st.hp.next 0 (n + new.length)) (st.setHp (hnew (hset st.hp id none) ⟨sz, false, (b.es.drop i).take n ++ new⟩)))) else .bad else .bad
    | none => .bad
  | .vs m es => bif Nat.beq m sz then .chk (Nat.beq new.length 0) (k (.vs m es) st) else .bad
  | _ => .bad
def iApp (sz bytes : Nat) (x y : A) : Ins := fun us _ _ st k _ => rowsD st.hp sz (get st.tm y) fun new => appendD us st sz bytes (get st.tm x) new k
def iApz (x n : A) : Ins := fun us _ _ st k _ => natD (get st.tm n) fun n => .chk (Nat.blt 0 n) (.chk (Nat.ble n maxB) (appendD us st 1 1 (get st.tm x) ((List.replicate n 0).map fun n => [byte n]) k))
def cpyD (us : List Nat) (st : St) (sz : Nat) (new : List (List V)) (dst : V) (k : V → St → D) : D :=
  match dst with
  | .hs id i n => match hget st.hp id with
    | some b => bif b.fr then .bad else bif Nat.blt id st.hp.lim then .bad else bif Nat.beq b.sz sz then bif freshH us st.tm id then
      .chk (Nat.ble (i + n) b.es.length) (k (i64 (.ofNat (new.take n).length)) (st.setHp (hset st.hp id (some ⟨b.sz, b.fr, over i (new.take n) b.es⟩)))) else .bad else .bad
    | none => .bad
  | _ => .bad
def iCpy (sz : Nat) (x y : A) : Ins := fun us _ _ st k _ => elemsD st.hp sz (get st.tm y) fun new => cpyD us st sz new (get st.tm x) k
def clrD (us : List Nat) (st : St) (sz : Nat) (z : List V) (x : V) (k : V → St → D) : D :=
  match x with
  | .ns => k (.tu []) st
  | .hs id i n => bif Nat.beq n 0 then k (.tu []) st else match hget st.hp id with
    | some b => bif b.fr then .bad else bif Nat.blt id st.hp.lim then .bad else bif Nat.beq b.sz sz then bif freshH us st.tm id then
      .chk (Nat.ble (i + n) b.es.length) (k (.tu []) (st.setHp (hset st.hp id (some ⟨b.sz, b.fr, over i (List.replicate n z) b.es⟩)))) else .bad else .bad
    | none => .bad
  | _ => .bad
def iClr (sz : Nat) (z : List V) (x : A) : Ins := fun us _ _ st k _ => clrD us st sz z (get st.tm x) k
def mapGet (l : List Nat) : List (List V) → Option V
  | [.st k, v] :: r => bif beqL k l then some v else mapGet l r
  | _ => none
def mapPut (l : List Nat) (v : V) : List (List V) → List (List V)
  | [.st k, u] :: r => bif beqL k l then [.st l, v] :: r else [.st k, u] :: mapPut l v r
  | r => r ++ [[.st l, v]]
def idxB (c : Nat) : List Nat → Int
  | [] => -1
  | b :: r => bif Nat.beq b c then 0 else match idxB c r with
    | .ofNat n => .ofNat (n + 1)
    | x => x
def iIxb (x y : A) : Ins := fun _ _ _ st k _ =>
  match get st.tm x with
  | .st l => match get st.tm y with
    | .it .u8 n => k (.it .i64 (idxB (n.toNat % 256) l)) st
    | _ => .bad
  | _ => .bad
def cntB (c : Nat) : List Nat → Nat
  | [] => 0
  | b :: r => bif Nat.beq b c then cntB c r + 1 else cntB c r
def iCtb (x y : A) : Ins := fun _ _ _ st k _ =>
  match get st.tm x with
  | .st l => match get st.tm y with
    | .it .u8 n => k (.it .i64 (.ofNat (cntB (n.toNat % 256) l))) st
    | _ => .bad
  | _ => .bad
def iMmk : Ins := fun _ _ _ st k _ => k (.mp st.hp.next) (mk st ⟨2, false, []⟩)
def mgetD (ok : Bool) (z : V) (es : List (List V)) (l : List Nat) (st : St) (k : V → St → D) : D :=
  match mapGet l es with
  | some u => k (bif ok then .tu [u, .bo true] else u) st
  | none => k (bif ok then .tu [z, .bo false] else z) st
def iMlk (ok : Bool) (z : V) (x i : A) : Ins := fun _ _ _ st k _ =>
  match get st.tm i with
  | .st l => match get st.tm x with
    | .mp id => match hget st.hp id with
      | some b => bif Nat.beq b.sz 2 then mgetD ok z b.es l st k else .bad
      | none => .bad
    | .nm => k (bif ok then .tu [z, .bo false] else z) st
    | _ => .bad
  | _ => .bad
def iMup (x i v : A) : Ins := fun us _ _ st k _ =>
  match get st.tm i with
  | .st l => match get st.tm x with
    | .mp id => match hget st.hp id with
      | some b => bif Nat.beq b.sz 2 then bif Nat.blt id st.hp.lim then .bad else bif freshH us st.tm id then bif (get st.tm v).keep then
        k .un (st.setHp (hset st.hp id (some ⟨2, false, mapPut l (get st.tm v) b.es⟩))) else .bad else .bad else .bad
      | none => .bad
    | _ => .bad
  | _ => .bad
def iMrk (x : A) : Ins := fun _ _ _ st k _ =>
  match get st.tm x with
  | .hs id i n => match hget st.hp id with
    | some b => bif b.fr then .bad else bif Nat.beq b.sz 1 then .chk (Nat.blt 0 n) (k (.hs id i n) st) else .bad
    | none => .bad
  | _ => .bad
def iMn3 (mx : Bool) (x y z : A) : Ins := fun _ _ _ st k _ => oneD (minmax mx (get st.tm x) (get st.tm y)) fun u => oneD (minmax mx u (get st.tm z)) fun v => k v st
def iMnx (mx : Bool) (x y : A) : Ins := fun _ _ _ st k _ => oneD (minmax mx (get st.tm x) (get st.tm y)) fun v => k v st
def force {α : Type} (k : V → α) : V → α
  | .un => k .un
  | .bo true => k (.bo true)
  | .bo false => k (.bo false)
  | .it a n => k (.it a n)
  | .fl a n => k (.fl a n)
  | .st l => k (.st l)
  | .np => k .np
  | .pt a b c => k (.pt a b c)
  | .lp a b => k (.lp a b)
  | .ip l => k (.ip l)
  | .ns => k .ns
  | .vs n l => k (.vs n l)
  | .hs a b c => k (.hs a b c)
  | .ag l => k (.ag l)
  | .tu l => k (.tu l)
  | .fc t v => k (.fc t v)
  | .nf => k .nf
  | .fn a b c => k (.fn a b c)
  | .nfn => k .nfn
  | .mp a => k (.mp a)
  | .nm => k .nm
def forceL {α : Type} (k : List V → α) : List V → α
  | [] => k []
  | v :: r => force (fun v => forceL (fun r => k (v :: r)) r) v
def callD (own : Bool) (f : Nat) (xs : List V) (st : St) (k kp : V → St → D) : D :=
  bif xs.any isLp then .bad else
  .call own f xs st.hp fun c => match c with
    | .bad => .bad
    | .ret v hp => k v (st.setHp hp)
    | .pan v hp => kp v (st.setHp hp)
def vEq : V → V → Bool
  | .it k a, .it k' b => keq k k' && ieq a b
  | .bo a, .bo b => a == b
  | .st a, .st b => beqL a b
  | .np, .np => true
  | .ns, .ns => true
  | .nf, .nf => true
  | .nfn, .nfn => true
  | .nm, .nm => true
  | .pt a b c, .pt d e f => Nat.beq a d && (Nat.beq b e && Nat.beq c f)
  | .hs a b c, .hs d e f => Nat.beq a d && (Nat.beq b e && Nat.beq c f)
  | .mp a, .mp b => Nat.beq a b
  | _, _ => false
def rowEq : List V → List V → Bool
  | [], [] => true
  | a :: x, b :: y => bif vEq a b then rowEq x y else false
  | _, _ => false
def rowsEq : List (List V) → List (List V) → Bool
  | [], [] => true
  | a :: x, b :: y => bif rowEq a b then rowsEq x y else false
  | _, _ => false
def keepO (a b : Option Bk) : Bool :=
  match a with
  | none => true
  | some x => match b with
    | some y => Nat.beq y.sz x.sz && rowsEq y.es x.es
    | none => false
def keepT (hp hp' : Hp) : V → Bool
  | .pt id _ _ => keepO (hget hp id) (hget hp' id)
  | .hs id _ _ => keepO (hget hp id) (hget hp' id)
  | .mp id => keepO (hget hp id) (hget hp' id)
  | _ => true
def keepsB (us : List Nat) (tm : Tm) (hp hp' : Hp) : Bool := us.all fun t => keepT hp hp' (tm t)
def iCall (own : Bool) (f : Nat) (xs : List A) : Ins := fun us _ _ st k kp => callD own f (xs.map (get st.tm)) st (fun v s => bif keepsB us st.tm st.hp s.hp then k v s else .bad) kp
def flatC : V → Bool
  | .bo _ | .it .. | .fl .. | .st _ | .np | .ns | .vs .. | .nf | .nfn => true
  | _ => false
def flatV : V → Bool
  | .ag cs => cs.all flatC
  | v => flatC v
def iCpf (f : Nat) (xs : List A) : Ins := fun _ _ _ st k _ => bif (xs.map (get st.tm)).all flatV then .call false f (xs.map (get st.tm)) h0 (fun c => match c with
    | .ret v _ => k v st
    | _ => .bad) else .bad
def goodF (fs : List Nat) (f : Nat) : Bool :=
  match fs with
  | [] => true
  | fs => hasN fs f
def iClv (fs : List Nat) (f : A) (xs : List A) : Ins := fun _ _ _ st k kp =>
  match get st.tm f with
  | .fn f first cap => bif goodF fs f then callD false f (first ++ xs.map (get st.tm) ++ cap) st k kp else .bad
  | _ => .bad
def iPan (x : A) : Ins := fun _ _ _ st _ kp =>
  match get st.tm x with
  | .fc t v => kp (.fc t v) st
  | _ => .bad
inductive Hk where
  | bad
  | eqp (op : BinOp)
  | eqi (op : BinOp)
  | eqs (op : BinOp)
  | eqa (op : BinOp) (ks : List Nat)
  | cln (sz : Nat)
  | kmk (n : Nat)
  | klk (n : Nat) (ok : Bool) (z : V)
  | kup (n : Nat)
  deriving Inhabited
def okBk (hp : Hp) (id i off : Nat) : Bool :=
  match hget hp id with
  | some b => bif b.fr then false else bif Nat.beq b.sz 1 then false else bif Nat.blt i b.es.length then Nat.blt off b.sz else false
  | none => false
def eqpV (hp : Hp) (x y : V) : Option Bool :=
  match x, y with
  | .np, .np => some true
  | .np, .pt .. => some false
  | .pt .., .np => some false
  | .pt a i o, .pt b j p => bif okBk hp a i o then bif okBk hp b j p then some (bif Nat.beq a b then (Nat.beq i j && Nat.beq o p) else false) else none else none
  | _, _ => none
def eqiV (x y : V) : Option Bool :=
  match x, y with
  | .nf, .nf => some true
  | .nf, .fc .. => some false
  | .fc .., .nf => some false
  | _, _ => none
def eqsV (hp : Hp) (x y : V) : Option Bool :=
  match x, y with
  | .ns, .ns => some true
  | .vs _ (_ :: _), .ns => some false
  | .hs id _ _, .ns => match hget hp id with
    | some _ => some false
    | none => none
  | _, _ => none
def keyNs : Nat → List V → Option (List Nat)
  | 0, [] => some []
  | n + 1, .it .i64 (.ofNat a) :: r => match keyNs n r with
    | some l => some (a :: l)
    | none => none
  | _, _ => none
def keyOf (n : Nat) : V → Option (List Nat)
  | .ag cs => keyNs n cs
  | _ => none
def hndR (k : Hk) (xs : List V) (hp : Hp) : Option (V × Hp) :=
  match k, xs with
  | .eqp op, [x, y] => match eqpV hp x y with
    | some b => some (eqRes op b, hp)
    | none => none
  | .eqi op, [x, y] => match eqiV x y with
    | some b => some (eqRes op b, hp)
    | none => none
  | .eqs op, [x, y] => match eqsV hp x y with
    | some b => some (eqRes op b, hp)
    | none => none
  | .eqa op ks, [x, y] => match x, y with
    | .ag xs, .ag ys => match eqAll ks xs ys with
      | some b => some (eqRes op b, hp)
      | none => none
    | _, _ => none
  | .cln sz, [x] => match x with
    | .ns => some (.ns, hp)
    | .vs _ (_ :: _) => some (.hs hp.next 0 0, hnew hp ⟨sz, false, []⟩)
    | _ => none
  | .kmk n, [] => some (.mp hp.next, hnew hp ⟨n + 2, false, []⟩)
  | .klk n ok z, [x, i] => match keyOf n i with
    | some l => match x with
      | .mp id => match hget hp id with
        | some b => bif Nat.beq b.sz (n + 2) then (match mapGet l b.es with
          | some u => some (bif ok then .tu [u, .bo true] else u, hp)
          | none => some (bif ok then .tu [z, .bo false] else z, hp)) else none
        | none => none
      | _ => none
    | none => none
  | .kup n, [x, i, v] => match keyOf n i with
    | some l => match x with
      | .mp id => match hget hp id with
        | some b => bif Nat.beq b.sz (n + 2) then bif Nat.blt id hp.lim then none else bif v.keep then some (.un, hset hp id (some ⟨n + 2, false, mapPut l v b.es⟩)) else none else none
        | none => none
      | _ => none
    | none => none
  | _, _ => none
def lno (lo : Lo) (t : Nat) : Lo := fun j => bif Nat.beq j t then none else lo j
def iStp (a x : A) : Ins := fun _ _ _ st k _ =>
  match get st.tm x with
  | .lp t off => bif Nat.beq off 0 then (match st.lo t with
    | some cs => storeD [] ⟨st.tm, lno st.lo t, hnew st.hp ⟨cs.length, false, [cs]⟩⟩ [.pt st.hp.next 0 0] (get st.tm a) fun s => k .un s
    | none => .bad) else .bad
  | _ => .bad
def iHnd (h : Hk) (xs : List A) : Ins := fun _ _ _ st k _ => oneD (hndR h (xs.map (get st.tm)) st.hp) fun q => k q.1 (st.setHp q.2)
structure Op where
  dst : Option Nat
  us : List Nat
  ins : Ins
structure Gr where
  gd : Option (Nat × Bool)
  ops : List Op
def put (st : St) (dst : Option Nat) (v : V) : St :=
  match dst with
  | some d => ⟨upd st.tm d v, st.lo, st.hp⟩
  | none => st
def evL (clr : List Nat) : List Op → St → (R → D) → D
  | [], st, k => k (.norm st)
  | o :: r, st, k => o.ins o.us clr (o.dst.getD 0) st (fun v s => evL clr r (put s o.dst v) k) (fun v s => k (.pan v s))
def undo : List Op → St → St
  | [], st => st
  | o :: r, st => undo r (put st o.dst (.tu []))
def evG (clr : List Nat) (g : Gr) (st : St) (k : R → D) : D :=
  match g.gd with
  | none => evL clr g.ops st k
  | some (t, w) =>
    match st.tm t with
    | .bo b => .br (bif w then b else !b) (evL clr g.ops ⟨upd st.tm t (.bo w), st.lo, st.hp⟩ k)
        (k (.norm (undo g.ops ⟨upd st.tm t (.bo (!w)), st.lo, st.hp⟩)))
    | .tu [] => k (.norm (undo g.ops st))
    | _ => .bad
def clear : List Nat → Tm → Tm
  | [], tm => tm
  | d :: r, tm => clear r (upd tm d .un)
def evGs (clr : List Nat) : List Gr → St → (R → D) → D
  | [], st, k => k (.norm ⟨clear clr st.tm, st.lo, st.hp⟩)
  | g :: r, st, k => evG clr g st fun x => match x with
    | .norm s => evGs clr r s k
    | x => k x
abbrev Sh := St → (R → D) → D
def cSkip : Sh := fun st k => k (.norm st)
def cBad : Sh := fun _ _ => .bad
def cReg (draw : Bool) (gs : List Gr) (clr : List Nat) : Sh := fun st k =>
  bif draw then evGs clr gs st fun x => match x with
    | .pan _ _ => .bad
    | x => k x
  else evGs clr gs st k
def cSeq (a b : Sh) : Sh := fun st k => a st fun x => match x with
  | .norm s => b s k
  | x => k x
def cIf (c : A) (x y : Sh) : Sh := fun st k => match get st.tm c with
  | .bo t => .br t (x st k) (y st k)
  | _ => .bad
def cBlk (id : Nat) (c : Sh) : Sh := fun st k => c st fun x => match x with
  | .exit i s => k (bif Nat.beq i id then .norm s else .exit i s)
  | x => k x
def cLoop (keep drop : List Nat) (c : Sh) : Sh := fun st k => .loop keep drop (fun s => c s .done) st k
def cExit (id : Nat) : Sh := fun st k => k (.exit id st)
def cRet : Sh := fun st k => k (.ret st)
def shed (drop : List Nat) (lo : Lo) : Lo := fun t => bif hasN drop t then none else lo t
def keepF {α : Type} (k : Tm → α) : List Nat → Tm → α
  | [], _ => k fun _ => .un
  | s :: r, tm => force (fun v => keepF (fun t => k fun j => bif Nat.beq j s then v else t j) r tm) (tm s)
def iter (body : St → R) (keep drop : List Nat) : Nat → St → R
  | 0, _ => .bad
  | n + 1, st =>
    keepF (fun t =>
      match body ⟨t, shed drop st.lo, st.hp⟩ with
      | .norm s => iter body keep drop n s
      | x => x) keep st.tm
abbrev Call := Bool → Nat → List V → Hp → CR
def run (call : Call) (L : Nat) : D → R
  | .bad => .bad
  | .done r => r
  | .chk b d => bif b then run call L d else .bad
  | .br b x y => bif b then run call L x else run call L y
  | .call own f xs hp k => forceL (fun xs => run call L (k (call own f xs hp))) xs
  | .loop keep drop body st k => run call L (k (iter (fun s => run call L (body s)) keep drop L st))
inductive Rv where
  | tmp (t : Nat)
  | cell (t n : Nat) (g : Bool)
  deriving Inhabited
inductive Md where
  | pure | ro | rw
  deriving Inhabited
structure Fn where
  ps : List PT
  rs : List PT
  md : Md
  res : List Rv
  body : Sh
def resultsD (st : St) (l : List Rv) (k : List V → D) : D :=
  match l with
  | [] => k []
  | .tmp t :: r => notLpD (st.tm t) fun v => resultsD st r fun s => k (v :: s)
  | .cell t n g :: r => loadD st n (st.tm t) fun cs => oneD (pickC n g cs) fun v => notLpD v fun v => resultsD st r fun s => k (v :: s)
def tuple : List V → V
  | [v] => v
  | vs => .tu vs
def argT (args : List V) : Tm := fun j => args.getD j .un
def bodyD (fn : Fn) (args : List V) (hp : Hp) : D :=
  fn.body ⟨argT args, fun _ => none, hp⟩ fun x => match x with
    | .norm st | .ret st => resultsD st fn.res fun vs => .done (.ret ⟨fun _ => tuple vs, fun _ => none, st.hp⟩)
    | .pan v st => .done (.pan v ⟨fun _ => .un, fun _ => none, st.hp⟩)
    | _ => .bad
def crOf : R → CR
  | .ret st => .ret (st.tm 0) st.hp
  | .pan v st => .pan v st.hp
  | _ => .bad
def runF (call : Call) (L : Nat) (fn : Fn) (args : List V) (hp : Hp) : CR :=
  bif Nat.beq args.length fn.ps.length then crOf (run call L (bodyD fn args hp)) else .bad
def ownP (t : PT) (v : V) (h hp : Hp) : Option (V × Hp) :=
  match t, v with
  | .c (.sl ts), .hs id i len => match hget h id with
    | some b => bif b.fr then none else bif Nat.blt id h.lim then none else bif Nat.beq b.sz ts.length then bif Nat.ble (i + len) b.es.length then
        match closeEs depth ts ((b.es.drop i).take len) (hset h id none) with
        | some (es, _) => some (.hs hp.next 0 len, hnew hp ⟨b.sz, false, es⟩)
        | none => none else none else none
    | none => none
  | t, v => match closeP t v h with
    | some (x, _) => some (x, hp)
    | none => none
def untuple (n : Nat) (v : V) : List V :=
  bif Nat.beq n 1 then [v] else match v with
  | .tu xs => xs
  | v => [v]
def back (own : Bool) (fn : Fn) (hp : Hp) : CR → CR
  | .ret v h => match own, fn.rs with
    | true, [t] => match ownP t v h hp with
      | some (x, hp) => .ret x hp
      | none => .bad
    | _, rs => match closeAll rs (untuple rs.length v) h with
      | some (xs, _) => .ret (tuple xs) hp
      | none => .bad
  | _ => .bad
def runP (own : Bool) (call : Call) (L : Nat) (fn : Fn) (args : List V) (hp : Hp) : CR :=
  match closeAll fn.ps args hp with
  | none => .bad
  | some (xs, hp) => back own fn hp (runF call L fn xs h0)
def oldC (n : Nat) : V → Bool
  | .pt id _ _ => Nat.blt id n
  | .hs id _ _ => Nat.blt id n
  | .mp id => Nat.blt id n
  | .nm => true
  | .bo _ | .it .. | .fl .. | .st _ | .np | .ns | .vs .. | .nf | .nfn | .ip _ => true
  | _ => false
def oldV (n : Nat) : V → Bool
  | .ag cs => cs.all (oldC n)
  | v => oldC n v
def oldT (n : Nat) : V → Bool
  | .tu xs => xs.all (oldV n)
  | v => oldV n v
def runR (call : Call) (L : Nat) (fn : Fn) (args : List V) (hp : Hp) : CR :=
  match runF call L fn args ⟨hp.next, hp.next, hp.tr⟩ with
  | .ret v _ => bif oldT hp.next v then .ret v hp else .bad
  | _ => .bad
def callF (F : Nat → Option Fn) (L : Nat) : Nat → Call
  | 0, _, _, _, _ => .bad
  | n + 1, own, f, args, hp =>
    match F f with
    | none => .bad
    | some fn => match fn.md with
      | .pure => runP own (callF F L n) L fn args hp
      | .ro => runR (callF F L n) L fn args hp
      | .rw => runF (callF F L n) L fn args hp
end Ev
namespace Ev
open Go
inductive I where
  | mov (x : A)
  | pick (c a b : A)
  | alc (z : List V)
  | alh (z : List V)
  | box (x : A)
  | bxh (x : A)
  | bld (z : List V) (ps : List (Nat × Nat × A))
  | bsl (sz : Nat) (es : List (List V)) (ps : List (Nat × A))
  | bsv (ts : List Ty) (sz : Nat) (es : List (List V)) (ps : List (Nat × A))
  | ld (n : Nat) (g : Bool) (a : A)
  | ldl (n : Nat) (g : Bool) (a : A)
  | sto (n : Nat) (a x : A)
  | nck (x : A)
  | bin (q : Qk) (op : BinOp) (x y : A)
  | un (op : UnOp) (x : A)
  | cnv (c : Cv) (x : A)
  | mki (t : TypeId) (x : A)
  | mkf (f : Nat) (first cap : List A)
  | mks (sz bytes : Nat) (z : List V) (l c : A)
  | slc (s : Bool) (sz : Nat) (x : A) (lo hi : Option A)
  | fad (off : Nat) (a : A)
  | fld (off n : Nat) (g : Bool) (x : A)
  | ias (sz : Nat) (x i : A)
  | iaa (len sz : Nat) (a i : A)
  | ixs (x i : A)
  | ixa (len sz : Nat) (g : Bool) (x i : A)
  | ext (x : A) (k : Nat)
  | call (own : Bool) (md : Md) (f : Nat) (xs : List A)
  | cpf (f : Nat) (xs : List A)
  | calv (fs : List Nat) (f : A) (xs : List A)
  | len (s : Bool) (x : A)
  | app (sz bytes : Nat) (x y : A)
  | mnx (mx : Bool) (x y : A)
  | mn3 (mx : Bool) (x y z : A)
  | apz (x n : A)
  | cpy (sz : Nat) (x y : A)
  | clr (sz : Nat) (z : List V) (x : A)
  | mrk (x : A)
  | ixb (x y : A)
  | ctb (x y : A)
  | mmk
  | mlk (ok : Bool) (z : V) (x i : A)
  | mup (x i v : A)
  | pan (x : A)
  | hnd (h : Hk) (xs : List A)
  | stp (a x : A)
def I.den : I → Ins
  | .mov x => iMov x
  | .pick a b c => iPick a b c
  | .alc z => iAlc z
  | .alh z => iAlh z
  | .box x => iBox x
  | .bxh x => iBxh x
  | .bld z ps => iBld z ps
  | .bsl s es ps => iBsl s es ps
  | .bsv ts s es ps => iBsv ts s es ps
  | .ld n g a => iLd n g a
  | .ldl n g a => iLdl n g a
  | .sto n a x => iSto n a x
  | .nck x => iNck x
  | .bin q op x y => iBin q op x y
  | .un op x => iUn op x
  | .cnv c x => iCnv c x
  | .mki t x => iMki t x
  | .mkf f a b => iMkf f a b
  | .mks s b z l c => iMks s b z l c
  | .slc b s x lo hi => iSlc b s x lo hi
  | .fad o a => iFad o a
  | .fld o n g x => iFld o n g x
  | .ias s x i => iIas s x i
  | .iaa n s a i => iIaa n s a i
  | .ixs x i => iIxs x i
  | .ixa n s g x i => iIxa n s g x i
  | .ext x k => iExt x k
  | .call o _ f xs => iCall o f xs
  | .cpf f xs => iCpf f xs
  | .calv fs f xs => iClv fs f xs
  | .len s x => iLen s x
  | .app s b x y => iApp s b x y
  | .mnx m x y => iMnx m x y
  | .mn3 m x y z => iMn3 m x y z
  | .apz x n => iApz x n
  | .cpy s x y => iCpy s x y
  | .clr s z x => iClr s z x
  | .mrk x => iMrk x
  | .ixb x y => iIxb x y
  | .ctb x y => iCtb x y
  | .mmk => iMmk
  | .mlk o z x i => iMlk o z x i
  | .mup x i v => iMup x i v
  | .pan x => iPan x
  | .hnd h xs => iHnd h xs
  | .stp a x => iStp a x
structure DOp where
  dst : Option Nat
  gd : Option (Nat × Bool)
  us : List Nat
  ins : I
def DOp.den (o : DOp) : Op := ⟨o.dst, o.us, o.ins.den⟩
structure DGr where
  gd : Option (Nat × Bool)
  ops : List DOp
def DGr.den (g : DGr) : Gr := ⟨g.gd, g.ops.map DOp.den⟩
def sameG : Option (Nat × Bool) → Option (Nat × Bool) → Bool
  | none, none => true
  | some (a, x), some (b, y) => Nat.beq a b && (x == y)
  | _, _ => false
def group : List DOp → List DGr
  | [] => []
  | o :: r => match group r with
    | g :: s => bif sameG o.gd g.gd then ⟨g.gd, o :: g.ops⟩ :: s else ⟨o.gd, [o]⟩ :: g :: s
    | [] => [⟨o.gd, [o]⟩]
def alone (l : List DOp) : List DGr := l.map fun o => ⟨o.gd, [o]⟩
inductive C where
  | skip
  | bad
  | reg (draw : Bool) (ops : List DOp) (clr : List Nat)
  | seq (a b : C)
  | cond (c : A) (x y : C)
  | blk (id : Nat) (c : C)
  | loop (keep drop : List Nat) (c : C)
  | exit (id : Nat)
  | ret
def C.den : C → Sh
  | .skip => cSkip
  | .bad => cBad
  | .reg draw ops clr => cReg draw ((bif draw then alone ops else group ops).map DGr.den) clr
  | .seq a b => cSeq a.den b.den
  | .cond c x y => cIf c x.den y.den
  | .blk id c => cBlk id c.den
  | .loop k d c => cLoop k d c.den
  | .exit id => cExit id
  | .ret => cRet
structure DFn where
  ps : List PT
  rs : List PT
  md : Md
  res : List Rv
  body : C
def DFn.den (f : DFn) : Fn := ⟨f.ps, f.rs, f.md, f.res, f.body.den⟩
def ofAtom : Value → Option V
  | .bool b => some (.bo b)
  | .int k n => some (.it k n)
  | .float k b => some (.fl k b)
  | .string s => some (.st (s.data.toList.map UInt8.toNat))
  | .pointer none => some .np
  | .slice none 0 0 => some .ns
  | .nilFunc => some .nfn
  | .nilIface => some .nf
  | .map none => some .nm
  | _ => none
def ofVal : Value → Option V
  | .agg cs => (allSome ofAtom cs.toList).map .ag
  | v => ofAtom v
class Glob where
  gl : Nat → Option (List V)
variable [Glob]
def cA : Operand → Option A
  | .tmp t => some (.t t)
  | .const v => (ofVal v).map .k
  | .global n => some (.k (match Glob.gl n with | some cs => .ip cs | none => .un))
  | .func f => some (.k (.fn f [] []))
def partS (pl : List (Nat × Nat)) (q : Nat × Operand) : Option (Nat × Nat × A) :=
  match pl[q.1]?, cA q.2 with
  | some (o, n), some x => some (o, n, x)
  | _, _ => none
def partA (n : Nat) (q : Nat × Operand) : Option (Nat × Nat × A) := (cA q.2).map fun x => (q.1 * n, n, x)
def partE (q : Nat × Operand) : Option (Nat × A) := (cA q.2).map fun x => (q.1, x)
def notRw : Md → Bool
  | .rw => false
  | _ => true
structure Pol where
  loc : List Nat
  md : Md
  mds : Nat → Md
  heap : List Nat
  own : List Nat
  ord : List (Nat × List Nat)
  clr : List (Nat × List Nat)
  mask : List (Nat × List Nat × List Nat)
  fns : List Nat := []
  lcl : List Nat := []
  hnd : List Nat := []
  pro : List Nat := []
def assoc {α : Type} : List (Nat × α) → Nat → Option α
  | [], _ => none
  | (k, v) :: r, n => bif Nat.beq k n then some v else assoc r n
def dIn' (d : Option Nat) (l : List Nat) : Bool := match d with
  | some d => hasN l d
  | none => false
section
variable (P : Program)
def size (t : TypeId) : Option Nat := (P.info? t).map (·.size)
def bytesOf (t : TypeId) : Option Nat := (P.info? t).map (·.bytes)
def isAgg (t : TypeId) : Option Bool :=
  match P.underlying t with
  | some (.struct _) | some (.array ..) => some true
  | some _ => some false
  | none => none
def zeroOf (t : TypeId) : Option (List V) := (P.info? t).bind fun i => i.zero.bind fun z => (ofVal z).map V.cells
def field (s : TypeId) (i : Nat) : Option Field :=
  match P.underlying s with
  | some (.struct fs) => fs[i]?
  | _ => none
def elemOf (t : TypeId) : Option TypeId :=
  match P.underlying t with
  | some (.slice e) => some e
  | _ => none
def tyCells : Nat → TypeId → Option (List Ty)
  | 0, _ => none
  | n + 1, t =>
    match P.underlying t with
    | some (.struct fs) => (allSome (fun f => tyCells n f.type) (fs.toList : List Field)).map fun l => l.flatten
    | some (.array k e) => (tyCells n e).map fun l => (List.replicate k l).flatten
    | some (.slice e) => (tyCells n e).map fun l => [.sl l]
    | some _ => some [.one]
    | none => none
def ptOf (t : TypeId) : Option PT :=
  match isAgg P t, tyCells P 20 t with
  | some true, some l => some (.g l)
  | some false, some [x] => some (.c x)
  | _, _ => none
def flatS : List Field → Option (List Nat)
  | [] => some []
  | f :: r => match P.underlying f.type, flatS r with
    | some d, some ks => if f.name = "_" then none else match d with
      | .int _ => some (0 :: ks)
      | .string => some (1 :: ks)
      | .bool => some (2 :: ks)
      | _ => none
    | _, _ => none
def inRow : Nat → List Field → Bool
  | _, [] => true
  | n, f :: r => Nat.beq f.offset n && inRow (n + 1) r
def qkOf (t : TypeId) : Option Qk :=
  match P.underlying t with
  | some (.pointer e) => match P.info? e with
    | some i => if i.size = 0 then none else some .ptr
    | none => none
  | some .bool => some .bo
  | some (.slice _) => some .sl
  | some (.int _) | some .string => some .no
  | some (.struct fs) => match flatS P fs.toList with
    | some ks => if P.stoodInHeld t || P.eqGuardType P.depth t || !inRow 0 fs.toList then none else some (.ag ks)
    | none => none
  | _ => none
def isByte (e : TypeId) : Bool :=
  match P.underlying e with
  | some (.int .u8) => true
  | _ => false
def isIxb (f : FuncId) : Bool :=
  match P.funcs[f]? with
  | some fn => match fn.body with
    | none => fn.name == "internal/bytealg.IndexByteString" && (Extern.findNext fn).isNone
    | some _ => false
  | none => false
def isCtb (f : FuncId) : Bool :=
  match P.funcs[f]? with
  | some fn => match fn.body with
    | none => fn.name == "internal/bytealg.CountString" && (Extern.findNext fn).isNone
    | some _ => false
  | none => false
def mapOk (t : TypeId) : Bool :=
  match P.underlying t with
  | some (.map k _) => match P.underlying k with
    | some .string => true
    | _ => false
  | _ => false
def zeroV (t : TypeId) : Option V := (P.info? t).bind fun i => i.zero.bind ofVal
def isZ : Option Value → Bool
  | some (.int .u8 n) => n == 0
  | _ => false
def cConv (hp : Bool) (s d : TypeId) : Option Cv :=
  match P.underlying s, P.underlying d with
  | some (.int _), some (.int k) => some (.int k)
  | some .string, some .string => some .s2s
  | some .string, some (.slice e) => if isByte P e then some (if hp then .s2b else .s2v) else none
  | some (.slice e), some .string => if isByte P e then some .b2s else none
  | _, _ => none
def isLcl (l : List Nat) : A → Bool
  | .t t => hasN l t
  | .k _ => false
def isCpf (pol : Pol) (f : Nat) (d : Option Nat) : Bool := (match d with | some d => hasN pol.lcl d | none => false) && (match pol.mds f with | .pure => true | _ => false)
def cIns0 (pol : Pol) (o : Oper) : Option I :=
  match o.op with
  | .move x | .assign x => (cA x).map .mov
  | .pick c a b => match cA c, cA a, cA b with
    | some c, some a, some b => some (.pick c a b)
    | _, _, _ => none
  | .alloc e => match zeroOf P e, size P e, o.dst with
    | some z, some s, some d => if z.length = s then some (if hasN pol.loc d then .alc z else .alh z) else none
    | _, _, _ => none
  | .box e x => match o.dst, cA x, size P e with
    | some d, some x, some _ => some (if hasN pol.loc d then .box x else .bxh x)
    | _, _, _ => none
  | .build t ps =>
    match zeroOf P t, size P t, P.underlying t with
    | some z, some s, some (.struct fs) => match fs.toList.mapM (fun f => (P.info? f.type).map fun i => (f.offset, i.size)) with
      | some pl => if z.length = s then
        (allSome (partS pl) ps.toList).map (.bld z) else none
      | none => none
    | some z, some s, some (.array _ e) => if z.length = s then match size P e with
      | some n => (allSome (partA n) ps.toList).map (.bld z)
      | none => none else none
    | _, _, _ => none
  | .buildSlice t n ps => match elemOf P t with
    | some e => match size P e, zeroOf P e, allSome partE ps.toList, tyCells P 20 e, o.dst with
      | some s, some z, some ps, some ts, some d => if n * s ≤ 2 ^ 20 ∧ 0 < s ∧ z.length = s ∧ ts.length = s then
          some (if hasN pol.heap d then .bsl s (List.replicate n z) ps else .bsv ts s (List.replicate n z) ps) else none
      | _, _, _, _, _ => none
    | none => none
  | .load t a => match size P t, isAgg P t, cA a with
    | some n, some g, some a => some (if isLcl pol.lcl a then .ldl n g a else .ld n g a)
    | _, _, _ => none
  | .store t a x => match size P t, cA a, cA x with
    | some n, some a, some x => some (if isLcl pol.pro x && Nat.beq n 1 then .stp a x else .sto n a x)
    | _, _, _ => none
  | .nilCheck x => (cA x).map .nck
  | .binOp op t x y _ => match cA x, cA y with
    | some x, some y => if isEq op then (qkOf P t).map fun q => .bin q op x y else some (.bin .no op x y)
    | _, _ => none
  | .unOp op _ x => (cA x).map (.un op)
  | .convert s d x => match o.dst with
    | some t => match cConv P (hasN pol.heap t) s d, cA x with
      | some c, some x => some (.cnv c x)
      | none, some x => if s = d then match P.underlying d with
        | some (.slice e) => if isByte P e then some (.mrk x) else none
        | _ => none else none
      | _, _ => none
    | none => none
  | .makeInterface t x => match P.underlying t, cA x with
    | some (.interface _), _ => none
    | some _, some x => some (.mki t x)
    | _, _ => none
  | .makeFunc (.func f) first cap => match allSome cA first.toList, allSome cA cap.toList with
    | some a, some b => some (.mkf f a b)
    | _, _ => none
  | .makeSlice t l c => match elemOf P t with
    | some e => match size P e, zeroOf P e, bytesOf P e, cA l, cA c with
      | some s, some z, some b, some l, some c => if 0 < s ∧ z.length = s then some (.mks s b z l c) else none
      | _, _, _, _, _ => none
    | none => none
  | .slice t x lo hi none => match cA x, (match lo with | none => some none | some a => (cA a).map some : Option (Option A)), (match hi with | none => some none | some a => (cA a).map some : Option (Option A)) with
    | some x, some lo, some hi => match P.underlying t with
      | some .string => some (.slc true 0 x lo hi)
      | some (.slice e) => (size P e).map fun s => .slc false s x lo hi
      | _ => none
    | _, _, _ => none
  | .fieldAddr s a i => match field P s i, cA a with
    | some f, some a => match size P f.type with
      | some n => if n = 0 then none else some (.fad f.offset a)
      | none => none
    | _, _ => none
  | .field s x i => match field P s i, cA x with
    | some f, some x => match size P f.type, isAgg P f.type with
      | some n, some g => some (.fld f.offset n g x)
      | _, _ => none
    | _, _ => none
  | .indexAddr t x i => match P.underlying t, cA x, cA i with
    | some (.slice e), some x, some i => (size P e).map fun s => .ias s x i
    | some (.array n e), some x, some i => (size P e).map fun s => .iaa n s x i
    | _, _, _ => none
  | .index t x i => match P.underlying t, cA x, cA i with
    | some .string, some x, some i => some (.ixs x i)
    | some (.array n e), some x, some i => match size P e, isAgg P e with
      | some s, some g => some (.ixa n s g x i)
      | _, _ => none
    | _, _, _ => none
  | .extract x k => (cA x).map fun x => .ext x k
  | .panic x => (cA x).map .pan
  | .makeMap t none => if mapOk P t then some .mmk else none
  | .lookup t x i ok => match P.underlying t, cA x, cA i with
    | some (.map _ e), some x, some i => if mapOk P t then match zeroV P e with
      | some z => some (.mlk ok z x i)
      | none => none else none
    | _, _, _ => none
  | .mapUpdate t x i v => match cA x, cA i, cA v with
    | some x, some i, some v => if mapOk P t then some (.mup x i v) else none
    | _, _, _ => none
  | .call c =>
    match c.callee, allSome cA c.args.toList with
    | .value (.func f), some xs => if isIxb P f then match xs with
      | [x, y] => some (.ixb x y)
      | _ => none else if isCtb P f then match xs with
      | [x, y] => some (.ctb x y)
      | _ => none else if isCpf pol f o.dst then some (.cpf f xs) else some (.call (match o.dst with | some d => hasN pol.own d | none => false) (pol.mds f) f xs)
    | .value f, some xs => (cA f).map fun f => .calv (bif pol.fns.all (fun g => notRw (pol.mds g)) then pol.fns else []) f xs
    | .builtin b, some xs =>
      match b, xs with
      | .len, [x] =>
        match (c.argTypes[0]?).bind P.underlying with
        | some (.array n _) => some (.mov (.k (i64 (.ofNat n))))
        | some (.pointer a) => match P.underlying a with
          | some (.array n _) => some (.mov (.k (i64 (.ofNat n))))
          | _ => none
        | some .string => some (.len true x)
        | some (.slice _) => some (.len false x)
        | _ => none
      | .append, [x, y] => match c.argTypes.toList with
        | [t, tx] => match P.underlying t, P.underlying tx with
          | some (.slice e), some u => match size P e, bytesOf P e, zeroOf P e with
            | some s, some b, some z => if 0 < s ∧ 0 < b ∧ z.length = s then match u with
              | .slice _ | .string => some (.app s b x y)
              | .int _ => if isByte P e ∧ s = 1 ∧ b = 1 ∧ isZ ((P.info? e).bind (·.zero)) = true then some (.apz x y) else none
              | _ => none else none
            | _, _, _ => none
          | _, _ => none
        | _ => none
      | .copy, [x, y] => match c.argTypes.toList with
        | [t, tx] => match P.underlying t, P.underlying tx with
          | some (.slice e), some u => match size P e with
            | some s => if 0 < s then match u with
              | .slice _ | .string => some (.cpy s x y)
              | _ => none else none
            | none => none
          | _, _ => none
        | _ => none
      | .clear, [x] => match c.argTypes.toList with
        | [t] => match P.underlying t with
          | some (.slice e) => match size P e, zeroOf P e with
            | some s, some z => if 0 < s ∧ z.length = s then some (.clr s z x) else none
            | _, _ => none
          | _ => none
        | _ => none
      | .min, [x, y] => some (.mnx false x y)
      | .max, [x, y] => some (.mnx true x y)
      | .min, [x, y, z] => some (.mn3 false x y z)
      | .max, [x, y, z] => some (.mn3 true x y z)
      | _, _ => none
    | _, _ => none
  | _ => none
def isNf : Operand → Bool
  | .const .nilIface => true
  | _ => false
def isNs : Operand → Bool
  | .const (.slice none 0 0) => true
  | _ => false
def isZero : Operand → Bool
  | .const (.int .i64 0) => true
  | _ => false
def noneOrZero : Option Operand → Bool
  | none => true
  | some x => isZero x
mutual
def flatT : Nat → TypeId → Option (List Nat)
  | 0, _ => none
  | n + 1, t => match P.underlying t with
    | some (.int _) => some [0]
    | some .string => some [1]
    | some .bool => some [2]
    | some (.struct fs) => if P.stoodInHeld t then none else match flatFs n 0 fs.toList with
      | some ks => if size P t = some ks.length then some ks else none
      | none => none
    | _ => none
def flatFs : Nat → Nat → List Field → Option (List Nat)
  | 0, _, _ => none
  | _ + 1, _, [] => some []
  | n + 1, off, f :: r => if f.name = "_" ∨ f.offset ≠ off then none else match flatT n f.type with
    | some ks => match flatFs n (off + ks.length) r with
      | some s => some (ks ++ s)
      | none => none
    | none => none
end
def keyLen (t : TypeId) : Option Nat :=
  match P.underlying t with
  | some (.struct fs) => match flatS P fs.toList with
    | some (k :: ks) => if P.stoodInHeld t || (!inRow 0 fs.toList || !(k :: ks).all (Nat.beq 0 ·)) then none else some (k :: ks).length
    | _ => none
  | _ => none
def kMap (t : TypeId) : Option Nat :=
  match P.underlying t with
  | some (.map k _) => keyLen P k
  | _ => none
def cHnd (o : Oper) : I :=
  match o.op with
  | .binOp op t x y _ => match cA x, cA y with
    | some xa, some ya => if isEq op then match P.underlying t with
        | some (.pointer _) => match qkOf P t with
          | some .ptr => .hnd (.eqp op) [xa, ya]
          | _ => .hnd .bad []
        | some (.interface _) => if isNf y then .hnd (.eqi op) [xa, ya] else .hnd .bad []
        | some (.slice _) => if isNs y then .hnd (.eqs op) [xa, ya] else .hnd .bad []
        | some (.struct _) => match flatT P 40 t with
          | some ks => if P.eqGuardType P.depth t then .hnd .bad [] else .hnd (.eqa op ks) [xa, ya]
          | none => .hnd .bad []
        | _ => .hnd .bad [] else .hnd .bad []
    | _, _ => .hnd .bad []
  | .slice t x lo (some hi) (some mx) => match cA x, P.underlying t with
    | some xa, some (.slice e) => match size P e with
      | some s => if noneOrZero lo && (isZero hi && isZero mx) then .hnd (.cln s) [xa] else .hnd .bad []
      | none => .hnd .bad []
    | _, _ => .hnd .bad []
  | .makeMap t none => match kMap P t with
    | some n => .hnd (.kmk n) []
    | none => .hnd .bad []
  | .lookup t x i ok => match cA x, cA i, P.underlying t with
    | some xa, some ia, some (.map _ e) => match kMap P t, zeroV P e with
      | some n, some z => .hnd (.klk n ok z) [xa, ia]
      | _, _ => .hnd .bad []
    | _, _, _ => .hnd .bad []
  | .mapUpdate t x i v => match cA x, cA i, cA v with
    | some xa, some ia, some va => match kMap P t with
      | some n => .hnd (.kup n) [xa, ia, va]
      | none => .hnd .bad []
    | _, _, _ => .hnd .bad []
  | _ => .hnd .bad []
def cIns (pol : Pol) (o : Oper) : Option I :=
  if dIn' o.dst pol.hnd then some (cHnd P o) else match cIns0 P pol o with
    | some i => some i
    | none => some (cHnd P o)
inductive Cl where
  | p | r | l | s | a | w | c | x | q | y | m | z
def I.cl : I → Cl
  | .cpf .. | .ixb .. | .ctb .. | .mn3 .. | .mov _ | .pick .. | .bin .. | .bld .. | .bsv .. | .un .. | .mki .. | .mkf .. | .fad .. | .fld .. | .iaa .. | .ixs .. | .ixa .. | .ext .. | .len .. | .mnx .. | .nck _ => .p
  | .cnv c _ => match c with
    | .b2s => .r
    | .s2b => .a
    | _ => .p
  | .ld .. | .ias .. | .slc .. | .mlk .. => .r
  | .ldl .. => .q
  | .alc _ => .m
  | .box _ => .l
  | .sto .. => .s
  | .alh _ | .bxh _ | .bsl .. | .mks .. | .mrk _ | .mmk => .a
  | .app .. | .apz .. | .cpy .. | .mup .. | .clr .. => .w
  | .call _ md .. => match md with
    | .rw => .y
    | _ => .c
  | .calv fs .. => match fs with
    | [] => .x
    | _ => .c
  | .pan _ => .x
  | .hnd .. => .x
  | .stp .. => .z
def slotsA : A → List Nat
  | .t n => [n]
  | .k _ => []
def slotsO : Option A → List Nat
  | some a => slotsA a
  | none => []
def I.sl : I → List Nat
  | .mov x | .box x | .bxh x | .clr _ _ x | .ld _ _ x | .ldl _ _ x | .nck x | .un _ x | .cnv _ x | .mki _ x | .fad _ x | .fld _ _ _ x | .ext x _ | .len _ x | .pan x | .mrk x => slotsA x
  | .pick c a b => slotsA c ++ (slotsA a ++ slotsA b)
  | .alc _ | .alh _ | .mmk => []
  | .mlk _ _ x i => slotsA x ++ slotsA i
  | .mn3 _ x y z => slotsA x ++ (slotsA y ++ slotsA z)
  | .mup x i v => slotsA x ++ (slotsA i ++ slotsA v)
  | .bld _ ps => ps.flatMap fun q => slotsA q.2.2
  | .bsl _ _ ps | .bsv _ _ _ ps => ps.flatMap fun q => slotsA q.2
  | .sto _ a x => slotsA a ++ slotsA x
  | .ixb x y | .ctb x y | .bin _ _ x y | .mks _ _ _ x y | .ias _ x y | .iaa _ _ x y | .ixs x y | .ixa _ _ _ x y | .app _ _ x y | .mnx _ x y | .apz x y | .cpy _ x y => slotsA x ++ slotsA y
  | .mkf _ a b => a.flatMap slotsA ++ b.flatMap slotsA
  | .slc _ _ x lo hi => slotsA x ++ (slotsO lo ++ slotsO hi)
  | .call _ _ _ xs => xs.flatMap slotsA
  | .cpf _ xs => xs.flatMap slotsA
  | .calv _ f xs => slotsA f ++ xs.flatMap slotsA
  | .hnd _ xs => xs.flatMap slotsA
  | .stp a x => slotsA a ++ slotsA x
def I.rd : I → List Nat
  | .ld _ _ a => slotsA a
  | .ldl _ _ a => slotsA a
  | .ias _ x _ => slotsA x
  | .slc _ _ x .. => slotsA x
  | .cnv _ x => slotsA x
  | .mlk _ _ x _ => slotsA x
  | .stp a x => slotsA a ++ slotsA x
  | _ => []
def apart (i j : I) : Bool :=
  match i.cl, j.cl with
  | _, .z => false
  | .p, _ => true
  | .q, _ => true
  | .m, _ => true
  | .r, .x => false
  | .r, _ => true
  | _, _ => false
def cGd (ops : Array Oper) : Option (Nat × Bool) → Option (Option (Nat × Bool))
  | none => some none
  | some (j, w) => ((ops[j]?).bind (·.dst)).map fun d => some (d, w)
def dIn (d : Option Nat) (l : List Nat) : Bool := match d with
  | some d => hasN l d
  | none => false
def sameD : Option Nat → Option Nat → Bool
  | some a, some b => Nat.beq a b
  | _, _ => false
def lessN (ntm : Nat) : Option Nat → Bool
  | none => true
  | some d => Nat.blt d ntm
def cOp0 (pol : Pol) (ntm : Nat) (ops : Array Oper) (o : Oper) : Option DOp :=
  match cGd ops o.guard, cIns P pol o with
  | some g, some i => if lessN ntm o.dst && !sameD o.dst (g.map (·.1)) then some ⟨o.dst, g, [], i⟩ else none
  | _, _ => none
def loose (b : Array Nat) (i j : Nat) : Bool := !(b.getD (max i j) 0).testBit (min i j)
def DOp.md (o : DOp) : List Nat := match o.ins, o.dst with
  | .alc _, some d => [d]
  | _, _ => []
def DOp.rr (o : DOp) : List Nat := match o.ins.cl with
  | .r => o.ins.rd
  | _ => []
def beside (b : Array Nat) (ds : Array DOp) (i : Nat) (f : DOp → List Nat) : List Nat :=
  (List.range ds.size).flatMap fun j => match ds[j]? with
    | some o => if j != i && loose b i j then f o else []
    | none => []
def usOf (b : Array Nat) (ds : Array DOp) (clr : List Nat) (i : Nat) : I → List Nat
  | .alc _ | .box _ => clr ++ beside b ds i fun o => o.ins.rd ++ o.md
  | .sto .. => beside b ds i fun o => o.ins.rd ++ (o.md ++ (match o.ins.cl, o.dst with | .l, some d => [d] | _, _ => []))
  | .app .. | .apz .. | .cpy .. | .mup .. | .clr .. => beside b ds i fun o => o.ins.rd ++ o.md
  | .call _ .rw .. => beside b ds i DOp.rr
  | _ => []
def orderOk (ops : Array Oper) (p : List Nat) : Bool :=
  Nat.beq p.length ops.size && (List.range ops.size).all (fun i => hasN p i) &&
  (p.zipIdx).all fun (i, k) => match ops[i]? with
    | some o => !hasN (p.take k) i && o.after.all fun e => !Region.binds .any e || hasN (p.take k) e.on
    | none => false
def DOp.gs (o : DOp) : List Nat := match o.gd with
  | some (t, _) => [t]
  | none => []
def leaves (x y : DOp) : Bool := !dIn y.dst (x.ins.sl ++ x.gs) && !sameD x.dst y.dst
def pairOk (x y : DOp) : Bool := leaves x y && !dIn x.dst (y.ins.sl ++ y.gs) && apart x.ins y.ins
def early (ds : Array DOp) (done : List Nat) (x : DOp) : Bool :=
  done.all fun j => match ds[j]? with
    | some z => leaves z x
    | none => false
def I.rdA : I → List A
  | .ld _ _ a => [a]
  | .ldl _ _ a => [a]
  | .ias _ x _ => [x]
  | .slc _ _ x .. => [x]
  | .cnv _ x => [x]
  | .mlk _ _ x _ => [x]
  | _ => []
def constOk : A → Bool
  | .t _ => true
  | .k v => match v with
    | .lp .. | .pt .. | .hs .. | .mp _ => false
    | _ => true
def ownOk (x : DOp) : Bool := !dIn x.dst (x.ins.sl ++ x.gs) && (x.ins.rdA.all constOk && (match x.ins with | .alc _ => x.dst.isSome | _ => true))
def mOk (b : Array Nat) (ds : Array DOp) (done : List Nat) (i : Nat) (x : DOp) : Bool :=
  match x.ins with
  | .alc _ => done.all fun j => loose b j i || (match ds[j]? with | some z => z.ins.rd.isEmpty | none => false)
  | _ => true
def drawOk (b : Array Nat) (ds : Array DOp) : List Nat → List Nat → Bool
  | _, [] => true
  | done, i :: r => r.all (fun j => !loose b i j || (match ds[i]?, ds[j]? with | some x, some y => pairOk x y && (early ds done x && (ownOk x && mOk b ds done i x)) | _, _ => false)) && drawOk b ds (i :: done) r
def cReg1 (pol : Pol) (ntm id : Nat) (ops : Array Oper) (draw : Bool) : Option C :=
  match allSome (cOp0 P pol ntm ops) ops.toList with
  | none => none
  | some l =>
    let clr := (assoc pol.clr id).getD []
    let ds := l.toArray
    let b := Region.before ops
    let us (i : Nat) (o : DOp) : DOp := ⟨o.dst, o.gd, (if draw then usOf b ds clr i o.ins else match o.ins with | .alc _ | .box _ => clr | _ => []), o.ins⟩
    if draw then
      let p := (assoc pol.ord id).getD (List.range ops.size)
      if orderOk ops p && drawOk b ds [] p then
        (allSome (fun i => (ds[i]?).map (us i)) p).map fun l => .reg true l clr
      else none
    else some (.reg false (l.zipIdx.map fun (o, i) => us i o) clr)
def firstRegion : Code → Option Nat
  | .region id _ _ => some id
  | .seq a b => firstRegion a <|> firstRegion b
  | .cond _ a b => firstRegion a <|> firstRegion b
  | .block _ c | .loop c | .scope c => firstRegion c
  | _ => none
def cC (pol : Pol) (ntm : Nat) : Code → Option C
  | .skip => some .skip
  | .region id ops draw => match cReg1 P pol ntm id ops draw with
    | some c => some c
    | none => some .bad
  | .seq a b => match cC pol ntm a, cC pol ntm b with
    | some x, some y => some (.seq x y)
    | _, _ => none
  | .cond c a b => match cA c, cC pol ntm a, cC pol ntm b with
    | some c, some x, some y => some (.cond c x y)
    | _, _, _ => some .bad
  | .block id c => (cC pol ntm c).map (.blk id)
  | .loop c => match firstRegion c, cC pol ntm c with
    | some r, some x => match assoc pol.mask r with
      | some (k, d) => some (.loop k d x)
      | none => some .bad
    | _, _ => some .bad
  | .scope c => cC pol ntm c
  | .exit id => some (.exit id)
  | .ret => some .ret
  | _ => some .bad
def cRv : ResultVar → Option Rv
  | .tmp t => some (.tmp t)
  | .cell t ty => match size P ty, isAgg P ty with
    | some n, some g => some (.cell t n g)
    | _, _ => none
def cFn (pol : Pol) (fn : Func) : Option DFn :=
  match fn.body, allSome (ptOf P) fn.params.toList, allSome (ptOf P) fn.resultTypes.toList, allSome (cRv P) fn.results.toList with
  | some b, some ps, some rs, some res => if fn.params.size + fn.nfree ≤ fn.ntmps then
      (cC P pol fn.ntmps b).map fun c => ⟨ps ++ List.replicate fn.nfree (.c .one), rs, pol.md, res, c⟩ else none
  | _, _, _, _ => none
end
end Ev
namespace Ev
open Go
abbrev K := Nat → Nat → Option Value
def ad (b o : Nat) : Addr := ⟨b, o, none⟩
inductive RepC (κ : K) : V → Value → Prop
  | bo (b : Bool) : RepC κ (.bo b) (.bool b)
  | it (k : IntKind) (n : Int) : RepC κ (.it k n) (.int k n)
  | fl (k : FloatKind) (b : Nat) : RepC κ (.fl k b) (.float k b)
  | st (l : List Nat) (s : ByteArray) (h : s.data.toList.map UInt8.toNat = l) : RepC κ (.st l) (.string s)
  | np : RepC κ .np (.pointer none)
  | ns : RepC κ .ns (.slice none 0 0)
  | nf : RepC κ .nf .nilIface
  | nfn : RepC κ .nfn .nilFunc
  | nm : RepC κ .nm (.map none)
  | vs (sz : Nat) (es : List (List V)) (a : Option Addr) (cap b o : Nat) (f : Nat → Nat → Value)
      (h1 : ∀ e, e ∈ es → e.length = sz) (h2 : es ≠ [] → a = some (ad b o)) (h3 : es.length ≤ cap)
      (h4 : ∀ (i j : Nat) (e : List V) (c : V), es[i]? = some e → e[j]? = some c → c.keep = true ∧ κ b (o + i * sz + j) = some (f i j))
      (h5 : ∀ (i j : Nat) (e : List V) (c : V), es[i]? = some e → e[j]? = some c → RepC κ c (f i j)) : RepC κ (.vs sz es) (.slice a es.length cap)
structure Rg where
  b : Nat
  base : Nat
  sz : Nat
  cap : Nat
inductive Life where
  | unb
  | dead
  | live (r : Rg)
  | mlive (b : Nat)
structure G where
  κ : K
  lf : Nat → Life
inductive RepA (g : G) : V → Value → Prop
  | un (cv : Value) : RepA g .un cv
  | c (v : V) (cv : Value) (h : RepC g.κ v cv) : RepA g v cv
  | pt (id i off : Nat) (a : Addr) (h : g.lf id = .dead ∨ ∃ r, g.lf id = .live r ∧ a = ad r.b (r.base + i * r.sz + off)) : RepA g (.pt id i off) (.pointer (some a))
  | hs (id i len : Nat) (a : Option Addr) (cap : Nat) (h0 : len ≤ cap)
      (h : g.lf id = .dead ∨ ∃ r, g.lf id = .live r ∧ ((cap = 0 ∧ ∃ a', a = some a') ∨ (a = some (ad r.b (r.base + i * r.sz)) ∧ i + cap ≤ r.cap))) : RepA g (.hs id i len) (.slice a len cap)
  | mp (id b : Nat) (h : g.lf id = .dead ∨ g.lf id = .mlive b) : RepA g (.mp id) (.map (some b))
  | ip (cs : List V) (b o : Nat) (f : Nat → Value) (h1 : ∀ (i : Nat) (c : V), cs[i]? = some c → c.keep = true ∧ g.κ b (o + i) = some (f i))
      (h2 : ∀ (i : Nat) (c : V), cs[i]? = some c → RepC g.κ c (f i)) : RepA g (.ip cs) (.pointer (some (ad b o)))
  | ag (cs : List V) (arr : Array Value) (hn : arr.size = cs.length) (h1 : ∀ c, c ∈ cs → c.keep = true)
      (h2 : ∀ (i : Nat) (c : V), cs[i]? = some c → RepA g c (arr.getD i undef)) : RepA g (.ag cs) (.agg arr)
  | tu (xs : List V) (arr : Array Value) (hn : arr.size = xs.length) (h1 : ∀ x, x ∈ xs → isLp x = false)
      (h2 : ∀ (i : Nat) (x : V), xs[i]? = some x → RepA g x (arr.getD i undef)) : RepA g (.tu xs) (.tuple arr)
  | fc (t : TypeId) (v : V) (cv : Value) (hl : isLp v = false) (h : RepA g v cv) : RepA g (.fc t v) (.iface t cv)
  | fn (f : Nat) (first cap : List V) (a1 a2 : Array Value) (hn1 : a1.size = first.length) (hn2 : a2.size = cap.length)
      (hl1 : ∀ x, x ∈ first → isLp x = false) (hl2 : ∀ x, x ∈ cap → isLp x = false)
      (h1 : ∀ (i : Nat) (x : V), first[i]? = some x → RepA g x (a1.getD i undef)) (h2 : ∀ (i : Nat) (x : V), cap[i]? = some x → RepA g x (a2.getD i undef)) :
      RepA g (.fn f first cap) (.func (.func f) a1 a2)
def KLe (κ κ' : K) : Prop := ∀ b o v, κ b o = some v → κ' b o = some v
def Life.le : Life → Life → Prop
  | .unb, _ => True
  | .dead, l => l = .dead
  | .live r, l => l = .live r ∨ l = .dead
  | .mlive b, l => l = .mlive b ∨ l = .dead
structure GLe (g g' : G) : Prop where
  κ : KLe g.κ g'.κ
  lf : ∀ id, (g.lf id).le (g'.lf id)
theorem RepC.mono {κ κ' : K} (h : KLe κ κ') {v : V} {cv : Value} (r : RepC κ v cv) : RepC κ' v cv := by
  induction r with
  | bo b => exact .bo b
  | it k n => exact .it k n
  | fl k b => exact .fl k b
  | st l s e => exact .st l s e
  | np => exact .np
  | ns => exact .ns
  | nf => exact .nf
  | nfn => exact .nfn
  | nm => exact .nm
  | vs sz es a cap b o f h1 h2 h3 h4 _ ih => exact .vs sz es a cap b o f h1 h2 h3 (fun i j e c he hc => ⟨(h4 i j e c he hc).1, h _ _ _ (h4 i j e c he hc).2⟩) ih
theorem GLe.live {g g' : G} (h : GLe g g') {id : Nat} {r : Rg} (e : g.lf id = .live r) : g'.lf id = .live r ∨ g'.lf id = .dead := by
  have := h.lf id; rw [e] at this; exact this
theorem GLe.mlive {g g' : G} (h : GLe g g') {id b : Nat} (e : g.lf id = .mlive b) : g'.lf id = .mlive b ∨ g'.lf id = .dead := by
  have := h.lf id; rw [e] at this; exact this
theorem GLe.dead {g g' : G} (h : GLe g g') {id : Nat} (e : g.lf id = .dead) : g'.lf id = .dead := by
  have := h.lf id; rw [e] at this; exact this
theorem GLe.refl (g : G) : GLe g g := ⟨fun _ _ _ h => h, fun id => by cases g.lf id <;> simp [Life.le]⟩
theorem Life.le_trans {a b c : Life} (h : a.le b) (h' : b.le c) : a.le c := by
  cases a with
  | unb => trivial
  | dead => simp only [Life.le] at h; subst h; exact h'
  | live r =>
    simp only [Life.le] at h
    rcases h with rfl | rfl
    · exact h'
    · simp only [Life.le] at h'; subst h'; exact .inr rfl
  | mlive b =>
    simp only [Life.le] at h
    rcases h with rfl | rfl
    · exact h'
    · simp only [Life.le] at h'; subst h'; exact .inr rfl
theorem GLe.trans {a b c : G} (h : GLe a b) (h' : GLe b c) : GLe a c :=
  ⟨fun _ _ _ e => h'.κ _ _ _ (h.κ _ _ _ e), fun id => Life.le_trans (h.lf id) (h'.lf id)⟩
theorem RepA.mono {g g' : G} (h : GLe g g') {v : V} {cv : Value} (r : RepA g v cv) : RepA g' v cv := by
  induction r with
  | un cv => exact .un cv
  | c v cv e => exact .c v cv (e.mono h.κ)
  | pt id i off a e =>
    refine .pt id i off a ?_
    rcases e with e | ⟨r, e, ea⟩
    · exact .inl (h.dead e)
    · rcases h.live e with e' | e'
      · exact .inr ⟨r, e', ea⟩
      · exact .inl e'
  | hs id i len a cap e0 e =>
    refine .hs id i len a cap e0 ?_
    rcases e with e | ⟨r, e, ea⟩
    · exact .inl (h.dead e)
    · rcases h.live e with e' | e'
      · exact .inr ⟨r, e', ea⟩
      · exact .inl e'
  | mp id b e =>
    refine .mp id b ?_
    rcases e with e | e
    · exact .inl (h.dead e)
    · rcases h.mlive e with e' | e'
      · exact .inr e'
      · exact .inl e'
  | ip cs b o f h1 h2 => exact .ip cs b o f (fun i c hc => ⟨(h1 i c hc).1, h.κ _ _ _ (h1 i c hc).2⟩) (fun i c hc => (h2 i c hc).mono h.κ)
  | ag cs arr hn h1 _ ih => exact .ag cs arr hn h1 ih
  | tu xs arr hn h1 _ ih => exact .tu xs arr hn h1 ih
  | fc t v cv hl _ ih => exact .fc t v cv hl ih
  | fn f first cap a1 a2 hn1 hn2 hl1 hl2 _ _ i1 i2 => exact .fn f first cap a1 a2 hn1 hn2 hl1 hl2 i1 i2
variable [Glob]
structure GlobOK (κ : K) : Prop where
  vars : ∀ n cs, Glob.gl n = some cs → ∀ (i : Nat) (c : V), cs[i]? = some c → c.keep = true ∧ ∃ cv, κ n i = some cv ∧ RepC κ c cv
theorem GlobOK.mono {κ κ' : K} (h : GlobOK κ) (hk : KLe κ κ') : GlobOK κ' := ⟨fun n cs hn i c hc => by
  obtain ⟨h1, cv, h2, h3⟩ := h.vars n cs hn i c hc
  exact ⟨h1, cv, hk _ _ _ h2, h3.mono hk⟩⟩
theorem GlobOK.rep {g : G} (h : GlobOK g.κ) {n : Nat} {cs : List V} (hn : Glob.gl n = some cs) : RepA g (.ip cs) (.pointer (some (ad n 0))) := by
  refine .ip cs n 0 (fun i => (g.κ n i).getD undef) (fun i c hc => ?_) (fun i c hc => ?_)
  · obtain ⟨h1, cv, h2, h3⟩ := h.vars n cs hn i c hc
    rw [Nat.zero_add, h2]; exact ⟨h1, rfl⟩
  · obtain ⟨h1, cv, h2, h3⟩ := h.vars n cs hn i c hc
    simp only [h2, Option.getD_some]; exact h3
def oneC : Value → Bool
  | .agg _ | .tuple _ => false
  | _ => true
theorem RepC.oneC {κ : K} {v : V} {cv : Value} (r : RepC κ v cv) : Ev.oneC cv = true := by cases r <;> rfl
theorem RepA.oneC {g : G} {v : V} {cv : Value} (r : RepA g v cv) (k : v.keep = true) : Ev.oneC cv = true := by
  cases r with
  | c v cv h => exact h.oneC
  | un | ag | tu => simp [V.keep] at k
  | _ => rfl
theorem RepA.hs_inv' {g : G} {id i len : Nat} {cv : Value} (h : RepA g (.hs id i len) cv) : ∃ a cap, cv = .slice a len cap ∧ len ≤ cap ∧
    (g.lf id = .dead ∨ ∃ r, g.lf id = .live r ∧ ((cap = 0 ∧ ∃ a', a = some a') ∨ (a = some (ad r.b (r.base + i * r.sz)) ∧ i + cap ≤ r.cap))) := by
  cases h with
  | c _ _ h => cases h
  | hs _ _ _ a cap h0 h => exact ⟨a, cap, rfl, h0, h⟩
theorem RepA.hs_inv {g : G} {id i len : Nat} {cv : Value} (h : RepA g (.hs id i len) cv) : ∃ a cap, cv = .slice a len cap ∧ len ≤ cap ∧
    (g.lf id = .dead ∨ ∃ r, g.lf id = .live r ∧ (cap = 0 ∨ (a = some (ad r.b (r.base + i * r.sz)) ∧ i + cap ≤ r.cap))) := by
  obtain ⟨a, cap, h1, h2, h3⟩ := h.hs_inv'
  exact ⟨a, cap, h1, h2, h3.imp (fun q => q) fun ⟨r, q1, q2⟩ => ⟨r, q1, q2.imp (fun q => q.1) fun q => q⟩⟩
theorem RepA.hs_nn {g : G} {id i len cap : Nat} {a : Option Addr} (h : RepA g (.hs id i len) (.slice a len cap)) {r : Rg} (hl : g.lf id = .live r) : ∃ a', a = some a' := by
  obtain ⟨a2, cap2, h1, _, h3⟩ := h.hs_inv'
  cases h1
  rcases h3 with h3 | ⟨r', _, h3⟩
  · rw [h3] at hl; cases hl
  · rcases h3 with ⟨_, h3⟩ | ⟨h3, _⟩
    · exact h3
    · exact ⟨_, h3⟩
theorem RepA.pt_inv {g : G} {id i off : Nat} {cv : Value} (h : RepA g (.pt id i off) cv) : ∃ a, cv = .pointer (some a) ∧
    (g.lf id = .dead ∨ ∃ r, g.lf id = .live r ∧ a = ad r.b (r.base + i * r.sz + off)) := by
  cases h with
  | c _ _ h => cases h
  | pt _ _ _ a h => exact ⟨a, rfl, h⟩
theorem RepA.mp_inv {g : G} {id : Nat} {cv : Value} (h : RepA g (.mp id) cv) : ∃ b, cv = .map (some b) ∧ (g.lf id = .dead ∨ g.lf id = .mlive b) := by
  cases h with
  | c _ _ h => cases h
  | mp _ b h => exact ⟨b, rfl, h⟩
theorem RepA.nm_inv {g : G} {cv : Value} (h : RepA g .nm cv) : cv = .map none := by
  cases h with | c _ _ h => cases h; rfl
theorem RepA.ip_inv {g : G} {cs : List V} {cv : Value} (h : RepA g (.ip cs) cv) : ∃ (b o : Nat) (f : Nat → Value), cv = .pointer (some (ad b o)) ∧
    (∀ (i : Nat) (c : V), cs[i]? = some c → c.keep = true ∧ g.κ b (o + i) = some (f i)) ∧ (∀ (i : Nat) (c : V), cs[i]? = some c → RepC g.κ c (f i)) := by
  cases h with
  | c _ _ h => cases h
  | ip _ b o f h1 h2 => exact ⟨b, o, f, rfl, h1, h2⟩
theorem RepA.ag_inv {g : G} {cs : List V} {cv : Value} (h : RepA g (.ag cs) cv) : ∃ arr : Array Value, cv = .agg arr ∧ arr.size = cs.length ∧ (∀ c, c ∈ cs → c.keep = true) ∧
    (∀ (i : Nat) (c : V), cs[i]? = some c → RepA g c (arr.getD i undef)) := by
  cases h with
  | c _ _ h => cases h
  | ag _ arr a b c => exact ⟨arr, rfl, a, b, c⟩
theorem RepA.tu_inv {g : G} {cs : List V} {cv : Value} (h : RepA g (.tu cs) cv) : ∃ arr : Array Value, cv = .tuple arr ∧ arr.size = cs.length ∧ (∀ c, c ∈ cs → isLp c = false) ∧
    (∀ (i : Nat) (c : V), cs[i]? = some c → RepA g c (arr.getD i undef)) := by
  cases h with
  | c _ _ h => cases h
  | tu _ arr a b c => exact ⟨arr, rfl, a, b, c⟩
theorem RepA.vs_inv {g : G} {sz : Nat} {es : List (List V)} {cv : Value} (h : RepA g (.vs sz es) cv) : ∃ (a : Option Addr) (cap b o : Nat) (f : Nat → Nat → Value), cv = .slice a es.length cap ∧
    (∀ e, e ∈ es → e.length = sz) ∧ (es ≠ [] → a = some (ad b o)) ∧ es.length ≤ cap ∧
    (∀ (i j : Nat) (e : List V) (c : V), es[i]? = some e → e[j]? = some c → c.keep = true ∧ g.κ b (o + i * sz + j) = some (f i j)) ∧
    (∀ (i j : Nat) (e : List V) (c : V), es[i]? = some e → e[j]? = some c → RepC g.κ c (f i j)) := by
  cases h with
  | c _ _ h => cases h with
    | vs _ _ a cap b o f h1 h2 h3 h4 h5 => exact ⟨a, cap, b, o, f, rfl, h1, h2, h3, h4, h5⟩
theorem RepA.ns_inv {g : G} {cv : Value} (h : RepA g .ns cv) : cv = .slice none 0 0 := by
  cases h with | c _ _ h => cases h; rfl
theorem RepA.np_inv {g : G} {cv : Value} (h : RepA g .np cv) : cv = .pointer none := by
  cases h with | c _ _ h => cases h; rfl
theorem RepA.bo_inv {g : G} {b : Bool} {cv : Value} (h : RepA g (.bo b) cv) : cv = .bool b := by
  cases h with | c _ _ h => cases h; rfl
theorem RepA.it_inv {g : G} {k : IntKind} {n : Int} {cv : Value} (h : RepA g (.it k n) cv) : cv = .int k n := by
  cases h with | c _ _ h => cases h; rfl
theorem RepA.st_inv {g : G} {l : List Nat} {cv : Value} (h : RepA g (.st l) cv) : ∃ s, cv = .string s ∧ s.data.toList.map UInt8.toNat = l := by
  cases h with | c _ _ h => cases h; exact ⟨_, rfl, ‹_›⟩
theorem RepA.fc_inv {g : G} {t : TypeId} {v : V} {cv : Value} (h : RepA g (.fc t v) cv) : ∃ x, cv = .iface t x ∧ isLp v = false ∧ RepA g v x := by
  cases h with
  | c _ _ h => cases h
  | fc _ _ x a b => exact ⟨x, rfl, a, b⟩
theorem RepA.nf_inv {g : G} {cv : Value} (h : RepA g .nf cv) : cv = .nilIface := by
  cases h with | c _ _ h => cases h; rfl
theorem RepA.fn_inv {g : G} {f : Nat} {first cap : List V} {cv : Value} (h : RepA g (.fn f first cap) cv) : ∃ a1 a2 : Array Value, cv = .func (.func f) a1 a2 ∧ a1.size = first.length ∧ a2.size = cap.length ∧
    (∀ x, x ∈ first → isLp x = false) ∧ (∀ x, x ∈ cap → isLp x = false) ∧
    (∀ (i : Nat) (x : V), first[i]? = some x → RepA g x (a1.getD i undef)) ∧ (∀ (i : Nat) (x : V), cap[i]? = some x → RepA g x (a2.getD i undef)) := by
  cases h with
  | c _ _ h => cases h
  | fn _ _ _ a1 a2 h1 h2 h3 h4 h5 h6 => exact ⟨a1, a2, rfl, h1, h2, h3, h4, h5, h6⟩
def RepT (g : G) (ν : Nat → Option Nat) (v : V) (cv : Value) : Prop :=
  match v with
  | .lp t off => ∃ b, ν t = some b ∧ cv = .pointer (some (ad b off))
  | v => RepA g v cv
theorem RepT.ofA {g : G} {ν : Nat → Option Nat} {v : V} {cv : Value} (h : RepA g v cv) : RepT g ν v cv := by
  cases v <;> first | exact h | (cases h; rename_i h; cases h)
theorem RepT.toA {g : G} {ν : Nat → Option Nat} {v : V} {cv : Value} (h : RepT g ν v cv) (n : isLp v = false) : RepA g v cv := by
  cases v <;> first | exact h | simp [isLp] at n
def Unf (n : Nat) (w : World) (b : Nat) : Prop := ∃ C e fr, w.heap[b]? = some (.cells C e fr) ∧ (fr.1 = fr.2 ∨ (n = 1 ∧ C.size ≤ fr.1))
structure BkR (g : G) (w : World) (r : Rg) (bk : Bk) : Prop where
  sz : r.sz = bk.sz
  len : bk.es.length ≤ r.cap
  row : ∀ e, e ∈ bk.es → e.length = bk.sz
  cont : ∀ (i j : Nat) (e : List V) (c : V), bk.es[i]? = some e → e[j]? = some c → c.keep = true ∧ ∃ cv, w.cell? (ad r.b (r.base + i * r.sz + j)) = some cv ∧ RepA g c cv
  rw : bk.fr = false → ∀ k, k < r.cap * r.sz → (∃ cv, w.cell? (ad r.b (r.base + k)) = some cv) ∧ w.frozen? (ad r.b (r.base + k)) = false ∧ g.κ r.b (r.base + k) = none
  frz : bk.fr = true → ∀ (i j : Nat) (e : List V) (c : V), bk.es[i]? = some e → e[j]? = some c → ∃ cv, g.κ r.b (r.base + i * r.sz + j) = some cv
  blk : bk.fr = false → 0 < r.cap * r.sz → Unf bk.sz w r.b
def Rg.apart (r r' : Rg) : Prop := 0 < r.cap * r.sz → 0 < r'.cap * r'.sz → ¬ r.b = r'.b
def keyV (l : List Nat) : Value := .agg (l.map fun a => Value.int .i64 (Int.ofNat a)).toArray
def KeyR (n : Nat) (l : List Nat) (key : Value) : Prop :=
  (n = 2 ∧ ∃ s : ByteArray, key = .string s ∧ s.data.toList.map UInt8.toNat = l) ∨ (0 < l.length ∧ n = l.length + 2 ∧ key = keyV l)
structure MpR (g : G) (w : World) (b : Nat) (bk : Bk) : Prop where
  fr : bk.fr = false
  ex : ∃ (es : Array MapEntry) (clock : Nat), w.heap[b]? = some (.map es clock) ∧ es.size = bk.es.length ∧
    ∀ (i : Nat) (x : List V), bk.es[i]? = some x → ∃ (l : List Nat) (v : V) (e : MapEntry), x = [.st l, v] ∧ v.keep = true ∧ es[i]? = some e ∧ KeyR bk.sz l e.key ∧ RepA g v e.val
structure MHR (g : G) (hp : Hp) (w : World) : Prop where
  live : ∀ id b, g.lf id = .mlive b → ∃ bk, hget hp id = some bk ∧ MpR g w b bk
  sep : ∀ id id' b, id ≠ id' → g.lf id = .mlive b → g.lf id' = .mlive b → False
theorem MHR.mono {g g' : G} {hp hp' : Hp} {w w' : World} (h : MHR g hp w) (hm : ∀ (b : Nat) es c, w.heap[b]? = some (Obj.map es c) → w'.heap[b]? = some (Obj.map es c)) (hle : ∀ v cv, RepA g v cv → RepA g' v cv)
    (hlf : ∀ id b, g'.lf id = .mlive b → g.lf id = .mlive b) (hg : ∀ id b, g'.lf id = .mlive b → hget hp' id = hget hp id) : MHR g' hp' w' := by
  refine ⟨fun id b e => ?_, fun id id' b hne e e' => h.sep id id' b hne (hlf id b e) (hlf id' b e')⟩
  obtain ⟨bk, h1, ⟨h3, es, c, h4, h5, h6⟩⟩ := h.live id b (hlf id b e)
  refine ⟨bk, by rw [hg id b e]; exact h1, ⟨h3, es, c, hm b es c h4, h5, fun i x hx => ?_⟩⟩
  obtain ⟨l, v, en, q1, q2, q3, q4, q6⟩ := h6 i x hx
  exact ⟨l, v, en, q1, q2, q3, q4, hle _ _ q6⟩
def OwnM (g : G) (b : Nat) : Prop := ∃ id, g.lf id = .mlive b
structure HR (g : G) (hp : Hp) (w : World) : Prop where
  mp : MHR g hp w
  lim : hp.lim ≤ hp.next
  nil : ∀ id, hp.next ≤ id → hget hp id = none
  bnd : ∀ id, id < hp.next → g.lf id ≠ .unb
  kap : ∀ b o v, g.κ b o = some v → w.cell? (ad b o) = some v
  unb : ∀ id, hp.next ≤ id → g.lf id = .unb
  dead : ∀ id, g.lf id = .dead → hget hp id = none
  live : ∀ id r, g.lf id = .live r → ∃ bk, hget hp id = some bk ∧ BkR g w r bk
  sep : ∀ id id' r r' bk bk', id ≠ id' → g.lf id = .live r → g.lf id' = .live r' → hget hp id = some bk → hget hp id' = some bk' → bk.fr = false → bk'.fr = false → r.apart r'
def Own (g : G) (hp : Hp) (b o : Nat) : Prop :=
  ∃ id r bk k, g.lf id = .live r ∧ hget hp id = some bk ∧ bk.fr = false ∧ k < r.cap * r.sz ∧ b = r.b ∧ o = r.base + k
structure Evo (g : G) (hp : Hp) (w : World) (g' : G) (hp' : Hp) (w' : World) : Prop where
  le : GLe g g'
  next : hp.next ≤ hp'.next
  lim : hp'.lim = hp.lim
  ro : ∀ id, id < hp.lim → hget hp' id = hget hp id
  size : w.heap.size ≤ w'.heap.size
  cell : ∀ b o v, w.cell? (ad b o) = some v → ¬ Own g hp b o → w'.cell? (ad b o) = some v
  frozen : ∀ b o v, w.cell? (ad b o) = some v → ¬ Own g hp b o → w'.frozen? (ad b o) = w.frozen? (ad b o)
  own : ∀ b o, Own g' hp' b o → Own g hp b o ∨ w.heap.size ≤ b
  κ : ∀ b o v, g'.κ b o = some v → g.κ b o = some v ∨ Own g hp b o ∨ w.heap.size ≤ b
  wd : (w'.os = w.os ∧ w'.output = w.output) ∧ (∀ b, Unf 1 w b → Unf 1 w' b) ∧ (∀ b, b < w.heap.size → (∀ o, ¬ Own g hp b o) → ¬ OwnM g b → w'.heap[b]? = w.heap[b]?) ∧ ∀ b, OwnM g' b → OwnM g b ∨ w.heap.size ≤ b
structure GlobW (g : G) (hp : Hp) (w : World) : Prop where
  ok : GlobOK g.κ
  blk : ∀ n cs, Glob.gl n = some cs → ∃ C e fr, w.heap[n]? = some (.cells C e fr) ∧ C.size = cs.length ∧ (∀ o, ¬ Own g hp n o) ∧ ¬ OwnM g n
theorem GlobW.evo {g g' : G} {hp hp' : Hp} {w w' : World} (h : GlobW g hp w) (e : Evo g hp w g' hp' w') : GlobW g' hp' w' := ⟨h.ok.mono e.le.κ, fun n cs hn => by
  obtain ⟨C, t, fr, q1, q2, q3, q4⟩ := h.blk n cs hn
  have hb : n < w.heap.size := (Array.getElem?_eq_some_iff.1 q1).1
  refine ⟨C, t, fr, by rw [e.wd.2.2.1 n hb q3 q4]; exact q1, q2, fun o x => ?_, fun x => ?_⟩
  · rcases e.own n o x with x | x
    · exact q3 o x
    · omega
  · rcases e.wd.2.2.2 n x with x | x
    · exact q4 x
    · omega⟩
theorem GlobW.pure {g : G} {hp : Hp} {w : World} (h : GlobW g hp w) : GlobW ⟨g.κ, fun _ => .unb⟩ h0 w := ⟨h.ok, fun n cs hn => by
  obtain ⟨C, t, fr, q1, q2, _, _⟩ := h.blk n cs hn
  refine ⟨C, t, fr, q1, q2, fun o x => ?_, fun x => ?_⟩
  · obtain ⟨id, r, bk, k, x, _⟩ := x
    cases x
  · obtain ⟨id, x⟩ := x
    cases x⟩
theorem cell_block {w : World} {b o : Nat} {v : Value} (h : w.cell? (ad b o) = some v) : b < w.heap.size := by
  unfold World.cell? ad at h
  rcases Nat.lt_or_ge b w.heap.size with h' | h'
  · exact h'
  · simp [Array.getElem?_eq_none h'] at h
theorem Evo.refl (g : G) (hp : Hp) (w : World) : Evo g hp w g hp w :=
  ⟨GLe.refl g, Nat.le_refl _, rfl, fun _ _ => rfl, Nat.le_refl _, fun _ _ _ h _ => h, fun _ _ _ _ _ => rfl, fun _ _ h => .inl h, fun _ _ _ h => .inl h, ⟨rfl, rfl⟩, fun _ h => h, fun _ _ _ _ => rfl, fun _ h => .inl h⟩
theorem Evo.trans {g1 : G} {h1 : Hp} {w1 : World} {g2 : G} {h2 : Hp} {w2 : World} {g3 : G} {h3 : Hp} {w3 : World}
    (a : Evo g1 h1 w1 g2 h2 w2) (b : Evo g2 h2 w2 g3 h3 w3) : Evo g1 h1 w1 g3 h3 w3 where
  le := a.le.trans b.le
  next := Nat.le_trans a.next b.next
  lim := b.lim.trans a.lim
  ro := fun id h => (b.ro id (a.lim ▸ h)).trans (a.ro id h)
  size := Nat.le_trans a.size b.size
  cell := fun x y v h n => by
    refine b.cell x y v (a.cell x y v h n) fun o => ?_
    rcases a.own x y o with o | o
    · exact n o
    · have := cell_block h; omega
  frozen := fun x y v h n => by
    rw [b.frozen x y v (a.cell x y v h n) fun o => ?_, a.frozen x y v h n]
    rcases a.own x y o with o | o
    · exact n o
    · have := cell_block h; omega
  own := fun x y o => by
    rcases b.own x y o with o | o
    · exact a.own x y o
    · exact .inr (Nat.le_trans a.size o)
  κ := fun x y v e => by
    rcases b.κ x y v e with e | o | o
    · exact a.κ x y v e
    · rcases a.own x y o with o | o
      · exact .inr (.inl o)
      · exact .inr (.inr o)
    · exact .inr (.inr (Nat.le_trans a.size o))
  wd := ⟨⟨b.wd.1.1.trans a.wd.1.1, b.wd.1.2.trans a.wd.1.2⟩, fun x h => b.wd.2.1 x (a.wd.2.1 x h), fun x hx hn hm => by
    rw [b.wd.2.2.1 x (Nat.lt_of_lt_of_le hx a.size) (fun o ho => ?_) (fun ho => ?_), a.wd.2.2.1 x hx hn hm]
    · rcases a.own x o ho with q | q
      · exact hn o q
      · omega
    · rcases a.wd.2.2.2 x ho with q | q
      · exact hm q
      · omega, fun x ho => by
    rcases b.wd.2.2.2 x ho with q | q
    · exact a.wd.2.2.2 x q
    · exact .inr (Nat.le_trans a.size q)⟩
end Ev
namespace Ev
variable [Glob]
open Go
theorem beqF {a b : Nat} (h : a ≠ b) : Nat.beq a b = false := by
  cases hb : Nat.beq a b
  · rfl
  · exact absurd (Nat.eq_of_beq_eq_true hb) h
theorem beqT {a b : Nat} (h : a = b) : Nat.beq a b = true := by subst h; exact Nat.beq_refl a
theorem cell_heap {w w' : World} (h : w'.heap = w.heap) (a : Addr) : w'.cell? a = w.cell? a := by unfold World.cell?; rw [h]
theorem frozen_heap {w w' : World} (h : w'.heap = w.heap) (a : Addr) : w'.frozen? a = w.frozen? a := by unfold World.frozen?; rw [h]
structure Grow (w w' : World) (arr : Array Value) (n : Nat := 0) : Prop where
  ex : ∃ e fr, w'.heap = w.heap.push (.cells arr e fr) ∧ (fr.1 = fr.2 ∨ (n = 1 ∧ arr.size ≤ fr.1))
  os : w'.os = w.os ∧ w'.output = w.output
theorem Grow.size {w w' : World} {arr : Array Value} {gn : Nat} (h : Grow w w' arr gn) : w'.heap.size = w.heap.size + 1 := by
  obtain ⟨e, fr, h, _⟩ := h.ex; rw [h]; simp
theorem Grow.old {w w' : World} {arr : Array Value} {gn : Nat} (h : Grow w w' arr gn) {b o : Nat} {v : Value} (c : w.cell? (ad b o) = some v) : w'.cell? (ad b o) = some v := by
  obtain ⟨e, fr, h, _⟩ := h.ex
  have hb := cell_block c
  unfold World.cell? ad at *
  simp only [h, Array.getElem?_push, Nat.ne_of_lt hb, if_false]
  exact c
theorem Grow.oldF {w w' : World} {arr : Array Value} {gn : Nat} (h : Grow w w' arr gn) {b o : Nat} (hb : b < w.heap.size) : w'.frozen? (ad b o) = w.frozen? (ad b o) := by
  obtain ⟨e, fr, h, _⟩ := h.ex
  unfold World.frozen? ad
  simp only [h, Array.getElem?_push, Nat.ne_of_lt hb, if_false]
theorem Grow.new {w w' : World} {arr : Array Value} {gn : Nat} (h : Grow w w' arr gn) (o : Nat) : w'.cell? (ad w.heap.size o) = arr[o]? := by
  obtain ⟨e, fr, h, _⟩ := h.ex
  unfold World.cell? ad
  simp [h]
theorem Grow.newF {w w' : World} {arr : Array Value} {gn : Nat} (h : Grow w w' arr gn) {o : Nat} (ho : o < arr.size) : w'.frozen? (ad w.heap.size o) = false := by
  obtain ⟨e, fr, h, hf⟩ := h.ex
  unfold World.frozen? ad
  rcases fr with ⟨lo, hi⟩
  simp only [h, Array.getElem?_push, if_true]
  simp only [Bool.and_eq_false_iff, decide_eq_false_iff_not]
  simp only at hf
  omega
theorem Grow.unf {w w' : World} {arr : Array Value} {gn : Nat} (h : Grow w w' arr gn) {n b : Nat} (hu : Unf n w b) : Unf n w' b := by
  obtain ⟨e, fr, h, _⟩ := h.ex
  obtain ⟨C, e', fr', hb, hc⟩ := hu
  refine ⟨C, e', fr', ?_, hc⟩
  have hlt : b < w.heap.size := (Array.getElem?_eq_some_iff.1 hb).1
  rw [h, Array.getElem?_push, if_neg (Nat.ne_of_lt hlt)]; exact hb
theorem Grow.heap {w w' : World} {arr : Array Value} {gn : Nat} (h : Grow w w' arr gn) {b : Nat} (hb : b < w.heap.size) : w'.heap[b]? = w.heap[b]? := by
  obtain ⟨e, fr, h, _⟩ := h.ex
  rw [h, Array.getElem?_push, if_neg (Nat.ne_of_lt hb)]
theorem Grow.maps {w w' : World} {arr : Array Value} {gn : Nat} (h : Grow w w' arr gn) : ∀ (b : Nat) es c, w.heap[b]? = some (Obj.map es c) → w'.heap[b]? = some (Obj.map es c) := fun b es c x => by
  rw [h.heap (Array.getElem?_eq_some_iff.1 x).1]; exact x
theorem Grow.wd {w w' : World} {arr : Array Value} {gn : Nat} (h : Grow w w' arr gn) {X Y Z Z' : Nat → Prop} (hz : ∀ b, Z' b → Z b) : (w'.os = w.os ∧ w'.output = w.output) ∧ (∀ b, Unf 1 w b → Unf 1 w' b) ∧ (∀ b, b < w.heap.size → X b → Y b → w'.heap[b]? = w.heap[b]?) ∧ ∀ b, Z' b → Z b ∨ w.heap.size ≤ b :=
  ⟨h.os, fun _ x => h.unf x, fun _ hb _ _ => h.heap hb, fun b x => .inl (hz b x)⟩
theorem Grow.unfNew {w w' : World} {arr : Array Value} {gn : Nat} (h : Grow w w' arr gn) {n : Nat} (hn : gn = 1 → n = 1) : Unf n w' w.heap.size := by
  obtain ⟨e, fr, h, hf⟩ := h.ex
  exact ⟨arr, e, fr, by rw [h]; simp, hf.imp id fun q => ⟨hn q.1, q.2⟩⟩
theorem Unf.lt {w : World} {n b : Nat} (h : Unf n w b) : b < w.heap.size := by
  obtain ⟨_, _, _, h, _⟩ := h
  exact (Array.getElem?_eq_some_iff.1 h).1
theorem Unf.heap {w w' : World} (h : w'.heap = w.heap) {n b : Nat} (hu : Unf n w b) : Unf n w' b := by unfold Unf; rw [h]; exact hu
theorem Unf.set {w : World} {n b : Nat} (hu : Unf n w b) (a : Addr) (v : Value) : Unf n (w.setCell a v) b := by
  obtain ⟨C, e, fr, hb, hc⟩ := hu
  unfold World.setCell Unf
  simp only [Array.getElem?_modify]
  by_cases h : a.block = b
  · simp only [h, if_true, hb, Option.map_some]
    exact ⟨_, e, fr, rfl, by split <;> simpa using hc⟩
  · simp only [h, if_false]; exact ⟨C, e, fr, hb, hc⟩
def setCs (w : World) (b o : Nat) : List Value → World
  | [] => w
  | v :: r => setCs (w.setCell (ad b o) v) b (o + 1) r
theorem cell_set {w : World} {b o : Nat} {v u : Value} (h : w.cell? (ad b o) = some u) (b' o' : Nat) :
    (w.setCell (ad b o) v).cell? (ad b' o') = if b' = b ∧ o' = o then some v else w.cell? (ad b' o') := by
  unfold World.cell? World.setCell ad at *
  simp only [Array.getElem?_modify]
  by_cases hb : b' = b
  · subst hb
    simp only [true_and, if_true]
    cases hc : w.heap[b']? with
    | none => simp [hc] at h
    | some ob =>
      cases ob <;> simp_all
      rename_i c e fr
      by_cases ho : o' = o
      · subst ho
        simp only [if_true]
        rw [Array.getElem?_setIfInBounds_self]
        have : o' < c.size := by
          rcases Nat.lt_or_ge o' c.size with h' | h'
          · exact h'
          · simp [Array.getElem?_eq_none h'] at h
        simp [this]
      · simp only [ho, if_false]
        rw [Array.getElem?_setIfInBounds_ne (by omega)]
  · have : ¬ b = b' := fun e => hb e.symm
    simp [hb, this]
theorem frozen_set (w : World) (a : Addr) (v : Value) (a' : Addr) : (w.setCell a v).frozen? a' = w.frozen? a' := by
  unfold World.frozen? World.setCell
  simp only [Array.getElem?_modify]
  by_cases hb : a.block = a'.block
  · simp only [hb, if_true]
    cases hc : w.heap[a'.block]? with
    | none => rfl
    | some ob => cases ob <;> rfl
  · simp only [hb, if_false]
theorem size_set (w : World) (a : Addr) (v : Value) : (w.setCell a v).heap.size = w.heap.size := by
  unfold World.setCell; simp
theorem frozen_setCs (w : World) (b o : Nat) (vs : List Value) (a : Addr) : (setCs w b o vs).frozen? a = w.frozen? a := by
  induction vs generalizing w o with
  | nil => rfl
  | cons v r ih => simp only [setCs]; rw [ih, frozen_set]
theorem Unf.setCs {w : World} {n b : Nat} (hu : Unf n w b) (b' o : Nat) (vs : List Value) : Unf n (setCs w b' o vs) b := by
  induction vs generalizing w o with
  | nil => exact hu
  | cons v r ih => simp only [Ev.setCs]; exact ih (hu.set _ _) _
theorem heap_setCs (w : World) (b o : Nat) (vs : List Value) : (setCs w b o vs).os = w.os ∧ (setCs w b o vs).output = w.output ∧ ∀ b', b' ≠ b ∨ vs = [] → (setCs w b o vs).heap[b']? = w.heap[b']? := by
  induction vs generalizing w o with
  | nil => exact ⟨rfl, rfl, fun _ _ => rfl⟩
  | cons v r ih =>
    simp only [setCs]
    obtain ⟨h1, h2, h3⟩ := ih (w.setCell (ad b o) v) (o + 1)
    refine ⟨h1, h2, fun b' hb => ?_⟩
    have hb : b' ≠ b := by rcases hb with q | q; exact q; cases q
    rw [h3 b' (.inl hb)]
    unfold World.setCell ad
    simp only [Array.getElem?_modify, show ¬ b = b' from fun e => hb e.symm, if_false]
theorem maps_setCs {w : World} {b o : Nat} {vs : List Value} (h : ∀ k, k < vs.length → ∃ u, w.cell? (ad b (o + k)) = some u) : ∀ (b' : Nat) es c, w.heap[b']? = some (Obj.map es c) → (setCs w b o vs).heap[b']? = some (Obj.map es c) := by
  intro b' es c x
  rw [(heap_setCs w b o vs).2.2 b' ?_]; exact x
  by_cases e : vs = []
  · exact .inr e
  · refine .inl fun q => ?_
    obtain ⟨u, hu⟩ := h 0 (List.length_pos_iff.2 e)
    unfold World.cell? ad at hu
    simp only [← q, x] at hu
    cases hu
theorem size_setCs (w : World) (b o : Nat) (vs : List Value) : (setCs w b o vs).heap.size = w.heap.size := by
  induction vs generalizing w o with
  | nil => rfl
  | cons v r ih => simp only [setCs]; rw [ih, size_set]
theorem cell_setCs {w : World} {b o : Nat} {vs : List Value} (h : ∀ k, k < vs.length → ∃ u, w.cell? (ad b (o + k)) = some u) (b' o' : Nat) :
    (setCs w b o vs).cell? (ad b' o') = if b' = b ∧ o ≤ o' ∧ o' < o + vs.length then vs[o' - o]? else w.cell? (ad b' o') := by
  induction vs generalizing w o with
  | nil => simp [setCs]; intro _ h1 h2; omega
  | cons v r ih =>
    simp only [setCs]
    obtain ⟨u, hu⟩ := h 0 (by simp)
    have hs := fun x y => cell_set (v := v) hu x y
    rw [ih (fun k hk => ?_)]
    · simp only [Nat.add_zero] at hs
      rw [hs]
      by_cases hb : b' = b
      · simp only [hb, true_and, List.length_cons]
        by_cases ho : o' = o
        · subst ho; rw [if_neg (by omega), if_pos rfl, if_pos (by omega)]; simp
        · by_cases h1 : o + 1 ≤ o' ∧ o' < o + 1 + r.length
          · rw [if_pos h1, if_pos (by omega)]
            have : o' - o = (o' - (o + 1)) + 1 := by omega
            rw [this]; simp
          · rw [if_neg h1, if_neg ho, if_neg (by omega)]
      · simp [hb]
    · simp only [Nat.add_zero] at hs
      rw [hs]
      split
      · exact ⟨_, rfl⟩
      · obtain ⟨u', hu'⟩ := h (k + 1) (by simp; omega)
        exact ⟨u', by rw [show o + 1 + k = o + (k + 1) by omega]; exact hu'⟩
theorem Tr.get_setAt (f : Nat) (t : Tr) (k : Nat) (x : Option Bk) (hk : k < f) (j : Nat) : (t.setAt f k x).get j = if j = k then x else t.get j := by
  induction f generalizing t k j with
  | zero => omega
  | succ f ih =>
    have hv : t.get 0 = t.val := by cases t <;> rfl
    have hl : ∀ j, j ≠ 0 → j % 2 = 1 → t.get j = t.left.get (j / 2) := by
      intro j h0 h1
      cases t with
      | e => rfl
      | n b l r =>
        have : Nat.beq j 0 = false := beqF h0
        simp [Tr.get, Tr.left, this, h1]
    have hr : ∀ j, j ≠ 0 → j % 2 ≠ 1 → t.get j = t.right.get (j / 2 - 1) := by
      intro j h0 h1
      cases t with
      | e => rfl
      | n b l r =>
        have : Nat.beq j 0 = false := beqF h0
        have h2 : Nat.beq (j % 2) 1 = false := beqF h1
        simp [Tr.get, Tr.right, this, h2]
    have key : ∀ (b : Option Bk) (l r : Tr) (j : Nat), (Tr.n b l r).get j = if j = 0 then b else if j % 2 = 1 then l.get (j / 2) else r.get (j / 2 - 1) := by
      intro b l r j
      by_cases h0 : j = 0
      · subst h0; rfl
      · have e0 : Nat.beq j 0 = false := beqF h0
        by_cases h1 : j % 2 = 1
        · have e1 : Nat.beq (j % 2) 1 = true := beqT h1
          simp [Tr.get, e0, h0, h1]
        · have e1 : Nat.beq (j % 2) 1 = false := beqF h1
          simp [Tr.get, e0, e1, h0, h1]
    have tk : ∀ j, t.get j = if j = 0 then t.val else if j % 2 = 1 then t.left.get (j / 2) else t.right.get (j / 2 - 1) := by
      intro j
      by_cases h0 : j = 0
      · subst h0; simpa using hv
      · by_cases h1 : j % 2 = 1
        · simp [h0, h1, hl j h0 h1]
        · simp [h0, h1, hr j h0 h1]
    by_cases k0 : k = 0
    · subst k0
      have : t.setAt (f + 1) 0 x = .n x t.left t.right := rfl
      rw [this, key, tk j]
      by_cases h0 : j = 0 <;> simp [h0]
    · have e0 : Nat.beq k 0 = false := beqF k0
      by_cases k1 : k % 2 = 1
      · have e1 : Nat.beq (k % 2) 1 = true := beqT k1
        have : t.setAt (f + 1) k x = .n t.val (t.left.setAt f (k / 2) x) t.right := by simp [Tr.setAt, e0, e1]
        rw [this, key, ih _ _ (by omega), tk j]
        by_cases h0 : j = 0
        · simp [h0]; omega
        · by_cases h1 : j % 2 = 1
          · have : j / 2 = k / 2 ↔ j = k := by omega
            simp [h0, h1, this]
          · have : j ≠ k := by omega
            simp [h0, h1, this]
      · have e1 : Nat.beq (k % 2) 1 = false := beqF k1
        have : t.setAt (f + 1) k x = .n t.val t.left (t.right.setAt f (k / 2 - 1) x) := by simp [Tr.setAt, e0, e1]
        rw [this, key, ih _ _ (by omega), tk j]
        by_cases h0 : j = 0
        · simp [h0]; omega
        · by_cases h1 : j % 2 = 1
          · have : j ≠ k := by omega
            simp [h0, h1, this]
          · have : j / 2 - 1 = k / 2 - 1 ↔ j = k := by omega
            simp [h0, h1, this]
theorem hget_hset (hp : Hp) (id : Nat) (b : Option Bk) (j : Nat) : hget (hset hp id b) j = if j = id then b else hget hp j := by
  unfold hget hset; exact Tr.get_setAt _ _ _ _ (by omega) _
theorem hget_hnew (hp : Hp) (b : Bk) (j : Nat) : hget (hnew hp b) j = if j = hp.next then some b else hget hp j := by
  unfold hget hnew; exact Tr.get_setAt _ _ _ _ (by omega) _
end Ev
namespace Ev
variable [Glob]
open Go
structure Ent where
  g : G
  hp : Hp
  w : World
  gl : GlobW g hp w
def BoxR (g : G) (w : World) (b : Nat) (cs : List V) : Prop :=
  ∀ (j : Nat) (c : V), cs[j]? = some c → c.keep = true ∧ (∃ cv, w.cell? (ad b j) = some cv ∧ RepA g c cv) ∧ w.frozen? (ad b j) = false
structure LoR (E : Ent) (g : G) (ν : Nat → Option Nat) (lo : Lo) (hp : Hp) (w : World) : Prop where
  box : ∀ t cs b, lo t = some cs → ν t = some b → BoxR g w b cs ∧ (∀ o, g.κ b o = none) ∧ (∀ o, ¬ Own g hp b o) ∧ E.w.heap.size ≤ b ∧ Unf 2 w b
  inj : ∀ t t' b, t ≠ t' → lo t ≠ none → lo t' ≠ none → ν t = some b → ν t' = some b → False
structure MemR (E : Ent) (g : G) (ν : Nat → Option Nat) (lo : Lo) (hp : Hp) (w : World) : Prop where
  hr : HR g hp w
  lo : LoR E g ν lo hp w
  evo : Evo E.g E.hp E.w g hp w
theorem MemR.glob {E : Ent} {g : G} {ν : Nat → Option Nat} {lo : Lo} {hp : Hp} {w : World} (h : MemR E g ν lo hp w) : GlobOK g.κ := (E.gl.evo h.evo).ok
theorem MemR.globW {E : Ent} {g : G} {ν : Nat → Option Nat} {lo : Lo} {hp : Hp} {w : World} (h : MemR E g ν lo hp w) : GlobW g hp w := E.gl.evo h.evo
theorem BkR.grow {g : G} {w w' : World} {r : Rg} {bk : Bk} (h : BkR g w r bk) {g' : G} (hg : GLe g g')
    (hc : ∀ b o v, w.cell? (ad b o) = some v → w'.cell? (ad b o) = some v)
    (hf : ∀ b o v, w.cell? (ad b o) = some v → w'.frozen? (ad b o) = w.frozen? (ad b o))
    (hk : ∀ b o, g.κ b o = none → (∃ v, w.cell? (ad b o) = some v) → g'.κ b o = none) (hu : bk.fr = false → 0 < r.cap * r.sz → Unf bk.sz w r.b → Unf bk.sz w' r.b) : BkR g' w' r bk where
  blk := fun hf hn => hu hf hn (h.blk hf hn)
  sz := h.sz
  len := h.len
  row := h.row
  cont := fun i j e c he hcc => by
    obtain ⟨k, cv, a, b⟩ := h.cont i j e c he hcc
    exact ⟨k, cv, hc _ _ _ a, b.mono hg⟩
  rw := fun hfr k hk' => by
    obtain ⟨⟨cv, a⟩, b, c⟩ := h.rw hfr k hk'
    exact ⟨⟨cv, hc _ _ _ a⟩, by rw [hf _ _ _ a, b], hk _ _ c ⟨cv, a⟩⟩
  frz := fun hfr i j e c he hcc => by
    obtain ⟨cv, a⟩ := h.frz hfr i j e c he hcc
    exact ⟨cv, hg.κ _ _ _ a⟩
theorem BoxR.grow {g : G} {w w' : World} {b : Nat} {cs : List V} (h : BoxR g w b cs) {g' : G} (hg : GLe g g')
    (hc : ∀ o v, w.cell? (ad b o) = some v → w'.cell? (ad b o) = some v)
    (hf : ∀ o v, w.cell? (ad b o) = some v → w'.frozen? (ad b o) = w.frozen? (ad b o)) : BoxR g' w' b cs := fun j c hj => by
  obtain ⟨k, ⟨cv, a, r⟩, f⟩ := h j c hj
  exact ⟨k, ⟨cv, hc _ _ a, r.mono hg⟩, by rw [hf _ _ a, f]⟩
theorem Own.bound {g : G} {hp : Hp} {w : World} (h : HR g hp w) {b o : Nat} (ho : Own g hp b o) : ∃ v, w.cell? (ad b o) = some v := by
  obtain ⟨id, r, bk, k, hl, hg, hf, hk, rfl, rfl⟩ := ho
  obtain ⟨bk', hg', hb⟩ := h.live id r hl
  rw [hg] at hg'; cases hg'
  exact (hb.rw hf k hk).1
theorem Own.κ {g : G} {hp : Hp} {w : World} (h : HR g hp w) {b o : Nat} (ho : Own g hp b o) : g.κ b o = none := by
  obtain ⟨id, r, bk, k, hl, hg, hf, hk, rfl, rfl⟩ := ho
  obtain ⟨bk', hg', hb⟩ := h.live id r hl
  rw [hg] at hg'; cases hg'
  exact (hb.rw hf k hk).2.2
theorem MemR.same {E : Ent} {g : G} {ν : Nat → Option Nat} {lo : Lo} {hp : Hp} {w w' : World} (h : MemR E g ν lo hp w) (e : w'.heap = w.heap) (eo : w'.os = w.os ∧ w'.output = w.output) : MemR E g ν lo hp w' := by
  have hc : ∀ a, w'.cell? a = w.cell? a := cell_heap e
  have hf : ∀ a, w'.frozen? a = w.frozen? a := frozen_heap e
  have hs : w'.heap.size = w.heap.size := by rw [e]
  refine ⟨⟨h.hr.mp.mono (fun b es c x => by rw [e]; exact x) (fun _ _ x => x) (fun _ _ x => x) (fun _ _ _ => rfl), h.hr.lim, h.hr.nil, h.hr.bnd, fun b o v x => by rw [hc]; exact h.hr.kap b o v x, h.hr.unb, h.hr.dead, fun id r x => ?_, h.hr.sep⟩, ⟨fun t cs b x h1 => ?_, h.lo.inj⟩, ?_⟩
  · obtain ⟨bk, a, b⟩ := h.hr.live id r x
    exact ⟨bk, a, b.grow (GLe.refl g) (fun _ _ _ y => by rw [hc]; exact y) (fun _ _ _ _ => hf _) (fun _ _ y _ => y) (fun _ _ y => y.heap e)⟩
  · obtain ⟨h2, h3, h4, h5, h6⟩ := h.lo.box t cs b x h1
    exact ⟨h2.grow (GLe.refl g) (fun _ _ y => by rw [hc]; exact y) (fun _ _ _ => hf _), h3, h4, h5, h6.heap e⟩
  · have v := h.evo
    exact ⟨v.le, v.next, v.lim, v.ro, by rw [hs]; exact v.size, fun b o x y z => by rw [hc]; exact v.cell b o x y z, fun b o x y z => by rw [hf]; exact v.frozen b o x y z, v.own, v.κ, ⟨eo.1.trans v.wd.1.1, eo.2.trans v.wd.1.2⟩, fun b x => (v.wd.2.1 b x).heap e, fun b x y z => by rw [e]; exact v.wd.2.2.1 b x y z, v.wd.2.2.2⟩
theorem MemR.box {E : Ent} {g : G} {ν : Nat → Option Nat} {lo : Lo} {hp : Hp} {w w' : World} (h : MemR E g ν lo hp w) {arr : Array Value} {gn : Nat} (hw : Grow w w' arr gn)
    {cs : List V} (hn : arr.size = cs.length) (hk : ∀ c, c ∈ cs → c.keep = true) (hr : ∀ (j : Nat) (c : V), cs[j]? = some c → RepA g c (arr.getD j undef)) (d : Nat) (hgn : gn ≠ 1 := by decide) :
    MemR E g (fun t => if t = d then some w.heap.size else ν t) (lset lo d cs) hp w' := by
  have hev : Evo g hp w g hp w' := ⟨GLe.refl g, Nat.le_refl _, rfl, fun _ _ => rfl, by rw [hw.size]; omega, fun _ _ _ c _ => hw.old c, fun _ _ _ c _ => hw.oldF (cell_block c), fun _ _ o => .inl o, fun _ _ _ o => .inl o, hw.wd fun _ x => x⟩
  have hkn : ∀ o, g.κ w.heap.size o = none := fun o => by
    cases e : g.κ w.heap.size o with
    | none => rfl
    | some v => have := cell_block (h.hr.kap _ _ _ e); omega
  have hon : ∀ o, ¬ Own g hp w.heap.size o := fun o ho => by
    obtain ⟨v, e⟩ := Own.bound h.hr ho
    have := cell_block e; omega
  refine ⟨⟨h.hr.mp.mono hw.maps (fun _ _ x => x) (fun _ _ x => x) (fun _ _ _ => rfl), h.hr.lim, h.hr.nil, h.hr.bnd, fun b o v x => hw.old (h.hr.kap b o v x), h.hr.unb, h.hr.dead, fun id r x => ?_, h.hr.sep⟩, ⟨fun t cs' b x h1 => ?_, fun t t' b htt ht ht' e e' => ?_⟩, h.evo.trans hev⟩
  · obtain ⟨bk, a, b⟩ := h.hr.live id r x
    exact ⟨bk, a, b.grow (GLe.refl g) (fun _ _ _ y => hw.old y) (fun _ _ _ y => hw.oldF (cell_block y)) (fun _ _ y _ => y) (fun _ _ y => hw.unf y)⟩
  · by_cases ht : t = d
    · subst ht
      simp only [lset, Nat.beq_refl, cond_true, Option.some.injEq] at x
      subst x
      simp only [if_true, Option.some.injEq] at h1
      subst h1
      refine ⟨fun j c hj => ?_, hkn, hon, h.evo.size, hw.unfNew fun q => absurd q hgn⟩
      have hj' : j < cs.length := by
        rcases Nat.lt_or_ge j cs.length with h' | h'
        · exact h'
        · simp [List.getElem?_eq_none h'] at hj
      refine ⟨hk c (List.mem_of_getElem? hj), ⟨arr.getD j undef, ?_, hr j c hj⟩, hw.newF (by omega)⟩
      rw [hw.new, Array.getElem?_eq_getElem (by omega)]
      simp [Array.getD, show j < arr.size by omega]
    · simp only [lset, beqF ht, cond_false] at x
      simp only [ht, if_false] at h1
      obtain ⟨h2, h3, h4, h5, h6⟩ := h.lo.box t cs' b x h1
      refine ⟨h2.grow (GLe.refl g) (fun _ _ y => hw.old y) (fun _ _ y => hw.oldF (cell_block y)), h3, h4, h5, hw.unf h6⟩
  · have old : ∀ t b, t ≠ d → lset lo d cs t ≠ none → (if t = d then some w.heap.size else ν t) = some b → lo t ≠ none ∧ ν t = some b ∧ b < w.heap.size := by
      intro t b ht x e
      simp only [lset, beqF ht, cond_false] at x
      simp only [ht, if_false] at e
      refine ⟨x, e, ?_⟩
      cases hl : lo t with
      | none => exact absurd hl x
      | some c => exact (h.lo.box t c b hl e).2.2.2.2.lt
    by_cases hd : t = d
    · have hd' : t' ≠ d := fun e => htt (hd.trans e.symm)
      obtain ⟨_, _, lt⟩ := old t' b hd' ht' e'
      simp only [hd, if_true, Option.some.injEq] at e
      omega
    · obtain ⟨x1, e1, lt⟩ := old t b hd ht e
      by_cases hd' : t' = d
      · simp only [hd', if_true, Option.some.injEq] at e'
        omega
      · obtain ⟨x2, e2, _⟩ := old t' b hd' ht' e'
        exact h.lo.inj t t' b htt x1 x2 e1 e2
def born (g : G) (hp : Hp) (r : Rg) : G := ⟨g.κ, fun id => if id = hp.next then .live r else g.lf id⟩
theorem born_le {g : G} {hp : Hp} {w : World} (h : HR g hp w) (r : Rg) : GLe g (born g hp r) :=
  ⟨fun _ _ _ x => x, fun id => by
    by_cases e : id = hp.next
    · rw [h.unb id (by omega)]; trivial
    · simp only [born, e, if_false]; cases g.lf id <;> simp [Life.le]⟩
theorem own_born {g : G} {hp : Hp} {w : World} (h : HR g hp w) {r : Rg} {bk : Bk} {b o : Nat} (x : Own (born g hp r) (hnew hp bk) b o) :
    Own g hp b o ∨ (b = r.b ∧ ∃ k, k < r.cap * r.sz ∧ o = r.base + k) := by
  obtain ⟨id, r', bk', k, hl, hg, hf, hk, hb, ho⟩ := x
  simp only [born] at hl
  rw [hget_hnew] at hg
  by_cases e : id = hp.next
  · simp only [e, if_true, Life.live.injEq] at hl; subst hl
    exact .inr ⟨hb, k, hk, ho⟩
  · simp only [e, if_false] at hl hg
    exact .inl ⟨id, r', bk', k, hl, hg, hf, hk, hb, ho⟩
structure Rows (g : G) (bk : Bk) (cap : Nat) (arr : Array Value) : Prop where
  fr : bk.fr = false
  len : bk.es.length ≤ cap
  size : arr.size = cap * bk.sz
  row : ∀ e, e ∈ bk.es → e.length = bk.sz
  keep : ∀ e, e ∈ bk.es → ∀ c, c ∈ e → c.keep = true
  rep : ∀ (i j : Nat) (e : List V) (c : V), bk.es[i]? = some e → e[j]? = some c → RepA g c (arr.getD (i * bk.sz + j) undef)
theorem lt_of_get {α : Type} {l : List α} {i : Nat} {x : α} (h : l[i]? = some x) : i < l.length := by
  rcases Nat.lt_or_ge i l.length with h' | h'
  · exact h'
  · simp [List.getElem?_eq_none h'] at h
theorem idx_lt {i j n m : Nat} (hi : i < n) (hj : j < m) : i * m + j < n * m := by
  have : (i + 1) * m ≤ n * m := Nat.mul_le_mul_right m hi
  rw [Nat.add_mul] at this
  omega
theorem MemR.new {E : Ent} {g : G} {ν : Nat → Option Nat} {lo : Lo} {hp : Hp} {w w' : World} (h : MemR E g ν lo hp w) {arr : Array Value} {gn : Nat} (hw : Grow w w' arr gn)
    {bk : Bk} {cap : Nat} (hr : Rows g bk cap arr) (hgn : gn = 1 → bk.sz = 1 := by intro q; first | omega | exact absurd q (by decide)) :
    MemR E (born g hp ⟨w.heap.size, 0, bk.sz, cap⟩) ν lo (hnew hp bk) w' := by
  have hle := born_le h.hr ⟨w.heap.size, 0, bk.sz, cap⟩
  have hkn : ∀ o, g.κ w.heap.size o = none := fun o => by
    cases e : g.κ w.heap.size o with
    | none => rfl
    | some v => have := cell_block (h.hr.kap _ _ _ e); omega
  have hnxt : g.lf hp.next = .unb := h.hr.unb _ (Nat.le_refl _)
  have hev : Evo g hp w (born g hp ⟨w.heap.size, 0, bk.sz, cap⟩) (hnew hp bk) w' :=
    ⟨hle, by simp [hnew], rfl, fun id hid => by rw [hget_hnew, if_neg (by have := h.hr.lim; omega)], by rw [hw.size]; omega, fun _ _ _ c _ => hw.old c, fun _ _ _ c _ => hw.oldF (cell_block c),
     fun b o x => by
      rcases own_born h.hr x with x | ⟨x, _⟩
      · exact .inl x
      · exact .inr (by simp only at x; omega), fun _ _ _ o => .inl o, hw.wd fun b ⟨id, x⟩ => by
        refine ⟨id, ?_⟩
        simp only [born] at x
        split at x
        · cases x
        · exact x⟩
  have hbk : BkR (born g hp ⟨w.heap.size, 0, bk.sz, cap⟩) w' ⟨w.heap.size, 0, bk.sz, cap⟩ bk := by
    refine ⟨rfl, hr.len, hr.row, fun i j e c he hc => ?_, fun _ k hk => ?_, fun hf => by simp [hr.fr] at hf, fun _ _ => hw.unfNew hgn⟩
    · have hj := lt_of_get hc
      rw [hr.row e (List.mem_of_getElem? he)] at hj
      have hi := lt_of_get he
      have hx : i * bk.sz + j < arr.size := by rw [hr.size]; exact idx_lt (Nat.lt_of_lt_of_le hi hr.len) hj
      refine ⟨hr.keep e (List.mem_of_getElem? he) c (List.mem_of_getElem? hc), _, ?_, (hr.rep i j e c he hc).mono hle⟩
      show w'.cell? (ad w.heap.size (0 + i * bk.sz + j)) = _
      rw [hw.new, Nat.zero_add, Array.getElem?_eq_getElem hx]
      simp [Array.getD, hx]
    · have hx : k < arr.size := by rw [hr.size]; exact hk
      show (∃ cv, w'.cell? (ad w.heap.size (0 + k)) = some cv) ∧ w'.frozen? (ad w.heap.size (0 + k)) = false ∧ _
      rw [Nat.zero_add]
      exact ⟨⟨arr[k], by rw [hw.new, Array.getElem?_eq_getElem hx]⟩, hw.newF hx, hkn k⟩
  have hbl : ∀ id b, (born g hp ⟨w.heap.size, 0, bk.sz, cap⟩).lf id = .mlive b → id ≠ hp.next ∧ g.lf id = .mlive b := fun id b x => by
    simp only [born] at x
    split at x
    · cases x
    · exact ⟨‹_›, x⟩
  refine ⟨⟨h.hr.mp.mono hw.maps (fun _ _ x => x.mono hle) (fun id b x => (hbl id b x).2) (fun id b x => by rw [hget_hnew, if_neg (hbl id b x).1]), by simp only [hnew]; have := h.hr.lim; omega, fun id hid => by
      simp only [hnew] at hid
      rw [hget_hnew, if_neg (by omega)]; exact h.hr.nil id (by omega), fun id hid => by
      simp only [hnew] at hid
      simp only [born]; split
      · simp
      · exact h.hr.bnd id (by omega), fun b o v x => hw.old (h.hr.kap b o v x), fun id hid => ?_, fun id x => ?_, fun id r x => ?_, ?_⟩, ⟨fun t cs b x h1 => ?_, h.lo.inj⟩, h.evo.trans hev⟩
  · simp only [hnew] at hid
    simp only [born, show id ≠ hp.next by omega, if_false]
    exact h.hr.unb id (by omega)
  · simp only [born] at x
    rw [hget_hnew]
    by_cases e : id = hp.next
    · simp [e] at x
    · simp only [e, if_false] at x ⊢
      exact h.hr.dead id x
  · simp only [born] at x
    rw [hget_hnew]
    by_cases e : id = hp.next
    · simp only [e, if_true, Life.live.injEq] at x ⊢
      subst x
      exact ⟨bk, rfl, hbk⟩
    · simp only [e, if_false] at x ⊢
      obtain ⟨bk', a, b⟩ := h.hr.live id r x
      exact ⟨bk', a, b.grow hle (fun _ _ _ y => hw.old y) (fun _ _ _ y => hw.oldF (cell_block y)) (fun _ _ y _ => y) (fun _ _ y => hw.unf y)⟩
  · intro id id' r r' b b' hne hl hl' hg hg' hf hf'
    simp only [born] at hl hl'
    rw [hget_hnew] at hg hg'
    have far : ∀ id r b, g.lf id = .live r → hget hp id = some b → b.fr = false → 0 < r.cap * r.sz → r.b < w.heap.size := by
      intro id r b x y z k
      obtain ⟨bk, y', q⟩ := h.hr.live id r x
      rw [y] at y'; cases y'
      exact (q.blk z k).lt
    by_cases e : id = hp.next
    · have e' : id' ≠ hp.next := fun x => hne (e.trans x.symm)
      simp only [e, if_true, Life.live.injEq] at hl
      simp only [e', if_false] at hl' hg'
      intro _ k2 eb
      have := far id' r' b' hl' hg' hf' k2
      rw [← hl] at eb; simp only at eb; omega
    · simp only [e, if_false] at hl hg
      by_cases e' : id' = hp.next
      · simp only [e', if_true, Life.live.injEq] at hl'
        intro k1 _ eb
        have := far id r b hl hg hf k1
        rw [← hl'] at eb; simp only at eb; omega
      · simp only [e', if_false] at hl' hg'
        exact h.hr.sep id id' r r' b b' hne hl hl' hg hg' hf hf'
  · obtain ⟨h2, h3, h4, h5, h6⟩ := h.lo.box t cs b x h1
    refine ⟨h2.grow hle (fun _ _ y => hw.old y) (fun _ _ y => hw.oldF (cell_block y)), h3, fun o ho => ?_, h5, hw.unf h6⟩
    have h6 := h6.lt
    rcases own_born h.hr ho with ho | ⟨ho, _⟩
    · exact h4 o ho
    · simp only at ho; omega
end Ev
namespace Ev
variable [Glob]
open Go
theorem Own.ext {g : G} {hp hp' : Hp} (hg : ∀ id, hget hp' id = hget hp id) {b o : Nat} : Own g hp' b o ↔ Own g hp b o := by
  unfold Own; simp only [hg]
theorem MemR.hpExt {E : Ent} {g : G} {ν : Nat → Option Nat} {lo : Lo} {hp hp' : Hp} {w : World} (h : MemR E g ν lo hp w)
    (hn : hp'.next = hp.next) (hl : hp'.lim = hp.lim) (hg : ∀ id, hget hp' id = hget hp id) : MemR E g ν lo hp' w := by
  refine ⟨⟨h.hr.mp.mono (fun _ _ _ x => x) (fun _ _ x => x) (fun _ _ x => x) (fun id _ _ => hg id), by rw [hn, hl]; exact h.hr.lim, by simpa only [hg, hn] using h.hr.nil, by rw [hn]; exact h.hr.bnd, h.hr.kap, by rw [hn]; exact h.hr.unb, by simpa only [hg] using h.hr.dead, by simpa only [hg] using h.hr.live, by simpa only [hg] using h.hr.sep⟩, ⟨fun t cs b x h1 => ?_, h.lo.inj⟩, ?_⟩
  · obtain ⟨h2, h3, h4, h5⟩ := h.lo.box t cs b x h1
    exact ⟨h2, h3, fun o y => h4 o ((Own.ext hg).1 y), h5⟩
  · have v := h.evo
    exact ⟨v.le, by rw [hn]; exact v.next, by rw [hl]; exact v.lim, fun id x => by rw [hg]; exact v.ro id x, v.size, v.cell, v.frozen, fun b o x => v.own b o ((Own.ext hg).1 x), v.κ, v.wd⟩
theorem MemR.setBox {E : Ent} {g : G} {ν : Nat → Option Nat} {lo : Lo} {hp : Hp} {w : World} (h : MemR E g ν lo hp w) {t b : Nat} {cs : List V}
    (hl : lo t = some cs) (hb : ν t = some b) (off : Nat) (xs : List V) (vs : List Value) (hlen : off + xs.length ≤ cs.length) (hn : vs.length = xs.length)
    (hk : ∀ x, x ∈ xs → x.keep = true) (hr : ∀ (j : Nat) (x : V), xs[j]? = some x → ∃ cv, vs[j]? = some cv ∧ RepA g x cv) :
    MemR E g ν (lset lo t (over off xs cs)) hp (setCs w b off vs) := by
  obtain ⟨h2, h3, h4, h5, h6⟩ := h.lo.box t cs b hl hb
  have hex : ∀ k, k < vs.length → ∃ u, w.cell? (ad b (off + k)) = some u := fun k hk' => by
    obtain ⟨_, ⟨cv, x, _⟩, _⟩ := h2 (off + k) (cs[off + k]'(by omega)) (by rw [List.getElem?_eq_getElem (by omega)])
    exact ⟨cv, x⟩
  have hcell := cell_setCs hex
  have hne : ∀ b' o, b' ≠ b → (setCs w b off vs).cell? (ad b' o) = w.cell? (ad b' o) := fun b' o hb' => by rw [hcell, if_neg (fun x => hb' x.1)]
  have hfz : ∀ a, (setCs w b off vs).frozen? a = w.frozen? a := frozen_setCs w b off vs
  have hsz : (setCs w b off vs).heap.size = w.heap.size := size_setCs w b off vs
  have hobj : ∀ id r bk, g.lf id = .live r → hget hp id = some bk → BkR g w r bk → BkR g (setCs w b off vs) r bk := by
    intro id r bk x y z
    refine ⟨z.sz, z.len, z.row, fun i j e c he hc => ?_, fun hf k hk' => ?_, z.frz, fun q hn => (z.blk q hn).setCs _ _ _⟩
    · obtain ⟨kk, cv, a, rr⟩ := z.cont i j e c he hc
      refine ⟨kk, cv, ?_, rr⟩
      rw [hne _ _ ?_]; exact a
      intro eb
      by_cases hf : bk.fr = false
      · have hj := lt_of_get hc
        rw [z.row e (List.mem_of_getElem? he)] at hj
        have hi := lt_of_get he
        rw [Nat.add_assoc] at a
        exact h4 (r.base + (i * r.sz + j)) ⟨id, r, bk, i * r.sz + j, x, y, hf, by rw [z.sz]; exact idx_lt (Nat.lt_of_lt_of_le hi z.len) hj, eb.symm, rfl⟩
      · obtain ⟨u, hu⟩ := z.frz (by simpa using hf) i j e c he hc
        rw [eb, h3] at hu; cases hu
    · obtain ⟨⟨cv, a⟩, f, kk⟩ := z.rw hf k hk'
      refine ⟨⟨cv, ?_⟩, by rw [hfz]; exact f, kk⟩
      rw [hne _ _ ?_]; exact a
      intro eb
      exact h4 (r.base + k) ⟨id, r, bk, k, x, y, hf, hk', eb.symm, rfl⟩
  refine ⟨⟨h.hr.mp.mono (maps_setCs hex) (fun _ _ x => x) (fun _ _ x => x) (fun _ _ _ => rfl), h.hr.lim, h.hr.nil, h.hr.bnd, fun b' o v x => ?_, h.hr.unb, h.hr.dead, fun id r x => ?_, h.hr.sep⟩, ⟨fun t' cs' b' x h1' => ?_, fun t1 t2 b' htt x1 x2 e1 e2 => ?_⟩, ?_⟩
  · rw [hne _ _ ?_]; exact h.hr.kap b' o v x
    intro eb; rw [eb, h3] at x; cases x
  · obtain ⟨bk, a, z⟩ := h.hr.live id r x
    exact ⟨bk, a, hobj id r bk x a z⟩
  · by_cases ht : t' = t
    · subst ht
      simp only [lset, Nat.beq_refl, cond_true, Option.some.injEq] at x
      subst x
      rw [hb] at h1'; cases h1'
      refine ⟨fun j c hj => ?_, h3, h4, h5, h6.setCs _ _ _⟩
      have hj' := lt_of_get hj
      have hol : (over off xs cs).length = cs.length := by simp [over_eq]; omega
      rw [hol] at hj'
      obtain ⟨k0, ⟨cv0, x0, r0⟩, f0⟩ := h2 j (cs[j]) (by rw [List.getElem?_eq_getElem hj'])
      rw [hcell, hfz]
      by_cases hin : off ≤ j ∧ j < off + vs.length
      · rw [if_pos ⟨rfl, hin⟩]
        have : (over off xs cs)[j]? = xs[j - off]? := by
          rw [over_eq]
          rw [List.getElem?_append_right (by simp; omega), List.getElem?_append_left (by simp; omega)]
          congr 1; simp; omega
        rw [this] at hj
        obtain ⟨cv, e, rr⟩ := hr _ _ hj
        exact ⟨hk c (List.mem_of_getElem? hj), ⟨cv, e, rr⟩, f0⟩
      · rw [if_neg (fun y => hin y.2)]
        have : (over off xs cs)[j]? = cs[j]? := by
          rw [over_eq]
          by_cases hlt : j < off
          · rw [List.getElem?_append_left (by simp; omega), List.getElem?_take_of_lt hlt]
          · rw [List.getElem?_append_right (by simp; omega), List.getElem?_append_right (by simp; omega), List.getElem?_drop]
            congr 1; simp; omega
        rw [this, List.getElem?_eq_getElem hj'] at hj
        cases hj
        exact ⟨k0, ⟨cv0, x0, r0⟩, f0⟩
    · simp only [lset, beqF ht, cond_false] at x
      obtain ⟨h2', h3', h4', h5', h6'⟩ := h.lo.box t' cs' b' x h1'
      have hbb : b' ≠ b := fun eb => h.lo.inj t' t b ht (by rw [x]; simp) (by rw [hl]; simp) (eb ▸ h1') hb
      exact ⟨h2'.grow (GLe.refl g) (fun o v y => by rw [hne _ _ hbb]; exact y) (fun o v y => hfz _), h3', h4', h5', h6'.setCs _ _ _⟩
  · have nn : ∀ t', lset lo t (over off xs cs) t' ≠ none → lo t' ≠ none := fun t' y => by
      by_cases ht : t' = t
      · rw [ht, hl]; simp
      · simpa only [lset, beqF ht, cond_false] using y
    exact h.lo.inj t1 t2 b' htt (nn _ x1) (nn _ x2) e1 e2
  · have v := h.evo
    refine ⟨v.le, v.next, v.lim, v.ro, by rw [hsz]; exact v.size, fun b' o x y z => ?_, fun b' o x y z => by rw [hfz]; exact v.frozen b' o x y z, v.own, v.κ, ⟨(heap_setCs w b off vs).1.trans v.wd.1.1, (heap_setCs w b off vs).2.1.trans v.wd.1.2⟩, fun x y => (v.wd.2.1 x y).setCs _ _ _, fun x y z u => by rw [(heap_setCs w b off vs).2.2 x (.inl (by omega))]; exact v.wd.2.2.1 x y z u, v.wd.2.2.2⟩
    rw [hne _ _ ?_]; exact v.cell b' o x y z
    have := cell_block y; omega
theorem MemR.write {E : Ent} {g : G} {ν : Nat → Option Nat} {lo : Lo} {hp : Hp} {w : World} (h : MemR E g ν lo hp w) {id : Nat} {r : Rg} {bk bk' : Bk}
    (hl : g.lf id = .live r) (hb : hget hp id = some bk) (hf : bk.fr = false) (hlim : hp.lim ≤ id) (off : Nat) (vs : List Value) (hlen : off + vs.length ≤ r.cap * r.sz)
    (hsz : bk'.sz = bk.sz) (hf' : bk'.fr = false) (hle : bk'.es.length ≤ r.cap) (hrow : ∀ e, e ∈ bk'.es → e.length = bk.sz)
    (hc : ∀ (i j : Nat) (e : List V) (c : V), bk'.es[i]? = some e → e[j]? = some c → c.keep = true ∧
      if off ≤ i * bk.sz + j ∧ i * bk.sz + j < off + vs.length then ∃ cv, vs[i * bk.sz + j - off]? = some cv ∧ RepA g c cv
      else ∃ cv, w.cell? (ad r.b (r.base + (i * bk.sz + j))) = some cv ∧ RepA g c cv) :
    MemR E g ν lo (hset hp id (some bk')) (setCs w r.b (r.base + off) vs) := by
  obtain ⟨bk0, e0, z0⟩ := h.hr.live id r hl
  rw [hb] at e0; cases e0
  have hown : ∀ k, k < r.cap * r.sz → Own g hp r.b (r.base + k) := fun k hk => ⟨id, r, bk, k, hl, hb, hf, hk, rfl, rfl⟩
  have hex : ∀ k, k < vs.length → ∃ u, w.cell? (ad r.b (r.base + off + k)) = some u := fun k hk => by
    have := (z0.rw hf (off + k) (by omega)).1
    rwa [← Nat.add_assoc] at this
  have hcell := cell_setCs hex
  have hne : ∀ b o, ¬ (b = r.b ∧ r.base + off ≤ o ∧ o < r.base + off + vs.length) → (setCs w r.b (r.base + off) vs).cell? (ad b o) = w.cell? (ad b o) := fun b o x => by rw [hcell, if_neg x]
  have hin : ∀ b o, (b = r.b ∧ r.base + off ≤ o ∧ o < r.base + off + vs.length) → Own g hp b o := fun b o x => by
    have := hown (o - r.base) (by omega)
    rw [show r.base + (o - r.base) = o by omega, ← x.1] at this
    exact this
  have hall : ∀ b o v, w.cell? (ad b o) = some v → ∃ v', (setCs w r.b (r.base + off) vs).cell? (ad b o) = some v' := fun b o v x => by
    rw [hcell]
    split
    · rename_i y
      exact ⟨vs[o - (r.base + off)]'(by omega), by rw [List.getElem?_eq_getElem]⟩
    · exact ⟨v, x⟩
  have hfz : ∀ a, (setCs w r.b (r.base + off) vs).frozen? a = w.frozen? a := frozen_setCs w _ _ vs
  have hsize : (setCs w r.b (r.base + off) vs).heap.size = w.heap.size := size_setCs w _ _ vs
  have hgets : ∀ j, hget (hset hp id (some bk')) j = if j = id then some bk' else hget hp j := hget_hset hp id (some bk')
  have hownx : ∀ b o, Own g (hset hp id (some bk')) b o → Own g hp b o := by
    intro b o ⟨j, r', b', k, x, y, z, u, v⟩
    rw [hgets] at y
    by_cases e : j = id
    · subst e
      rw [hl] at x; cases x
      exact ⟨j, r, bk, k, hl, hb, hf, u, v⟩
    · simp only [e, if_false] at y
      exact ⟨j, r', b', k, x, y, z, u, v⟩
  refine ⟨⟨h.hr.mp.mono (maps_setCs hex) (fun _ _ x => x) (fun _ _ x => x) (fun j b x => by rw [hget_hset, if_neg (fun e => by subst e; rw [hl] at x; cases x)]), h.hr.lim, fun j x => by
      have hne : j ≠ id := fun e => by subst e; rw [h.hr.nil _ x] at hb; cases hb
      rw [hget_hset, if_neg hne]; exact h.hr.nil j x, h.hr.bnd, fun b o v x => ?_, h.hr.unb, fun j x => ?_, fun j r' x => ?_, ?_⟩, ⟨fun t cs b' x h1 => ?_, h.lo.inj⟩, h.evo.trans ⟨GLe.refl g, Nat.le_refl _, rfl, fun j x => ?_, by rw [hsize]; omega, fun b o v x y => ?_, fun b o v _ _ => hfz _, fun b o x => .inl (hownx b o x), fun _ _ _ x => .inl x, ⟨(heap_setCs w _ _ vs).1, (heap_setCs w _ _ vs).2.1⟩, fun x y => y.setCs _ _ _, fun x y z _ => (heap_setCs w _ _ vs).2.2 x (by
      by_cases e : vs = []
      · exact .inr e
      · refine .inl fun q => z (r.base + off) ?_
        have : 0 < vs.length := List.length_pos_iff.2 e
        rw [q]; exact hown off (by omega)), fun _ x => .inl x⟩⟩
  · rw [hne _ _ fun y => ?_]; exact h.hr.kap b o v x
    rw [Own.κ h.hr (hin b o y)] at x; cases x
  · rw [hgets]
    by_cases e : j = id
    · subst e; rw [hl] at x; cases x
    · simp only [e, if_false]; exact h.hr.dead j x
  · rw [hgets]
    by_cases e : j = id
    · subst e
      rw [hl] at x; cases x
      refine ⟨bk', by simp, ⟨by rw [hsz]; exact z0.sz, hle, by rw [hsz]; exact hrow, fun i jj e c he hcc => ?_, fun _ k hk => ?_, fun y => by simp [hf'] at y, fun _ hn => by rw [hsz]; exact (z0.blk hf hn).setCs _ _ _⟩⟩
      · have := hc i jj e c he hcc
        refine ⟨this.1, ?_⟩
        have h2 := this.2
        rw [z0.sz, Nat.add_assoc, hcell]
        by_cases y : off ≤ i * bk.sz + jj ∧ i * bk.sz + jj < off + vs.length
        · rw [if_pos y] at h2
          rw [if_pos ⟨rfl, by omega, by omega⟩]
          rw [show r.base + (i * bk.sz + jj) - (r.base + off) = i * bk.sz + jj - off by omega]
          exact h2
        · rw [if_neg y] at h2
          rw [if_neg (by omega)]
          exact h2
      · obtain ⟨⟨cv, a⟩, f, kk⟩ := z0.rw hf k hk
        exact ⟨hall _ _ _ a, by rw [hfz]; exact f, kk⟩
    · simp only [e, if_false]
      obtain ⟨b', a, z⟩ := h.hr.live j r' x
      refine ⟨b', a, ⟨z.sz, z.len, z.row, fun i jj e' c he hcc => ?_, fun hf'' k hk => ?_, z.frz, fun q hn => (z.blk q hn).setCs _ _ _⟩⟩
      · obtain ⟨kk, cv, aa, rr⟩ := z.cont i jj e' c he hcc
        refine ⟨kk, cv, ?_, rr⟩
        rw [hne _ _ fun y => ?_]; exact aa
        by_cases hfb : b'.fr = false
        · have hj := lt_of_get hcc
          rw [z.row e' (List.mem_of_getElem? he)] at hj
          have hi := lt_of_get he
          exact h.hr.sep j id r' r b' bk e x hl a hb hfb hf (by rw [z.sz]; have := idx_lt (Nat.lt_of_lt_of_le hi z.len) hj; omega) (by omega) y.1
        · obtain ⟨u, hu⟩ := z.frz (by simpa using hfb) i jj e' c he hcc
          rw [Own.κ h.hr (hin _ _ y)] at hu; cases hu
      · obtain ⟨⟨cv, aa⟩, f, kk⟩ := z.rw hf'' k hk
        exact ⟨hall _ _ _ aa, by rw [hfz]; exact f, kk⟩
  · intro j j' r1 r2 b1 b2 hne' x x' y y' z z'
    rw [hgets] at y y'
    have rep : ∀ j r1 b1, g.lf j = .live r1 → (if j = id then some bk' else hget hp j) = some b1 → b1.fr = false → ∃ b0, hget hp j = some b0 ∧ b0.fr = false := by
      intro j r1 b1 x y z
      by_cases e : j = id
      · subst e; exact ⟨bk, hb, hf⟩
      · simp only [e, if_false] at y; exact ⟨b1, y, z⟩
    obtain ⟨c1, y1, z1⟩ := rep j r1 b1 x y z
    obtain ⟨c2, y2, z2⟩ := rep j' r2 b2 x' y' z'
    exact h.hr.sep j j' r1 r2 c1 c2 hne' x x' y1 y2 z1 z2
  · obtain ⟨h2, h3, h4, h5, h6⟩ := h.lo.box t cs b' x h1
    have hbb : ∀ o, ¬ (b' = r.b ∧ r.base + off ≤ o ∧ o < r.base + off + vs.length) := fun o y => h4 o (hin b' o y)
    exact ⟨h2.grow (GLe.refl g) (fun o v y => by rw [hne _ _ (hbb o)]; exact y) (fun o v y => hfz _), h3, fun o y => h4 o (hownx b' o y), h5, h6.setCs _ _ _⟩
  · rw [hgets, if_neg (by omega)]
  · rw [hne _ _ fun z => y (hin b o z)]; exact x
def killed (g : G) (id : Nat) : G := ⟨g.κ, fun j => if j = id then .dead else g.lf j⟩
theorem killed_le {g : G} {id : Nat} {r : Rg} (h : g.lf id = .live r) : GLe g (killed g id) :=
  ⟨fun _ _ _ x => x, fun j => by
    by_cases e : j = id
    · subst e; rw [h]; simp [killed, Life.le]
    · simp only [killed, e, if_false]; cases g.lf j <;> simp [Life.le]⟩
theorem own_killed {g : G} {hp : Hp} {id : Nat} {b o : Nat} (x : Own (killed g id) (hset hp id none) b o) : Own g hp b o := by
  obtain ⟨j, r, bk, k, hl, hg, rest⟩ := x
  simp only [killed] at hl
  rw [hget_hset] at hg
  by_cases e : j = id
  · simp [e] at hl
  · simp only [e, if_false] at hl hg
    exact ⟨j, r, bk, k, hl, hg, rest⟩
theorem MemR.kill {E : Ent} {g : G} {ν : Nat → Option Nat} {lo : Lo} {hp : Hp} {w : World} (h : MemR E g ν lo hp w) {id : Nat} {r : Rg}
    (hl : g.lf id = .live r) (hlim : hp.lim ≤ id) : MemR E (killed g id) ν lo (hset hp id none) w := by
  have hle := killed_le hl
  have hgets := hget_hset hp id none
  have hkm : ∀ j b, (killed g id).lf j = .mlive b → j ≠ id ∧ g.lf j = .mlive b := fun j b x => by
    simp only [killed] at x
    split at x
    · cases x
    · exact ⟨‹_›, x⟩
  refine ⟨⟨h.hr.mp.mono (fun _ _ _ x => x) (fun _ _ x => x.mono hle) (fun j b x => (hkm j b x).2) (fun j b x => by rw [hget_hset, if_neg (hkm j b x).1]), h.hr.lim, fun j x => by
      rw [hget_hset]; split
      · rfl
      · exact h.hr.nil j x, fun j x => by
      simp only [killed]; split
      · simp
      · exact h.hr.bnd j x, h.hr.kap, fun j x => ?_, fun j x => ?_, fun j r' x => ?_, fun j j' r1 r2 b1 b2 hne x x' y y' z z' => ?_⟩, ⟨fun t cs b' x h1 => ?_, h.lo.inj⟩, h.evo.trans ⟨hle, Nat.le_refl _, rfl, fun j x => ?_, Nat.le_refl _, fun _ _ _ x _ => x, fun _ _ _ _ _ => rfl, fun b o x => .inl (own_killed x), fun _ _ _ x => .inl x, ⟨rfl, rfl⟩, fun _ x => x, fun _ _ _ _ => rfl, fun b ⟨j, x⟩ => .inl ⟨j, (hkm j b x).2⟩⟩⟩
  · have : j ≠ id := fun e => by subst e; rw [h.hr.unb j x] at hl; cases hl
    simp only [killed, this, if_false]; exact h.hr.unb j x
  · rw [hgets]
    by_cases e : j = id
    · simp [e]
    · simp only [killed, e, if_false] at x ⊢; exact h.hr.dead j x
  · rw [hgets]
    by_cases e : j = id
    · simp [killed, e] at x
    · simp only [killed, e, if_false] at x ⊢
      obtain ⟨bk, a, z⟩ := h.hr.live j r' x
      exact ⟨bk, a, z.grow hle (fun _ _ _ y => y) (fun _ _ _ _ => rfl) (fun _ _ y _ => y) (fun _ _ y => y)⟩
  · rw [hgets] at y y'
    by_cases e : j = id
    · simp [killed, e] at x
    · by_cases e' : j' = id
      · simp [killed, e'] at x'
      · simp only [killed, e, if_false] at x y
        simp only [killed, e', if_false] at x' y'
        exact h.hr.sep j j' r1 r2 b1 b2 hne x x' y y' z z'
  · obtain ⟨h2, h3, h4, h5⟩ := h.lo.box t cs b' x h1
    exact ⟨h2.grow hle (fun _ _ y => y) (fun _ _ _ => rfl), h3, fun o y => h4 o (own_killed y), h5⟩
  · rw [hgets, if_neg (by omega)]
end Ev
namespace Ev
variable [Glob]
open Go
theorem MemR.rename {E : Ent} {g : G} {ν : Nat → Option Nat} {lo : Lo} {hp : Hp} {w : World} (h : MemR E g ν lo hp w) {id : Nat} {r : Rg} {bk bk' : Bk}
    (hl : g.lf id = .live r) (hb : hget hp id = some bk) (hf : bk.fr = false) (hlim : hp.lim ≤ id) (i cap : Nat) (hcap : i + cap ≤ r.cap)
    (hsz : bk'.sz = bk.sz) (hf' : bk'.fr = false) (hle : bk'.es.length ≤ cap) (hes : ∀ (k : Nat) (e : List V), bk'.es[k]? = some e → bk.es[i + k]? = some e) :
    MemR E (born (killed g id) hp ⟨r.b, r.base + i * r.sz, r.sz, cap⟩) ν lo (hnew (hset hp id none) bk') w := by
  obtain ⟨bk0, e0, z0⟩ := h.hr.live id r hl
  rw [hb] at e0; cases e0
  have hk := h.kill hl hlim
  have hnx : hp.next ≠ id := fun e => by have := h.hr.unb id (by omega); rw [hl] at this; cases this
  have hle1 := killed_le hl
  have hle2 : GLe (killed g id) (born (killed g id) hp ⟨r.b, r.base + i * r.sz, r.sz, cap⟩) := by
    refine ⟨fun _ _ _ x => x, fun j => ?_⟩
    by_cases e : j = hp.next
    · have : (killed g id).lf j = .unb := hk.hr.unb j (by simp only [hset]; omega)
      rw [this]; trivial
    · simp only [born, e, if_false]; cases (killed g id).lf j <;> simp [Life.le]
  have hsub : ∀ k, k < cap * r.sz → i * r.sz + k < r.cap * r.sz := fun k hk' => by
    have : (i + cap) * r.sz ≤ r.cap * r.sz := Nat.mul_le_mul_right _ hcap
    rw [Nat.add_mul] at this; omega
  have hgets : ∀ j, hget (hnew (hset hp id none) bk') j = if j = hp.next then some bk' else if j = id then none else hget hp j := by
    intro j; rw [hget_hnew, hget_hset]; rfl
  have hown : ∀ b o, Own (born (killed g id) hp ⟨r.b, r.base + i * r.sz, r.sz, cap⟩) (hnew (hset hp id none) bk') b o → Own g hp b o := by
    intro b o ⟨j, r1, b1, k, x, y, z, u, v1, v2⟩
    rw [hgets] at y
    by_cases e : j = hp.next
    · simp only [born, e, if_true, Life.live.injEq] at x
      subst x
      exact ⟨id, r, bk, i * r.sz + k, hl, hb, hf, hsub k u, v1, by simp only at v2; omega⟩
    · simp only [born, killed, e, if_false] at x y
      by_cases e' : j = id
      · simp [e'] at x
      · simp only [e', if_false] at x y
        exact ⟨j, r1, b1, k, x, y, z, u, v1, v2⟩
  have hnew' : BkR (born (killed g id) hp ⟨r.b, r.base + i * r.sz, r.sz, cap⟩) w ⟨r.b, r.base + i * r.sz, r.sz, cap⟩ bk' := by
    refine ⟨by rw [hsz]; exact z0.sz, hle, fun e he => ?_, fun a j e c he hc => ?_, fun _ k hk' => ?_, fun y => by simp [hf'] at y, fun _ hn => by rw [hsz]; exact z0.blk hf (by have := hsub 0 hn; omega)⟩
    · obtain ⟨k, hk⟩ := List.getElem?_of_mem he
      rw [hsz]; exact z0.row e (List.mem_of_getElem? (hes k e hk))
    · obtain ⟨kk, cv, x, rr⟩ := z0.cont (i + a) j e c (hes a e he) hc
      refine ⟨kk, cv, ?_, (rr.mono hle1).mono hle2⟩
      show w.cell? (ad r.b (r.base + i * r.sz + a * r.sz + j)) = some cv
      rw [← x]; congr 2; rw [Nat.add_mul]; omega
    · have := z0.rw hf (i * r.sz + k) (hsub k hk')
      rw [← Nat.add_assoc] at this
      exact this
  have hmm : ∀ j b, (born (killed g id) hp ⟨r.b, r.base + i * r.sz, r.sz, cap⟩).lf j = .mlive b → j ≠ hp.next ∧ j ≠ id ∧ g.lf j = .mlive b := fun j b x => by
    simp only [born, killed] at x
    split at x
    · cases x
    · split at x
      · cases x
      · exact ⟨‹_›, ‹_›, x⟩
  refine ⟨⟨h.hr.mp.mono (fun _ _ _ x => x) (fun _ _ x => (x.mono hle1).mono hle2) (fun j b x => (hmm j b x).2.2) (fun j b x => by rw [hgets, if_neg (hmm j b x).1, if_neg (hmm j b x).2.1]), by simp only [hnew, hset]; have := h.hr.lim; omega, fun j x => by
      simp only [hnew, hset] at x
      rw [hget_hnew, hget_hset, if_neg (by simp only [hset]; omega)]; split
      · rfl
      · exact h.hr.nil j (by omega), fun j x => by
      simp only [hnew, hset] at x
      simp only [born]; split
      · simp
      · simp only [killed]; split
        · simp
        · exact h.hr.bnd j (by omega), h.hr.kap, fun j x => ?_, fun j x => ?_, fun j r' x => ?_, fun j j' r1 r2 b1 b2 hne x x' y y' z z' => ?_⟩, ⟨fun t cs b' x h1 => ?_, h.lo.inj⟩,
    h.evo.trans ⟨hle1.trans hle2, by simp [hnew, hset], rfl, fun j x => ?_, Nat.le_refl _, fun _ _ _ x _ => x, fun _ _ _ _ _ => rfl, fun b o x => .inl (hown b o x), fun _ _ _ x => .inl x, ⟨rfl, rfl⟩, fun _ x => x, fun _ _ _ _ => rfl, fun b ⟨j, x⟩ => .inl ⟨j, (hmm j b x).2.2⟩⟩⟩
  · simp only [hnew, hset] at x
    simp only [born, show j ≠ hp.next by omega, if_false]
    exact hk.hr.unb j (by simp only [hset]; omega)
  · rw [hgets]
    by_cases e : j = hp.next
    · simp [born, e] at x
    · simp only [born, e, if_false] at x ⊢
      by_cases e' : j = id
      · simp [e']
      · simp only [killed, e', if_false] at x ⊢; exact h.hr.dead j x
  · rw [hgets]
    by_cases e : j = hp.next
    · simp only [born, e, if_true, Life.live.injEq] at x ⊢
      subst x
      exact ⟨bk', rfl, hnew'⟩
    · simp only [born, e, if_false] at x ⊢
      by_cases e' : j = id
      · simp [killed, e'] at x
      · simp only [killed, e', if_false] at x ⊢
        obtain ⟨b1, a, z⟩ := h.hr.live j r' x
        exact ⟨b1, a, z.grow (hle1.trans hle2) (fun _ _ _ y => y) (fun _ _ _ _ => rfl) (fun _ _ y _ => y) (fun _ _ y => y)⟩
  · -- two places apart
    have old : ∀ j r1 b1, j ≠ hp.next → (born (killed g id) hp ⟨r.b, r.base + i * r.sz, r.sz, cap⟩).lf j = .live r1 → hget (hnew (hset hp id none) bk') j = some b1 → j ≠ id ∧ g.lf j = .live r1 ∧ hget hp j = some b1 := by
      intro j r1 b1 e x y
      rw [hgets] at y
      simp only [born, e, if_false] at x y
      by_cases e' : j = id
      · simp [killed, e'] at x
      · simp only [killed, e', if_false] at x y; exact ⟨e', x, y⟩
    have apt : ∀ j r1 b1, j ≠ id → g.lf j = .live r1 → hget hp j = some b1 → b1.fr = false → Rg.apart ⟨r.b, r.base + i * r.sz, r.sz, cap⟩ r1 := by
      intro j r1 b1 e x y z k1 k2 u1
      exact h.hr.sep id j r r1 bk b1 (fun q => e q.symm) hl x hb y hf z (by have := hsub 0 k1; omega) k2 u1
    by_cases e : j = hp.next
    · have e' : j' ≠ hp.next := fun q => hne (e.trans q.symm)
      obtain ⟨n1, n2, n3⟩ := old j' r2 b2 e' x' y'
      simp only [born, e, if_true, Life.live.injEq] at x
      rw [← x]
      exact apt j' r2 b2 n1 n2 n3 z'
    · obtain ⟨n1, n2, n3⟩ := old j r1 b1 e x y
      by_cases e' : j' = hp.next
      · simp only [born, e', if_true, Life.live.injEq] at x'
        rw [← x']
        intro k1 k2 u1
        exact apt j r1 b1 n1 n2 n3 z k2 k1 u1.symm
      · obtain ⟨m1, m2, m3⟩ := old j' r2 b2 e' x' y'
        exact h.hr.sep j j' r1 r2 b1 b2 hne n2 m2 n3 m3 z z'
  · obtain ⟨h2, h3, h4, h5⟩ := h.lo.box t cs b' x h1
    exact ⟨h2.grow (hle1.trans hle2) (fun _ _ y => y) (fun _ _ _ => rfl), h3, fun o y => h4 o (hown b' o y), h5⟩
  · rw [hgets, if_neg (by have := h.hr.lim; omega), if_neg (by omega)]
def known (g : G) (b : Nat) (arr : Array Value) : G := ⟨fun b' o => if b' = b then arr[o]? else g.κ b' o, g.lf⟩
theorem MemR.imm {E : Ent} {g : G} {ν : Nat → Option Nat} {lo : Lo} {hp : Hp} {w w' : World} (h : MemR E g ν lo hp w) {arr : Array Value} {gn : Nat} (hw : Grow w w' arr gn) :
    MemR E (known g w.heap.size arr) ν lo hp w' ∧ GLe g (known g w.heap.size arr) := by
  have hne : ∀ b o v, w.cell? (ad b o) = some v → b ≠ w.heap.size := fun b o v x => by have := cell_block x; omega
  have hle : GLe g (known g w.heap.size arr) := ⟨fun b o v x => by
      simp only [known, hne b o v (h.hr.kap b o v x), if_false]; exact x, fun j => by simp only [known]; cases g.lf j <;> simp [Life.le]⟩
  have hkk : ∀ b o, g.κ b o = none → (∃ v, w.cell? (ad b o) = some v) → (known g w.heap.size arr).κ b o = none := fun b o x ⟨v, y⟩ => by
    simp only [known, hne b o v y, if_false]; exact x
  have hev : Evo g hp w (known g w.heap.size arr) hp w' := ⟨hle, Nat.le_refl _, rfl, fun _ _ => rfl, by rw [hw.size]; omega, fun _ _ _ c _ => hw.old c, fun _ _ _ c _ => hw.oldF (cell_block c), fun _ _ o => .inl o, fun b o v x => by
    by_cases e : b = w.heap.size
    · exact .inr (.inr (by omega))
    · simp only [known, e, if_false] at x; exact .inl x, hw.wd fun _ x => x⟩
  refine ⟨⟨⟨h.hr.mp.mono hw.maps (fun _ _ x => x.mono hle) (fun _ _ x => x) (fun _ _ _ => rfl), h.hr.lim, h.hr.nil, h.hr.bnd, fun b o v x => ?_, h.hr.unb, h.hr.dead, fun id r x => ?_, h.hr.sep⟩, ⟨fun t cs b' x h1 => ?_, h.lo.inj⟩, h.evo.trans hev⟩, hle⟩
  · by_cases e : b = w.heap.size
    · subst e; simp only [known, if_true] at x; rw [hw.new]; exact x
    · simp only [known, e, if_false] at x; exact hw.old (h.hr.kap b o v x)
  · obtain ⟨bk, a, z⟩ := h.hr.live id r x
    exact ⟨bk, a, z.grow hle (fun _ _ _ y => hw.old y) (fun _ _ _ y => hw.oldF (cell_block y)) hkk (fun _ _ y => hw.unf y)⟩
  · obtain ⟨h2, h3, h4, h5, h6⟩ := h.lo.box t cs b' x h1
    exact ⟨h2.grow hle (fun _ _ y => hw.old y) (fun _ _ y => hw.oldF (cell_block y)), fun o => by have := h6.lt; simp only [known, show b' ≠ w.heap.size by omega, if_false]; exact h3 o, h4, h5, hw.unf h6⟩
def fixed (g : G) (w : World) (r : Rg) (n : Nat) : G :=
  ⟨fun b o => if b = r.b ∧ r.base ≤ o ∧ o < r.base + n * r.sz then w.cell? (ad b o) else g.κ b o, g.lf⟩
theorem MemR.freeze {E : Ent} {g : G} {ν : Nat → Option Nat} {lo : Lo} {hp : Hp} {w : World} (h : MemR E g ν lo hp w) {id : Nat} {r : Rg} {bk : Bk}
    (hl : g.lf id = .live r) (hb : hget hp id = some bk) (hf : bk.fr = false) (hlim : hp.lim ≤ id) :
    MemR E (fixed g w r bk.es.length) ν lo (hset hp id (some ⟨bk.sz, true, bk.es⟩)) w ∧ GLe g (fixed g w r bk.es.length) := by
  obtain ⟨bk0, e0, z0⟩ := h.hr.live id r hl
  rw [hb] at e0; cases e0
  have hsub : bk.es.length * r.sz ≤ r.cap * r.sz := Nat.mul_le_mul_right _ z0.len
  have hown : ∀ b o, (b = r.b ∧ r.base ≤ o ∧ o < r.base + bk.es.length * r.sz) → Own g hp b o := fun b o x =>
    ⟨id, r, bk, o - r.base, hl, hb, hf, by omega, x.1, by omega⟩
  have hle : GLe g (fixed g w r bk.es.length) := ⟨fun b o v x => by
      have : ¬ (b = r.b ∧ r.base ≤ o ∧ o < r.base + bk.es.length * r.sz) := fun y => by rw [Own.κ h.hr (hown b o y)] at x; cases x
      simp only [fixed, this, if_false]; exact x, fun j => by simp only [fixed]; cases g.lf j <;> simp [Life.le]⟩
  have hgets := hget_hset hp id (some ⟨bk.sz, true, bk.es⟩)
  have hownx : ∀ b o, Own (fixed g w r bk.es.length) (hset hp id (some ⟨bk.sz, true, bk.es⟩)) b o → Own g hp b o := by
    intro b o ⟨j, r1, b1, k, x, y, z, u⟩
    rw [hgets] at y
    by_cases e : j = id
    · simp only [e, if_true, Option.some.injEq] at y; subst y; simp at z
    · simp only [e, if_false] at y; exact ⟨j, r1, b1, k, x, y, z, u⟩
  have hkk : ∀ j r1 b1 k, j ≠ id → g.lf j = .live r1 → hget hp j = some b1 → b1.fr = false → k < r1.cap * r1.sz → g.κ r1.b (r1.base + k) = none → (fixed g w r bk.es.length).κ r1.b (r1.base + k) = none := by
    intro j r1 b1 k e x y z u v
    have : ¬ (r1.b = r.b ∧ r.base ≤ r1.base + k ∧ r1.base + k < r.base + bk.es.length * r.sz) := fun q =>
      h.hr.sep j id r1 r b1 bk e x hl y hb z hf (by omega) (by omega) q.1
    simp only [fixed, this, if_false]; exact v
  refine ⟨⟨⟨h.hr.mp.mono (fun _ _ _ x => x) (fun _ _ x => x.mono hle) (fun _ _ x => x) (fun j b x => by rw [hgets, if_neg (fun e => by subst e; simp only [fixed] at x; rw [hl] at x; cases x)]), h.hr.lim, fun j x => by
      have hne : j ≠ id := fun e => by subst e; rw [h.hr.nil _ x] at hb; cases hb
      rw [hget_hset, if_neg hne]; exact h.hr.nil j x, h.hr.bnd, fun b o v x => ?_, h.hr.unb, fun j x => ?_, fun j r' x => ?_, fun j j' r1 r2 b1 b2 hne x x' y y' z z' => ?_⟩, ⟨fun t cs b' x h1 => ?_, h.lo.inj⟩,
    h.evo.trans ⟨hle, Nat.le_refl _, rfl, fun j x => ?_, Nat.le_refl _, fun _ _ _ x _ => x, fun _ _ _ _ _ => rfl, fun b o x => .inl (hownx b o x), fun b o v x => ?_, ⟨rfl, rfl⟩, fun _ x => x, fun _ _ _ _ => rfl, fun _ x => .inl x⟩⟩, hle⟩
  · by_cases e : b = r.b ∧ r.base ≤ o ∧ o < r.base + bk.es.length * r.sz
    · simp only [fixed] at x; rw [if_pos e] at x; exact x
    · simp only [fixed, e, if_false] at x; exact h.hr.kap b o v x
  · rw [hgets]
    by_cases e : j = id
    · subst e; simp only [fixed] at x; rw [hl] at x; cases x
    · simp only [e, if_false]; exact h.hr.dead j x
  · rw [hgets]
    simp only [fixed] at x
    by_cases e : j = id
    · subst e; rw [hl] at x; cases x
      refine ⟨⟨bk.sz, true, bk.es⟩, if_pos rfl, ⟨z0.sz, z0.len, z0.row, fun i jj e c he hc => ?_, fun y => by simp at y, fun _ i jj e c he hc => ?_, fun y => by simp at y⟩⟩
      · obtain ⟨kk, cv, a, rr⟩ := z0.cont i jj e c he hc
        exact ⟨kk, cv, a, rr.mono hle⟩
      · obtain ⟨kk, cv, a, rr⟩ := z0.cont i jj e c he hc
        have hj := lt_of_get hc
        rw [z0.row e (List.mem_of_getElem? he)] at hj
        have hi := lt_of_get he
        have hx : i * r.sz + jj < bk.es.length * r.sz := by rw [z0.sz]; exact idx_lt hi hj
        refine ⟨cv, ?_⟩
        show (if r.b = r.b ∧ r.base ≤ r.base + i * r.sz + jj ∧ r.base + i * r.sz + jj < r.base + bk.es.length * r.sz then _ else _) = _
        rw [if_pos ⟨rfl, by omega, by omega⟩]; exact a
    · simp only [e, if_false]
      obtain ⟨b1, a, z⟩ := h.hr.live j r' x
      refine ⟨b1, a, ⟨z.sz, z.len, z.row, fun i jj e' c he hc => ?_, fun y k hk => ?_, fun y i jj e' c he hc => ?_, z.blk⟩⟩
      · obtain ⟨kk, cv, aa, rr⟩ := z.cont i jj e' c he hc
        exact ⟨kk, cv, aa, rr.mono hle⟩
      · obtain ⟨a1, a2, a3⟩ := z.rw y k hk
        exact ⟨a1, a2, hkk j r' b1 k e x a y hk a3⟩
      · obtain ⟨cv, aa⟩ := z.frz y i jj e' c he hc
        exact ⟨cv, hle.κ _ _ _ aa⟩
  · rw [hgets] at y y'
    have ne : ∀ j b1, (if j = id then some (⟨bk.sz, true, bk.es⟩ : Bk) else hget hp j) = some b1 → b1.fr = false → j ≠ id ∧ hget hp j = some b1 := by
      intro j b1 y z
      by_cases e : j = id
      · simp only [e, if_true, Option.some.injEq] at y; subst y; simp at z
      · simp only [e, if_false] at y; exact ⟨e, y⟩
    exact h.hr.sep j j' r1 r2 b1 b2 hne x x' (ne j b1 y z).2 (ne j' b2 y' z').2 z z'
  · obtain ⟨h2, h3, h4, h5⟩ := h.lo.box t cs b' x h1
    refine ⟨h2.grow hle (fun _ _ y => y) (fun _ _ _ => rfl), fun o => ?_, fun o y => h4 o (hownx b' o y), h5⟩
    have : ¬ (b' = r.b ∧ r.base ≤ o ∧ o < r.base + bk.es.length * r.sz) := fun y => h4 o (hown b' o y)
    simp only [fixed, this, if_false]; exact h3 o
  · rw [hgets, if_neg (by omega)]
  · by_cases e : b = r.b ∧ r.base ≤ o ∧ o < r.base + bk.es.length * r.sz
    · exact .inr (.inl (hown b o e))
    · simp only [fixed, e, if_false] at x; exact .inl x
end Ev
namespace Ev
variable [Glob]
open Go
inductive RepP (κ : K) : V → Value → Prop
  | c (v : V) (cv : Value) (h : RepC κ v cv) : RepP κ v cv
  | ag (cs : List V) (arr : Array Value) (hn : arr.size = cs.length) (h1 : ∀ c, c ∈ cs → c.keep = true)
      (h2 : ∀ (i : Nat) (c : V), cs[i]? = some c → RepC κ c (arr.getD i undef)) : RepP κ (.ag cs) (.agg arr)
theorem RepP.toA {g : G} {v : V} {cv : Value} (h : RepP g.κ v cv) : RepA g v cv := by
  cases h with
  | c _ _ h => exact .c _ _ h
  | ag cs arr hn h1 h2 => exact .ag cs arr hn h1 (fun i c hc => .c _ _ (h2 i c hc))
theorem RepP.mono {κ κ' : K} (hk : KLe κ κ') {v : V} {cv : Value} (h : RepP κ v cv) : RepP κ' v cv := by
  cases h with
  | c _ _ h => exact .c _ _ (h.mono hk)
  | ag cs arr hn h1 h2 => exact .ag cs arr hn h1 (fun i c hc => (h2 i c hc).mono hk)
theorem RepP.notLp {κ : K} {v : V} {cv : Value} (h : RepP κ v cv) : isLp v = false := by
  cases h with
  | c _ _ h => cases h <;> rfl
  | ag => rfl
theorem RepC.keep {κ : K} {v : V} {cv : Value} (h : RepC κ v cv) : v.keep = true := by cases h <;> rfl
structure Closed (E : Ent) (g : G) (ν : Nat → Option Nat) (lo : Lo) (hp : Hp) (w : World) (g' : G) (hp' : Hp) : Prop where
  mem : MemR E g' ν lo hp' w
  le : GLe g g'
  lf : g'.lf = g.lf
  next : hp'.next = hp.next
  lim : hp'.lim = hp.lim
  κ : ∀ b o v, g'.κ b o = some v → g.κ b o = some v ∨ Own g hp b o
  own : ∀ b o, Own g' hp' b o → Own g hp b o
  get : ∀ id bk, hget hp' id = some bk → ∃ b0, hget hp id = some b0 ∧ bk.sz = b0.sz ∧ bk.es = b0.es ∧ (bk.fr = false → b0.fr = false)
theorem Closed.refl {E : Ent} {g : G} {ν : Nat → Option Nat} {lo : Lo} {hp : Hp} {w : World} (m : MemR E g ν lo hp w) : Closed E g ν lo hp w g hp :=
  ⟨m, GLe.refl g, rfl, rfl, rfl, fun _ _ _ h => .inl h, fun _ _ h => h, fun _ bk h => ⟨bk, h, rfl, rfl, fun h => h⟩⟩
theorem Closed.trans {E : Ent} {g g1 g2 : G} {ν : Nat → Option Nat} {lo : Lo} {hp h1 h2 : Hp} {w : World} (a : Closed E g ν lo hp w g1 h1) (b : Closed E g1 ν lo h1 w g2 h2) :
    Closed E g ν lo hp w g2 h2 :=
  ⟨b.mem, a.le.trans b.le, b.lf.trans a.lf, b.next.trans a.next, b.lim.trans a.lim, fun x y v e => by
    rcases b.κ x y v e with e | e
    · exact a.κ x y v e
    · exact .inr (a.own x y e), fun x y e => a.own x y (b.own x y e), fun id bk h => by
      obtain ⟨b0, x, y, z, u⟩ := b.get id bk h
      obtain ⟨b1, x', y', z', u'⟩ := a.get id b0 x
      exact ⟨b1, x', y.trans y', z.trans z', fun q => u' (u q)⟩⟩
theorem Closed.freeze {E : Ent} {g : G} {ν : Nat → Option Nat} {lo : Lo} {hp : Hp} {w : World} (h : MemR E g ν lo hp w) {id : Nat} {r : Rg} {bk : Bk}
    (hl : g.lf id = .live r) (hb : hget hp id = some bk) (hlim : hp.lim ≤ id) :
    ∃ g', Closed E g ν lo hp w g' (freeze hp id) ∧
      ∀ (i j : Nat) (e : List V) (c : V), bk.es[i]? = some e → e[j]? = some c → ∃ cv, g'.κ r.b (r.base + i * r.sz + j) = some cv ∧ RepA g' c cv := by
  obtain ⟨bk0, e0, z0⟩ := h.hr.live id r hl
  rw [hb] at e0; cases e0
  have hfz : Ev.freeze hp id = hset hp id (some ⟨bk.sz, true, bk.es⟩) := by unfold Ev.freeze; rw [hb]
  have hgets := hget_hset hp id (some ⟨bk.sz, true, bk.es⟩)
  have hget' : ∀ j b1, hget (hset hp id (some ⟨bk.sz, true, bk.es⟩)) j = some b1 → ∃ b0, hget hp j = some b0 ∧ b1.sz = b0.sz ∧ b1.es = b0.es ∧ (b1.fr = false → b0.fr = false) := by
    intro j b1 x
    rw [hgets] at x
    by_cases e : j = id
    · simp only [e, if_true, Option.some.injEq] at x; subst x; exact ⟨bk, by rw [e]; exact hb, rfl, rfl, fun q => by simp at q⟩
    · simp only [e, if_false] at x; exact ⟨b1, x, rfl, rfl, fun q => q⟩
  cases hf : bk.fr with
  | false =>
    obtain ⟨m, le⟩ := h.freeze hl hb hf hlim
    rw [hfz]
    refine ⟨_, ⟨m, le, rfl, rfl, rfl, fun b o v x => ?_, fun b o x => ?_, hget'⟩, fun i j e c he hc => ?_⟩
    · by_cases e : b = r.b ∧ r.base ≤ o ∧ o < r.base + bk.es.length * r.sz
      · have hsub : bk.es.length * r.sz ≤ r.cap * r.sz := Nat.mul_le_mul_right _ z0.len
        exact .inr ⟨id, r, bk, o - r.base, hl, hb, hf, by omega, e.1, by omega⟩
      · simp only [fixed, e, if_false] at x; exact .inl x
    · obtain ⟨j, r1, b1, k, x1, x2, x3, x4⟩ := x
      rw [hgets] at x2
      by_cases e : j = id
      · simp only [e, if_true, Option.some.injEq] at x2; subst x2; simp at x3
      · simp only [e, if_false] at x2; exact ⟨j, r1, b1, k, x1, x2, x3, x4⟩
    · obtain ⟨kk, cv, a, rr⟩ := z0.cont i j e c he hc
      have hj := lt_of_get hc
      rw [z0.row e (List.mem_of_getElem? he)] at hj
      have hx : i * r.sz + j < bk.es.length * r.sz := by rw [z0.sz]; exact idx_lt (lt_of_get he) hj
      refine ⟨cv, ?_, rr.mono le⟩
      show (if r.b = r.b ∧ r.base ≤ r.base + i * r.sz + j ∧ r.base + i * r.sz + j < r.base + bk.es.length * r.sz then _ else _) = _
      rw [if_pos ⟨rfl, by omega, by omega⟩]; exact a
  | true =>
    have hsame : ∀ j, hget (Ev.freeze hp id) j = hget hp j := fun j => by
      rw [hfz, hgets]
      by_cases e : j = id
      · subst e; rw [hb]; simp only [if_true]; cases bk; simp only at hf; subst hf; rfl
      · simp [e]
    have hn : (Ev.freeze hp id).next = hp.next := by rw [hfz]; rfl
    have hll : (Ev.freeze hp id).lim = hp.lim := by rw [hfz]; rfl
    refine ⟨g, ⟨h.hpExt hn hll hsame, GLe.refl g, rfl, hn, hll, fun _ _ _ x => .inl x, fun b o x => (Own.ext hsame).1 x, fun j b1 x => by rw [hsame] at x; exact ⟨b1, x, rfl, rfl, fun q => q⟩⟩, fun i j e c he hc => ?_⟩
    obtain ⟨kk, cv, a, rr⟩ := z0.cont i j e c he hc
    obtain ⟨u, hu⟩ := z0.frz hf i j e c he hc
    have := h.hr.kap _ _ _ hu
    rw [a] at this; cases this
    exact ⟨cv, hu, rr⟩
theorem close_sound (E : Ent) (ν : Nat → Option Nat) (lo : Lo) (w : World) : ∀ n,
    (∀ t v hp x hp' g cv, closeC n t v hp = some (x, hp') → MemR E g ν lo hp w → RepA g v cv → ∃ g', Closed E g ν lo hp w g' hp' ∧ RepC g'.κ x cv) ∧
    (∀ ts vs hp xs hp' g (f : Nat → Value), closeCs n ts vs hp = some (xs, hp') → MemR E g ν lo hp w → (∀ (i : Nat) (v : V), vs[i]? = some v → RepA g v (f i)) →
      ∃ g', Closed E g ν lo hp w g' hp' ∧ xs.length = vs.length ∧ ∀ (i : Nat) (x : V), xs[i]? = some x → RepC g'.κ x (f i)) ∧
    (∀ ts es hp xs hp' g (f : Nat → Nat → Value), closeEs n ts es hp = some (xs, hp') → MemR E g ν lo hp w → (∀ (i j : Nat) (e : List V) (c : V), es[i]? = some e → e[j]? = some c → RepA g c (f i j)) →
      ∃ g', Closed E g ν lo hp w g' hp' ∧ xs.length = es.length ∧ ∀ (i : Nat) (x : List V), xs[i]? = some x → (∃ e, es[i]? = some e ∧ x.length = e.length) ∧ ∀ (j : Nat) (c : V), x[j]? = some c → RepC g'.κ c (f i j)) := by
  intro n
  induction n with
  | zero => exact ⟨fun _ _ _ _ _ _ _ h => by simp [closeC] at h, fun _ _ _ _ _ _ _ h => by simp [closeCs] at h, fun _ _ _ _ _ _ _ h => by simp [closeEs] at h⟩
  | succ n ih =>
    obtain ⟨ihC, ihCs, ihEs⟩ := ih
    refine ⟨fun t v hp x hp' g cv h m hr => ?_, fun ts vs hp xs hp' g f h m hr => ?_, fun ts es hp xs hp' g f h m hr => ?_⟩
    · cases t with
      | one =>
        simp only [closeC] at h
        split at h <;> first | (simp at h; done) | (simp only [Option.some.injEq, Prod.mk.injEq] at h; obtain ⟨rfl, rfl⟩ := h; cases hr; rename_i hr; exact ⟨g, Closed.refl m, hr⟩)
      | sl cs =>
        simp only [closeC] at h
        split at h
        · simp only [Option.some.injEq, Prod.mk.injEq] at h; obtain ⟨rfl, rfl⟩ := h
          cases hr; rename_i hr; cases hr
          exact ⟨g, Closed.refl m, .vs cs.length [] none 0 0 0 (fun _ _ => undef) (by simp) (by simp) (by simp) (by simp) (by simp)⟩
        · rename_i sz es
          cases hb : Nat.beq sz cs.length <;> simp only [hb, cond_true, cond_false] at h
          · cases h
          · simp only [Option.some.injEq, Prod.mk.injEq] at h; obtain ⟨rfl, rfl⟩ := h
            cases hr; rename_i hr
            exact ⟨g, Closed.refl m, hr⟩
        · rename_i id i len
          cases hg : hget hp id with
          | none => simp [hg] at h
          | some bk =>
            simp only [hg] at h
            have h1 : Nat.blt id hp.lim = false := by
              cases q : Nat.blt id hp.lim
              · rfl
              · simp only [q, cond_true] at h; cases h
            simp only [h1, cond_false] at h
            have h2 : Nat.beq bk.sz cs.length = true := by
              cases q : Nat.beq bk.sz cs.length
              · simp only [q, cond_false] at h; cases h
              · rfl
            simp only [h2, cond_true] at h
            have h3 : Nat.ble (i + len) bk.es.length = true := by
              cases q : Nat.ble (i + len) bk.es.length
              · simp only [q, cond_false] at h; cases h
              · rfl
            simp only [h3, cond_true] at h
            have hlim : hp.lim ≤ id := by
              rcases Nat.lt_or_ge id hp.lim with q | q
              · have : Nat.blt id hp.lim = true := by simpa [Nat.blt_eq] using q
                rw [this] at h1; cases h1
              · exact q
            have hlen : i + len ≤ bk.es.length := Nat.le_of_ble_eq_true h3
            obtain ⟨a, cap, rfl, h0, hx⟩ := hr.hs_inv
            · rcases hx with hx | ⟨r, hl, hx⟩
              · rw [m.hr.dead id hx] at hg; cases hg
              · obtain ⟨g1, c1, k1⟩ := Closed.freeze m hl hg hlim
                obtain ⟨bk0, e0, z0⟩ := m.hr.live id r hl
                rw [hg] at e0; cases e0
                cases hes : closeEs n cs ((bk.es.drop i).take len) (Ev.freeze hp id) with
                | none => simp [hes] at h
                | some p =>
                  obtain ⟨es', h'⟩ := p
                  simp only [hes, Option.some.injEq, Prod.mk.injEq] at h
                  obtain ⟨rfl, rfl⟩ := h
                  have hget' : ∀ (k : Nat) (e : List V), ((bk.es.drop i).take len)[k]? = some e → k < len ∧ bk.es[i + k]? = some e := by
                    intro k e he
                    have hk := lt_of_get he
                    rw [List.getElem?_take_of_lt (by simp at hk; omega), List.getElem?_drop] at he
                    exact ⟨by simp at hk; omega, he⟩
                  obtain ⟨g2, c2, hl2, k2⟩ := ihEs cs _ _ _ _ g1 (fun k j => (g1.κ r.b (r.base + (i + k) * r.sz + j)).getD undef) hes c1.mem (fun k j e c he hc => by
                    obtain ⟨_, he'⟩ := hget' k e he
                    obtain ⟨cv, a1, a2⟩ := k1 (i + k) j e c he' hc
                    simp only [a1, Option.getD_some]; exact a2)
                  refine ⟨g2, c1.trans c2, ?_⟩
                  have hl3 : es'.length = len := by rw [hl2]; simp; omega
                  have key := RepC.vs (κ := g2.κ) bk.sz es' a cap r.b (r.base + i * r.sz) (fun k j => (g1.κ r.b (r.base + (i + k) * r.sz + j)).getD undef)
                    (fun e he => by
                      obtain ⟨k, hk⟩ := List.getElem?_of_mem he
                      obtain ⟨⟨e', he', hl'⟩, _⟩ := k2 k e hk
                      rw [hl']; exact z0.row e' (List.mem_of_getElem? (hget' k e' he').2))
                    (fun hne => by
                      rcases hx with hx | ⟨hx, _⟩
                      · subst hx
                        have : es' = [] := List.eq_nil_of_length_eq_zero (by omega)
                        exact absurd this hne
                      · exact hx)
                    (by omega)
                    (fun k j e c he hc => by
                      obtain ⟨⟨e', he', hl'⟩, hrr⟩ := k2 k e he
                      have hj := lt_of_get hc
                      rw [hl'] at hj
                      obtain ⟨cv, a1, a2⟩ := k1 (i + k) j e' (e'[j]) (hget' k e' he').2 (by rw [List.getElem?_eq_getElem hj])
                      refine ⟨(hrr j c hc).keep, ?_⟩
                      have : r.base + i * r.sz + k * bk.sz + j = r.base + (i + k) * r.sz + j := by rw [← z0.sz, Nat.add_mul]; omega
                      rw [this]
                      have := c2.le.κ _ _ _ a1
                      rw [this, a1]; rfl)
                    (fun k j e c he hc => (k2 k e he).2 j c hc)
                  rw [hl3] at key
                  exact key
        · cases h
    · cases ts with
      | nil =>
        cases vs with
        | nil => simp only [closeCs, Option.some.injEq, Prod.mk.injEq] at h; obtain ⟨rfl, rfl⟩ := h; exact ⟨g, Closed.refl m, rfl, by simp⟩
        | cons => simp [closeCs] at h
      | cons t ts =>
        cases vs with
        | nil => simp [closeCs] at h
        | cons v vs =>
          simp only [closeCs] at h
          cases hc : closeC n t v hp with
          | none => simp [hc] at h
          | some p =>
            obtain ⟨x, h1⟩ := p
            simp only [hc] at h
            cases hcs : closeCs n ts vs h1 with
            | none => simp [hcs] at h
            | some q =>
              obtain ⟨xs', h2⟩ := q
              simp only [hcs, Option.some.injEq, Prod.mk.injEq] at h
              obtain ⟨rfl, rfl⟩ := h
              obtain ⟨g1, c1, r1⟩ := ihC t v hp x h1 g (f 0) hc m (hr 0 v rfl)
              obtain ⟨g2, c2, l2, r2⟩ := ihCs ts vs h1 xs' h2 g1 (fun i => f (i + 1)) hcs c1.mem (fun i u hu => (hr (i + 1) u (by simpa using hu)).mono c1.le)
              refine ⟨g2, c1.trans c2, by simp [l2], fun i u hu => ?_⟩
              cases i with
              | zero => simp at hu; subst hu; exact r1.mono c2.le.κ
              | succ i => exact r2 i u (by simpa using hu)
    · cases es with
      | nil => simp only [closeEs, Option.some.injEq, Prod.mk.injEq] at h; obtain ⟨rfl, rfl⟩ := h; exact ⟨g, Closed.refl m, rfl, by simp⟩
      | cons e es =>
        simp only [closeEs] at h
        cases hc : closeCs n ts e hp with
        | none => simp [hc] at h
        | some p =>
          obtain ⟨x, h1⟩ := p
          simp only [hc] at h
          cases hcs : closeEs n ts es h1 with
          | none => simp [hcs] at h
          | some q =>
            obtain ⟨xs', h2⟩ := q
            simp only [hcs, Option.some.injEq, Prod.mk.injEq] at h
            obtain ⟨rfl, rfl⟩ := h
            obtain ⟨g1, c1, l1, r1⟩ := ihCs ts e hp x h1 g (f 0) hc m (fun j c hj => hr 0 j e c rfl hj)
            obtain ⟨g2, c2, l2, r2⟩ := ihEs ts es h1 xs' h2 g1 (fun i => f (i + 1)) hcs c1.mem (fun i j u c hu hj => (hr (i + 1) j u c (by simpa using hu) hj).mono c1.le)
            refine ⟨g2, c1.trans c2, by simp [l2], fun i u hu => ?_⟩
            cases i with
            | zero => simp at hu; subst hu; exact ⟨⟨e, rfl, l1⟩, fun j c hj => (r1 j c hj).mono c2.le.κ⟩
            | succ i =>
              obtain ⟨⟨e', he', hl'⟩, hrr⟩ := r2 i u (by simpa using hu)
              exact ⟨⟨e', by simpa using he', hl'⟩, hrr⟩
end Ev
namespace Ev
variable [Glob]
open Go
structure StR (E : Ent) (ntm : Nat) (clr : List Nat) (g : G) (ν : Nat → Option Nat) (st : St) (a : Act) (w : World) : Prop where
  size : a.tmps.size = ntm
  defers : a.defers = []
  tm : ∀ t, RepT g ν (st.tm t) (a.tmps.getD t undef)
  lps : ∀ t d off, st.tm t = .lp d off → t = d ∨ hasN clr t = true
  mem : MemR E g ν st.lo st.hp w
theorem ofAtom_rep {κ : K} {v : Value} {x : V} (h : ofAtom v = some x) : RepC κ x v := by
  unfold ofAtom at h
  split at h <;> simp only [Option.some.injEq, reduceCtorEq] at h <;> subst h
  · exact .bo _
  · exact .it _ _
  · exact .fl _ _
  · exact .st _ _ rfl
  · exact .np
  · exact .ns
  · exact .nfn
  · exact .nf
  · exact .nm
theorem ofAtom_keep {v : Value} {x : V} (h : ofAtom v = some x) : x.keep = true := by
  unfold ofAtom at h
  split at h <;> simp only [Option.some.injEq, reduceCtorEq] at h <;> subst h <;> rfl
theorem allSome_len {α β : Type} {f : α → Option β} : ∀ {l : List α} {r : List β}, allSome f l = some r → r.length = l.length
  | [], r, h => by simp only [allSome, Option.some.injEq] at h; subst h; rfl
  | x :: l, r, h => by
    simp only [allSome] at h
    cases hx : f x with
    | none => simp [hx] at h
    | some y => cases hl : allSome f l with
      | none => simp [hx, hl] at h
      | some s => simp only [hx, hl, Option.some.injEq] at h; subst h; simp [allSome_len hl]
theorem allSome_get {α β : Type} {f : α → Option β} : ∀ {l : List α} {r : List β}, allSome f l = some r → ∀ (i : Nat) (y : β), r[i]? = some y → ∃ x, l[i]? = some x ∧ f x = some y
  | [], r, h, i, y, hy => by simp only [allSome, Option.some.injEq] at h; subst h; simp at hy
  | x :: l, r, h, i, y, hy => by
    simp only [allSome] at h
    cases hx : f x with
    | none => simp [hx] at h
    | some z => cases hl : allSome f l with
      | none => simp [hx, hl] at h
      | some s =>
        simp only [hx, hl, Option.some.injEq] at h; subst h
        cases i with
        | zero => simp only [List.getElem?_cons_zero, Option.some.injEq] at hy; subst hy; exact ⟨x, rfl, hx⟩
        | succ i => simpa using allSome_get hl i y (by simpa using hy)
theorem ofVal_rep {g : G} {v : Value} {x : V} (h : ofVal v = some x) : RepA g x v ∧ isLp x = false ∧ x.cells.all V.keep = true := by
  unfold ofVal at h
  split at h
  · rename_i cs
    cases hl : allSome ofAtom cs.toList with
    | none => simp [hl] at h
    | some l =>
      simp only [hl, Option.map_some, Option.some.injEq] at h; subst h
      have hk : ∀ c, c ∈ l → c.keep = true := fun c hc => by
        obtain ⟨i, hi⟩ := List.getElem?_of_mem hc
        obtain ⟨y, _, hy⟩ := allSome_get hl i c hi
        exact ofAtom_keep hy
      refine ⟨.ag l cs ?_ hk ?_, rfl, by simpa [V.cells] using hk⟩
      · have := allSome_len hl; simpa using this.symm
      · intro i c hc
        obtain ⟨y, hy, he⟩ := allSome_get hl i c hc
        have : cs.getD i undef = y := by
          simp only [Array.getElem?_toList] at hy
          simp [Array.getD_eq_getD_getElem?, hy]
        rw [this]; exact .c _ _ (ofAtom_rep he)
  · have hk := ofAtom_keep h
    have hr : RepA g x v := .c _ _ (ofAtom_rep h)
    refine ⟨hr, ?_, ?_⟩
    · cases x <;> simp_all [V.keep, isLp]
    · cases x <;> simp_all [V.keep, V.cells]
theorem cA_rep {g : G} {ν : Nat → Option Nat} {tm : Tm} {a : Act} {x : Operand} {xa : A} (h : cA x = some xa) (hgl : GlobOK g.κ) (ht : ∀ t, RepT g ν (tm t) (a.tmps.getD t undef)) :
    RepT g ν (get tm xa) (a.eval x) := by
  cases x with
  | tmp t => simp only [cA, Option.some.injEq] at h; subst h; exact ht t
  | const v =>
    simp only [cA] at h
    cases hv : ofVal v with
    | none => simp [hv] at h
    | some y => simp only [hv, Option.map_some, Option.some.injEq] at h; subst h; exact .ofA (ofVal_rep hv).1
  | global n =>
    simp only [cA, Option.some.injEq] at h
    subst h
    cases hv : Glob.gl n with
    | none => exact .ofA (.un _)
    | some cs => exact .ofA (hgl.rep hv)
  | func f => simp only [cA, Option.some.injEq] at h; subst h; exact .ofA (.fn f [] [] #[] #[] rfl rfl (by simp) (by simp) (by simp) (by simp))
theorem RepA.cells {g : G} {v : V} {cv : Value} (h : RepA g v cv) (k : v.cells.all V.keep = true) :
    cv.cells.size = v.cells.length ∧ (∀ c, c ∈ v.cells → c.keep = true) ∧ (∀ (j : Nat) (c : V), v.cells[j]? = some c → RepA g c (cv.cells.getD j undef)) := by
  have hk : ∀ c, c ∈ v.cells → c.keep = true := fun c hc => List.all_eq_true.1 k c hc
  by_cases hag : ∃ cs, v = .ag cs
  · obtain ⟨cs, rfl⟩ := hag
    obtain ⟨arr, rfl, h1, h2, h3⟩ := h.ag_inv
    exact ⟨h1, hk, h3⟩
  · have hc : v.cells = [v] := by cases v <;> first | rfl | exact absurd ⟨_, rfl⟩ hag
    rw [hc] at hk ⊢
    have ho := h.oneC (hk v (by simp))
    have hcc : cv.cells = #[cv] := by cases cv <;> first | rfl | simp [Ev.oneC] at ho
    rw [hcc]
    refine ⟨rfl, hk, fun j c hj => ?_⟩
    cases j with
    | zero => simp only [List.getElem?_cons_zero, Option.some.injEq] at hj; subst hj; exact h
    | succ j => simp at hj
def Out (call : Call) (L : Nat) (F : (V → St → D) → (V → St → D) → D) (v : V) (s : St) : Prop := ∀ k kp, run call L (F k kp) = run call L (k v s)
def Bad (call : Call) (L : Nat) (F : (V → St → D) → (V → St → D) → D) : Prop := ∀ k kp, run call L (F k kp) = .bad
inductive Fin (P : Program) (o : Oper) (a : Act) (w : World) : Value → World → Prop
  | value (cv : Value) (w' : World) (h : (execOp a.eval o).run P w = .ok (.value cv) w') : Fin P o a w cv w'
  | skip (w' : World) (h : (execOp a.eval o).run P w = .ok .skip w') : Fin P o a w undef w'
structure After (E : Ent) (clr : List Nat) (dst : Option Nat) (g : G) (ν : Nat → Option Nat) (st : St) (v : V) (s : St) (cv : Value) (w' : World) (g' : G) (ν' : Nat → Option Nat) : Prop where
  tmeq : s.tm = st.tm
  mem : MemR E g' ν' s.lo s.hp w'
  le : GLe g g'
  nu : ν' = ν ∨ ∃ d, dst = some d ∧ (∃ x, ν' = fun t => if t = d then some x else ν t) ∧ ∀ t, t ≠ d → ∀ off, st.tm t ≠ .lp d off
  val : RepT g' ν' v cv
  lp : ∀ d, dst = some d → ∀ e off, v = .lp e off → d = e ∨ hasN clr d = true
structure Env where
  P : Program
  E : Ent
  ntm : Nat
  clr : List Nat
  dst : Option Nat
  g : G
  ν : Nat → Option Nat
  st : St
  a : Act
  w : World
  o : Oper
  call : Call
  L : Nat
def Res (e : Env) (F : (V → St → D) → (V → St → D) → D) : Prop :=
  Bad e.call e.L F ∨ ∃ v s cv w' g' ν', Out e.call e.L F v s ∧ Fin e.P e.o e.a e.w cv w' ∧ After e.E e.clr e.dst e.g e.ν e.st v s cv w' g' ν'
def Env.St (e : Env) : Prop := StR e.E e.ntm e.clr e.g e.ν e.st e.a e.w
section
variable {e : Env}
theorem Res.bad {F : (V → St → D) → (V → St → D) → D} (h : ∀ k kp, F k kp = .bad) : Res e F := .inl fun k kp => by rw [h]; rfl
theorem Res.eq {F F' : (V → St → D) → (V → St → D) → D} (h : ∀ k kp, F k kp = F' k kp) (r : Res e F') : Res e F := by
  have : F = F' := by funext k kp; exact h k kp
  rw [this]; exact r
theorem Res.runEq {F F' : (V → St → D) → (V → St → D) → D} (h : ∀ k kp, run e.call e.L (F k kp) = run e.call e.L (F' k kp)) (r : Res e F') : Res e F := by
  rcases r with r | ⟨v, s, cv, w', g', ν', r, r1, r2⟩
  · exact .inl fun k kp => (h k kp).trans (r k kp)
  · exact .inr ⟨v, s, cv, w', g', ν', fun k kp => (h k kp).trans (r k kp), r1, r2⟩
theorem Res.chk {b : Bool} {F : (V → St → D) → (V → St → D) → D} (h : b = true → Res e F) : Res e (fun k kp => .chk b (F k kp)) := by
  cases b with
  | false => exact .inl fun k kp => by simp [run]
  | true => exact .runEq (fun k kp => by simp [run]) (h rfl)
theorem Res.br {b : Bool} {F G : (V → St → D) → (V → St → D) → D} (h : b = true → Res e F) (h' : b = false → Res e G) : Res e (fun k kp => .br b (F k kp) (G k kp)) := by
  cases b with
  | false => exact .runEq (fun k kp => by simp [run]) (h' rfl)
  | true => exact .runEq (fun k kp => by simp [run]) (h rfl)
theorem Res.bif {b : Bool} {F G : (V → St → D) → (V → St → D) → D} (h : b = true → Res e F) (h' : b = false → Res e G) : Res e (fun k kp => bif b then F k kp else G k kp) := by
  cases b with
  | false => exact h' rfl
  | true => exact h rfl
theorem Res.oneD {α : Type} {o : Option α} {f : α → (V → St → D) → (V → St → D) → D} (h : ∀ v, o = some v → Res e (f v)) : Res e (fun k kp => Ev.oneD o fun v => f v k kp) := by
  cases o with
  | none => exact .bad fun k kp => rfl
  | some v => exact h v rfl
theorem Res.notLp {v : V} {f : V → (V → St → D) → (V → St → D) → D} (h : isLp v = false → Res e (f v)) : Res e (fun k kp => notLpD v fun v => f v k kp) := by
  cases v <;> first | exact h rfl | exact .bad fun k kp => rfl
theorem Res.nat {v : V} {f : Nat → (V → St → D) → (V → St → D) → D} (h : ∀ k n, v = .it k n → 0 ≤ n → Res e (f n.toNat)) : Res e (fun k kp => natD v fun v => f v k kp) := by
  cases v with
  | it kk n =>
    refine .chk fun hb => h kk n rfl ?_
    cases n with
    | ofNat n => exact Int.natCast_nonneg n
    | negSucc n => simp [ilt] at hb
  | _ => exact .bad fun k kp => rfl
theorem Res.cut {n off : Nat} {cs : List V} {f : List V → (V → St → D) → (V → St → D) → D} (h : off + n ≤ cs.length → Res e (f ((cs.drop off).take n))) :
    Res e (fun k kp => cutD n off cs fun v => f v k kp) := .chk fun hb => h (Nat.le_of_ble_eq_true hb)
theorem Res.out {v : V} {s : St} {cv : Value} {w' : World} {g' : G} {ν' : Nat → Option Nat} (hf : Fin e.P e.o e.a e.w cv w') (ha : After e.E e.clr e.dst e.g e.ν e.st v s cv w' g' ν') :
    Res e (fun k _ => k v s) := .inr ⟨v, s, cv, w', g', ν', fun _ _ => rfl, hf, ha⟩
theorem Res.val (h : e.St) {v : V} {cv : Value} (hf : (execOp e.a.eval e.o).run e.P e.w = .ok (.value cv) e.w) (hr : RepA e.g v cv) (hl : isLp v = false) :
    Res e (fun k _ => k v e.st) :=
  .out (.value cv e.w hf) ⟨rfl, h.mem, GLe.refl _, .inl rfl, .ofA hr, fun _ _ d off x => by subst x; simp [isLp] at hl⟩
theorem Env.St.rep (h : e.St) {x : Operand} {xa : A} (hx : cA x = some xa) : RepT e.g e.ν (get e.st.tm xa) (e.a.eval x) := cA_rep hx h.mem.glob h.tm
end
end Ev