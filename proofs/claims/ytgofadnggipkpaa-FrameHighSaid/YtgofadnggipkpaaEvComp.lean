import Derived.Test.YtgofadnggipkpaaEvCore
import GoSem.Core.View
import GoSem.Core.Region
import GoSem.Op.Equal
import GoSem.Extern.Table
namespace Ev
open Go

inductive I where
  | mov (x : A)
  | pick (c a b : A)
  | alc (z : List V)
  | alh (z : List V)
  | box (x : A)
  | bxh (x : A)
  | bld (z : List V) (ps : List (Nat × Nat × A))
  | bsl (sz : Nat) (es : List (List V)) (ps : List (Nat × A))
  | bsv (ts : List Ty) (sz : Nat) (es : List (List V)) (ps : List (Nat × A))
  | ld (n : Nat) (g : Bool) (a : A)
  | sto (n : Nat) (a x : A)
  | nck (x : A)
  | bin (q : Qk) (op : BinOp) (x y : A)
  | un (op : UnOp) (x : A)
  | cnv (c : Cv) (x : A)
  | mki (t : TypeId) (x : A)
  | mkf (f : Nat) (first cap : List A)
  | mks (sz bytes : Nat) (z : List V) (l c : A)
  | slc (s : Bool) (sz : Nat) (x : A) (lo hi : Option A)
  | fad (off : Nat) (a : A)
  | fld (off n : Nat) (g : Bool) (x : A)
  | ias (sz : Nat) (x i : A)
  | iaa (len sz : Nat) (a i : A)
  | ixs (x i : A)
  | ixa (len sz : Nat) (g : Bool) (x i : A)
  | ext (x : A) (k : Nat)
  | call (own : Bool) (md : Md) (f : Nat) (xs : List A)
  | calv (fs : List Nat) (f : A) (xs : List A)
  | len (s : Bool) (x : A)
  | app (sz bytes : Nat) (x y : A)
  | mnx (mx : Bool) (x y : A)
  | apz (x n : A)
  | cpy (sz : Nat) (x y : A)
  | mrk (x : A)
  | ixb (x y : A)
  | mmk
  | mlk (ok : Bool) (z : V) (x i : A)
  | mup (x i v : A)
  | pan (x : A)

def I.den : I → Ins
  | .mov x => iMov x
  | .pick a b c => iPick a b c
  | .alc z => iAlc z
  | .alh z => iAlh z
  | .box x => iBox x
  | .bxh x => iBxh x
  | .bld z ps => iBld z ps
  | .bsl s es ps => iBsl s es ps
  | .bsv ts s es ps => iBsv ts s es ps
  | .ld n g a => iLd n g a
  | .sto n a x => iSto n a x
  | .nck x => iNck x
  | .bin q op x y => iBin q op x y
  | .un op x => iUn op x
  | .cnv c x => iCnv c x
  | .mki t x => iMki t x
  | .mkf f a b => iMkf f a b
  | .mks s b z l c => iMks s b z l c
  | .slc b s x lo hi => iSlc b s x lo hi
  | .fad o a => iFad o a
  | .fld o n g x => iFld o n g x
  | .ias s x i => iIas s x i
  | .iaa n s a i => iIaa n s a i
  | .ixs x i => iIxs x i
  | .ixa n s g x i => iIxa n s g x i
  | .ext x k => iExt x k
  | .call o _ f xs => iCall o f xs
  | .calv fs f xs => iClv fs f xs
  | .len s x => iLen s x
  | .app s b x y => iApp s b x y
  | .mnx m x y => iMnx m x y
  | .apz x n => iApz x n
  | .cpy s x y => iCpy s x y
  | .mrk x => iMrk x
  | .ixb x y => iIxb x y
  | .mmk => iMmk
  | .mlk o z x i => iMlk o z x i
  | .mup x i v => iMup x i v
  | .pan x => iPan x

structure DOp where
  dst : Option Nat
  gd : Option (Nat × Bool)
  us : List Nat
  ins : I

def DOp.den (o : DOp) : Op := ⟨o.dst, o.us, o.ins.den⟩

/-- operations under one guard, one behind the other -/
structure DGr where
  gd : Option (Nat × Bool)
  ops : List DOp

def DGr.den (g : DGr) : Gr := ⟨g.gd, g.ops.map DOp.den⟩

def sameG : Option (Nat × Bool) → Option (Nat × Bool) → Bool
  | none, none => true
  | some (a, x), some (b, y) => Nat.beq a b && (x == y)
  | _, _ => false

def group : List DOp → List DGr
  | [] => []
  | o :: r => match group r with
    | g :: s => bif sameG o.gd g.gd then ⟨g.gd, o :: g.ops⟩ :: s else ⟨o.gd, [o]⟩ :: g :: s
    | [] => [⟨o.gd, [o]⟩]

/-- each operation by itself -/
def alone (l : List DOp) : List DGr := l.map fun o => ⟨o.gd, [o]⟩

inductive C where
  | skip
  | reg (draw : Bool) (ops : List DOp) (clr : List Nat)
  | seq (a b : C)
  | cond (c : A) (x y : C)
  | blk (id : Nat) (c : C)
  | loop (keep drop : List Nat) (c : C)
  | exit (id : Nat)
  | ret

def C.den : C → Sh
  | .skip => cSkip
  | .reg draw ops clr => cReg draw ((bif draw then alone ops else group ops).map DGr.den) clr
  | .seq a b => cSeq a.den b.den
  | .cond c x y => cIf c x.den y.den
  | .blk id c => cBlk id c.den
  | .loop k d c => cLoop k d c.den
  | .exit id => cExit id
  | .ret => cRet

structure DFn where
  ps : List PT
  rs : List PT
  md : Md
  res : List Rv
  body : C

def DFn.den (f : DFn) : Fn := ⟨f.ps, f.rs, f.md, f.res, f.body.den⟩

def ofAtom : Value → Option V
  | .bool b => some (.bo b)
  | .int k n => some (.it k n)
  | .float k b => some (.fl k b)
  | .string s => some (.st (s.data.toList.map UInt8.toNat))
  | .pointer none => some .np
  | .slice none 0 0 => some .ns
  | .nilFunc => some .nfn
  | .nilIface => some .nf
  | .map none => some .nm
  | _ => none

def ofVal : Value → Option V
  | .agg cs => (allSome ofAtom cs.toList).map .ag
  | v => ofAtom v

def cA : Operand → Option A
  | .tmp t => some (.t t)
  | .const v => (ofVal v).map .k
  | .global _ => none
  | .func f => some (.k (.fn f [] []))

/-- a part of a struct, of an array, of a slice's literal -/
def partS (pl : List (Nat × Nat)) (q : Nat × Operand) : Option (Nat × Nat × A) :=
  match pl[q.1]?, cA q.2 with
  | some (o, n), some x => some (o, n, x)
  | _, _ => none
def partA (n : Nat) (q : Nat × Operand) : Option (Nat × Nat × A) := (cA q.2).map fun x => (q.1 * n, n, x)
def partE (q : Nat × Operand) : Option (Nat × A) := (cA q.2).map fun x => (q.1, x)

def notRw : Md → Bool
  | .rw => false
  | _ => true

/-- how a function is read: its boxes that stay; how it runs, and how each function runs; slots whose literals are own blocks, whose calls' results are; by a region's number its order, the passing slots; by a loop's first region what is kept and dropped at its head -/
structure Pol where
  loc : List Nat
  md : Md
  mds : Nat → Md
  heap : List Nat
  own : List Nat
  ord : List (Nat × List Nat)
  clr : List (Nat × List Nat)
  mask : List (Nat × List Nat × List Nat)
  fns : List Nat := []

def assoc {α : Type} : List (Nat × α) → Nat → Option α
  | [], _ => none
  | (k, v) :: r, n => bif Nat.beq k n then some v else assoc r n

section
variable (P : Program)

def size (t : TypeId) : Option Nat := (P.info? t).map (·.size)
def bytesOf (t : TypeId) : Option Nat := (P.info? t).map (·.bytes)
def isAgg (t : TypeId) : Option Bool :=
  match P.underlying t with
  | some (.struct _) | some (.array ..) => some true
  | some _ => some false
  | none => none
def zeroOf (t : TypeId) : Option (List V) := (P.info? t).bind fun i => i.zero.bind fun z => (ofVal z).map V.cells

def field (s : TypeId) (i : Nat) : Option Field :=
  match P.underlying s with
  | some (.struct fs) => fs[i]?
  | _ => none

def elemOf (t : TypeId) : Option TypeId :=
  match P.underlying t with
  | some (.slice e) => some e
  | _ => none

/-- a type's cells -/
def tyCells : Nat → TypeId → Option (List Ty)
  | 0, _ => none
  | n + 1, t =>
    match P.underlying t with
    | some (.struct fs) => (allSome (fun f => tyCells n f.type) (fs.toList : List Field)).map fun l => l.flatten
    | some (.array k e) => (tyCells n e).map fun l => (List.replicate k l).flatten
    | some (.slice e) => (tyCells n e).map fun l => [.sl l]
    | some _ => some [.one]
    | none => none

def ptOf (t : TypeId) : Option PT :=
  match isAgg P t, tyCells P 20 t with
  | some true, some l => some (.g l)
  | some false, some [x] => some (.c x)
  | _, _ => none

/-- fields of one cell each, that are numbers (0), strings (1), truth values (2) -/
def flatS : List Field → Option (List Nat)
  | [] => some []
  | f :: r => match P.underlying f.type, flatS r with
    | some d, some ks => if f.name = "_" then none else match d with
      | .int _ => some (0 :: ks)
      | .string => some (1 :: ks)
      | .bool => some (2 :: ks)
      | _ => none
    | _, _ => none

/-- do fields lie one behind the other? -/
def inRow : Nat → List Field → Bool
  | _, [] => true
  | n, f :: r => Nat.beq f.offset n && inRow (n + 1) r

/-- how values of a type are compared -/
def qkOf (t : TypeId) : Option Qk :=
  match P.underlying t with
  | some (.pointer e) => match P.info? e with
    | some i => if i.size = 0 then none else some .ptr
    | none => none
  | some .bool => some .bo
  | some (.slice _) => some .sl
  | some (.int _) | some .string => some .no
  | some (.struct fs) => match flatS P fs.toList with
    | some ks => if P.stoodInHeld t || P.eqGuardType P.depth t || !inRow 0 fs.toList then none else some (.ag ks)
    | none => none
  | _ => none

/-- is it a type of bytes? -/
def isByte (e : TypeId) : Bool :=
  match P.underlying e with
  | some (.int .u8) => true
  | _ => false

/-- the one function without a body that is known: where a byte first stands in a string -/
def isIxb (f : FuncId) : Bool :=
  match P.funcs[f]? with
  | some fn => match fn.body with
    | none => fn.name == "internal/bytealg.IndexByteString" && (Extern.findNext fn).isNone
    | some _ => false
  | none => false
/-- maps by strings -/
def mapOk (t : TypeId) : Bool :=
  match P.underlying t with
  | some (.map k _) => match P.underlying k with
    | some .string => true
    | _ => false
  | _ => false
/-- a type's zero, as one value -/
def zeroV (t : TypeId) : Option V := (P.info? t).bind fun i => i.zero.bind ofVal


/-- a byte's zero -/
def isZ : Option Value → Bool
  | some (.int .u8 n) => n == 0
  | _ => false

def cConv (hp : Bool) (s d : TypeId) : Option Cv :=
  match P.underlying s, P.underlying d with
  | some (.int _), some (.int k) => some (.int k)
  | some .string, some .string => some .s2s
  | some .string, some (.slice e) => if isByte P e then some (if hp then .s2b else .s2v) else none
  | some (.slice e), some .string => if isByte P e then some .b2s else none
  | _, _ => none

def cIns (pol : Pol) (o : Oper) : Option I :=
  match o.op with
  | .move x | .assign x => (cA x).map .mov
  | .pick c a b => match cA c, cA a, cA b with
    | some c, some a, some b => some (.pick c a b)
    | _, _, _ => none
  | .alloc e => match zeroOf P e, size P e, o.dst with
    | some z, some s, some d => if z.length = s then some (if hasN pol.loc d then .alc z else .alh z) else none
    | _, _, _ => none
  | .box e x => match o.dst, cA x, size P e with
    | some d, some x, some _ => some (if hasN pol.loc d then .box x else .bxh x)
    | _, _, _ => none
  | .build t ps =>
    match zeroOf P t, size P t, P.underlying t with
    | some z, some s, some (.struct fs) => match fs.toList.mapM (fun f => (P.info? f.type).map fun i => (f.offset, i.size)) with
      | some pl => if z.length = s then
        (allSome (partS pl) ps.toList).map (.bld z) else none
      | none => none
    | some z, some s, some (.array _ e) => if z.length = s then match size P e with
      | some n => (allSome (partA n) ps.toList).map (.bld z)
      | none => none else none
    | _, _, _ => none
  | .buildSlice t n ps => match elemOf P t with
    | some e => match size P e, zeroOf P e, allSome partE ps.toList, tyCells P 20 e, o.dst with
      | some s, some z, some ps, some ts, some d => if n * s ≤ 2 ^ 20 ∧ 0 < s ∧ z.length = s ∧ ts.length = s then
          some (if hasN pol.heap d then .bsl s (List.replicate n z) ps else .bsv ts s (List.replicate n z) ps) else none
      | _, _, _, _, _ => none
    | none => none
  | .load t a => match size P t, isAgg P t, cA a with
    | some n, some g, some a => some (.ld n g a)
    | _, _, _ => none
  | .store t a x => match size P t, cA a, cA x with
    | some n, some a, some x => some (.sto n a x)
    | _, _, _ => none
  | .nilCheck x => (cA x).map .nck
  | .binOp op t x y _ => match cA x, cA y with
    | some x, some y => if isEq op then (qkOf P t).map fun q => .bin q op x y else some (.bin .no op x y)
    | _, _ => none
  | .unOp op _ x => (cA x).map (.un op)
  | .convert s d x => match o.dst with
    | some t => match cConv P (hasN pol.heap t) s d, cA x with
      | some c, some x => some (.cnv c x)
      | none, some x => if s = d then match P.underlying d with
        | some (.slice e) => if isByte P e then some (.mrk x) else none
        | _ => none else none
      | _, _ => none
    | none => none
  | .makeInterface t x => match P.underlying t, cA x with
    | some (.interface _), _ => none
    | some _, some x => some (.mki t x)
    | _, _ => none
  | .makeFunc (.func f) first cap => match allSome cA first.toList, allSome cA cap.toList with
    | some a, some b => some (.mkf f a b)
    | _, _ => none
  | .makeSlice t l c => match elemOf P t with
    | some e => match size P e, zeroOf P e, bytesOf P e, cA l, cA c with
      | some s, some z, some b, some l, some c => if 0 < s ∧ z.length = s then some (.mks s b z l c) else none
      | _, _, _, _, _ => none
    | none => none
  | .slice t x lo hi none => match cA x, (match lo with | none => some none | some a => (cA a).map some : Option (Option A)), (match hi with | none => some none | some a => (cA a).map some : Option (Option A)) with
    | some x, some lo, some hi => match P.underlying t with
      | some .string => some (.slc true 0 x lo hi)
      | some (.slice e) => (size P e).map fun s => .slc false s x lo hi
      | _ => none
    | _, _, _ => none
  | .fieldAddr s a i => match field P s i, cA a with
    | some f, some a => match size P f.type with
      | some n => if n = 0 then none else some (.fad f.offset a)
      | none => none
    | _, _ => none
  | .field s x i => match field P s i, cA x with
    | some f, some x => match size P f.type, isAgg P f.type with
      | some n, some g => some (.fld f.offset n g x)
      | _, _ => none
    | _, _ => none
  | .indexAddr t x i => match P.underlying t, cA x, cA i with
    | some (.slice e), some x, some i => (size P e).map fun s => .ias s x i
    | some (.array n e), some x, some i => (size P e).map fun s => .iaa n s x i
    | _, _, _ => none
  | .index t x i => match P.underlying t, cA x, cA i with
    | some .string, some x, some i => some (.ixs x i)
    | some (.array n e), some x, some i => match size P e, isAgg P e with
      | some s, some g => some (.ixa n s g x i)
      | _, _ => none
    | _, _, _ => none
  | .extract x k => (cA x).map fun x => .ext x k
  | .panic x => (cA x).map .pan
  | .makeMap t none => if mapOk P t then some .mmk else none
  | .lookup t x i ok => match P.underlying t, cA x, cA i with
    | some (.map _ e), some x, some i => if mapOk P t then match zeroV P e with
      | some z => some (.mlk ok z x i)
      | none => none else none
    | _, _, _ => none
  | .mapUpdate t x i v => match cA x, cA i, cA v with
    | some x, some i, some v => if mapOk P t then some (.mup x i v) else none
    | _, _, _ => none
  | .call c =>
    match c.callee, allSome cA c.args.toList with
    | .value (.func f), some xs => if isIxb P f then match xs with
      | [x, y] => some (.ixb x y)
      | _ => none else some (.call (match o.dst with | some d => hasN pol.own d | none => false) (pol.mds f) f xs)
    | .value f, some xs => (cA f).map fun f => .calv (bif pol.fns.all (fun g => notRw (pol.mds g)) then pol.fns else []) f xs
    | .builtin b, some xs =>
      match b, xs with
      | .len, [x] =>
        match (c.argTypes[0]?).bind P.underlying with
        | some (.array n _) => some (.mov (.k (i64 (.ofNat n))))
        | some (.pointer a) => match P.underlying a with
          | some (.array n _) => some (.mov (.k (i64 (.ofNat n))))
          | _ => none
        | some .string => some (.len true x)
        | some (.slice _) => some (.len false x)
        | _ => none
      | .append, [x, y] => match c.argTypes.toList with
        | [t, tx] => match P.underlying t, P.underlying tx with
          | some (.slice e), some u => match size P e, bytesOf P e, zeroOf P e with
            | some s, some b, some z => if 0 < s ∧ 0 < b ∧ z.length = s then match u with
              | .slice _ | .string => some (.app s b x y)
              | .int _ => if isByte P e ∧ s = 1 ∧ b = 1 ∧ isZ ((P.info? e).bind (·.zero)) = true then some (.apz x y) else none
              | _ => none else none
            | _, _, _ => none
          | _, _ => none
        | _ => none
      | .copy, [x, y] => match c.argTypes.toList with
        | [t, tx] => match P.underlying t, P.underlying tx with
          | some (.slice e), some u => match size P e with
            | some s => if 0 < s then match u with
              | .slice _ | .string => some (.cpy s x y)
              | _ => none else none
            | none => none
          | _, _ => none
        | _ => none
      | .min, [x, y] => some (.mnx false x y)
      | .max, [x, y] => some (.mnx true x y)
      | _, _ => none
    | _, _ => none
  | _ => none

inductive Cl where
  | p | r | l | s | a | w | c | x

/-- what an instruction does to the state: nothing, reading nothing · reads it · makes a box · stores · makes an object · appends, copies · calls that change nothing of what is there · calls -/
def I.cl : I → Cl
  | .ixb .. | .mov _ | .pick .. | .bin .. | .bld .. | .bsv .. | .un .. | .mki .. | .mkf .. | .fad .. | .fld .. | .iaa .. | .ixs .. | .ixa .. | .ext .. | .len .. | .mnx .. | .nck _ => .p
  | .cnv c _ => match c with
    | .b2s => .r
    | .s2b => .a
    | _ => .p
  | .ld .. | .ias .. | .slc .. | .mlk .. => .r
  | .alc _ | .box _ => .l
  | .sto .. => .s
  | .alh _ | .bxh _ | .bsl .. | .mks .. | .mrk _ | .mmk => .a
  | .app .. | .apz .. | .cpy .. | .mup .. => .w
  | .call _ md .. => match md with
    | .rw => .x
    | _ => .c
  | .calv fs .. => match fs with
    | [] => .x
    | _ => .c
  | .pan _ => .x

def slotsA : A → List Nat
  | .t n => [n]
  | .k _ => []
def slotsO : Option A → List Nat
  | some a => slotsA a
  | none => []

/-- the slots that an instruction reads -/
def I.sl : I → List Nat
  | .mov x | .box x | .bxh x | .ld _ _ x | .nck x | .un _ x | .cnv _ x | .mki _ x | .fad _ x | .fld _ _ _ x | .ext x _ | .len _ x | .pan x | .mrk x => slotsA x
  | .pick c a b => slotsA c ++ (slotsA a ++ slotsA b)
  | .alc _ | .alh _ | .mmk => []
  | .mlk _ _ x i => slotsA x ++ slotsA i
  | .mup x i v => slotsA x ++ (slotsA i ++ slotsA v)
  | .bld _ ps => ps.flatMap fun q => slotsA q.2.2
  | .bsl _ _ ps | .bsv _ _ _ ps => ps.flatMap fun q => slotsA q.2
  | .sto _ a x => slotsA a ++ slotsA x
  | .ixb x y | .bin _ _ x y | .mks _ _ _ x y | .ias _ x y | .iaa _ _ x y | .ixs x y | .ixa _ _ _ x y | .app _ _ x y | .mnx _ x y | .apz x y | .cpy _ x y => slotsA x ++ slotsA y
  | .mkf _ a b => a.flatMap slotsA ++ b.flatMap slotsA
  | .slc _ _ x lo hi => slotsA x ++ (slotsO lo ++ slotsO hi)
  | .call _ _ _ xs => xs.flatMap slotsA
  | .calv _ f xs => slotsA f ++ xs.flatMap slotsA

/-- the slots by which an instruction reads the state -/
def I.rd : I → List Nat
  | .ld _ _ a => slotsA a
  | .ias _ x _ => slotsA x
  | .slc _ _ x .. => slotsA x
  | .cnv _ x => slotsA x
  | .mlk _ _ x _ => slotsA x
  | _ => []

/-- may i, that is taken first, come up behind j? -/
def apart (i j : I) : Bool :=
  match i.cl, j.cl with
  | .p, _ => true
  | .r, .x => false
  | .r, _ => true
  | _, _ => false

def cGd (ops : Array Oper) : Option (Nat × Bool) → Option (Option (Nat × Bool))
  | none => some none
  | some (j, w) => ((ops[j]?).bind (·.dst)).map fun d => some (d, w)

def dIn (d : Option Nat) (l : List Nat) : Bool := match d with
  | some d => hasN l d
  | none => false
def sameD : Option Nat → Option Nat → Bool
  | some a, some b => Nat.beq a b
  | _, _ => false

def lessN (ntm : Nat) : Option Nat → Bool
  | none => true
  | some d => Nat.blt d ntm

/-- an operation of a region, ahead of its 'us' -/
def cOp0 (pol : Pol) (ntm : Nat) (ops : Array Oper) (o : Oper) : Option DOp :=
  match cGd ops o.guard, cIns P pol o with
  | some g, some i => if lessN ntm o.dst && !sameD o.dst (g.map (·.1)) then some ⟨o.dst, g, [], i⟩ else none
  | _, _ => none

/-- are i and j without an order? -/
def loose (b : Array Nat) (i j : Nat) : Bool := !(b.getD (max i j) 0).testBit (min i j)

/-- the slots with addresses that operations beside number i read by, or store by; the boxes made beside it -/
def usOf (b : Array Nat) (ds : Array DOp) (clr : List Nat) (i : Nat) : I → List Nat
  | .alc _ | .box _ => clr ++ (List.range ds.size).flatMap fun j => match ds[j]? with
      | some o => if j != i && loose b i j then o.ins.rd else []
      | none => []
  | .sto .. => (List.range ds.size).flatMap fun j => match ds[j]? with
      | some o => if j != i && loose b i j then o.ins.rd ++ (match o.ins.cl, o.dst with | .l, some d => [d] | _, _ => []) else []
      | none => []
  | .app .. | .apz .. | .cpy .. | .mup .. => (List.range ds.size).flatMap fun j => match ds[j]? with
      | some o => if j != i && loose b i j then o.ins.rd else []
      | none => []
  | _ => []

/-- is an order one that the region lets? -/
def orderOk (ops : Array Oper) (p : List Nat) : Bool :=
  Nat.beq p.length ops.size && (List.range ops.size).all (fun i => hasN p i) &&
  (p.zipIdx).all fun (i, k) => match ops[i]? with
    | some o => !hasN (p.take k) i && o.after.all fun e => !Region.binds .any e || hasN (p.take k) e.on
    | none => false

def DOp.gs (o : DOp) : List Nat := match o.gd with
  | some (t, _) => [t]
  | none => []

/-- y writes no slot that x looks at or writes -/
def leaves (x y : DOp) : Bool := !dIn y.dst (x.ins.sl ++ x.gs) && !sameD x.dst y.dst

/-- x, that is taken first, beside y, where they have no order: neither minds the other, and x may come up behind y -/
def pairOk (x y : DOp) : Bool := leaves x y && !dIn x.dst (y.ins.sl ++ y.gs) && apart x.ins y.ins

/-- may x be owed? -/
def early (ds : Array DOp) (done : List Nat) (x : DOp) : Bool :=
  done.all fun j => match ds[j]? with
    | some z => leaves z x
    | none => false

/-- the operands by which the state is read -/
def I.rdA : I → List A
  | .ld _ _ a => [a]
  | .ias _ x _ => [x]
  | .slc _ _ x .. => [x]
  | .cnv _ x => [x]
  | .mlk _ _ x _ => [x]
  | _ => []

def constOk : A → Bool
  | .t _ => true
  | .k v => match v with
    | .lp .. | .pt .. | .hs .. | .mp _ => false
    | _ => true

/-- one that is owed reads no slot that it writes -/
def ownOk (x : DOp) : Bool := !dIn x.dst (x.ins.sl ++ x.gs) && x.ins.rdA.all constOk

def drawOk (b : Array Nat) (ds : Array DOp) : List Nat → List Nat → Bool
  | _, [] => true
  | done, i :: r => r.all (fun j => !loose b i j || (match ds[i]?, ds[j]? with | some x, some y => pairOk x y && (early ds done x && ownOk x) | _, _ => false)) && drawOk b ds (i :: done) r

def cReg1 (pol : Pol) (ntm id : Nat) (ops : Array Oper) (draw : Bool) : Option C :=
  match allSome (cOp0 P pol ntm ops) ops.toList with
  | none => none
  | some l =>
    let clr := (assoc pol.clr id).getD []
    let ds := l.toArray
    let b := Region.before ops
    let us (i : Nat) (o : DOp) : DOp := ⟨o.dst, o.gd, (if draw then usOf b ds clr i o.ins else match o.ins with | .alc _ | .box _ => clr | _ => []), o.ins⟩
    if draw then
      let p := (assoc pol.ord id).getD (List.range ops.size)
      if orderOk ops p && drawOk b ds [] p then
        (allSome (fun i => (ds[i]?).map (us i)) p).map fun l => .reg true l clr
      else none
    else some (.reg false (l.zipIdx.map fun (o, i) => us i o) clr)

def firstRegion : Code → Option Nat
  | .region id _ _ => some id
  | .seq a b => firstRegion a <|> firstRegion b
  | .cond _ a b => firstRegion a <|> firstRegion b
  | .block _ c | .loop c | .scope c => firstRegion c
  | _ => none

def cC (pol : Pol) (ntm : Nat) : Code → Option C
  | .skip => some .skip
  | .region id ops draw => cReg1 P pol ntm id ops draw
  | .seq a b => match cC pol ntm a, cC pol ntm b with
    | some x, some y => some (.seq x y)
    | _, _ => none
  | .cond c a b => match cA c, cC pol ntm a, cC pol ntm b with
    | some c, some x, some y => some (.cond c x y)
    | _, _, _ => none
  | .block id c => (cC pol ntm c).map (.blk id)
  | .loop c => match firstRegion c, cC pol ntm c with
    | some r, some x => (assoc pol.mask r).map fun (k, d) => .loop k d x
    | _, _ => none
  | .scope c => cC pol ntm c
  | .exit id => some (.exit id)
  | .ret => some .ret
  | _ => none

def cRv : ResultVar → Option Rv
  | .tmp t => some (.tmp t)
  | .cell t ty => match size P ty, isAgg P ty with
    | some n, some g => some (.cell t n g)
    | _, _ => none

def cFn (pol : Pol) (fn : Func) : Option DFn :=
  match fn.body, allSome (ptOf P) fn.params.toList, allSome (ptOf P) fn.resultTypes.toList, allSome (cRv P) fn.results.toList with
  | some b, some ps, some rs, some res => if fn.params.size + fn.nfree ≤ fn.ntmps then
      (cC P pol fn.ntmps b).map fun c => ⟨ps ++ List.replicate fn.nfree (.c .one), rs, pol.md, res, c⟩ else none
  | _, _, _, _ => none
end
end Ev
