/-
  What one operation makes of a typed frame, what code makes of it, what a function computes: a computed meaning, 'none' where the program would panic or the meaning does not reach. Over any program. Conditions: none.
-/
import Derived.Test.YtdmiboplfgmgiaaW1
set_option linter.unusedVariables false
namespace Go.V
open Go.Ab Go.RowKit

def nodupB (l : List Nat) : Bool :=
  match l with
  | [] => true
  | x :: xs => !xs.contains x && nodupB xs
/-- Some cells in place of others. -/
def sp {α : Type} (L : List α) (off : Nat) (cs : List α) : List α := L.take off ++ cs ++ L.drop (off + cs.length)

section
variable {R : Type}

/-! ### values -/
/-- The element at an index. -/
def idx {α : Type} (l : List α) (i : Int) : Option α := cond (decide (0 ≤ i)) l[i.toNat]? none
def kOpt {α : Type} (x : Option α) (K : α → Option R) : Option R :=
  match x with
  | some a => K a
  | none => none
def bAnd (k : IntKind) (a b : Int) : Int := k.wrap ((BitVec.ofInt k.bits a &&& BitVec.ofInt k.bits b).toNat : Int)
def bOr (k : IntKind) (a b : Int) : Int := k.wrap ((BitVec.ofInt k.bits a ||| BitVec.ofInt k.bits b).toNat : Int)
def bXor (k : IntKind) (a b : Int) : Int := k.wrap ((BitVec.ofInt k.bits a ^^^ BitVec.ofInt k.bits b).toNat : Int)
def bAndNot (k : IntKind) (a b : Int) : Int := k.wrap ((BitVec.ofInt k.bits a &&& ~~~(BitVec.ofInt k.bits b)).toNat : Int)
def shl (k : IntKind) (a b : Int) : Int := k.wrap (a * 2 ^ (min b.toNat k.bits))
def shr (k : IntKind) (a b : Int) : Int := a.fdiv (2 ^ (min b.toNat k.bits))
def intBin (op : BinOp) (k : IntKind) (a b : Int) (K : C → Option R) : Option R :=
  match op with
  | .add => K (.v (.int k) (k.wrap (a + b)))
  | .sub => K (.v (.int k) (k.wrap (a - b)))
  | .mul => K (.v (.int k) (k.wrap (a * b)))
  | .quo => cond (b == 0) none (K (.v (.int k) (k.wrap (a.tdiv b))))
  | .rem => cond (b == 0) none (K (.v (.int k) (a.tmod b)))
  | .and => K (.v (.int k) (bAnd k a b))
  | .or => K (.v (.int k) (bOr k a b))
  | .xor => K (.v (.int k) (bXor k a b))
  | .andNot => K (.v (.int k) (bAndNot k a b))
  | .eql => K (.v .bool (a == b))
  | .neq => K (.v .bool (a != b))
  | .lss => K (.v .bool (decide (a < b)))
  | .leq => K (.v .bool (decide (a ≤ b)))
  | .gtr => K (.v .bool (decide (a > b)))
  | .geq => K (.v .bool (decide (a ≥ b)))
  | _ => none
def strBin (op : BinOp) (a b : ByteArray) (K : C → Option R) : Option R :=
  match op with
  | .add => cond (decide (a.size + b.size ≤ maxLen)) (K (.v .str (a ++ b))) none
  | .eql => K (.v .bool (a.toList == b.toList))
  | .neq => K (.v .bool (!(a.toList == b.toList)))
  | _ => none
def boolBin (P : Program) (op : BinOp) (t : TypeId) (a b : Bool) (K : C → Option R) : Option R :=
  match op, P.underlying t with
  | .eql, some .bool => K (.v .bool (a == b))
  | .neq, some .bool => K (.v .bool (!(a == b)))
  | _, _ => none
def cBin (P : Program) (op : BinOp) (t : TypeId) (K : C → Option R) : C → C → Option R
  | .v (.int k) a, .v (.int k') b =>
    match op with
    | .shl => cond (decide (b < 0)) none (K (.v (.int k) (shl k a b)))
    | .shr => cond (decide (b < 0)) none (K (.v (.int k) (shr k a b)))
    | _ => if k = k' then intBin op k a b K else none
  | .v .str a, .v .str b => strBin op a b K
  | .v .bool a, .v .bool b => boolBin P op t a b K
  | _, _ => none
/-- Are two cells of structs equal? -/
def eqC (P : Program) (t : TypeId) : C → C → Option Bool
  | .v (.int k) a, .v (.int k') b =>
    match P.underlying t with
    | some (.int _) => if k = k' then some (a == b) else none
    | _ => none
  | .v .bool a, .v .bool b =>
    match P.underlying t with
    | some .bool => some (a == b)
    | _ => none
  | .v .str a, .v .str b =>
    match P.underlying t with
    | some .string => some (a.toList == b.toList)
    | _ => none
  | _, _ => none
def eqFs (P : Program) (xs ys : List C) : List Field → Option Bool
  | [] => some true
  | f :: fs =>
    match xs[f.offset]?, ys[f.offset]? with
    | some x, some y =>
      match eqC P f.type x y, eqFs P xs ys fs with
      | some b, some r => if f.name = "_" then none else some (b && r)
      | _, _ => none
    | _, _ => none
def evEq (P : Program) (f : F) (op : BinOp) (t : TypeId) (x y : Operand) (K : S → Option R) : Option R :=
  match P.underlying t, f.get x, f.get y with
  | some (.struct fs), some (.val (.agg xs)), some (.val (.agg ys)) =>
    if P.stoodInHeld t = false ∧ P.eqGuardType P.depth t = false then
      match eqFs P xs ys fs.toList, op with
      | some b, .eql => K (.val (.one (.v .bool b)))
      | some b, .neq => K (.val (.one (.v .bool (!b))))
      | _, _ => none
    else none
  | _, _, _ => none
def evBin (P : Program) (f : F) (op : BinOp) (t : TypeId) (x y : Operand) (K : S → Option R) : Option R :=
  match f.getC x, f.getC y with
  | some a, some b => cBin P op t (fun c => K (.val (.one c))) a b
  | _, _ => evEq P f op t x y K

def rdC (P : Program) (t : TypeId) (off : Nat) (cs : List C) : Option A :=
  match P.info? t, P.underlying t with
  | some i, some (.struct _) => if off + i.size ≤ cs.length then some (.agg ((cs.drop off).take i.size)) else none
  | some i, some (.array _ _) => if off + i.size ≤ cs.length then some (.agg ((cs.drop off).take i.size)) else none
  | some _, some _ => cs[off]?.map .one
  | _, _ => none
/-- Slices within an element of a window. -/
def subs (r k i : Nat) : Nat → List C → List C
  | _, [] => []
  | off, .v (.sl t) x :: cs => .sub r k i off t x :: subs r k i (off + 1) cs
  | off, c :: cs => c :: subs r k i (off + 1) cs
def evLoad (P : Program) (f : F) (t : TypeId) (p : Operand) (K : S → Option R) : Option R :=
  match f.getC p with
  | some (.ptr o off) =>
    match f.obj o with
    | some (.box cs) => kOpt (rdC P t off cs) fun x => K (.val x)
    | _ => none
  | some (.ep ty x off) => kOpt (rdC P t off (split ty x)) fun x => K (.val x)
  | some (.rp r k i off) =>
    match f.obj r with
    | some (.row _ k' ty l _) => if k = k' then Option.bind l[i]? fun x => kOpt (rdC P t off (split ty x)) fun x => K (.val x) else none
    | some (.win k' ty l) => if k = k' then Option.bind l[i]? fun x => kOpt (rdC P t off (subs r k i 0 (split ty x))) fun x => K (.val x) else none
    | _ => none
  | _ => none
def evField (P : Program) (f : F) (s : TypeId) (x : Operand) (j : Nat) (K : S → Option R) : Option R :=
  match P.underlying s with
  | some (.struct fs) =>
    match fs[j]? with
    | some fd =>
      match P.info? fd.type with
      | some i =>
        if i.size = 0 then none else
        match f.getC x with
        | some (.ptr o off) => K (.val (.one (.ptr o (off + fd.offset))))
        | some (.ep t e off) => K (.val (.one (.ep t e (off + fd.offset))))
        | some (.rp r k j off) => K (.val (.one (.rp r k j (off + fd.offset))))
        | _ => none
      | none => none
    | none => none
  | _ => none
def evIndex (P : Program) (f : F) (t : TypeId) (x i : Operand) (K : S → Option R) : Option R :=
  match P.underlying t with
  | some (.slice e) =>
    match P.info? e, f.getC x, f.getC i with
    | some inf, some (.v (.sl ty) l), some (.v (.int _) n) => Option.bind (idx l n) fun x => if (split ty x).length = inf.size then K (.val (.one (.ep ty x 0))) else none
    | some inf, some (.row r), some (.v (.int _) n) =>
      match f.obj r with
      | some (.row _ k _ l _) => if k = inf.size then cond (decide (0 ≤ n)) (cond (decide (n < (l.length : Int))) (K (.val (.one (.rp r k n.toNat 0)))) none) none else none
      | some (.win k _ l) => if k = inf.size then cond (decide (0 ≤ n)) (cond (decide (n < (l.length : Int))) (K (.val (.one (.rp r k n.toNat 0)))) none) none else none
      | _ => none
    | _, _, _ => none
  | _ => none
def evLen (P : Program) (f : F) (t : TypeId) (x : Operand) (K : S → Option R) : Option R :=
  match P.underlying t, f.getC x with
  | some (.slice _), some (.v (.sl _) l) => K (.val (.one (.v (.int .i64) (l.length : Int))))
  | some (.slice _), some .nil => K (.val (.one (.v (.int .i64) (0 : Int))))
  | some (.slice _), some (.row r) =>
    match f.obj r with
    | some (.row _ _ _ l _) => K (.val (.one (.v (.int .i64) (l.length : Int))))
    | some (.win _ _ l) => K (.val (.one (.v (.int .i64) (l.length : Int))))
    | _ => none
  | some .string, some (.v .str s) => K (.val (.one (.v (.int .i64) (s.size : Int))))
  | _, _ => none
def evMM (f : F) (mx : Bool) (x y : Operand) (K : S → Option R) : Option R :=
  match f.getC x, f.getC y with
  | some (.v (.int k) a), some (.v (.int k') b) => if k = k' then K (.val (.one (.v (.int k) (if mx then (if b > a then b else a) else (if b < a then b else a))))) else none
  | _, _ => none
def evFieldV (P : Program) (f : F) (t : TypeId) (x : Operand) (j : Nat) (K : S → Option R) : Option R :=
  match P.underlying t with
  | some (.struct fs) =>
    match fs[j]?, f.get x with
    | some fd, some (.val (.agg cs)) => kOpt (rdC P fd.type fd.offset cs) fun y => K (.val y)
    | _, _ => none
  | _ => none
/-- Cells written over others. -/
def fillC (f : F) (place : Nat → Option (Nat × Nat)) : List C → List (Nat × Operand) → Option (List C)
  | cs, [] => some cs
  | cs, (i, x) :: ps =>
    match place i, f.get x with
    | some (off, size), some (.val y) => if y.cells.length = size ∧ off + size ≤ cs.length ∧ y.cells.all C.solid = true then fillC f place (sp cs off y.cells) ps else none
    | _, _ => none
def placesOf (P : Program) : List Field → Option (List (Nat × Nat))
  | [] => some []
  | f :: fs =>
    match P.info? f.type, placesOf P fs with
    | some i, some ps => some ((f.offset, i.size) :: ps)
    | _, _ => none
def evBuild (P : Program) (f : F) (t : TypeId) (ps : List (Nat × Operand)) (K : S → Option R) : Option R :=
  match P.info? t, P.underlying t with
  | some i, some (.struct fs) =>
    match i.zero, placesOf P fs.toList with
    | some z, some places => kOpt (fillC f (fun i => places[i]?) (z.cells.toList.map zC) ps) fun cs => K (.val (.agg cs))
    | _, _ => none
  | some i, some (.array _ e) =>
    match i.zero, P.info? e with
    | some z, some ie => kOpt (fillC f (fun j => some (j * ie.size, ie.size)) (z.cells.toList.map zC) ps) fun cs => K (.val (.agg cs))
    | _, _ => none
  | _, _ => none
def bndC (f : F) (dflt : Int) : Option Operand → Option Int
  | none => some dflt
  | some x =>
    match f.getC x with
    | some (.v (.int _) n) => some n
    | _ => none
def slOk (l h n : Int) : Bool := decide (0 ≤ l) && (decide (l ≤ h) && decide (h ≤ n))
def cut {α : Type} (l : List α) (lo hi : Int) : List α := (l.drop lo.toNat).take (hi - lo).toNat
def evSlice (P : Program) (f : F) (t : TypeId) (x : Operand) (lo hi : Option Operand) (K : S → Option R) : Option R :=
  match P.underlying t, f.getC x with
  | some (.slice e), some (.v (.sl ty) l) =>
    match P.info? e, bndC f 0 lo, bndC f (l.length : Int) hi with
    | some i, some a, some b => if i.size = (tyLen ty) then cond (slOk a b (l.length : Int)) (K (.val (.one (.v (.sl ty) (cut l a b))))) none else none
    | _, _, _ => none
  | some .string, some (.v .str s) =>
    match bndC f 0 lo, bndC f (s.size : Int) hi with
    | some a, some b => cond (slOk a b (s.size : Int)) (K (.val (.one (.v .str (s.extract a.toNat b.toNat))))) none
    | _, _ => none
  | _, _ => none
where
  tyLen : Ty → Nat
    | .pair a b => tyLen a + tyLen b
    | _ => 1
/-- The element at an index of cells of one simple type. -/
def litOf (t : Ty) (d : den t) : List C → Option (List (den t))
  | [] => some []
  | .v t' x :: cs => match castTy t' t x, litOf t d cs with
    | some y, some ys => some (y :: ys)
    | _, _ => none
  | _ => none
def evIdxV (P : Program) (f : F) (t : TypeId) (x i : Operand) (K : S → Option R) : Option R :=
  match P.underlying t, f.get x, f.getC i with
  | some .string, some (.val (.one (.v .str s))), some (.v (.int _) n) => Option.bind (idx s.data.toList n) fun b => K (.val (.one (.v (.int .u8) (b.toNat : Int))))
  | some (.array len e), some (.val (.agg cs)), some (.v (.int _) n) =>
    match P.info? e, P.underlying e with
    | some inf, some .string => if inf.size = 1 ∧ cs.length = len then kOpt (litOf .str ⟨#[]⟩ cs) fun l => Option.bind (idx l n) fun y => K (.val (.one (.v .str y))) else none
    | some inf, some (.int k) => if inf.size = 1 ∧ cs.length = len then kOpt (litOf (.int k) (0 : Int) cs) fun l => Option.bind (idx l n) fun y => K (.val (.one (.v (.int k) y))) else none
    | _, _ => none
  | _, _, _ => none
def toU8 (l : List Int) : List UInt8 := l.map fun n => UInt8.ofNat n.toNat
def strOf (l : List Int) : ByteArray := ⟨(toU8 l).toArray⟩
def evConv (P : Program) (f : F) (s d : TypeId) (x : Operand) (K : S → Option R) : Option R :=
  match f.getC x, P.underlying s, P.underlying d with
  | some (.v (.int _) n), some _, some (.int k) => K (.val (.one (.v (.int k) (k.wrap n))))
  | some c, some (.slice e), some .string =>
    match P.underlying e, f.data (.sl (.int .u8)) c with
    | some (.int .u8), some l => K (.val (.one (.v .str (strOf l))))
    | _, _ => none
  | _, _, _ => none
def evVal (P : Program) (f : F) (K : S → Option R) : Op → Option R
  | .move x => kOpt (f.get x) K
  | .assign x => kOpt (f.get x) K
  | .pick c x y =>
    match f.getC c with
    | some (.v .bool b) => cond b (kOpt (f.get x) K) (kOpt (f.get y) K)
    | _ => none
  | .load t p => evLoad P f t p K
  | .nilCheck x =>
    match f.getC x with
    | some (.ptr o off) => K (.val (.one (.ptr o off)))
    | some (.ep t e off) => K (.val (.one (.ep t e off)))
    | some (.rp r k i off) => K (.val (.one (.rp r k i off)))
    | _ => none
  | .binOp op t x y _ => evBin P f op t x y K
  | .unOp .not _ x =>
    match f.getC x with
    | some (.v .bool b) => K (.val (.one (.v .bool (!b))))
    | _ => none
  | .unOp .neg _ x =>
    match f.getC x with
    | some (.v (.int k) n) => K (.val (.one (.v (.int k) (k.wrap (0 - n)))))
    | _ => none
  | .convert s d x => evConv P f s d x K
  | .fieldAddr s x j => evField P f s x j K
  | .field t x j => evFieldV P f t x j K
  | .build t ps => evBuild P f t ps.toList K
  | .slice t x lo hi none => evSlice P f t x lo hi K
  | .index t x i => evIdxV P f t x i K
  | .indexAddr t x i => evIndex P f t x i K
  | .extract x i =>
    match f.get x with
    | some (.tup xs) => kOpt xs[i]? fun y => K (.val y)
    | _ => none
  | .call cl =>
    match cl.callee, cl.args.toList, cl.argTypes.toList with
    | .builtin .len, [x], [t] => evLen P f t x K
    | .builtin .max, [x, y], _ => evMM f true x y K
    | .builtin .min, [x, y], _ => evMM f false x y K
    | _, _, _ => none
  | _ => none

/-! ### memory -/
def mkOk (bytes : Nat) (n m : Int) : Bool := decide (m = n) && (decide (0 ≤ n) && (decide ((bytes : Int) * n ≤ 281474976710656) && decide (n ≤ 4611686018427387904)))
def apOk (bytes n m : Nat) : Bool := decide ((n + m) * (bytes + 1) ≤ 140737488355328)
def litEls (f : F) (k : Nat) (t : Ty) : List (Nat × Operand) → Option (List (den t) × List Nat × Bool)
  | [] => some ([], [], true)
  | (_, x) :: ps =>
    match f.get x, litEls f k t ps with
    | some (.val y), some (es, i2, d2) =>
      if y.cells.length = k then
        match f.dataL t y.cells, mvCs f y.cells with
        | some (e, []), some (i1, d1) => some (e :: es, i1 ++ i2, d1 && d2)
        | _, _ => none
      else none
    | _, _ => none
/-- What is appended: the elements; the rows that go with them; is it the row's own? -/
def apSrc (f : F) (k : Nat) (t : Ty) : C → Option (List (den t) × List Nat × Bool)
  | .nil => some ([], [], true)
  | .v t' x => (castTy t' (.sl t) x).map fun l => (l, [], flat t)
  | .row r => match f.obj r with
    | some (.row _ k' t' l deep) => if k' = k then (castTy (.sl t') (.sl t) l).map fun l => (l, [r], deep) else none
    | _ => none
  | _ => none
def evApp (P : Program) (f : F) (d : Nat) (t : TypeId) (s x : Operand) (K : F → Option R) : Option R :=
  match P.underlying t with
  | some (.slice e) =>
    match P.info? e, tyOf P 12 e with
    | some i, some ty =>
      match i.zero with
      | some z =>
        if z.cells.size = i.size ∧ 0 < i.size ∧ evSlice.tyLen ty = i.size ∧ pinned d = false then
          match f.getC s, f.getC x with
          | some cs, some cx =>
            match apSrc f i.size ty cx with
            | some (es2, ids, dp) =>
              match cs with
              | .nil => cond (apOk i.bytes 0 es2.length) (K ((f.frzAll ids).newOb d (.row e i.size ty es2 dp) (.row d))) none
              | .row r =>
                match f.obj r with
                | some (.row e1 k1 t1 l1 deep1) =>
                  match castTy (.sl t1) (.sl ty) l1 with
                  | some es1 =>
                    if e1 = e ∧ k1 = i.size ∧ r ≠ d ∧ ids.contains r = false ∧ pinned r = false then
                      cond (apOk i.bytes es1.length es2.length) (K (((f.frzAll ids).add r (.row e i.size ty (es1 ++ es2) (deep1 && dp))).put (some d) (.val (.one (.row r))))) none
                    else none
                  | none => none
                | _ => none
              | _ => none
            | none => none
          | _, _ => none
        else none
      | none => none
    | _, _ => none
  | _ => none
def evStore (P : Program) (f : F) (t : TypeId) (p x : Operand) (K : F → Option R) : Option R :=
  match f.getC p, f.get x, P.info? t with
  | some (.ptr o off), some (.val y), some inf =>
    match f.obj o with
    | some (.box cs) => if y.cells.length = inf.size ∧ off + y.cells.length ≤ cs.length ∧ y.cells.all C.solid = true then K (f.setOb o (.box (sp cs off y.cells))) else none
    | _ => none
  | some (.rp r k i off), some (.val y), some inf =>
    match f.obj r with
    | some (.row e k' ty l deep) =>
      match mvCs f y.cells with
      | some (ids, dp) =>
        if k = k' ∧ y.cells.length = inf.size ∧ off + y.cells.length ≤ k ∧ nodupB ids = true ∧ ids.contains r = false then
          if off = 0 ∧ y.cells.length = k then
            match f.dataL ty y.cells with
            | some (z, []) => cond (decide (i < l.length)) (K ((f.frzAll ids).setOb r (.row e k ty (l.set i z) (deep && dp)))) none
            | _ => none
          else Option.bind l[i]? fun el =>
            match f.dataL ty (sp (split ty el) off y.cells) with
            | some (z, []) => K ((f.frzAll ids).setOb r (.row e k ty (l.set i z) (deep && dp)))
            | _ => none
        else none
      | none => none
    | some (.win k' ty l) =>
      if k = k' ∧ y.cells.length = inf.size ∧ inf.size = 1 ∧ off < k then
        Option.bind l[i]? fun el =>
          match y.cells, (split ty el)[off]? with
          | [.v tz z], some (.v ty' _) =>
            if flat tz = true ∧ flat ty' = true then
              match f.dataL ty (sp (split ty el) off [.v tz z]) with
              | some (el', []) => K (f.setOb r (.win k ty (l.set i el')))
              | _ => none
            else none
          | _, _ => none
      else none
    | _ => none
  | _, _, _ => none
end
end Go.V
