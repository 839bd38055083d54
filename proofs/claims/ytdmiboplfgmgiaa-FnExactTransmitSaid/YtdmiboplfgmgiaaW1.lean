/-
  Typed data of the program's values and typed frames. Over any program. Conditions: none.
-/
import Derived.Test.YtdmiboplfgmgiaaW0
set_option linter.unusedVariables false
namespace Go.V
open Go.Ab Go.RowKit

/-- Types of data: a struct is a pair of its first field and the rest. -/
inductive Ty where
  | int (k : IntKind)
  | bool
  | str
  | sl (t : Ty)
  | pair (a b : Ty)
  deriving DecidableEq

@[reducible] def den : Ty → Type
  | .int _ => Int
  | .bool => Bool
  | .str => ByteArray
  | .sl t => List (den t)
  | .pair a b => den a × den b
/-- The cells of data. -/
def cells : (t : Ty) → den t → List T
  | .int k, x => [.lit (.int k x)]
  | .bool, x => [.lit (.bool x)]
  | .str, x => [.lit (.string x)]
  | .sl t, x => [.sl (List.map (cells t) x)]
  | .pair a b, x => cells a x.1 ++ cells b x.2
/-- The one cell of data of a simple type. -/
def leafT : (t : Ty) → den t → T
  | .int k, x => .lit (.int k x)
  | .bool, x => .lit (.bool x)
  | .str, x => .lit (.string x)
  | .sl t, x => .sl (List.map (cells t) x)
  | .pair _ _, _ => .any
def castTy (a b : Ty) (x : den a) : Option (den b) := if h : a = b then some (h ▸ x) else none

/-- A cell of a frame: data; nil; a row or a window of this frame; a pointer to a box; a pointer into data; a pointer into a row; a slice within a window's element; unknown. -/
inductive C where
  | v (t : Ty) (x : den t)
  | nil
  | row (r : Nat)
  | ptr (o off : Nat)
  | ep (t : Ty) (x : den t) (off : Nat)
  | rp (r k i off : Nat)
  | sub (r k i off : Nat) (t : Ty) (x : List (den t))
  | any
inductive A where
  | one (c : C)
  | agg (cs : List C)
/-- What a slot holds; 'un': its operation was passed over. -/
inductive S where
  | val (x : A)
  | tup (xs : List A)
  | un
/-- An object of a frame: a variable in memory; a row that the frame may append to; a window: a slice all of whose memory the frame may write. -/
inductive O where
  | box (cs : List C)
  | row (e k : Nat) (t : Ty) (l : List (den t)) (deep : Bool)
  | win (k : Nat) (t : Ty) (l : List (den t))
/-- A frame: each slot and each object with the number of its last change. -/
structure F where
  ctr : Nat
  fr : List (Nat × Nat × S)
  ob : List (Nat × Nat × O)

def split : (t : Ty) → den t → List C
  | .int k, x => [.v (.int k) x]
  | .bool, x => [.v .bool x]
  | .str, x => [.v .str x]
  | .sl t, x => [.v (.sl t) x]
  | .pair a b, x => split a x.1 ++ split b x.2
def A.cells : A → List C
  | .one c => [c]
  | .agg cs => cs

def F.look (f : F) (s : Nat) : Option S := (f.fr.find? fun e => e.1 == s).map (·.2.2)
def F.obj (f : F) (o : Nat) : Option O := (f.ob.find? fun e => e.1 == o).map (·.2.2)
def F.put (f : F) (d : Option Nat) (x : S) : F :=
  match d with
  | some d => ⟨f.ctr + 1, (d, f.ctr, x) :: f.fr.filter (fun e => e.1 != d), f.ob⟩
  | none => f
def constS : Value → Option S
  | .int k n => if plain (.int k n) then some (.val (.one (.v (.int k) n))) else none
  | .bool b => some (.val (.one (.v .bool b)))
  | .string s => if plain (.string s) then some (.val (.one (.v .str s))) else none
  | .slice none 0 0 => some (.val (.one .nil))
  | _ => none
def F.get (f : F) : Operand → Option S
  | .tmp t => f.look t
  | .const v => constS v
  | _ => none
def F.getC (f : F) (x : Operand) : Option C :=
  match f.get x with
  | some (.val (.one c)) => some c
  | _ => none

/-- A cell as data. -/
def F.data (f : F) (t : Ty) : C → Option (den t)
  | .v t' x => castTy t' t x
  | .nil => match t with
    | .sl _ => some []
    | _ => none
  | .row r => match f.obj r with
    | some (.row _ _ t' l _) => castTy (.sl t') t l
    | some (.win _ t' l) => castTy (.sl t') t l
    | _ => none
  | .sub _ _ _ _ t' l => castTy (.sl t') t l
  | _ => none
/-- Cells as data, and what is left of them. -/
def F.dataL (f : F) : (t : Ty) → List C → Option (den t × List C)
  | .pair a b, cs => match F.dataL f a cs with
    | some (x, cs1) => match F.dataL f b cs1 with
      | some (y, cs2) => some ((x, y), cs2)
      | none => none
    | none => none
  | .int k, c :: cs => (f.data (.int k) c).map fun x => (x, cs)
  | .bool, c :: cs => (f.data .bool c).map fun x => (x, cs)
  | .str, c :: cs => (f.data .str c).map fun x => (x, cs)
  | .sl t, c :: cs => (f.data (.sl t) c).map fun x => (x, cs)
  | _, [] => none

/-! ### objects -/
def C.names (d : Nat) : C → Bool
  | .row r => r == d
  | .ptr o _ => o == d
  | .rp r _ _ _ => r == d
  | .sub r _ _ _ _ _ => r == d
  | _ => false
def A.names (d : Nat) : A → Bool
  | .one c => c.names d
  | .agg cs => cs.any (C.names d)
def S.names (d : Nat) : S → Bool
  | .val x => x.names d
  | .tup xs => xs.any (A.names d)
  | .un => false
def O.names (d : Nat) : O → Bool
  | .box cs => cs.any (C.names d)
  | _ => false
def scrubC (d : Nat) (c : C) : C := if c.names d then .any else c
def O.scrub (d : Nat) : O → O
  | .box cs => .box (cs.map (scrubC d))
  | x => x
/-- Forget all that names object d. -/
def F.scrub (f : F) (d : Nat) : F :=
  ⟨f.ctr + 1, f.fr.filter (fun e => !e.2.2.names d), (f.ob.filter fun e => e.1 != d).map fun e => if e.2.2.names d then (e.1, f.ctr, e.2.2.scrub d) else e⟩
/-- A new object d. -/
def F.add (f : F) (d : Nat) (o : O) : F := ⟨(f.scrub d).ctr + 1, (f.scrub d).fr, (d, (f.scrub d).ctr, o) :: (f.scrub d).ob⟩
def F.newOb (f : F) (d : Nat) (o : O) (c : C) : F := (f.add d o).put (some d) (.val (.one c))
def frzC (r : Nat) (t : Ty) (l : List (den t)) : C → C
  | .row r' => if r' = r then .v (.sl t) l else .row r'
  | .rp r' k i off => if r' = r then .any else .rp r' k i off
  | .sub r' k i off t' x => if r' = r then .any else .sub r' k i off t' x
  | c => c
def A.frz (r : Nat) (t : Ty) (l : List (den t)) : A → A
  | .one c => .one (frzC r t l c)
  | .agg cs => .agg (cs.map (frzC r t l))
def S.frz (r : Nat) (t : Ty) (l : List (den t)) : S → S
  | .val x => .val (x.frz r t l)
  | .tup xs => .tup (xs.map (A.frz r t l))
  | .un => .un
def O.frz (r : Nat) (t : Ty) (l : List (den t)) : O → O
  | .box cs => .box (cs.map (frzC r t l))
  | x => x
/-- Row r is written no more: it is data. -/
def F.frzRow (f : F) (r : Nat) : F :=
  match f.obj r with
  | some (.row _ _ t l _) =>
    ⟨f.ctr + 1, f.fr.map (fun e => if e.2.2.names r then (e.1, f.ctr, e.2.2.frz r t l) else e), (f.ob.filter fun e => e.1 != r).map fun e => if e.2.2.names r then (e.1, f.ctr, e.2.2.frz r t l) else e⟩
  | _ => f
def F.frzAll (f : F) (ids : List Nat) : F := ids.foldl F.frzRow f
/-- Object o is another now. -/
def F.setOb (f : F) (o : Nat) (x : O) : F := ⟨f.ctr + 1, f.fr, f.ob.map fun e => if e.1 = o then (o, f.ctr, x) else e⟩
/-- Cells that are moved into a row: the rows that go with them; is all of it the row's own? -/
def mvC (f : F) : C → Option (List Nat × Bool)
  | .v (.sl _) _ => some ([], false)
  | .v _ _ => some ([], true)
  | .nil => some ([], true)
  | .row r => match f.obj r with
    | some (.row _ _ _ _ deep) => some ([r], deep)
    | _ => none
  | _ => none
def mvCs (f : F) : List C → Option (List Nat × Bool)
  | [] => some ([], true)
  | c :: cs => match mvC f c, mvCs f cs with
    | some (i1, d1), some (i2, d2) => some (i1 ++ i2, d1 && d2)
    | _, _ => none
/-- The type of data of fields, by the types of theirs. -/
def tysOf (g : TypeId → Option Ty) : List Field → Option Ty
  | [] => none
  | f :: fs => match g f.type with
    | some a => match fs with
      | [] => some a
      | _ :: _ => match tysOf g fs with
        | some b => some (.pair a b)
        | none => none
    | none => none
/-- The type of data of a Go type. -/
def tyOf (P : Program) : Nat → TypeId → Option Ty
  | 0 => fun _ => none
  | n + 1 => fun t =>
    match P.underlying t with
    | some (.int k) => some (.int k)
    | some .bool => some .bool
    | some .string => some .str
    | some (.slice e) => (tyOf P n e).map .sl
    | some (.struct fs) => tysOf (tyOf P n) fs.toList
    | _ => none
def flat : Ty → Bool
  | .sl _ => false
  | .pair a b => flat a && flat b
  | _ => true
def zC : Value → C
  | .int k n => if plain (.int k n) then .v (.int k) n else .any
  | .bool b => .v .bool b
  | .string s => if plain (.string s) then .v .str s else .any
  | .slice none 0 0 => .nil
  | _ => .any
def C.solid : C → Bool
  | .any => false
  | _ => true

def C.isSub : C → Bool
  | .sub _ _ _ _ _ _ => true
  | _ => false
def A.isSub : A → Bool
  | .one c => c.isSub
  | .agg cs => cs.any C.isSub
def S.isSub : S → Bool
  | .val x => x.isSub
  | .tup xs => xs.any A.isSub
  | .un => false
def O.isSub : O → Bool
  | .box cs => cs.any C.isSub
  | _ => false
def noSubC (c : C) : C := if c.isSub then .any else c
def O.noSub : O → O
  | .box cs => .box (cs.map noSubC)
  | x => x
/-- Slices within windows are no longer spoken of. -/
def F.noSubs (f : F) : F := ⟨f.ctr + 1, f.fr.filter (fun e => !e.2.2.isSub), f.ob.map fun e => if e.2.2.isSub then (e.1, f.ctr, e.2.2.noSub) else e⟩

/-! ### the state at a place of the code, by a shape -/
inductive CT where
  | var (t : Ty)
  | nil
  | row (r : Nat)
  | ptr (o off : Nat)
inductive ST where
  | keep
  | one (c : CT)
  | agg (cs : List CT)
inductive OT where
  | keep
  | box (cs : List CT)
  | row (e k : Nat) (t : Ty) (deep : Bool)
  | win (k : Nat) (t : Ty)
structure Sh where
  fr : List (Nat × ST)
  ob : List (Nat × OT)
def CT.tys : CT → List Ty
  | .var t => [t]
  | _ => []
def ST.tys : ST → List Ty
  | .keep => []
  | .one c => c.tys
  | .agg cs => cs.flatMap CT.tys
def OT.tys : OT → List Ty
  | .keep => []
  | .box cs => cs.flatMap CT.tys
  | .row _ _ t _ => [.sl t]
  | .win _ t => [.sl t]
def Sh.tys (h : Sh) : List Ty := h.fr.flatMap (·.2.tys) ++ h.ob.flatMap (·.2.tys)
/-- What varies, as one tuple. -/
@[reducible] def denV : List Ty → Type
  | [] => Unit
  | [t] => den t
  | t :: t' :: ts => den t × denV (t' :: ts)
/-- A typed value. -/
def TV : Type := (t : Ty) × den t
def toTVs : (ts : List Ty) → denV ts → List TV
  | [], _ => []
  | [t], x => [⟨t, x⟩]
  | t :: t' :: ts, x => ⟨t, x.1⟩ :: toTVs (t' :: ts) x.2
def ofTVs : (ts : List Ty) → List TV → Option (denV ts)
  | [], [] => some ()
  | [t], [x] => castTy x.1 t x.2
  | t :: t' :: ts, x :: xs => match castTy x.1 t x.2, ofTVs (t' :: ts) xs with
    | some y, some ys => some (y, ys)
    | _, _ => none
  | _, _ => none
def CT.inj : CT → List TV → Option (C × List TV)
  | .var t, x :: xs => (castTy x.1 t x.2).map fun y => (.v t y, xs)
  | .var _, [] => none
  | .nil, xs => some (.nil, xs)
  | .row r, xs => some (.row r, xs)
  | .ptr o off, xs => some (.ptr o off, xs)
def injL : List CT → List TV → Option (List C × List TV)
  | [], xs => some ([], xs)
  | c :: cs, xs => match c.inj xs with
    | some (y, ys) => match injL cs ys with
      | some (zs, us) => some (y :: zs, us)
      | none => none
    | none => none
def injFr (f : F) : List (Nat × ST) → List TV → Option (List (Nat × Nat × S) × List TV)
  | [], xs => some ([], xs)
  | (s, .keep) :: hs, xs => match f.fr.find? fun e => e.1 == s with
    | some e => match injFr f hs xs with
      | some (r, ys) => some (e :: r, ys)
      | none => none
    | none => none
  | (s, .one c) :: hs, xs => match c.inj xs with
    | some (y, ys) => match injFr f hs ys with
      | some (r, zs) => some ((s, f.ctr, .val (.one y)) :: r, zs)
      | none => none
    | none => none
  | (s, .agg cs) :: hs, xs => match injL cs xs with
    | some (y, ys) => match injFr f hs ys with
      | some (r, zs) => some ((s, f.ctr, .val (.agg y)) :: r, zs)
      | none => none
    | none => none
def injOb (f : F) : List (Nat × OT) → List TV → Option (List (Nat × Nat × O) × List TV)
  | [], xs => some ([], xs)
  | (o, .keep) :: hs, xs => match f.ob.find? fun e => e.1 == o with
    | some e => match injOb f hs xs with
      | some (r, ys) => some (e :: r, ys)
      | none => none
    | none => none
  | (o, .box cs) :: hs, xs => match injL cs xs with
    | some (y, ys) => match injOb f hs ys with
      | some (r, zs) => some ((o, f.ctr, .box y) :: r, zs)
      | none => none
    | none => none
  | (o, .row e k t deep) :: hs, x :: xs => match castTy x.1 (.sl t) x.2, injOb f hs xs with
    | some l, some (r, zs) => some ((o, f.ctr, .row e k t l deep) :: r, zs)
    | _, _ => none
  | (o, .win k t) :: hs, x :: xs => match castTy x.1 (.sl t) x.2, injOb f hs xs with
    | some l, some (r, zs) => some ((o, f.ctr, .win k t l) :: r, zs)
    | _, _ => none
  | _, _ => none
/-- The state of that shape over f, with these values. -/
def F.inj (f : F) (h : Sh) (x : denV h.tys) : Option F :=
  match injFr f h.fr (toTVs h.tys x) with
  | some (fr, xs) => match injOb f h.ob xs with
    | some (ob, []) => some ⟨f.ctr + 1, fr, ob⟩
    | _ => none
  | none => none
def CT.prj : CT → C → Option (List TV)
  | .var t, .v t' x => (castTy t' t x).map fun y => [⟨t, y⟩]
  | .var (.sl t), .nil => some [⟨.sl t, []⟩]
  | .nil, .nil => some []
  | .row r, .row r' => if r = r' then some [] else none
  | .ptr o off, .ptr o' off' => if o = o' ∧ off = off' then some [] else none
  | _, _ => none
def prjL : List CT → List C → Option (List TV)
  | [], [] => some []
  | c :: cs, x :: xs => match c.prj x, prjL cs xs with
    | some a, some b => some (a ++ b)
    | _, _ => none
  | _, _ => none
def prjFr (f g : F) : List (Nat × ST) → Option (List TV)
  | [] => some []
  | (s, h) :: hs =>
    match g.fr.find? (fun e => e.1 == s), prjFr f g hs with
    | some (_, n, x), some ys =>
      match h, x with
      | .keep, _ => match f.fr.find? fun e => e.1 == s with
        | some (_, m, _) => if m = n ∧ n < f.ctr then some ys else none
        | none => none
      | .one c, .val (.one y) => (c.prj y).map (· ++ ys)
      | .agg cs, .val (.agg zs) => (prjL cs zs).map (· ++ ys)
      | _, _ => none
    | _, _ => none
def prjOb (f g : F) : List (Nat × OT) → Option (List TV)
  | [] => some []
  | (o, h) :: hs =>
    match g.ob.find? (fun e => e.1 == o), prjOb f g hs with
    | some (_, n, x), some ys =>
      match h, x with
      | .keep, _ => match f.ob.find? fun e => e.1 == o with
        | some (_, m, _) => if m = n ∧ n < f.ctr then some ys else none
        | none => none
      | .box cs, .box zs => (prjL cs zs).map (· ++ ys)
      | .row e k t deep, .row e' k' t' l deep' => if e = e' ∧ k = k' ∧ t = t' ∧ (deep = true → deep' = true) then some (⟨.sl t', l⟩ :: ys) else none
      | .win k t, .win k' t' l => if k = k' ∧ t = t' then some (⟨.sl t', l⟩ :: ys) else none
      | _, _ => none
    | _, _ => none
/-- What varies in g, seen from f. -/
def F.prj (f g : F) (h : Sh) : Option (denV h.tys) :=
  match prjFr f g h.fr, prjOb f g h.ob with
  | some xs, some ys => ofTVs h.tys (xs ++ ys)
  | _, _ => none

/-! ### steps that forget -/
/-- Keep these slots and objects; data out of a row; another number for an object; nil as an empty row (in a slot's cell; in a box's cell). -/
inductive Wk where
  | pick (ss os : List Nat)
  | frz (r : Nat)
  | ren (d e : Nat)
  | nilS (s j a e k : Nat) (t : Ty)
  | nilB (o j a e k : Nat) (t : Ty)
def renC (d e : Nat) : C → C
  | .row r => .row (if r = d then e else r)
  | .ptr o off => .ptr (if o = d then e else o) off
  | .rp r k i off => .rp (if r = d then e else r) k i off
  | .sub r k i off t x => .sub (if r = d then e else r) k i off t x
  | c => c
def A.ren (d e : Nat) : A → A
  | .one c => .one (renC d e c)
  | .agg cs => .agg (cs.map (renC d e))
def S.ren (d e : Nat) : S → S
  | .val x => .val (x.ren d e)
  | .tup xs => .tup (xs.map (A.ren d e))
  | .un => .un
def O.ren (d e : Nat) : O → O
  | .box cs => .box (cs.map (renC d e))
  | x => x
def F.unused (f : F) (e : Nat) : Bool := (f.fr.all fun x => !x.2.2.names e) && f.ob.all fun x => x.1 != e && !x.2.2.names e
/-- Numbers of objects that a caller has given. -/
def pinned (o : Nat) : Bool := Nat.ble 1000000 o
def A.setC (x : A) (j : Nat) (c : C) : A :=
  match x with
  | .one d => if j = 0 then .one c else .one d
  | .agg cs => .agg (cs.set j c)
def tyLn : Ty → Nat
  | .pair a b => tyLn a + tyLn b
  | _ => 1
def F.wk (f : F) : Wk → Option F
  | .pick ss os => some ⟨f.ctr, f.fr.filter (fun e => ss.contains e.1), f.ob.filter fun e => os.contains e.1⟩
  | .frz r => some (f.frzRow r)
  | .ren d e => if f.unused e = true ∧ pinned d = false ∧ pinned e = false then
      some ⟨f.ctr + 1, f.fr.map (fun x => if x.2.2.names d then (x.1, f.ctr, x.2.2.ren d e) else x), f.ob.map fun x => if x.1 = d then (e, f.ctr, x.2.2.ren d e) else if x.2.2.names d then (x.1, f.ctr, x.2.2.ren d e) else x⟩ else none
  | .nilS s j a e k t =>
    match f.look s with
    | some (.val x) => match x.cells[j]? with
      | some .nil => if f.unused a = true ∧ pinned a = false ∧ 0 < k ∧ tyLn t = k then some ((⟨f.ctr + 1, f.fr, (a, f.ctr, .row e k t [] true) :: f.ob⟩ : F).put (some s) (.val (x.setC j (.row a)))) else none
      | _ => none
    | _ => none
  | .nilB o j a e k t =>
    match f.obj o with
    | some (.box cs) => match cs[j]? with
      | some .nil => if f.unused a = true ∧ pinned a = false ∧ 0 < k ∧ tyLn t = k then some ((⟨f.ctr + 1, f.fr, (a, f.ctr, .row e k t [] true) :: f.ob⟩ : F).setOb o (.box (cs.set j (.row a)))) else none
      | _ => none
    | _ => none
def F.wks (f : F) : List Wk → Option F
  | [] => some f
  | x :: xs => match f.wk x with
    | some g => g.wks xs
    | none => none

/-! ### which steps bring a state to a shape (no proof leans on this) -/
def CT.pairs : CT → C → List (Nat × Nat)
  | .row a, .row r => [(r, a)]
  | .ptr a _, .ptr o _ => [(o, a)]
  | _, _ => []
def pairsL : List CT → List C → List (Nat × Nat)
  | c :: cs, x :: xs => c.pairs x ++ pairsL cs xs
  | _, _ => []
def ST.pairs (g : F) (s : Nat) : ST → List (Nat × Nat)
  | .keep => match g.look s with
    | some (.val x) => x.cells.flatMap fun c => match c with
      | .row r => [(r, r)]
      | .ptr o _ => [(o, o)]
      | .rp r _ _ _ => [(r, r)]
      | _ => []
    | _ => []
  | .one c => match g.look s with
    | some (.val x) => pairsL [c] x.cells
    | _ => []
  | .agg cs => match g.look s with
    | some (.val x) => pairsL cs x.cells
    | _ => []
def srcOf (ps : List (Nat × Nat)) (a : Nat) : Nat := ((ps.find? fun p => p.2 == a).map (·.1)).getD a
def obPairs (g : F) : List (Nat × OT) → List (Nat × Nat) → List (Nat × Nat)
  | [], ps => ps
  | (a, .box cs) :: hs, ps => match g.obj (srcOf ps a) with
    | some (.box xs) => obPairs g hs (ps ++ pairsL cs xs)
    | _ => obPairs g hs ps
  | _ :: hs, ps => obPairs g hs ps
def CT.nils (h : Sh) (j : Nat) : CT → C → List (Nat × Nat × Nat × Nat × Ty)
  | .row a, .nil => match h.ob.find? fun e => e.1 == a with
    | some (_, .row e k t _) => [(j, a, e, k, t)]
    | _ => []
  | _, _ => []
def nilsL (h : Sh) : Nat → List CT → List C → List (Nat × Nat × Nat × Nat × Ty)
  | j, c :: cs, x :: xs => c.nils h j x ++ nilsL h (j + 1) cs xs
  | _, _, _ => []
def ST.cts : ST → List CT
  | .keep => []
  | .one c => [c]
  | .agg cs => cs
def mkWk (g : F) (h : Sh) : List Wk :=
  let ps := obPairs g h.ob (h.fr.flatMap fun e => e.2.pairs g e.1)
  let src := h.ob.map fun e => srcOf ps e.1
  let fz := (g.ob.filter fun e => match e.2.2 with
    | .row _ _ _ _ _ => !src.contains e.1 && (h.fr.any (fun s => match g.look s.1 with
      | some x => x.names e.1
      | none => false) || g.ob.any fun b => src.contains b.1 && b.2.2.names e.1)
    | _ => false).map fun e => Wk.frz e.1
  let rn := (h.ob.filter fun e => srcOf ps e.1 != e.1).map fun e => (srcOf ps e.1, e.1)
  let ns := h.fr.flatMap fun e => (match g.look e.1 with
    | some (.val x) => nilsL h 0 e.2.cts x.cells
    | _ => []).map fun (q : Nat × Nat × Nat × Nat × Ty) => Wk.nilS e.1 q.1 q.2.1 q.2.2.1 q.2.2.2.1 q.2.2.2.2
  let nb := h.ob.flatMap fun e => match e.2 with
    | .box cs => (match g.obj (srcOf ps e.1) with
      | some (.box xs) => nilsL h 0 cs xs
      | _ => []).map fun (q : Nat × Nat × Nat × Nat × Ty) => Wk.nilB e.1 q.1 q.2.1 q.2.2.1 q.2.2.2.1 q.2.2.2.2
    | _ => []
  (Wk.pick (h.fr.map (·.1)) (g.ob.map (·.1))) :: fz ++ [Wk.pick (h.fr.map (·.1)) src] ++ rn.map (fun p => Wk.ren p.1 (200000 + p.2)) ++ rn.map (fun p => Wk.ren (200000 + p.2) p.2) ++ ns ++ nb
/-- What varies in g, brought to the shape. -/
def F.fit (f g : F) (h : Sh) : Option (denV h.tys) :=
  match g.wks (mkWk g h) with
  | some g' => f.prj g' h
  | none => none
end Go.V
