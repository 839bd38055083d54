/-
  What operations that make or write memory, calls, regions and code make of a typed frame; what a function computes. Over any program. Conditions: none.
-/
import Derived.Test.YtdmiboplfgmgiaaW2
set_option linter.unusedVariables false
namespace Go.V
open Go.Ab Go.RowKit

section
variable {R : Type}

def evMem (P : Program) (f : F) (d : Option Nat) (K : F → Option R) : Op → Option R
  | .alloc t =>
    match d, P.info? t with
    | some d, some i =>
      match i.zero with
      | some z => if pinned d = false then K (f.newOb d (.box ((z.cells.toList.map zC).map (scrubC d))) (.ptr d 0)) else none
      | none => none
    | _, _ => none
  | .box _ x =>
    match d, f.get x with
    | some d, some (.val y) => if y.cells.all C.solid = true ∧ pinned d = false then K (f.newOb d (.box (y.cells.map (scrubC d))) (.ptr d 0)) else none
    | _, _ => none
  | .store t p x =>
    match d with
    | none => evStore P f t p x K
    | some _ => none
  | .makeSlice t x y =>
    match d, P.underlying t, f.getC x, f.getC y with
    | some d, some (.slice e), some (.v (.int _) n), some (.v (.int _) m) =>
      match P.info? e, tyOf P 12 e with
      | some i, some ty =>
        match i.zero with
        | some z =>
          match f.dataL ty (z.cells.toList.map zC) with
          | some (z0, []) => if i.size = z.cells.size ∧ 0 < i.size ∧ pinned d = false then cond (mkOk i.bytes n m) (K (f.newOb d (.row e i.size ty (List.replicate n.toNat z0) true) (.row d))) none else none
          | _ => none
        | none => none
      | _, _ => none
    | _, _, _, _ => none
  | .buildSlice t len ps =>
    match d, P.underlying t with
    | some d, some (.slice e) =>
      match P.info? e, tyOf P 12 e with
      | some i, some ty =>
        match litEls f i.size ty ps.toList with
        | some (es, ids, dp) => if 0 < i.size ∧ evSlice.tyLen ty = i.size ∧ ps.toList.map (·.1) = List.range len ∧ len * i.size ≤ 1000 ∧ i.zero.isSome = true ∧ nodupB ids = true ∧ pinned d = false then K ((f.frzAll ids).newOb d (.row e i.size ty es dp) (.row d)) else none
        | none => none
      | _, _ => none
    | _, _ => none
  | .call cl =>
    match d, cl.callee, cl.args.toList, cl.argTypes.toList with
    | some d, .builtin .append, [s, x], [t, t'] => if t = t' then evApp P f d t s x K else none
    | _, _, _, _ => none
  | _ => none

/-! ### callees -/
/-- A callee: its number, the shapes of what it takes and of what it hands back, whether the rows that it hands back are taken as windows, what it computes. -/
structure Con where
  f : FuncId
  pre : Sh
  post : Sh
  win : Bool
  sem : denV pre.tys → Option (denV post.tys)
/-- The same callee, its rows taken as windows. -/
def Con.w (c : Con) : Con := { c with win := true }
def conOf (E : List Con) (f : FuncId) : Option Con := E.find? fun c => c.f == f
def argC (f : F) : CT → C → Option (List TV)
  | .var t, c => (f.data t c).map fun x => [⟨t, x⟩]
  | _, _ => none
def argL (f : F) : List CT → List C → Option (List TV)
  | [], [] => some []
  | t :: ts, c :: cs => match argC f t c, argL f ts cs with
    | some a, some b => some (a ++ b)
    | _, _ => none
  | _, _ => none
def argS (f : F) (h : ST) (x : Operand) : Option (List TV) :=
  match h, f.get x with
  | .one t, some (.val (.one c)) => argC f t c
  | .agg ts, some (.val (.agg cs)) => argL f ts cs
  | _, _ => none
def argsOf (f : F) : Nat → List (Nat × ST) → List Operand → Option (List TV)
  | _, [], [] => some []
  | i, (j, h) :: hs, x :: xs => if i = j then match argS f h x, argsOf f (i + 1) hs xs with
      | some a, some b => some (a ++ b)
      | _, _ => none
    else none
  | _, _, _ => none
def callId (d : Nat) : Nat := 1000 + 16 * d
def F0 : F := ⟨0, [], []⟩
def CT.isSl : CT → Bool
  | .var t => !flat t
  | _ => false
def ST.isSl : ST → Bool
  | .one c => c.isSl
  | .agg cs => cs.any CT.isSl
  | .keep => false
def rowsIn : S → List Nat
  | .val x => x.cells.flatMap fun c => match c with
    | .row r => [r]
    | _ => []
  | _ => []
def rowsOf (f : F) (xs : List Operand) : List Nat := xs.flatMap fun x => match f.get x with
  | some s => rowsIn s
  | none => []
/-- A result's cell, its rows renumbered. -/
def shC (base : Nat) : C → C
  | .row r => .row (base + r)
  | c => c
def shA (base : Nat) : A → A
  | .one c => .one (shC base c)
  | .agg cs => .agg (cs.map (shC base))
def resAs : List (Nat × Nat × S) → List A
  | (_, _, .val x) :: es => x :: resAs es
  | _ => []
def resS : List A → S
  | [x] => .val x
  | xs => .tup xs
def okC (sl : Bool) (ids : List Nat) : C → Bool
  | .v t _ => sl || flat t
  | .row r => ids.contains r
  | _ => false
def okA (sl : Bool) (ids : List Nat) : A → Bool
  | .one c => okC sl ids c
  | .agg cs => cs.all (okC sl ids)
def okS (sl : Bool) (ids : List Nat) : S → Bool
  | .val x => okA sl ids x
  | _ => false
def okO (d : Nat) (e : Nat × Nat × O) : Bool :=
  match e.2.2 with
  | .row _ _ _ _ true => !pinned (callId d + e.1)
  | _ => false
/-- May what a callee hands back be taken over? -/
def okPost (sl win : Bool) (d : Nat) (p : F) : Bool :=
  (p.fr.map (·.1) == List.range p.fr.length) && (nodupB (p.ob.map (·.1)) && (p.ob.all (okO d) && (p.fr.all (fun e => okS sl (p.ob.map (·.1)) e.2.2) && !(sl && win))))
def takeO (win : Bool) : O → O
  | .row e k t l deep => cond win (.win k t l) (.row e k t l deep)
  | x => x
/-- The rows that a callee has made are the frame's. -/
def adopt (d : Nat) (win : Bool) (f : F) : List (Nat × Nat × O) → F
  | [] => f
  | e :: es => adopt d win (f.add (callId d + e.1) (takeO win e.2.2)) es
/-- A callee that takes data. -/
def evCall1 (c : Con) (f : F) (d : Option Nat) (xs : List Operand) (K : F → Option R) : Option R :=
  match d with
  | some d =>
    if c.post.fr.any (·.2.isSl) = true ∧ (rowsOf f xs).isEmpty = false then none else
    match argsOf f 0 c.pre.fr xs with
    | some tvs => kOpt (ofTVs c.pre.tys tvs) fun a => kOpt (F0.inj c.pre a) fun _ => Option.bind (c.sem a) fun y => kOpt (F0.inj c.post y) fun p =>
      cond (okPost (c.post.fr.any (·.2.isSl)) c.win d p) (K ((adopt d c.win f p.ob).put (some d) (resS ((resAs p.fr).map (shA (callId d)))))) none
    | none => none
  | none => none
/-- A window that a callee may write: a whole one, or a slice within an element of one. -/
inductive Tgt where
  | whole (r k : Nat) (t : Ty) (l : List (den t))
  | part (r k i off : Nat) (T : Ty) (L : List (den T)) (el : den T) (t : Ty) (l : List (den t))
def Tgt.root : Tgt → Nat
  | .whole r _ _ _ => r
  | .part r _ _ _ _ _ _ _ _ => r
def Tgt.tv : Tgt → TV
  | .whole _ _ t l => ⟨.sl t, l⟩
  | .part _ _ _ _ _ _ _ t l => ⟨.sl t, l⟩
def evTgt (f : F) (k : Nat) (t : Ty) (K : Tgt → Option R) : C → Option R
  | .row r => match f.obj r with
    | some (.win k' t' l) => if k' = k ∧ t' = t then K (.whole r k' t' l) else none
    | _ => none
  | .sub r k1 i off _ _ => match f.obj r with
    | some (.win k' T L) => if k1 = k' then Option.bind L[i]? fun el => match (split T el)[off]? with
        | some (.v (.sl t') l) => if t' = t ∧ tyLn t = k then K (.part r k' i off T L el t' l) else none
        | _ => none
      else none
    | _ => none
  | _ => none
def evTgts (f : F) : List (Nat × OT) → List (Nat × C) → (List Tgt → Option R) → Option R
  | [], [], K => K []
  | (p, .win k t) :: hs, (q, c) :: cs, K => if p = q then evTgt f k t (fun x => evTgts f hs cs fun xs => K (x :: xs)) c else none
  | _, _, _ => none
def Tgt.upd (f : F) : Tgt → O → Option F
  | .whole r k t _, .win k' t' l' => if k = k' then (castTy (.sl t') (.sl t) l').map fun y => f.setOb r (.win k t y) else none
  | .part r k i off T L el _ _, .win _ t' l' => match F0.dataL T (sp (split T el) off [.v (.sl t') l']) with
    | some (el', []) => some (f.setOb r (.win k T (L.set i el')))
    | _ => none
  | _, _ => none
def updAll (f : F) : List Tgt → List (Nat × Nat × O) → Option F
  | [], [] => some f
  | x :: xs, e :: es => match x.upd f e.2.2 with
    | some g => updAll g xs es
    | none => none
  | _, _ => none
def argWC (f : F) : CT → C → Option (List TV × List (Nat × C))
  | .var t, c => if flat t = true then (f.data t c).map fun x => ([⟨t, x⟩], []) else none
  | .row p, c => some ([], [(p, c)])
  | _, _ => none
def argWL (f : F) : List CT → List C → Option (List TV × List (Nat × C))
  | [], [] => some ([], [])
  | t :: ts, c :: cs => match argWC f t c, argWL f ts cs with
    | some (a, p), some (b, q) => some (a ++ b, p ++ q)
    | _, _ => none
  | _, _ => none
def argWS (f : F) (h : ST) (x : Operand) : Option (List TV × List (Nat × C)) :=
  match h, f.get x with
  | .one t, some (.val (.one c)) => argWC f t c
  | .agg ts, some (.val (.agg cs)) => argWL f ts cs
  | _, _ => none
def argsW (f : F) : Nat → List (Nat × ST) → List Operand → Option (List TV × List (Nat × C))
  | _, [], [] => some ([], [])
  | i, (j, h) :: hs, x :: xs => if i = j then match argWS f h x, argsW f (i + 1) hs xs with
      | some (a, p), some (b, q) => some (a ++ b, p ++ q)
      | _, _ => none
    else none
  | _, _, _ => none
def okPostW (p : F) : Bool := (p.fr.map (·.1) == List.range p.fr.length) && p.fr.all fun e => okS false [] e.2.2
/-- A callee that writes into windows. -/
def evCallW (c : Con) (f : F) (d : Option Nat) (xs : List Operand) (K : F → Option R) : Option R :=
  match d with
  | some d =>
    match argsW f 0 c.pre.fr xs with
    | some (tvs, ps) =>
      if nodupB (ps.map (·.1)) = true ∧ (ps.all fun e => pinned e.1) = true then
        evTgts f c.pre.ob ps fun ts =>
          if nodupB (ts.map Tgt.root) = true then
            kOpt (ofTVs c.pre.tys (tvs ++ ts.map Tgt.tv)) fun a => kOpt (F0.inj c.pre a) fun _ => Option.bind (c.sem a) fun y => kOpt (F0.inj c.post y) fun p =>
              if p.ob.map (·.1) = ps.map (·.1) ∧ okPostW p = true then kOpt (updAll f.noSubs ts p.ob) fun g => K (g.put (some d) (resS (resAs p.fr))) else none
          else none
      else none
    | none => none
  | none => none
def evCall (E : List Con) (f : F) (d : Option Nat) (cl : Call) (K : F → Option R) : Option R :=
  match cl.callee with
  | .value (.func g) =>
    match conOf E g with
    | some c =>
      match c.pre.ob with
      | [] => evCall1 c (if c.post.fr.any (·.2.isSl) then f.noSubs.frzAll (rowsOf f.noSubs cl.args.toList) else f.noSubs) d cl.args.toList K
      | _ => evCallW c f d cl.args.toList K
    | none => none
  | _ => none

/-! ### regions -/
/-- Is it an operation that leaves a value and nothing else? -/
def isVal : Op → Bool
  | .alloc _ => false
  | .box _ _ => false
  | .store _ _ _ => false
  | .makeSlice _ _ _ => false
  | .buildSlice _ _ _ => false
  | .call cl =>
    match cl.callee with
    | .builtin .len => true
    | .builtin .max => true
    | .builtin .min => true
    | _ => false
  | _ => true
def evAny (P : Program) (E : List Con) (f : F) (o : Oper) (K : F → Option R) : Option R :=
  cond (isVal o.op) (evVal P f (fun s => K (f.put o.dst s)) o.op)
    (match o.op with
    | .call cl =>
      match cl.callee with
      | .builtin .append => evMem P f.noSubs o.dst K o.op
      | _ => evCall E f o.dst cl K
    | _ => evMem P f.noSubs o.dst K o.op)
def inFrame (n : Nat) : Option Nat → Bool
  | some d => decide (d < n)
  | none => true
def F.setB (f : F) (d : Nat) (b : Bool) : F := f.put (some d) (.val (.one (.v .bool b)))
def evOp (P : Program) (n : Nat) (E : List Con) (ops : Array Oper) (f : F) (o : Oper) (K : F → Option R) : Option R :=
  cond (inFrame n o.dst)
  (match o.guard with
  | none => evAny P E f o K
  | some (j, want) =>
    match (ops[j]?).bind (·.dst) with
    | some d =>
      match f.look d with
      | some .un => K (f.put o.dst .un)
      | some (.val (.one (.v .bool b))) =>
        cond b
          (cond want (evAny P E (f.setB d true) o K) (K ((f.setB d true).put o.dst .un)))
          (cond want (K ((f.setB d false).put o.dst .un)) (evAny P E (f.setB d false) o K))
      | _ => none
    | none => none) none
def evOps (P : Program) (n : Nat) (E : List Con) (ops : Array Oper) : List Oper → F → (F → Option R) → Option R
  | [], f, K => K f
  | o :: os, f, K => evOp P n E ops f o fun f' => evOps P n E ops os f' K
/-- May the operation write into memory that is there? -/
def writes (E : List Con) : Op → Bool
  | .store _ _ _ => true
  | .call cl =>
    match cl.callee with
    | .builtin .len => false
    | .builtin .max => false
    | .builtin .min => false
    | .value (.func g) => match conOf E g with
      | some c => !c.pre.ob.isEmpty
      | none => true
    | _ => true
  | _ => false
def wOf (E : List Con) (ops : Array Oper) (j : Nat) : Bool :=
  match ops[j]? with
  | some o => writes E o.op
  | none => false
/-- What is appended to. -/
def appBase : Op → Option Operand
  | .call cl => match cl.callee, cl.args.toList with
    | .builtin .append, [x, _] => some x
    | _, _ => none
  | _ => none
/-- Does it make a new slice? -/
def allocs : Op → Bool
  | .makeSlice _ _ _ => true
  | .buildSlice _ _ _ => true
  | _ => false
def madeBy (ops : Array Oper) (t k : Nat) : Bool :=
  match ops[k]? with
  | some o => allocs o.op && (o.dst == some t)
  | none => false
def setsIt (ops : Array Oper) (t k : Nat) : Bool :=
  match ops[k]? with
  | some o => o.dst == some t
  | none => false
/-- Operation j appends to nil, or to what an operation makes that has not come up. -/
def zOk (ops : Array Oper) (listed : Array Bool) (j : Nat) : Bool :=
  match ops[j]? with
  | some o =>
    match appBase o.op with
    | some (.const (.slice none 0 0)) => true
    | some (.tmp t) => (List.range ops.size).any fun k => !(listed.getD k true) && (madeBy ops t k && ((o.after.any fun e => Region.binds .any e && e.on == k) && (List.range ops.size).all fun q => q == k || !setsIt ops t q))
    | _ => false
  | none => false
/-- Does operation k wait for i or for one of D? -/
def depOn (ops : Array Oper) (i : Nat) (D : List Nat) (k : Nat) : Bool :=
  match ops[k]? with
  | some o => o.after.any fun e => Region.binds .any e && (e.on == i || D.contains e.on)
  | none => false
/-- What waits for i, through others too. -/
def wdeps (ops : Array Oper) (listed : Array Bool) (i : Nat) : List Nat → List Nat → List Nat
  | [], D => D
  | k :: ks, D => wdeps ops listed i ks (cond (!(listed.getD k true) && depOn ops i D k) (k :: D) D)
/-- Everything that writes and has not come up waits for i. -/
def waitB (E : List Con) (ops : Array Oper) (listed : Array Bool) (i : Nat) : Bool :=
  (List.range ops.size).all fun j => !wOf E ops j || (listed.getD j true || ((wdeps ops listed i (List.range ops.size) []).contains j || zOk ops listed j))
def mayFirst (E : List Con) (ops : Array Oper) (listed : Array Bool) (i : Nat) (o : Oper) : Bool :=
  (Region.ready .any ops listed == [i]) || ((Region.ready .any ops listed).contains i && (Region.free .any ops listed i && (waitB E ops listed i && isVal o.op)))
/-- Orders of a region's operations. -/
inductive Ord where
  | z
  | op (i : Nat) (o : Ord)
  | alt (i : Nat) (o m : Ord)
def Ord.heads : Ord → List Nat
  | .alt i _ m => i :: m.heads
  | _ => []
open Classical in
/-- Two ways to one result. -/
noncomputable def both (x y : Option R) : Option R := Option.bind x fun r => if y = some r then some r else none
noncomputable def evDraw (P : Program) (n : Nat) (E : List Con) (ops : Array Oper) : Bool → Ord → Array Bool → F → (F → Option R) → Option R
  | b, .z, listed, f, K => cond b none (cond ((Region.ready .any ops listed).isEmpty) (K f) none)
  | b, .op i o, listed, f, K => cond b none
    (match ops[i]? with
    | some oi => cond (mayFirst E ops listed i oi) (evOp P n E ops f oi fun f' => evDraw P n E ops false o (listed.setIfInBounds i true) f' K) none
    | none => none)
  | b, .alt i o m, listed, f, K => cond (b || (Region.ready .any ops listed == i :: m.heads))
    (match ops[i]? with
    | some oi => match m with
      | .z => evOp P n E ops f oi fun f' => evDraw P n E ops false o (listed.setIfInBounds i true) f' K
      | m => both (evOp P n E ops f oi fun f' => evDraw P n E ops false o (listed.setIfInBounds i true) f' K) (evDraw P n E ops true m listed f K)
    | none => none) none
/-- Orders: values as soon as they may come up; all orders where none may be first. -/
def ordOf (E : List Con) (ops : Array Oper) : Nat → Array Bool → Ord
  | 0 => fun _ => .z
  | k + 1 => fun listed =>
    match (Region.ready .any ops listed).find? (fun i => match ops[i]? with
      | some o => mayFirst E ops listed i o
      | none => false) with
    | some i => .op i (ordOf E ops k (listed.setIfInBounds i true))
    | none => (Region.ready .any ops listed).foldr (fun i m => .alt i (ordOf E ops k (listed.setIfInBounds i true)) m) .z

/-! ### code -/
/-- Hints for a walk: shapes at loops and where ways meet. -/
inductive Plan where
  | z
  | seq (p q : Plan)
  | cond (p q : Plan)
  | block (p : Plan)
  | loop (h : Sh) (p : Plan)
  | cut (h : Sh) (p q : Plan)
  | cutR (h : Sh) (p q : Plan)
def Plan.l : Plan → Plan
  | .seq p _ => p
  | .cond p _ => p
  | .block p => p
  | .loop _ p => p
  | .cut _ p _ => p
  | .cutR _ p _ => p
  | .z => .z
def Plan.r : Plan → Plan
  | .seq _ q => q
  | .cond _ q => q
  | .cut _ _ q => q
  | .cutR _ _ q => q
  | _ => .z

def iterM {σ R : Type} (step : σ → Option (σ ⊕ R)) : Nat → σ → Option R
  | 0, _ => none
  | n + 1, s => (step s).bind (Sum.elim (iterM step n) some)
open Classical in
/-- A loop: rounds until one hands over a result. -/
noncomputable def loopM {σ R : Type} (step : σ → Option (σ ⊕ R)) (s : σ) : Option R :=
  if h : ∃ n, (iterM step n s).isSome = true then iterM step h.choose s else none

/-- Slots and objects are listed once, and no number of a change is to come. -/
def F.wf (f : F) : Bool := nodupB (f.fr.map (·.1)) && (nodupB (f.ob.map (·.1)) && (f.fr.all (fun e => Nat.blt e.2.1 f.ctr) && f.ob.all fun e => Nat.blt e.2.1 f.ctr))
/-- The objects of a shape are listed once. -/
def Sh.wf (h : Sh) : Bool := nodupB (h.ob.map (·.1))
noncomputable def ev (P : Program) (n : Nat) (E : List Con) : Code → {R : Type} → Plan → F → (Exit → F → Option R) → Option R
  | .skip, _, _, f, K => K .normal f
  | .ret, _, _, f, K => K .ret f
  | .exit id, _, _, f, K => K (.exit id) f
  | .region _ ops false, _, _, f, K => evOps P n E ops ops.toList f fun f' => K .normal f'
  | .region _ ops true, _, _, f, K => cond (Region.noSelect ops) (evDraw P n E ops false (ordOf E ops ops.size (Array.replicate ops.size false)) (Array.replicate ops.size false) f fun f' => K .normal f') none
  | .seq x y, _, .cut h p q, f, K => cond (f.wf && h.wf)
    (Option.bind (ev P n E x (R := denV h.tys) p f fun e g => match e with
      | .normal => f.fit g h
      | _ => none) fun s => kOpt (f.inj h s) fun g => ev P n E y q g K) none
  | .seq x y, R, .cutR h p q, f, K => cond (f.wf && h.wf)
    (Option.bind (ev P n E x (R := denV h.tys ⊕ R) p f fun e g => match e with
      | .normal => (f.fit g h).map Sum.inl
      | e => (K e g).map Sum.inr) fun s => Sum.elim (fun s => kOpt (f.inj h s) fun g => ev P n E y q g K) some s) none
  | .seq x y, _, pl, f, K => ev P n E x pl.l f fun e g => match e with
      | .normal => ev P n E y pl.r g K
      | e => K e g
  | .cond c x y, _, pl, f, K =>
    match f.getC c with
    | some (.v .bool b) => cond b (ev P n E x pl.l f K) (ev P n E y pl.r f K)
    | _ => none
  | .block id x, _, pl, f, K => ev P n E x pl.l f fun e g => match e with
      | .exit j => if j = id then K .normal g else K (.exit j) g
      | e => K e g
  | .loop x, R, .loop h p, f, K => cond (f.wf && h.wf) (kOpt (f.fit f h) fun s0 =>
      loopM (fun s => kOpt (f.inj h s) fun g => ev P n E x (R := denV h.tys ⊕ R) p g fun e g' => match e with
        | .normal => (f.fit g' h).map Sum.inl
        | e => (K e g').map Sum.inr) s0) none
  | _, _, _, _, _ => none

/-! ### functions -/
def resA1 (P : Program) (f : F) : ResultVar → Option A
  | .tmp t => match f.look t with
    | some (.val x) => some x
    | _ => none
  | .cell t ty => match f.look t with
    | some (.val (.one (.ptr o off))) => match f.obj o with
      | some (.box cs) => rdC P ty off cs
      | _ => none
    | _ => none
def resVs (P : Program) (f : F) : Nat → List ResultVar → Option (List (Nat × Nat × S))
  | _, [] => some []
  | i, r :: rs => match resA1 P f r, resVs P f (i + 1) rs with
    | some a, some xs => some ((i, f.ctr, .val a) :: xs)
    | _, _ => none
noncomputable def evFn (P : Program) (E : List Con) (fn : Func) (pl : Plan) (pre post : Sh) (x : denV pre.tys) : Option (denV post.tys) :=
  match fn.body with
  | some cd => cond (post.wf && (Nat.beq post.fr.length fn.results.size && Nat.ble pre.fr.length fn.ntmps)) (kOpt (F0.inj pre x) fun f => ev P fn.ntmps E cd pl f fun e g =>
    match e with
    | .ret => kOpt (resVs P g 0 fn.results.toList) fun rs => F0.fit ⟨g.ctr + 1, rs, g.ob⟩ post
    | .normal => kOpt (resVs P g 0 fn.results.toList) fun rs => F0.fit ⟨g.ctr + 1, rs, g.ob⟩ post
    | _ => none) none
  | none => none
end
end Go.V
